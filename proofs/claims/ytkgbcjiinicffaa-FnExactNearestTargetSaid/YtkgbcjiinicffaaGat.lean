/- Slices whose elements hold a list of rods each: gathered, read beside another row, lengthened by one. No condition. -/
import Derived.Test.YtkgbcjiinicffaaFrm
import Derived.Test.YtkgbcjiinicffaaForms
namespace Go.Proofs.Ytkgbcjiinicffaa
open Go.RowKit

/-- A list's header. -/
structure Hdr where
  a : Option Addr
  n : Nat
  c : Nat
@[reducible] def Hdr.v (h : Hdr) : Value := .slice h.a h.n h.c
def hdC (h : Hdr) : List Value := [h.v]
def frC (u l : Int) (h : Hdr) : List Value := [.int .i64 u, .int .i64 l, h.v]

/-- Cells that are only read while a row at A is gathered. -/
structure SideV (w : World) (B k : Nat) (R : Option Addr) (m : Nat) (xs : List Value) (A : Option Addr) : Prop where
  reads : Reads w B k R m xs
  off : 0 < m → Off R A
  size : B ≤ w.heap.size
section
variable {w w' : World} {B k m : Nat} {R A A' : Option Addr} {xs : List Value}
theorem SideV.later (h : SideV w B k R m xs A) (hb : Below w.heap.size w w') : SideV w' B k R m xs A := ⟨h.reads.below (hb.mono h.size), h.off, Nat.le_trans h.size hb.size⟩
theorem SideV.drewN (h : SideV w B k R m xs A) (n : Nat) : SideV (w.drewN n) B k R m xs A := ⟨h.reads.drewN n, h.off, h.size⟩
theorem SideV.pushed (h : SideV w B k R m xs A) (hp : Pushed w w' A A') : SideV w' B k R m xs A' := by
  refine ⟨⟨h.reads.1, fun hm => ?_⟩, fun hm x hx => ?_, Nat.le_trans h.size hp.grown.size⟩
  · obtain ⟨ad, e, hb, hc⟩ := h.reads.2 hm
    have ho := h.off hm ad e
    refine ⟨ad, e, hb, fun j u hu => ?_⟩
    rw [World.cell?_of_block (hp.grown.block _ (by rw [block_of_add]; have := h.size; omega) (by rw [block_of_add]; exact fun e => ho e.symm))]
    exact hc j u hu
  · have ho := h.off hm x hx
    obtain ⟨ad, e, hb, _⟩ := h.reads.2 hm
    have hx' : ad = x := by rw [e] at hx; injection hx
    subst hx'
    rcases hp.place with hpl | hpl
    · rw [hpl]; exact ho
    · rw [hpl]
      intro e'
      injection e' with e'
      have := h.size
      omega
theorem SideV.none_ (h : Reads w B k R m xs) (hB : B ≤ w.heap.size) : SideV w B k R m xs none := ⟨h, fun _ x _ => by simp, hB⟩
/-- A new block beside an older row. -/
theorem SideV.box {X : World} (cs : Array Value) (T : TypeId) (hk : cs.size = k) (hA : ∀ x, A = some x → x.block < X.heap.size) : SideV (X.alloc (.cells cs T)) (X.heap.size + 1) k (some ⟨X.heap.size, 0, none⟩) 1 cs.toList A := by
  refine ⟨⟨by simp [hk], fun _ => ⟨_, rfl, by simp, fun j u hu => ?_⟩⟩, fun _ x hx => ?_, by simp⟩
  · rw [Addr.add_lit, Nat.zero_add, World.cell?_alloc_new]
    simpa using hu
  · injection hx with hx
    subst hx
    cases A with
    | none => simp
    | some y =>
      have := hA y rfl
      intro e
      injection e with e
      have e : y.block = X.heap.size := e
      omega
end
theorem Side.raise {w : World} {B B' k m : Nat} {R A : Option Addr} {xs : List Int} (h : Side w B k R m xs A) (hB : B ≤ B') (hB' : B' ≤ w.heap.size) : Side w B' k R m xs A := ⟨h.reads.more hB, h.off, hB'⟩
theorem Side.toV {w : World} {B k m : Nat} {R A : Option Addr} {xs : List Int} (h : Side w B k R m xs A) : SideV w B k R m (xs.map (Value.int .i64)) A := ⟨h.reads, h.off, h.size⟩

/-- What has been gathered since world w0: the slice owns its elements' cells, and behind each header lies a list of rods, made since w0 too, in another block. -/
structure AccL (w0 w : World) (E k1 : Nat) (f : Hdr → List Value) (A : Option Addr) (n c : Nat) (hs : List Hdr) (rows : List (List Rod)) : Prop where
  own : w.ownsRow w0.heap.size E k1 (.slice A n c) n (hs.flatMap f)
  ext : Below w0.heap.size w0 w
  hlen : hs.length = n
  len : hs.length = rows.length
  row : ∀ (i : Nat) (h : Hdr) (r : List Rod), hs[i]? = some h → rows[i]? = some r → Side w w.heap.size 2 h.a h.n (rodF r) A
  new : ∀ (i : Nat) (h : Hdr), hs[i]? = some h → 0 < h.n → ∀ x, h.a = some x → w0.heap.size ≤ x.block
/-- The same, only read while a row at A is gathered. -/
structure SideL (w : World) (B k1 : Nat) (f : Hdr → List Value) (R : Option Addr) (m : Nat) (hs : List Hdr) (rows : List (List Rod)) (A : Option Addr) : Prop where
  outer : SideV w B k1 R m (hs.flatMap f) A
  hlen : hs.length = m
  len : hs.length = rows.length
  row : ∀ (i : Nat) (h : Hdr) (r : List Rod), hs[i]? = some h → rows[i]? = some r → Side w B 2 h.a h.n (rodF r) A
section
variable {w0 w w' : World} {E k1 : Nat} {f : Hdr → List Value} {A A' : Option Addr} {n c : Nat} {hs : List Hdr} {rows : List (List Rod)}
theorem AccL.nil (h : Below w0.heap.size w0 w) : AccL w0 w E k1 f none 0 0 [] [] :=
  ⟨World.ownsRow_nil _ _ _ _, h, rfl, rfl, fun i x r h => by simp at h, fun i x h => by simp at h⟩
theorem AccL.empty (h : Below w0.heap.size w0 w) : AccL w0 (w.alloc (.cells #[] E)) E k1 f (some ⟨w.heap.size, 0, none⟩) 0 0 [] [] :=
  ⟨World.ownsRow_made w #[] 0 h.size (by simp [maxLen]) (by simp), h.alloc h.size _, rfl, rfl, fun i x r h => by simp at h, fun i x h => by simp at h⟩
/-- One element, whose list is empty. -/
theorem AccL.one (h : Below w0.heap.size w0 w) (y : Hdr) (hy : y.n = 0) (cs : Array Value) (hcs : cs.toList = f y) (hk : cs.size = k1) : AccL w0 (w.alloc (.cells cs E)) E k1 f (some ⟨w.heap.size, 0, none⟩) 1 1 [y] [[]] := by
  refine ⟨?_, h.alloc h.size _, rfl, rfl, fun i x r h1 h2 => ?_, fun i x h1 h2 => ?_⟩
  · have := World.ownsRow_lit (base := w0.heap.size) (e := E) (size := k1) w cs 1 h.size (by simp [maxLen]) (by simp [hk])
    simpa [hcs] using this
  · match i, h1 with
    | 0, h1 =>
      obtain rfl : y = x := by simpa using h1
      obtain rfl : [] = r := by simpa using h2
      rw [hy]
      exact ⟨⟨by simp [rodF], fun h => absurd h (by omega)⟩, fun h => absurd h (by omega), Nat.le_refl _⟩
  · match i, h1 with
    | 0, h1 =>
      obtain rfl : y = x := by simpa using h1
      omega
theorem AccL.later (h : AccL w0 w E k1 f A n c hs rows) (hb : Below w.heap.size w w') : AccL w0 w' E k1 f A n c hs rows :=
  ⟨own_below h.own hb, ext_trans h.ext hb, h.hlen, h.len, fun i x r h1 h2 => ((h.row i x r h1 h2).later hb).raise hb.size (Nat.le_refl _), h.new⟩
theorem AccL.drewN (h : AccL w0 w E k1 f A n c hs rows) (m : Nat) : AccL w0 (w.drewN m) E k1 f A n c hs rows := h.later (ext_drewN (Below.refl _ _) m)
theorem AccL.lt (h : AccL w0 w E k1 f A n c hs rows) : ∀ y, A = some y → y.block < w.heap.size := fun y hy => (h.own.lt y.block (by rw [ownBlock_slice, hy]; rfl)).2
theorem AccL.ge (h : AccL w0 w E k1 f A n c hs rows) : ∀ y, A = some y → w0.heap.size ≤ y.block := fun y hy => (h.own.lt y.block (by rw [ownBlock_slice, hy]; rfl)).1
/-- From an earlier start. -/
theorem AccL.since {w1 : World} (h : AccL w0 w E k1 f A n c hs rows) (hb : Below w1.heap.size w1 w0) : AccL w1 w E k1 f A n c hs rows := by
  refine ⟨⟨h.own.1, ?_⟩, ext_trans hb h.ext, h.hlen, h.len, h.row, fun i x h1 h2 y hy => Nat.le_trans hb.size (h.new i x h1 h2 y hy)⟩
  rcases h.own.2 with h2 | ⟨g, cap, cur, hv, hg, r⟩
  · exact .inl h2
  · exact .inr ⟨g, cap, cur, hv, Nat.le_trans hb.size hg, r⟩
/-- Read beside a row that was there before. -/
theorem AccL.side (h : AccL w0 w E k1 f A n c hs rows) (hA : ∀ x, A' = some x → x.block < w0.heap.size) : SideL w w.heap.size k1 f A n hs rows A' := by
  have key : ∀ (x : Addr), w0.heap.size ≤ x.block → A'.map (·.block) ≠ some x.block := by
    intro x hx e
    cases A' with
    | none => cases e
    | some y =>
      have := hA y rfl
      injection e with e
      have e : y.block = x.block := e
      omega
  refine ⟨⟨Reads.of_own h.own, fun _ x hx => key x (h.ge x hx), Nat.le_refl _⟩, h.hlen, h.len, fun i x r h1 h2 => ?_⟩
  have hs := h.row i x r h1 h2
  exact ⟨hs.reads, fun hm y hy => key y (h.new i x h1 hm y hy), hs.size⟩
theorem AccL.pushed (h : AccL w0 w E k1 f A n c hs rows) {y : Hdr} {r : List Rod} (hy : Side w w.heap.size 2 y.a y.n (rodF r) A) (hny : 0 < y.n → ∀ x, y.a = some x → w0.heap.size ≤ x.block) {c' : Nat}
    (hown : w'.ownsRow w0.heap.size E k1 (.slice A' (n + 1) c') (n + 1) (hs.flatMap f ++ f y)) (hp : Pushed w w' A A') (hx : Below w0.heap.size w0 w') : AccL w0 w' E k1 f A' (n + 1) c' (hs ++ [y]) (rows ++ [r]) := by
  have hlen := h.len
  have hl := h.hlen
  refine ⟨by simpa [List.flatMap_append] using hown, hx, by simp [hl], by simp [hlen], fun i g s h1 h2 => ?_, fun i g h1 h2 => ?_⟩
  · by_cases hi : i < hs.length
    · rw [List.getElem?_append_left hi] at h1
      rw [List.getElem?_append_left (by omega)] at h2
      exact ((h.row i g s h1 h2).pushed hp).raise hp.grown.size (Nat.le_refl _)
    · have hi2 := (List.getElem?_eq_some_iff.1 h1).1
      rw [List.length_append, List.length_singleton] at hi2
      obtain rfl : i = hs.length := by omega
      rw [List.getElem?_append_right (Nat.le_refl _), Nat.sub_self] at h1
      rw [hlen, List.getElem?_append_right (Nat.le_refl _), Nat.sub_self] at h2
      injection h1 with h1
      injection h2 with h2
      subst h1 h2
      exact (hy.pushed hp).raise hp.grown.size (Nat.le_refl _)
  · by_cases hi : i < hs.length
    · rw [List.getElem?_append_left hi] at h1
      exact h.new i g h1 h2
    · have hi2 := (List.getElem?_eq_some_iff.1 h1).1
      rw [List.length_append, List.length_singleton] at hi2
      obtain rfl : i = hs.length := by omega
      rw [List.getElem?_append_right (Nat.le_refl _), Nat.sub_self] at h1
      injection h1 with h1
      subst h1
      exact hny h2
variable {B m : Nat} {R : Option Addr}
theorem SideL.later (h : SideL w B k1 f R m hs rows A) (hb : Below w.heap.size w w') : SideL w' B k1 f R m hs rows A := ⟨h.outer.later hb, h.hlen, h.len, fun i x r h1 h2 => (h.row i x r h1 h2).later hb⟩
theorem SideL.drewN (h : SideL w B k1 f R m hs rows A) (n : Nat) : SideL (w.drewN n) B k1 f R m hs rows A := ⟨h.outer.drewN n, h.hlen, h.len, fun i x r h1 h2 => (h.row i x r h1 h2).drewN n⟩
theorem SideL.pushed (h : SideL w B k1 f R m hs rows A) (hp : Pushed w w' A A') : SideL w' B k1 f R m hs rows A' := ⟨h.outer.pushed hp, h.hlen, h.len, fun i x r h1 h2 => (h.row i x r h1 h2).pushed hp⟩
end
/-- Number j of element i, where each has k1. -/
theorem flatMap_at {α β : Type} {f : α → List β} {k1 : Nat} (hf : ∀ x, (f x).length = k1) : ∀ {xs : List α} {i : Nat} {x : α} {j : Nat}, xs[i]? = some x → j < k1 → (xs.flatMap f)[i * k1 + j]? = (f x)[j]?
  | [], i, x, j, h, _ => by simp at h
  | y :: xs, 0, x, j, h, hj => by
    obtain rfl : y = x := by simpa using h
    rw [List.flatMap_cons, Nat.zero_mul, Nat.zero_add, List.getElem?_append_left (by rw [hf]; exact hj)]
  | y :: xs, i + 1, x, j, h, hj => by
    have ih := flatMap_at hf (xs := xs) (i := i) (x := x) (j := j) (by simpa using h) hj
    rw [List.flatMap_cons, List.getElem?_append_right (by rw [hf, Nat.succ_mul]; omega), hf, ← ih]
    congr 1
    rw [Nat.succ_mul]; omega
section
variable {w : World} {B k1 m : Nat} {f : Hdr → List Value} {A R : Option Addr} {hs : List Hdr} {rows : List (List Rod)}
/-- Element i. -/
theorem SideL.at_ (h : SideL w B k1 f R m hs rows A) (hf : ∀ x, (f x).length = k1) (hk1 : 0 < k1) {i : Nat} (hi : i < m) :
    ∃ b o y r, R = some ⟨b, o, none⟩ ∧ hs[i]? = some y ∧ rows[i]? = some r ∧ Side w B 2 y.a y.n (rodF r) A ∧ ∀ j v, (f y)[j]? = some v → w.cell? ⟨b, o + i * k1 + j, none⟩ = some v := by
  have h1 := h.hlen
  have h2 := h.len
  have hh : hs[i]? = some (hs[i]'(by omega)) := List.getElem?_eq_getElem (by omega)
  have hr : rows[i]? = some (rows[i]'(by omega)) := List.getElem?_eq_getElem (by omega)
  generalize hs[i]'(by omega) = y at hh
  obtain ⟨ad, e, _, hc⟩ := h.outer.reads.2 (by omega)
  obtain ⟨b, o, s⟩ := ad
  have hcell : ∀ j v, (f y)[j]? = some v → w.cell? ((⟨b, o, s⟩ : Addr).add (i * k1 + j)) = some v := by
    intro j v hv
    have hj : j < k1 := by have := (List.getElem?_eq_some_iff.1 hv).1; rw [hf] at this; exact this
    exact hc _ v (by rw [flatMap_at hf hh hj, hv])
  have hs0 : s = none := by
    have h0 : hs[0]? = some (hs[0]'(by omega)) := List.getElem?_eq_getElem (by omega)
    generalize hs[0]'(by omega) = y0 at h0
    have hv : (f y0)[0]? = some ((f y0)[0]'(by rw [hf]; exact hk1)) := List.getElem?_eq_getElem _
    have := World.cell?_spot (hc 0 _ (by have := flatMap_at hf h0 hk1; rw [Nat.zero_mul, Nat.zero_add] at this; rw [this, hv]))
    simpa [Addr.add] using this
  subst hs0
  refine ⟨b, o, y, _, e, hh, hr, h.row i y _ hh hr, fun j v hv => ?_⟩
  have := hcell j v hv
  rw [Addr.add_lit] at this
  rw [Nat.add_assoc]; exact this
end
section
variable {P : Program}
/-- append of one element to such a row. -/
theorem accL_app_step {t E k1 bytes : Nat} {f : Hdr → List Value} {z : Value} (ht : P.underlying t = some (.slice E)) (hi : (P.info? E).map (fun i => (i.zero, i.size, i.bytes)) = some (some z, k1, bytes)) (hz : z.cells.size = k1) (hk : 0 < k1) (hf1 : ∀ y, ∀ u ∈ f y, u.oneCell' = true)
    {ops : Array Oper} {o : Oper} {a : Act} {K : Act → World → Prop} {Q : Exit → Act → World → Prop} {F : Prop} (hgd : o.guard = none) (s x : Operand)
    (ho : o.op = .call { callee := .builtin .append, args := #[s, x], argTypes := #[t, t] })
    {w0 w : World} {A : Option Addr} {n c : Nat} {hs : List Hdr} {rows : List (List Rod)} (hs' : a.eval s = .slice A n c) (hacc : AccL w0 w E k1 f A n c hs rows)
    {B c2 : Nat} {A2 : Option Addr} {y : Hdr} {r : List Rod} (hx : a.eval x = .slice A2 1 c2) (hr : Reads w B k1 A2 1 (f y)) (hy : Side w w.heap.size 2 y.a y.n (rodF r) A) (hny : 0 < y.n → ∀ x, y.a = some x → w0.heap.size ≤ x.block)
    (h63 : n + 1 ≤ maxLen) (hbytes : (n + 1) * bytes ≤ 140737488355328)
    (h : ∀ A' c' w', AccL w0 w' E k1 f A' (n + 1) c' (hs ++ [y]) (rows ++ [r]) → Pushed w w' A A' → K (a.put o.dst (.slice A' (n + 1) c')) w') :
    if Region.wanted o (yielded ops a.tmps) = true then Oper.wp P o a w K Q else F := by
  obtain ⟨i, hi1, hi2, hi3, hi4⟩ := info_parts hi
  refine step_append_any w hgd s x t ho w0.heap.size E i z k1 bytes ht hi1 hi2 hi3 hi4 hz hk _ _ _ hs' hacc.own B A2 1 c2 _ hx hr (hf1 y) h63 hbytes hacc.ext.size ?_
  intro v' w' hown hg hbl
  obtain ⟨A', c', rfl⟩ := own_shape hown
  have hp : Pushed w w' A A' := ⟨ownBlock_slice A n c ▸ hg, by rw [← ownBlock_slice A' (n + 1) c', ← ownBlock_slice A n c]; exact hbl⟩
  exact h A' c' w' (hacc.pushed hy hny hown hp (ext_grown hacc.ext hg fun g hb => (hacc.own.lt g hb).1)) hp
end
theorem hdC_len (h : Hdr) : (hdC h).length = 1 := rfl
theorem frC_len (u l : Int) (h : Hdr) : (frC u l h).length = 3 := rfl
theorem hdC_one (h : Hdr) : ∀ u ∈ hdC h, u.oneCell' = true := by
  intro u hu
  obtain rfl : u = h.v := by simpa [hdC] using hu
  rfl
theorem frC_one (u l : Int) (h : Hdr) : ∀ z ∈ frC u l h, z.oneCell' = true := by
  intro z hz
  simp only [frC, List.mem_cons, List.not_mem_nil, or_false] at hz
  rcases hz with rfl | rfl | rfl <;> rfl
theorem infoL : (Try.prog.info? 22).map (fun i => (i.zero, i.size, i.bytes)) = some (some (.slice none 0 0), 1, 24) := by kernel_rfl
theorem infoF : (Try.prog.info? 33).map (fun i => (i.zero, i.size, i.bytes)) = some (some (.agg #[.int .i64 0, .int .i64 0, .slice none 0 0]), 3, 40) := by kernel_rfl

/-- The forms of a value, as rods. -/
def formR (lo v : Int) (u : Nat) : List Rod := if inB (v - 5 * (u : Int)) 0 lo = true then [⟨(u : Int), v - 5 * (u : Int)⟩] else []
def formsR (u l v : Int) : List Rod := (List.range (u.toNat + 1)).flatMap (formR l v)
theorem formsR_flat (u l v : Int) : rodF (formsR u l v) = formsTo l v (u.toNat + 1) := by
  have key : ∀ ns : List Nat, rodF (ns.flatMap (formR l v)) = ns.flatMap (formU l v) := by
    intro ns
    induction ns with
    | nil => rfl
    | cons a ns ih =>
      rw [List.flatMap_cons, List.flatMap_cons, rodF_app, ih]
      congr 1
      unfold formR formU
      split <;> rfl
  exact key _
theorem formsR_len (u l v : Int) : (formsR u l v).length = (formsTo l v (u.toNat + 1)).length / 2 := by
  rw [← formsR_flat, rodF_len]; omega
theorem formsR_le {u l v : Int} (h0 : 0 ≤ u) (h1 : u ≤ 2) : (formsR u l v).length ≤ 3 := by
  have := formsTo_len l v (u.toNat + 1)
  rw [formsR_len]; omega
end Go.Proofs.Ytkgbcjiinicffaa
