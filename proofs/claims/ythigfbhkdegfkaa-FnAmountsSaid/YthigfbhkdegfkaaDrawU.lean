/- The draws of chapter 7: systems, amounts. No condition. -/
import Derived.Test.YthigfbhkdegfkaaCurL
import Derived.Test.YthigfbhkdegfkaaAccV
import Derived.Test.YthigfbhkdegfkaaPrp
import Derived.Test.YthigfbhkdegfkaaHeld
import Derived.Deep.CutRange
import Derived.Deep.CutBlock
import Derived.Laws.IdiomStrings
import Derived.Laws.Concat
namespace Go.Proofs.Ythigfbhkdegfkaa
open Go.RowKit

/-- A row of one's own from block b on; a row that is read, from block b on. -/
structure AccW (w : World) (b E k : Nat) (A : Option Addr) (n c : Nat) (vs : List Value) : Prop where
  own : w.ownsRow b E k (.slice A n c) n vs
  lt : b ≤ w.heap.size
structure RowR (w : World) (b k : Nat) (A : Option Addr) (n c : Nat) (vs : List Value) : Prop where
  reads : Reads w w.heap.size k A n vs
  cap : n ≤ c
  max : c ≤ maxLen
  low : ∀ x, A = some x → b ≤ x.block
  lt : b ≤ w.heap.size
section
variable {w0 w w' : World} {b g E k n c : Nat} {A : Option Addr} {vs : List Value}
theorem AccW.acc (h : AccW w b E k A n c vs) : ∃ w0 : World, w0.heap.size = b ∧ AccV w0 w E k A n c vs := by
  obtain ⟨w0, hw0⟩ : ∃ w0 : World, w0 = { w with heap := w.heap.extract 0 b } := ⟨_, rfl⟩
  have hlt := h.lt
  have hs : w0.heap.size = b := by rw [hw0]; simp; omega
  refine ⟨w0, hs, by rw [hs]; exact h.own, ?_⟩
  rw [hs, hw0]
  refine ⟨rfl, rfl, rfl, by simp; omega, fun k hk => ?_⟩
  show w.heap[k]? = (w.heap.extract 0 b)[k]?
  rw [Array.getElem?_extract]
  simp
  omega
theorem AccW.of (h : AccV w0 w E k A n c vs) (hs : w0.heap.size = b) : AccW w b E k A n c vs := ⟨hs ▸ h.own, by have := h.ext.size; omega⟩
theorem AccW.low (h : AccW w b E k A n c vs) : ∀ x, A = some x → b ≤ x.block := fun x hx => (h.own.lt x.block (by rw [ownBlock_slice, hx]; rfl)).1
theorem AccW.kept (h : AccW w b E k A n c vs) (hg : w.grownBy w' (some g)) (hgb : g < b) : AccW w' b E k A n c vs := by
  refine ⟨h.own.kept hg ?_, Nat.le_trans h.lt hg.size⟩
  cases hv : (Value.slice A n c).ownBlock with
  | none => exact .inl rfl
  | some q => exact .inr (fun e => by have := (h.own.lt q hv).1; injection e with e; omega)
theorem AccW.later (h : AccW w b E k A n c vs) (hb : Below w.heap.size w w') : AccW w' b E k A n c vs := ⟨own_below h.own hb, Nat.le_trans h.lt hb.size⟩
theorem AccW.alloc (h : AccW w b E k A n c vs) (o : Obj) : AccW (w.alloc o) b E k A n c vs := h.later (ext_alloc (Below.refl _ _) o)
theorem AccW.cap (h : AccW w b E k A n c vs) : n ≤ c ∧ c ≤ maxLen := by
  rcases h.own.2 with ⟨h1, h2⟩ | ⟨g, cap, cur, hv, _, _, h1, h2, _⟩
  · injection h1 with _ h3 h4; subst h4; unfold maxLen; omega
  · injection hv with _ _ h3; subst h3; exact ⟨h1, h2⟩
theorem RowR.of (h : AccW w b E k A n c vs) : RowR w b k A n c vs := ⟨Reads.of_own h.own, h.cap.1, h.cap.2, h.low, h.lt⟩
theorem RowR.cut0 (h : AccW w b E k A n c vs) : RowR w b k A 0 c [] := ⟨⟨by simp, fun h => absurd h (by omega)⟩, by omega, h.cap.2, h.low, h.lt⟩
theorem RowR.later (h : RowR w b k A n c vs) (hb : Below w.heap.size w w') : RowR w' b k A n c vs := ⟨(h.reads.below hb).more hb.size, h.cap, h.max, h.low, Nat.le_trans h.lt hb.size⟩
theorem RowR.kept (h : RowR w b k A n c vs) (hg : w.grownBy w' (some g)) (hgb : g < b) : RowR w' b k A n c vs := by
  refine ⟨⟨h.reads.1, fun hn => ?_⟩, h.cap, h.max, h.low, Nat.le_trans h.lt hg.size⟩
  obtain ⟨ad, e, hlt, hc⟩ := h.reads.2 hn
  have hlo := h.low ad e
  refine ⟨ad, e, Nat.lt_of_lt_of_le hlt hg.size, fun j u hu => ?_⟩
  rw [World.cell?_of_block (hg.block _ (by rw [block_of_add]; exact hlt) (by rw [block_of_add]; intro e2; injection e2 with e2; omega))]
  exact hc j u hu
/-- A fresh block is no row of one's own from before. -/
theorem AccW.ltb (h : AccW w b E k A n c vs) : ∀ x, A = some x → x.block < w.heap.size := fun x hx => (h.own.lt x.block (by rw [ownBlock_slice, hx]; rfl)).2
theorem AccW.far (h : AccW w b E k A n c vs) (g j : Nat) (hne : ∀ x, A = some x → x.block ≠ g) (v : Value) : AccW (w.setCell ⟨g, j, none⟩ v) b E k A n c vs := by
  refine ⟨h.own.kept (grown_set w ⟨g, j, none⟩ v) ?_, by have := h.lt; simpa [World.setCell] using this⟩
  rw [ownBlock_slice]
  cases A with
  | none => exact .inl rfl
  | some x => exact .inr (fun e => hne x rfl (Option.some.inj e))
end
theorem untF_one : ∀ (us : List Unt), ∀ u ∈ untF us, u.oneCell' = true
  | [], u, h => by simp [untF] at h
  | x :: us, u, h => by
    have e : untF (x :: us) = x.cs ++ untF us := rfl
    rw [e] at h
    rcases List.mem_append.1 h with h | h
    · simp only [Unt.cs, List.mem_cons, List.not_mem_nil, or_false] at h
      rcases h with rfl | rfl <;> rfl
    · exact untF_one us u h
theorem untF_set : ∀ (us : List Unt) (k : Nat) (s : ByteArray) (z : Int), ((untF us).set (k * 2) (.string s)).set (k * 2 + 1) (.int .i64 z) = untF (us.set k ⟨s, z⟩)
  | [], k, s, z => by simp [untF]
  | x :: us, 0, s, z => by simp [untF, Unt.cs]
  | x :: us, k + 1, s, z => by
    have ih := untF_set us k s z
    have e : ∀ y, untF (y :: us) = [.string y.nm, .int .i64 y.sz] ++ untF us := fun y => rfl
    have e2 : untF ((x :: us).set (k + 1) ⟨s, z⟩) = [.string x.nm, .int .i64 x.sz] ++ untF (us.set k ⟨s, z⟩) := rfl
    rw [e, e2, ← ih]
    have h1 : (k + 1) * 2 = k * 2 + 1 + 1 := by omega
    rw [h1]
    rfl
theorem nm_set {us : List Unt} {k : Nat} {s : ByteArray} {z : Int} (h : ∀ x ∈ us, x.nm.size ≤ 20) (hs : s.size ≤ 20) : ∀ x ∈ us.set k ⟨s, z⟩, x.nm.size ≤ 20 := by
  intro x hx
  rcases List.mem_or_eq_of_mem_set hx with hx | rfl
  · exact h x hx
  · exact hs
theorem nm_app {us : List Unt} {s : ByteArray} {z : Int} (h : ∀ x ∈ us, x.nm.size ≤ 20) (hs : s.size ≤ 20) : ∀ x ∈ us ++ [⟨s, z⟩], x.nm.size ≤ 20 := by
  intro x hx
  rcases List.mem_append.1 hx with hx | hx
  · exact h x hx
  · obtain rfl := List.mem_singleton.1 hx
    exact hs
def isStr : Value → Bool
  | .string s => decide (s.size ≤ 20)
  | _ => false
theorem lit_strs (w : World) (T : TypeId) (cs : Array Value) (n : Nat) (hi : cs.toList.all isStr = true) (hn : n ≤ cs.size) : ∀ j, j < n → ∃ s : ByteArray, (w.alloc (.cells cs T)).cell? ⟨w.heap.size, j, none⟩ = some (.string s) ∧ s.size ≤ 20 := by
  intro j hj
  have hj' : j < cs.toList.length := by rw [Array.length_toList]; omega
  have h := List.all_eq_true.1 hi _ (List.getElem_mem hj')
  rw [World.cell?_alloc_new]
  have e : cs[j]? = some (cs.toList[j]) := by simp at hj' ⊢
  rw [e]
  generalize cs.toList[j] = v at h
  cases v with
  | string s => exact ⟨s, rfl, by simpa [isStr] using h⟩
  | _ => simp [isStr] at h
set_option maxHeartbeats 2000000 in
theorem of_any (g t : Nat) (ht : t ≤ 10000000000) (b n c : Nat) (w : World) (h : CurOk w g t) (hbg : b ≠ g) (hi : ∀ j, j < n → ∃ s : ByteArray, w.cell? ⟨b, j, none⟩ = some (.string s) ∧ s.size ≤ 20) (hn : 0 < n) (hn' : n ≤ 1000000) :
    Calls Try.prog 56 #[.pointer (some ⟨g, 0, none⟩), .slice (some ⟨b, 0, none⟩) n c] w fun e w' => ∃ s : ByteArray, e = .returned (.string s) ∧ s.size ≤ 20 ∧ CurOk w' g (t + 2) ∧ w.grownBy w' (some g) := by
  have H := Lib.hid h
  have HI := Lib.hid hi
  clear h hi
  have hlt' : (1 : Int) ≤ n := by omega
  go_enter Try.func56, Try.ntmps56
  go_wp2_with fail
  refine (pick_any g t (by omega) n (by omega) _ H.out).mono ?_
  rintro e w1 ⟨x, rfl, x0, x1, hc1, hg1⟩
  have hx : x < (n : Int) := by omega
  obtain ⟨z, hz, hzs⟩ := HI.out x.toNat (by omega)
  have hbl : b < w.heap.size := World.block_lt_of_cell? _ _ hz
  have hcell : w1.cell? ⟨b, x.toNat, none⟩ = some (.string z) := (World.cell?_of_block (hg1.block b hbl (by intro e; injection e with e; exact hbg e))).trans hz
  clear hz
  go_wp2_with fail
  go_ret
  exact ⟨z, rfl, hzs, hc1, hg1⟩
theorem infoU : (Try.prog.info? 52).map (fun i => (i.zero, i.size, i.bytes)) = some (some (.agg #[.string ⟨#[]⟩, .int .i64 0]), 2, 24) := by kernel_rfl
/-- append to a slice of units. -/
theorem appU {ops : Array Oper} {rest : List Oper} {o : Oper} {a : Act} {Q : Exit → Act → World → Prop} (hgd : o.guard = none) (s x : Operand)
    (ho : o.op = .call { callee := .builtin .append, args := #[s, x], argTypes := #[31, 31] })
    {w0 w : World} {A : Option Addr} {n c : Nat} {us : List Unt} (hs : a.eval s = .slice A n c) (hacc : AccV w0 w 52 2 A n c (untF us))
    {B m c2 : Nat} {A2 : Option Addr} {news : List Unt} (hx : a.eval x = .slice A2 m c2) (hr : Reads w B 2 A2 m (untF news)) (hb : n + m ≤ 1099511627776)
    (h : ∀ A' c' w', AccV w0 w' 52 2 A' (n + m) c' (untF (us ++ news)) → Pushed w w' A A' → wpList Try.prog ops Q rest (a.put o.dst (.slice A' (n + m) c')) w') : wpList Try.prog ops Q (o :: rest) a w :=
  accV_app Try.underlying31 infoU rfl (by decide) hgd s x ho hs hacc hx hr (untF_one _) (by unfold maxLen; omega) (by omega) (by simpa [untF_app] using h)
theorem appU_step {ops : Array Oper} {o : Oper} {a : Act} {K : Act → World → Prop} {Q : Exit → Act → World → Prop} {F : Prop} (hgd : o.guard = none) (s x : Operand)
    (ho : o.op = .call { callee := .builtin .append, args := #[s, x], argTypes := #[31, 31] })
    {w0 w : World} {A : Option Addr} {n c : Nat} {us : List Unt} (hs : a.eval s = .slice A n c) (hacc : AccV w0 w 52 2 A n c (untF us))
    {B m c2 : Nat} {A2 : Option Addr} {news : List Unt} (hx : a.eval x = .slice A2 m c2) (hr : Reads w B 2 A2 m (untF news)) (hb : n + m ≤ 1099511627776)
    (h : ∀ A' c' w', AccV w0 w' 52 2 A' (n + m) c' (untF (us ++ news)) → Pushed w w' A A' → K (a.put o.dst (.slice A' (n + m) c')) w') :
    if Region.wanted o (yielded ops a.tmps) = true then Oper.wp Try.prog o a w K Q else F :=
  accV_app_step Try.underlying31 infoU rfl (by decide) hgd s x ho hs hacc hx hr (untF_one _) (by unfold maxLen; omega) (by omega) (by simpa [untF_app] using h)
def namesA : Array Value := #[.string ⟨#[99, 117, 112]⟩, .string ⟨#[112, 111, 117, 110, 100]⟩, .string ⟨#[115, 116, 111, 110, 101]⟩, .string ⟨#[98, 97, 108, 101]⟩]
theorem names_at {k : Nat} (hk : k < 4) : ∃ s : ByteArray, namesA[k]? = some (.string s) ∧ s.size ≤ 20 := by
  match k, hk with
  | 0, _ => exact ⟨_, rfl, by decide⟩
  | 1, _ => exact ⟨_, rfl, by decide⟩
  | 2, _ => exact ⟨_, rfl, by decide⟩
  | 3, _ => exact ⟨_, rfl, by decide⟩
  | k + 4, h => omega
/-- What the cursor and the row do when an element is appended. -/
theorem push_cur {w X Y : World} {g t : Nat} {A A' : Option Addr} (hc : CurOk X g t) (hg : w.grownBy X (some g)) (hgw : g < w.heap.size) (hp : Pushed X Y A A') (hlow : ∀ x, A = some x → w.heap.size ≤ x.block) : CurOk Y g t ∧ w.grownBy Y (some g) := by
  have hr : ∀ b, A.map (·.block) = some b → w.heap.size ≤ b := by
    intro b hb
    cases A with
    | none => cases hb
    | some x => injection hb with hb; exact hb ▸ hlow x rfl
  exact ⟨hc.grown hp.grown (fun b hb => by have := hr b hb; omega), grownBy_row hg hp.grown hr⟩
theorem grownBy_any_row {w X Y : World} {g : Nat} (h : w.grownBy X (some g)) (hb : Below X.heap.size X Y) : w.grownBy Y (some g) := grownBy_trans h (below_any hb _)
set_option maxRecDepth 100000 in
set_option maxHeartbeats 16000000 in
theorem system7_any (g t : Nat) (ht : t ≤ 1000000) (w : World) (h : CurOk w g t) :
    Calls Try.prog 51 #[.pointer (some ⟨g, 0, none⟩)] w fun e w' => ∃ (A : Option Addr) (n c : Nat) (us : List Unt), e = .returned (.slice A n c) ∧ RowR w' w.heap.size 2 A n c (untF us) ∧ n ≤ 8 ∧ (∀ x ∈ us, x.nm.size ≤ 20) ∧ CurOk w' g (t + 100) ∧ w.grownBy w' (some g) := by
  have hgw := h.lt
  have hc0 := (h.alloc (.cells #[.string ⟨#[103, 114, 97, 105, 110]⟩, .int .i64 1] 52)).alloc (.cells namesA 9)
  have hA0 : AccW ((w.alloc (.cells #[.string ⟨#[103, 114, 97, 105, 110]⟩, .int .i64 1] 52)).alloc (.cells namesA 9)) w.heap.size 52 2 (some ⟨w.heap.size, 0, none⟩) 1 1 (untF [⟨⟨#[103, 114, 97, 105, 110]⟩, 1⟩]) :=
    AccW.alloc ⟨World.ownsRow_lit w #[.string ⟨#[103, 114, 97, 105, 110]⟩, .int .i64 1] 1 (Nat.le_refl _) (by decide) rfl, by simp⟩ _
  have hN0 := Blk.new (w.alloc (.cells #[.string ⟨#[103, 114, 97, 105, 110]⟩, .int .i64 1] 52)) 9 namesA
  rw [show (w.alloc (.cells #[.string ⟨#[103, 114, 97, 105, 110]⟩, .int .i64 1] 52)).heap.size = w.heap.size + 1 by simp] at hN0
  have hg0 := grownBy_any_row (World.grownBy.refl w (some g)) (ext_alloc (ext_alloc (Below.refl w.heap.size w) (.cells #[.string ⟨#[103, 114, 97, 105, 110]⟩, .int .i64 1] 52)) (.cells namesA 9))
  generalize hw0 : (w.alloc (.cells #[.string ⟨#[103, 114, 97, 105, 110]⟩, .int .i64 1] 52)).alloc (.cells namesA 9) = w0 at hc0 hA0 hN0 hg0
  have HW0 := Lib.hid hw0
  have H0 := Lib.hid hc0
  have HA0 := Lib.hid hA0
  have HN0 := Lib.hid hN0
  have G0 := Lib.hid hg0
  clear h hc0 hA0 hN0 hg0 hw0
  go_enter Try.func51, Try.ntmps51
  go_upto_block 0 with fail
  have hwe := HW0.out
  unfold namesA at hwe
  rw [hwe]
  clear hwe
  go_cut [3, 5] from 11 to 32 (fun q q2 wx => ∃ (m c : Nat) (A : Option Addr) (us : List Unt) (t' : Nat) (i : Int), q = .slice A m c ∧ q2 = .int .i64 i ∧ 1 ≤ m ∧ m ≤ 5 ∧ AccW wx w.heap.size 52 2 A m c (untF us) ∧ CurOk wx g t' ∧ t' ≤ t + 20 ∧ w.grownBy wx (some g) ∧ ∀ x ∈ us, x.nm.size ≤ 20)
  case first =>
    go_wp2_with fail
    go_loopw [3, 5] (fun q i wr => ∃ (k m c : Nat) (A : Option Addr) (us : List Unt) (t' : Nat), i = .int .i64 (k : Int) ∧ k ≤ 4 ∧ q = .slice A m c ∧ m = k + 1 ∧ AccW wr w.heap.size 52 2 A m c (untF us) ∧ Blk wr (w.heap.size + 1) 9 namesA ∧ CurOk wr g t' ∧ t' ≤ t + 4 * k ∧ w.grownBy wr (some g) ∧ ∀ x ∈ us, x.nm.size ≤ 20) (fun _ i _ => 4 - (intOf i).toNat)
    case atStart => exact ⟨0, 1, 1, _, _, t, rfl, by omega, rfl, rfl, HA0.out, HN0.out, H0.out, by omega, G0.out, by intro x hx; obtain rfl := List.mem_singleton.1 hx; decide⟩
    case round =>
      obtain ⟨wo, rfl⟩ : ∃ wo : World, wo = wr := ⟨_, rfl⟩
      obtain ⟨k, m, c, A, us, t', rfl, hk, rfl, rfl, ha, hn, hc, ht', hg, hnm⟩ := hrel
      have H2 := Lib.hid hc
      have HA2 := Lib.hid ha
      have HN2 := Lib.hid hn
      have G2 := Lib.hid hg
      have HNM := Lib.hid hnm
      have k0 : (0 : Int) ≤ k := by omega
      clear ha hc hg hn hnm
      by_cases hlt : k < 4
      · have k1 : (k : Int) < 4 := by omega
        go_wp2_with fail
        refine (one_any g t' (by omega) 3 (by omega) _ H2.out).mono ?_
        rintro e w3 ⟨b, rfl, hc, hg⟩
        have H3 := Lib.hid (hc.up (show t' + 2 ≤ t' + 2 from Nat.le_refl _))
        have HA3 := Lib.hid (HA2.out.kept hg hgw)
        have HN3 := Lib.hid (HN2.out.grown hg (by intro e; injection e with e; omega))
        have G3 := Lib.hid (grownBy_trans G2.out hg)
        clear hc hg
        cases b
        rotate_left
        · go_wp2_with fail
          go_meet
          exact ⟨k + 1, c, A, us, _, _, rfl, rfl, by omega, by omega, HA3.out, H3.out, by omega, G3.out, HNM.out⟩
        obtain ⟨s, hsn, hss⟩ := names_at hlt
        have C0 := Lib.hid (show w3.cell? ⟨w.heap.size + 1, k, none⟩ = some (.string s) from (HN3.out.cell k).trans hsn)
        have bX0 : Below w3.heap.size w3 w3.drew := ext_drew (Below.refl _ _)
        have hgw1 : g ≠ w.heap.size + 1 := by omega
        generalize hT : t' + 2 = t' at H3
        go_wp2_with fail
        refine wp_region_held_drew (S := (fun W => W.cell? ⟨w.heap.size + 1, k, none⟩ = some (.string s))) (by kernel_rfl) ?_ (fun hHeld => ?_)
        · (try dsimp only); exact below_cell bX0 C0.out
        obtain ⟨X0, hX0⟩ : ∃ X, X = World.drew w3 := ⟨_, rfl⟩
        rw [← hX0]
        try rw [← hX0] at hHeld
        have bX : Below w3.heap.size w3 X0 := hX0 ▸ bX0
        have aX0 := HA3.out.later bX
        have nX0 := HN3.out.below bX HN3.out.lt
        have cX0 := H3.out.below bX
        have gX0 := grownBy_any_row G3.out bX
        clear hX0 bX0
        refine wpAnyH_takeD (i := 0) (v := ?_) 22 rfl rfl (by kernel_rfl) (by kernel_rfl) (by kernel_rfl) (fun _ _ _ _ _ h => h) (by rfl) (by assumption) ?_ ?_
        rotate_left; focus (intro w hSw; (try dsimp only at hSw); go_simp; try (with_reducible rfl))
        (try simp only [Act.put]); (try simp only [List.setIfInBounds_toArray]); (try simp only [List.set_cons_succ]); (try simp only [List.set_cons_zero])
        refine wpAnyH_takeD (i := 1) (v := ?_) 23 rfl rfl (by kernel_rfl) (by kernel_rfl) (by kernel_rfl) (fun _ _ _ _ _ h => h) (by rfl) (by assumption) ?_ ?_
        rotate_left; focus (intro w hSw; (try dsimp only at hSw); go_simp; try (with_reducible rfl))
        (try simp only [Act.put]); (try simp only [List.setIfInBounds_toArray]); (try simp only [List.set_cons_succ]); (try simp only [List.set_cons_zero])
        refine wpAnyH_takeD (i := 2) (v := ?_) 24 rfl rfl (by kernel_rfl) (by kernel_rfl) (by kernel_rfl) (fun _ _ _ _ _ h => h) (by rfl) (by assumption) ?_ ?_
        rotate_left; focus (intro w hSw; (try dsimp only at hSw); go_simp; try (with_reducible rfl))
        (try simp only [Act.put]); (try simp only [List.setIfInBounds_toArray]); (try simp only [List.set_cons_succ]); (try simp only [List.set_cons_zero])
        refine wpAnyH_takeD (i := 3) (v := ?_) 25 rfl rfl (by kernel_rfl) (by kernel_rfl) (by kernel_rfl) (fun _ _ _ _ _ h => h) (by rfl) (by assumption) ?_ ?_
        rotate_left; focus (intro w hSw; (try dsimp only at hSw); go_simp; try (with_reducible rfl))
        (try simp only [Act.put]); (try simp only [List.setIfInBounds_toArray]); (try simp only [List.set_cons_succ]); (try simp only [List.set_cons_zero])
        refine wpAnyH_takeD (i := 4) (v := ?_) 26 rfl rfl (by kernel_rfl) (by kernel_rfl) (by kernel_rfl) (fun _ _ _ _ _ h => h) (by rfl) (by assumption) ?_ ?_
        rotate_left; focus (intro w hSw; (try dsimp only at hSw); go_simp; try (with_reducible rfl))
        (try simp only [Act.put]); (try simp only [List.setIfInBounds_toArray]); (try simp only [List.set_cons_succ]); (try simp only [List.set_cons_zero])
        refine wpAnyH_takeD (i := 5) (v := ?_) 27 rfl rfl (by kernel_rfl) (by kernel_rfl) (by kernel_rfl) (fun _ _ _ _ _ h => h) (by rfl) (by assumption) ?_ ?_
        rotate_left; focus (intro w hSw; (try dsimp only at hSw); go_simp; try (with_reducible rfl))
        (try simp only [Act.put]); (try simp only [List.setIfInBounds_toArray]); (try simp only [List.set_cons_succ]); (try simp only [List.set_cons_zero])
        refine wpAnyH_ready (rs := [6]) (by kernel_rfl) (by simp) ?_
        refine AllReadyH.cons rfl (fun K hK => ?_) AllReadyH.nil
        go_simp
        obtain ⟨X1, hX1⟩ : ∃ X, X = World.alloc X0 (Obj.cells #[.int .i64 2, .int .i64 12, .int .i64 16, .int .i64 100] 3) := ⟨_, rfl⟩
        rw [← hX1]
        have hbe : Below X0.heap.size X0 X1 := hX1 ▸ ext_alloc (Below.refl _ _) _
        have bX1 := ext_trans bX hbe
        have aX1 := aX0.later hbe
        have nX1 := nX0.below hbe nX0.lt
        have cX1 := cX0.below hbe
        have gX1 := grownBy_any_row gX0 hbe
        have hli := lit_ints X0 3 #[.int .i64 2, .int .i64 12, .int .i64 16, .int .i64 100] 4 rfl (by decide)
        rw [← hX1] at hli
        clear hX1 hbe
        have hne : X0.heap.size ≠ g := by have := cX0.lt; omega
        have zX := nX1.cell k
        rw [hsn] at zX
        (try dsimp only)
        refine hK.out _ _ ?_ (fun hHeld => ?_)
        focus ((try dsimp only); exact zX)
        clear hK K; (try simp only [Act.put]); (try simp only [List.setIfInBounds_toArray]); (try simp only [List.set_cons_succ]); (try simp only [List.set_cons_zero])
        refine wpAnyH_ready (rs := [7]) (by kernel_rfl) (by simp) ?_
        refine AllReadyH.cons rfl (fun K hK => ?_) AllReadyH.nil
        go_simp
        (go_at_call 53; refine (amongB_any g t' (by omega) X0.heap.size 4 4 X1 cX1 hne hli (by omega) (by omega)).mono ?_; rintro e X2 ⟨z, rfl, cX2, hg2⟩)
        have aX2 := aX1.kept hg2 hgw
        have nX2 := nX1.grown hg2 (by intro e; injection e with e; omega)
        have gX2 := grownBy_trans gX1 hg2
        have zX := nX2.cell k
        rw [hsn] at zX
        (try dsimp only)
        refine hK.out _ _ ?_ (fun hHeld => ?_)
        focus ((try dsimp only); exact zX)
        clear hK K; (try simp only [Act.put]); (try simp only [List.setIfInBounds_toArray]); (try simp only [List.set_cons_succ]); (try simp only [List.set_cons_zero])
        refine wpAnyH_takeD (i := 8) (v := ?_) 30 rfl rfl (by kernel_rfl) (by kernel_rfl) (by kernel_rfl) (fun _ _ _ _ _ h => h) (by rfl) (by assumption) ?_ ?_
        rotate_left; focus (intro w hSw; (try dsimp only at hSw); go_simp; try (with_reducible rfl))
        (try simp only [Act.put]); (try simp only [List.setIfInBounds_toArray]); (try simp only [List.set_cons_succ]); (try simp only [List.set_cons_zero])
        refine wpAnyH_ready (rs := [9]) (by kernel_rfl) (by simp) ?_
        refine AllReadyH.cons rfl (fun K hK => ?_) AllReadyH.nil
        go_simp
        obtain ⟨X3, hX3⟩ : ∃ X, X = World.alloc X2 (Obj.cells #[.string s, .int .i64 z] 52) := ⟨_, rfl⟩
        rw [← hX3]
        have hbe : Below X2.heap.size X2 X3 := hX3 ▸ ext_alloc (Below.refl _ _) _
        have aX3 := aX2.later hbe
        have nX3 := nX2.below hbe nX2.lt
        have cX3 := cX2.below hbe
        have gX3 := grownBy_any_row gX2 hbe
        have rX3 : Reads X3 (X2.heap.size + 1) 2 (some ⟨X2.heap.size, 0, none⟩) 1 (untF [⟨s, z⟩]) := hX3 ▸ reads_newV X2 #[.string s, .int .i64 z] 52 2 _ rfl rfl
        clear hX3 hbe
        obtain ⟨w00, hs00, acc⟩ := aX3.acc
        have zX := nX3.cell k
        rw [hsn] at zX
        (try dsimp only)
        refine hK.out _ _ ?_ (fun hHeld => ?_)
        focus ((try dsimp only); exact zX)
        clear hK K; (try simp only [Act.put]); (try simp only [List.setIfInBounds_toArray]); (try simp only [List.set_cons_succ]); (try simp only [List.set_cons_zero])
        refine wpAnyH_ready (rs := [10]) (by kernel_rfl) (by simp) ?_
        refine AllReadyH.cons rfl (fun K hK => ?_) AllReadyH.nil
        refine appU_step rfl (.tmp 22) (.tmp 31) rfl rfl acc rfl rX3 (by omega) ?_
        intro A2 c2 X4 aX4 pX4
        obtain ⟨cX4, gX4⟩ := push_cur cX3 gX3 hgw pX4 aX3.low
        have nX4 := nX3.pushed pX4 (own_ne_blk aX3.own nX3 (by decide))
        have aX4' := AccW.of aX4 hs00
        have zX := nX4.cell k
        rw [hsn] at zX
        (try dsimp only)
        refine hK.out _ _ ?_ (fun hHeld => ?_)
        focus ((try dsimp only); exact zX)
        clear hK K; (try simp only [Act.put]); (try simp only [List.setIfInBounds_toArray]); (try simp only [List.set_cons_succ]); (try simp only [List.set_cons_zero])
        refine wpAnyH_takeD (i := 11) (v := ?_) 3 rfl rfl (by kernel_rfl) (by kernel_rfl) (by kernel_rfl) (fun _ _ _ _ _ h => h) (by rfl) (by assumption) ?_ ?_
        rotate_left; focus (intro w hSw; (try dsimp only at hSw); go_simp; try (with_reducible rfl))
        (try simp only [Act.put]); (try simp only [List.setIfInBounds_toArray]); (try simp only [List.set_cons_succ]); (try simp only [List.set_cons_zero])
        refine wpAnyH_done (by kernel_rfl) ?_ _
        clear hHeld
        go_wp2_with fail
        go_roundw
        case rel => exact ⟨k + 1, k + 1 + 1, c2, A2, us ++ [⟨s, z⟩], _, by go_num, by omega, rfl, by omega, aX4', nX4, cX4, by omega, gX4, nm_app HNM.out hss⟩
        case measure => simp [intOf]; omega
      · go_wp2_with fail
        go_meet
        exact ⟨k + 1, c, A, us, t', _, rfl, rfl, by omega, by omega, HA2.out, H2.out, by omega, G2.out, HNM.out⟩
  case rest =>
    obtain ⟨m, c, A, us, t', i5, rfl, rfl, hm1, hm5, ha, hc, ht', hg, hnm⟩ := hcut
    have H1 := Lib.hid hc
    have HA1 := Lib.hid ha
    have G1 := Lib.hid hg
    have HNM := Lib.hid hnm
    clear ha hc hg hnm H0 HA0 HN0 G0 HW0
    go_wp2_with fail
    refine (pick_any g t' (by omega) (m : Int) (by omega) _ H1.out).mono ?_
    rintro e w1 ⟨x, rfl, x0, x1, hc, hg⟩
    obtain ⟨X, rfl⟩ := Int.eq_ofNat_of_zero_le x0
    have hX : X < m := by omega
    have ha2 := HA1.out.kept hg hgw
    obtain ⟨r, cap, hv, hr1, hrl⟩ := ha2.own.form (by omega)
    have hA : A = some ⟨r, 0, none⟩ := by injection hv
    subst hA
    clear hv
    have hul : us.length = m := by have := ha2.own.1; rw [untF_len] at this; omega
    obtain ⟨y, hy⟩ : ∃ y, us[X]? = some y := ⟨_, List.getElem?_eq_getElem (by omega)⟩
    obtain ⟨a0, a1⟩ := untF_at hy
    have c0 := ha2.own.cellAt (X * 2) (by omega)
    have c1 := ha2.own.cellAt (X * 2 + 1) (by omega)
    rw [a0] at c0
    rw [a1] at c1
    have hys := HNM.out y (List.mem_of_getElem? hy)
    obtain ⟨ys, yz⟩ := y
    dsimp only at c0 c1 hys
    have X0 : (0 : Int) ≤ X := by omega
    have X1 : (X : Int) < m := by omega
    have hk7 := Blk.new w1 52 #[.string ys, .int .i64 yz]
    have H2 := Lib.hid (hc.alloc (.cells #[.string ys, .int .i64 yz] 52))
    have HA2 := Lib.hid (ha2.alloc (.cells #[.string ys, .int .i64 yz] 52))
    have G2 := Lib.hid (grownBy_any_row (grownBy_trans G1.out hg) (ext_alloc (Below.refl _ _) (.cells #[.string ys, .int .i64 yz] 52)))
    have hlt1 := hc.lt
    have hrb := ha2.ltb _ rfl
    have hwb := ha2.lt
    dsimp only at hrb
    obtain ⟨b7, hb7⟩ : ∃ b7, w1.heap.size = b7 := ⟨_, rfl⟩
    rw [hb7] at hk7 hlt1 hrb hwb
    generalize hw2 : w1.alloc (.cells #[.string ys, .int .i64 yz] 52) = w2 at hk7 H2 HA2 G2
    have K7 := Lib.hid hk7
    have HW2 := Lib.hid hw2
    have HB7 := Lib.hid hb7
    clear hw2 hk7 hb7 hc hg ha2 a0 a1 hy H1 HA1 G1 hul
    go_wp2_with fail
    rw [HW2.out]
    (try rw [HB7.out])
    refine (pick_any g (t' + 2) (by omega) 60 (by omega) _ H2.out).mono ?_
    rintro e w3 ⟨q, rfl, q0, q1, hc, hg⟩
    have H3 := Lib.hid hc
    have HA3 := Lib.hid (HA2.out.kept hg hgw)
    have G3 := Lib.hid (grownBy_trans G2.out hg)
    have K73 := Lib.hid (K7.out.grown hg (by intro e; injection e with e; omega))
    clear hc hg c0 c1 H2 HA2 G2 K7 HW2 HB7
    go_upto_block 2 with fail
    go_cut [3] from 43 to 76 (fun p wx => ∃ (m c : Nat) (A : Option Addr) (us : List Unt) (s : ByteArray) (z : Int), p = .slice A m c ∧ m ≤ 8 ∧ X < m ∧ AccW wx w.heap.size 52 2 A m c (untF us) ∧ Blk wx b7 52 #[.string s, .int .i64 z] ∧ s.size ≤ 20 ∧ CurOk wx g (t' + 60) ∧ w.grownBy wx (some g) ∧ (∀ x ∈ us, x.nm.size ≤ 20) ∧ ∀ y, A = some y → y.block ≠ b7)
    case first =>
      have hne7 : ∀ y, (some (⟨r, 0, none⟩ : Addr)) = some y → y.block ≠ b7 := fun y hy => by injection hy with hy; subst hy; dsimp only; omega
      by_cases hq0 : q = 0
      · subst hq0
        go_wp2_with fail
        have hne : w3.heap.size ≠ g := by have := H3.out.lt; omega
        refine (of_any g (t' + 2 + 2) (by omega) w3.heap.size 4 4 _ (H3.out.alloc _) hne (lit_strs w3 9 #[.string ⟨#[]⟩, .string ⟨#[65]⟩, .string ⟨#[103, 114, 97, 105, 110]⟩, .string ⟨#[97, 98, 99, 100, 101, 102, 103, 104, 105, 106, 107]⟩] 4 rfl (by decide)) (by omega) (by omega)).mono ?_
        rintro e w4 ⟨s, rfl, hss, hc, hg⟩
        have k7 := (K73.out.alloc (.cells #[.string ⟨#[]⟩, .string ⟨#[65]⟩, .string ⟨#[103, 114, 97, 105, 110]⟩, .string ⟨#[97, 98, 99, 100, 101, 102, 103, 104, 105, 106, 107]⟩] 9)).grown hg (by intro e; injection e with e; omega)
        have HA4 := Lib.hid ((HA3.out.alloc (.cells #[.string ⟨#[]⟩, .string ⟨#[65]⟩, .string ⟨#[103, 114, 97, 105, 110]⟩, .string ⟨#[97, 98, 99, 100, 101, 102, 103, 104, 105, 106, 107]⟩] 9)).kept hg hgw)
        have G4 := Lib.hid (grownBy_trans G3.out (grownBy_alloc_trans hg))
        have H4 := Lib.hid hc
        have d0 := k7.cell 0
        have d1 := k7.cell 1
        have f0 := k7.frozen 0
        simp only [List.getElem?_toArray, List.getElem?_cons_zero, List.getElem?_cons_succ] at d0 d1
        have K74 := Lib.hid k7
        clear hc hg k7
        go_wp2_with fail
        go_meet
        have k7 := K74.out.set_ 0 (.string s)
        simp only [List.setIfInBounds_toArray, List.set_cons_zero] at k7
        exact ⟨m, c, _, us, s, yz, rfl, by omega, hX, HA4.out.far b7 0 hne7 _, k7, hss, (H4.out.set (p := ⟨b7, 0, none⟩) hlt1 _).up (by omega), grownBy_set G4.out (p := ⟨b7, 0, none⟩) hwb _, HNM.out, hne7⟩
      have m0 : (q == 0) = false := beq_eq_false_iff_ne.2 hq0
      clear hq0
      by_cases hq1 : q = 1
      · subst hq1
        go_wp2_with fail
        have hne : w3.heap.size ≠ g := by have := H3.out.lt; omega
        refine (amongB_any g (t' + 2 + 2) (by omega) w3.heap.size 3 3 _ (H3.out.alloc _) hne (lit_ints w3 3 #[.int .i64 0, .int .i64 1, .int .i64 101] 3 rfl (by decide)) (by omega) (by omega)).mono ?_
        rintro e w4 ⟨z, rfl, hc, hg⟩
        have k7 := (K73.out.alloc (.cells #[.int .i64 0, .int .i64 1, .int .i64 101] 3)).grown hg (by intro e; injection e with e; omega)
        have HA4 := Lib.hid ((HA3.out.alloc (.cells #[.int .i64 0, .int .i64 1, .int .i64 101] 3)).kept hg hgw)
        have G4 := Lib.hid (grownBy_trans G3.out (grownBy_alloc_trans hg))
        have H4 := Lib.hid hc
        have d0 := k7.cell 0
        have d1 := k7.cell 1
        have f1 := k7.frozen 1
        simp only [List.getElem?_toArray, List.getElem?_cons_zero, List.getElem?_cons_succ] at d0 d1
        have K74 := Lib.hid k7
        clear hc hg k7
        go_wp2_with fail
        go_meet
        have k7 := K74.out.set_ 1 (.int .i64 z)
        simp only [List.setIfInBounds_toArray, List.set_cons_zero, List.set_cons_succ] at k7
        exact ⟨m, c, _, us, ys, z, rfl, by omega, hX, HA4.out.far b7 1 hne7 _, k7, hys, (H4.out.set (p := ⟨b7, 1, none⟩) hlt1 _).up (by omega), grownBy_set G4.out (p := ⟨b7, 1, none⟩) hwb _, HNM.out, hne7⟩
      have m1 : (q == 1) = false := beq_eq_false_iff_ne.2 hq1
      clear hq1
      by_cases hq2 : q = 2
      · subst hq2
        go_wp2_with fail
        go_loopw [3] (fun p wr => ∃ (m c : Nat) (A : Option Addr) (us : List Unt) (tt : Nat), p = .slice A m c ∧ m ≤ 8 ∧ X < m ∧ AccW wr w.heap.size 52 2 A m c (untF us) ∧ Blk wr b7 52 #[.string ys, .int .i64 yz] ∧ CurOk wr g tt ∧ tt + 2 * (8 - m) ≤ t' + 40 ∧ w.grownBy wr (some g) ∧ (∀ x ∈ us, x.nm.size ≤ 20) ∧ ∀ y, A = some y → y.block ≠ b7) (fun p _ => 8 - sliceLen p)
        case atStart => exact ⟨m, c, _, us, _, rfl, by omega, hX, HA3.out, K73.out, H3.out, by omega, G3.out, HNM.out, hne7⟩
        case round =>
          obtain ⟨wo, rfl⟩ : ∃ wo : World, wo = wr := ⟨_, rfl⟩
          obtain ⟨m, c, A, us, tt, rfl, hm8, hXm, ha, hk, hc, htt, hg, hnm, hne⟩ := hrel
          have H4 := Lib.hid hc
          have HA4 := Lib.hid ha
          have G4 := Lib.hid hg
          have K74 := Lib.hid hk
          have HNM4 := Lib.hid hnm
          have HNE := Lib.hid hne
          clear ha hk hc hg hnm hne
          go_wp2_with fail
          refine (pick_any g tt (by omega) 2 (by omega) _ H4.out).mono ?_
          rintro e w5 ⟨p, rfl, p0, p1, hc, hg⟩
          have H5 := Lib.hid hc
          have HA5 := Lib.hid (HA4.out.kept hg hgw)
          have G5 := Lib.hid (grownBy_trans G4.out hg)
          have K75 := Lib.hid (K74.out.grown hg (by intro e; injection e with e; omega))
          clear hc hg
          by_cases hlt : (m : Int) < 6 + p
          · have hm7 : m ≤ 7 := by omega
            obtain ⟨B1, hB1⟩ : ∃ B : ByteArray, B = ⟨#[UInt8.ofNat (97 + m)]⟩ := ⟨_, rfl⟩
            have hB1s : B1.size ≤ 20 := by rw [hB1]; show 1 ≤ 20; omega
            have kc : (convert 39 9 (.slice (some ⟨w5.heap.size, 0, none⟩) 1 1)).run Try.prog (w5.alloc (.cells #[.int .u8 (97 + (m : Int))] 5)) = .ok (.string B1) (w5.alloc (.cells #[.int .u8 (97 + (m : Int))] 5)) := by
              rw [hB1]
              exact run_convert_bytes_back (w5.alloc (.cells #[.int .u8 (97 + (m : Int))] 5)) 39 9 5 ⟨w5.heap.size, 0, none⟩ 1 [UInt8.ofNat (97 + m)] Try.underlying39 Try.underlying5 Try.underlying9 (fun j hj => by
                obtain rfl : j = 0 := by simpa using hj
                rw [Addr.add_lit, Nat.add_zero, World.cell?_alloc_new]
                show some (Value.int .u8 (97 + (m : Int))) = some (Value.int .u8 ((UInt8.ofNat (97 + m)).toNat : Int))
                rw [UInt8.toNat_ofNat']
                congr 2
                omega)
            have HBS := Lib.hid hB1s
            clear hB1 hB1s
            have ha6 := (HA5.out.alloc (.cells #[.int .u8 (97 + (m : Int))] 5)).alloc (.cells #[.string B1, .int .i64 2] 52)
            have hc6 := (H5.out.alloc (.cells #[.int .u8 (97 + (m : Int))] 5)).alloc (.cells #[.string B1, .int .i64 2] 52)
            have hk6 := (K75.out.alloc (.cells #[.int .u8 (97 + (m : Int))] 5)).alloc (.cells #[.string B1, .int .i64 2] 52)
            have hg6 := grownBy_any_row G5.out (ext_alloc (ext_alloc (Below.refl w5.heap.size w5) (.cells #[.int .u8 (97 + (m : Int))] 5)) (.cells #[.string B1, .int .i64 2] 52))
            have hr6 : Reads ((w5.alloc (.cells #[.int .u8 (97 + (m : Int))] 5)).alloc (.cells #[.string B1, .int .i64 2] 52)) (w5.heap.size + 1 + 1) 2 (some ⟨w5.heap.size + 1, 0, none⟩) 1 (untF [⟨B1, 2⟩]) := by
              have := reads_newV (w5.alloc (.cells #[.int .u8 (97 + (m : Int))] 5)) #[.string B1, .int .i64 2] 52 2 (w5.heap.size + 1) (by simp) rfl
              simpa [untF, Unt.cs] using this
            obtain ⟨w00, hs00, acc⟩ := ha6.acc
            have HAC := Lib.hid acc
            have HR6 := Lib.hid hr6
            have HA6 := Lib.hid ha6
            have H6 := Lib.hid hc6
            have K76 := Lib.hid hk6
            have G6 := Lib.hid hg6
            have HS0 := Lib.hid hs00
            clear ha6 hc6 hk6 hg6 hr6 acc hs00
            go_wp2_with (at_builtin; refine appU rfl _ _ rfl rfl HAC.out rfl HR6.out (by omega) ?_; intro A2 c2 w6 a6 p6)
            obtain ⟨c7, g7⟩ := push_cur H6.out G6.out hgw p6 HA6.out.low
            have k7 := K76.out.pushed p6 HNE.out
            have hl7 := K76.out.lt
            have hne6 : ∀ y, A2 = some y → y.block ≠ b7 := by
              intro y hy e
              subst hy
              rcases p6.place with hp | hp
              · cases A with
                | none => cases hp
                | some a => injection hp with hp; change y.block = a.block at hp; exact HNE.out a rfl (hp.symm.trans e)
              · injection hp with hp
                change y.block = _ at hp
                omega
            have HA7 := Lib.hid (AccW.of a6 HS0.out)
            have H7 := Lib.hid c7
            have G7 := Lib.hid g7
            have K77 := Lib.hid k7
            have HN7 := Lib.hid hne6
            clear a6 p6 c7 g7 k7 hl7 hne6 kc
            go_roundw
            case rel => exact ⟨m + 1, c2, A2, us ++ [⟨B1, 2⟩], tt + 2, rfl, by omega, by omega, HA7.out, K77.out, H7.out, by omega, G7.out, nm_app HNM4.out HBS.out, HN7.out⟩
            case measure => simp [sliceLen]; omega
          · go_wp2_with fail
            go_meet
            exact ⟨m, c, A, us, ys, yz, rfl, hm8, hXm, HA5.out, K75.out, hys, H5.out.up (by omega), G5.out, HNM4.out, HNE.out⟩
      have m2 : (q == 2) = false := beq_eq_false_iff_ne.2 hq2
      clear hq2
      by_cases hq3 : q = 3
      · subst hq3
        go_wp2_with fail
        go_ret
        exact ⟨_, 0, c, [], rfl, RowR.cut0 HA3.out, by omega, (fun x hx => by cases hx), H3.out.up (by omega), G3.out⟩
      have m3 : (q == 3) = false := beq_eq_false_iff_ne.2 hq3
      clear hq3
      go_wp2_with fail
      go_meet
      exact ⟨m, c, _, us, ys, yz, rfl, by omega, hX, HA3.out, K73.out, hys, H3.out.up (by omega), G3.out, HNM.out, hne7⟩
    case rest =>
      obtain ⟨m, c, A, us, s, z, rfl, hm8, hXm, ha, hk, hss, hc, hg, hnm, hne⟩ := hcut
      obtain ⟨r, cap, hv, _, _⟩ := ha.own.form (by omega)
      have hA : A = some ⟨r, 0, none⟩ := by injection hv
      subst hA
      clear hv
      have hlo := ha.low _ rfl
      dsimp only at hlo
      have hul : (untF us).length = m * 2 := ha.own.1
      obtain ⟨v0, e0⟩ : ∃ v, (untF us)[X * 2]? = some v := ⟨_, List.getElem?_eq_getElem (by omega)⟩
      obtain ⟨v1, e1⟩ : ∃ v, (untF us)[X * 2 + 1]? = some v := ⟨_, List.getElem?_eq_getElem (by omega)⟩
      have c0 := ha.own.cellAt (X * 2) (by omega)
      rw [e0] at c0
      have c1 := ha.own.cellAt (X * 2 + 1) (by omega)
      rw [e1] at c1
      have f0 := ha.own.frozenAt (X * 2)
      have f1 := ha.own.frozenAt (X * 2 + 1)
      have d0 := hk.cell 0
      have d1 := hk.cell 1
      simp only [List.getElem?_toArray, List.getElem?_cons_zero, List.getElem?_cons_succ] at d0 d1
      have s0 := ha.own.stored (X * 2) (.string s)
      have s1 := s0.1.stored (X * 2 + 1) (.int .i64 z)
      rw [untF_set] at s1
      have HA4 := Lib.hid s1.1
      have H4 := Lib.hid ((hc.set (p := ⟨r, X * 2, none⟩) (show g < r by omega) (.string s)).set (p := ⟨r, X * 2 + 1, none⟩) (show g < r by omega) (.int .i64 z))
      have G4 := Lib.hid (grownBy_set (grownBy_set hg (p := ⟨r, X * 2, none⟩) hlo (.string s)) (p := ⟨r, X * 2 + 1, none⟩) hlo (.int .i64 z))
      have HNM4 := Lib.hid hnm
      have HLT := Lib.hid ha.lt
      have X2 : (X : Int) < m := by omega
      clear ha hk hc hg hnm hne e0 e1 s0 s1 hul
      go_wp2_with fail
      go_ret
      exact ⟨_, m, c, us.set X ⟨s, z⟩, rfl, RowR.of ⟨HA4.out, by have := HLT.out; simpa [World.setCell] using this⟩, hm8, nm_set HNM4.out hss, H4.out.up (by omega), G4.out⟩
end Go.Proofs.Ythigfbhkdegfkaa
