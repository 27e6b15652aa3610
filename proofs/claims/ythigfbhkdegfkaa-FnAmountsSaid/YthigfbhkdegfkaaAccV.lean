/- Slices of a call's own whose elements are any values (texts, rule words). No condition. -/
import Derived.Test.YthigfbhkdegfkaaAppend
namespace Go.Proofs.Ythigfbhkdegfkaa
open Go.RowKit

/-- What has been gathered since world w0: the slice owns these cells (k an element), and nothing older has turned. -/
structure AccV (w0 w : World) (E k : Nat) (A : Option Addr) (n c : Nat) (vs : List Value) : Prop where
  own : w.ownsRow w0.heap.size E k (.slice A n c) n vs
  ext : Below w0.heap.size w0 w

section
variable {w0 w w' : World} {E k n c : Nat} {A : Option Addr} {vs : List Value}
theorem AccV.nil (h : Below w0.heap.size w0 w) : AccV w0 w E k none 0 0 [] := ⟨World.ownsRow_nil _ _ _ _, h⟩
theorem AccV.empty (h : Below w0.heap.size w0 w) : AccV w0 (w.alloc (.cells #[] E)) E k (some ⟨w.heap.size, 0, none⟩) 0 0 [] :=
  ⟨World.ownsRow_made w #[] 0 h.size (by simp [maxLen]) (by simp), h.alloc h.size _⟩
theorem AccV.lit (h : Below w0.heap.size w0 w) (cs : Array Value) (m : Nat) (hm : m ≤ maxLen) (hcs : cs.size = m * k) : AccV w0 (w.alloc (.cells cs E)) E k (some ⟨w.heap.size, 0, none⟩) m m cs.toList :=
  ⟨World.ownsRow_lit w cs m h.size hm hcs, h.alloc h.size _⟩
theorem AccV.len (h : AccV w0 w E k A n c vs) : vs.length = n * k := by simpa using h.own.1
theorem AccV.alloc (h : AccV w0 w E k A n c vs) (o : Obj) : AccV w0 (w.alloc o) E k A n c vs := ⟨h.own.alloc o, h.ext.alloc h.ext.size o⟩
theorem AccV.drewN (h : AccV w0 w E k A n c vs) (m : Nat) : AccV w0 (w.drewN m) E k A n c vs := ⟨h.own, ext_drewN h.ext m⟩
theorem AccV.drew (h : AccV w0 w E k A n c vs) : AccV w0 w.drew E k A n c vs := ⟨h.own, ext_drew h.ext⟩
theorem AccV.later (h : AccV w0 w E k A n c vs) (hb : Below w.heap.size w w') : AccV w0 w' E k A n c vs := ⟨own_below h.own hb, ext_trans h.ext hb⟩
theorem AccV.reads (h : AccV w0 w E k A n c vs) : Reads w w.heap.size k A n vs := Reads.of_own h.own
/-- From an earlier start. -/
theorem AccV.since {w1 : World} (h : AccV w0 w E k A n c vs) (hb : Below w1.heap.size w1 w0) : AccV w1 w E k A n c vs := by
  refine ⟨⟨h.own.1, ?_⟩, ext_trans hb h.ext⟩
  rcases h.own.2 with h2 | ⟨g, cap, cur, hv, hg, r⟩
  · exact .inl h2
  · exact .inr ⟨g, cap, cur, hv, Nat.le_trans hb.size hg, r⟩
end
/-- A new block of one element reads as that element. -/
theorem reads_newV (w : World) (cs : Array Value) (T : TypeId) (k g : Nat) (hg : g = w.heap.size) (hk : cs.size = k) :
    Reads (w.alloc (.cells cs T)) (w.heap.size + 1) k (some ⟨g, 0, none⟩) 1 cs.toList := by
  subst hg
  refine ⟨by simp [hk], fun _ => ⟨_, rfl, by simp, fun j u hu => ?_⟩⟩
  rw [Addr.add_lit, Nat.zero_add, World.cell?_alloc_new]
  simpa using hu
section
variable {P : Program}
theorem accV_app {t E k bytes : Nat} {z : Value} (ht : P.underlying t = some (.slice E)) (hi : (P.info? E).map (fun i => (i.zero, i.size, i.bytes)) = some (some z, k, bytes)) (hz : z.cells.size = k) (hk : 0 < k)
    {ops : Array Oper} {rest : List Oper} {o : Oper} {a : Act} {Q : Exit → Act → World → Prop} (hgd : o.guard = none) (s x : Operand)
    (ho : o.op = .call { callee := .builtin .append, args := #[s, x], argTypes := #[t, t] })
    {w0 w : World} {A : Option Addr} {n c : Nat} {vs : List Value} (hs : a.eval s = .slice A n c) (hacc : AccV w0 w E k A n c vs)
    {B m c2 : Nat} {A2 : Option Addr} {news : List Value} (hx : a.eval x = .slice A2 m c2) (hr : Reads w B k A2 m news) (h1 : ∀ u ∈ news, u.oneCell' = true)
    (h63 : n + m ≤ maxLen) (hbytes : (n + m) * bytes ≤ 140737488355328)
    (h : ∀ A' c' w', AccV w0 w' E k A' (n + m) c' (vs ++ news) → Pushed w w' A A' → wpList P ops Q rest (a.put o.dst (.slice A' (n + m) c')) w') : wpList P ops Q (o :: rest) a w := by
  obtain ⟨i, hi1, hi2, hi3, hi4⟩ := info_parts hi
  refine wpList_append_any w hgd s x t ho w0.heap.size E i z k bytes ht hi1 hi2 hi3 hi4 hz hk _ _ _ hs hacc.own B A2 m c2 _ hx hr h1 h63 hbytes hacc.ext.size ?_
  intro v' w' hown hg hbl
  obtain ⟨A', c', rfl⟩ := own_shape hown
  exact h A' c' w' ⟨hown, ext_grown hacc.ext hg fun g hb => (hacc.own.lt g hb).1⟩ ⟨ownBlock_slice A n c ▸ hg, by rw [← ownBlock_slice A' (n + m) c', ← ownBlock_slice A n c]; exact hbl⟩
/-- The same inside a region that draws its order. -/
theorem accV_app_step {t E k bytes : Nat} {z : Value} (ht : P.underlying t = some (.slice E)) (hi : (P.info? E).map (fun i => (i.zero, i.size, i.bytes)) = some (some z, k, bytes)) (hz : z.cells.size = k) (hk : 0 < k)
    {ops : Array Oper} {o : Oper} {a : Act} {K : Act → World → Prop} {Q : Exit → Act → World → Prop} {F : Prop} (hgd : o.guard = none) (s x : Operand)
    (ho : o.op = .call { callee := .builtin .append, args := #[s, x], argTypes := #[t, t] })
    {w0 w : World} {A : Option Addr} {n c : Nat} {vs : List Value} (hs : a.eval s = .slice A n c) (hacc : AccV w0 w E k A n c vs)
    {B m c2 : Nat} {A2 : Option Addr} {news : List Value} (hx : a.eval x = .slice A2 m c2) (hr : Reads w B k A2 m news) (h1 : ∀ u ∈ news, u.oneCell' = true)
    (h63 : n + m ≤ maxLen) (hbytes : (n + m) * bytes ≤ 140737488355328)
    (h : ∀ A' c' w', AccV w0 w' E k A' (n + m) c' (vs ++ news) → Pushed w w' A A' → K (a.put o.dst (.slice A' (n + m) c')) w') :
    if Region.wanted o (yielded ops a.tmps) = true then Oper.wp P o a w K Q else F := by
  obtain ⟨i, hi1, hi2, hi3, hi4⟩ := info_parts hi
  refine step_append_any w hgd s x t ho w0.heap.size E i z k bytes ht hi1 hi2 hi3 hi4 hz hk _ _ _ hs hacc.own B A2 m c2 _ hx hr h1 h63 hbytes hacc.ext.size ?_
  intro v' w' hown hg hbl
  obtain ⟨A', c', rfl⟩ := own_shape hown
  exact h A' c' w' ⟨hown, ext_grown hacc.ext hg fun g hb => (hacc.own.lt g hb).1⟩ ⟨ownBlock_slice A n c ▸ hg, by rw [← ownBlock_slice A' (n + m) c', ← ownBlock_slice A n c]; exact hbl⟩
end
theorem infoS : (Try.prog.info? 9).map (fun i => (i.zero, i.size, i.bytes)) = some (some (.string ⟨#[]⟩), 1, 16) := by kernel_rfl
theorem strs_oneCell (ss : List ByteArray) : ∀ u ∈ ss.map Value.string, u.oneCell' = true := by
  intro u hu
  obtain ⟨s, _, rfl⟩ := List.mem_map.1 hu
  rfl
/-- A list of texts: the text of number k. -/
theorem Reads.str {w : World} {B n : Nat} {A : Option Addr} {ss : List ByteArray} (h : Reads w B 1 A n (ss.map Value.string)) {k : Nat} (hk : k < n) :
    ∃ b o s, A = some ⟨b, o, none⟩ ∧ ss[k]? = some s ∧ w.cell? ⟨b, o + k, none⟩ = some (.string s) := by
  obtain ⟨ad, e, _, hc⟩ := h.2 (by omega)
  have hl : ss.length = n := by simpa using h.1
  obtain ⟨b, o, s⟩ := ad
  have hz : ss[k]? = some (ss[k]'(by omega)) := List.getElem?_eq_getElem (by omega)
  have hcell := hc k _ (by rw [List.getElem?_map, hz]; rfl)
  have hs : s = none := by
    have := World.cell?_spot (hc 0 _ (by rw [List.getElem?_map, List.getElem?_eq_getElem (show 0 < ss.length by omega)]; rfl))
    simpa [Addr.add] using this
  subst hs
  rw [Addr.add_lit] at hcell
  exact ⟨b, o, _, e, hz, hcell⟩
theorem Reads.strLen {w : World} {B n : Nat} {A : Option Addr} {ss : List ByteArray} (h : Reads w B 1 A n (ss.map Value.string)) : ss.length = n := by simpa using h.1
/-- append to a slice of texts. -/
theorem appS {ops : Array Oper} {rest : List Oper} {o : Oper} {a : Act} {Q : Exit → Act → World → Prop} (hgd : o.guard = none) (s x : Operand)
    (ho : o.op = .call { callee := .builtin .append, args := #[s, x], argTypes := #[81, 81] })
    {w0 w : World} {A : Option Addr} {n c : Nat} {ss : List ByteArray} (hs : a.eval s = .slice A n c) (hacc : AccV w0 w 9 1 A n c (ss.map Value.string))
    {B m c2 : Nat} {A2 : Option Addr} {news : List ByteArray} (hx : a.eval x = .slice A2 m c2) (hr : Reads w B 1 A2 m (news.map Value.string)) (hb : n + m ≤ 1099511627776)
    (h : ∀ A' c' w', AccV w0 w' 9 1 A' (n + m) c' ((ss ++ news).map Value.string) → Pushed w w' A A' → wpList Try.prog ops Q rest (a.put o.dst (.slice A' (n + m) c')) w') : wpList Try.prog ops Q (o :: rest) a w :=
  accV_app Try.underlying81 infoS rfl (by decide) hgd s x ho hs hacc hx hr (strs_oneCell _) (by unfold maxLen; omega) (by omega) (by simpa using h)
theorem appS_step {ops : Array Oper} {o : Oper} {a : Act} {K : Act → World → Prop} {Q : Exit → Act → World → Prop} {F : Prop} (hgd : o.guard = none) (s x : Operand)
    (ho : o.op = .call { callee := .builtin .append, args := #[s, x], argTypes := #[81, 81] })
    {w0 w : World} {A : Option Addr} {n c : Nat} {ss : List ByteArray} (hs : a.eval s = .slice A n c) (hacc : AccV w0 w 9 1 A n c (ss.map Value.string))
    {B m c2 : Nat} {A2 : Option Addr} {news : List ByteArray} (hx : a.eval x = .slice A2 m c2) (hr : Reads w B 1 A2 m (news.map Value.string)) (hb : n + m ≤ 1099511627776)
    (h : ∀ A' c' w', AccV w0 w' 9 1 A' (n + m) c' ((ss ++ news).map Value.string) → Pushed w w' A A' → K (a.put o.dst (.slice A' (n + m) c')) w') :
    if Region.wanted o (yielded ops a.tmps) = true then Oper.wp Try.prog o a w K Q else F :=
  accV_app_step Try.underlying81 infoS rfl (by decide) hgd s x ho hs hacc hx hr (strs_oneCell _) (by unfold maxLen; omega) (by omega) (by simpa using h)
end Go.Proofs.Ythigfbhkdegfkaa
