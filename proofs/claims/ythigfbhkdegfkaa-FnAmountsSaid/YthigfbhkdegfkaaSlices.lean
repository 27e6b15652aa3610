/- Slices that read as lists: a predicate and its small laws; membership. No condition. -/
import Derived.Test.YthigfbhkdegfkaaBase
import Derived.Deep.AppendLies
import Derived.Deep.Draws
import Derived.Lib.Hide
namespace Go.Proofs.Ythigfbhkdegfkaa
open Go.RowKit

theorem block_of_add (a : Addr) (n : Nat) : (a.add n).block = a.block := by unfold Addr.add; split <;> rfl
theorem add_of_add (a : Addr) (i j : Nat) : (a.add i).add j = a.add (i + j) := by
  unfold Addr.add
  by_cases hi : i = 0 <;> by_cases hj : j = 0 <;> simp [hi, hj, Nat.add_assoc]

/-- The slice value of n elements at A holds the cells xs, below block B. -/
def Reads (w : World) (B size : Nat) (A : Option Addr) (n : Nat) (xs : List Value) : Prop :=
  xs.length = n * size ∧ (0 < n → ∃ ad, A = some ad ∧ ad.block < B ∧ ∀ j u, xs[j]? = some u → w.cell? (ad.add j) = some u)

section
variable {w w' : World} {B B' size n : Nat} {A : Option Addr} {xs : List Value}
theorem Reads.none_ : Reads w B size A 0 [] := ⟨by simp, fun h => absurd h (by omega)⟩
theorem Reads.keep (h : Reads w B size A n xs) (hk : ∀ p : Addr, p.block < B → w'.cell? p = w.cell? p) : Reads w' B size A n xs :=
  ⟨h.1, fun hn => by
    obtain ⟨ad, e, hb, hc⟩ := h.2 hn
    exact ⟨ad, e, hb, fun j u hu => (hk _ (by rw [block_of_add]; exact hb)).trans (hc j u hu)⟩⟩
theorem Reads.more (h : Reads w B size A n xs) (hB : B ≤ B') : Reads w B' size A n xs :=
  ⟨h.1, fun hn => by
    obtain ⟨ad, e, hb, hc⟩ := h.2 hn
    exact ⟨ad, e, by omega, hc⟩⟩
theorem Reads.below (h : Reads w B size A n xs) (hb : Below B w w') : Reads w' B size A n xs := h.keep fun _ hp => hb.cell hp
theorem Reads.drew (h : Reads w B size A n xs) : Reads w.drew B size A n xs := h
theorem Reads.drewN (h : Reads w B size A n xs) (k : Nat) : Reads (w.drewN k) B size A n xs := h
theorem Reads.alloc (h : Reads w B size A n xs) (hB : B ≤ w.heap.size) (o : Obj) : Reads (w.alloc o) B size A n xs := h.keep fun p hp => World.cell?_alloc_lt w o p (by omega)
theorem Reads.setCell (h : Reads w B size A n xs) {p : Addr} (hB : B ≤ p.block) (u : Value) : Reads (w.setCell p u) B size A n xs :=
  h.keep fun q hq => World.cell?_setCell_other w p q u (fun e => by subst e; omega)
theorem Reads.cut (h : Reads w B size A n xs) {k cap : Nat} (hk : k ≤ n) (hc : n ≤ cap) :
    Reads w B size (if cap = k then A else A.map (·.add (k * size))) (n - k) (xs.drop (k * size)) := by
  refine ⟨by rw [List.length_drop, h.1, Nat.sub_mul], fun hn => ?_⟩
  obtain ⟨ad, rfl, hb, hcell⟩ := h.2 (by omega)
  rw [if_neg (by omega)]
  refine ⟨ad.add (k * size), rfl, by rw [block_of_add]; exact hb, fun j u hu => ?_⟩
  rw [add_of_add]
  exact hcell _ u (by rw [← hu, List.getElem?_drop])
theorem Reads.of_own {base : Nat} {e : TypeId} {c : Nat} (h : w.ownsRow base e size (.slice A n c) n xs) : Reads w w.heap.size size A n xs := by
  refine ⟨h.1, fun hn => ?_⟩
  obtain ⟨g, cap, hv, _, hlt⟩ := h.form hn
  have hA : A = some ⟨g, 0, none⟩ := by injection hv
  subst hA
  exact ⟨_, rfl, hlt, h.cells (g := g) rfl⟩
/-- A row of numbers: its length. -/
theorem Reads.len {zs : List Int} (h : Reads w B 1 A n (zs.map (Value.int .i64))) : zs.length = n := by simpa using h.1
/-- The cell of number k. -/
theorem Reads.int {zs : List Int} (h : Reads w B 1 A n (zs.map (Value.int .i64))) {k : Nat} (hk : k < n) :
    ∃ b o z, A = some ⟨b, o, none⟩ ∧ zs[k]? = some z ∧ w.cell? ⟨b, o + k, none⟩ = some (.int .i64 z) := by
  obtain ⟨ad, e, _, hc⟩ := h.2 (by omega)
  have hl := h.len
  obtain ⟨b, o, s⟩ := ad
  have hz : zs[k]? = some (zs[k]'(by omega)) := List.getElem?_eq_getElem (by omega)
  have hcell := hc k _ (by rw [List.getElem?_map, hz]; rfl)
  have hs : s = none := by
    have := World.cell?_spot (hc 0 _ (by rw [List.getElem?_map, List.getElem?_eq_getElem (show 0 < zs.length by omega)]; rfl))
    simpa [Addr.add] using this
  subst hs
  rw [Addr.add_lit] at hcell
  exact ⟨b, o, _, e, hz, hcell⟩
/-- The same of element k of several cells: its first cell lies at k * size. -/
theorem Reads.row {zs : List Int} (h : Reads w B size A n (zs.map (Value.int .i64))) {k : Nat} (hk : k < n) (hs : 0 < size) :
    ∃ b o, A = some ⟨b, o, none⟩ ∧ ∀ i, i < size → ∃ z, zs[k * size + i]? = some z ∧ w.cell? ⟨b, o + (k * size + i), none⟩ = some (.int .i64 z) := by
  obtain ⟨ad, e, _, hc⟩ := h.2 (by omega)
  have hl : zs.length = n * size := by simpa using h.1
  have hkn : k * size + size ≤ n * size := by rw [← Nat.succ_mul]; exact Nat.mul_le_mul_right _ hk
  obtain ⟨b, o, s⟩ := ad
  have hz : ∀ i, (hi : i < size) → zs[k * size + i]? = some (zs[k * size + i]'(by omega)) := fun i hi => List.getElem?_eq_getElem (by omega)
  have hcell : ∀ i, (hi : i < size) → w.cell? ((⟨b, o, s⟩ : Addr).add (k * size + i)) = some (.int .i64 (zs[k * size + i]'(by omega))) := fun i hi => hc _ _ (by rw [List.getElem?_map, hz i hi]; rfl)
  have hs : s = none := by
    have := World.cell?_spot (hc 0 _ (by rw [List.getElem?_map, List.getElem?_eq_getElem (show 0 < zs.length by omega)]; rfl))
    simpa [Addr.add] using this
  subst hs
  exact ⟨b, o, e, fun i hi => ⟨_, hz i hi, by have := hcell i hi; rwa [Addr.add_lit] at this⟩⟩
end
theorem take_snoc {α : Type} (l : List α) (k : Nat) (h : k < l.length) : l.take (k + 1) = l.take k ++ [l[k]] := by
  rw [List.take_succ_eq_append_getElem h]
theorem take_at {α : Type} {l : List α} {k : Nat} {z : α} (h : l[k]? = some z) : l.take (k + 1) = l.take k ++ [z] := by
  obtain ⟨hk, e⟩ := List.getElem?_eq_some_iff.1 h
  rw [take_snoc l k hk, e]

/-- Is n in the list? -/
def hasB (zs : List Int) (n : Int) : Bool := zs.contains n
theorem hasB_step {zs : List Int} {k : Nat} {z m : Int} (hz : zs[k]? = some z) (h : hasB (zs.take k) m = false) (h2 : (z == m) = false) : hasB (zs.take (k + 1)) m = false := by
  rw [take_at hz]
  unfold hasB at *
  simp at h h2 ⊢
  exact ⟨h, fun e => h2 e.symm⟩
theorem hasB_hit {zs : List Int} {k : Nat} {z m : Int} (hz : zs[k]? = some z) (h2 : (z == m) = true) : hasB zs m = true := by
  obtain ⟨hk, e⟩ := List.getElem?_eq_some_iff.1 hz
  simp at h2
  unfold hasB
  simp [← h2, ← e]

end Go.Proofs.Ythigfbhkdegfkaa
