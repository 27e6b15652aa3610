/- Plain facts for the law of amounts: a proper amount has its value; units grow. No condition. -/
import Derived.Test.YthigfbhkdegfkaaTim
namespace Go.Proofs.Ythigfbhkdegfkaa
open Go.RowKit

theorem sz_first {us : List Unt} (hs : sysB us = true) : szAt us 0 = 1 := by
  obtain ⟨⟨l1, _⟩, hto⟩ := sysB_to hs
  match us, hto, l1 with
  | u :: us, hto, _ =>
    have hu := hto 0 u (by simp) rfl
    rw [untB_eq] at hu
    simp only [Bool.and_eq_true] at hu
    have h1 := hu.2.1
    have h1 : u.sz = 1 := by simpa [szOk] using h1
    rw [szAt_some (show (u :: us)[0]? = some u from rfl), h1]
theorem propL_at {us : List Unt} {v : Int} {i : Nat} (h : i < us.length - 1) : (propL us v)[i]? = some (quoT us v i % szAt us (i + 1)) := by
  unfold propL
  rw [List.getElem?_append_left (by rw [propTo_len]; exact h)]
  unfold propTo
  rw [List.getElem?_map, List.getElem?_range h]
  rfl
theorem propL_last (us : List Unt) (v : Int) : (propL us v)[us.length - 1]? = some (quoT us v (us.length - 1)) := by
  unfold propL
  rw [List.getElem?_append_right (by rw [propTo_len]; exact Nat.le_refl _), propTo_len, Nat.sub_self]
  rfl
theorem prop_val {us : List Unt} (hs : sysB us = true) {v : Int} : valR us (propL us v) = v := by
  obtain ⟨⟨l1, l6⟩, _⟩ := sysB_to hs
  have hz := sys_sz hs
  have key : ∀ d i, i + d = us.length - 1 → valR (us.drop i) ((propL us v).drop i) = quoT us v i * szAt us i := by
    intro d
    induction d with
    | zero =>
      intro i hi
      have hi : i = us.length - 1 := by omega
      have hx : us[i]? = some (us[i]'(by omega)) := List.getElem?_eq_getElem (by omega)
      generalize us[i]'(by omega) = x at hx
      have hp := propL_last us v
      rw [← hi] at hp
      rw [valR_at hx hp, szAt_some hx, List.drop_of_length_le (show us.length ≤ i + 1 by omega)]
      simp [valR]
    | succ d ih =>
      intro i hi
      have hx : us[i]? = some (us[i]'(by omega)) := List.getElem?_eq_getElem (by omega)
      generalize us[i]'(by omega) = x at hx
      have hp := propL_at (v := v) (show i < us.length - 1 by omega)
      rw [valR_at hx hp, ih (i + 1) (by omega), szAt_some hx, quoT]
      have hm := Int.mul_ediv_add_emod (quoT us v i) (szAt us (i + 1))
      rw [Int.mul_comm (quoT us v i / szAt us (i + 1))]
      rw [hm]
  have h0 := key (us.length - 1) 0 (by omega)
  rw [List.drop_zero, List.drop_zero, sz_first hs] at h0
  rw [h0, quoT]
  omega
theorem tim_ok {us : List Unt} {zs : List Int} {N : Int} (h : (timV us zs N).2 = true) :
    amtB us zs = true ∧ amtB us (timV us zs N).1 = true ∧ valA us (timV us zs N).1 = N * valA us zs ∧ 0 ≤ N * valA us zs ∧ N * valA us zs ≤ 102000000000000000 := by
  unfold timV at h ⊢
  split at h
  · rename_i hc
    rw [if_pos hc]
    simp only [Bool.and_eq_true] at hc
    obtain ⟨ha, hin⟩ := hc
    obtain ⟨n0, n1⟩ := inB_true hin
    obtain ⟨v0, v1⟩ := val_bd ha
    have hs : sysB us = true := by unfold amtB at ha; simp only [Bool.and_eq_true] at ha; exact ha.1
    have p0 : 0 ≤ N * valR us zs := Int.mul_nonneg n0 v0
    have p1 : N * valR us zs ≤ 1000 * 102000000000000 := Int.mul_le_mul n1 v1 v0 (by omega)
    simp only at h
    have hp : propV us (N * valR us zs) = propL us (N * valR us zs) := by unfold propV; rw [if_pos h]
    have hok : amtB us (propL us (N * valR us zs)) = true := by
      rw [prop_amt hs p0]
      unfold propOk at h
      simp only [Bool.and_eq_true] at h
      exact h.2
    simp only [hp]
    refine ⟨ha, hok, ?_, ?_, ?_⟩
    · unfold valA
      rw [if_pos hok, if_pos ha, prop_val hs]
    · unfold valA; rw [if_pos ha]; exact p0
    · unfold valA; rw [if_pos ha]; omega
  · exact absurd h (by simp)
def prodTo (us : List Unt) : Nat → Int
  | 0 => 1
  | k + 1 => prodTo us k * szAt us k
def lastP (us : List Unt) (k : Nat) : Int := if k = 0 then 0 else prodTo us k
theorem prod_pos {us : List Unt} (hs : sysB us = true) : ∀ k, 1 ≤ prodTo us k
  | 0 => by simp [prodTo]
  | k + 1 => by
    have ih := prod_pos hs k
    have h := szAt_bd (sys_sz hs) k
    rw [prodTo]
    have := Int.mul_le_mul ih h.1 (by omega) (by omega)
    omega
theorem prod_grow {us : List Unt} (hs : sysB us = true) {i : Nat} {x : Unt} (hx : us[i]? = some x) : lastP us i < prodTo us (i + 1) := by
  have hp := prod_pos hs i
  rw [prodTo, szAt_some hx]
  unfold lastP
  have hu := (sysB_to hs).2 i x (List.getElem?_eq_some_iff.1 hx).1 hx
  rw [untB_eq] at hu
  simp only [Bool.and_eq_true] at hu
  have h1 := hu.2.1
  unfold szOk at h1
  split
  · rename_i h0
    rw [if_pos h0] at h1
    have h1 : x.sz = 1 := by simpa using h1
    rw [h1]; omega
  · rename_i h0
    rw [if_neg h0] at h1
    have h2 := inB_true h1
    have := Int.mul_le_mul (Int.le_refl (prodTo us i)) h2.1 (by omega) (by omega)
    omega
theorem lastP_next (us : List Unt) (i : Nat) : lastP us (i + 1) = prodTo us (i + 1) := by unfold lastP; rw [if_neg (by omega)]
theorem uni_at {us : List Unt} (hs : sysB us = true) {i : Nat} {x : Unt} (hx : us[i]? = some x) : uniV us x.nm = (prodTo us (i + 1), true) := by
  have hil := (List.getElem?_eq_some_iff.1 hx).1
  have hu := (sysB_to hs).2 i x hil hx
  unfold untB at hu
  simp only [Bool.and_eq_true] at hu
  have hnew := hu.2.2
  have key : ∀ d j, j + d = i → uniGo (us.drop j) x.nm (prodTo us j) = (prodTo us (i + 1), true) := by
    intro d
    induction d with
    | zero =>
      intro j hj
      obtain rfl : j = i := by omega
      rw [uniGo_hit hx rfl, prodTo, szAt_some hx]
    | succ d ih =>
      intro j hj
      have hy : us[j]? = some (us[j]'(by omega)) := List.getElem?_eq_getElem (by omega)
      generalize us[j]'(by omega) = y at hy
      have hym : y ∈ us.take i := by
        have : (us.take i)[j]? = some y := by rw [List.getElem?_take_of_lt (by omega)]; exact hy
        exact List.mem_of_getElem? this
      have hne : y.nm ≠ x.nm := by simpa using List.all_eq_true.1 hnew y hym
      rw [uniGo_miss hy hne]
      have h2 := ih (j + 1) (by omega)
      rw [prodTo, szAt_some hy] at h2
      exact h2
  have h0 := key i 0 (by omega)
  unfold uniV
  rw [if_pos hs]
  simpa [prodTo] using h0
theorem uniGo_pos {nm : ByteArray} : ∀ (us : List Unt) (u : Int), (∀ x ∈ us, 1 ≤ x.sz ∧ x.sz ≤ 100) → 1 ≤ u → (uniGo us nm u).2 = true → 1 ≤ (uniGo us nm u).1
  | [], u, _, _, h => by simp [uniGo] at h
  | x :: us, u, hs, hu, h => by
    have hx := hs x (by simp)
    have hm : 1 ≤ u * x.sz := by have := Int.mul_le_mul hu hx.1 (by omega) (by omega); omega
    rw [uniGo] at h ⊢
    split
    · exact hm
    · rename_i hn
      rw [if_neg hn] at h
      exact uniGo_pos us _ (fun y hy => hs y (by simp [hy])) hm h
theorem uni_pos {us : List Unt} {nm : ByteArray} (h : (uniV us nm).2 = true) : 1 ≤ (uniV us nm).1 := by
  unfold uniV at h ⊢
  split
  · rename_i hs
    rw [if_pos hs] at h
    exact uniGo_pos us 1 (sys_sz hs) (by omega) h
  · rename_i hs
    rw [if_neg hs] at h
    exact absurd h (by simp)
end Go.Proofs.Ythigfbhkdegfkaa
