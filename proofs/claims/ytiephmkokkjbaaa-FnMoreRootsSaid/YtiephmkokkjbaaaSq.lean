/- Whole roots: plain law. No condition. -/
import Derived.Test.YtiephmkokkjbaaaDigits
namespace Go.Proofs.Ytiephmkokkjbaaa
open Go.RowKit

/-- r is the whole root of n. -/
def IsRoot (r n : Nat) : Prop := r * r ≤ n ∧ n < (r + 1) * (r + 1)
theorem IsRoot.unique {r s n : Nat} (h : IsRoot r n) (k : IsRoot s n) : r = s := by
  rcases Nat.lt_trichotomy r s with hlt | heq | hgt
  · have := Nat.mul_le_mul (show r + 1 ≤ s from hlt) (show r + 1 ≤ s from hlt)
    have h1 := h.2
    have h2 := k.1
    omega
  · exact heq
  · have := Nat.mul_le_mul (show s + 1 ≤ r from hgt) (show s + 1 ≤ r from hgt)
    have h1 := k.2
    have h2 := h.1
    omega
/-- The whole root. -/
def isq : Nat → Nat
  | 0 => 0
  | n + 1 => if (isq n + 1) * (isq n + 1) ≤ n + 1 then isq n + 1 else isq n
theorem isq_root : ∀ n, IsRoot (isq n) n
  | 0 => ⟨by simp [isq], by simp [isq]⟩
  | n + 1 => by
    obtain ⟨h1, h2⟩ := isq_root n
    unfold isq
    split
    · next h =>
      refine ⟨h, ?_⟩
      have : (isq n + 1) * (isq n + 1) ≤ (isq n + 1) * (isq n + 1 + 1) := Nat.mul_le_mul_left _ (by omega)
      have e : (isq n + 1 + 1) * (isq n + 1 + 1) = (isq n + 1) * (isq n + 1 + 1) + (isq n + 1 + 1) := by rw [Nat.succ_mul]
      omega
    · next h => exact ⟨by omega, by omega⟩
theorem isq_is {r n : Nat} (h : IsRoot r n) : isq n = r := (isq_root n).unique h
theorem root_le {r n : Nat} {b : Nat} (h : r * r ≤ n) (hn : n < (b + 1) * (b + 1)) : r ≤ b := by
  rcases Nat.lt_or_ge b r with hk | hk
  · have := Nat.mul_le_mul (show b + 1 ≤ r from hk) (show b + 1 ≤ r from hk)
    omega
  · exact hk
theorem sq_split (root d : Nat) : (10 * root + d) * (10 * root + d) = 100 * (root * root) + (20 * root + d) * d := by
  rw [Nat.add_mul, Nat.mul_add, Nat.mul_add, Nat.add_mul]
  have a : 10 * root * (10 * root) = 100 * (root * root) := by
    rw [Nat.mul_mul_mul_comm]
  have b : 20 * root * d = 10 * root * d + d * (10 * root) := by
    rw [Nat.mul_comm d (10 * root), ← Nat.add_mul]; congr 1; omega
  omega
/-- One more pair p and the root's next digit d. -/
theorem root_step {root rest N p d : Nat} (h1 : root * root + rest = N) (h2 : N < (root + 1) * (root + 1)) (hp : p < 100) (hd : (20 * root + d) * d ≤ 100 * rest + p) (hd9 : d ≤ 9)
    (hm : d = 9 ∨ 100 * rest + p < (20 * root + (d + 1)) * (d + 1)) :
    (10 * root + d) * (10 * root + d) + (100 * rest + p - (20 * root + d) * d) = 100 * N + p ∧ 100 * N + p < (10 * root + d + 1) * (10 * root + d + 1) := by
  have e1 := sq_split root d
  have e2 := sq_split root (d + 1)
  rw [← Nat.add_assoc] at e2
  refine ⟨by omega, ?_⟩
  rcases hm with rfl | hm
  · have e3 : (10 * root + 9 + 1) * (10 * root + 9 + 1) = 100 * ((root + 1) * (root + 1)) := by
      rw [show 10 * root + 9 + 1 = 10 * (root + 1) from by omega, Nat.mul_mul_mul_comm]
    omega
  · omega
/-- The value of the first k digits to base b. -/
def valTo (b : Nat) (ds : List Int) : Nat → Nat
  | 0 => 0
  | k + 1 => b * valTo b ds k + (ds.getD k 0).toNat
theorem valTo_append (b : Nat) (xs ys : List Int) : ∀ k, k ≤ xs.length → valTo b (xs ++ ys) k = valTo b xs k
  | 0, _ => rfl
  | k + 1, h => by
    rw [valTo, valTo, valTo_append b xs ys k (by omega)]
    congr 2
    simp [List.getD, List.getElem?_append_left (show k < xs.length by omega)]
theorem valTo_digs {b : Nat} (hb : 2 ≤ b) : ∀ n, valTo b (digs b n) (digs b n).length = n := by
  intro n
  induction n using Nat.strongRecOn with
  | ind n ih =>
    rcases Nat.eq_zero_or_pos n with rfl | hp
    · rfl
    · rw [digs_step hb hp]
      simp only [List.length_append, List.length_cons, List.length_nil, Nat.zero_add]
      rw [valTo, valTo_append _ _ _ _ (Nat.le_refl _), ih _ (Nat.div_lt_self hp (by omega))]
      have : ((digs b (n / b) ++ [((n % b : Nat) : Int)]).getD (digs b (n / b)).length 0).toNat = n % b := by
        rw [List.getD, List.getElem?_append_right (Nat.le_refl _), Nat.sub_self]; rfl
      rw [this]
      exact Nat.div_add_mod n b
/-- The root's next digit: the greatest d up to f with (20 * root + d) * d ≤ n. -/
def nextD (root n : Nat) : Nat → Nat
  | 0 => 0
  | d + 1 => if (20 * root + (d + 1)) * (d + 1) ≤ n then d + 1 else nextD root n d
theorem nextD_le (root n : Nat) : ∀ f, nextD root n f ≤ f
  | 0 => Nat.le_refl _
  | d + 1 => by
    have := nextD_le root n d
    unfold nextD
    split <;> omega
theorem nextD_ok (root n : Nat) : ∀ f, (20 * root + nextD root n f) * nextD root n f ≤ n
  | 0 => by simp [nextD]
  | d + 1 => by
    unfold nextD
    split
    · next h => exact h
    · exact nextD_ok root n d
theorem nextD_max (root n : Nat) : ∀ f, nextD root n f = f ∨ n < (20 * root + (nextD root n f + 1)) * (nextD root n f + 1)
  | 0 => .inl rfl
  | d + 1 => by
    unfold nextD
    split
    · exact .inl rfl
    · next h =>
      rcases nextD_max root n d with h' | h'
      · rw [h']; exact .inr (by omega)
      · exact .inr h'
/-- The state behind k pairs: the steps, the root, the rest. -/
def rootAt (ps : List Int) : Nat → List Int × Nat × Nat
  | 0 => ([], 0, 0)
  | k + 1 =>
    let s := rootAt ps k
    let n := 100 * s.2.2 + (ps.getD k 0).toNat
    let d := nextD s.2.1 n 9
    (s.1 ++ [(n : Int), (d : Int), ((n - (20 * s.2.1 + d) * d : Nat) : Int)], 10 * s.2.1 + d, n - (20 * s.2.1 + d) * d)
theorem rootAt_len (ps : List Int) : ∀ k, (rootAt ps k).1.length = k * 3
  | 0 => rfl
  | k + 1 => by simp [rootAt, rootAt_len ps k]; omega
theorem rootAt_inv {ps : List Int} (hp : ∀ (k : Nat) (z : Int), ps[k]? = some z → 0 ≤ z ∧ z ≤ 99) : ∀ k, k ≤ ps.length →
    (rootAt ps k).2.1 * (rootAt ps k).2.1 + (rootAt ps k).2.2 = valTo 100 ps k ∧ valTo 100 ps k < ((rootAt ps k).2.1 + 1) * ((rootAt ps k).2.1 + 1)
  | 0, _ => ⟨rfl, by simp [rootAt, valTo]⟩
  | k + 1, hk => by
    obtain ⟨h1, h2⟩ := rootAt_inv hp k (by omega)
    have hz : ps[k]? = some (ps[k]'(by omega)) := List.getElem?_eq_getElem (by omega)
    have hb := hp k _ hz
    have hg : ps.getD k 0 = ps[k]'(by omega) := by simp [List.getD, hz]
    have hp' : (ps.getD k 0).toNat < 100 := by rw [hg]; omega
    simp only [rootAt, valTo]
    exact root_step h1 h2 hp' (nextD_ok _ _ 9) (nextD_le _ _ 9) (nextD_max _ _ 9)
end Go.Proofs.Ytiephmkokkjbaaa
