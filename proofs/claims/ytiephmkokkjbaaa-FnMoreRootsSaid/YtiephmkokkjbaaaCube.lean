/- Chapter 12: the whole cube root: the program's loop and the reference's. No condition. -/
import Derived.Test.YtiephmkokkjbaaaTests
import Derived.Lib.Hide
namespace Go.Proofs.Ytiephmkokkjbaaa
open Go.RowKit

theorem cube_mono {k m : Nat} (h : k ≤ m) : k * k * k ≤ m * m * m := Nat.mul_le_mul (Nat.mul_le_mul h h) h
/-- The greatest k with k*k*k <= n, sought from below. -/
def cubeUp (n : Nat) : Nat → Nat → Nat
  | 0, k => k
  | f + 1, k => if (k + 1) * (k + 1) * (k + 1) ≤ n then cubeUp n f (k + 1) else k
def cube (n : Nat) : Nat := cubeUp n 1000 0
theorem cubeUp_step (n f k : Nat) (h : (k + 1) * (k + 1) * (k + 1) ≤ n) : cubeUp n (f + 1) k = cubeUp n f (k + 1) := by rw [cubeUp, if_pos h]
theorem cubeUp_reach (n : Nat) : ∀ k f, k * k * k ≤ n → cubeUp n (f + k) 0 = cubeUp n f k := by
  intro k
  induction k with
  | zero => intro f _; rfl
  | succ k ih =>
    intro f h
    have hk : k * k * k ≤ n := Nat.le_trans (cube_mono (by omega)) h
    have := ih (f + 1) hk
    rw [show f + (k + 1) = f + 1 + k from by omega, this, cubeUp_step n f k h]
theorem cube_is {n k : Nat} (h1 : k * k * k ≤ n) (h2 : ¬ (k + 1) * (k + 1) * (k + 1) ≤ n) (hk : k ≤ 500) : cube n = k := by
  have h := cubeUp_reach n k (1000 - k) h1
  rw [show 1000 - k + k = 1000 from by omega] at h
  unfold cube
  rw [h]
  obtain ⟨f, hf⟩ : ∃ f, 1000 - k = f + 1 := ⟨999 - k, by omega⟩
  rw [hf, cubeUp, if_neg h2]
/-- A whole root found upwards is small. -/
theorem cube_small {n k : Nat} (h : k * k * k ≤ n) (hn : n ≤ 99999999) : k ≤ 464 := by
  rcases Nat.lt_or_ge 464 k with hk | hk
  · have := cube_mono (show 465 ≤ k from hk)
    omega
  · exact hk
theorem cube_cast (k : Nat) : ((k : Int) + 1) * ((k : Int) + 1) * ((k : Int) + 1) = (((k + 1) * (k + 1) * (k + 1) : Nat) : Int) := by simp
theorem cube_up {k : Nat} (hk : k ≤ 464) : (k + 1) * (k + 1) * (k + 1) ≤ 100544625 := by
  have := cube_mono (show k + 1 ≤ 465 by omega)
  omega
theorem sq_up {k : Nat} (hk : k ≤ 464) : (k + 1) * (k + 1) ≤ 216225 := by
  have := Nat.mul_le_mul (show k + 1 ≤ 465 by omega) (show k + 1 ≤ 465 by omega)
  omega

def cubeT (n : Int) : Value := if inB n 0 99999999 = true then .tuple #[.int .i64 (cube n.toNat), .bool true] else .tuple #[.int .i64 0, .bool false]

theorem cube_facts {k : Nat} (hk : k ≤ 464) : 0 ≤ ((k : Int) + 1) * ((k : Int) + 1) ∧ ((k : Int) + 1) * ((k : Int) + 1) ≤ 216225 ∧
    0 ≤ ((k : Int) + 1) * ((k : Int) + 1) * ((k : Int) + 1) ∧ ((k : Int) + 1) * ((k : Int) + 1) * ((k : Int) + 1) ≤ 100544625 := by
  have h1 := sq_up hk
  have h2 := cube_up hk
  have e1 : ((k : Int) + 1) * ((k : Int) + 1) = (((k + 1) * (k + 1) : Nat) : Int) := by simp
  rw [cube_cast, e1]
  omega
theorem cube_wrap {k : Nat} (hk : k ≤ 464) : wrap64 (wrap64 (((k : Int) + 1) * ((k : Int) + 1)) * ((k : Int) + 1)) = ((k : Int) + 1) * ((k : Int) + 1) * ((k : Int) + 1) := by
  obtain ⟨f1, f2, f3, f4⟩ := cube_facts hk
  rw [IntWalk.wrap64_in (((k : Int) + 1) * ((k : Int) + 1)) ⟨by omega, by omega⟩, IntWalk.wrap64_in _ ⟨by omega, by omega⟩]
theorem cube_wrap_le {m k : Nat} (hk : k ≤ 464) (h : wrap64 (wrap64 (((k : Int) + 1) * ((k : Int) + 1)) * ((k : Int) + 1)) ≤ (m : Int)) : ((k : Int) + 1) * ((k : Int) + 1) * ((k : Int) + 1) ≤ (m : Int) := by
  rwa [cube_wrap hk] at h
theorem cube_wrap_gt {m k : Nat} (hk : k ≤ 464) (h : (m : Int) < wrap64 (wrap64 (((k : Int) + 1) * ((k : Int) + 1)) * ((k : Int) + 1))) : (m : Int) < ((k : Int) + 1) * ((k : Int) + 1) * ((k : Int) + 1) := by
  rwa [cube_wrap hk] at h
theorem cube_end {m k : Nat} (h1 : k * k * k ≤ m) (h2 : (m : Int) < ((k : Int) + 1) * ((k : Int) + 1) * ((k : Int) + 1)) (hk : k ≤ 464) : (k : Int) = (cube (m : Int).toNat : Nat) := by
  rw [cube_cast] at h2
  rw [Int.toNat_natCast, cube_is h1 (by omega) (by omega)]
theorem cube_next {m k : Nat} (h : ((k : Int) + 1) * ((k : Int) + 1) * ((k : Int) + 1) ≤ (m : Int)) : (k + 1) * (k + 1) * (k + 1) ≤ m := by
  rw [cube_cast] at h
  omega

set_option maxHeartbeats 400000 in
theorem sCubeRoot_any (n : Int) (w : World) :
    Calls Try.prog 14 #[.int .i64 n] w fun e w' => e = .returned (cubeT n) ∧ w = w' := by
  by_cases h : inB n 0 99999999 = true
  · obtain ⟨n1, n2⟩ := inB_true h
    obtain ⟨m, rfl⟩ := Int.eq_ofNat_of_zero_le n1
    have ht : cubeT (m : Int) = .tuple #[.int .i64 (cube (m : Int).toNat), .bool true] := by simp only [cubeT, if_pos h]
    have HT := Lib.hid ht
    clear ht
    go_enter Try.func14, Try.ntmps14
    go_wp2_with (go_at_call 53; refine (l12Good_any _ _).mono ?_; rintro e w' ⟨rfl, rfl⟩)
    go_loop [4] (fun i => ∃ k : Nat, i = .int .i64 k ∧ k ≤ 464 ∧ k * k * k ≤ m) (fun i => 500 - (intOf i).toNat)
    case atStart => exact ⟨0, rfl, by omega, by omega⟩
    case round =>
      obtain ⟨k, rfl, hk, hkk⟩ := hrel
      have HK := Lib.hid hkk
      clear hkk
      go_wp2
      · have hle := cube_wrap_le hk (by assumption : wrap64 (wrap64 (((k : Int) + 1) * ((k : Int) + 1)) * ((k : Int) + 1)) ≤ (m : Int))
        go_round
        case rel => exact ⟨k + 1, by go_num, cube_small (n := m) (cube_next hle) (by omega), cube_next hle⟩
        case measure => simp [intOf]; omega
      · have hgt := cube_wrap_gt hk (by assumption : (m : Int) < wrap64 (wrap64 (((k : Int) + 1) * ((k : Int) + 1)) * ((k : Int) + 1)))
        go_ret2
        exact ⟨by rw [HT.out, ← cube_end HK.out hgt hk]; rfl, rfl⟩
  · go_enter Try.func14, Try.ntmps14
    go_wp2_with (go_at_call 53; refine (l12Good_any _ _).mono ?_; rintro e w' ⟨rfl, rfl⟩)
    go_ret2
    exact ⟨by simp [cubeT, h], rfl⟩
set_option maxHeartbeats 400000 in
theorem iCubeRoot_any (n : Int) (w : World) :
    Calls Try.prog 15 #[.int .i64 n] w fun e w' => e = .returned (cubeT n) ∧ w = w' := by
  by_cases h : inB n 0 99999999 = true
  · obtain ⟨n1, n2⟩ := inB_true h
    obtain ⟨m, rfl⟩ := Int.eq_ofNat_of_zero_le n1
    have ht : cubeT (m : Int) = .tuple #[.int .i64 (cube (m : Int).toNat), .bool true] := by simp only [cubeT, if_pos h]
    have HT := Lib.hid ht
    clear ht
    go_enter Try.func15, Try.ntmps15
    go_wp2_with (go_at_call 54; refine (isDividend_any _ _).mono ?_; rintro e w' ⟨rfl, rfl⟩)
    go_loop [4] (fun i => ∃ k : Nat, i = .int .i64 k ∧ k ≤ 464 ∧ k * k * k ≤ m) (fun i => 500 - (intOf i).toNat)
    case atStart => exact ⟨0, rfl, by omega, by omega⟩
    case round =>
      obtain ⟨k, rfl, hk, hkk⟩ := hrel
      have HK := Lib.hid hkk
      clear hkk
      go_wp2
      · have hle := cube_wrap_le hk (by assumption : wrap64 (wrap64 (((k : Int) + 1) * ((k : Int) + 1)) * ((k : Int) + 1)) ≤ (m : Int))
        go_round
        case rel => exact ⟨k + 1, by go_num, cube_small (n := m) (cube_next hle) (by omega), cube_next hle⟩
        case measure => simp [intOf]; omega
      · have hgt := cube_wrap_gt hk (by assumption : (m : Int) < wrap64 (wrap64 (((k : Int) + 1) * ((k : Int) + 1)) * ((k : Int) + 1)))
        go_ret2
        exact ⟨by rw [HT.out, ← cube_end HK.out hgt hk]; rfl, rfl⟩
  · go_enter Try.func15, Try.ntmps15
    go_wp2_with (go_at_call 54; refine (isDividend_any _ _).mono ?_; rintro e w' ⟨rfl, rfl⟩)
    go_ret2
    exact ⟨by simp [cubeT, h], rfl⟩
set_option maxHeartbeats 400000 in
theorem FnExactCubeRoot_any (n : Int) (_ : (Lit.int .i64 n).wf = true) (w : World) :
    Calls Try.prog 3 #[.int .i64 n] w fun e w' => e = .returned (.bool true) ∧ Below w.heap.size w w' := by
  obtain ⟨a, b, hq⟩ : ∃ (a : Int) (b : Bool), cubeT n = .tuple #[.int .i64 a, .bool b] := by
    unfold cubeT
    split
    · exact ⟨_, _, rfl⟩
    · exact ⟨_, _, rfl⟩
  go_enter Try.func3, Try.ntmps3
  go_wp2_with (first | (go_at_call 14; refine (sCubeRoot_any _ _).mono ?_; rintro e w' ⟨rfl, rfl⟩) | (go_at_call 15; refine (iCubeRoot_any _ _).mono ?_; rintro e w' ⟨rfl, rfl⟩))
  go_ret
  exact ⟨rfl, Below.refl _ _⟩
end Go.Proofs.Ytiephmkokkjbaaa
