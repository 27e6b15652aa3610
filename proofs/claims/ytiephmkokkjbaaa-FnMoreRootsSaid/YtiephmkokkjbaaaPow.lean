/- Powers of ten. No condition beyond the exponent's size. -/
import Derived.Test.YtiephmkokkjbaaaBase
import Derived.Lib.Hide
namespace Go.Proofs.Ytiephmkokkjbaaa
open Go.RowKit

/-- Ten to the k. -/
def pow10 (k : Nat) : Int := 10 ^ k
theorem pow10_zero : pow10 0 = 1 := rfl
theorem pow10_succ (k : Nat) : pow10 (k + 1) = pow10 k * 10 := Int.pow_succ 10 k
theorem pow10_pos (k : Nat) : 1 ≤ pow10 k := by
  induction k with
  | zero => decide
  | succ k ih => rw [pow10_succ]; omega
theorem pow10_le {j k : Nat} (h : j ≤ k) : pow10 j ≤ pow10 k := by
  induction k with
  | zero => have : j = 0 := by omega
            subst this; exact Int.le_refl _
  | succ k ih =>
    rcases Nat.lt_or_ge k j with hk | hk
    · have : j = k + 1 := by omega
      subst this; exact Int.le_refl _
    · have := ih hk
      have := pow10_pos k
      rw [pow10_succ]; omega
theorem pow10_17 : pow10 17 = 100000000000000000 := rfl
theorem pow10_18 : pow10 18 = 1000000000000000000 := rfl
theorem pow10_bd {j : Nat} (h : j ≤ 17) : 1 ≤ pow10 j ∧ pow10 j ≤ 100000000000000000 := ⟨pow10_pos j, by rw [← pow10_17]; exact pow10_le h⟩

set_option maxHeartbeats 400000 in
theorem power_any (n : Int) (hn : n ≤ 18) (w : World) :
    Calls Try.prog 62 #[.int .i64 n] w fun e w' => e = .returned (.int .i64 (pow10 n.toNat)) ∧ w = w' := by
  rcases Int.lt_or_le n 0 with h0 | h0
  · have e0 : n.toNat = 0 := by omega
    have E0 := Lib.hid e0
    clear e0
    go_enter Try.func62, Try.ntmps62
    go_wp2
    refine wp_loop_rounds 1 ?_
    rw [rounds_succ]
    go_wp2
    go_ret
    exact ⟨by rw [E0.out]; rfl, rfl⟩
  · obtain ⟨N, rfl⟩ := Int.eq_ofNat_of_zero_le h0
    have h18 : N ≤ 18 := by omega
    clear h0 hn
    go_enter Try.func62, Try.ntmps62
    go_wp2
    go_loop [0, 3] (fun t v => ∃ m : Nat, m ≤ N ∧ t = .int .i64 (m : Int) ∧ v = .int .i64 (pow10 (N - m))) (fun t _ => (intOf t).toNat)
    case atStart => exact ⟨N, by omega, rfl, by simp [pow10_zero]⟩
    case round =>
      obtain ⟨m, hm, rfl, rfl⟩ := hrel
      by_cases hp : 0 < m
      · obtain ⟨p1, p2⟩ := pow10_bd (j := N - m) (by omega)
        have hs : pow10 (N - (m - 1)) = pow10 (N - m) * 10 := by rw [← pow10_succ]; congr 1; omega
        have HS := Lib.hid hs
        clear hs
        have hp' : (0 : Int) < (m : Int) := by omega
        go_wp2
        go_round
        case rel => exact ⟨m - 1, by omega, by simp; omega, by rw [HS.out]⟩
        case measure => simp [intOf]; omega
      · have hm0 : m = 0 := by omega
        subst hm0
        go_wp2
        go_ret
        exact ⟨rfl, rfl⟩
set_option maxHeartbeats 400000 in
theorem l2Power_any (n : Int) (hn : n ≤ 18) (w : World) :
    Calls Try.prog 60 #[.int .i64 n] w fun e w' => e = .returned (.int .i64 (pow10 n.toNat)) ∧ w = w' := by
  go_enter Try.func60, Try.ntmps60
  go_wp2
  go_loop [3, 4] (fun v i => ∃ k : Nat, (k : Int) ≤ max n 0 ∧ i = .int .i64 (k : Int) ∧ v = .int .i64 (pow10 k)) (fun _ i => (max n 0).toNat - (intOf i).toNat)
  case atStart => exact ⟨0, by omega, rfl, rfl⟩
  case round =>
    obtain ⟨k, hk, rfl, rfl⟩ := hrel
    by_cases hp : (k : Int) < n
    · obtain ⟨p1, p2⟩ := pow10_bd (j := k) (by omega)
      have hs := pow10_succ k
      have HS := Lib.hid hs
      clear hs
      go_wp2
      go_round
      case rel => exact ⟨k + 1, by omega, by go_num, by rw [HS.out, Int.mul_comm]⟩
      case measure => simp [intOf]; omega
    · have hk' : k = n.toNat := by omega
      have HK := Lib.hid hk'
      clear hk'
      go_wp2
      go_ret
      exact ⟨by rw [← HK.out]; rfl, rfl⟩
end Go.Proofs.Ytiephmkokkjbaaa
