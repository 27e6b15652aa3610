/- The sum of a list of numbers. -/
import Derived.Test.YteibpconehgnbaaSlices
namespace Go.Proofs.Yteibpconehgnbaa
open Go.RowKit

/-- The sum of the first k numbers. -/
def sumTo (zs : List Int) : Nat → Int
  | 0 => 0
  | k + 1 => sumTo zs k + zs.getD k 0
theorem sumTo_succ {zs : List Int} {k : Nat} {z : Int} (hz : zs[k]? = some z) : sumTo zs (k + 1) = sumTo zs k + z := by
  have : zs.getD k 0 = z := by simp [List.getD, hz]
  simp only [sumTo, this]
theorem sumTo_bd {zs : List Int} {M : Int} (hM : 0 ≤ M) (h : ∀ z ∈ zs, -M ≤ z ∧ z ≤ M) : ∀ k, k ≤ zs.length → -(k * M) ≤ sumTo zs k ∧ sumTo zs k ≤ k * M
  | 0, _ => by simp [sumTo]
  | k + 1, hk => by
    have ih := sumTo_bd hM h k (by omega)
    have hz : zs[k]? = some (zs[k]'(by omega)) := List.getElem?_eq_getElem (by omega)
    have hb := h _ (List.mem_of_getElem? hz)
    rw [sumTo_succ hz]
    have e : ((k + 1 : Nat) : Int) * M = k * M + M := by rw [Int.natCast_add, Int.add_mul]; simp
    rw [e]
    omega
set_option maxHeartbeats 400000 in
theorem sum_any (A : Option Addr) (n c B : Nat) (zs : List Int) (w : World) (hr : Reads w B 1 A n (zs.map (Value.int .i64))) (hn : n ≤ 1000000) (hz : ∀ z ∈ zs, -1000000000000 ≤ z ∧ z ≤ 1000000000000) :
    Calls Try.prog 49 #[.slice A n c] w fun e w' => e = .returned (.int .i64 (sumTo zs n)) ∧ w = w' := by
  have hl := hr.len
  have hbd : ∀ k, k ≤ n → -1000000000000000000 ≤ sumTo zs k ∧ sumTo zs k ≤ 1000000000000000000 := fun k hk => by
    have := sumTo_bd (M := 1000000000000) (by omega) hz k (by omega)
    omega
  have HR := Lib.hid hr
  have HB := Lib.hid hbd
  have HZ := Lib.hid hz
  clear hr hl hbd hz
  go_enter Try.func49, Try.ntmps49
  go_wp2
  go_loop [3, 8] (fun t i => ∃ k : Nat, i = .int .i64 k ∧ k ≤ n ∧ t = .int .i64 (sumTo zs k)) (fun _ i => n - (intOf i).toNat)
  case atStart => exact ⟨0, rfl, by omega, rfl⟩
  case round =>
    obtain ⟨k, rfl, hk, rfl⟩ := hrel
    by_cases hlt : k < n
    · obtain ⟨b, o, z, rfl, hz, hcell⟩ := HR.out.int hlt
      obtain ⟨s1, s2⟩ := HB.out k hk
      obtain ⟨z1, z2⟩ := HZ.out z (List.mem_of_getElem? hz)
      have HS := Lib.hid (sumTo_succ hz)
      clear hz
      go_wp2
      go_round
      case rel => exact ⟨k + 1, by go_num, by omega, by rw [HS.out]⟩
      case measure => simp [intOf]; omega
    · have hk' : k = n := by omega
      subst hk'
      go_wp2
      go_ret
      exact ⟨rfl, rfl⟩
end Go.Proofs.Yteibpconehgnbaa
