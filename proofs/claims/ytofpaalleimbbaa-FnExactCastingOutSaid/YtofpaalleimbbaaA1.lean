/- CastingOut -/
import Derived.Test.YtofpaalleimbbaaTests
import Derived.Lib.Hide
namespace Go.Proofs.Ytofpaalleimbbaa
open Go.RowKit

def castV (a b p : Int) : Bool := (inB a 0 9999 && inB b 0 9999) && decide (0 ≤ p)
def castB (a b p : Int) : Bool := castV a b p && (p % 9 == a * b % 9)

set_option maxHeartbeats 400000 in
theorem sCastingOut_any (a b p : Int) (w : World) :
    Calls Try.prog 9 #[.int .i64 a, .int .i64 b, .int .i64 p] w fun e w' => e = .returned (.tuple #[.bool (castB a b p), .bool (castV a b p)]) ∧ w = w' := by
  by_cases h : (inB a 0 9999 && inB b 0 9999) = true
  · have h' := h
    simp only [Bool.and_eq_true] at h'
    obtain ⟨a1, a2⟩ := inB_true h'.1
    obtain ⟨b1, b2⟩ := inB_true h'.2
    obtain ⟨m1, m2⟩ := mul_bd a1 a2 b1 b2
    clear h'
    rcases Int.lt_or_le p 0 with h3 | h3
    · go_enter Try.func9, Try.ntmps9
      go_wp2_with (go_at_call 23; refine (l9Both_any _ _ _).mono ?_; rintro e w' ⟨rfl, rfl⟩)
      go_ret2
      exact ⟨by simp [castB, castV, h, Int.not_le.2 h3], rfl⟩
    · go_enter Try.func9, Try.ntmps9
      go_wp2_with (go_at_call 23; refine (l9Both_any _ _ _).mono ?_; rintro e w' ⟨rfl, rfl⟩)
      go_ret2
      exact ⟨by simp [castB, castV, h, h3, Bool.beq_comm], rfl⟩
  · go_enter Try.func9, Try.ntmps9
    go_wp2_with (go_at_call 23; refine (l9Both_any _ _ _).mono ?_; rintro e w' ⟨rfl, rfl⟩)
    go_ret2
    exact ⟨by simp [castB, castV, h], rfl⟩
set_option maxHeartbeats 400000 in
theorem iCastingOut_any (a b p : Int) (w : World) :
    Calls Try.prog 10 #[.int .i64 a, .int .i64 b, .int .i64 p] w fun e w' => e = .returned (.tuple #[.bool (castB a b p), .bool (castV a b p)]) ∧ w = w' := by
  by_cases h : (inB a 0 9999 && inB b 0 9999) = true
  · have h' := h
    simp only [Bool.and_eq_true] at h'
    obtain ⟨a1, a2⟩ := inB_true h'.1
    obtain ⟨b1, b2⟩ := inB_true h'.2
    obtain ⟨m1, m2⟩ := mul_bd a1 a2 b1 b2
    clear h'
    rcases Int.lt_or_le p 0 with h3 | h3
    · go_enter Try.func10, Try.ntmps10
      go_wp2_with (go_at_call 24; refine (areFactors_any _ _ _).mono ?_; rintro e w' ⟨rfl, rfl⟩)
      go_ret2
      exact ⟨by simp [castB, castV, h, Int.not_le.2 h3], rfl⟩
    · go_enter Try.func10, Try.ntmps10
      go_wp2_with (go_at_call 24; refine (areFactors_any _ _ _).mono ?_; rintro e w' ⟨rfl, rfl⟩)
      go_ret2
      exact ⟨by simp [castB, castV, h, h3], rfl⟩
  · go_enter Try.func10, Try.ntmps10
    go_wp2_with (go_at_call 24; refine (areFactors_any _ _ _).mono ?_; rintro e w' ⟨rfl, rfl⟩)
    go_ret2
    exact ⟨by simp [castB, castV, h], rfl⟩
set_option maxHeartbeats 400000 in
theorem FnExactCastingOut_any (a : Int) (_ : (Lit.int .i64 a).wf = true) (b : Int) (_ : (Lit.int .i64 b).wf = true) (p : Int) (_ : (Lit.int .i64 p).wf = true) (w : World) :
    Calls Try.prog 3 #[.int .i64 a, .int .i64 b, .int .i64 p] w fun e w' => e = .returned (.bool true) ∧ Below w.heap.size w w' := by
  go_enter Try.func3, Try.ntmps3
  go_wp2_with (first | (go_at_call 9; refine (sCastingOut_any _ _ _ _).mono ?_; rintro e w' ⟨rfl, rfl⟩) | (go_at_call 10; refine (iCastingOut_any _ _ _ _).mono ?_; rintro e w' ⟨rfl, rfl⟩))
  go_ret
  exact ⟨rfl, Below.refl _ _⟩
end Go.Proofs.Ytofpaalleimbbaa
