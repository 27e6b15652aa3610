/- Chapter 10: quotients. No condition. -/
import Derived.Test.YteibpconehgnbaaTests
import Derived.Deep.QuietTactic
import Derived.BigQuiet
namespace Go.Proofs.Yteibpconehgnbaa
open Go.RowKit

/-- A dividend and a divisor. -/
def divV (a b : Int) : Bool := inB a 0 99999999 && inB b 1 9999
theorem divV_true {a b : Int} (h : divV a b = true) : 0 ≤ a ∧ a ≤ 99999999 ∧ 1 ≤ b ∧ b ≤ 9999 := by
  simp only [divV, Bool.and_eq_true] at h
  have h1 := inB_true h.1
  have h2 := inB_true h.2
  omega
theorem l10Asked_v (a b : Int) (w : World) :
    Calls Try.prog 39 #[.int .i64 a, .int .i64 b] w fun e w' => e = .returned (.bool (divV a b)) ∧ w = w' := l10Asked_any a b w
theorem isDivision_v (a b : Int) (w : World) :
    Calls Try.prog 41 #[.int .i64 a, .int .i64 b] w fun e w' => e = .returned (.bool (divV a b)) ∧ w = w' := isDivision_any a b w
/-- What QuotientOf gives. -/
def quoT (a b : Int) : Value := if divV a b = true then .tuple #[.int .i64 (a / b), .int .i64 (a % b), .bool true] else .tuple #[.int .i64 0, .int .i64 0, .bool false]

set_option maxHeartbeats 400000 in
theorem sQuotientOf_any (a b : Int) (w : World) :
    Calls Try.prog 14 #[.int .i64 a, .int .i64 b] w fun e w' => e = .returned (quoT a b) ∧ ∃ n, w' = w.drewN n := by
  by_cases h : divV a b = true
  · obtain ⟨a1, a2, b1, b2⟩ := divV_true h
    have hb : (b == 0) = false := by simp; omega
    go_enter Try.func14, Try.ntmps14
    go_wp2_with (go_at_call 39; refine (l10Asked_v _ _ _).mono ?_; rintro e w' ⟨rfl, rfl⟩)
    go_quiet (fail)
    go_wp2
    go_ret3
    exact ⟨by simp [quoT, h], _, rfl⟩
  · go_enter Try.func14, Try.ntmps14
    go_wp2_with (go_at_call 39; refine (l10Asked_v _ _ _).mono ?_; rintro e w' ⟨rfl, rfl⟩)
    go_ret3
    exact ⟨by simp [quoT, h], 0, rfl⟩
set_option maxHeartbeats 400000 in
theorem iQuotientOf_any (a b : Int) (w : World) :
    Calls Try.prog 15 #[.int .i64 a, .int .i64 b] w fun e w' => e = .returned (quoT a b) ∧ ∃ n, w' = w.drewN n := by
  by_cases h : divV a b = true
  · obtain ⟨a1, a2, b1, b2⟩ := divV_true h
    have hb : (b == 0) = false := by simp; omega
    go_enter Try.func15, Try.ntmps15
    go_wp2_with (go_at_call 41; refine (isDivision_v _ _ _).mono ?_; rintro e w' ⟨rfl, rfl⟩)
    go_quiet (fail)
    go_wp2
    go_ret3
    exact ⟨by simp [quoT, h], _, rfl⟩
  · go_enter Try.func15, Try.ntmps15
    go_wp2_with (go_at_call 41; refine (isDivision_v _ _ _).mono ?_; rintro e w' ⟨rfl, rfl⟩)
    go_ret3
    exact ⟨by simp [quoT, h], 0, rfl⟩
set_option maxHeartbeats 400000 in
theorem FnExactQuotientOf_any (a : Int) (_ : (Lit.int .i64 a).wf = true) (b : Int) (_ : (Lit.int .i64 b).wf = true) (w : World) :
    Calls Try.prog 4 #[.int .i64 a, .int .i64 b] w fun e w' => e = .returned (.bool true) ∧ Below w.heap.size w w' := by
  by_cases h : divV a b = true
  · have hq : quoT a b = .tuple #[.int .i64 (a / b), .int .i64 (a % b), .bool true] := by simp [quoT, h]
    clear h
    go_enter Try.func4, Try.ntmps4
    go_wp2_with (first | (go_at_call 14; refine (sQuotientOf_any _ _ _).mono ?_; rintro e w' ⟨rfl, n, rfl⟩) | (go_at_call 15; refine (iQuotientOf_any _ _ _).mono ?_; rintro e w' ⟨rfl, m, rfl⟩))
    go_ret
    exact ⟨rfl, below_drewN _ _⟩
  · have hq : quoT a b = .tuple #[.int .i64 0, .int .i64 0, .bool false] := by simp [quoT, h]
    clear h
    go_enter Try.func4, Try.ntmps4
    go_wp2_with (first | (go_at_call 14; refine (sQuotientOf_any _ _ _).mono ?_; rintro e w' ⟨rfl, n, rfl⟩) | (go_at_call 15; refine (iQuotientOf_any _ _ _).mono ?_; rintro e w' ⟨rfl, m, rfl⟩))
    go_ret
    exact ⟨rfl, below_drewN _ _⟩
/-- What CheckDivision tells. -/
def chkV (a b q r : Int) : Bool := (divV a b && inB q 0 99999999) && inB r 0 9999
def chkB (a b q r : Int) : Bool := chkV a b q r && (q == a / b && r == a % b)
set_option maxHeartbeats 400000 in
theorem sCheckDivision_any (a b q r : Int) (w : World) :
    Calls Try.prog 12 #[.int .i64 a, .int .i64 b, .int .i64 q, .int .i64 r] w fun e w' => e = .returned (.tuple #[.bool (chkB a b q r), .bool (chkV a b q r)]) ∧ w = w' := by
  by_cases h : divV a b = true
  · obtain ⟨a1, a2, b1, b2⟩ := divV_true h
    have hb : (b == 0) = false := by simp; omega
    cases hq : inB q 0 99999999 <;> cases hr : inB r 0 9999 <;> cases he : (q == a / b)
    all_goals
      go_enter Try.func12, Try.ntmps12
      go_wp2_with (first | (go_at_call 39; refine (l10Asked_v _ _ _).mono ?_; rintro e w' ⟨rfl, rfl⟩) | (go_at_call 40; refine (l1In_any _ _ _ _).mono ?_; rintro e w' ⟨rfl, rfl⟩))
      go_ret2
      exact ⟨by simp [chkB, chkV, h, hq, hr, he], rfl⟩
  · go_enter Try.func12, Try.ntmps12
    go_wp2_with (first | (go_at_call 39; refine (l10Asked_v _ _ _).mono ?_; rintro e w' ⟨rfl, rfl⟩) | (go_at_call 40; refine (l1In_any _ _ _ _).mono ?_; rintro e w' ⟨rfl, rfl⟩))
    go_ret2
    exact ⟨by simp [chkB, chkV, h], rfl⟩
set_option maxHeartbeats 400000 in
theorem iCheckDivision_any (a b q r : Int) (w : World) :
    Calls Try.prog 13 #[.int .i64 a, .int .i64 b, .int .i64 q, .int .i64 r] w fun e w' => e = .returned (.tuple #[.bool (chkB a b q r), .bool (chkV a b q r)]) ∧ w = w' := by
  by_cases h : divV a b = true
  · obtain ⟨a1, a2, b1, b2⟩ := divV_true h
    have hb : (b == 0) = false := by simp; omega
    cases hq : inB q 0 99999999 <;> cases hr : inB r 0 9999 <;> cases he : (q == a / b)
    all_goals
      go_enter Try.func13, Try.ntmps13
      go_wp2_with (first | (go_at_call 41; refine (isDivision_v _ _ _).mono ?_; rintro e w' ⟨rfl, rfl⟩) | (go_at_call 43; refine (within_any _ _ _ _).mono ?_; rintro e w' ⟨rfl, rfl⟩) | (go_at_call 42; refine (isDividend_any _ _).mono ?_; rintro e w' ⟨rfl, rfl⟩))
      go_ret2
      exact ⟨by simp [chkB, chkV, h, hq, hr, he], rfl⟩
  · go_enter Try.func13, Try.ntmps13
    go_wp2_with (first | (go_at_call 41; refine (isDivision_v _ _ _).mono ?_; rintro e w' ⟨rfl, rfl⟩) | (go_at_call 43; refine (within_any _ _ _ _).mono ?_; rintro e w' ⟨rfl, rfl⟩) | (go_at_call 42; refine (isDividend_any _ _).mono ?_; rintro e w' ⟨rfl, rfl⟩))
    go_ret2
    exact ⟨by simp [chkB, chkV, h], rfl⟩
set_option maxHeartbeats 400000 in
theorem FnExactCheckDivision_any (a : Int) (_ : (Lit.int .i64 a).wf = true) (b : Int) (_ : (Lit.int .i64 b).wf = true) (q : Int) (_ : (Lit.int .i64 q).wf = true) (r : Int) (_ : (Lit.int .i64 r).wf = true) (w : World) :
    Calls Try.prog 3 #[.int .i64 a, .int .i64 b, .int .i64 q, .int .i64 r] w fun e w' => e = .returned (.bool true) ∧ Below w.heap.size w w' := by
  go_enter Try.func3, Try.ntmps3
  go_wp2_with (first | (go_at_call 12; refine (sCheckDivision_any _ _ _ _ _).mono ?_; rintro e w' ⟨rfl, rfl⟩) | (go_at_call 13; refine (iCheckDivision_any _ _ _ _ _).mono ?_; rintro e w' ⟨rfl, rfl⟩))
  go_ret
  exact ⟨rfl, Below.refl _ _⟩
end Go.Proofs.Yteibpconehgnbaa
