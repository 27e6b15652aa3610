/- Accounts: the range tests of one account, and the copy that the laws make. No condition. -/
import Derived.Test.YtbjmpllnkkfgfaaBase
namespace Go.Proofs.Ytbjmpllnkkfgfaa
open Go.RowKit

/-- Is it a valid account? -/
def accB (p m l s d : Int) : Bool := ((((inB p 1 999 && inB m 0 1200) && inB l 0 31) && inB s 0 5) && inB d 0 100000)

set_option maxHeartbeats 400000 in
theorem isId_any (n : Int) (w : World) :
    Calls Try.prog 63 #[.int .i64 n] w fun e w' => e = .returned (.bool (inB n 1 999)) ∧ w = w' := by
  go_enter Try.func63, Try.ntmps63
  go_wp2_with (go_at_call 64; refine (within_any _ _ _ _).mono ?_; rintro e w' ⟨rfl, rfl⟩)
  go_ret
  exact ⟨rfl, rfl⟩
set_option maxHeartbeats 400000 in
theorem l14Month_any (n : Int) (w : World) :
    Calls Try.prog 91 #[.int .i64 n] w fun e w' => e = .returned (.bool (inB n 0 1200)) ∧ w = w' := by
  go_enter Try.func91, Try.ntmps91
  go_wp2_with (go_at_call 74; refine (l1In_any _ _ _ _).mono ?_; rintro e w' ⟨rfl, rfl⟩)
  go_ret
  exact ⟨rfl, rfl⟩
set_option maxHeartbeats 400000 in
theorem toAccount_any (p m l s d : Int) (w : World) :
    Calls Try.prog 16 #[.agg #[.int .i64 p, .int .i64 m, .int .i64 l, .int .i64 s, .int .i64 d]] w fun e w' => e = .returned (.agg #[.int .i64 p, .int .i64 m, .int .i64 l, .int .i64 s, .int .i64 d]) ∧ Below w.heap.size w w' := by
  go_enter Try.func16, Try.ntmps16
  go_wp2
  refine bodyPost_ret (v := .agg #[.int .i64 p, .int .i64 m, .int .i64 l, .int .i64 s, .int .i64 d]) (by simp [results, Try.results16, go_sem]) rfl ⟨rfl, ?_⟩
  repeat (first | exact Below.refl _ _ | refine Below.alloc ?_ (by first | omega | (simp; done) | (simp; omega)) _ | refine Below.setCell ?_ (by first | omega | (simp; done) | (simp; omega)) _)
set_option maxHeartbeats 1000000 in
theorem l14One_any (p m l s d : Int) (w : World) :
    Calls Try.prog 62 #[.agg #[.int .i64 p, .int .i64 m, .int .i64 l, .int .i64 s, .int .i64 d]] w fun e w' => e = .returned (.bool (accB p m l s d)) ∧ Below w.heap.size w w' := by
  go_enter Try.func62, Try.ntmps62
  go_wp2_with (first | (go_at_call 74; refine (l1In_any _ _ _ _).mono ?_; rintro e w' ⟨rfl, rfl⟩) | (go_at_call 91; refine (l14Month_any _ _).mono ?_; rintro e w' ⟨rfl, rfl⟩))
  all_goals
    go_ret
    refine ⟨by simp [accB, *], ?_⟩
    repeat (first | exact Below.refl _ _ | refine Below.alloc ?_ (by first | omega | (simp; done) | (simp; omega)) _ | refine Below.setCell ?_ (by first | omega | (simp; done) | (simp; omega)) _)
set_option maxHeartbeats 1000000 in
theorem iIsAccount_any (p m l s d : Int) (w : World) :
    Calls Try.prog 17 #[.agg #[.int .i64 p, .int .i64 m, .int .i64 l, .int .i64 s, .int .i64 d]] w fun e w' => e = .returned (.bool (accB p m l s d)) ∧ Below w.heap.size w w' := by
  go_enter Try.func17, Try.ntmps17
  go_wp2_with (first | (go_at_call 64; refine (within_any _ _ _ _).mono ?_; rintro e w' ⟨rfl, rfl⟩) | (go_at_call 63; refine (isId_any _ _).mono ?_; rintro e w' ⟨rfl, rfl⟩))
  all_goals
    go_ret
    refine ⟨by simp [accB, *], ?_⟩
    repeat (first | exact Below.refl _ _ | refine Below.alloc ?_ (by first | omega | (simp; done) | (simp; omega)) _ | refine Below.setCell ?_ (by first | omega | (simp; done) | (simp; omega)) _)
set_option maxHeartbeats 400000 in
theorem sIsAccount_any (p m l s d : Int) (w : World) :
    Calls Try.prog 15 #[.agg #[.int .i64 p, .int .i64 m, .int .i64 l, .int .i64 s, .int .i64 d]] w fun e w' => e = .returned (.bool (accB p m l s d)) ∧ Below w.heap.size w w' := by
  go_enter Try.func15, Try.ntmps15
  go_wp2_with (go_at_call 62; refine (l14One_any _ _ _ _ _ _).mono ?_; rintro e w' ⟨rfl, hb⟩)
  go_ret
  exact ⟨rfl, ext_trans (ext_alloc (Below.refl _ _) _) hb⟩
set_option maxHeartbeats 400000 in
theorem FnExactIsAccount_any (p m l s d : Int) (_ : (Lit.int .i64 p).wf = true) (_ : (Lit.int .i64 m).wf = true) (_ : (Lit.int .i64 l).wf = true) (_ : (Lit.int .i64 s).wf = true) (_ : (Lit.int .i64 d).wf = true) (w : World) :
    Calls Try.prog 3 #[.agg #[.int .i64 p, .int .i64 m, .int .i64 l, .int .i64 s, .int .i64 d]] w fun e w' => e = .returned (.bool true) ∧ Below w.heap.size w w' := by
  go_enter Try.func3, Try.ntmps3
  go_wp2_with fail
  refine (toAccount_any _ _ _ _ _ _).mono ?_
  rintro e w1 ⟨rfl, hb1⟩
  go_wp2_with fail
  refine (sIsAccount_any _ _ _ _ _ _).mono ?_
  rintro e w2 ⟨rfl, hb2⟩
  have hb := ext_trans hb1 hb2
  obtain ⟨hc, hf⟩ := bcell hb
  clear hb1 hb2
  go_wp2_with fail
  refine (toAccount_any _ _ _ _ _ _).mono ?_
  rintro e w3 ⟨rfl, hb3⟩
  go_wp2_with fail
  refine (iIsAccount_any _ _ _ _ _ _).mono ?_
  rintro e w4 ⟨rfl, hb4⟩
  go_wp2_with fail
  go_ret
  exact ⟨rfl, ext_trans (ext_alloc (Below.refl _ _) _) (ext_trans hb (ext_trans hb3 hb4))⟩
end Go.Proofs.Ytbjmpllnkkfgfaa
