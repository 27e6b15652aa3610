/- Lessons: the range tests of one lesson, and the copy that the laws make. No condition. -/
import Derived.Test.YtnndhgeddfghcaaSlices
namespace Go.Proofs.Ytnndhgeddfghcaa
open Go.RowKit

/-- May a lesson begin at b and last m minutes? -/
def slotB (b m : Int) : Bool := inB b 480 1140 && hasB [30, 45, 60, 90] m
/-- Is it a valid lesson? -/
def lesB (i c t r d b m : Int) : Bool := ((((inB i 1 99 && inB c 1 9) && inB t 1 20) && inB r 1 9) && inB d 0 6) && slotB b m
/-- The four lengths as they are laid into a new block. -/
theorem reads4 (w : World) (T : TypeId) : Reads (w.alloc (.cells #[.int .i64 30, .int .i64 45, .int .i64 60, .int .i64 90] T)) (w.heap.size + 1) 1 (some ⟨w.heap.size, 0, none⟩) 4 ([30, 45, 60, 90].map (Value.int .i64)) := by
  refine ⟨rfl, fun _ => ⟨_, rfl, by simp, fun j u hu => ?_⟩⟩
  rw [Addr.add_lit, World.cell?_alloc_new]
  match j, hu with
  | 0, hu => simpa using hu
  | 1, hu => simpa using hu
  | 2, hu => simpa using hu
  | 3, hu => simpa using hu
  | j + 4, hu => simp at hu

set_option maxHeartbeats 400000 in
theorem isSlot_any (b m : Int) (w : World) :
    Calls Try.prog 65 #[.int .i64 b, .int .i64 m] w fun e w' => e = .returned (.bool (slotB b m)) ∧ Below w.heap.size w w' := by
  cases h : inB b 480 1140
  · go_enter Try.func65, Try.ntmps65
    go_wp2_with (first | (go_at_call 62; refine (within_any _ _ _ _).mono ?_; rintro e w' ⟨rfl, rfl⟩))
    go_ret
    exact ⟨by simp [slotB, h], Below.refl _ _⟩
  · go_enter Try.func65, Try.ntmps65
    go_wp2_with (first | (go_at_call 62; refine (within_any _ _ _ _).mono ?_; rintro e w' ⟨rfl, rfl⟩) | (go_at_call 94; refine (has_any _ _ _ _ _ _ _ (reads4 _ _) (by decide)).mono ?_; rintro e w' ⟨rfl, rfl⟩))
    go_ret
    exact ⟨by simp [slotB, h], ext_alloc (Below.refl _ _) _⟩
set_option maxHeartbeats 400000 in
theorem l11Time_any (b m : Int) (w : World) :
    Calls Try.prog 82 #[.int .i64 b, .int .i64 m] w fun e w' => e = .returned (.bool (slotB b m)) ∧ Below w.heap.size w w' := by
  cases h : inB b 480 1140
  · go_enter Try.func82, Try.ntmps82
    go_wp2_with (first | (go_at_call 93; refine (l1In_any _ _ _ _).mono ?_; rintro e w' ⟨rfl, rfl⟩))
    go_ret
    exact ⟨by simp [slotB, h], Below.refl _ _⟩
  · go_enter Try.func82, Try.ntmps82
    go_wp2_with (first | (go_at_call 93; refine (l1In_any _ _ _ _).mono ?_; rintro e w' ⟨rfl, rfl⟩) | (go_at_call 95; refine (l1Has_any _ _ _ _ _ _ _ (reads4 _ _) (by decide)).mono ?_; rintro e w' ⟨rfl, rfl⟩))
    go_ret
    exact ⟨by simp [slotB, h], ext_alloc (Below.refl _ _) _⟩
set_option maxHeartbeats 400000 in
theorem isClass_any (n : Int) (w : World) :
    Calls Try.prog 63 #[.int .i64 n] w fun e w' => e = .returned (.bool (inB n 1 9)) ∧ w = w' := by
  go_enter Try.func63, Try.ntmps63
  go_wp2_with (go_at_call 62; refine (within_any _ _ _ _).mono ?_; rintro e w' ⟨rfl, rfl⟩)
  go_ret
  exact ⟨rfl, rfl⟩
set_option maxHeartbeats 400000 in
theorem isWeekday_any (n : Int) (w : World) :
    Calls Try.prog 64 #[.int .i64 n] w fun e w' => e = .returned (.bool (inB n 0 6)) ∧ w = w' := by
  go_enter Try.func64, Try.ntmps64
  go_wp2_with (go_at_call 62; refine (within_any _ _ _ _).mono ?_; rintro e w' ⟨rfl, rfl⟩)
  go_ret
  exact ⟨rfl, rfl⟩
set_option maxHeartbeats 400000 in
theorem l11Class_any (n : Int) (w : World) :
    Calls Try.prog 73 #[.int .i64 n] w fun e w' => e = .returned (.bool (inB n 1 9)) ∧ w = w' := by
  go_enter Try.func73, Try.ntmps73
  go_wp2_with (go_at_call 93; refine (l1In_any _ _ _ _).mono ?_; rintro e w' ⟨rfl, rfl⟩)
  go_ret
  exact ⟨rfl, rfl⟩
set_option maxHeartbeats 400000 in
theorem l11Week_any (n : Int) (w : World) :
    Calls Try.prog 81 #[.int .i64 n] w fun e w' => e = .returned (.bool (inB n 0 6)) ∧ w = w' := by
  go_enter Try.func81, Try.ntmps81
  go_wp2_with (go_at_call 93; refine (l1In_any _ _ _ _).mono ?_; rintro e w' ⟨rfl, rfl⟩)
  go_ret
  exact ⟨rfl, rfl⟩
set_option maxHeartbeats 400000 in
theorem toLesson_any (i c t r d b m : Int) (w : World) :
    Calls Try.prog 16 #[.agg #[.int .i64 i, .int .i64 c, .int .i64 t, .int .i64 r, .int .i64 d, .int .i64 b, .int .i64 m]] w fun e w' => e = .returned (.agg #[.int .i64 i, .int .i64 c, .int .i64 t, .int .i64 r, .int .i64 d, .int .i64 b, .int .i64 m]) ∧ Below w.heap.size w w' := by
  go_enter Try.func16, Try.ntmps16
  go_wp2
  refine bodyPost_ret (v := .agg #[.int .i64 i, .int .i64 c, .int .i64 t, .int .i64 r, .int .i64 d, .int .i64 b, .int .i64 m]) (by simp [results, Try.results16, go_sem]) rfl ⟨rfl, ?_⟩
  repeat (first | exact Below.refl _ _ | refine Below.alloc ?_ (by first | omega | (simp; done) | (simp; omega)) _ | refine Below.setCell ?_ (by first | omega | (simp; done) | (simp; omega)) _)
set_option maxHeartbeats 1000000 in
theorem l11One_any (i c t r d b m : Int) (w : World) :
    Calls Try.prog 61 #[.agg #[.int .i64 i, .int .i64 c, .int .i64 t, .int .i64 r, .int .i64 d, .int .i64 b, .int .i64 m]] w fun e w' => e = .returned (.bool (lesB i c t r d b m)) ∧ Below w.heap.size w w' := by
  go_enter Try.func61, Try.ntmps61
  go_wp2_with (first | (go_at_call 93; refine (l1In_any _ _ _ _).mono ?_; rintro e w' ⟨rfl, rfl⟩) | (go_at_call 73; refine (l11Class_any _ _).mono ?_; rintro e w' ⟨rfl, rfl⟩) | (go_at_call 81; refine (l11Week_any _ _).mono ?_; rintro e w' ⟨rfl, rfl⟩) | (go_at_call 82; refine (l11Time_any _ _ _).mono ?_; rintro e w' ⟨rfl, hb⟩))
  all_goals
    go_ret
    refine ⟨by simp [lesB, *], ?_⟩
    first | exact ext_trans (ext_alloc (Below.refl _ _) _) (by assumption) | exact ext_alloc (Below.refl _ _) _
set_option maxHeartbeats 1000000 in
theorem iIsLesson_any (i c t r d b m : Int) (w : World) :
    Calls Try.prog 17 #[.agg #[.int .i64 i, .int .i64 c, .int .i64 t, .int .i64 r, .int .i64 d, .int .i64 b, .int .i64 m]] w fun e w' => e = .returned (.bool (lesB i c t r d b m)) ∧ Below w.heap.size w w' := by
  go_enter Try.func17, Try.ntmps17
  go_wp2_with (first | (go_at_call 62; refine (within_any _ _ _ _).mono ?_; rintro e w' ⟨rfl, rfl⟩) | (go_at_call 63; refine (isClass_any _ _).mono ?_; rintro e w' ⟨rfl, rfl⟩) | (go_at_call 64; refine (isWeekday_any _ _).mono ?_; rintro e w' ⟨rfl, rfl⟩) | (go_at_call 65; refine (isSlot_any _ _ _).mono ?_; rintro e w' ⟨rfl, hb⟩))
  all_goals
    go_ret
    refine ⟨by simp [lesB, *], ?_⟩
    first | exact ext_trans (ext_alloc (Below.refl _ _) _) (by assumption) | exact ext_alloc (Below.refl _ _) _
set_option maxHeartbeats 400000 in
theorem sIsLesson_any (i c t r d b m : Int) (w : World) :
    Calls Try.prog 15 #[.agg #[.int .i64 i, .int .i64 c, .int .i64 t, .int .i64 r, .int .i64 d, .int .i64 b, .int .i64 m]] w fun e w' => e = .returned (.bool (lesB i c t r d b m)) ∧ Below w.heap.size w w' := by
  go_enter Try.func15, Try.ntmps15
  go_wp2_with (go_at_call 61; refine (l11One_any _ _ _ _ _ _ _ _).mono ?_; rintro e w' ⟨rfl, hb⟩)
  go_ret
  exact ⟨rfl, ext_trans (ext_alloc (Below.refl _ _) _) hb⟩
set_option maxHeartbeats 400000 in
theorem FnExactIsLesson_any (i c t r d b m : Int) (_ : (Lit.int .i64 i).wf = true) (_ : (Lit.int .i64 c).wf = true) (_ : (Lit.int .i64 t).wf = true) (_ : (Lit.int .i64 r).wf = true) (_ : (Lit.int .i64 d).wf = true) (_ : (Lit.int .i64 b).wf = true) (_ : (Lit.int .i64 m).wf = true) (w : World) :
    Calls Try.prog 3 #[.agg #[.int .i64 i, .int .i64 c, .int .i64 t, .int .i64 r, .int .i64 d, .int .i64 b, .int .i64 m]] w fun e w' => e = .returned (.bool true) ∧ Below w.heap.size w w' := by
  go_enter Try.func3, Try.ntmps3
  go_wp2_with fail
  refine (toLesson_any _ _ _ _ _ _ _ _).mono ?_
  rintro e w1 ⟨rfl, hb1⟩
  go_wp2_with fail
  refine (sIsLesson_any _ _ _ _ _ _ _ _).mono ?_
  rintro e w2 ⟨rfl, hb2⟩
  have hb := ext_trans hb1 hb2
  obtain ⟨hc, hf⟩ := bcell hb
  clear hb1 hb2
  go_wp2_with fail
  refine (toLesson_any _ _ _ _ _ _ _ _).mono ?_
  rintro e w3 ⟨rfl, hb3⟩
  go_wp2_with fail
  refine (iIsLesson_any _ _ _ _ _ _ _ _).mono ?_
  rintro e w4 ⟨rfl, hb4⟩
  go_wp2_with fail
  go_ret
  exact ⟨rfl, ext_trans (ext_alloc (Below.refl _ _) _) (ext_trans hb (ext_trans hb3 hb4))⟩
end Go.Proofs.Ytnndhgeddfghcaa
