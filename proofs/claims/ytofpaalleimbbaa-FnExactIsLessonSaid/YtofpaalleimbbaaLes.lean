/- Lessons: the range tests of one lesson, and the copy that the laws make. No condition. -/
import Derived.Test.YtofpaalleimbbaaSlices
namespace Go.Proofs.Ytofpaalleimbbaa
open Go.RowKit

/-- May a lesson begin at b and last m minutes? -/
def slotB (b m : Int) : Bool := inB b 480 1140 && hasB [30, 45, 60, 90] m
/-- Is it a valid lesson? -/
def lesB (i c t r d b m : Int) : Bool := ((((inB i 1 99 && inB c 1 9) && inB t 1 20) && inB r 1 9) && inB d 0 6) && slotB b m
/-- The four lengths as they are laid into a new block. -/
theorem reads4 (w : World) (T : TypeId) : Reads (w.alloc (.cells #[.int .i64 30, .int .i64 45, .int .i64 60, .int .i64 90] T)) (w.heap.size + 1) 1 (some ⟨w.heap.size, 0, none⟩) 4 ([30, 45, 60, 90].map (Value.int .i64)) := by
  refine ⟨rfl, fun _ => ⟨_, rfl, by simp, fun j u hu => ?_⟩⟩
  rw [Addr.add_lit, World.cell?_alloc_new]
  match j, hu with
  | 0, hu => simpa using hu
  | 1, hu => simpa using hu
  | 2, hu => simpa using hu
  | 3, hu => simpa using hu
  | j + 4, hu => simp at hu

set_option maxHeartbeats 400000 in
theorem isSlot_any (b m : Int) (w : World) :
    Calls Try.prog 36 #[.int .i64 b, .int .i64 m] w fun e w' => e = .returned (.bool (slotB b m)) ∧ Below w.heap.size w w' := by
  cases h : inB b 480 1140
  · go_enter Try.func36, Try.ntmps36
    go_wp2_with (first | (go_at_call 29; refine (within_any _ _ _ _).mono ?_; rintro e w' ⟨rfl, rfl⟩))
    go_ret
    exact ⟨by simp [slotB, h], Below.refl _ _⟩
  · go_enter Try.func36, Try.ntmps36
    go_wp2_with (first | (go_at_call 29; refine (within_any _ _ _ _).mono ?_; rintro e w' ⟨rfl, rfl⟩) | (go_at_call 43; refine (has_any _ _ _ _ _ _ _ (reads4 _ _) (by decide)).mono ?_; rintro e w' ⟨rfl, rfl⟩))
    go_ret
    exact ⟨by simp [slotB, h], ext_alloc (Below.refl _ _) _⟩
set_option maxHeartbeats 400000 in
theorem l11Time_any (b m : Int) (w : World) :
    Calls Try.prog 42 #[.int .i64 b, .int .i64 m] w fun e w' => e = .returned (.bool (slotB b m)) ∧ Below w.heap.size w w' := by
  cases h : inB b 480 1140
  · go_enter Try.func42, Try.ntmps42
    go_wp2_with (first | (go_at_call 26; refine (l1In_any _ _ _ _).mono ?_; rintro e w' ⟨rfl, rfl⟩))
    go_ret
    exact ⟨by simp [slotB, h], Below.refl _ _⟩
  · go_enter Try.func42, Try.ntmps42
    go_wp2_with (first | (go_at_call 26; refine (l1In_any _ _ _ _).mono ?_; rintro e w' ⟨rfl, rfl⟩) | (go_at_call 44; refine (l1Has_any _ _ _ _ _ _ _ (reads4 _ _) (by decide)).mono ?_; rintro e w' ⟨rfl, rfl⟩))
    go_ret
    exact ⟨by simp [slotB, h], ext_alloc (Below.refl _ _) _⟩
set_option maxHeartbeats 400000 in
theorem isClass_any (n : Int) (w : World) :
    Calls Try.prog 34 #[.int .i64 n] w fun e w' => e = .returned (.bool (inB n 1 9)) ∧ w = w' := by
  go_enter Try.func34, Try.ntmps34
  go_wp2_with (go_at_call 29; refine (within_any _ _ _ _).mono ?_; rintro e w' ⟨rfl, rfl⟩)
  go_ret
  exact ⟨rfl, rfl⟩
set_option maxHeartbeats 400000 in
theorem isWeekday_any (n : Int) (w : World) :
    Calls Try.prog 35 #[.int .i64 n] w fun e w' => e = .returned (.bool (inB n 0 6)) ∧ w = w' := by
  go_enter Try.func35, Try.ntmps35
  go_wp2_with (go_at_call 29; refine (within_any _ _ _ _).mono ?_; rintro e w' ⟨rfl, rfl⟩)
  go_ret
  exact ⟨rfl, rfl⟩
set_option maxHeartbeats 400000 in
theorem l11Class_any (n : Int) (w : World) :
    Calls Try.prog 40 #[.int .i64 n] w fun e w' => e = .returned (.bool (inB n 1 9)) ∧ w = w' := by
  go_enter Try.func40, Try.ntmps40
  go_wp2_with (go_at_call 26; refine (l1In_any _ _ _ _).mono ?_; rintro e w' ⟨rfl, rfl⟩)
  go_ret
  exact ⟨rfl, rfl⟩
set_option maxHeartbeats 400000 in
theorem l11Week_any (n : Int) (w : World) :
    Calls Try.prog 41 #[.int .i64 n] w fun e w' => e = .returned (.bool (inB n 0 6)) ∧ w = w' := by
  go_enter Try.func41, Try.ntmps41
  go_wp2_with (go_at_call 26; refine (l1In_any _ _ _ _).mono ?_; rintro e w' ⟨rfl, rfl⟩)
  go_ret
  exact ⟨rfl, rfl⟩
set_option maxHeartbeats 400000 in
theorem toLesson_any (i c t r d b m : Int) (w : World) :
    Calls Try.prog 21 #[.agg #[.int .i64 i, .int .i64 c, .int .i64 t, .int .i64 r, .int .i64 d, .int .i64 b, .int .i64 m]] w fun e w' => e = .returned (.agg #[.int .i64 i, .int .i64 c, .int .i64 t, .int .i64 r, .int .i64 d, .int .i64 b, .int .i64 m]) ∧ Below w.heap.size w w' := by
  go_enter Try.func21, Try.ntmps21
  go_wp2
  refine bodyPost_ret (v := .agg #[.int .i64 i, .int .i64 c, .int .i64 t, .int .i64 r, .int .i64 d, .int .i64 b, .int .i64 m]) (by simp [results, Try.results21, go_sem]) rfl ⟨rfl, ?_⟩
  repeat (first | exact Below.refl _ _ | refine Below.alloc ?_ (by first | omega | (simp; done) | (simp; omega)) _ | refine Below.setCell ?_ (by first | omega | (simp; done) | (simp; omega)) _)
set_option maxHeartbeats 1000000 in
theorem l11One_any (i c t r d b m : Int) (w : World) :
    Calls Try.prog 33 #[.agg #[.int .i64 i, .int .i64 c, .int .i64 t, .int .i64 r, .int .i64 d, .int .i64 b, .int .i64 m]] w fun e w' => e = .returned (.bool (lesB i c t r d b m)) ∧ Below w.heap.size w w' := by
  go_enter Try.func33, Try.ntmps33
  go_wp2_with (first | (go_at_call 26; refine (l1In_any _ _ _ _).mono ?_; rintro e w' ⟨rfl, rfl⟩) | (go_at_call 40; refine (l11Class_any _ _).mono ?_; rintro e w' ⟨rfl, rfl⟩) | (go_at_call 41; refine (l11Week_any _ _).mono ?_; rintro e w' ⟨rfl, rfl⟩) | (go_at_call 42; refine (l11Time_any _ _ _).mono ?_; rintro e w' ⟨rfl, hb⟩))
  all_goals
    go_ret
    refine ⟨by simp [lesB, *], ?_⟩
    first | exact ext_trans (ext_alloc (Below.refl _ _) _) (by assumption) | exact ext_alloc (Below.refl _ _) _
set_option maxHeartbeats 1000000 in
theorem iIsLesson_any (i c t r d b m : Int) (w : World) :
    Calls Try.prog 22 #[.agg #[.int .i64 i, .int .i64 c, .int .i64 t, .int .i64 r, .int .i64 d, .int .i64 b, .int .i64 m]] w fun e w' => e = .returned (.bool (lesB i c t r d b m)) ∧ Below w.heap.size w w' := by
  go_enter Try.func22, Try.ntmps22
  go_wp2_with (first | (go_at_call 29; refine (within_any _ _ _ _).mono ?_; rintro e w' ⟨rfl, rfl⟩) | (go_at_call 34; refine (isClass_any _ _).mono ?_; rintro e w' ⟨rfl, rfl⟩) | (go_at_call 35; refine (isWeekday_any _ _).mono ?_; rintro e w' ⟨rfl, rfl⟩) | (go_at_call 36; refine (isSlot_any _ _ _).mono ?_; rintro e w' ⟨rfl, hb⟩))
  all_goals
    go_ret
    refine ⟨by simp [lesB, *], ?_⟩
    first | exact ext_trans (ext_alloc (Below.refl _ _) _) (by assumption) | exact ext_alloc (Below.refl _ _) _
set_option maxHeartbeats 400000 in
theorem sIsLesson_any (i c t r d b m : Int) (w : World) :
    Calls Try.prog 20 #[.agg #[.int .i64 i, .int .i64 c, .int .i64 t, .int .i64 r, .int .i64 d, .int .i64 b, .int .i64 m]] w fun e w' => e = .returned (.bool (lesB i c t r d b m)) ∧ Below w.heap.size w w' := by
  go_enter Try.func20, Try.ntmps20
  go_wp2_with (go_at_call 33; refine (l11One_any _ _ _ _ _ _ _ _).mono ?_; rintro e w' ⟨rfl, hb⟩)
  go_ret
  exact ⟨rfl, ext_trans (ext_alloc (Below.refl _ _) _) hb⟩
set_option maxHeartbeats 400000 in
theorem FnExactIsLesson_any (i c t r d b m : Int) (_ : (Lit.int .i64 i).wf = true) (_ : (Lit.int .i64 c).wf = true) (_ : (Lit.int .i64 t).wf = true) (_ : (Lit.int .i64 r).wf = true) (_ : (Lit.int .i64 d).wf = true) (_ : (Lit.int .i64 b).wf = true) (_ : (Lit.int .i64 m).wf = true) (w : World) :
    Calls Try.prog 8 #[.agg #[.int .i64 i, .int .i64 c, .int .i64 t, .int .i64 r, .int .i64 d, .int .i64 b, .int .i64 m]] w fun e w' => e = .returned (.bool true) ∧ Below w.heap.size w w' := by
  go_enter Try.func8, Try.ntmps8
  go_wp2_with fail
  refine (toLesson_any _ _ _ _ _ _ _ _).mono ?_
  rintro e w1 ⟨rfl, hb1⟩
  go_wp2_with fail
  refine (sIsLesson_any _ _ _ _ _ _ _ _).mono ?_
  rintro e w2 ⟨rfl, hb2⟩
  have hb := ext_trans hb1 hb2
  obtain ⟨hc, hf⟩ := bcell hb
  clear hb1 hb2
  go_wp2_with fail
  refine (toLesson_any _ _ _ _ _ _ _ _).mono ?_
  rintro e w3 ⟨rfl, hb3⟩
  go_wp2_with fail
  refine (iIsLesson_any _ _ _ _ _ _ _ _).mono ?_
  rintro e w4 ⟨rfl, hb4⟩
  go_wp2_with fail
  go_ret
  exact ⟨rfl, ext_trans (ext_alloc (Below.refl _ _) _) (ext_trans hb (ext_trans hb3 hb4))⟩
end Go.Proofs.Ytofpaalleimbbaa
