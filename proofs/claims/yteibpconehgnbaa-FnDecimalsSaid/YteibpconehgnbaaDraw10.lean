/- The draws of chapters 10 and 12: whatever the bytes, some numbers. No condition. -/
import Derived.Test.YteibpconehgnbaaCur
namespace Go.Proofs.Yteibpconehgnbaa
open Go.RowKit

set_option maxHeartbeats 2000000 in
theorem cur_dividend_any (g t : Nat) (ht : t ≤ 10000000000) (w : World) (h : CurOk w g t) :
    Calls Try.prog 52 #[.pointer (some ⟨g, 0, none⟩)] w fun e w' => ∃ x, e = .returned (.int .i64 x) ∧ CurOk w' g (t + 2) ∧ w.grownBy w' (some g) := by
  have hlt := h.lt
  have H := Lib.hid h
  clear h
  go_enter Try.func52, Try.ntmps52
  go_wp2_with fail
  refine (among_any g t (by omega) _ 16 _ _ _ (H.out.below (ext_alloc (Below.refl _ _) _)) (World.ownsRow_lit w _ 16 (by omega) (by decide) rfl) (by rfl) (by omega) (by omega)).mono ?_
  rintro e w1 ⟨x, rfl, hc, hg⟩
  go_wp2_with fail
  go_ret
  exact ⟨x, rfl, hc, grownBy_alloc_trans hg⟩
set_option maxHeartbeats 2000000 in
theorem cur_divisor_any (g t : Nat) (ht : t ≤ 10000000000) (w : World) (h : CurOk w g t) :
    Calls Try.prog 53 #[.pointer (some ⟨g, 0, none⟩)] w fun e w' => ∃ x, e = .returned (.int .i64 x) ∧ CurOk w' g (t + 2) ∧ w.grownBy w' (some g) := by
  have hlt := h.lt
  have H := Lib.hid h
  clear h
  go_enter Try.func53, Try.ntmps53
  go_wp2_with fail
  refine (among_any g t (by omega) _ 18 _ _ _ (H.out.below (ext_alloc (Below.refl _ _) _)) (World.ownsRow_lit w _ 18 (by omega) (by decide) rfl) (by rfl) (by omega) (by omega)).mono ?_
  rintro e w1 ⟨x, rfl, hc, hg⟩
  go_wp2_with fail
  go_ret
  exact ⟨x, rfl, hc, grownBy_alloc_trans hg⟩
set_option maxHeartbeats 2000000 in
theorem DrawDivisionSteps_any (A : Option Addr) (n c B : Nat) (w : World) (h : CodeOk w B A n) (hB : B ≤ w.heap.size) :
    Calls Try.prog 51 #[.slice A n c] w fun e w' => ∃ x0 x1 : Int, e = .returned (.tuple #[.int .i64 x0, .int .i64 x1]) ∧ Below w.heap.size w w' := by
  have H := Lib.hid (cur_new (c := c) h hB)
  clear h
  go_enter Try.func51, Try.ntmps51
  go_wp2_with fail
  refine (cur_dividend_any w.heap.size 0 (by omega) _ H.out).mono ?_
  rintro e w0 ⟨x0, rfl, c0, g0⟩
  go_wp2_with fail
  refine (cur_divisor_any w.heap.size 2 (by omega) _ c0).mono ?_
  rintro e w1 ⟨x1, rfl, c1, g1⟩
  go_wp2_with fail
  go_ret2
  exact ⟨x0, x1, rfl, draw_below (grownBy_trans g0 g1)⟩
set_option maxHeartbeats 2000000 in
theorem DrawPeriodOf_any (A : Option Addr) (n c B : Nat) (w : World) (h : CodeOk w B A n) (hB : B ≤ w.heap.size) :
    Calls Try.prog 35 #[.slice A n c] w fun e w' => ∃ x0 x1 : Int, e = .returned (.tuple #[.int .i64 x0, .int .i64 x1]) ∧ Below w.heap.size w w' := by
  go_enter Try.func35, Try.ntmps35
  go_wp2_with fail
  refine (DrawDivisionSteps_any A n c B _ h hB).mono ?_
  rintro e w1 ⟨x0, x1, rfl, hb⟩
  go_wp2_with fail
  go_ret2
  exact ⟨x0, x1, rfl, hb⟩
set_option maxHeartbeats 2000000 in
theorem DrawDecimalsOf_any (A : Option Addr) (n c B : Nat) (w : World) (h : CodeOk w B A n) (hB : B ≤ w.heap.size) :
    Calls Try.prog 37 #[.slice A n c] w fun e w' => ∃ x0 x1 x2 : Int, e = .returned (.tuple #[.int .i64 x0, .int .i64 x1, .int .i64 x2]) ∧ Below w.heap.size w w' := by
  have H := Lib.hid (cur_new (c := c) h hB)
  clear h
  go_enter Try.func37, Try.ntmps37
  go_wp2_with fail
  refine (cur_dividend_any w.heap.size 0 (by omega) _ H.out).mono ?_
  rintro e w0 ⟨x0, rfl, c0, g0⟩
  go_wp2_with fail
  refine (cur_divisor_any w.heap.size 2 (by omega) _ c0).mono ?_
  rintro e w1 ⟨x1, rfl, c1, g1⟩
  go_wp2_with fail
  refine (among_any w.heap.size 4 (by omega) _ 8 _ _ _ (c1.below (ext_alloc (Below.refl _ _) _)) (World.ownsRow_lit _ _ 8 (by have := c1.lt; omega) (by decide) rfl) (by rfl) (by omega) (by omega)).mono ?_
  rintro e w2 ⟨x2, rfl, c2, g2⟩
  replace g2 := grownBy_alloc_trans g2
  go_wp2_with fail
  go_ret3
  exact ⟨x0, x1, x2, rfl, draw_below (grownBy_trans (grownBy_trans g0 g1) g2)⟩
set_option maxHeartbeats 2000000 in
theorem DrawDivisorsOf_any (A : Option Addr) (n c B : Nat) (w : World) (h : CodeOk w B A n) (hB : B ≤ w.heap.size) :
    Calls Try.prog 38 #[.slice A n c] w fun e w' => ∃ x0 : Int, e = .returned (.int .i64 x0) ∧ Below w.heap.size w w' := by
  have H := Lib.hid (cur_new (c := c) h hB)
  clear h
  go_enter Try.func38, Try.ntmps38
  go_wp2_with fail
  refine (cur_dividend_any w.heap.size 0 (by omega) _ H.out).mono ?_
  rintro e w0 ⟨x0, rfl, c0, g0⟩
  go_wp2_with fail
  go_ret
  exact ⟨x0, rfl, draw_below g0⟩
end Go.Proofs.Yteibpconehgnbaa
