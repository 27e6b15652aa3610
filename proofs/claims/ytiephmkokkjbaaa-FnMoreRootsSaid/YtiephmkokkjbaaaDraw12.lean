/- The draws of chapter 12, and comparisons of rows. No condition. -/
import Derived.Test.YtiephmkokkjbaaaCur
import Derived.Test.YtiephmkokkjbaaaSum2
import Derived.Test.YtiephmkokkjbaaaCube
import Derived.Test.YtiephmkokkjbaaaEq23
namespace Go.Proofs.Ytiephmkokkjbaaa
open Go.RowKit

set_option maxHeartbeats 2000000 in
theorem cur_radicand_any (g t : Nat) (ht : t ≤ 1000000000) (w : World) (h : CurOk w g t) :
    Calls Try.prog 67 #[.pointer (some ⟨g, 0, none⟩)] w fun e w' => ∃ x, e = .returned (.int .i64 x) ∧ CurOk w' g (t + 4) ∧ w.grownBy w' (some g) := by
  have hlt := h.lt
  have H := Lib.hid h
  clear h
  go_enter Try.func67, Try.ntmps67
  go_wp2_with fail
  refine (among_any g t (by omega) _ 11 _ _ _ (H.out.below (ext_alloc (Below.refl _ _) _)) (World.ownsRow_lit w _ 11 (by omega) (by decide) rfl) (by rfl) (by omega) (by omega)).mono ?_
  rintro e w1 ⟨x, rfl, hc, hg⟩
  replace hg := grownBy_alloc_trans hg
  have hlt1 := hc.lt
  have HC := Lib.hid hc
  clear hc
  go_wp2_with fail
  refine (among_any g (t + 2) (by omega) _ 9 _ _ _ (HC.out.below (ext_alloc (Below.refl _ _) _)) (World.ownsRow_lit w1 _ 9 (by omega) (by decide) rfl) (by rfl) (by omega) (by omega)).mono ?_
  rintro e w2 ⟨y, rfl, hc2, hg2⟩
  go_wp2_with fail
  go_ret
  exact ⟨y, rfl, hc2, grownBy_trans hg (grownBy_alloc_trans hg2)⟩
set_option maxHeartbeats 2000000 in
theorem DrawPairsOf_any (A : Option Addr) (n c B : Nat) (w : World) (h : CodeOk w B A n) (hB : B ≤ w.heap.size) :
    Calls Try.prog 45 #[.slice A n c] w fun e w' => ∃ x0 : Int, e = .returned (.int .i64 x0) ∧ Below w.heap.size w w' := by
  have H := Lib.hid (cur_new (c := c) h hB)
  clear h
  go_enter Try.func45, Try.ntmps45
  go_wp2_with fail
  refine (cur_radicand_any w.heap.size 0 (by omega) _ H.out).mono ?_
  rintro e w0 ⟨x0, rfl, c0, g0⟩
  go_wp2_with fail
  go_ret
  exact ⟨x0, rfl, draw_below g0⟩
set_option maxHeartbeats 2000000 in
theorem DrawWholeRoot_any (A : Option Addr) (n c B : Nat) (w : World) (h : CodeOk w B A n) (hB : B ≤ w.heap.size) :
    Calls Try.prog 42 #[.slice A n c] w fun e w' => ∃ x0 : Int, e = .returned (.int .i64 x0) ∧ Below w.heap.size w w' := by
  go_enter Try.func42, Try.ntmps42
  go_wp2_with fail
  refine (DrawPairsOf_any A n c B _ h hB).mono ?_
  rintro e w1 ⟨x0, rfl, hb⟩
  go_wp2_with fail
  go_ret
  exact ⟨x0, rfl, hb⟩
set_option maxHeartbeats 2000000 in
theorem DrawIsSquare_any (A : Option Addr) (n c B : Nat) (w : World) (h : CodeOk w B A n) (hB : B ≤ w.heap.size) :
    Calls Try.prog 51 #[.slice A n c] w fun e w' => ∃ x0 : Int, e = .returned (.int .i64 x0) ∧ Below w.heap.size w w' := by
  go_enter Try.func51, Try.ntmps51
  go_wp2_with fail
  refine (DrawPairsOf_any A n c B _ h hB).mono ?_
  rintro e w1 ⟨x0, rfl, hb⟩
  go_wp2_with fail
  go_ret
  exact ⟨x0, rfl, hb⟩
set_option maxHeartbeats 2000000 in
theorem DrawOddsTaken_any (A : Option Addr) (n c B : Nat) (w : World) (h : CodeOk w B A n) (hB : B ≤ w.heap.size) :
    Calls Try.prog 44 #[.slice A n c] w fun e w' => ∃ x0 : Int, e = .returned (.int .i64 x0) ∧ Below w.heap.size w w' := by
  go_enter Try.func44, Try.ntmps44
  go_wp2_with fail
  refine (DrawPairsOf_any A n c B _ h hB).mono ?_
  rintro e w1 ⟨x0, rfl, hb⟩
  go_wp2_with fail
  go_ret
  exact ⟨x0, rfl, hb⟩
set_option maxHeartbeats 2000000 in
theorem DrawNextSquare_any (A : Option Addr) (n c B : Nat) (w : World) (h : CodeOk w B A n) (hB : B ≤ w.heap.size) :
    Calls Try.prog 52 #[.slice A n c] w fun e w' => ∃ x0 : Int, e = .returned (.int .i64 x0) ∧ Below w.heap.size w w' := by
  go_enter Try.func52, Try.ntmps52
  go_wp2_with fail
  refine (DrawPairsOf_any A n c B _ h hB).mono ?_
  rintro e w1 ⟨x0, rfl, hb⟩
  go_wp2_with fail
  go_ret
  exact ⟨x0, rfl, hb⟩
set_option maxHeartbeats 2000000 in
theorem DrawCubeRoot_any (A : Option Addr) (n c B : Nat) (w : World) (h : CodeOk w B A n) (hB : B ≤ w.heap.size) :
    Calls Try.prog 50 #[.slice A n c] w fun e w' => ∃ x0 : Int, e = .returned (.int .i64 x0) ∧ Below w.heap.size w w' := by
  go_enter Try.func50, Try.ntmps50
  go_wp2_with fail
  refine (DrawPairsOf_any A n c B _ h hB).mono ?_
  rintro e w1 ⟨x0, rfl, hb⟩
  go_wp2_with fail
  go_ret
  exact ⟨x0, rfl, hb⟩
set_option maxHeartbeats 2000000 in
theorem DrawRootDecimals_any (A : Option Addr) (n c B : Nat) (w : World) (h : CodeOk w B A n) (hB : B ≤ w.heap.size) :
    Calls Try.prog 47 #[.slice A n c] w fun e w' => ∃ x0 x1 : Int, e = .returned (.tuple #[.int .i64 x0, .int .i64 x1]) ∧ Below w.heap.size w w' := by
  have H := Lib.hid (cur_new (c := c) h hB)
  clear h
  go_enter Try.func47, Try.ntmps47
  go_wp2_with fail
  refine (cur_radicand_any w.heap.size 0 (by omega) _ H.out).mono ?_
  rintro e w0 ⟨x0, rfl, c0, g0⟩
  go_wp2_with fail
  refine (among_any w.heap.size 4 (by omega) _ 7 _ _ _ (c0.below (ext_alloc (Below.refl _ _) _)) (World.ownsRow_lit _ _ 7 (by have := c0.lt; omega) (by decide) rfl) (by rfl) (by omega) (by omega)).mono ?_
  rintro e w1 ⟨x1, rfl, c1, g1⟩
  replace g1 := grownBy_alloc_trans g1
  go_wp2_with fail
  go_ret2
  exact ⟨x0, x1, rfl, draw_below (grownBy_trans g0 g1)⟩
set_option maxHeartbeats 2000000 in
theorem DrawSumOfTwo_any (A : Option Addr) (n c B : Nat) (w : World) (h : CodeOk w B A n) (hB : B ≤ w.heap.size) :
    Calls Try.prog 48 #[.slice A n c] w fun e w' => ∃ x0 : Int, e = .returned (.int .i64 x0) ∧ Below w.heap.size w w' := by
  have H := Lib.hid (cur_new (c := c) h hB)
  clear h
  go_enter Try.func48, Try.ntmps48
  go_wp2_with fail
  refine (among_any w.heap.size 0 (by omega) _ 15 _ _ _ (H.out.below (ext_alloc (Below.refl _ _) _)) (ownsRow_litAt _ _ 15 _ (by simp) (by simp) (by decide) rfl) (by rfl) (by omega) (by omega)).mono ?_
  rintro e w0 ⟨x0, rfl, c0, g0⟩
  replace g0 := grownBy_alloc_trans g0
  go_wp2_with fail
  go_ret
  exact ⟨x0, rfl, draw_below g0⟩
set_option maxHeartbeats 2000000 in
theorem vTriples_same (A1 A2 : Option Addr) (n c1 c2 B1 B2 : Nat) (xs : List Int) (w : World) (h1 : Reads w B1 3 A1 n (xs.map (Value.int .i64))) (h2 : Reads w B2 3 A2 n (xs.map (Value.int .i64))) (hn1 : n ≤ maxLen) :
    Calls Try.prog 43 #[.slice A1 n c1, .slice A2 n c2] w fun e w' => e = .returned (.bool true) ∧ ∃ m, w' = w.drewN m := by
  unfold maxLen at hn1
  have H1 := Lib.hid h1
  have H2 := Lib.hid h2
  clear h1 h2
  go_enter Try.func43, Try.ntmps43
  go_wp2_with fail
  go_loopw [5] (fun i wr => ∃ j m : Nat, i = .int .i64 j ∧ j ≤ n ∧ wr = w.drewN m) (fun i _ => n - (intOf i).toNat)
  case atStart => exact ⟨0, 0, rfl, by omega, rfl⟩
  case round =>
    obtain ⟨j, m, rfl, hj, rfl⟩ := hrel
    by_cases hlt : j < n
    · have hj1 : (j : Int) < n := by omega
      have hj0 : (0 : Int) ≤ j := by omega
      obtain ⟨gx, ox, rfl, hrx⟩ := H1.out.row hlt (by omega)
      obtain ⟨x0, hx0, hc0⟩ := hrx 0 (by omega)
      obtain ⟨x1, hx1, hc1⟩ := hrx 1 (by omega)
      obtain ⟨x2, hx2, hc2⟩ := hrx 2 (by omega)
      clear hrx
      simp only [Nat.add_zero, ← Nat.add_assoc] at hx0 hc0 hx1 hc1 hx2 hc2
      obtain ⟨gy, oy, rfl, hry⟩ := H2.out.row hlt (by omega)
      obtain ⟨y0, hy0, hd0⟩ := hry 0 (by omega)
      obtain ⟨y1, hy1, hd1⟩ := hry 1 (by omega)
      obtain ⟨y2, hy2, hd2⟩ := hry 2 (by omega)
      clear hry
      simp only [Nat.add_zero, ← Nat.add_assoc] at hy0 hd0 hy1 hd1 hy2 hd2
      rw [hx0] at hy0; injection hy0 with hy0; subst hy0; rw [hx1] at hy1; injection hy1 with hy1; subst hy1; rw [hx2] at hy2; injection hy2 with hy2; subst hy2; clear hx0 hx1 hx2
      have q3 := fun w => run_equal3 w x0 x1 x2 x0 x1 x2
      simp only [beq_self_eq_true, Bool.and_self] at q3
      go_wp2_with fail
      go_quiet (fail)
      go_wp2_with fail
      go_roundw
      case rel => exact ⟨j + 1, _, by go_num, by omega, rfl⟩
      case measure => simp [intOf]; omega
    · go_wp2_with fail
      go_ret
      exact ⟨rfl, _, rfl⟩
set_option maxHeartbeats 2000000 in
theorem vPairs_same (A1 A2 : Option Addr) (n c1 c2 B1 B2 : Nat) (xs : List Int) (w : World) (h1 : Reads w B1 2 A1 n (xs.map (Value.int .i64))) (h2 : Reads w B2 2 A2 n (xs.map (Value.int .i64))) (hn1 : n ≤ maxLen) :
    Calls Try.prog 49 #[.slice A1 n c1, .slice A2 n c2] w fun e w' => e = .returned (.bool true) ∧ ∃ m, w' = w.drewN m := by
  unfold maxLen at hn1
  have H1 := Lib.hid h1
  have H2 := Lib.hid h2
  clear h1 h2
  go_enter Try.func49, Try.ntmps49
  go_wp2_with fail
  go_loopw [5] (fun i wr => ∃ j m : Nat, i = .int .i64 j ∧ j ≤ n ∧ wr = w.drewN m) (fun i _ => n - (intOf i).toNat)
  case atStart => exact ⟨0, 0, rfl, by omega, rfl⟩
  case round =>
    obtain ⟨j, m, rfl, hj, rfl⟩ := hrel
    by_cases hlt : j < n
    · have hj1 : (j : Int) < n := by omega
      have hj0 : (0 : Int) ≤ j := by omega
      obtain ⟨gx, ox, rfl, hrx⟩ := H1.out.row hlt (by omega)
      obtain ⟨x0, hx0, hc0⟩ := hrx 0 (by omega)
      obtain ⟨x1, hx1, hc1⟩ := hrx 1 (by omega)
      clear hrx
      simp only [Nat.add_zero, ← Nat.add_assoc] at hx0 hc0 hx1 hc1
      obtain ⟨gy, oy, rfl, hry⟩ := H2.out.row hlt (by omega)
      obtain ⟨y0, hy0, hd0⟩ := hry 0 (by omega)
      obtain ⟨y1, hy1, hd1⟩ := hry 1 (by omega)
      clear hry
      simp only [Nat.add_zero, ← Nat.add_assoc] at hy0 hd0 hy1 hd1
      rw [hx0] at hy0; injection hy0 with hy0; subst hy0; rw [hx1] at hy1; injection hy1 with hy1; subst hy1; clear hx0 hx1
      have q2 := fun w => run_equal2 w x0 x1 x0 x1
      simp only [beq_self_eq_true, Bool.and_self] at q2
      go_wp2_with fail
      go_quiet (fail)
      go_wp2_with fail
      go_roundw
      case rel => exact ⟨j + 1, _, by go_num, by omega, rfl⟩
      case measure => simp [intOf]; omega
    · go_wp2_with fail
      go_ret
      exact ⟨rfl, _, rfl⟩
end Go.Proofs.Ytiephmkokkjbaaa
