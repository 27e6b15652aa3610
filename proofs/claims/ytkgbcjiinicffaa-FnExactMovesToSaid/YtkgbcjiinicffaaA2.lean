/- The laws' helpers on slices of arrays of two numbers. No condition. -/
import Derived.Test.YtkgbcjiinicffaaAppend
import Derived.StillTailTactics
namespace Go.Proofs.Ytkgbcjiinicffaa
open Go.RowKit

set_option maxHeartbeats 1000000 in
theorem eqIntA2_any (x0 x1 y0 y1 : Int) (w : World) :
    Calls Try.prog 36 #[.agg #[.int .i64 x0, .int .i64 x1], .agg #[.int .i64 y0, .int .i64 y1]] w fun e w' => e = .returned (.bool (eqB [x0, x1] [y0, y1])) ∧ Below w.heap.size w w' := by
  cases h0 : (x0 != y0)
  · cases h1 : (x1 != y1)
    · go_enter Try.func36, Try.ntmps36
      go_wp2
      refine wp_loop_rounds 3 ?_
      simp only [rounds_succ]
      go_wp2
      go_quiet (fail)
      go_wp2
      simp only [rounds_succ]
      go_wp2
      go_quiet (fail)
      go_wp2
      simp only [rounds_succ]
      go_wp2
      go_ret
      exact ⟨by rw [show eqB _ _ = true from by simp at h0 h1; simp [eqB, h0, h1]]; rfl, by
        repeat (first | exact Below.refl _ _ | refine ext_drewN ?_ _ | refine ext_alloc ?_ _)⟩
    · go_enter Try.func36, Try.ntmps36
      go_wp2
      refine wp_loop_rounds 3 ?_
      simp only [rounds_succ]
      go_wp2
      go_quiet (fail)
      go_wp2
      simp only [rounds_succ]
      go_wp2
      go_quiet (fail)
      go_wp2
      go_ret
      exact ⟨by rw [show eqB _ _ = false from by simp at h0 h1; simp [eqB, h0, h1]]; rfl, by
        repeat (first | exact Below.refl _ _ | refine ext_drewN ?_ _ | refine ext_alloc ?_ _)⟩
  · go_enter Try.func36, Try.ntmps36
    go_wp2
    refine wp_loop_rounds 3 ?_
    simp only [rounds_succ]
    go_wp2
    go_quiet (fail)
    go_wp2
    go_ret
    exact ⟨by rw [show eqB _ _ = false from by simp at h0; simp [eqB, h0]]; rfl, by
      repeat (first | exact Below.refl _ _ | refine ext_drewN ?_ _ | refine ext_alloc ?_ _)⟩
set_option maxHeartbeats 2000000 in
theorem markIntA2S_any (A : Option Addr) (n c base : Nat) (zs : List Int) (k : Int) (w : World) (h : w.ownsRow base 47 2 (.slice A n c) n (zs.map (Value.int .i64))) (hn : (n : Int) ≤ 288230376151711744) (hk0 : 0 ≤ k) (hk : k ≤ 288230376151711744) :
    Calls Try.prog 12 #[.slice A n c, .int .i64 k] w fun e w' => e = .returned (.int .i64 (k + (n * 2 : Nat))) ∧ w'.ownsRow base 47 2 (.slice A n c) n ((marks k (n * 2)).map (Value.int .i64)) ∧ w.grownBy w' (Value.slice A n c).ownBlock := by
  have hl : zs.length = n * 2 := by simpa using h.1
  have H := Lib.hid h
  have HL := Lib.hid hl
  clear h hl
  go_enter Try.func12, Try.ntmps12
  go_wp2
  go_loopw [1, 5] (fun t i wr => ∃ j : Nat, i = .int .i64 j ∧ j ≤ n ∧ t = .int .i64 (k + ((j * 2 : Nat) : Int)) ∧ wr.ownsRow base 47 2 (.slice A n c) n ((marks k (j * 2) ++ zs.drop (j * 2)).map (Value.int .i64)) ∧ w.grownBy wr (Value.slice A n c).ownBlock) (fun _ i _ => n - (intOf i).toNat)
  case atStart => exact ⟨0, rfl, by omega, by simp, by simpa [marks] using H.out, World.grownBy.refl _ _⟩
  case round =>
    obtain ⟨j, rfl, hj, rfl, hown, hg⟩ := hrel
    by_cases hlt : j < n
    · obtain ⟨g, cap, hv, _, hgl⟩ := hown.form (by omega)
      have hA : A = some ⟨g, 0, none⟩ := by injection hv
      subst hA
      clear hv
      have hz := HL.out
      obtain ⟨z0, e0⟩ := mark_old k zs (j * 2) 0 (j * 2) rfl (by omega)
      obtain ⟨z1, e1⟩ := mark_old k zs (j * 2) 1 (j * 2 + 1) rfl (by omega)
      have hc0 := hown.cellAt (j * 2) (by omega)
      rw [e0] at hc0
      have hc1 := hown.cellAt (j * 2 + 1) (by omega)
      rw [e1] at hc1
      have hf0 := hown.frozenAt (j * 2)
      have hf1 := hown.frozenAt (j * 2 + 1)
      have s0 := hown.stored (j * 2) (.int .i64 (k + ((j * 2 : Nat) : Int)))
      have s1 := s0.1.stored (j * 2 + 1) (.int .i64 (k + ((j * 2 + 1 : Nat) : Int)))
      have HG := Lib.hid (grownBy_trans hg (grownBy_trans s0.2 s1.2))
      have HS := Lib.hid s1.1
      clear hz e0 e1 hown hg s0 s1
      go_wp2
      refine wp_loop_rounds 3 ?_
      repeat (simp only [rounds_succ]; go_wp2)
      go_roundw
      case rel =>
        refine ⟨j + 1, by go_num, by omega, by go_num, ?_, ?_⟩
        · rw [show (j + 1) * 2 = j * 2 + 1 + 1 from by omega, ← marks_setV k zs (j * 2 + 1) (by have := HL.out; omega), ← marks_setV k zs (j * 2) (by have := HL.out; omega)]
          have h := HS.out
          simp only [Int.natCast_add, Int.natCast_mul, Int.cast_ofNat_Int, ← Int.add_assoc] at h ⊢
          simpa only [Nat.add_assoc, Nat.reduceAdd] using h
        · have h := HG.out
          simp only [Int.natCast_add, Int.natCast_mul, Int.cast_ofNat_Int, ← Int.add_assoc] at h ⊢
          exact h
      case measure => simp [intOf]; omega
    · have HO := Lib.hid hown
      have HG := Lib.hid hg
      clear hown hg
      have hj' : j = n := by omega
      subst hj'
      go_wp2
      go_ret
      refine ⟨rfl, ?_, HG.out⟩
      have := HO.out
      rwa [List.drop_of_length_le (by have := HL.out; omega), List.append_nil] at this
set_option maxHeartbeats 2000000 in
theorem heldIntA2S_any (A : Option Addr) (n c B : Nat) (k : Int) (w : World) (h : Reads w B 2 A n ((marks k (n * 2)).map (Value.int .i64))) (hn : (n : Int) ≤ 288230376151711744) (hk0 : 0 ≤ k) (hk : k ≤ 288230376151711744) :
    Calls Try.prog 13 #[.slice A n c, .int .i64 k] w fun e w' => e = .returned (.int .i64 (k + (n * 2 : Nat))) ∧ w = w' := by
  have H := Lib.hid h
  clear h
  go_enter Try.func13, Try.ntmps13
  go_wp2
  go_loop [1, 5] (fun t i => ∃ j : Nat, i = .int .i64 j ∧ j ≤ n ∧ t = .int .i64 (k + ((j * 2 : Nat) : Int))) (fun _ i => n - (intOf i).toNat)
  case atStart => exact ⟨0, rfl, by omega, by simp⟩
  case round =>
    obtain ⟨j, rfl, hj, rfl⟩ := hrel
    by_cases hlt : j < n
    · have hlt' := hlt
      obtain ⟨gx, ox, rfl, hrx⟩ := H.out.row hlt (by omega)
      obtain ⟨x0, hx0, hc0⟩ := hrx 0 (by omega)
      obtain ⟨x1, hx1, hc1⟩ := hrx 1 (by omega)
      clear hrx
      simp only [Nat.add_zero, ← Nat.add_assoc] at hx0 hc0 hx1 hc1
      rw [marks_at (by omega)] at hx0
      injection hx0 with hx0
      subst hx0
      rw [marks_at (by omega)] at hx1
      injection hx1 with hx1
      subst hx1
      go_wp2
      refine wp_loop_rounds 3 ?_
      repeat (simp only [rounds_succ]; go_wp2)
      go_round
      case rel => exact ⟨j + 1, by go_num, by omega, by go_num⟩
      case measure => simp [intOf]; omega
    · have hj' : j = n := by omega
      subst hj'
      go_wp2
      go_ret
      exact ⟨rfl, rfl⟩
theorem eqIntA2S_step {xs ys : List Int} {j x0 y0 x1 y1 : _} (hx0 : xs[j * 2]? = some x0) (hy0 : ys[j * 2]? = some y0) (hx1 : xs[j * 2 + 1]? = some x1) (hy1 : ys[j * 2 + 1]? = some y1)
    (h : xs.take (j * 2) = ys.take (j * 2)) (he : eqB [x0, x1] [y0, y1] = true) : xs.take ((j + 1) * 2) = ys.take ((j + 1) * 2) := by
  simp only [eqB, beq_iff_eq, List.cons.injEq, and_true] at he
  rw [show (j + 1) * 2 = j * 2 + 1 + 1 from by omega]
  rw [take_at hx1, take_at hy1]; rw [take_at hx0, take_at hy0]
  simp only [h, he]
theorem eqIntA2S_miss {xs ys : List Int} {j x0 y0 x1 y1 : _} (hx0 : xs[j * 2]? = some x0) (hy0 : ys[j * 2]? = some y0) (hx1 : xs[j * 2 + 1]? = some x1) (hy1 : ys[j * 2 + 1]? = some y1)
    (he : eqB [x0, x1] [y0, y1] = false) : eqB xs ys = false := by
  cases hh : eqB xs ys with
  | false => rfl
  | true =>
    simp only [eqB, beq_iff_eq] at hh
    subst hh
    rw [hx0] at hy0; injection hy0 with hy0; subst hy0; rw [hx1] at hy1; injection hy1 with hy1; subst hy1; simp [eqB] at he
set_option maxHeartbeats 2000000 in
theorem eqIntA2S_any (A1 A2 : Option Addr) (n1 n2 c1 c2 B1 B2 : Nat) (xs ys : List Int) (w : World) (h1 : Reads w B1 2 A1 n1 (xs.map (Value.int .i64))) (h2 : Reads w B2 2 A2 n2 (ys.map (Value.int .i64))) (hB1 : B1 ≤ w.heap.size) (hB2 : B2 ≤ w.heap.size) (hn1 : n1 ≤ maxLen) (hn2 : n2 ≤ maxLen) :
    Calls Try.prog 11 #[.slice A1 n1 c1, .slice A2 n2 c2] w fun e w' => e = .returned (.bool (eqB xs ys)) ∧ Below w.heap.size w w' := by
  unfold maxLen at hn1 hn2
  have l1 : xs.length = n1 * 2 := by simpa using h1.1
  have l2 : ys.length = n2 * 2 := by simpa using h2.1
  have H1 := Lib.hid h1
  have H2 := Lib.hid h2
  have L1 := Lib.hid l1
  have L2 := Lib.hid l2
  clear h1 h2 l1 l2
  by_cases hne : n1 = n2
  · subst hne
    go_enter Try.func11, Try.ntmps11
    go_wp2
    go_loopw [5] (fun i wr => ∃ j : Nat, i = .int .i64 j ∧ j ≤ n1 ∧ xs.take (j * 2) = ys.take (j * 2) ∧ Below w.heap.size w wr) (fun i _ => n1 - (intOf i).toNat)
    case atStart => exact ⟨0, rfl, by omega, by simp, Below.refl _ _⟩
    case round =>
      obtain ⟨j, rfl, hj, hh, hb⟩ := hrel
      have HH := Lib.hid hh
      clear hh
      have R1 := Lib.hid (H1.out.below (hb.mono hB1))
      have R2 := Lib.hid (H2.out.below (hb.mono hB2))
      by_cases hlt : j < n1
      · have hj1 : (j : Int) < n1 := by omega
        have hj0 : (0 : Int) ≤ j := by omega
        obtain ⟨gx, ox, rfl, hrx⟩ := R1.out.row hlt (by omega)
        obtain ⟨x0, hx0, hc0⟩ := hrx 0 (by omega)
        obtain ⟨x1, hx1, hc1⟩ := hrx 1 (by omega)
        clear hrx
        simp only [Nat.add_zero, ← Nat.add_assoc] at hx0 hc0 hx1 hc1
        obtain ⟨gy, oy, rfl, hry⟩ := R2.out.row hlt (by omega)
        obtain ⟨y0, hy0, hd0⟩ := hry 0 (by omega)
        obtain ⟨y1, hy1, hd1⟩ := hry 1 (by omega)
        clear hry
        simp only [Nat.add_zero, ← Nat.add_assoc] at hy0 hd0 hy1 hd1
        have HX0 := Lib.hid hx0; have HY0 := Lib.hid hy0; have HX1 := Lib.hid hx1; have HY1 := Lib.hid hy1; clear hx0 hy0 hx1 hy1
        cases he : eqB [x0, x1] [y0, y1]
        · go_wp2
          go_still_tail 8, (by kernel_rfl)
          go_wp2_with (go_at_call 36; refine (eqIntA2_any _ _ _ _ _).mono ?_; rintro e w' ⟨rfl, hb'⟩)
          go_ret
          exact ⟨by rw [eqIntA2S_miss HX0.out HY0.out HX1.out HY1.out he]; rfl, ext_trans (ext_drew hb) hb'⟩
        · go_wp2
          go_still_tail 8, (by kernel_rfl)
          go_wp2_with (go_at_call 36; refine (eqIntA2_any _ _ _ _ _).mono ?_; rintro e w' ⟨rfl, hb'⟩)
          go_roundw
          case rel => exact ⟨j + 1, by go_num, by omega, eqIntA2S_step HX0.out HY0.out HX1.out HY1.out HH.out he, ext_trans (ext_drew hb) hb'⟩
          case measure => simp [intOf]; omega
      · go_wp2
        go_ret
        have hf : eqB xs ys = true := by
          have hj' : j = n1 := by omega
          subst hj'
          have := HH.out
          rw [List.take_of_length_le (by have := L1.out; omega), List.take_of_length_le (by have := L2.out; omega)] at this
          rw [this]; exact eqB_self _
        exact ⟨by rw [hf]; rfl, hb⟩
  · have hne' : ((n1 : Int) == (n2 : Int)) = false := by simp; omega
    go_enter Try.func11, Try.ntmps11
    go_wp2
    go_ret
    have hf : eqB xs ys = false := by
      unfold eqB
      rw [beq_eq_false_iff_ne]
      intro h
      have := L1.out
      have := L2.out
      rw [h] at *
      omega
    exact ⟨by rw [hf]; rfl, Below.refl _ _⟩
end Go.Proofs.Ytkgbcjiinicffaa
