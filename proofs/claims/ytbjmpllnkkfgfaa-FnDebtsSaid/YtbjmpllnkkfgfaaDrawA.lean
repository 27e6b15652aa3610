/- The draws of chapter 14: some accounts. No condition. -/
import Derived.Test.YtbjmpllnkkfgfaaCurL
import Derived.Test.YtbjmpllnkkfgfaaAccS
namespace Go.Proofs.Ytbjmpllnkkfgfaa
open Go.RowKit

set_option maxRecDepth 100000 in
set_option maxHeartbeats 4000000 in
theorem accountD_any (g t : Nat) (ht : t ≤ 1000000000) (pp mm : Int) (w : World) (h : CurOk w g t) :
    Calls Try.prog 90 #[.pointer (some ⟨g, 0, none⟩), .int .i64 pp, .int .i64 mm] w fun e w' => ∃ z0 z1 z2 z3 z4 : Int, e = .returned (.agg #[.int .i64 z0, .int .i64 z1, .int .i64 z2, .int .i64 z3, .int .i64 z4]) ∧ CurOk w' g (t + 20) ∧ w.grownBy w' (some g) := by
  have hlt := h.lt
  have hB4 := Blk.new w 25 #[.int .i64 0, .int .i64 0, .int .i64 0, .int .i64 0, .int .i64 0]
  have hc0 := h.alloc (.cells #[.int .i64 0, .int .i64 0, .int .i64 0, .int .i64 0, .int .i64 0] 25)
  have hg0 := World.grownBy_alloc w (.cells #[.int .i64 0, .int .i64 0, .int .i64 0, .int .i64 0, .int .i64 0] 25) (some g)
  obtain ⟨b4, hb4⟩ : ∃ b4, w.heap.size = b4 := ⟨_, rfl⟩
  generalize hw0 : w.alloc (.cells #[.int .i64 0, .int .i64 0, .int .i64 0, .int .i64 0, .int .i64 0] 25) = w0 at hB4 hc0 hg0
  rw [hb4] at hB4
  have HW0 := Lib.hid hw0
  have HB4 := Lib.hid hB4
  have H0 := Lib.hid hc0
  have G0 := Lib.hid hg0
  have hb4g : g < b4 := by omega
  have HSZ := Lib.hid hb4
  clear h hw0 hB4 hc0 hg0 hb4
  go_enter Try.func90, Try.ntmps90
  go_wp2_with fail
  rw [HW0.out, HSZ.out]
  have l0 := H0.out.lt
  refine (among_any g (t + 0) (by omega) _ 7 _ _ _ (H0.out.alloc _) (ownsRow_litAt _ _ 7 _ (by first | rfl | (rw [← HW0.out, ← HSZ.out]; simp)) (by omega) (by decide) rfl) (by rfl) (by omega) (by omega)).mono ?_
  rintro e w1 ⟨y0, rfl, hc, hg⟩
  have H1 := Lib.hid hc
  have G1 := Lib.hid (grownBy_trans G0.out (grownBy_alloc_trans hg))
  have HB4 := Lib.hid ((HB4.out.alloc _).grown hg (by intro e; injection e with e; omega))
  clear hc hg l0
  go_wp2_with fail
  skip
  have l1 := H1.out.lt
  refine (among_any g (t + 2) (by omega) _ 6 _ _ _ (H1.out.alloc _) (ownsRow_litAt _ _ 6 _ (by first | rfl | (rw [← HW0.out, ← HSZ.out]; simp)) (by omega) (by decide) rfl) (by rfl) (by omega) (by omega)).mono ?_
  rintro e w2 ⟨y1, rfl, hc, hg⟩
  have H2 := Lib.hid hc
  have G2 := Lib.hid (grownBy_trans G1.out (grownBy_alloc_trans hg))
  have HB4 := Lib.hid ((HB4.out.alloc _).grown hg (by intro e; injection e with e; omega))
  clear hc hg l1
  go_wp2_with fail
  skip
  have l2 := H2.out.lt
  refine (among_any g (t + 4) (by omega) _ 5 _ _ _ (H2.out.alloc _) (ownsRow_litAt _ _ 5 _ (by first | rfl | (rw [← HW0.out, ← HSZ.out]; simp)) (by omega) (by decide) rfl) (by rfl) (by omega) (by omega)).mono ?_
  rintro e w3 ⟨y2, rfl, hc, hg⟩
  have H3 := Lib.hid hc
  have G3 := Lib.hid (grownBy_trans G2.out (grownBy_alloc_trans hg))
  have HB4 := Lib.hid ((HB4.out.alloc _).grown hg (by intro e; injection e with e; omega))
  clear hc hg l2
  have hB5 := Blk.new w3 25 #[.int .i64 pp, .int .i64 mm, .int .i64 y0, .int .i64 y1, .int .i64 y2]
  have hc5 := H3.out.alloc (.cells #[.int .i64 pp, .int .i64 mm, .int .i64 y0, .int .i64 y1, .int .i64 y2] 25)
  have hg5 := World.grownBy_alloc w3 (.cells #[.int .i64 pp, .int .i64 mm, .int .i64 y0, .int .i64 y1, .int .i64 y2] 25) (some g)
  have hb45 : b4 < w3.heap.size := HB4.out.lt
  have HB4 := Lib.hid (HB4.out.alloc (.cells #[.int .i64 pp, .int .i64 mm, .int .i64 y0, .int .i64 y1, .int .i64 y2] 25))
  go_wp2_with fail
  obtain ⟨b5, hb5⟩ : ∃ b5, w3.heap.size = b5 := ⟨_, rfl⟩
  rw [hb5] at hB5 hb45
  generalize hv0 : w3.alloc (.cells #[.int .i64 pp, .int .i64 mm, .int .i64 y0, .int .i64 y1, .int .i64 y2] 25) = v0 at hB5 hc5 hg5 HB4 ⊢
  rw [hb5]
  have HB5 := Lib.hid hB5
  have GV := Lib.hid (grownBy_trans G3.out hg5)
  clear hv0 hb5 hg5 hB5
  refine (pick_any g (t + 6) (by omega) 80 (by omega) _ hc5).mono ?_
  rintro e v1 ⟨q, rfl, q0, q1, hc, hg⟩
  have HV := Lib.hid hc
  have GV := Lib.hid (grownBy_trans GV.out hg)
  have HB4 := Lib.hid (HB4.out.grown hg (by intro e; injection e with e; omega))
  have HB5 := Lib.hid (HB5.out.grown hg (by intro e; injection e with e; omega))
  have hsz : w.heap.size ≤ b4 := by have := HSZ.out; omega
  clear hc hg hc5 q0 q1
  by_cases hq0 : q = 0
  · subst hq0
    go_wp2_with fail
    have lv := HV.out.lt
    refine (among_any g (t + 8) (by omega) _ 3 _ _ _ (HV.out.alloc _) (ownsRow_litAt _ _ 3 _ rfl (by omega) (by decide) rfl) (by rfl) (by omega) (by omega)).mono ?_
    rintro e v2 ⟨y, rfl, hc, hg⟩
    have HX := Lib.hid hc
    have GX := Lib.hid (grownBy_trans GV.out (grownBy_alloc_trans hg))
    have HB4 := Lib.hid ((HB4.out.alloc _).grown hg (by intro e; injection e with e; omega))
    have HB5 := Lib.hid ((HB5.out.alloc _).grown hg (by intro e; injection e with e; omega))
    clear hc hg lv
    have c40 := HB4.out.cell 0
    have f40 := HB4.out.frozen 0
    have c41 := HB4.out.cell 1
    have f41 := HB4.out.frozen 1
    have c42 := HB4.out.cell 2
    have f42 := HB4.out.frozen 2
    have c43 := HB4.out.cell 3
    have f43 := HB4.out.frozen 3
    have c44 := HB4.out.cell 4
    have f44 := HB4.out.frozen 4
    have c50 := HB5.out.cell 0
    have f50 := HB5.out.frozen 0
    have c51 := HB5.out.cell 1
    have f51 := HB5.out.frozen 1
    have c52 := HB5.out.cell 2
    have f52 := HB5.out.frozen 2
    have c53 := HB5.out.cell 3
    have f53 := HB5.out.frozen 3
    have c54 := HB5.out.cell 4
    have f54 := HB5.out.frozen 4
    simp only [List.getElem?_toArray, List.getElem?_cons_zero, List.getElem?_cons_succ] at c40 c41 c42 c43 c44 c50 c51 c52 c53 c54
    go_wp2_with fail
    have hBZ := ((((((HB4.out.far (p := ⟨b5, 0, none⟩) (show b4 ≠ b5 by omega) (.int .i64 y)).set_ 0 (.int .i64 y)).set_ 1 (.int .i64 mm)).set_ 2 (.int .i64 y0)).set_ 3 (.int .i64 y1)).set_ 4 (.int .i64 y2))
    have hCZ := ((((((HX.out.set (p := ⟨b5, 0, none⟩) (show g < b5 by omega) (.int .i64 y)).set (p := ⟨b4, 0, none⟩) hb4g (.int .i64 y)).set (p := ⟨b4, 1, none⟩) hb4g (.int .i64 mm)).set (p := ⟨b4, 2, none⟩) hb4g (.int .i64 y0)).set (p := ⟨b4, 3, none⟩) hb4g (.int .i64 y1)).set (p := ⟨b4, 4, none⟩) hb4g (.int .i64 y2))
    have hGZ := (grownBy_set (grownBy_set (grownBy_set (grownBy_set (grownBy_set (grownBy_set GX.out (p := ⟨b5, 0, none⟩) (show w.heap.size ≤ b5 by omega) (.int .i64 y)) (p := ⟨b4, 0, none⟩) hsz (.int .i64 y)) (p := ⟨b4, 1, none⟩) hsz (.int .i64 mm)) (p := ⟨b4, 2, none⟩) hsz (.int .i64 y0)) (p := ⟨b4, 3, none⟩) hsz (.int .i64 y1)) (p := ⟨b4, 4, none⟩) hsz (.int .i64 y2))
    generalize ((((((v2.setCell ⟨b5, 0, none⟩ (.int .i64 y)).setCell ⟨b4, 0, none⟩ (.int .i64 y)).setCell ⟨b4, 1, none⟩ (.int .i64 mm)).setCell ⟨b4, 2, none⟩ (.int .i64 y0)).setCell ⟨b4, 3, none⟩ (.int .i64 y1)).setCell ⟨b4, 4, none⟩ (.int .i64 y2)) = WZ at hBZ hCZ hGZ ⊢
    have r0 := hBZ.cell 0
    have r1 := hBZ.cell 1
    have r2 := hBZ.cell 2
    have r3 := hBZ.cell 3
    have r4 := hBZ.cell 4
    simp only [List.setIfInBounds_toArray, List.set_cons_zero, List.set_cons_succ, List.getElem?_toArray, List.getElem?_cons_zero, List.getElem?_cons_succ] at r0 r1 r2 r3 r4
    refine bodyPost_ret (v := .agg #[.int .i64 y, .int .i64 mm, .int .i64 y0, .int .i64 y1, .int .i64 y2]) ?_ rfl ?_
    · simp [results, Try.results90, go_sem, r0, r1, r2, r3, r4]
    exact ⟨_, _, _, _, _, rfl, hCZ.up (by omega), hGZ⟩
  have m0 : (q == 0) = false := beq_eq_false_iff_ne.2 hq0
  clear hq0
  by_cases hq1 : q = 1
  · subst hq1
    go_wp2_with fail
    have lv := HV.out.lt
    refine (among_any g (t + 8) (by omega) _ 2 _ _ _ (HV.out.alloc _) (ownsRow_litAt _ _ 2 _ rfl (by omega) (by decide) rfl) (by rfl) (by omega) (by omega)).mono ?_
    rintro e v2 ⟨y, rfl, hc, hg⟩
    have HX := Lib.hid hc
    have GX := Lib.hid (grownBy_trans GV.out (grownBy_alloc_trans hg))
    have HB4 := Lib.hid ((HB4.out.alloc _).grown hg (by intro e; injection e with e; omega))
    have HB5 := Lib.hid ((HB5.out.alloc _).grown hg (by intro e; injection e with e; omega))
    clear hc hg lv
    have c40 := HB4.out.cell 0
    have f40 := HB4.out.frozen 0
    have c41 := HB4.out.cell 1
    have f41 := HB4.out.frozen 1
    have c42 := HB4.out.cell 2
    have f42 := HB4.out.frozen 2
    have c43 := HB4.out.cell 3
    have f43 := HB4.out.frozen 3
    have c44 := HB4.out.cell 4
    have f44 := HB4.out.frozen 4
    have c50 := HB5.out.cell 0
    have f50 := HB5.out.frozen 0
    have c51 := HB5.out.cell 1
    have f51 := HB5.out.frozen 1
    have c52 := HB5.out.cell 2
    have f52 := HB5.out.frozen 2
    have c53 := HB5.out.cell 3
    have f53 := HB5.out.frozen 3
    have c54 := HB5.out.cell 4
    have f54 := HB5.out.frozen 4
    simp only [List.getElem?_toArray, List.getElem?_cons_zero, List.getElem?_cons_succ] at c40 c41 c42 c43 c44 c50 c51 c52 c53 c54
    go_wp2_with fail
    have hBZ := ((((((HB4.out.far (p := ⟨b5, 1, none⟩) (show b4 ≠ b5 by omega) (.int .i64 y)).set_ 0 (.int .i64 pp)).set_ 1 (.int .i64 y)).set_ 2 (.int .i64 y0)).set_ 3 (.int .i64 y1)).set_ 4 (.int .i64 y2))
    have hCZ := ((((((HX.out.set (p := ⟨b5, 1, none⟩) (show g < b5 by omega) (.int .i64 y)).set (p := ⟨b4, 0, none⟩) hb4g (.int .i64 pp)).set (p := ⟨b4, 1, none⟩) hb4g (.int .i64 y)).set (p := ⟨b4, 2, none⟩) hb4g (.int .i64 y0)).set (p := ⟨b4, 3, none⟩) hb4g (.int .i64 y1)).set (p := ⟨b4, 4, none⟩) hb4g (.int .i64 y2))
    have hGZ := (grownBy_set (grownBy_set (grownBy_set (grownBy_set (grownBy_set (grownBy_set GX.out (p := ⟨b5, 1, none⟩) (show w.heap.size ≤ b5 by omega) (.int .i64 y)) (p := ⟨b4, 0, none⟩) hsz (.int .i64 pp)) (p := ⟨b4, 1, none⟩) hsz (.int .i64 y)) (p := ⟨b4, 2, none⟩) hsz (.int .i64 y0)) (p := ⟨b4, 3, none⟩) hsz (.int .i64 y1)) (p := ⟨b4, 4, none⟩) hsz (.int .i64 y2))
    generalize ((((((v2.setCell ⟨b5, 1, none⟩ (.int .i64 y)).setCell ⟨b4, 0, none⟩ (.int .i64 pp)).setCell ⟨b4, 1, none⟩ (.int .i64 y)).setCell ⟨b4, 2, none⟩ (.int .i64 y0)).setCell ⟨b4, 3, none⟩ (.int .i64 y1)).setCell ⟨b4, 4, none⟩ (.int .i64 y2)) = WZ at hBZ hCZ hGZ ⊢
    have r0 := hBZ.cell 0
    have r1 := hBZ.cell 1
    have r2 := hBZ.cell 2
    have r3 := hBZ.cell 3
    have r4 := hBZ.cell 4
    simp only [List.setIfInBounds_toArray, List.set_cons_zero, List.set_cons_succ, List.getElem?_toArray, List.getElem?_cons_zero, List.getElem?_cons_succ] at r0 r1 r2 r3 r4
    refine bodyPost_ret (v := .agg #[.int .i64 pp, .int .i64 y, .int .i64 y0, .int .i64 y1, .int .i64 y2]) ?_ rfl ?_
    · simp [results, Try.results90, go_sem, r0, r1, r2, r3, r4]
    exact ⟨_, _, _, _, _, rfl, hCZ.up (by omega), hGZ⟩
  have m1 : (q == 1) = false := beq_eq_false_iff_ne.2 hq1
  clear hq1
  by_cases hq2 : q = 2
  · subst hq2
    go_wp2_with fail
    have lv := HV.out.lt
    refine (among_any g (t + 8) (by omega) _ 2 _ _ _ (HV.out.alloc _) (ownsRow_litAt _ _ 2 _ rfl (by omega) (by decide) rfl) (by rfl) (by omega) (by omega)).mono ?_
    rintro e v2 ⟨y, rfl, hc, hg⟩
    have HX := Lib.hid hc
    have GX := Lib.hid (grownBy_trans GV.out (grownBy_alloc_trans hg))
    have HB4 := Lib.hid ((HB4.out.alloc _).grown hg (by intro e; injection e with e; omega))
    have HB5 := Lib.hid ((HB5.out.alloc _).grown hg (by intro e; injection e with e; omega))
    clear hc hg lv
    have c40 := HB4.out.cell 0
    have f40 := HB4.out.frozen 0
    have c41 := HB4.out.cell 1
    have f41 := HB4.out.frozen 1
    have c42 := HB4.out.cell 2
    have f42 := HB4.out.frozen 2
    have c43 := HB4.out.cell 3
    have f43 := HB4.out.frozen 3
    have c44 := HB4.out.cell 4
    have f44 := HB4.out.frozen 4
    have c50 := HB5.out.cell 0
    have f50 := HB5.out.frozen 0
    have c51 := HB5.out.cell 1
    have f51 := HB5.out.frozen 1
    have c52 := HB5.out.cell 2
    have f52 := HB5.out.frozen 2
    have c53 := HB5.out.cell 3
    have f53 := HB5.out.frozen 3
    have c54 := HB5.out.cell 4
    have f54 := HB5.out.frozen 4
    simp only [List.getElem?_toArray, List.getElem?_cons_zero, List.getElem?_cons_succ] at c40 c41 c42 c43 c44 c50 c51 c52 c53 c54
    go_wp2_with fail
    have hBZ := ((((((HB4.out.far (p := ⟨b5, 2, none⟩) (show b4 ≠ b5 by omega) (.int .i64 y)).set_ 0 (.int .i64 pp)).set_ 1 (.int .i64 mm)).set_ 2 (.int .i64 y)).set_ 3 (.int .i64 y1)).set_ 4 (.int .i64 y2))
    have hCZ := ((((((HX.out.set (p := ⟨b5, 2, none⟩) (show g < b5 by omega) (.int .i64 y)).set (p := ⟨b4, 0, none⟩) hb4g (.int .i64 pp)).set (p := ⟨b4, 1, none⟩) hb4g (.int .i64 mm)).set (p := ⟨b4, 2, none⟩) hb4g (.int .i64 y)).set (p := ⟨b4, 3, none⟩) hb4g (.int .i64 y1)).set (p := ⟨b4, 4, none⟩) hb4g (.int .i64 y2))
    have hGZ := (grownBy_set (grownBy_set (grownBy_set (grownBy_set (grownBy_set (grownBy_set GX.out (p := ⟨b5, 2, none⟩) (show w.heap.size ≤ b5 by omega) (.int .i64 y)) (p := ⟨b4, 0, none⟩) hsz (.int .i64 pp)) (p := ⟨b4, 1, none⟩) hsz (.int .i64 mm)) (p := ⟨b4, 2, none⟩) hsz (.int .i64 y)) (p := ⟨b4, 3, none⟩) hsz (.int .i64 y1)) (p := ⟨b4, 4, none⟩) hsz (.int .i64 y2))
    generalize ((((((v2.setCell ⟨b5, 2, none⟩ (.int .i64 y)).setCell ⟨b4, 0, none⟩ (.int .i64 pp)).setCell ⟨b4, 1, none⟩ (.int .i64 mm)).setCell ⟨b4, 2, none⟩ (.int .i64 y)).setCell ⟨b4, 3, none⟩ (.int .i64 y1)).setCell ⟨b4, 4, none⟩ (.int .i64 y2)) = WZ at hBZ hCZ hGZ ⊢
    have r0 := hBZ.cell 0
    have r1 := hBZ.cell 1
    have r2 := hBZ.cell 2
    have r3 := hBZ.cell 3
    have r4 := hBZ.cell 4
    simp only [List.setIfInBounds_toArray, List.set_cons_zero, List.set_cons_succ, List.getElem?_toArray, List.getElem?_cons_zero, List.getElem?_cons_succ] at r0 r1 r2 r3 r4
    refine bodyPost_ret (v := .agg #[.int .i64 pp, .int .i64 mm, .int .i64 y, .int .i64 y1, .int .i64 y2]) ?_ rfl ?_
    · simp [results, Try.results90, go_sem, r0, r1, r2, r3, r4]
    exact ⟨_, _, _, _, _, rfl, hCZ.up (by omega), hGZ⟩
  have m2 : (q == 2) = false := beq_eq_false_iff_ne.2 hq2
  clear hq2
  by_cases hq3 : q = 3
  · subst hq3
    go_wp2_with fail
    have lv := HV.out.lt
    refine (among_any g (t + 8) (by omega) _ 2 _ _ _ (HV.out.alloc _) (ownsRow_litAt _ _ 2 _ rfl (by omega) (by decide) rfl) (by rfl) (by omega) (by omega)).mono ?_
    rintro e v2 ⟨y, rfl, hc, hg⟩
    have HX := Lib.hid hc
    have GX := Lib.hid (grownBy_trans GV.out (grownBy_alloc_trans hg))
    have HB4 := Lib.hid ((HB4.out.alloc _).grown hg (by intro e; injection e with e; omega))
    have HB5 := Lib.hid ((HB5.out.alloc _).grown hg (by intro e; injection e with e; omega))
    clear hc hg lv
    have c40 := HB4.out.cell 0
    have f40 := HB4.out.frozen 0
    have c41 := HB4.out.cell 1
    have f41 := HB4.out.frozen 1
    have c42 := HB4.out.cell 2
    have f42 := HB4.out.frozen 2
    have c43 := HB4.out.cell 3
    have f43 := HB4.out.frozen 3
    have c44 := HB4.out.cell 4
    have f44 := HB4.out.frozen 4
    have c50 := HB5.out.cell 0
    have f50 := HB5.out.frozen 0
    have c51 := HB5.out.cell 1
    have f51 := HB5.out.frozen 1
    have c52 := HB5.out.cell 2
    have f52 := HB5.out.frozen 2
    have c53 := HB5.out.cell 3
    have f53 := HB5.out.frozen 3
    have c54 := HB5.out.cell 4
    have f54 := HB5.out.frozen 4
    simp only [List.getElem?_toArray, List.getElem?_cons_zero, List.getElem?_cons_succ] at c40 c41 c42 c43 c44 c50 c51 c52 c53 c54
    go_wp2_with fail
    have hBZ := ((((((HB4.out.far (p := ⟨b5, 3, none⟩) (show b4 ≠ b5 by omega) (.int .i64 y)).set_ 0 (.int .i64 pp)).set_ 1 (.int .i64 mm)).set_ 2 (.int .i64 y0)).set_ 3 (.int .i64 y)).set_ 4 (.int .i64 y2))
    have hCZ := ((((((HX.out.set (p := ⟨b5, 3, none⟩) (show g < b5 by omega) (.int .i64 y)).set (p := ⟨b4, 0, none⟩) hb4g (.int .i64 pp)).set (p := ⟨b4, 1, none⟩) hb4g (.int .i64 mm)).set (p := ⟨b4, 2, none⟩) hb4g (.int .i64 y0)).set (p := ⟨b4, 3, none⟩) hb4g (.int .i64 y)).set (p := ⟨b4, 4, none⟩) hb4g (.int .i64 y2))
    have hGZ := (grownBy_set (grownBy_set (grownBy_set (grownBy_set (grownBy_set (grownBy_set GX.out (p := ⟨b5, 3, none⟩) (show w.heap.size ≤ b5 by omega) (.int .i64 y)) (p := ⟨b4, 0, none⟩) hsz (.int .i64 pp)) (p := ⟨b4, 1, none⟩) hsz (.int .i64 mm)) (p := ⟨b4, 2, none⟩) hsz (.int .i64 y0)) (p := ⟨b4, 3, none⟩) hsz (.int .i64 y)) (p := ⟨b4, 4, none⟩) hsz (.int .i64 y2))
    generalize ((((((v2.setCell ⟨b5, 3, none⟩ (.int .i64 y)).setCell ⟨b4, 0, none⟩ (.int .i64 pp)).setCell ⟨b4, 1, none⟩ (.int .i64 mm)).setCell ⟨b4, 2, none⟩ (.int .i64 y0)).setCell ⟨b4, 3, none⟩ (.int .i64 y)).setCell ⟨b4, 4, none⟩ (.int .i64 y2)) = WZ at hBZ hCZ hGZ ⊢
    have r0 := hBZ.cell 0
    have r1 := hBZ.cell 1
    have r2 := hBZ.cell 2
    have r3 := hBZ.cell 3
    have r4 := hBZ.cell 4
    simp only [List.setIfInBounds_toArray, List.set_cons_zero, List.set_cons_succ, List.getElem?_toArray, List.getElem?_cons_zero, List.getElem?_cons_succ] at r0 r1 r2 r3 r4
    refine bodyPost_ret (v := .agg #[.int .i64 pp, .int .i64 mm, .int .i64 y0, .int .i64 y, .int .i64 y2]) ?_ rfl ?_
    · simp [results, Try.results90, go_sem, r0, r1, r2, r3, r4]
    exact ⟨_, _, _, _, _, rfl, hCZ.up (by omega), hGZ⟩
  have m3 : (q == 3) = false := beq_eq_false_iff_ne.2 hq3
  clear hq3
  by_cases hq4 : q = 4
  · subst hq4
    go_wp2_with fail
    have lv := HV.out.lt
    refine (among_any g (t + 8) (by omega) _ 2 _ _ _ (HV.out.alloc _) (ownsRow_litAt _ _ 2 _ rfl (by omega) (by decide) rfl) (by rfl) (by omega) (by omega)).mono ?_
    rintro e v2 ⟨y, rfl, hc, hg⟩
    have HX := Lib.hid hc
    have GX := Lib.hid (grownBy_trans GV.out (grownBy_alloc_trans hg))
    have HB4 := Lib.hid ((HB4.out.alloc _).grown hg (by intro e; injection e with e; omega))
    have HB5 := Lib.hid ((HB5.out.alloc _).grown hg (by intro e; injection e with e; omega))
    clear hc hg lv
    have c40 := HB4.out.cell 0
    have f40 := HB4.out.frozen 0
    have c41 := HB4.out.cell 1
    have f41 := HB4.out.frozen 1
    have c42 := HB4.out.cell 2
    have f42 := HB4.out.frozen 2
    have c43 := HB4.out.cell 3
    have f43 := HB4.out.frozen 3
    have c44 := HB4.out.cell 4
    have f44 := HB4.out.frozen 4
    have c50 := HB5.out.cell 0
    have f50 := HB5.out.frozen 0
    have c51 := HB5.out.cell 1
    have f51 := HB5.out.frozen 1
    have c52 := HB5.out.cell 2
    have f52 := HB5.out.frozen 2
    have c53 := HB5.out.cell 3
    have f53 := HB5.out.frozen 3
    have c54 := HB5.out.cell 4
    have f54 := HB5.out.frozen 4
    simp only [List.getElem?_toArray, List.getElem?_cons_zero, List.getElem?_cons_succ] at c40 c41 c42 c43 c44 c50 c51 c52 c53 c54
    go_wp2_with fail
    have hBZ := ((((((HB4.out.far (p := ⟨b5, 4, none⟩) (show b4 ≠ b5 by omega) (.int .i64 y)).set_ 0 (.int .i64 pp)).set_ 1 (.int .i64 mm)).set_ 2 (.int .i64 y0)).set_ 3 (.int .i64 y1)).set_ 4 (.int .i64 y))
    have hCZ := ((((((HX.out.set (p := ⟨b5, 4, none⟩) (show g < b5 by omega) (.int .i64 y)).set (p := ⟨b4, 0, none⟩) hb4g (.int .i64 pp)).set (p := ⟨b4, 1, none⟩) hb4g (.int .i64 mm)).set (p := ⟨b4, 2, none⟩) hb4g (.int .i64 y0)).set (p := ⟨b4, 3, none⟩) hb4g (.int .i64 y1)).set (p := ⟨b4, 4, none⟩) hb4g (.int .i64 y))
    have hGZ := (grownBy_set (grownBy_set (grownBy_set (grownBy_set (grownBy_set (grownBy_set GX.out (p := ⟨b5, 4, none⟩) (show w.heap.size ≤ b5 by omega) (.int .i64 y)) (p := ⟨b4, 0, none⟩) hsz (.int .i64 pp)) (p := ⟨b4, 1, none⟩) hsz (.int .i64 mm)) (p := ⟨b4, 2, none⟩) hsz (.int .i64 y0)) (p := ⟨b4, 3, none⟩) hsz (.int .i64 y1)) (p := ⟨b4, 4, none⟩) hsz (.int .i64 y))
    generalize ((((((v2.setCell ⟨b5, 4, none⟩ (.int .i64 y)).setCell ⟨b4, 0, none⟩ (.int .i64 pp)).setCell ⟨b4, 1, none⟩ (.int .i64 mm)).setCell ⟨b4, 2, none⟩ (.int .i64 y0)).setCell ⟨b4, 3, none⟩ (.int .i64 y1)).setCell ⟨b4, 4, none⟩ (.int .i64 y)) = WZ at hBZ hCZ hGZ ⊢
    have r0 := hBZ.cell 0
    have r1 := hBZ.cell 1
    have r2 := hBZ.cell 2
    have r3 := hBZ.cell 3
    have r4 := hBZ.cell 4
    simp only [List.setIfInBounds_toArray, List.set_cons_zero, List.set_cons_succ, List.getElem?_toArray, List.getElem?_cons_zero, List.getElem?_cons_succ] at r0 r1 r2 r3 r4
    refine bodyPost_ret (v := .agg #[.int .i64 pp, .int .i64 mm, .int .i64 y0, .int .i64 y1, .int .i64 y]) ?_ rfl ?_
    · simp [results, Try.results90, go_sem, r0, r1, r2, r3, r4]
    exact ⟨_, _, _, _, _, rfl, hCZ.up (by omega), hGZ⟩
  have m4 : (q == 4) = false := beq_eq_false_iff_ne.2 hq4
  clear hq4
  have c40 := HB4.out.cell 0
  have f40 := HB4.out.frozen 0
  have c41 := HB4.out.cell 1
  have f41 := HB4.out.frozen 1
  have c42 := HB4.out.cell 2
  have f42 := HB4.out.frozen 2
  have c43 := HB4.out.cell 3
  have f43 := HB4.out.frozen 3
  have c44 := HB4.out.cell 4
  have f44 := HB4.out.frozen 4
  have c50 := HB5.out.cell 0
  have f50 := HB5.out.frozen 0
  have c51 := HB5.out.cell 1
  have f51 := HB5.out.frozen 1
  have c52 := HB5.out.cell 2
  have f52 := HB5.out.frozen 2
  have c53 := HB5.out.cell 3
  have f53 := HB5.out.frozen 3
  have c54 := HB5.out.cell 4
  have f54 := HB5.out.frozen 4
  simp only [List.getElem?_toArray, List.getElem?_cons_zero, List.getElem?_cons_succ] at c40 c41 c42 c43 c44 c50 c51 c52 c53 c54
  go_wp2_with fail
  have hBZ := (((((HB4.out.set_ 0 (.int .i64 pp)).set_ 1 (.int .i64 mm)).set_ 2 (.int .i64 y0)).set_ 3 (.int .i64 y1)).set_ 4 (.int .i64 y2))
  have hCZ := (((((HV.out.set (p := ⟨b4, 0, none⟩) hb4g (.int .i64 pp)).set (p := ⟨b4, 1, none⟩) hb4g (.int .i64 mm)).set (p := ⟨b4, 2, none⟩) hb4g (.int .i64 y0)).set (p := ⟨b4, 3, none⟩) hb4g (.int .i64 y1)).set (p := ⟨b4, 4, none⟩) hb4g (.int .i64 y2))
  have hGZ := (grownBy_set (grownBy_set (grownBy_set (grownBy_set (grownBy_set GV.out (p := ⟨b4, 0, none⟩) hsz (.int .i64 pp)) (p := ⟨b4, 1, none⟩) hsz (.int .i64 mm)) (p := ⟨b4, 2, none⟩) hsz (.int .i64 y0)) (p := ⟨b4, 3, none⟩) hsz (.int .i64 y1)) (p := ⟨b4, 4, none⟩) hsz (.int .i64 y2))
  generalize (((((v1.setCell ⟨b4, 0, none⟩ (.int .i64 pp)).setCell ⟨b4, 1, none⟩ (.int .i64 mm)).setCell ⟨b4, 2, none⟩ (.int .i64 y0)).setCell ⟨b4, 3, none⟩ (.int .i64 y1)).setCell ⟨b4, 4, none⟩ (.int .i64 y2)) = WZ at hBZ hCZ hGZ ⊢
  have r0 := hBZ.cell 0
  have r1 := hBZ.cell 1
  have r2 := hBZ.cell 2
  have r3 := hBZ.cell 3
  have r4 := hBZ.cell 4
  simp only [List.setIfInBounds_toArray, List.set_cons_zero, List.set_cons_succ, List.getElem?_toArray, List.getElem?_cons_zero, List.getElem?_cons_succ] at r0 r1 r2 r3 r4
  refine bodyPost_ret (v := .agg #[.int .i64 pp, .int .i64 mm, .int .i64 y0, .int .i64 y1, .int .i64 y2]) ?_ rfl ?_
  · simp [results, Try.results90, go_sem, r0, r1, r2, r3, r4]
  exact ⟨_, _, _, _, _, rfl, hCZ.up (by omega), hGZ⟩
set_option maxRecDepth 100000 in
set_option maxHeartbeats 4000000 in
theorem accountsD_any (g t : Nat) (ht : t ≤ 1000000) (w : World) (hgw : g + 1 = w.heap.size) (h : CurOk w g t) :
    Calls Try.prog 84 #[.pointer (some ⟨g, 0, none⟩)] w fun e w' => ∃ (A : Option Addr) (n c : Nat) (xs : List Acct), e = .returned (.slice A n c) ∧ AccG w' g 25 5 A n c (acctF xs) ∧ n ≤ 13 ∧ CurOk w' g (t + 400) ∧ w.grownBy w' (some g) := by
  have HGW := Lib.hid hgw
  have hc0 := h.alloc (.cells #[] 25)
  have hA0 := AccG.empty (w := w) (g := g) (E := 25) (k := 5) (by omega)
  have hg0 := World.grownBy_alloc w (.cells #[] 25) (some g)
  have H0 := Lib.hid hc0
  have HA0 := Lib.hid hA0
  have G0 := Lib.hid hg0
  generalize hw0 : w.alloc (.cells #[] 25) = w0 at H0 HA0 G0
  have HW0 := Lib.hid hw0
  clear h hc0 hA0 hg0 hgw hw0
  go_enter Try.func84, Try.ntmps84
  go_wp2_with fail
  rw [HW0.out]
  have la := H0.out.lt
  refine (among_any g (t) (by omega) _ 3 _ _ _ (H0.out.alloc _) (ownsRow_litAt _ _ 3 _ (by rw [← HW0.out]; simp) (by omega) (by decide) rfl) (by rfl) (by omega) (by omega)).mono ?_
  rintro e w7 ⟨mo, rfl, hc, hg⟩
  have H7 := Lib.hid hc
  have HA7 := Lib.hid ((HA0.out.alloc _).kept hg)
  have G7 := Lib.hid (grownBy_trans G0.out (grownBy_alloc_trans hg))
  clear hc hg la
  go_wp2_with fail
  refine (pick_any g (t + 2) (by omega) 9 (by omega) _ H7.out).mono ?_
  rintro e w1 ⟨x, rfl, x0, x1, hc, hg⟩
  have H1 := Lib.hid hc
  have HA1 := Lib.hid (HA7.out.kept hg)
  have G1 := Lib.hid (grownBy_trans G7.out hg)
  clear hc hg
  obtain ⟨N, rfl⟩ := Int.eq_ofNat_of_zero_le x0
  have hN : N ≤ 8 := by omega
  clear x0 x1
  go_wp2_with fail
  go_loopw [3, 4, 5, 6] (fun o p u q wr => ∃ (k m c : Nat) (A : Option Addr) (xs : List Acct) (ip iu : Int) (t' : Nat), q = .int .i64 (k : Int) ∧ p = .int .i64 ip ∧ u = .int .i64 iu ∧ o = .slice A m c ∧ m + k ≤ 8 ∧ AccG wr g 25 5 A m c (acctF xs) ∧ CurOk wr g t' ∧ t' + 26 * k ≤ t + 4 + 208 ∧ w.grownBy wr (some g)) (fun _ _ _ q _ => (intOf q).toNat)
  case atStart => exact ⟨N, 0, 0, _, [], 1, mo, t + 2 + 2, rfl, rfl, rfl, rfl, by omega, HA1.out, H1.out, by omega, G1.out⟩
  case round =>
    obtain ⟨wo, rfl⟩ : ∃ wo : World, wo = wr := ⟨_, rfl⟩
    obtain ⟨k, m, c, A, xs, ip, iu, t', rfl, rfl, rfl, rfl, hmk, ha, hc, ht', hg⟩ := hrel
    have H2 := Lib.hid hc
    have HA2 := Lib.hid ha
    have G2 := Lib.hid hg
    clear ha hc hg
    by_cases hk : 0 < k
    · have k0 : (0 : Int) < k := by omega
      go_wp2_with fail
      refine (accountD_any g t' (by omega) _ _ _ H2.out).mono ?_
      rintro e w5 ⟨z0, z1, z2, z3, z4, rfl, hc, hg⟩
      have H5 := Lib.hid hc
      have HA5 := Lib.hid (HA2.out.kept hg)
      have G5 := Lib.hid (grownBy_trans G2.out hg)
      clear hc hg
      obtain ⟨w00, hs, ha⟩ := HA5.out.acc
      have HS := Lib.hid hs
      have HAC := Lib.hid ha
      have HLT := Lib.hid (fun b hb => (HA5.out.own.lt b hb).1)
      clear hs ha
      go_wp2_with (at_builtin; refine appAcct_b rfl _ _ rfl rfl (HAC.out.alloc _) rfl (reads_new _ _ _ 5 [z0, z1, z2, z3, z4] rfl rfl) (by omega) ?_; intro A2 c2 w6 a6 p6)
      have hr : ∀ b, A.map (·.block) = some b → g + 1 ≤ b := fun b hb => HLT.out b (by rw [ownBlock_slice]; exact hb)
      have H6 := Lib.hid ((H5.out.alloc _).grown p6.grown (fun b hb => by have := hr b hb; omega))
      have G6 := Lib.hid (grownBy_row (grownBy_alloc_ G5.out _) p6.grown (fun b hb => by have := hr b hb; have := HGW.out; omega))
      have HA6 := Lib.hid (AccG.of a6 HS.out)
      clear hr a6 p6
      go_wp2_with fail
      refine (one_any g (t' + 20) (by omega) 2 (by omega) _ H6.out).mono ?_
      rintro e w8 ⟨b, rfl, hc, hg⟩
      have H8 := Lib.hid hc
      have HA8 := Lib.hid (HA6.out.kept hg)
      have G8 := Lib.hid (grownBy_trans G6.out hg)
      clear hc hg
      cases b
      · go_wp2_with fail
        refine (pick_any g (t' + 20 + 2) (by omega) 2 (by omega) _ H8.out).mono ?_
        rintro e w9 ⟨y, rfl, y0, y1, hc, hg⟩
        have H9 := Lib.hid hc
        have HA9 := Lib.hid (HA8.out.kept hg)
        have G9 := Lib.hid (grownBy_trans G8.out hg)
        clear hc hg
        go_wp2_with fail
        refine (pick_any g (t' + 20 + 2 + 2) (by omega) 80 (by omega) _ H9.out).mono ?_
        rintro e w10 ⟨v, rfl, v0, v1, hc, hg⟩
        have H10 := Lib.hid hc
        have HA10 := Lib.hid (HA9.out.kept hg)
        have G10 := Lib.hid (grownBy_trans G9.out hg)
        clear hc hg
        go_wp2_with fail
        go_roundw
        case rel => exact ⟨k - 1, _, _, _, xs ++ [⟨z0, z1, z2, z3, z4⟩], _, _, _, by go_num, rfl, rfl, rfl, by omega, by rw [acctF_app]; exact HA10.out, H10.out, by omega, G10.out⟩
        case measure => simp [intOf]; omega
      · go_wp2_with fail
        refine (pick_any g (t' + 20 + 2) (by omega) 2 (by omega) _ H8.out).mono ?_
        rintro e w9 ⟨y, rfl, y0, y1, hc, hg⟩
        have H9 := Lib.hid hc
        have HA9 := Lib.hid (HA8.out.kept hg)
        have G9 := Lib.hid (grownBy_trans G8.out hg)
        clear hc hg
        go_wp2_with fail
        have la := H9.out.lt
        refine (among_any g (t' + 20 + 2 + 2) (by omega) _ 3 _ _ _ (H9.out.alloc _) (ownsRow_litAt _ _ 3 _ rfl (by omega) (by decide) rfl) (by rfl) (by omega) (by omega)).mono ?_
        rintro e w10 ⟨v, rfl, hc, hg⟩
        have H10 := Lib.hid hc
        have HA10 := Lib.hid ((HA9.out.alloc _).kept hg)
        have G10 := Lib.hid (grownBy_trans G9.out (grownBy_alloc_trans hg))
        clear hc hg la
        go_wp2_with fail
        go_roundw
        case rel => exact ⟨k - 1, _, _, _, xs ++ [⟨z0, z1, z2, z3, z4⟩], _, _, _, by go_num, rfl, rfl, rfl, by omega, by rw [acctF_app]; exact HA10.out, H10.out, by omega, G10.out⟩
        case measure => simp [intOf]; omega
    · obtain rfl : k = 0 := by omega
      go_wp2_with fail
      refine (one_any g (t') (by omega) 24 (by omega) _ H2.out).mono ?_
      rintro e w3 ⟨b, rfl, hc, hg⟩
      have H3 := Lib.hid hc
      have HA3 := Lib.hid (HA2.out.kept hg)
      have G3 := Lib.hid (grownBy_trans G2.out hg)
      clear hc hg
      cases b
      · go_wp2_with fail
        go_ret
        exact ⟨_, _, _, _, rfl, HA3.out, by omega, H3.out.up (by omega), G3.out⟩
      · have hc1 := H3.out.alloc (.cells #[] 25)
        have hA1 := AccG.empty (w := w3) (g := g) (E := 25) (k := 5) (by have := H3.out.lt; omega)
        have hg1 := grownBy_alloc_ G3.out (.cells #[] 25)
        have H3 := Lib.hid hc1
        have HA3 := Lib.hid hA1
        have G3 := Lib.hid hg1
        clear hc1 hA1 hg1
        go_wp2_with fail
        go_loopw [3, 7] (fun o i wr => ∃ (m c : Nat) (A : Option Addr) (xs : List Acct) (t'' : Nat), i = .int .i64 (m : Int) ∧ o = .slice A m c ∧ m ≤ 13 ∧ AccG wr g 25 5 A m c (acctF xs) ∧ CurOk wr g t'' ∧ t'' + 2 * (13 - m) ≤ t + 300 ∧ w.grownBy wr (some g)) (fun o _ _ => 13 - sliceLen o)
        case atStart => exact ⟨0, 0, _, [], t' + 2, rfl, rfl, by omega, HA3.out, H3.out, by omega, G3.out⟩
        case round =>
          obtain ⟨wo2, rfl⟩ : ∃ wo : World, wo = wr := ⟨_, rfl⟩
          obtain ⟨m, c, A, xs, t'', rfl, rfl, hm, ha, hc, htt, hg⟩ := hrel
          have H4 := Lib.hid hc
          have HA4 := Lib.hid ha
          have G4 := Lib.hid hg
          have m0 : (0 : Int) ≤ m := by omega
          clear ha hc hg
          go_wp2_with fail
          refine (pick_any g (t'') (by omega) 2 (by omega) _ H4.out).mono ?_
          rintro e w5 ⟨y, rfl, y0, y1, hc, hg⟩
          have H5 := Lib.hid hc
          have HA5 := Lib.hid (HA4.out.kept hg)
          have G5 := Lib.hid (grownBy_trans G4.out hg)
          clear hc hg
          by_cases hlt : (m : Int) < 10 + y
          · have hm12 : m ≤ 12 := by omega
            obtain ⟨w00, hs, ha⟩ := HA5.out.acc
            have HS := Lib.hid hs
            have HAC := Lib.hid ha
            have HLT := Lib.hid (fun b hb => (HA5.out.own.lt b hb).1)
            clear hs ha
            go_wp2_with (at_builtin; refine appAcct_b rfl _ _ rfl rfl (HAC.out.alloc _) rfl (reads_new _ _ _ 5 [_, _, _, 0, 0] rfl rfl) (by omega) ?_; intro A2 c2 w6 a6 p6)
            have hr : ∀ b, A.map (·.block) = some b → g + 1 ≤ b := fun b hb => HLT.out b (by rw [ownBlock_slice]; exact hb)
            have H6 := Lib.hid ((H5.out.alloc _).grown p6.grown (fun b hb => by have := hr b hb; omega))
            have G6 := Lib.hid (grownBy_row (grownBy_alloc_ G5.out _) p6.grown (fun b hb => by have := hr b hb; have := HGW.out; omega))
            have HA6 := Lib.hid (AccG.of a6 HS.out)
            clear hr a6 p6
            go_roundw
            case rel => exact ⟨m + 1, _, _, xs ++ [⟨_, _, _, _, _⟩], _, by go_num, rfl, by omega, by rw [acctF_app]; exact HA6.out, H6.out, by omega, G6.out⟩
            case measure => simp [sliceLen]; omega
          · go_wp2_with fail
            go_ret
            exact ⟨_, _, _, _, rfl, HA5.out, hm, H5.out.up (by omega), G5.out⟩
set_option maxHeartbeats 2000000 in
theorem price14D_any (g t : Nat) (ht : t ≤ 1000000) (w : World) (h : CurOk w g t) :
    Calls Try.prog 85 #[.pointer (some ⟨g, 0, none⟩)] w fun e w' => ∃ x : Int, e = .returned (.int .i64 x) ∧ CurOk w' g (t + 4) ∧ w.grownBy w' (some g) := by
  have H := Lib.hid h
  have hl := lit_ints w 3 #[.int .i64 (1), .int .i64 (2), .int .i64 (5), .int .i64 (9), .int .i64 (500), .int .i64 (0), .int .i64 (501)] 7 (by rfl) (by decide)
  have hlt := h.lt
  clear h
  go_enter Try.func85, Try.ntmps85
  go_wp2_with fail
  refine (pick_any g t (by omega) 24 (by omega) _ (H.out.alloc _)).mono ?_
  rintro e w1 ⟨q, rfl, q0, q1, hc, hg⟩
  have HL := Lib.hid (fun j (hj : j < 7) => by
    obtain ⟨z, hz⟩ := hl j hj
    exact (⟨z, (World.cell?_of_block (hg.block w.heap.size (by simp) (by intro e; injection e with e; omega))).trans hz⟩ : ∃ z, w1.cell? ⟨w.heap.size, j, none⟩ = some (.int .i64 z)))
  have H1 := Lib.hid hc
  have G1 := Lib.hid (grownBy_alloc_trans hg)
  obtain ⟨Q, hQ⟩ : ∃ Q : Nat, q / 11 = (Q : Int) := ⟨(q / 11).toNat, by omega⟩
  have hQ2 : Q ≤ 2 := by omega
  clear hl hc hg
  go_wp2_with fail
  refine (amongB_any g (t + 2) (by omega) _ _ _ _ H1.out (by omega) (fun j hj => HL.out j (by omega)) (by omega) (by omega)).mono ?_
  rintro e w2 ⟨x, rfl, hc, hg⟩
  go_wp2_with fail
  go_ret
  exact ⟨x, rfl, hc, grownBy_trans G1.out hg⟩
set_option maxRecDepth 100000 in
set_option maxHeartbeats 4000000 in
theorem payerD_any (g t : Nat) (ht : t ≤ 1000000) (A : Option Addr) (n c : Nat) (xs : List Acct) (w : World) (ha : AccG w g 25 5 A n c (acctF xs)) (hn : n ≤ 13) (h : CurOk w g t) :
    Calls Try.prog 89 #[.pointer (some ⟨g, 0, none⟩), .slice A n c] w fun e w' => ∃ x : Int, e = .returned (.int .i64 x) ∧ CurOk w' g (t + 4) ∧ w.grownBy w' (some g) := by
  have HA := Lib.hid ha
  have H := Lib.hid h
  have hlt := ha.lt
  clear ha h
  by_cases h0 : n = 0
  · have e0 : ((n : Int) == 0) = true := by simp [h0]
    clear h0
    go_enter Try.func89, Try.ntmps89
    go_wp2_with fail
    refine (among_any g t (by omega) _ 3 _ _ _ (H.out.alloc _) (ownsRow_litAt _ _ 3 _ rfl (by omega) (by decide) rfl) (by rfl) (by omega) (by omega)).mono ?_
    rintro e w1 ⟨x, rfl, hc, hg⟩
    go_wp2_with fail
    go_ret
    exact ⟨x, rfl, hc.up (by omega), grownBy_alloc_trans hg⟩
  · have e0 : ((n : Int) == 0) = false := by simp; omega
    have hn0 : 0 < n := by omega
    clear h0
    go_enter Try.func89, Try.ntmps89
    go_wp2_with fail
    refine (one_any g t (by omega) 10 (by omega) _ H.out).mono ?_
    rintro e w1 ⟨b, rfl, hc, hg⟩
    have H1 := Lib.hid hc
    have HA1 := Lib.hid (HA.out.kept hg)
    have G1 := Lib.hid hg
    have hlt1 := hc.lt
    clear hc hg
    cases b
    · go_wp2_with fail
      refine (pick_any g (t + 2) (by omega) (n : Int) (by omega) _ H1.out).mono ?_
      rintro e w2 ⟨x, rfl, x0, x1, hc, hg⟩
      have H2 := Lib.hid hc
      have HA2 := Lib.hid (HA1.out.kept hg)
      have G2 := Lib.hid (grownBy_trans G1.out hg)
      obtain ⟨X, rfl⟩ := Int.eq_ofNat_of_zero_le x0
      have hX : X < n := by omega
      obtain ⟨b, o, x, hAx, hx, hc0, hc1, hc2, hc3, hc4⟩ := HA2.out.reads.acct hX
      subst hAx
      have X1 : (X : Int) < n := by omega
      clear hc hg hx
      go_wp2_with fail
      go_ret
      exact ⟨_, rfl, H2.out.up (by omega), G2.out⟩
    · go_wp2_with fail
      refine (among_any g (t + 2) (by omega) _ 3 _ _ _ (H1.out.alloc _) (ownsRow_litAt _ _ 3 _ rfl (by omega) (by decide) rfl) (by rfl) (by omega) (by omega)).mono ?_
      rintro e w2 ⟨x, rfl, hc, hg⟩
      go_wp2_with fail
      go_ret
      exact ⟨x, rfl, hc, grownBy_trans G1.out (grownBy_alloc_trans hg)⟩
set_option maxRecDepth 100000 in
set_option maxHeartbeats 4000000 in
theorem DrawDebtors_any (A : Option Addr) (n c B : Nat) (w : World) (h : CodeOk w B A n) (hB : B ≤ w.heap.size) :
    Calls Try.prog 48 #[.slice A n c] w fun e w' => ∃ (A' : Option Addr) (n' c' : Nat) (xs : List Acct) (x0 : Int), e = .returned (.tuple #[.slice A' n' c', .int .i64 x0]) ∧ Drawn w w' 5 A' n' c' (acctF xs) ∧ n' ≤ 13 := by
  have H0 := Lib.hid (cur_new (c := c) h hB)
  clear h
  go_enter Try.func48, Try.ntmps48
  go_wp2_with fail
  refine (accountsD_any w.heap.size 0 (by omega) _ (by simp) H0.out).mono ?_
  rintro e w1 ⟨A', n', c', xs, rfl, ha, hn', hc, hg⟩
  have H1 := Lib.hid hc
  have HA1 := Lib.hid ha
  have G1 := Lib.hid hg
  clear ha hc hg
  go_wp2_with fail
  refine (price14D_any w.heap.size 400 (by omega) _ H1.out).mono ?_
  rintro e w2 ⟨x0, rfl, hc, hg⟩
  have H2 := Lib.hid hc
  have HA2 := Lib.hid (HA1.out.kept hg)
  have G2 := Lib.hid (grownBy_trans G1.out hg)
  clear hc hg
  go_wp2_with fail
  go_ret2
  exact ⟨_, _, _, xs, x0, rfl, drawn_of HA2.out G2.out, hn'⟩
set_option maxRecDepth 100000 in
set_option maxHeartbeats 4000000 in
theorem DrawBalanceOf_any (A : Option Addr) (n c B : Nat) (w : World) (h : CodeOk w B A n) (hB : B ≤ w.heap.size) :
    Calls Try.prog 60 #[.slice A n c] w fun e w' => ∃ (A' : Option Addr) (n' c' : Nat) (xs : List Acct) (x0 x1 : Int), e = .returned (.tuple #[.slice A' n' c', .int .i64 x0, .int .i64 x1]) ∧ Drawn w w' 5 A' n' c' (acctF xs) ∧ n' ≤ 13 := by
  have H0 := Lib.hid (cur_new (c := c) h hB)
  clear h
  go_enter Try.func60, Try.ntmps60
  go_wp2_with fail
  refine (accountsD_any w.heap.size 0 (by omega) _ (by simp) H0.out).mono ?_
  rintro e w1 ⟨A', n', c', xs, rfl, ha, hn', hc, hg⟩
  have H1 := Lib.hid hc
  have HA1 := Lib.hid ha
  have G1 := Lib.hid hg
  clear ha hc hg
  go_wp2_with fail
  refine (payerD_any w.heap.size 400 (by omega) _ n' c' xs _ HA1.out hn' H1.out).mono ?_
  rintro e w2 ⟨x0, rfl, hc, hg⟩
  have H2 := Lib.hid hc
  have HA2 := Lib.hid (HA1.out.kept hg)
  have G2 := Lib.hid (grownBy_trans G1.out hg)
  clear hc hg
  go_wp2_with fail
  refine (price14D_any w.heap.size 404 (by omega) _ H2.out).mono ?_
  rintro e w3 ⟨x1, rfl, hc, hg⟩
  have H3 := Lib.hid hc
  have HA3 := Lib.hid (HA2.out.kept hg)
  have G3 := Lib.hid (grownBy_trans G2.out hg)
  clear hc hg
  go_wp2_with fail
  go_ret3
  exact ⟨_, _, _, xs, x0, x1, rfl, drawn_of HA3.out G3.out, hn'⟩
set_option maxRecDepth 100000 in
set_option maxHeartbeats 4000000 in
theorem DrawPriceFor_any (A : Option Addr) (n c B : Nat) (w : World) (h : CodeOk w B A n) (hB : B ≤ w.heap.size) :
    Calls Try.prog 51 #[.slice A n c] w fun e w' => ∃ (A' : Option Addr) (n' c' : Nat) (xs : List Acct) (x0 : Int), e = .returned (.tuple #[.slice A' n' c', .int .i64 x0]) ∧ Drawn w w' 5 A' n' c' (acctF xs) ∧ n' ≤ 13 := by
  have H0 := Lib.hid (cur_new (c := c) h hB)
  clear h
  go_enter Try.func51, Try.ntmps51
  go_wp2_with fail
  refine (accountsD_any w.heap.size 0 (by omega) _ (by simp) H0.out).mono ?_
  rintro e w1 ⟨A', n', c', xs, rfl, ha, hn', hc, hg⟩
  have H1 := Lib.hid hc
  have HA1 := Lib.hid ha
  have G1 := Lib.hid hg
  clear ha hc hg
  go_wp2_with fail
  have hl := lit_ints w1 3 #[.int .i64 (0), .int .i64 (1), .int .i64 (40), .int .i64 (777), .int .i64 (20000), .int .i64 (10000000), .int .i64 (-1), .int .i64 (10000001)] 8 (by rfl) (by decide)
  have hlt := H1.out.lt
  refine (pick_any w.heap.size 400 (by omega) 24 (by omega) _ (H1.out.alloc _)).mono ?_
  rintro e w2 ⟨q, rfl, q0, q1, hc, hg⟩
  have HL := Lib.hid (fun j (hj : j < 8) => by
    obtain ⟨z, hz⟩ := hl j hj
    exact (⟨z, (World.cell?_of_block (hg.block w1.heap.size (by simp) (by intro e; injection e with e; omega))).trans hz⟩ : ∃ z, w2.cell? ⟨w1.heap.size, j, none⟩ = some (.int .i64 z)))
  have H2 := Lib.hid hc
  have HA2 := Lib.hid ((HA1.out.alloc _).kept hg)
  have G2 := Lib.hid (grownBy_trans G1.out (grownBy_alloc_trans hg))
  obtain ⟨Q, hQ⟩ : ∃ Q : Nat, q / 11 = (Q : Int) := ⟨(q / 11).toNat, by omega⟩
  have hQ2 : Q ≤ 2 := by omega
  clear hl hc hg
  go_wp2_with fail
  refine (amongB_any w.heap.size 402 (by omega) _ _ _ _ H2.out (by omega) (fun j hj => HL.out j (by omega)) (by omega) (by omega)).mono ?_
  rintro e w3 ⟨x0, rfl, hc, hg⟩
  have H3 := Lib.hid hc
  have HA3 := Lib.hid (HA2.out.kept hg)
  have G3 := Lib.hid (grownBy_trans G2.out hg)
  clear hc hg HL hlt hQ hQ2 q0 q1
  go_wp2_with fail
  go_ret2
  exact ⟨_, _, _, xs, x0, rfl, drawn_of HA3.out G3.out, hn'⟩
set_option maxHeartbeats 2000000 in
theorem DrawMonthSums_any (A : Option Addr) (n c B : Nat) (w : World) (h : CodeOk w B A n) (hB : B ≤ w.heap.size) :
    Calls Try.prog 57 #[.slice A n c] w fun e w' => ∃ (A' : Option Addr) (n' c' : Nat) (xs : List Acct) (x0 : Int), e = .returned (.tuple #[.slice A' n' c', .int .i64 x0]) ∧ Drawn w w' 5 A' n' c' (acctF xs) ∧ n' ≤ 13 := by
  go_enter Try.func57, Try.ntmps57
  go_wp2_with fail
  refine (DrawDebtors_any A n c B _ h hB).mono ?_
  rintro e w1 ⟨A', n', c', xs, x0, rfl, hd, hn'⟩
  go_wp2_with fail
  go_ret2
  exact ⟨_, _, _, xs, x0, rfl, hd, hn'⟩
set_option maxHeartbeats 2000000 in
theorem DrawLastPaidUp_any (A : Option Addr) (n c B : Nat) (w : World) (h : CodeOk w B A n) (hB : B ≤ w.heap.size) :
    Calls Try.prog 54 #[.slice A n c] w fun e w' => ∃ (A' : Option Addr) (n' c' : Nat) (xs : List Acct) (x0 x1 : Int), e = .returned (.tuple #[.slice A' n' c', .int .i64 x0, .int .i64 x1]) ∧ Drawn w w' 5 A' n' c' (acctF xs) ∧ n' ≤ 13 := by
  go_enter Try.func54, Try.ntmps54
  go_wp2_with fail
  refine (DrawBalanceOf_any A n c B _ h hB).mono ?_
  rintro e w1 ⟨A', n', c', xs, x0, x1, rfl, hd, hn'⟩
  go_wp2_with fail
  go_ret3
  exact ⟨_, _, _, xs, x0, x1, rfl, hd, hn'⟩
set_option maxRecDepth 100000 in
set_option maxHeartbeats 4000000 in
theorem DrawIsAccount_any (A : Option Addr) (n c B : Nat) (w : World) (h : CodeOk w B A n) (hB : B ≤ w.heap.size) :
    Calls Try.prog 55 #[.slice A n c] w fun e w' => ∃ z0 z1 z2 z3 z4 : Int, e = .returned (.agg #[.int .i64 z0, .int .i64 z1, .int .i64 z2, .int .i64 z3, .int .i64 z4]) ∧ Below w.heap.size w w' := by
  have hb0 := ext_alloc (Below.refl w.heap.size w) (.cells #[.int .i64 0, .int .i64 0, .int .i64 0, .int .i64 0, .int .i64 0] 25)
  have hB4 := Blk.new w 25 #[.int .i64 0, .int .i64 0, .int .i64 0, .int .i64 0, .int .i64 0]
  have hsz0 : (w.alloc (.cells #[.int .i64 0, .int .i64 0, .int .i64 0, .int .i64 0, .int .i64 0] 25)).heap.size = w.heap.size + 1 := by simp
  have H0 := Lib.hid (cur_new (c := c) (h.below (hb0.mono hB)) (show B ≤ (w.alloc (.cells #[.int .i64 0, .int .i64 0, .int .i64 0, .int .i64 0, .int .i64 0] 25)).heap.size by rw [hsz0]; omega))
  obtain ⟨b4, hb4⟩ : ∃ b4, w.heap.size = b4 := ⟨_, rfl⟩
  rw [hb4] at hB4
  generalize hw0 : w.alloc (.cells #[.int .i64 0, .int .i64 0, .int .i64 0, .int .i64 0, .int .i64 0] 25) = w0 at hb0 hB4 hsz0 H0
  have HB4 := Lib.hid (hB4.alloc (.cells #[.slice A n c, .int .i64 0, .int .u64 0] 83))
  have HW0 := Lib.hid hw0
  have HSZ := Lib.hid hb4
  have HB0 := Lib.hid hb0
  have HZ0 := Lib.hid hsz0
  clear h hw0 hB4 hb0 hb4 hsz0
  go_enter Try.func55, Try.ntmps55
  go_wp2_with fail
  rw [HW0.out]
  (try rw [HSZ.out])
  have hgs : w0.heap.size = b4 + 1 := by rw [← HSZ.out]; exact HZ0.out
  have hge : b4 + 1 = w0.heap.size := hgs.symm
  have HGE := Lib.hid hge
  rw [hgs] at H0
  (try rw [hgs])
  generalize hv0 : w0.alloc (.cells #[.slice A n c, .int .i64 0, .int .u64 0] 83) = v0 at HB4 H0 ⊢
  have HV0 := Lib.hid hv0
  have G0 := Lib.hid (World.grownBy.refl v0 (some (b4 + 1)))
  clear hv0 hgs hge
  skip
  refine (among_any (b4 + 1) 0 (by omega) _ 3 _ _ _ (H0.out.alloc _) (ownsRow_litAt _ _ 3 _ (by first | rfl | (rw [← HV0.out]; simp [← HGE.out])) (by have := H0.out.lt; omega) (by decide) rfl) (by rfl) (by omega) (by omega)).mono ?_
  rintro e v1 ⟨y0, rfl, hc, hg⟩
  have H1 := Lib.hid hc
  have HB4 := Lib.hid ((HB4.out.alloc _).grown hg (by intro e; injection e with e; omega))
  have G1 := Lib.hid (grownBy_trans G0.out (grownBy_alloc_trans hg))
  clear hc hg
  go_wp2_with fail
  refine (among_any (b4 + 1) 2 (by omega) _ 3 _ _ _ (H1.out.alloc _) (ownsRow_litAt _ _ 3 _ (by first | rfl | (rw [← HV0.out]; simp [← HGE.out])) (by have := H1.out.lt; omega) (by decide) rfl) (by rfl) (by omega) (by omega)).mono ?_
  rintro e v2 ⟨y1, rfl, hc, hg⟩
  have H2 := Lib.hid hc
  have HB4 := Lib.hid ((HB4.out.alloc _).grown hg (by intro e; injection e with e; omega))
  have G2 := Lib.hid (grownBy_trans G1.out (grownBy_alloc_trans hg))
  clear hc hg
  go_wp2_with fail
  refine (accountD_any (b4 + 1) 4 (by omega) _ _ _ H2.out).mono ?_
  rintro e vz ⟨z0, z1, z2, z3, z4, rfl, hc, hg⟩
  have HB4 := Lib.hid (HB4.out.grown hg (by intro e; injection e with e; omega))
  have hBe : Below w.heap.size w vz := by
    have h1 : Below w.heap.size w v0 := HV0.out ▸ ext_alloc HB0.out _
    have h2 := grownBy_trans G2.out hg
    exact ext_grown h1 h2 (fun x e => by injection e with e; have := HSZ.out; omega)
  have c40 := HB4.out.cell 0
  have f40 := HB4.out.frozen 0
  have c41 := HB4.out.cell 1
  have f41 := HB4.out.frozen 1
  have c42 := HB4.out.cell 2
  have f42 := HB4.out.frozen 2
  have c43 := HB4.out.cell 3
  have f43 := HB4.out.frozen 3
  have c44 := HB4.out.cell 4
  have f44 := HB4.out.frozen 4
  simp only [List.getElem?_toArray, List.getElem?_cons_zero, List.getElem?_cons_succ] at c40 c41 c42 c43 c44
  clear hc hg
  go_wp2_with fail
  have hBZ := (((((HB4.out.set_ 0 (.int .i64 z0)).set_ 1 (.int .i64 z1)).set_ 2 (.int .i64 z2)).set_ 3 (.int .i64 z3)).set_ 4 (.int .i64 z4))
  have hGZ := (ext_set (ext_set (ext_set (ext_set (ext_set hBe (p := ⟨b4, 0, none⟩) (show w.heap.size ≤ b4 by have := HSZ.out; omega) (.int .i64 z0)) (p := ⟨b4, 1, none⟩) (show w.heap.size ≤ b4 by have := HSZ.out; omega) (.int .i64 z1)) (p := ⟨b4, 2, none⟩) (show w.heap.size ≤ b4 by have := HSZ.out; omega) (.int .i64 z2)) (p := ⟨b4, 3, none⟩) (show w.heap.size ≤ b4 by have := HSZ.out; omega) (.int .i64 z3)) (p := ⟨b4, 4, none⟩) (show w.heap.size ≤ b4 by have := HSZ.out; omega) (.int .i64 z4))
  generalize (((((vz.setCell ⟨b4, 0, none⟩ (.int .i64 z0)).setCell ⟨b4, 1, none⟩ (.int .i64 z1)).setCell ⟨b4, 2, none⟩ (.int .i64 z2)).setCell ⟨b4, 3, none⟩ (.int .i64 z3)).setCell ⟨b4, 4, none⟩ (.int .i64 z4)) = WZ at hBZ hGZ ⊢
  have r0 := hBZ.cell 0
  have r1 := hBZ.cell 1
  have r2 := hBZ.cell 2
  have r3 := hBZ.cell 3
  have r4 := hBZ.cell 4
  simp only [List.setIfInBounds_toArray, List.set_cons_zero, List.set_cons_succ, List.getElem?_toArray, List.getElem?_cons_zero, List.getElem?_cons_succ] at r0 r1 r2 r3 r4
  refine bodyPost_ret (v := .agg #[.int .i64 z0, .int .i64 z1, .int .i64 z2, .int .i64 z3, .int .i64 z4]) ?_ rfl ?_
  · simp [results, Try.results55, go_sem, r0, r1, r2, r3, r4]
  exact ⟨_, _, _, _, _, rfl, hGZ⟩
set_option maxRecDepth 100000 in
set_option maxHeartbeats 4000000 in
theorem DrawFeeOf_any (A : Option Addr) (n c B : Nat) (w : World) (h : CodeOk w B A n) (hB : B ≤ w.heap.size) :
    Calls Try.prog 56 #[.slice A n c] w fun e w' => ∃ z0 z1 z2 z3 z4 x : Int, e = .returned (.tuple #[.agg #[.int .i64 z0, .int .i64 z1, .int .i64 z2, .int .i64 z3, .int .i64 z4], .int .i64 x]) ∧ Below w.heap.size w w' := by
  have hb0 := ext_alloc (Below.refl w.heap.size w) (.cells #[.int .i64 0, .int .i64 0, .int .i64 0, .int .i64 0, .int .i64 0] 25)
  have hB4 := Blk.new w 25 #[.int .i64 0, .int .i64 0, .int .i64 0, .int .i64 0, .int .i64 0]
  have hsz0 : (w.alloc (.cells #[.int .i64 0, .int .i64 0, .int .i64 0, .int .i64 0, .int .i64 0] 25)).heap.size = w.heap.size + 1 := by simp
  have H0 := Lib.hid (cur_new (c := c) (h.below (hb0.mono hB)) (show B ≤ (w.alloc (.cells #[.int .i64 0, .int .i64 0, .int .i64 0, .int .i64 0, .int .i64 0] 25)).heap.size by rw [hsz0]; omega))
  obtain ⟨b4, hb4⟩ : ∃ b4, w.heap.size = b4 := ⟨_, rfl⟩
  rw [hb4] at hB4
  generalize hw0 : w.alloc (.cells #[.int .i64 0, .int .i64 0, .int .i64 0, .int .i64 0, .int .i64 0] 25) = w0 at hb0 hB4 hsz0 H0
  have HB4 := Lib.hid (hB4.alloc (.cells #[.slice A n c, .int .i64 0, .int .u64 0] 83))
  have HW0 := Lib.hid hw0
  have HSZ := Lib.hid hb4
  have HB0 := Lib.hid hb0
  have HZ0 := Lib.hid hsz0
  clear h hw0 hB4 hb0 hb4 hsz0
  go_enter Try.func56, Try.ntmps56
  go_wp2_with fail
  rw [HW0.out]
  (try rw [HSZ.out])
  have hgs : w0.heap.size = b4 + 1 := by rw [← HSZ.out]; exact HZ0.out
  have hge : b4 + 1 = w0.heap.size := hgs.symm
  have HGE := Lib.hid hge
  rw [hgs] at H0
  (try rw [hgs])
  generalize hv0 : w0.alloc (.cells #[.slice A n c, .int .i64 0, .int .u64 0] 83) = v0 at HB4 H0 ⊢
  have HV0 := Lib.hid hv0
  have G0 := Lib.hid (World.grownBy.refl v0 (some (b4 + 1)))
  clear hv0 hgs hge
  refine (accountD_any (b4 + 1) 0 (by omega) 5 7 _ H0.out).mono ?_
  rintro e vz ⟨z0, z1, z2, z3, z4, rfl, hc, hg⟩
  have HB4 := Lib.hid (HB4.out.grown hg (by intro e; injection e with e; omega))
  have HG1 := Lib.hid (grownBy_trans G0.out hg)
  have HC1 := Lib.hid hc
  clear hc hg
  go_wp2_with fail
  refine (price14D_any (b4 + 1) 20 (by omega) _ HC1.out).mono ?_
  rintro e vz ⟨x, rfl, hc, hg⟩
  have HB4 := Lib.hid (HB4.out.grown hg (by intro e; injection e with e; omega))
  have hBe : Below w.heap.size w vz := by
    have h1 : Below w.heap.size w v0 := HV0.out ▸ ext_alloc HB0.out _
    have h2 := grownBy_trans HG1.out hg
    exact ext_grown h1 h2 (fun x e => by injection e with e; have := HSZ.out; omega)
  have c40 := HB4.out.cell 0
  have f40 := HB4.out.frozen 0
  have c41 := HB4.out.cell 1
  have f41 := HB4.out.frozen 1
  have c42 := HB4.out.cell 2
  have f42 := HB4.out.frozen 2
  have c43 := HB4.out.cell 3
  have f43 := HB4.out.frozen 3
  have c44 := HB4.out.cell 4
  have f44 := HB4.out.frozen 4
  simp only [List.getElem?_toArray, List.getElem?_cons_zero, List.getElem?_cons_succ] at c40 c41 c42 c43 c44
  clear hc hg
  go_wp2_with fail
  have hBZ := (((((HB4.out.set_ 0 (.int .i64 z0)).set_ 1 (.int .i64 z1)).set_ 2 (.int .i64 z2)).set_ 3 (.int .i64 z3)).set_ 4 (.int .i64 z4))
  have hGZ := (ext_set (ext_set (ext_set (ext_set (ext_set hBe (p := ⟨b4, 0, none⟩) (show w.heap.size ≤ b4 by have := HSZ.out; omega) (.int .i64 z0)) (p := ⟨b4, 1, none⟩) (show w.heap.size ≤ b4 by have := HSZ.out; omega) (.int .i64 z1)) (p := ⟨b4, 2, none⟩) (show w.heap.size ≤ b4 by have := HSZ.out; omega) (.int .i64 z2)) (p := ⟨b4, 3, none⟩) (show w.heap.size ≤ b4 by have := HSZ.out; omega) (.int .i64 z3)) (p := ⟨b4, 4, none⟩) (show w.heap.size ≤ b4 by have := HSZ.out; omega) (.int .i64 z4))
  generalize (((((vz.setCell ⟨b4, 0, none⟩ (.int .i64 z0)).setCell ⟨b4, 1, none⟩ (.int .i64 z1)).setCell ⟨b4, 2, none⟩ (.int .i64 z2)).setCell ⟨b4, 3, none⟩ (.int .i64 z3)).setCell ⟨b4, 4, none⟩ (.int .i64 z4)) = WZ at hBZ hGZ ⊢
  have r0 := hBZ.cell 0
  have r1 := hBZ.cell 1
  have r2 := hBZ.cell 2
  have r3 := hBZ.cell 3
  have r4 := hBZ.cell 4
  simp only [List.setIfInBounds_toArray, List.set_cons_zero, List.set_cons_succ, List.getElem?_toArray, List.getElem?_cons_zero, List.getElem?_cons_succ] at r0 r1 r2 r3 r4
  refine bodyPost_ret (v := .tuple #[.agg #[.int .i64 z0, .int .i64 z1, .int .i64 z2, .int .i64 z3, .int .i64 z4], .int .i64 x]) ?_ rfl ?_
  · simp [results, Try.results56, go_sem, r0, r1, r2, r3, r4]
  exact ⟨_, _, _, _, _, _, rfl, hGZ⟩
set_option maxRecDepth 100000 in
set_option maxHeartbeats 4000000 in
theorem DrawFeeText_any (A : Option Addr) (n c B : Nat) (w : World) (h : CodeOk w B A n) (hB : B ≤ w.heap.size) :
    Calls Try.prog 61 #[.slice A n c] w fun e w' => ∃ z0 z1 z2 z3 z4 x : Int, e = .returned (.tuple #[.agg #[.int .i64 z0, .int .i64 z1, .int .i64 z2, .int .i64 z3, .int .i64 z4], .int .i64 x]) ∧ Below w.heap.size w w' := by
  have hb0 := ext_alloc (Below.refl w.heap.size w) (.cells #[.int .i64 0, .int .i64 0, .int .i64 0, .int .i64 0, .int .i64 0] 25)
  have hB4 := Blk.new w 25 #[.int .i64 0, .int .i64 0, .int .i64 0, .int .i64 0, .int .i64 0]
  have hc := h.below (hb0.mono hB)
  have hs0 : B ≤ (w.alloc (.cells #[.int .i64 0, .int .i64 0, .int .i64 0, .int .i64 0, .int .i64 0] 25)).heap.size := Nat.le_trans hB hb0.size
  obtain ⟨b4, hb4⟩ : ∃ b4, w.heap.size = b4 := ⟨_, rfl⟩
  rw [hb4] at hB4
  generalize hw0 : w.alloc (.cells #[.int .i64 0, .int .i64 0, .int .i64 0, .int .i64 0, .int .i64 0] 25) = w0 at hb0 hB4 hc hs0
  have HB4 := Lib.hid hB4
  have HW0 := Lib.hid hw0
  have HSZ := Lib.hid hb4
  have HB0 := Lib.hid hb0
  have HC := Lib.hid hc
  clear h hw0 hB4 hb0 hb4 hc
  go_enter Try.func61, Try.ntmps61
  go_wp2_with fail
  rw [HW0.out]
  (try rw [HSZ.out])
  refine (DrawFeeOf_any A n c B _ HC.out hs0).mono ?_
  rintro e vz ⟨z0, z1, z2, z3, z4, x, rfl, hb⟩
  have HB4 := Lib.hid (HB4.out.below hb HB4.out.lt)
  have hBe : Below w.heap.size w vz := ext_trans HB0.out hb
  have c40 := HB4.out.cell 0
  have f40 := HB4.out.frozen 0
  have c41 := HB4.out.cell 1
  have f41 := HB4.out.frozen 1
  have c42 := HB4.out.cell 2
  have f42 := HB4.out.frozen 2
  have c43 := HB4.out.cell 3
  have f43 := HB4.out.frozen 3
  have c44 := HB4.out.cell 4
  have f44 := HB4.out.frozen 4
  simp only [List.getElem?_toArray, List.getElem?_cons_zero, List.getElem?_cons_succ] at c40 c41 c42 c43 c44
  go_wp2_with fail
  have hBZ := (((((HB4.out.set_ 0 (.int .i64 z0)).set_ 1 (.int .i64 z1)).set_ 2 (.int .i64 z2)).set_ 3 (.int .i64 z3)).set_ 4 (.int .i64 z4))
  have hGZ := (ext_set (ext_set (ext_set (ext_set (ext_set hBe (p := ⟨b4, 0, none⟩) (show w.heap.size ≤ b4 by have := HSZ.out; omega) (.int .i64 z0)) (p := ⟨b4, 1, none⟩) (show w.heap.size ≤ b4 by have := HSZ.out; omega) (.int .i64 z1)) (p := ⟨b4, 2, none⟩) (show w.heap.size ≤ b4 by have := HSZ.out; omega) (.int .i64 z2)) (p := ⟨b4, 3, none⟩) (show w.heap.size ≤ b4 by have := HSZ.out; omega) (.int .i64 z3)) (p := ⟨b4, 4, none⟩) (show w.heap.size ≤ b4 by have := HSZ.out; omega) (.int .i64 z4))
  generalize (((((vz.setCell ⟨b4, 0, none⟩ (.int .i64 z0)).setCell ⟨b4, 1, none⟩ (.int .i64 z1)).setCell ⟨b4, 2, none⟩ (.int .i64 z2)).setCell ⟨b4, 3, none⟩ (.int .i64 z3)).setCell ⟨b4, 4, none⟩ (.int .i64 z4)) = WZ at hBZ hGZ ⊢
  have r0 := hBZ.cell 0
  have r1 := hBZ.cell 1
  have r2 := hBZ.cell 2
  have r3 := hBZ.cell 3
  have r4 := hBZ.cell 4
  simp only [List.setIfInBounds_toArray, List.set_cons_zero, List.set_cons_succ, List.getElem?_toArray, List.getElem?_cons_zero, List.getElem?_cons_succ] at r0 r1 r2 r3 r4
  refine bodyPost_ret (v := .tuple #[.agg #[.int .i64 z0, .int .i64 z1, .int .i64 z2, .int .i64 z3, .int .i64 z4], .int .i64 x]) ?_ rfl ?_
  · simp [results, Try.results61, go_sem, r0, r1, r2, r3, r4]
  exact ⟨_, _, _, _, _, _, rfl, hGZ⟩
end Go.Proofs.Ytbjmpllnkkfgfaa
