/- The law FnExactFewestBeads: out of the two sides' contracts. No condition. -/
import Derived.Test.YtkgbcjiinicffaaImp
import Derived.Test.YtkgbcjiinicffaaHeld
namespace Go.Proofs.Ytkgbcjiinicffaa
open Go.RowKit

set_option maxRecDepth 100000 in
set_option maxHeartbeats 8000000 in
theorem FnExactFewestBeads_any (u l : Int) (A : Option Addr) (n c : Nat) (xs : List Rod) (N : Int) (wN : (Lit.int .i64 N).wf = true) (w : World) (h : Reads w w.heap.size 2 A n ((rodF xs).map (Value.int .i64)) ∧ n ≤ maxLen) :
    Calls Try.prog 5 #[.agg #[.int .i64 u, .int .i64 l, .slice A n c], .int .i64 N] w fun e w' => e = .returned (.bool true) ∧ Below w.heap.size w w' := by
  obtain ⟨h, hn⟩ := h
  have hN2 := (wf_bd wN).2
  have hb := ext_alloc (Below.refl w.heap.size w) (.cells #[.int .i64 u, .int .i64 l, .slice A n c] 29)
  have hBk := Blk.new w 29 #[.int .i64 u, .int .i64 l, .slice A n c]
  have hr := h.below hb
  have hz := hb.size
  have hsz := szFrame_any u l A n c hn
  generalize hw1 : w.alloc (.cells #[.int .i64 u, .int .i64 l, .slice A n c] 29) = w1 at hb hBk hr hz
  have HB := Lib.hid hb
  have HK := Lib.hid hBk
  have HW := Lib.hid hw1
  have R1 := Lib.hid hr
  have HSZ := Lib.hid hsz
  clear hb hBk hw1 h hr hsz
  by_cases hbig : n ≤ 1048576
  · have hn2 := hbig
    rw [if_pos hbig] at HSZ
    have hlt : ¬ (1048576 - (n : Int) < 0) := by omega
    have hv1 := fun (A : Option Addr) (c B : Nat) (w : World) h hB => sFewestBeads_any u l A n c B xs N w h hB hn2 hN2
    have hv2 := fun (A : Option Addr) (c B : Nat) (w : World) h hB => iFewestBeads_any u l A n c B xs N w h hB hn2 hN2
    generalize (fewV u l xs N).b = V at hv1 hv2
    generalize ((fewV u l xs N).ok) = ok at hv1 hv2
    have H1 := Lib.hid hv1
    have H2 := Lib.hid hv2
    have k1 : (V != V) = false := by simp
    have k2 : (ok != ok) = false := by simp
    clear hv1 hv2
    have x0 := HK.out.cell 0
    have x1 := HK.out.cell 1
    have x2 := HK.out.cell 2
    simp only [List.getElem?_toArray, List.getElem?_cons_zero, List.getElem?_cons_succ] at x0 x1 x2
    go_enter Try.func5, Try.ntmps5
    go_wp2_with fail
    rw [HW.out]
    refine (HSZ.out _).mono ?_
    rintro e w2 ⟨rfl, hb2⟩
    have z2 := hb2.size
    have HX2 := Lib.hid (HK.out.below hb2 HK.out.lt)
    have R2 := Lib.hid (R1.out.below (hb2.mono hz))
    have y0 := HX2.out.cell 0
    have y1 := HX2.out.cell 1
    have y2 := HX2.out.cell 2
    simp only [List.getElem?_toArray, List.getElem?_cons_zero, List.getElem?_cons_succ] at y0 y1 y2
    have B2 := Lib.hid (ext_trans HB.out hb2)
    clear hb2 x0 x1 x2
    go_wp2_with fail
    refine (toFrame_any u l A n c _ xs _ R2.out (Nat.le_trans hz z2) hn2).mono ?_
    rintro e w3 ⟨A0, c0, rfl, r3, hb3⟩
    have z3 := hb3.size
    go_wp2_with fail
    refine (H1.out A0 c0 _ _ r3 (Nat.le_refl _)).mono ?_
    rintro e w3' ⟨rfl, hb3'⟩
    have z3' := hb3'.size
    have b23 := ext_trans hb3 hb3'
    have HX3 := Lib.hid (HX2.out.below b23 HX2.out.lt)
    have R3 := Lib.hid (R2.out.below (b23.mono (Nat.le_trans hz z2)))
    have B3 := Lib.hid (ext_trans B2.out b23)
    have x0 := HX3.out.cell 0
    have x1 := HX3.out.cell 1
    have x2 := HX3.out.cell 2
    simp only [List.getElem?_toArray, List.getElem?_cons_zero, List.getElem?_cons_succ] at x0 x1 x2
    clear hb3 hb3' b23 r3 y0 y1 y2
    go_wp2_with fail
    refine (toFrame_any u l A n c _ xs _ R3.out (Nat.le_trans (Nat.le_trans hz z2) (Nat.le_trans z3 z3')) hn2).mono ?_
    rintro e w4 ⟨A1, c1, rfl, r4, hb4⟩
    have HX4 := Lib.hid (HX3.out.below hb4 HX3.out.lt)
    have R4 := Lib.hid (R3.out.below (hb4.mono (Nat.le_trans (Nat.le_trans hz z2) (Nat.le_trans z3 z3'))))
    have B4 := Lib.hid (ext_trans B3.out hb4)
    have z4 := hb4.size
    have hbk4 := Blk.new w4 33 #[.int .i64 u, .int .i64 l, .slice A1 n c1]
    have ha4 := ext_alloc (Below.refl w4.heap.size w4) (.cells #[.int .i64 u, .int .i64 l, .slice A1 n c1] 33)
    have r4a := r4.below ha4
    generalize hw4a : w4.alloc (.cells #[.int .i64 u, .int .i64 l, .slice A1 n c1] 33) = w4a at hbk4 ha4 r4a
    have HW4 := Lib.hid hw4a
    have z4a := ha4.size
    have K4 := Lib.hid hbk4
    have Q4 := Lib.hid r4a
    have HX4a := Lib.hid (HX4.out.below ha4 HX4.out.lt)
    have R4a := Lib.hid (R4.out.below (ha4.mono (Nat.le_trans (Nat.le_trans (Nat.le_trans hz z2) (Nat.le_trans z3 z3')) z4)))
    have B4a := Lib.hid (ext_trans B4.out ha4)
    have d0 := K4.out.cell 0
    have d1 := K4.out.cell 1
    have d2 := K4.out.cell 2
    simp only [List.getElem?_toArray, List.getElem?_cons_zero, List.getElem?_cons_succ] at d0 d1 d2
    clear hb4 r4 hbk4 ha4 r4a hw4a x0 x1 x2
    go_wp2_with fail
    rw [HW4.out]
    refine (H2.out A1 c1 _ _ Q4.out z4a).mono ?_
    rintro e w5 ⟨rfl, hb5⟩
    have z5 := hb5.size
    have hx5 := HX4a.out.below hb5 HX4a.out.lt
    have k5 := K4.out.below hb5 K4.out.lt
    have C0 := hx5.cell 0
    have C1 := hx5.cell 1
    have C2 := hx5.cell 2
    have D0 := k5.cell 0
    have D1 := k5.cell 1
    have D2 := k5.cell 2
    simp only [List.getElem?_toArray, List.getElem?_cons_zero, List.getElem?_cons_succ] at C0 C1 C2 D0 D1 D2
    have C0 := Lib.hid C0
    have C1 := Lib.hid C1
    have C2 := Lib.hid C2
    have D0 := Lib.hid D0
    have D1 := Lib.hid D1
    have D2 := Lib.hid D2
    have QZ := Lib.hid (Nat.le_trans z4a z5)
    have Z5 := Lib.hid (Nat.le_trans (Nat.le_trans (Nat.le_trans (Nat.le_trans (Nat.le_trans hz z2) (Nat.le_trans z3 z3')) z4) z4a) z5)
    have R5 := Lib.hid (R4a.out.below (hb5.mono (Nat.le_trans (Nat.le_trans (Nat.le_trans (Nat.le_trans hz z2) (Nat.le_trans z3 z3')) z4) z4a)))
    have Q5 := Lib.hid (Q4.out.below (hb5.mono z4a))
    have B5 := Lib.hid (ext_trans B4a.out hb5)
    have bX : Below w5.heap.size w5 w5.drew := ext_drew (Below.refl _ _)
    clear hx5 k5 hb5 d0 d1 d2
    go_wp2_with fail
    refine wp_region_held_drew (S := (fun W => (W.cell? ⟨w.heap.size, 0, none⟩ = some (.int .i64 u) ∧ W.cell? ⟨w.heap.size, 1, none⟩ = some (.int .i64 l) ∧ W.cell? ⟨w.heap.size, 2, none⟩ = some (.slice A n c)) ∧ W.cell? ⟨w4.heap.size, 0, none⟩ = some (.int .i64 u) ∧ W.cell? ⟨w4.heap.size, 1, none⟩ = some (.int .i64 l) ∧ W.cell? ⟨w4.heap.size, 2, none⟩ = some (.slice A1 n c1))) (by kernel_rfl) ?_ (fun hHeld => ?_)
    · (try dsimp only); exact ⟨⟨below_cell (by assumption) C0.out, below_cell (by assumption) C1.out, below_cell (by assumption) C2.out⟩, below_cell (by assumption) D0.out, below_cell (by assumption) D1.out, below_cell (by assumption) D2.out⟩
    refine wpAnyH_takeD (i := 0) (v := ?_) 39 rfl rfl (by kernel_rfl) (by kernel_rfl) (by kernel_rfl) (fun _ _ _ _ _ h => h) (by rfl) (by assumption) ?_ ?_
    rotate_left; focus (intro w hSw; (try dsimp only at hSw); go_simp; try (with_reducible rfl))
    try simp only [Act.put, List.setIfInBounds_toArray, List.set_cons_zero, List.set_cons_succ]
    refine wpAnyH_takeD (i := 1) (v := ?_) 40 rfl rfl (by kernel_rfl) (by kernel_rfl) (by kernel_rfl) (fun _ _ _ _ _ h => h) (by rfl) (by assumption) ?_ ?_
    rotate_left; focus (intro w hSw; (try dsimp only at hSw); go_simp; try (with_reducible rfl))
    try simp only [Act.put, List.setIfInBounds_toArray, List.set_cons_zero, List.set_cons_succ]
    refine wpAnyH_ready (rs := [2]) (by kernel_rfl) (by simp) ?_
    refine AllReadyH.cons rfl (fun K hK => ?_) AllReadyH.nil
    go_simp; (go_at_call 16; refine (toFrame_any u l A n c _ xs _ (R5.out.below (bX.mono Z5.out)) (Nat.le_trans Z5.out bX.size) hn2).mono ?_; rintro e w6 ⟨A2, c2, rfl, r6, hb6⟩); have b6 := ext_trans bX hb6; (try dsimp only)
    refine hK.out _ _ ?_ (fun hHeld => ?_)
    focus ((try dsimp only); exact ⟨⟨below_cell (by assumption) C0.out, below_cell (by assumption) C1.out, below_cell (by assumption) C2.out⟩, below_cell (by assumption) D0.out, below_cell (by assumption) D1.out, below_cell (by assumption) D2.out⟩)
    clear hK K; try simp only [Act.put, List.setIfInBounds_toArray, List.set_cons_zero, List.set_cons_succ]
    refine wpAnyH_ready (rs := [3]) (by kernel_rfl) (by simp) ?_
    refine AllReadyH.cons rfl (fun K hK => ?_) AllReadyH.nil
    go_simp; (go_at_call 18; refine (eqFrame_same u l A1 A2 n c1 c2 _ _ xs _ (Q5.out.below (b6.mono QZ.out)) r6 (Nat.le_trans QZ.out b6.size) (Nat.le_refl _) hn).mono ?_; rintro e w7 ⟨rfl, hb7⟩); have b7 := ext_trans b6 hb7; (try dsimp only)
    refine hK.out _ _ ?_ (fun hHeld => ?_)
    focus ((try dsimp only); exact ⟨⟨below_cell (by assumption) C0.out, below_cell (by assumption) C1.out, below_cell (by assumption) C2.out⟩, below_cell (by assumption) D0.out, below_cell (by assumption) D1.out, below_cell (by assumption) D2.out⟩)
    clear hK K; try simp only [Act.put, List.setIfInBounds_toArray, List.set_cons_zero, List.set_cons_succ]
    refine wpAnyH_takeD (i := 4) (v := ?_) 43 rfl rfl (by kernel_rfl) (by kernel_rfl) (by kernel_rfl) (fun _ _ _ _ _ h => h) (by rfl) (by assumption) ?_ ?_
    rotate_left; focus (intro w hSw; (try dsimp only at hSw); go_simp; try (with_reducible rfl))
    try simp only [Act.put, List.setIfInBounds_toArray, List.set_cons_zero, List.set_cons_succ]
    refine wpAnyH_done (by kernel_rfl) ?_ _
    clear hHeld
    go_wp2_with fail
    go_ret
    exact ⟨rfl, ext_trans B5.out b7⟩
  · rw [if_neg hbig] at HSZ
    have x0 := HK.out.cell 0
    have x1 := HK.out.cell 1
    have x2 := HK.out.cell 2
    simp only [List.getElem?_toArray, List.getElem?_cons_zero, List.getElem?_cons_succ] at x0 x1 x2
    go_enter Try.func5, Try.ntmps5
    go_wp2_with fail
    rw [HW.out]
    refine (HSZ.out _).mono ?_
    rintro e w2 ⟨rfl, hb2⟩
    go_wp2_with fail
    go_ret
    exact ⟨rfl, ext_trans HB.out hb2⟩
end Go.Proofs.Ytkgbcjiinicffaa
