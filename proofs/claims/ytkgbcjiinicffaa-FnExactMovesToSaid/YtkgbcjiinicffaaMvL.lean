/- The law FnExactMovesTo: out of the two sides' contracts. No condition. -/
import Derived.Test.YtkgbcjiinicffaaNs
import Derived.Test.YtkgbcjiinicffaaHeld
namespace Go.Proofs.Ytkgbcjiinicffaa
open Go.RowKit

theorem toV_len {u l : Int} {xs : List Rod} {N : Int} : (toV u l xs N).length ≤ 16 := by
  unfold toV
  cases h : (nearV u l xs N).ok
  · simp
  · obtain ⟨hf, s, h1, _, h2⟩ := near_facts h
    obtain ⟨_, _, _, h3⟩ := frame_bd hf
    rw [if_pos rfl, h2]
    show (mvL xs s).length ≤ 16
    have := mvFr_len 0 xs s
    unfold mvL
    omega
set_option maxRecDepth 100000 in
set_option maxHeartbeats 16000000 in
theorem FnExactMovesTo_any (u l : Int) (A : Option Addr) (n c : Nat) (xs : List Rod) (N : Int) (wN : (Lit.int .i64 N).wf = true) (w : World) (h : Reads w w.heap.size 2 A n ((rodF xs).map (Value.int .i64)) ∧ n ≤ maxLen) :
    Calls Try.prog 8 #[.agg #[.int .i64 u, .int .i64 l, .slice A n c], .int .i64 N] w fun e w' => e = .returned (.bool true) ∧ Below w.heap.size w w' := by
  obtain ⟨h, hn⟩ := h
  have hN2 := (wf_bd wN).2
  have hb := ext_alloc (Below.refl w.heap.size w) (.cells #[.int .i64 u, .int .i64 l, .slice A n c] 29)
  have hBk := Blk.new w 29 #[.int .i64 u, .int .i64 l, .slice A n c]
  have hr := h.below hb
  have hz := hb.size
  have hsz := szFrame_any u l A n c hn
  generalize hw1 : w.alloc (.cells #[.int .i64 u, .int .i64 l, .slice A n c] 29) = w1 at hb hBk hr hz
  have HB := Lib.hid hb
  have HK := Lib.hid hBk
  have HW := Lib.hid hw1
  have R1 := Lib.hid hr
  have HSZ := Lib.hid hsz
  clear hb hBk hw1 h hr hsz
  by_cases hbig : n ≤ 1048576
  · have hn2 := hbig
    rw [if_pos hbig] at HSZ
    have hlt : ¬ (1048576 - (n : Int) < 0) := by omega
    have hv1 := fun (A : Option Addr) (c B : Nat) (w : World) h hB => sMovesTo_any u l A n c B xs N w h hB hn2 hN2
    have hv2 := fun (A : Option Addr) (c B : Nat) (w : World) h hB => iMovesTo_any u l A n c B xs N w h hB hn2 hN2
    have hwl := toV_len (u := u) (l := l) (xs := xs) (N := N)
    generalize toV u l xs N = M at hv1 hv2 hwl
    generalize (nearV u l xs N).ok = ok at hv1 hv2
    have H1 := Lib.hid hv1
    have H2 := Lib.hid hv2
    clear hv1 hv2
    have q2 : (ok != ok) = false := by simp
    have x0 := HK.out.cell 0
    have x1 := HK.out.cell 1
    have x2 := HK.out.cell 2
    simp only [List.getElem?_toArray, List.getElem?_cons_zero, List.getElem?_cons_succ] at x0 x1 x2
    go_enter Try.func8, Try.ntmps8
    go_wp2_with fail
    rw [HW.out]
    refine (HSZ.out _).mono ?_
    rintro e w2 ⟨rfl, hb2⟩
    have z2 := Nat.le_trans hz hb2.size
    have HX2 := Lib.hid (HK.out.below hb2 HK.out.lt)
    have R2 := Lib.hid (R1.out.below (hb2.mono hz))
    have B2 := Lib.hid (ext_trans HB.out hb2)
    clear x0 x1 x2 hb2
    have x0 := HX2.out.cell 0
    have x1 := HX2.out.cell 1
    have x2 := HX2.out.cell 2
    simp only [List.getElem?_toArray, List.getElem?_cons_zero, List.getElem?_cons_succ] at x0 x1 x2
    go_wp2_with fail
    refine (toFrame_any u l A n c _ xs _ R2.out z2 hn2).mono ?_
    rintro e w2a ⟨A0, c0, rfl, r3, hb3⟩
    go_wp2_with fail
    refine (H1.out A0 c0 _ _ r3 (Nat.le_refl _)).mono ?_
    rintro e w3 ⟨a, m, k, rfl, hfo⟩
    have hm := hfo.len
    rw [bmvF_len] at hm
    have hm16 : m ≤ 16 := by omega
    have hb3' := hfo.ext
    have b23 := ext_trans hb3 hb3'
    have HX3 := Lib.hid (HX2.out.below b23 HX2.out.lt)
    have R3 := Lib.hid (R2.out.below (b23.mono z2))
    have B3 := Lib.hid (ext_trans B2.out b23)
    have z3 := Nat.le_trans z2 b23.size
    have OK3 := Lib.hid hfo.reads
    clear x0 x1 x2 hb3 hb3' b23 r3 hfo hm
    have x0 := HX3.out.cell 0
    have x1 := HX3.out.cell 1
    have x2 := HX3.out.cell 2
    simp only [List.getElem?_toArray, List.getElem?_cons_zero, List.getElem?_cons_succ] at x0 x1 x2
    go_wp2_with fail
    refine (toFrame_own u l A n c _ xs _ R3.out z3 hn2).mono ?_
    rintro e w4 ⟨A1, c1, rfl, acc1⟩
    have ha4 := ext_alloc (Below.refl w4.heap.size w4) (.cells #[.int .i64 u, .int .i64 l, .slice A1 n c1] 33)
    have hk4 := Blk.new w4 33 #[.int .i64 u, .int .i64 l, .slice A1 n c1]
    generalize hw4a : w4.alloc (.cells #[.int .i64 u, .int .i64 l, .slice A1 n c1] 33) = w4a at ha4 hk4
    have HW4 := Lib.hid hw4a
    have b4 := acc1.ext
    have HX4 := Lib.hid ((HX3.out.below b4 HX3.out.lt).below ha4 (HX3.out.below b4 HX3.out.lt).lt)
    have R4 := Lib.hid ((R3.out.below (b4.mono z3)).below (ha4.mono (Nat.le_trans z3 b4.size)))
    have B4 := Lib.hid (ext_trans (ext_trans B3.out b4) ha4)
    have AC4 := Lib.hid (acc1.later ha4)
    have K8 := Lib.hid hk4
    have Z4 := Lib.hid (Nat.le_trans z3 (Nat.le_trans b4.size ha4.size))
    have OK4a := Lib.hid ((OK3.out.below b4).below (ha4.mono b4.size))
    clear x0 x1 x2 b4 ha4 hk4 hw4a acc1
    go_wp2_with fail
    rw [HW4.out]
    refine (H2.out A1 c1 _ _ AC4.out.reads (Nat.le_refl _)).mono ?_
    rintro e w5 ⟨a2, m2, k2, rfl, acc2⟩
    have hm2 := acc2.len
    have hm1 := OK3.out.bmvLen
    rw [bmvF_len] at hm2
    obtain rfl : m2 = m := by omega
    have hb5 := acc2.ext
    have NS5 : NS w w5 A n xs [(w4.heap.size, 33, #[.int .i64 u, .int .i64 l, .slice A1 n c1]), (w.heap.size, 29, #[.int .i64 u, .int .i64 l, .slice A n c])] a m2 w3.heap.size 63 3 (bmvF M) A1 c1 w3.heap.size (rodF xs) a2 k2 w4a.heap.size (bmvF M) := by
      refine ⟨ext_trans B4.out hb5, R4.out.below (hb5.mono Z4.out), fun g t cs hm => ?_, OK4a.out.below (hb5.mono AC4.out.ext.size), own_below AC4.out.own hb5, acc2.own, B3.out.size, Nat.le_refl _, AC4.out.ext.size, hb5.size, fun y hy => AC4.out.lt y hy⟩
      simp only [List.mem_cons, List.not_mem_nil, or_false, Prod.mk.injEq] at hm
      rcases hm with ⟨rfl, rfl, rfl⟩ | ⟨rfl, rfl, rfl⟩
      · exact ⟨K8.out.below hb5 K8.out.lt, by decide, by decide⟩
      · exact ⟨HX4.out.below hb5 HX4.out.lt, by decide, by decide⟩
    have HN5 := Lib.hid NS5
    clear acc2 hb5 NS5 hm1 hm2
    go_wp2_with fail
    refine (eqBeadMoveS_any a2 a m2 m2 k2 k _ _ M M _ (Reads.of_own HN5.out.g) HN5.out.ans (Nat.le_refl _) (Nat.le_trans HN5.out.s1 (Nat.le_trans HN5.out.s2 HN5.out.s3)) (by unfold maxLen; omega) (by unfold maxLen; omega)).mono ?_
    rintro e w6 ⟨rfl, hb6⟩
    rw [show decide (M = M) = true by simp]
    have HN := Lib.hid (HN5.out.later hb6)
    have bX : Below w6.heap.size w6 w6.drew := ext_drew (Below.refl _ _)
    clear hb6
    have bA := (HN.out.box w.heap.size 29 #[.int .i64 u, .int .i64 l, .slice A n c] (by simp)).1
    have hlA := bA.lt
    have x0 := bA.cell 0
    have x1 := bA.cell 1
    have x2 := bA.cell 2
    simp only [List.getElem?_toArray, List.getElem?_cons_zero, List.getElem?_cons_succ] at x0 x1 x2
    clear bA
    have b8 := (HN.out.box w4.heap.size 33 #[.int .i64 u, .int .i64 l, .slice A1 n c1] (by simp)).1
    have hl8 := b8.lt
    have z0 := b8.cell 0
    have z1 := b8.cell 1
    have z2 := b8.cell 2
    simp only [List.getElem?_toArray, List.getElem?_cons_zero, List.getElem?_cons_succ] at z0 z1 z2
    clear b8
    have C0 := Lib.hid x0
    have C1 := Lib.hid x1
    have C2 := Lib.hid x2
    have D0 := Lib.hid z0
    have D1 := Lib.hid z1
    have D2 := Lib.hid z2
    clear x0 x1 x2 z0 z1 z2 hlA hl8
    go_wp2_with fail
    refine wp_region_held_drew (S := (fun W => (W.cell? ⟨w.heap.size, 0, none⟩ = some (.int .i64 u) ∧ W.cell? ⟨w.heap.size, 1, none⟩ = some (.int .i64 l) ∧ W.cell? ⟨w.heap.size, 2, none⟩ = some (.slice A n c)) ∧ W.cell? ⟨w4.heap.size, 0, none⟩ = some (.int .i64 u) ∧ W.cell? ⟨w4.heap.size, 1, none⟩ = some (.int .i64 l) ∧ W.cell? ⟨w4.heap.size, 2, none⟩ = some (.slice A1 n c1))) (by kernel_rfl) ?_ (fun hHeld => ?_)
    · (try dsimp only); exact ⟨⟨below_cell (by assumption) C0.out, below_cell (by assumption) C1.out, below_cell (by assumption) C2.out⟩, below_cell (by assumption) D0.out, below_cell (by assumption) D1.out, below_cell (by assumption) D2.out⟩
    refine wpAnyH_takeD (i := 0) (v := ?_) 45 rfl rfl (by kernel_rfl) (by kernel_rfl) (by kernel_rfl) (fun _ _ _ _ _ h => h) (by rfl) (by assumption) ?_ ?_
    rotate_left; focus (intro w hSw; (try dsimp only at hSw); go_simp; try (with_reducible rfl))
    try simp only [Act.put, List.setIfInBounds_toArray, List.set_cons_zero, List.set_cons_succ]
    refine wpAnyH_takeD (i := 1) (v := ?_) 46 rfl rfl (by kernel_rfl) (by kernel_rfl) (by kernel_rfl) (fun _ _ _ _ _ h => h) (by rfl) (by assumption) ?_ ?_
    rotate_left; focus (intro w hSw; (try dsimp only at hSw); go_simp; try (with_reducible rfl))
    try simp only [Act.put, List.setIfInBounds_toArray, List.set_cons_zero, List.set_cons_succ]
    refine wpAnyH_ready (rs := [2]) (by kernel_rfl) (by simp) ?_
    refine AllReadyH.cons rfl (fun K hK => ?_) AllReadyH.nil
    go_simp; (go_at_call 16; refine (toFrame_any u l A n c _ xs _ (HN.out.arg.below (bX.mono HN.out.bel.size)) (Nat.le_trans HN.out.bel.size bX.size) hn2).mono ?_; rintro e w7 ⟨A2, c2, rfl, r7, hb7⟩); have b7 := ext_trans bX hb7; (try dsimp only)
    refine hK.out _ _ ?_ (fun hHeld => ?_)
    focus ((try dsimp only); exact ⟨⟨below_cell (by assumption) C0.out, below_cell (by assumption) C1.out, below_cell (by assumption) C2.out⟩, below_cell (by assumption) D0.out, below_cell (by assumption) D1.out, below_cell (by assumption) D2.out⟩)
    clear hK K; try simp only [Act.put, List.setIfInBounds_toArray, List.set_cons_zero, List.set_cons_succ]
    refine wpAnyH_ready (rs := [3]) (by kernel_rfl) (by simp) ?_
    refine AllReadyH.cons rfl (fun K hK => ?_) AllReadyH.nil
    go_simp; (go_at_call 18; refine (eqFrame_same u l A1 A2 n c1 c2 _ _ xs _ ((Reads.of_own HN.out.x).below b7) r7 b7.size (Nat.le_refl _) hn).mono ?_; rintro e w8 ⟨rfl, hb8⟩); have b8 := ext_trans b7 hb8; (try dsimp only)
    refine hK.out _ _ ?_ (fun hHeld => ?_)
    focus ((try dsimp only); exact ⟨⟨below_cell (by assumption) C0.out, below_cell (by assumption) C1.out, below_cell (by assumption) C2.out⟩, below_cell (by assumption) D0.out, below_cell (by assumption) D1.out, below_cell (by assumption) D2.out⟩)
    clear hK K; try simp only [Act.put, List.setIfInBounds_toArray, List.set_cons_zero, List.set_cons_succ]
    refine wpAnyH_takeD (i := 4) (v := ?_) 49 rfl rfl (by kernel_rfl) (by kernel_rfl) (by kernel_rfl) (fun _ _ _ _ _ h => h) (by rfl) (by assumption) ?_ ?_
    rotate_left; focus (intro w hSw; (try dsimp only at hSw); go_simp; try (with_reducible rfl))
    try simp only [Act.put, List.setIfInBounds_toArray, List.set_cons_zero, List.set_cons_succ]
    refine wpAnyH_done (by kernel_rfl) ?_ _
    clear hHeld
    have HN8 := Lib.hid (HN.out.later b8)
    have b8 := (HN8.out.box w4.heap.size 33 #[.int .i64 u, .int .i64 l, .slice A1 n c1] (by simp)).1
    have hl8 := b8.lt
    have z0 := b8.cell 0
    have z1 := b8.cell 1
    have z2 := b8.cell 2
    simp only [List.getElem?_toArray, List.getElem?_cons_zero, List.getElem?_cons_succ] at z0 z1 z2
    clear b8
    clear b7 hb7 b8 hb8 r7 bX
    go_wp2_with fail
    refine (markFrame_any u l A1 n c1 _ _ w8 HN8.out.x hn2).mono ?_
    rintro e w9 ⟨rfl, ho9, hg9⟩
    have HN9 := Lib.hid (HN8.out.markX hg9 ho9)
    have e9 : ¬ ((1 : Int) + ((n * 2 : Nat) : Int) < 0) := by omega
    have e9' : decide ((1 : Int) + ((n * 2 : Nat) : Int) < 0) = false := by simp; omega
    clear z0 z1 z2 hl8 ho9 hg9
    go_wp2_with fail
    refine (eqBeadMoveS_any a2 a m2 m2 k2 k _ _ M M _ (Reads.of_own HN9.out.g) HN9.out.ans (Nat.le_refl _) (Nat.le_trans HN9.out.s1 (Nat.le_trans HN9.out.s2 HN9.out.s3)) (by unfold maxLen; omega) (by unfold maxLen; omega)).mono ?_
    rintro e w10 ⟨rfl, hb10⟩
    rw [show decide (M = M) = true by simp]
    have HN10 := Lib.hid (HN9.out.later hb10)
    clear hb10
    go_wp2_with fail
    refine (markBeadMoveS_any a2 m2 k2 _ _ 1 w10 HN10.out.g (by omega) (by omega) (by omega)).mono ?_
    rintro e w11 ⟨rfl, ho11, hg11⟩
    have HN11 := Lib.hid (HN10.out.markG hg11 ho11)
    clear ho11 hg11
    go_wp2_with fail
    refine (heldBeadMoveS_any a2 m2 k2 _ 1 w11 (Reads.of_own HN11.out.g) (by omega) (by omega) (by omega)).mono ?_
    rintro e w12 ⟨rfl, rfl⟩
    have HN12 := HN11
    have e12 : ¬ ((1 : Int) + ((m2 * 3 : Nat) : Int) < 0) := by omega
    have e12' : (((1 : Int) + ((m2 * 3 : Nat) : Int)) != ((1 : Int) + ((m2 * 3 : Nat) : Int))) = false := by simp
    have bA := (HN12.out.box w.heap.size 29 #[.int .i64 u, .int .i64 l, .slice A n c] (by simp)).1
    have hlA := bA.lt
    have x0 := bA.cell 0
    have x1 := bA.cell 1
    have x2 := bA.cell 2
    simp only [List.getElem?_toArray, List.getElem?_cons_zero, List.getElem?_cons_succ] at x0 x1 x2
    clear bA
    go_wp2_with fail
    refine (toFrame_any u l A n c _ xs _ HN12.out.arg HN12.out.bel.size hn2).mono ?_
    rintro e w13 ⟨A3, c3, rfl, r13, hb13⟩
    have HN13 := Lib.hid (HN12.out.later hb13)
    clear x0 x1 x2 hlA hb13
    go_wp2_with fail
    refine (H2.out A3 c3 _ _ r13 (Nat.le_refl _)).mono ?_
    rintro e w14 ⟨a3, m3, k3, rfl, acc3⟩
    have hm3 := acc3.len
    have hm1 := OK3.out.bmvLen
    rw [bmvF_len] at hm3
    obtain rfl : m3 = m2 := by omega
    have HN14 := Lib.hid (HN13.out.later acc3.ext)
    have HR14 := Lib.hid acc3.reads
    clear r13 acc3 hm1 hm3
    go_wp2_with fail
    refine (eqBeadMoveS_any a3 a m3 m3 k3 k _ _ M M _ HR14.out HN14.out.ans (Nat.le_refl _) (Nat.le_trans HN14.out.s1 (Nat.le_trans HN14.out.s2 HN14.out.s3)) (by unfold maxLen; omega) (by unfold maxLen; omega)).mono ?_
    rintro e w15 ⟨rfl, hb15⟩
    rw [show decide (M = M) = true by simp]
    have HN15 := Lib.hid (HN14.out.later hb15)
    clear hb15
    go_wp2_with fail
    refine (heldBeadMoveS_any a2 m3 k2 _ 1 w15 (Reads.of_own HN15.out.g) (by omega) (by omega) (by omega)).mono ?_
    rintro e w16 ⟨rfl, rfl⟩
    have HN16 := HN15
    go_wp2_with fail
    go_ret
    exact ⟨rfl, HN16.out.bel⟩
  · rw [if_neg hbig] at HSZ
    have x0 := HK.out.cell 0
    have x1 := HK.out.cell 1
    have x2 := HK.out.cell 2
    simp only [List.getElem?_toArray, List.getElem?_cons_zero, List.getElem?_cons_succ] at x0 x1 x2
    go_enter Try.func8, Try.ntmps8
    go_wp2_with fail
    rw [HW.out]
    refine (HSZ.out _).mono ?_
    rintro e w2 ⟨rfl, hb2⟩
    go_wp2_with fail
    go_ret
    exact ⟨rfl, ext_trans HB.out hb2⟩
end Go.Proofs.Ytkgbcjiinicffaa
