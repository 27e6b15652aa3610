/- The law FnExactNearestTarget: out of the two sides' contracts. No condition. -/
import Derived.Test.YtkgbcjiinicffaaNs
import Derived.Test.YtkgbcjiinicffaaHeld
namespace Go.Proofs.Ytkgbcjiinicffaa
open Go.RowKit

def zsOf (W : Way) : List Rod := if W.ok = true then W.rods else []
theorem frOk_zs {w : World} {B Lo : Nat} {u l : Int} {W : Way} {U L : Int} {a : Option Addr} {m k : Nat} (h : FrOk w B Lo u l W U L a m k) : Reads w B 2 a m ((rodF (zsOf W)).map (Value.int .i64)) := by
  unfold zsOf
  cases ho : W.ok
  · obtain ⟨_, _, rfl, rfl, _⟩ := h.no ho
    simpa [rodF] using Reads.none_
  · rw [if_pos rfl]; exact (h.yes ho).2.2
theorem frOwn_zs {w0 w : World} {u l : Int} {W : Way} {U L : Int} {a : Option Addr} {m k : Nat} (h : FrOwn w0 w u l W U L a m k) : Acc w0 w 47 2 a m k (rodF (zsOf W)) := by
  unfold zsOf
  cases ho : W.ok
  · obtain ⟨_, _, rfl, rfl, rfl⟩ := h.no ho
    simpa [rodF] using Acc.nil h.ext
  · rw [if_pos rfl]; exact (h.yes ho).2.2
theorem fr_same {w w0 w' : World} {B Lo : Nat} {u l : Int} {W : Way} {U L U2 L2 : Int} {a a2 : Option Addr} {m k m2 k2 : Nat} (h : FrOk w B Lo u l W U L a m k) (h2 : FrOwn w0 w' u l W U2 L2 a2 m2 k2) : U = U2 ∧ L = L2 ∧ m = m2 := by
  have e1 := (frOk_zs h).rodLen
  have e2 := (frOwn_zs h2).reads.rodLen
  cases ho : W.ok
  · obtain ⟨rfl, rfl, _⟩ := h.no ho
    obtain ⟨rfl, rfl, _⟩ := h2.no ho
    exact ⟨rfl, rfl, by omega⟩
  · obtain ⟨rfl, rfl, _⟩ := h.yes ho
    obtain ⟨rfl, rfl, _⟩ := h2.yes ho
    exact ⟨rfl, rfl, by omega⟩
theorem near_len {u l : Int} {xs : List Rod} {N : Int} : (zsOf (nearV u l xs N)).length ≤ 8 := by
  unfold zsOf
  cases h : (nearV u l xs N).ok
  · simp
  · obtain ⟨hf, s, h1, _, h2⟩ := near_facts h
    obtain ⟨_, _, _, h3⟩ := frame_bd hf
    rw [if_pos rfl, h2]
    show s.length ≤ 8
    omega
set_option maxRecDepth 100000 in
set_option maxHeartbeats 16000000 in
theorem FnExactNearestTarget_any (u l : Int) (A : Option Addr) (n c : Nat) (xs : List Rod) (N : Int) (wN : (Lit.int .i64 N).wf = true) (w : World) (h : Reads w w.heap.size 2 A n ((rodF xs).map (Value.int .i64)) ∧ n ≤ maxLen) :
    Calls Try.prog 7 #[.agg #[.int .i64 u, .int .i64 l, .slice A n c], .int .i64 N] w fun e w' => e = .returned (.bool true) ∧ Below w.heap.size w w' := by
  obtain ⟨h, hn⟩ := h
  have hN2 := (wf_bd wN).2
  have hb := ext_alloc (Below.refl w.heap.size w) (.cells #[.int .i64 u, .int .i64 l, .slice A n c] 29)
  have hBk := Blk.new w 29 #[.int .i64 u, .int .i64 l, .slice A n c]
  have hr := h.below hb
  have hz := hb.size
  have hsz := szFrame_any u l A n c hn
  generalize hw1 : w.alloc (.cells #[.int .i64 u, .int .i64 l, .slice A n c] 29) = w1 at hb hBk hr hz
  have HB := Lib.hid hb
  have HK := Lib.hid hBk
  have HW := Lib.hid hw1
  have R1 := Lib.hid hr
  have HSZ := Lib.hid hsz
  clear hb hBk hw1 h hr hsz
  by_cases hbig : n ≤ 1048576
  · have hn2 := hbig
    rw [if_pos hbig] at HSZ
    have hlt : ¬ (1048576 - (n : Int) < 0) := by omega
    have hv1 := fun (A : Option Addr) (c B : Nat) (w : World) h hB => sNearestTarget_any u l A n c B xs N w h hB hn2 hN2
    have hv2 := fun (A : Option Addr) (c B : Nat) (w : World) h hB => iNearestTarget_any u l A n c B xs N w h hB hn2 hN2
    have hwl := near_len (u := u) (l := l) (xs := xs) (N := N)
    generalize nearV u l xs N = W at hv1 hv2 hwl
    have H1 := Lib.hid hv1
    have H2 := Lib.hid hv2
    clear hv1 hv2
    obtain ⟨ok, hok⟩ : ∃ ok, ok = W.ok := ⟨_, rfl⟩
    have HOK := Lib.hid hok
    have q2 : (ok != ok) = false := by simp
    clear hok
    have x0 := HK.out.cell 0
    have x1 := HK.out.cell 1
    have x2 := HK.out.cell 2
    simp only [List.getElem?_toArray, List.getElem?_cons_zero, List.getElem?_cons_succ] at x0 x1 x2
    go_enter Try.func7, Try.ntmps7
    go_wp2_with fail
    rw [HW.out]
    refine (HSZ.out _).mono ?_
    rintro e w2 ⟨rfl, hb2⟩
    have z2 := Nat.le_trans hz hb2.size
    have HX2 := Lib.hid (HK.out.below hb2 HK.out.lt)
    have R2 := Lib.hid (R1.out.below (hb2.mono hz))
    have B2 := Lib.hid (ext_trans HB.out hb2)
    clear x0 x1 x2 hb2
    have x0 := HX2.out.cell 0
    have x1 := HX2.out.cell 1
    have x2 := HX2.out.cell 2
    simp only [List.getElem?_toArray, List.getElem?_cons_zero, List.getElem?_cons_succ] at x0 x1 x2
    go_wp2_with fail
    refine (toFrame_any u l A n c _ xs _ R2.out z2 hn2).mono ?_
    rintro e w2a ⟨A0, c0, rfl, r3, hb3⟩
    go_wp2_with fail
    refine (H1.out A0 c0 _ _ r3 (Nat.le_refl _)).mono ?_
    rintro e w3 ⟨U, L, a, m, k, rfl, hfo, hb3'⟩
    rw [← HOK.out]
    have b23 := ext_trans hb3 hb3'
    have HX3 := Lib.hid (HX2.out.below b23 HX2.out.lt)
    have R3 := Lib.hid (R2.out.below (b23.mono z2))
    have B3 := Lib.hid (ext_trans B2.out b23)
    have z3 := Nat.le_trans z2 b23.size
    have HFO := Lib.hid hfo
    have ha3 := ext_alloc (Below.refl w3.heap.size w3) (.cells #[.int .i64 U, .int .i64 L, .slice a m k] 33)
    have hk3 := Blk.new w3 33 #[.int .i64 U, .int .i64 L, .slice a m k]
    generalize hw3a : w3.alloc (.cells #[.int .i64 U, .int .i64 L, .slice a m k] 33) = w3a at ha3 hk3
    have HW3 := Lib.hid hw3a
    have HX3a := Lib.hid (HX3.out.below ha3 HX3.out.lt)
    have R3a := Lib.hid (R3.out.below (ha3.mono z3))
    have B3a := Lib.hid (ext_trans B3.out ha3)
    have K6 := Lib.hid hk3
    have z3a := Nat.le_trans z3 ha3.size
    have ZQ3 := Lib.hid ha3.size
    have HA3 := Lib.hid ha3
    have hl3 := HX3.out.lt
    clear x0 x1 x2 hb3 hb3' b23 r3 hfo ha3 hk3 hw3a
    have x0 := HX3.out.cell 0
    have x1 := HX3.out.cell 1
    have x2 := HX3.out.cell 2
    simp only [List.getElem?_toArray, List.getElem?_cons_zero, List.getElem?_cons_succ] at x0 x1 x2
    go_wp2_with fail
    rw [HW3.out]
    refine (toFrame_own u l A n c _ xs _ R3a.out z3a hn2).mono ?_
    rintro e w4 ⟨A1, c1, rfl, acc1⟩
    have ha4 := ext_alloc (Below.refl w4.heap.size w4) (.cells #[.int .i64 u, .int .i64 l, .slice A1 n c1] 33)
    have hk4 := Blk.new w4 33 #[.int .i64 u, .int .i64 l, .slice A1 n c1]
    generalize hw4a : w4.alloc (.cells #[.int .i64 u, .int .i64 l, .slice A1 n c1] 33) = w4a at ha4 hk4
    have HW4 := Lib.hid hw4a
    have b4 := acc1.ext
    have HX4 := Lib.hid ((HX3a.out.below b4 HX3a.out.lt).below ha4 (HX3a.out.below b4 HX3a.out.lt).lt)
    have K64 := Lib.hid ((K6.out.below b4 K6.out.lt).below ha4 (K6.out.below b4 K6.out.lt).lt)
    have R4 := Lib.hid ((R3a.out.below (b4.mono z3a)).below (ha4.mono (Nat.le_trans z3a b4.size)))
    have B4 := Lib.hid (ext_trans (ext_trans B3a.out b4) ha4)
    have AC4 := Lib.hid (acc1.later ha4)
    have K8 := Lib.hid hk4
    have Z4 := Lib.hid (Nat.le_trans z3a (Nat.le_trans b4.size ha4.size))
    have ZW4 := Lib.hid ha4.size
    have OK4 := Lib.hid (((frOk_zs HFO.out).below HA3.out).below (b4.mono ZQ3.out))
    have OK4a := Lib.hid (OK4.out.below (ha4.mono (Nat.le_trans ZQ3.out b4.size)))
    clear x0 x1 x2 b4 ha4 hk4 hw4a acc1
    go_wp2_with fail
    rw [HW4.out]
    refine (H2.out A1 c1 _ _ AC4.out.reads (Nat.le_refl _)).mono ?_
    rintro e w5 ⟨U2, L2, a2, m2, k2, rfl, hfw⟩
    rw [← HOK.out]
    obtain ⟨rfl, rfl, rfl⟩ := fr_same HFO.out hfw
    have acc2 := frOwn_zs hfw
    have hm8 : m ≤ 8 := by have := (frOk_zs HFO.out).rodLen; omega
    have hb5 := hfw.ext
    have NS5 : NS w w5 A n xs [(w4.heap.size, 33, #[.int .i64 u, .int .i64 l, .slice A1 n c1]), (w3.heap.size, 33, #[.int .i64 U, .int .i64 L, .slice a m k]), (w.heap.size, 29, #[.int .i64 u, .int .i64 l, .slice A n c])] a m w3.heap.size 47 2 (rodF (zsOf W)) A1 c1 w3a.heap.size (rodF xs) a2 k2 w4a.heap.size (rodF (zsOf W)) := by
      refine ⟨ext_trans B4.out hb5, R4.out.below (hb5.mono Z4.out), fun g t cs hm => ?_, OK4a.out.below (hb5.mono (Nat.le_trans (Nat.le_trans ZQ3.out AC4.out.ext.size) (Nat.le_refl _))), own_below AC4.out.own hb5, acc2.own, B3.out.size, ZQ3.out, AC4.out.ext.size, hb5.size, fun y hy => AC4.out.lt y hy⟩
      simp only [List.mem_cons, List.not_mem_nil, or_false, Prod.mk.injEq] at hm
      rcases hm with ⟨rfl, rfl, rfl⟩ | ⟨rfl, rfl, rfl⟩ | ⟨rfl, rfl, rfl⟩
      · exact ⟨K8.out.below hb5 K8.out.lt, by decide, by decide⟩
      · exact ⟨K64.out.below hb5 K64.out.lt, by decide, by decide⟩
      · exact ⟨HX4.out.below hb5 HX4.out.lt, by decide, by decide⟩
    have hk9 := Blk.new w5 33 #[.int .i64 U, .int .i64 L, .slice a2 m k2]
    have HNP := Lib.hid NS5
    have HN5 := Lib.hid ((NS5.later (ext_alloc (Below.refl _ _) (.cells #[.int .i64 U, .int .i64 L, .slice a2 m k2] 33))).boxed hk9 (by decide) (by decide))
    have b6 := (NS5.box w3.heap.size 33 #[.int .i64 U, .int .i64 L, .slice a m k] (by simp)).1
    have hl6 := b6.lt
    have y0 := b6.cell 0
    have y1 := b6.cell 1
    have y2 := b6.cell 2
    simp only [List.getElem?_toArray, List.getElem?_cons_zero, List.getElem?_cons_succ] at y0 y1 y2
    clear b6
    generalize hw5a : w5.alloc (.cells #[.int .i64 U, .int .i64 L, .slice a2 m k2] 33) = w5a at HN5
    have HW5 := Lib.hid hw5a
    clear hfw acc2 hb5 NS5 hk9 hw5a
    go_wp2_with fail
    rw [HW5.out]
    refine (eqFrame_same U L a2 a m k2 k _ _ (zsOf W) _ (Reads.of_own HN5.out.g) HN5.out.ans (Nat.le_refl _) (Nat.le_trans HN5.out.s1 (Nat.le_trans HN5.out.s2 HN5.out.s3)) (by unfold maxLen; omega)).mono ?_
    rintro e w6 ⟨rfl, hb6⟩
    have HN := Lib.hid (HN5.out.later hb6)
    have bX : Below w6.heap.size w6 w6.drew := ext_drew (Below.refl _ _)
    clear y0 y1 y2 hl6 hb6
    have bA := (HN.out.box w.heap.size 29 #[.int .i64 u, .int .i64 l, .slice A n c] (by simp)).1
    have hlA := bA.lt
    have x0 := bA.cell 0
    have x1 := bA.cell 1
    have x2 := bA.cell 2
    simp only [List.getElem?_toArray, List.getElem?_cons_zero, List.getElem?_cons_succ] at x0 x1 x2
    clear bA
    have b8 := (HN.out.box w4.heap.size 33 #[.int .i64 u, .int .i64 l, .slice A1 n c1] (by simp)).1
    have hl8 := b8.lt
    have z0 := b8.cell 0
    have z1 := b8.cell 1
    have z2 := b8.cell 2
    simp only [List.getElem?_toArray, List.getElem?_cons_zero, List.getElem?_cons_succ] at z0 z1 z2
    clear b8
    have C0 := Lib.hid x0
    have C1 := Lib.hid x1
    have C2 := Lib.hid x2
    have D0 := Lib.hid z0
    have D1 := Lib.hid z1
    have D2 := Lib.hid z2
    clear x0 x1 x2 z0 z1 z2 hlA hl8
    go_wp2_with fail
    refine wp_region_held_drew (S := (fun W => (W.cell? ⟨w.heap.size, 0, none⟩ = some (.int .i64 u) ∧ W.cell? ⟨w.heap.size, 1, none⟩ = some (.int .i64 l) ∧ W.cell? ⟨w.heap.size, 2, none⟩ = some (.slice A n c)) ∧ W.cell? ⟨w4.heap.size, 0, none⟩ = some (.int .i64 u) ∧ W.cell? ⟨w4.heap.size, 1, none⟩ = some (.int .i64 l) ∧ W.cell? ⟨w4.heap.size, 2, none⟩ = some (.slice A1 n c1))) (by kernel_rfl) ?_ (fun hHeld => ?_)
    · (try dsimp only); exact ⟨⟨below_cell (by assumption) C0.out, below_cell (by assumption) C1.out, below_cell (by assumption) C2.out⟩, below_cell (by assumption) D0.out, below_cell (by assumption) D1.out, below_cell (by assumption) D2.out⟩
    refine wpAnyH_takeD (i := 0) (v := ?_) 45 rfl rfl (by kernel_rfl) (by kernel_rfl) (by kernel_rfl) (fun _ _ _ _ _ h => h) (by rfl) (by assumption) ?_ ?_
    rotate_left; focus (intro w hSw; (try dsimp only at hSw); go_simp; try (with_reducible rfl))
    try simp only [Act.put, List.setIfInBounds_toArray, List.set_cons_zero, List.set_cons_succ]
    refine wpAnyH_takeD (i := 1) (v := ?_) 46 rfl rfl (by kernel_rfl) (by kernel_rfl) (by kernel_rfl) (fun _ _ _ _ _ h => h) (by rfl) (by assumption) ?_ ?_
    rotate_left; focus (intro w hSw; (try dsimp only at hSw); go_simp; try (with_reducible rfl))
    try simp only [Act.put, List.setIfInBounds_toArray, List.set_cons_zero, List.set_cons_succ]
    refine wpAnyH_ready (rs := [2]) (by kernel_rfl) (by simp) ?_
    refine AllReadyH.cons rfl (fun K hK => ?_) AllReadyH.nil
    go_simp; (go_at_call 16; refine (toFrame_any u l A n c _ xs _ (HN.out.arg.below (bX.mono HN.out.bel.size)) (Nat.le_trans HN.out.bel.size bX.size) hn2).mono ?_; rintro e w7 ⟨A2, c2, rfl, r7, hb7⟩); have b7 := ext_trans bX hb7; (try dsimp only)
    refine hK.out _ _ ?_ (fun hHeld => ?_)
    focus ((try dsimp only); exact ⟨⟨below_cell (by assumption) C0.out, below_cell (by assumption) C1.out, below_cell (by assumption) C2.out⟩, below_cell (by assumption) D0.out, below_cell (by assumption) D1.out, below_cell (by assumption) D2.out⟩)
    clear hK K; try simp only [Act.put, List.setIfInBounds_toArray, List.set_cons_zero, List.set_cons_succ]
    refine wpAnyH_ready (rs := [3]) (by kernel_rfl) (by simp) ?_
    refine AllReadyH.cons rfl (fun K hK => ?_) AllReadyH.nil
    go_simp; (go_at_call 18; refine (eqFrame_same u l A1 A2 n c1 c2 _ _ xs _ ((Reads.of_own HN.out.x).below b7) r7 b7.size (Nat.le_refl _) hn).mono ?_; rintro e w8 ⟨rfl, hb8⟩); have b8 := ext_trans b7 hb8; (try dsimp only)
    refine hK.out _ _ ?_ (fun hHeld => ?_)
    focus ((try dsimp only); exact ⟨⟨below_cell (by assumption) C0.out, below_cell (by assumption) C1.out, below_cell (by assumption) C2.out⟩, below_cell (by assumption) D0.out, below_cell (by assumption) D1.out, below_cell (by assumption) D2.out⟩)
    clear hK K; try simp only [Act.put, List.setIfInBounds_toArray, List.set_cons_zero, List.set_cons_succ]
    refine wpAnyH_takeD (i := 4) (v := ?_) 49 rfl rfl (by kernel_rfl) (by kernel_rfl) (by kernel_rfl) (fun _ _ _ _ _ h => h) (by rfl) (by assumption) ?_ ?_
    rotate_left; focus (intro w hSw; (try dsimp only at hSw); go_simp; try (with_reducible rfl))
    try simp only [Act.put, List.setIfInBounds_toArray, List.set_cons_zero, List.set_cons_succ]
    refine wpAnyH_done (by kernel_rfl) ?_ _
    clear hHeld
    have HN8 := Lib.hid (HN.out.later b8)
    have b8 := (HN8.out.box w4.heap.size 33 #[.int .i64 u, .int .i64 l, .slice A1 n c1] (by simp)).1
    have hl8 := b8.lt
    have z0 := b8.cell 0
    have z1 := b8.cell 1
    have z2 := b8.cell 2
    simp only [List.getElem?_toArray, List.getElem?_cons_zero, List.getElem?_cons_succ] at z0 z1 z2
    clear b8
    clear b7 hb7 b8 hb8 r7 bX
    go_wp2_with fail
    refine (markFrame_any u l A1 n c1 _ _ w8 HN8.out.x hn2).mono ?_
    rintro e w9 ⟨rfl, ho9, hg9⟩
    have HN9 := Lib.hid (HN8.out.markX hg9 ho9)
    have e9 : ¬ ((1 : Int) + ((n * 2 : Nat) : Int) < 0) := by omega
    have e9' : decide ((1 : Int) + ((n * 2 : Nat) : Int) < 0) = false := by simp; omega
    clear z0 z1 z2 hl8 ho9 hg9
    have b9 := (HN9.out.box w5.heap.size 33 #[.int .i64 U, .int .i64 L, .slice a2 m k2] (by simp)).1
    have hl9 := b9.lt
    have v0 := b9.cell 0
    have v1 := b9.cell 1
    have v2 := b9.cell 2
    simp only [List.getElem?_toArray, List.getElem?_cons_zero, List.getElem?_cons_succ] at v0 v1 v2
    clear b9
    have b6 := (HN9.out.box w3.heap.size 33 #[.int .i64 U, .int .i64 L, .slice a m k] (by simp)).1
    have hl6 := b6.lt
    have y0 := b6.cell 0
    have y1 := b6.cell 1
    have y2 := b6.cell 2
    simp only [List.getElem?_toArray, List.getElem?_cons_zero, List.getElem?_cons_succ] at y0 y1 y2
    clear b6
    go_wp2_with fail
    refine (eqFrame_same U L a2 a m k2 k _ _ (zsOf W) _ (Reads.of_own HN9.out.g) HN9.out.ans (Nat.le_refl _) (Nat.le_trans HN9.out.s1 (Nat.le_trans HN9.out.s2 HN9.out.s3)) (by unfold maxLen; omega)).mono ?_
    rintro e w10 ⟨rfl, hb10⟩
    have HN10 := Lib.hid (HN9.out.later hb10)
    clear v0 v1 v2 y0 y1 y2 hl9 hl6 hb10
    have b9 := (HN10.out.box w5.heap.size 33 #[.int .i64 U, .int .i64 L, .slice a2 m k2] (by simp)).1
    have hl9 := b9.lt
    have v0 := b9.cell 0
    have v1 := b9.cell 1
    have v2 := b9.cell 2
    simp only [List.getElem?_toArray, List.getElem?_cons_zero, List.getElem?_cons_succ] at v0 v1 v2
    clear b9
    go_wp2_with fail
    refine (markFrame_any U L a2 m k2 _ _ w10 HN10.out.g (by omega)).mono ?_
    rintro e w11 ⟨rfl, ho11, hg11⟩
    have HN11 := Lib.hid (HN10.out.markG hg11 ho11)
    clear v0 v1 v2 hl9 ho11 hg11
    have b9 := (HN11.out.box w5.heap.size 33 #[.int .i64 U, .int .i64 L, .slice a2 m k2] (by simp)).1
    have hl9 := b9.lt
    have v0 := b9.cell 0
    have v1 := b9.cell 1
    have v2 := b9.cell 2
    simp only [List.getElem?_toArray, List.getElem?_cons_zero, List.getElem?_cons_succ] at v0 v1 v2
    clear b9
    go_wp2_with fail
    refine (heldFrame_any U L a2 m k2 _ w11 (Reads.of_own HN11.out.g) (Nat.le_refl _) (by omega)).mono ?_
    rintro e w12 ⟨rfl, hb12⟩
    have HN12 := Lib.hid (HN11.out.later hb12)
    have e12 : ¬ ((1 : Int) + ((m * 2 : Nat) : Int) < 0) := by omega
    have e12' : (((1 : Int) + ((m * 2 : Nat) : Int)) != ((1 : Int) + ((m * 2 : Nat) : Int))) = false := by simp
    clear v0 v1 v2 hl9 hb12
    have bA := (HN12.out.box w.heap.size 29 #[.int .i64 u, .int .i64 l, .slice A n c] (by simp)).1
    have hlA := bA.lt
    have x0 := bA.cell 0
    have x1 := bA.cell 1
    have x2 := bA.cell 2
    simp only [List.getElem?_toArray, List.getElem?_cons_zero, List.getElem?_cons_succ] at x0 x1 x2
    clear bA
    go_wp2_with fail
    refine (toFrame_any u l A n c _ xs _ HN12.out.arg HN12.out.bel.size hn2).mono ?_
    rintro e w13 ⟨A3, c3, rfl, r13, hb13⟩
    have HN13 := Lib.hid (HN12.out.later hb13)
    clear x0 x1 x2 hlA hb13
    go_wp2_with fail
    refine (H2.out A3 c3 _ _ r13 (Nat.le_refl _)).mono ?_
    rintro e w14 ⟨U3, L3, a3, m3, k3, rfl, hfw⟩
    rw [← HOK.out]
    obtain ⟨rfl, rfl, rfl⟩ := fr_same HFO.out hfw
    have HN14 := Lib.hid (HN13.out.later hfw.ext)
    have r14 := (frOwn_zs hfw).reads
    have HR14 := Lib.hid (r14.below (ext_alloc (Below.refl w14.heap.size w14) (.cells #[.int .i64 U, .int .i64 L, .slice a3 m k3] 33)))
    have HNA := Lib.hid (HN14.out.later (ext_alloc (Below.refl _ _) (.cells #[.int .i64 U, .int .i64 L, .slice a3 m k3] 33)))
    have ZZ := Lib.hid (show w14.heap.size ≤ (w14.alloc (.cells #[.int .i64 U, .int .i64 L, .slice a3 m k3] 33)).heap.size by simp)
    have b6 := (HN14.out.box w3.heap.size 33 #[.int .i64 U, .int .i64 L, .slice a m k] (by simp)).1
    have hl6 := b6.lt
    have y0 := b6.cell 0
    have y1 := b6.cell 1
    have y2 := b6.cell 2
    simp only [List.getElem?_toArray, List.getElem?_cons_zero, List.getElem?_cons_succ] at y0 y1 y2
    clear b6
    generalize hw14a : w14.alloc (.cells #[.int .i64 U, .int .i64 L, .slice a3 m k3] 33) = w14a at HR14 HNA ZZ
    have HW14 := Lib.hid hw14a
    clear r13 r14 hfw hw14a
    go_wp2_with fail
    rw [HW14.out]
    refine (eqFrame_same U L a3 a m k3 k _ _ (zsOf W) _ HR14.out HNA.out.ans ZZ.out (Nat.le_trans HNA.out.s1 (Nat.le_trans HNA.out.s2 HNA.out.s3)) (by unfold maxLen; omega)).mono ?_
    rintro e w15 ⟨rfl, hb15⟩
    have HN15 := Lib.hid (HNA.out.later hb15)
    clear y0 y1 y2 hl6 hb15
    have b9 := (HN15.out.box w5.heap.size 33 #[.int .i64 U, .int .i64 L, .slice a2 m k2] (by simp)).1
    have hl9 := b9.lt
    have v0 := b9.cell 0
    have v1 := b9.cell 1
    have v2 := b9.cell 2
    simp only [List.getElem?_toArray, List.getElem?_cons_zero, List.getElem?_cons_succ] at v0 v1 v2
    clear b9
    go_wp2_with fail
    refine (heldFrame_any U L a2 m k2 _ w15 (Reads.of_own HN15.out.g) (Nat.le_refl _) (by omega)).mono ?_
    rintro e w16 ⟨rfl, hb16⟩
    have HN16 := Lib.hid (HN15.out.later hb16)
    clear v0 v1 v2 hl9 hb16
    go_wp2_with fail
    go_ret
    exact ⟨rfl, HN16.out.bel⟩
  · rw [if_neg hbig] at HSZ
    have x0 := HK.out.cell 0
    have x1 := HK.out.cell 1
    have x2 := HK.out.cell 2
    simp only [List.getElem?_toArray, List.getElem?_cons_zero, List.getElem?_cons_succ] at x0 x1 x2
    go_enter Try.func7, Try.ntmps7
    go_wp2_with fail
    rw [HW.out]
    refine (HSZ.out _).mono ?_
    rintro e w2 ⟨rfl, hb2⟩
    go_wp2_with fail
    go_ret
    exact ⟨rfl, ext_trans HB.out hb2⟩
end Go.Proofs.Ytkgbcjiinicffaa
