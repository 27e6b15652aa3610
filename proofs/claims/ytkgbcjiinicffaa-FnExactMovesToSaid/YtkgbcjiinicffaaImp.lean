/- Fewest beads, fewest moves, the nearest target and the moves to it: the program's walks. No condition. -/
import Derived.Test.YtkgbcjiinicffaaBstN
import Derived.Test.YtkgbcjiinicffaaBstF
namespace Go.Proofs.Ytkgbcjiinicffaa
open Go.RowKit

/-- What the program hands back with a frame: nil, or rods of its own. -/
structure FrOwn (w0 w : World) (u l : Int) (W : Way) (U L : Int) (a : Option Addr) (n c : Nat) : Prop where
  yes : W.ok = true → U = u ∧ L = l ∧ Acc w0 w 47 2 a n c (rodF W.rods)
  no : W.ok = false → U = 0 ∧ L = 0 ∧ a = none ∧ n = 0 ∧ c = 0
  ext : Below w0.heap.size w0 w
theorem way_rods {u l : Int} {xs : List Rod} {N : Int} : (nearV u l xs N).ok = false → nearV u l xs N = way0 := by
  intro h
  unfold nearV at h ⊢
  split
  · rename_i hc
    rw [if_pos hc] at h
    simp only [Bool.and_eq_true] at hc
    obtain ⟨⟨u0, u1⟩, ⟨l0, l1⟩, _, _⟩ := frame_bd hc.1
    rcases best_way nearer_swo u0 u1 l1 xs.length N (Nat.le_refl _) with h2 | ⟨s, _, _, h2⟩
    · exact h2
    · rw [h2] at h; cases h
  · rfl
theorem near_facts {u l : Int} {xs : List Rod} {N : Int} (h : (nearV u l xs N).ok = true) : frameB u l xs = true ∧ ∃ s, s.length = xs.length ∧ (∀ x ∈ s, RodIn x) ∧ nearV u l xs N = wayOf xs s := by
  have h' := h
  unfold nearV at h
  split at h
  · rename_i hc
    have hc' := hc
    simp only [Bool.and_eq_true] at hc
    obtain ⟨⟨u0, u1⟩, ⟨l0, l1⟩, _, _⟩ := frame_bd hc.1
    refine ⟨hc.1, ?_⟩
    unfold nearV
    rw [if_pos hc']
    rcases best_way nearer_swo u0 u1 l1 xs.length N (Nat.le_refl _) with h2 | ⟨s, h3, h4, h2⟩
    · rw [h2] at h; cases h
    · exact ⟨s, h3, h4, h2⟩
  · cases h
set_option maxRecDepth 100000 in
set_option maxHeartbeats 8000000 in
theorem nearest_any (u l : Int) (A : Option Addr) (n c B : Nat) (xs : List Rod) (N : Int) (w : World) (h : Reads w B 2 A n ((rodF xs).map (Value.int .i64))) (hB : B ≤ w.heap.size) (hn : n ≤ 1048576) (hN2 : N ≤ 9223372036854775807) :
    Calls Try.prog 48 #[.agg #[.int .i64 u, .int .i64 l, .slice A n c], .int .i64 N] w fun e w' => ∃ (a : Option Addr) (m k : Nat), e = .returned ((nearV u l xs N).val a m k) ∧ Acc w w' 47 2 a m k (rodF (nearV u l xs N).rods) := by
  have hlx := h.rodLen
  have hb := ext_alloc (Below.refl w.heap.size w) (.cells #[.int .i64 u, .int .i64 l, .slice A n c] 33)
  have hBk := Blk.new w 33 #[.int .i64 u, .int .i64 l, .slice A n c]
  have hb := ext_alloc hb (.cells #[.slice none 0 0, .int .i64 0, .int .i64 0, .bool false] 57)
  have hBk := hBk.alloc (.cells #[.slice none 0 0, .int .i64 0, .int .i64 0, .bool false] 57)
  have hB4 := Blk.new (w.alloc (.cells #[.int .i64 u, .int .i64 l, .slice A n c] 33)) 57 #[.slice none 0 0, .int .i64 0, .int .i64 0, .bool false]
  have hz1 : (w.alloc (.cells #[.int .i64 u, .int .i64 l, .slice A n c] 33)).heap.size = w.heap.size + 1 := by simp
  rw [hz1] at hB4
  generalize hw1 : (w.alloc (.cells #[.int .i64 u, .int .i64 l, .slice A n c] 33)).alloc (.cells #[.slice none 0 0, .int .i64 0, .int .i64 0, .bool false] 57) = w1 at hb hBk hB4
  have HB := Lib.hid hb
  have HK := Lib.hid hBk
  have H4 := Lib.hid hB4
  have HW := Lib.hid hw1
  have RX := Lib.hid (h.below (hb.mono hB))
  have Z1 := Lib.hid (Nat.le_trans hB hb.size)
  clear h hb hBk hw1 hB4 hz1
  cases hf : frameB u l xs
  · have HV := Lib.hid (show nearV u l xs N = way0 by unfold nearV; rw [hf]; rfl)
    have HQ := Lib.hid (hf ▸ iIsFrame_any u l A n c B xs w1 RX.out Z1.out hn)
    go_enter Try.func48, Try.ntmps48
    go_wp2_with fail
    rw [HW.out]
    refine HQ.out.mono ?_
    rintro e w2 ⟨rfl, hb2⟩
    have h4 := H4.out.below hb2 H4.out.lt
    have o0 := h4.cell 0
    have f0 := h4.frozen 0
    have o1 := h4.cell 1
    have f1 := h4.frozen 1
    have o2 := h4.cell 2
    have f2 := h4.frozen 2
    have o3 := h4.cell 3
    have f3 := h4.frozen 3
    simp only [List.getElem?_toArray, List.getElem?_cons_zero, List.getElem?_cons_succ] at o0 o1 o2 o3
    have HB2 := Lib.hid (ext_trans HB.out hb2)
    have HH4 := Lib.hid h4
    clear h4 hb2
    go_wp2_with fail
    have k8 := HH4.out
    have ag := HB2.out
    have hge : w.heap.size ≤ w.heap.size + 1 := by omega
    have ag := ext_set ag (p := ⟨w.heap.size + 1, 0, none⟩) hge (.slice none 0 0)
    have k8 := k8.set_ 0 (.slice none 0 0)
    have ag := ext_set ag (p := ⟨w.heap.size + 1, 1, none⟩) hge (.int .i64 0)
    have k8 := k8.set_ 1 (.int .i64 0)
    have ag := ext_set ag (p := ⟨w.heap.size + 1, 2, none⟩) hge (.int .i64 0)
    have k8 := k8.set_ 2 (.int .i64 0)
    have ag := ext_set ag (p := ⟨w.heap.size + 1, 3, none⟩) hge (.bool false)
    have k8 := k8.set_ 3 (.bool false)
    simp only [List.setIfInBounds_toArray, List.set_cons_zero, List.set_cons_succ] at k8
    generalize ((((w2.setCell ⟨w.heap.size + 1, 0, none⟩ (.slice none 0 0)).setCell ⟨w.heap.size + 1, 1, none⟩ (.int .i64 0)).setCell ⟨w.heap.size + 1, 2, none⟩ (.int .i64 0)).setCell ⟨w.heap.size + 1, 3, none⟩ (.bool false)) = WZ at k8 ag ⊢
    have r0 := k8.cell 0
    have r1 := k8.cell 1
    have r2 := k8.cell 2
    have r3 := k8.cell 3
    simp only [List.getElem?_toArray, List.getElem?_cons_zero, List.getElem?_cons_succ] at r0 r1 r2 r3
    refine bodyPost_ret (v := .agg #[.slice none 0 0, .int .i64 0, .int .i64 0, .bool false]) ?_ rfl ?_
    · simp [results, Try.results48, go_sem, r0, r1, r2, r3]
    · exact ⟨none, 0, 0, by rw [HV.out]; rfl, by rw [HV.out]; exact Acc.nil ag⟩
  · have HQ := Lib.hid (hf ▸ iIsFrame_any u l A n c B xs w1 RX.out Z1.out hn)
    by_cases hN : 0 ≤ N
    · obtain ⟨⟨u0, u1⟩, ⟨l0, l1⟩, k1, k2⟩ := frame_bd hf
      have hn8 : n ≤ 8 := by omega
      have HV := Lib.hid (show nearV u l xs N = bestP nearerB u l xs n N by unfold nearV; rw [hf, hlx]; simp [hN])
      have hnl : decide (N < 0) = false := by simp; omega
      have HFI := Lib.hid (frame_in hf)
      go_enter Try.func48, Try.ntmps48
      go_wp2_with fail
      rw [HW.out]
      refine HQ.out.mono ?_
      rintro e w2 ⟨rfl, hb2⟩
      have h4 := H4.out.below hb2 H4.out.lt
      have hk := HK.out.below hb2 HK.out.lt
      have x0 := hk.cell 0
      have x1 := hk.cell 1
      have x2 := hk.cell 2
      simp only [List.getElem?_toArray, List.getElem?_cons_zero, List.getElem?_cons_succ] at x0 x1 x2
      have HB2 := Lib.hid (ext_trans HB.out hb2)
      have HH4 := Lib.hid h4
      have RX2 := Lib.hid (RX.out.below (hb2.mono Z1.out))
      have Z2 := Lib.hid (Nat.le_trans Z1.out hb2.size)
      clear h4 hk hb2
      go_wp2_with fail
      refine (best_near_any u l A n c B xs u0 u1 l1 HFI.out hn8 n N _ RX2.out Z2.out (Nat.le_refl _) hN hN2).mono ?_
      rintro e w3 ⟨a, m, k, rfl, hag⟩
      rw [← HV.out] at hag ⊢
      have h43 := HH4.out.below hag.ext HH4.out.lt
      have o0 := h43.cell 0
      have f0 := h43.frozen 0
      have o1 := h43.cell 1
      have f1 := h43.frozen 1
      have o2 := h43.cell 2
      have f2 := h43.frozen 2
      have o3 := h43.cell 3
      have f3 := h43.frozen 3
      simp only [List.getElem?_toArray, List.getElem?_cons_zero, List.getElem?_cons_succ] at o0 o1 o2 o3
      have H43 := Lib.hid h43
      have HAG := Lib.hid (hag.since HB2.out)
      clear h43 hag x0 x1 x2
      generalize hww : nearV u l xs N = W at HAG ⊢
      have HWW := Lib.hid hww
      clear hww
      go_wp2_with fail
      have k8 := H43.out
      have ag := HAG.out
      have hge : w.heap.size ≤ w.heap.size + 1 := by omega
      have ag := ag.setOther k8 (by decide) hge 0 (.slice a m k)
      have k8 := k8.set_ 0 (.slice a m k)
      have ag := ag.setOther k8 (by decide) hge 1 (.int .i64 W.m)
      have k8 := k8.set_ 1 (.int .i64 W.m)
      have ag := ag.setOther k8 (by decide) hge 2 (.int .i64 W.b)
      have k8 := k8.set_ 2 (.int .i64 W.b)
      have ag := ag.setOther k8 (by decide) hge 3 (.bool W.ok)
      have k8 := k8.set_ 3 (.bool W.ok)
      simp only [List.setIfInBounds_toArray, List.set_cons_zero, List.set_cons_succ] at k8
      generalize ((((w3.setCell ⟨w.heap.size + 1, 0, none⟩ (.slice a m k)).setCell ⟨w.heap.size + 1, 1, none⟩ (.int .i64 W.m)).setCell ⟨w.heap.size + 1, 2, none⟩ (.int .i64 W.b)).setCell ⟨w.heap.size + 1, 3, none⟩ (.bool W.ok)) = WZ at k8 ag ⊢
      have r0 := k8.cell 0
      have r1 := k8.cell 1
      have r2 := k8.cell 2
      have r3 := k8.cell 3
      simp only [List.getElem?_toArray, List.getElem?_cons_zero, List.getElem?_cons_succ] at r0 r1 r2 r3
      refine bodyPost_ret (v := .agg #[.slice a m k, .int .i64 W.m, .int .i64 W.b, .bool W.ok]) ?_ rfl ?_
      · simp [results, Try.results48, go_sem, r0, r1, r2, r3]
      · exact ⟨a, m, k, by rw [HWW.out], by rw [HWW.out]; exact ag⟩
    · have HV := Lib.hid (show nearV u l xs N = way0 by unfold nearV; rw [hf]; simp [hN])
      have hnl : decide (N < 0) = true := by simp; omega
      go_enter Try.func48, Try.ntmps48
      go_wp2_with fail
      rw [HW.out]
      refine HQ.out.mono ?_
      rintro e w2 ⟨rfl, hb2⟩
      have h4 := H4.out.below hb2 H4.out.lt
      have o0 := h4.cell 0
      have f0 := h4.frozen 0
      have o1 := h4.cell 1
      have f1 := h4.frozen 1
      have o2 := h4.cell 2
      have f2 := h4.frozen 2
      have o3 := h4.cell 3
      have f3 := h4.frozen 3
      simp only [List.getElem?_toArray, List.getElem?_cons_zero, List.getElem?_cons_succ] at o0 o1 o2 o3
      have HB2 := Lib.hid (ext_trans HB.out hb2)
      have HH4 := Lib.hid h4
      clear h4 hb2
      go_wp2_with fail
      have k8 := HH4.out
      have ag := HB2.out
      have hge : w.heap.size ≤ w.heap.size + 1 := by omega
      have ag := ext_set ag (p := ⟨w.heap.size + 1, 0, none⟩) hge (.slice none 0 0)
      have k8 := k8.set_ 0 (.slice none 0 0)
      have ag := ext_set ag (p := ⟨w.heap.size + 1, 1, none⟩) hge (.int .i64 0)
      have k8 := k8.set_ 1 (.int .i64 0)
      have ag := ext_set ag (p := ⟨w.heap.size + 1, 2, none⟩) hge (.int .i64 0)
      have k8 := k8.set_ 2 (.int .i64 0)
      have ag := ext_set ag (p := ⟨w.heap.size + 1, 3, none⟩) hge (.bool false)
      have k8 := k8.set_ 3 (.bool false)
      simp only [List.setIfInBounds_toArray, List.set_cons_zero, List.set_cons_succ] at k8
      generalize ((((w2.setCell ⟨w.heap.size + 1, 0, none⟩ (.slice none 0 0)).setCell ⟨w.heap.size + 1, 1, none⟩ (.int .i64 0)).setCell ⟨w.heap.size + 1, 2, none⟩ (.int .i64 0)).setCell ⟨w.heap.size + 1, 3, none⟩ (.bool false)) = WZ at k8 ag ⊢
      have r0 := k8.cell 0
      have r1 := k8.cell 1
      have r2 := k8.cell 2
      have r3 := k8.cell 3
      simp only [List.getElem?_toArray, List.getElem?_cons_zero, List.getElem?_cons_succ] at r0 r1 r2 r3
      refine bodyPost_ret (v := .agg #[.slice none 0 0, .int .i64 0, .int .i64 0, .bool false]) ?_ rfl ?_
      · simp [results, Try.results48, go_sem, r0, r1, r2, r3]
      · exact ⟨none, 0, 0, by rw [HV.out]; rfl, by rw [HV.out]; exact Acc.nil ag⟩
set_option maxRecDepth 100000 in
set_option maxHeartbeats 8000000 in
theorem iFewestMoves_any (u l : Int) (A : Option Addr) (n c B : Nat) (xs : List Rod) (N : Int) (w : World) (h : Reads w B 2 A n ((rodF xs).map (Value.int .i64))) (hB : B ≤ w.heap.size) (hn : n ≤ 1048576) (hN2 : N ≤ 9223372036854775807) :
    Calls Try.prog 22 #[.agg #[.int .i64 u, .int .i64 l, .slice A n c], .int .i64 N] w fun e w' => e = .returned (.tuple #[.int .i64 (nearV u l xs N).m, .bool (nearV u l xs N).ok]) ∧ Below w.heap.size w w' := by
  have hlx := h.rodLen
  have hb := ext_alloc (Below.refl w.heap.size w) (.cells #[.int .i64 u, .int .i64 l, .slice A n c] 33)
  have hBk := Blk.new w 33 #[.int .i64 u, .int .i64 l, .slice A n c]
  generalize hw1 : w.alloc (.cells #[.int .i64 u, .int .i64 l, .slice A n c] 33) = w1 at hb hBk
  have HB := Lib.hid hb
  have HK := Lib.hid hBk
  have HW := Lib.hid hw1
  have RX := Lib.hid (h.below (hb.mono hB))
  have Z1 := Lib.hid (Nat.le_trans hB hb.size)
  clear h hb hBk hw1
  have x0 := HK.out.cell 0
  have x1 := HK.out.cell 1
  have x2 := HK.out.cell 2
  simp only [List.getElem?_toArray, List.getElem?_cons_zero, List.getElem?_cons_succ] at x0 x1 x2
  go_enter Try.func22, Try.ntmps22
  go_wp2_with fail
  rw [HW.out]
  refine (nearest_any u l A n c B xs N _ RX.out Z1.out hn hN2).mono ?_
  rintro e w2 ⟨a, m, k, rfl, hag⟩
  generalize hww : nearV u l xs N = W at hag ⊢
  have HWW := Lib.hid hww
  clear hww
  dsimp only [Way.val]
  have HB2 := Lib.hid (ext_trans HB.out hag.ext)
  have HG := Lib.hid (Blk.new w2 57 #[.slice a m k, .int .i64 W.m, .int .i64 W.b, .bool W.ok])
  clear hag x0 x1 x2
  go_wp2_with fail
  have hb3 := ext_alloc HB2.out (.cells #[.slice a m k, .int .i64 W.m, .int .i64 W.b, .bool W.ok] 57)
  have hg := HG.out
  generalize w2.alloc (.cells #[.slice a m k, .int .i64 W.m, .int .i64 W.b, .bool W.ok] 57) = w3 at hb3 hg ⊢
  have y1 := hg.cell 1
  have y3 := hg.cell 3
  simp only [List.getElem?_toArray, List.getElem?_cons_zero, List.getElem?_cons_succ] at y1 y3
  go_quiet (fail)
  go_wp2_with fail
  go_ret2
  exact ⟨by rw [HWW.out]; rfl, ext_drewN hb3 _⟩
set_option maxRecDepth 100000 in
set_option maxHeartbeats 8000000 in
theorem iFewestBeads_any (u l : Int) (A : Option Addr) (n c B : Nat) (xs : List Rod) (N : Int) (w : World) (h : Reads w B 2 A n ((rodF xs).map (Value.int .i64))) (hB : B ≤ w.heap.size) (hn : n ≤ 1048576) (hN2 : N ≤ 9223372036854775807) :
    Calls Try.prog 20 #[.agg #[.int .i64 u, .int .i64 l, .slice A n c], .int .i64 N] w fun e w' => e = .returned (.tuple #[.int .i64 (fewV u l xs N).b, .bool (fewV u l xs N).ok]) ∧ Below w.heap.size w w' := by
  have hlx := h.rodLen
  have hb := ext_alloc (Below.refl w.heap.size w) (.cells #[.int .i64 u, .int .i64 l, .slice A n c] 33)
  have hBk := Blk.new w 33 #[.int .i64 u, .int .i64 l, .slice A n c]
  generalize hw1 : w.alloc (.cells #[.int .i64 u, .int .i64 l, .slice A n c] 33) = w1 at hb hBk
  have HB := Lib.hid hb
  have HK := Lib.hid hBk
  have HW := Lib.hid hw1
  have RX := Lib.hid (h.below (hb.mono hB))
  have Z1 := Lib.hid (Nat.le_trans hB hb.size)
  clear h hb hBk hw1
  cases hf : frameB u l xs
  · have HV := Lib.hid (show fewV u l xs N = way0 by unfold fewV; rw [hf]; rfl)
    have HQ := Lib.hid (hf ▸ iIsFrame_any u l A n c B xs w1 RX.out Z1.out hn)
    go_enter Try.func20, Try.ntmps20
    go_wp2_with fail
    rw [HW.out]
    refine HQ.out.mono ?_
    rintro e w2 ⟨rfl, hb2⟩
    go_wp2_with fail
    go_ret2
    exact ⟨by rw [HV.out]; rfl, ext_trans HB.out hb2⟩
  · have HQ := Lib.hid (hf ▸ iIsFrame_any u l A n c B xs w1 RX.out Z1.out hn)
    by_cases hN : 0 ≤ N
    · obtain ⟨⟨u0, u1⟩, ⟨l0, l1⟩, k1, k2⟩ := frame_bd hf
      have hn8 : n ≤ 8 := by omega
      have HV := Lib.hid (show fewV u l xs N = bestP fewerB u l xs n N by unfold fewV; rw [hf, hlx]; simp [hN])
      have hnl : decide (N < 0) = false := by simp; omega
      have HFI := Lib.hid (frame_in hf)
      go_enter Try.func20, Try.ntmps20
      go_wp2_with fail
      rw [HW.out]
      refine HQ.out.mono ?_
      rintro e w2 ⟨rfl, hb2⟩
      have hk := HK.out.below hb2 HK.out.lt
      have x0 := hk.cell 0
      have x1 := hk.cell 1
      have x2 := hk.cell 2
      simp only [List.getElem?_toArray, List.getElem?_cons_zero, List.getElem?_cons_succ] at x0 x1 x2
      have HB2 := Lib.hid (ext_trans HB.out hb2)
      have RX2 := Lib.hid (RX.out.below (hb2.mono Z1.out))
      have Z2 := Lib.hid (Nat.le_trans Z1.out hb2.size)
      clear hk hb2
      go_wp2_with fail
      refine (best_few_any u l A n c B xs u0 u1 l1 HFI.out hn8 n N _ RX2.out Z2.out (Nat.le_refl _) hN hN2).mono ?_
      rintro e w3 ⟨a, m, k, rfl, hag⟩
      rw [← HV.out] at hag ⊢
      generalize hww : fewV u l xs N = W at hag ⊢
      have HWW := Lib.hid hww
      clear hww
      dsimp only [Way.val]
      have HB3 := Lib.hid (ext_trans HB2.out hag.ext)
      have HG := Lib.hid (Blk.new w3 57 #[.slice a m k, .int .i64 W.m, .int .i64 W.b, .bool W.ok])
      clear hag x0 x1 x2
      go_wp2_with fail
      have hb3 := ext_alloc HB3.out (.cells #[.slice a m k, .int .i64 W.m, .int .i64 W.b, .bool W.ok] 57)
      have hg := HG.out
      generalize w3.alloc (.cells #[.slice a m k, .int .i64 W.m, .int .i64 W.b, .bool W.ok] 57) = w4 at hb3 hg ⊢
      have y2 := hg.cell 2
      have y3 := hg.cell 3
      simp only [List.getElem?_toArray, List.getElem?_cons_zero, List.getElem?_cons_succ] at y2 y3
      go_quiet (fail)
      go_wp2_with fail
      go_ret2
      exact ⟨by rw [HWW.out]; rfl, ext_drewN hb3 _⟩
    · have HV := Lib.hid (show fewV u l xs N = way0 by unfold fewV; rw [hf]; simp [hN])
      have hnl : decide (N < 0) = true := by simp; omega
      go_enter Try.func20, Try.ntmps20
      go_wp2_with fail
      rw [HW.out]
      refine HQ.out.mono ?_
      rintro e w2 ⟨rfl, hb2⟩
      go_wp2_with fail
      go_ret2
      exact ⟨by rw [HV.out]; rfl, ext_trans HB.out hb2⟩
set_option maxRecDepth 100000 in
set_option maxHeartbeats 8000000 in
theorem iNearestTarget_any (u l : Int) (A : Option Addr) (n c B : Nat) (xs : List Rod) (N : Int) (w : World) (h : Reads w B 2 A n ((rodF xs).map (Value.int .i64))) (hB : B ≤ w.heap.size) (hn : n ≤ 1048576) (hN2 : N ≤ 9223372036854775807) :
    Calls Try.prog 24 #[.agg #[.int .i64 u, .int .i64 l, .slice A n c], .int .i64 N] w fun e w' => ∃ (U L : Int) (a : Option Addr) (m k : Nat), e = .returned (.tuple #[.agg #[.int .i64 U, .int .i64 L, .slice a m k], .bool (nearV u l xs N).ok]) ∧ FrOwn w w' u l (nearV u l xs N) U L a m k := by
  have hlx := h.rodLen
  have hb := ext_alloc (Below.refl w.heap.size w) (.cells #[.int .i64 u, .int .i64 l, .slice A n c] 33)
  have hBk := Blk.new w 33 #[.int .i64 u, .int .i64 l, .slice A n c]
  have hb := ext_alloc hb (.cells #[.int .i64 0, .int .i64 0, .slice none 0 0] 33)
  have hBk := hBk.alloc (.cells #[.int .i64 0, .int .i64 0, .slice none 0 0] 33)
  have hB4 := Blk.new (w.alloc (.cells #[.int .i64 u, .int .i64 l, .slice A n c] 33)) 33 #[.int .i64 0, .int .i64 0, .slice none 0 0]
  have hz1 : (w.alloc (.cells #[.int .i64 u, .int .i64 l, .slice A n c] 33)).heap.size = w.heap.size + 1 := by simp
  rw [hz1] at hB4
  generalize hw1 : (w.alloc (.cells #[.int .i64 u, .int .i64 l, .slice A n c] 33)).alloc (.cells #[.int .i64 0, .int .i64 0, .slice none 0 0] 33) = w1 at hb hBk hB4
  have HB := Lib.hid hb
  have HK := Lib.hid hBk
  have H4 := Lib.hid hB4
  have HW := Lib.hid hw1
  have RX := Lib.hid (h.below (hb.mono hB))
  have Z1 := Lib.hid (Nat.le_trans hB hb.size)
  clear h hb hBk hw1 hB4 hz1
  have x0 := HK.out.cell 0
  have x1 := HK.out.cell 1
  have x2 := HK.out.cell 2
  simp only [List.getElem?_toArray, List.getElem?_cons_zero, List.getElem?_cons_succ] at x0 x1 x2
  go_enter Try.func24, Try.ntmps24
  go_wp2_with fail
  rw [HW.out]
  refine (nearest_any u l A n c B xs N _ RX.out Z1.out hn hN2).mono ?_
  rintro e w2 ⟨a, m, k, rfl, hag⟩
  generalize hww : nearV u l xs N = W at hag ⊢
  have HWW := Lib.hid hww
  dsimp only [Way.val]
  have h4 := H4.out.below hag.ext H4.out.lt
  have hk := HK.out.below hag.ext HK.out.lt
  have hl2 := hk.lt
  have o0 := h4.cell 0
  have f0 := h4.frozen 0
  have o1 := h4.cell 1
  have f1 := h4.frozen 1
  have o2 := h4.cell 2
  have f2 := h4.frozen 2
  simp only [List.getElem?_toArray, List.getElem?_cons_zero, List.getElem?_cons_succ] at o0 o1 o2
  have y0 := hk.cell 0
  have y1 := hk.cell 1
  have y2 := hk.cell 2
  simp only [List.getElem?_toArray, List.getElem?_cons_zero, List.getElem?_cons_succ] at y0 y1 y2
  have H42 := Lib.hid h4
  have hl4 := h4.lt
  have HAG := Lib.hid (hag.since HB.out)
  have OB : ∀ o, (w2.alloc o).heap.size = w2.heap.size + 1 := fun o => by simp
  clear hww hag hk h4 x0 x1 x2
  obtain ⟨ok, hok⟩ : ∃ ok, ok = W.ok := ⟨_, rfl⟩
  rw [← hok]
  have HOK := Lib.hid hok
  clear hok
  cases ok
  · go_wp2_with fail
    have k8 := H42.out
    have ag := HAG.out.ext
    have hge : w.heap.size ≤ w.heap.size + 1 := by omega
    have ag := ext_set ag (p := ⟨w.heap.size + 1, 0, none⟩) hge (.int .i64 0)
    have k8 := k8.set_ 0 (.int .i64 0)
    have ag := ext_set ag (p := ⟨w.heap.size + 1, 1, none⟩) hge (.int .i64 0)
    have k8 := k8.set_ 1 (.int .i64 0)
    have ag := ext_set ag (p := ⟨w.heap.size + 1, 2, none⟩) hge (.slice none 0 0)
    have k8 := k8.set_ 2 (.slice none 0 0)
    simp only [List.setIfInBounds_toArray, List.set_cons_zero, List.set_cons_succ] at k8
    have ag := ext_alloc ag (Obj.cells #[.slice a m k, .int .i64 W.m, .int .i64 W.b, .bool false] 57)
    have k8 := k8.alloc (Obj.cells #[.slice a m k, .int .i64 W.m, .int .i64 W.b, .bool false] 57)
    generalize (((w2.setCell ⟨w.heap.size + 1, 0, none⟩ (.int .i64 0)).setCell ⟨w.heap.size + 1, 1, none⟩ (.int .i64 0)).setCell ⟨w.heap.size + 1, 2, none⟩ (.slice none 0 0)).alloc (Obj.cells #[.slice a m k, .int .i64 W.m, .int .i64 W.b, .bool false] 57) = WZ at k8 ag ⊢
    have r0 := k8.cell 0
    have r1 := k8.cell 1
    have r2 := k8.cell 2
    simp only [List.getElem?_toArray, List.getElem?_cons_zero, List.getElem?_cons_succ] at r0 r1 r2
    refine bodyPost_ret (v := .tuple #[.agg #[.int .i64 0, .int .i64 0, .slice none 0 0], .bool false]) ?_ rfl ?_
    · simp [results, Try.results24, go_sem, r0, r1, r2]
    · exact ⟨0, 0, none, 0, 0, by rw [HWW.out, ← HOK.out], ⟨fun h => (by rw [HWW.out, ← HOK.out] at h; cases h), fun _ => ⟨rfl, rfl, rfl, rfl, rfl⟩, ag⟩⟩
  · go_wp2_with fail
    have k8 := H42.out
    have ag := HAG.out
    have hge : w.heap.size ≤ w.heap.size + 1 := by omega
    have ag := ag.setOther k8 (by decide) hge 0 (.int .i64 u)
    have k8 := k8.set_ 0 (.int .i64 u)
    have ag := ag.setOther k8 (by decide) hge 1 (.int .i64 l)
    have k8 := k8.set_ 1 (.int .i64 l)
    have ag := ag.setOther k8 (by decide) hge 2 (.slice a m k)
    have k8 := k8.set_ 2 (.slice a m k)
    simp only [List.setIfInBounds_toArray, List.set_cons_zero, List.set_cons_succ] at k8
    have ag := ag.alloc (Obj.cells #[.slice a m k, .int .i64 W.m, .int .i64 W.b, .bool true] 57)
    have k8 := k8.alloc (Obj.cells #[.slice a m k, .int .i64 W.m, .int .i64 W.b, .bool true] 57)
    generalize (((w2.setCell ⟨w.heap.size + 1, 0, none⟩ (.int .i64 u)).setCell ⟨w.heap.size + 1, 1, none⟩ (.int .i64 l)).setCell ⟨w.heap.size + 1, 2, none⟩ (.slice a m k)).alloc (Obj.cells #[.slice a m k, .int .i64 W.m, .int .i64 W.b, .bool true] 57) = WZ at k8 ag ⊢
    have r0 := k8.cell 0
    have r1 := k8.cell 1
    have r2 := k8.cell 2
    simp only [List.getElem?_toArray, List.getElem?_cons_zero, List.getElem?_cons_succ] at r0 r1 r2
    refine bodyPost_ret (v := .tuple #[.agg #[.int .i64 u, .int .i64 l, .slice a m k], .bool true]) ?_ rfl ?_
    · simp [results, Try.results24, go_sem, r0, r1, r2]
    · exact ⟨u, l, a, m, k, by rw [HWW.out, ← HOK.out], ⟨fun _ => ⟨rfl, rfl, by rw [HWW.out]; exact ag⟩, fun h => (by rw [HWW.out, ← HOK.out] at h; cases h), ag.ext⟩⟩
set_option maxRecDepth 100000 in
set_option maxHeartbeats 8000000 in
theorem iMovesTo_any (u l : Int) (A : Option Addr) (n c B : Nat) (xs : List Rod) (N : Int) (w : World) (h : Reads w B 2 A n ((rodF xs).map (Value.int .i64))) (hB : B ≤ w.heap.size) (hn : n ≤ 1048576) (hN2 : N ≤ 9223372036854775807) :
    Calls Try.prog 28 #[.agg #[.int .i64 u, .int .i64 l, .slice A n c], .int .i64 N] w fun e w' => Gives 63 3 (bmvF (toV u l xs N)) (nearV u l xs N).ok w e w' := by
  have hlx := h.rodLen
  have hb := ext_alloc (Below.refl w.heap.size w) (.cells #[.int .i64 u, .int .i64 l, .slice A n c] 33)
  have hBk := Blk.new w 33 #[.int .i64 u, .int .i64 l, .slice A n c]
  generalize hw1 : w.alloc (.cells #[.int .i64 u, .int .i64 l, .slice A n c] 33) = w1 at hb hBk
  have HB := Lib.hid hb
  have HK := Lib.hid hBk
  have HW := Lib.hid hw1
  have RX := Lib.hid (h.below (hb.mono hB))
  have Z1 := Lib.hid (Nat.le_trans hB hb.size)
  clear h hb hBk hw1
  have x0 := HK.out.cell 0
  have x1 := HK.out.cell 1
  have x2 := HK.out.cell 2
  simp only [List.getElem?_toArray, List.getElem?_cons_zero, List.getElem?_cons_succ] at x0 x1 x2
  go_enter Try.func28, Try.ntmps28
  go_wp2_with fail
  rw [HW.out]
  refine (iNearestTarget_any u l A n c B xs N _ RX.out Z1.out hn hN2).mono ?_
  rintro e w2 ⟨U, L, a, m, k, rfl, hfo⟩
  have HFO := Lib.hid hfo
  have hb2 := hfo.ext
  have hk := HK.out.below hb2 HK.out.lt
  have hl2 := hk.lt
  have y0 := hk.cell 0
  have y1 := hk.cell 1
  have y2 := hk.cell 2
  simp only [List.getElem?_toArray, List.getElem?_cons_zero, List.getElem?_cons_succ] at y0 y1 y2
  have HB2 := Lib.hid (ext_trans HB.out hb2)
  have RX2 := Lib.hid (RX.out.below (hb2.mono Z1.out))
  have Z2 := Lib.hid (Nat.le_trans Z1.out hb2.size)
  obtain ⟨ok, hok⟩ : ∃ ok, ok = (nearV u l xs N).ok := ⟨_, rfl⟩
  rw [← hok]
  have HOK := Lib.hid hok
  clear hok hfo hb2 hk x0 x1 x2
  cases ok
  · have HT := Lib.hid (show toV u l xs N = [] by unfold toV; rw [← HOK.out]; rfl)
    go_wp2_with fail
    go_ret2
    rw [HT.out, ← HOK.out]
    exact ⟨none, 0, 0, rfl, Acc.nil (ext_alloc HB2.out _)⟩
  · obtain ⟨hfr, s, hsl, hsi, hs⟩ := near_facts HOK.out.symm
    obtain ⟨⟨u0, u1⟩, ⟨l0, l1⟩, k1, k2⟩ := frame_bd hfr
    have HT := Lib.hid (show toV u l xs N = mvL xs s by unfold toV; rw [← HOK.out, hs]; rfl)
    obtain ⟨rfl, rfl, hag⟩ := HFO.out.yes HOK.out.symm
    rw [hs] at hag
    have hr := hag.reads
    have hmn : n = m := by have := hr.rodLen; show n = m; unfold wayOf at this; simp only at this; omega
    subst hmn
    have HR2 := Lib.hid (show Reads w2 w2.heap.size 2 a n ((rodF s).map (Value.int .i64)) from hr)
    have HXI := Lib.hid (frame_in hfr)
    have hba := ext_alloc (Below.refl w2.heap.size w2) (.cells #[.int .i64 U, .int .i64 L, .slice a n k] 33)
    have RX3 := Lib.hid (RX2.out.below (hba.mono Z2.out))
    have HR3 := Lib.hid (HR2.out.below hba)
    have HB3 := Lib.hid (ext_trans HB2.out hba)
    have Z3 := Lib.hid (Nat.le_trans Z2.out hba.size)
    have Z4 := Lib.hid hba.size
    have hn8 : n ≤ 8 := by omega
    clear hag hr hs hba
    go_wp2_with fail
    refine (movesBetween_any U L U L A a n c k _ _ xs s _ RX3.out HR3.out Z3.out Z4.out hn8 HXI.out hsi).mono ?_
    rintro e w6 ⟨A6, n6, c6, rfl, a6⟩
    go_wp2_with fail
    go_ret2
    rw [HT.out, ← HOK.out]
    exact ⟨_, _, _, rfl, a6.since HB3.out⟩
end Go.Proofs.Ytkgbcjiinicffaa
