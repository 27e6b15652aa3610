/- PartOf: walks on both sides. No condition. -/
import Derived.Test.YthigfbhkdegfkaaPrs
namespace Go.Proofs.Ythigfbhkdegfkaa
open Go.RowKit

def partV (us : List Unt) (zs : List Int) (N : Int) : List Int × List Int × Bool :=
  if (amtB us zs && inB N 1 1000) = true then (if (propOk us (valR us zs / N) && propOk us (valR us zs % N)) = true then (propL us (valR us zs / N), propL us (valR us zs % N), true) else ([], [], false)) else ([], [], false)
set_option maxRecDepth 100000 in
set_option maxHeartbeats 8000000 in
theorem iPartOf_any (A : Option Addr) (n c B : Nat) (us : List Unt) (D : Option Addr) (m k B2 : Nat) (zs : List Int) (N : Int) (w : World) (h : Reads w B 2 A n (untF us)) (hB : B ≤ w.heap.size) (hn : n ≤ 1048576) (hnm : ∀ x ∈ us, x.nm.size ≤ 1048576) (hc : n ≤ c) (hc2 : c ≤ maxLen)
    (h2 : Reads w B2 1 D m (zs.map (Value.int .i64))) (hB2 : B2 ≤ w.heap.size) (hm : m ≤ 1048576) :
    Calls Try.prog 10 #[.slice A n c, .agg #[.slice D m k], .int .i64 N] w fun e w' => ∃ (a1 : Option Addr) (m1 k1 : Nat) (a2 : Option Addr) (m2 k2 : Nat), e = .returned (.tuple #[.agg #[.slice a1 m1 k1], .agg #[.slice a2 m2 k2], .bool (partV us zs N).2.2]) ∧ AccP w w' 3 1 a1 m1 k1 (partV us zs N).1 a2 m2 k2 (partV us zs N).2.1 := by
  have hl := h.untLen
  have hl2 := h2.len
  have hb := ext_alloc (ext_alloc (ext_alloc (Below.refl w.heap.size w) (.cells #[.slice D m k] 28)) (.cells #[.slice none 0 0] 28)) (.cells #[.slice none 0 0] 28)
  have hk4 := ((Blk.new w 28 #[.slice D m k]).alloc (.cells #[.slice none 0 0] 28)).alloc (.cells #[.slice none 0 0] 28)
  have hk6 := (Blk.new (w.alloc (.cells #[.slice D m k] 28)) 28 #[.slice none 0 0]).alloc (.cells #[.slice none 0 0] 28)
  have hk7 := Blk.new ((w.alloc (.cells #[.slice D m k] 28)).alloc (.cells #[.slice none 0 0] 28)) 28 #[.slice none 0 0]
  rw [show (w.alloc (.cells #[.slice D m k] 28)).heap.size = w.heap.size + 1 by simp] at hk6
  rw [show ((w.alloc (.cells #[.slice D m k] 28)).alloc (.cells #[.slice none 0 0] 28)).heap.size = w.heap.size + 1 + 1 by simp] at hk7
  generalize hw1 : ((w.alloc (.cells #[.slice D m k] 28)).alloc (.cells #[.slice none 0 0] 28)).alloc (.cells #[.slice none 0 0] 28) = w1 at hb hk4 hk6 hk7
  have HB := Lib.hid hb
  have K4 := Lib.hid hk4
  have K6 := Lib.hid hk6
  have K7 := Lib.hid hk7
  have HW := Lib.hid hw1
  have R1 := Lib.hid (h.below (hb.mono hB))
  have R2 := Lib.hid (h2.below (hb.mono hB2))
  have Z1 := Lib.hid (Nat.le_trans hB hb.size)
  have Z2 := Lib.hid (Nat.le_trans hB2 hb.size)
  have HQ := Lib.hid (iIsAmount_any A n c B us D m k B2 zs w1 R1.out Z1.out hn hnm hc hc2 R2.out Z2.out hm)
  have x0 := hk4.cell 0
  simp only [List.getElem?_toArray, List.getElem?_cons_zero] at x0
  clear h h2 hb hk4 hk6 hk7 hw1
  cases ha : amtB us zs
  · have HO := Lib.hid (show partV us zs N = ([], [], false) by unfold partV; rw [ha]; rfl)
    rw [ha] at HQ
    go_enter Try.func10, Try.ntmps10
    go_wp2_with fail
    rw [HW.out]
    refine HQ.out.mono ?_
    rintro e w2 ⟨rfl, hb2⟩
    have k6 := K6.out.below hb2 K6.out.lt
    have k7 := K7.out.below hb2 K7.out.lt
    have ag := ext_trans HB.out hb2
    have ca6 := k6.cell 0
    have fa6 := k6.frozen 0
    have ca7 := k7.cell 0
    have fa7 := k7.frozen 0
    simp only [List.getElem?_toArray, List.getElem?_cons_zero] at ca6 ca7
    have K6X := Lib.hid k6
    have K7X := Lib.hid k7
    have AGX := Lib.hid ag
    clear k6 k7 ag hb2
    go_wp2_with fail
    have k6 := K6X.out
    have k7 := K7X.out
    have ag := AGX.out
    have ag := ext_set ag (p := ⟨w.heap.size + 1, 0, none⟩) (by dsimp only; omega) (.slice none 0 0)
    have k6 := k6.set_ 0 (.slice none 0 0)
    have k7 := k7.far (p := ⟨w.heap.size + 1, 0, none⟩) (by dsimp only; omega) (.slice none 0 0)
    have ag := ext_set ag (p := ⟨w.heap.size + 1 + 1, 0, none⟩) (by dsimp only; omega) (.slice none 0 0)
    have k7 := k7.set_ 0 (.slice none 0 0)
    have k6 := k6.far (p := ⟨w.heap.size + 1 + 1, 0, none⟩) (by dsimp only; omega) (.slice none 0 0)
    simp only [List.setIfInBounds_toArray, List.set_cons_zero] at k6 k7
    generalize (w2.setCell ⟨w.heap.size + 1, 0, none⟩ (.slice none 0 0)).setCell ⟨w.heap.size + 1 + 1, 0, none⟩ (.slice none 0 0) = WZ at k6 k7 ag ⊢
    have r0 := k6.cell 0
    have r1 := k7.cell 0
    simp only [List.getElem?_toArray, List.getElem?_cons_zero] at r0 r1
    refine bodyPost_ret (v := .tuple #[.agg #[.slice none 0 0], .agg #[.slice none 0 0], .bool false]) (by simp [results, Try.results10, go_sem, r0, r1]) rfl ?_
    exact ⟨none, 0, 0, none, 0, 0, by rw [HO.out], by rw [HO.out]; exact ⟨Acc.nil ag, Acc.nil ag, Apart.none_ _⟩⟩
  · rw [ha] at HQ
    have hs : sysB us = true := by unfold amtB at ha; simp only [Bool.and_eq_true] at ha; exact ha.1
    have hi := amt_in ha
    have hmn : n = m := by have := hi.len; omega
    subst hmn
    cases hin : inB N 1 1000
    · have HO := Lib.hid (show partV us zs N = ([], [], false) by unfold partV; rw [ha, hin]; rfl)
      go_enter Try.func10, Try.ntmps10
      go_wp2_with fail
      rw [HW.out]
      refine HQ.out.mono ?_
      rintro e w2 ⟨rfl, hb2⟩
      have k6 := K6.out.below hb2 K6.out.lt
      have k7 := K7.out.below hb2 K7.out.lt
      have ag := ext_trans HB.out hb2
      have ca6 := k6.cell 0
      have fa6 := k6.frozen 0
      have ca7 := k7.cell 0
      have fa7 := k7.frozen 0
      simp only [List.getElem?_toArray, List.getElem?_cons_zero] at ca6 ca7
      have K6X := Lib.hid k6
      have K7X := Lib.hid k7
      have AGX := Lib.hid ag
      have HIN := Lib.hid hin
      clear k6 k7 ag hb2 hin
      go_wp2_with (go_at_call 43; refine (within_any _ _ _ _).mono ?_; rintro e w' ⟨rfl, rfl⟩; rw [HIN.out])
      have k6 := K6X.out
      have k7 := K7X.out
      have ag := AGX.out
      have ag := ext_set ag (p := ⟨w.heap.size + 1, 0, none⟩) (by dsimp only; omega) (.slice none 0 0)
      have k6 := k6.set_ 0 (.slice none 0 0)
      have k7 := k7.far (p := ⟨w.heap.size + 1, 0, none⟩) (by dsimp only; omega) (.slice none 0 0)
      have ag := ext_set ag (p := ⟨w.heap.size + 1 + 1, 0, none⟩) (by dsimp only; omega) (.slice none 0 0)
      have k7 := k7.set_ 0 (.slice none 0 0)
      have k6 := k6.far (p := ⟨w.heap.size + 1 + 1, 0, none⟩) (by dsimp only; omega) (.slice none 0 0)
      simp only [List.setIfInBounds_toArray, List.set_cons_zero] at k6 k7
      generalize (w2.setCell ⟨w.heap.size + 1, 0, none⟩ (.slice none 0 0)).setCell ⟨w.heap.size + 1 + 1, 0, none⟩ (.slice none 0 0) = WZ at k6 k7 ag ⊢
      have r0 := k6.cell 0
      have r1 := k7.cell 0
      simp only [List.getElem?_toArray, List.getElem?_cons_zero] at r0 r1
      refine bodyPost_ret (v := .tuple #[.agg #[.slice none 0 0], .agg #[.slice none 0 0], .bool false]) (by simp [results, Try.results10, go_sem, r0, r1]) rfl ?_
      exact ⟨none, 0, 0, none, 0, 0, by rw [HO.out], by rw [HO.out]; exact ⟨Acc.nil ag, Acc.nil ag, Apart.none_ _⟩⟩
    · obtain ⟨n0, n1⟩ := inB_true hin
      have hvb := valR_bd us zs hi.sz hi.ct hi.few
      have hvb2 := (bnd_le hi.few).2
      have hqu := wquo (x := valR us zs) (y := N) hvb.1 (by omega) n0
      have hrm := wrem (x := valR us zs) (y := N) hvb.1
      have hz0 : ¬ N = 0 := by omega
      have hv0 : 0 ≤ valR us zs := hvb.1
      have hv1 : valR us zs ≤ 9223372036854775807 := by omega
      have hd1 : valR us zs / N ≤ 9223372036854775807 := Int.le_trans (Int.ediv_le_self N hv0) hv1
      have hd2 : valR us zs % N ≤ 9223372036854775807 := by have := Int.emod_lt_of_pos (valR us zs) (show 0 < N by omega); omega
      have HP := Lib.hid (show partV us zs N = (if (propOk us (valR us zs / N) && propOk us (valR us zs % N)) = true then (propL us (valR us zs / N), propL us (valR us zs % N), true) else ([], [], false)) by unfold partV; rw [ha, hin]; rfl)
      have HI := Lib.hid hi
      have HS := Lib.hid hs
      have HVV := Lib.hid (fun v => show propV us v = if propOk us v = true then propL us v else [] from rfl)
      clear hvb hvb2
      go_enter Try.func10, Try.ntmps10
      go_wp2_with fail
      rw [HW.out]
      refine HQ.out.mono ?_
      rintro e w2 ⟨rfl, hb2⟩
      have K62 := Lib.hid (K6.out.below hb2 K6.out.lt)
      have K72 := Lib.hid (K7.out.below hb2 K7.out.lt)
      have k42 := K4.out.below hb2 K4.out.lt
      have y0 := k42.cell 0
      simp only [List.getElem?_toArray, List.getElem?_cons_zero] at y0
      have R12 := Lib.hid (R1.out.below (hb2.mono Z1.out))
      have R22 := Lib.hid (R2.out.below (hb2.mono Z2.out))
      have Z12 := Lib.hid (Nat.le_trans Z1.out hb2.size)
      have Z22 := Lib.hid (Nat.le_trans Z2.out hb2.size)
      have HB2 := Lib.hid (ext_trans HB.out hb2)
      have HIN := Lib.hid hin
      clear x0 hb2 k42 hin hi hs ha
      go_wp2_with (go_at_call 43; refine (within_any _ _ _ _).mono ?_; rintro e w' ⟨rfl, rfl⟩; rw [HIN.out])
      refine (valueIn_any A n c B us D k B2 zs w2 R12.out Z12.out R22.out Z22.out HI.out).mono ?_
      rintro e w3 ⟨rfl, hb3⟩
      have K63 := Lib.hid (K62.out.below hb3 K62.out.lt)
      have K73 := Lib.hid (K72.out.below hb3 K72.out.lt)
      have R13 := Lib.hid (R12.out.below (hb3.mono Z12.out))
      have Z13 := Lib.hid (Nat.le_trans Z12.out hb3.size)
      have HB3 := Lib.hid (ext_trans HB2.out hb3)
      generalize valR us zs = V at *
      clear y0 hb3
      go_wp2_with fail
      refine (properOf_any A n c B us (V / N) w3 R13.out Z13.out HS.out hd1).mono ?_
      rintro e w4 ⟨p1, m1, k1, rfl, acc1⟩
      obtain ⟨ok1, hok1⟩ : ∃ b, b = propOk us (V / N) := ⟨_, rfl⟩
      rw [← hok1]
      have HOK1 := Lib.hid hok1
      have hb4 := ext_alloc acc1.ext (.cells #[.slice p1 m1 k1] 28)
      have acc1a := acc1.alloc (.cells #[.slice p1 m1 k1] 28)
      have kA := Blk.new w4 28 #[.slice p1 m1 k1]
      generalize hw4a : w4.alloc (.cells #[.slice p1 m1 k1] 28) = w4a at hb4 acc1a kA
      have HW4 := Lib.hid hw4a
      have AC1 := Lib.hid acc1a
      have KA := Lib.hid kA
      have K64 := Lib.hid (K63.out.below hb4 K63.out.lt)
      have K74 := Lib.hid (K73.out.below hb4 K73.out.lt)
      have R14 := Lib.hid (R13.out.below (hb4.mono Z13.out))
      have Z14 := Lib.hid (Nat.le_trans Z13.out hb4.size)
      clear hok1 acc1 acc1a hb4 kA hw4a
      go_wp2_with fail
      rw [HW4.out]
      refine (properOf_any A n c B us (V % N) w4a R14.out Z14.out HS.out hd2).mono ?_
      rintro e w5 ⟨p2, m2, k2, rfl, acc2⟩
      obtain ⟨ok2, hok2⟩ : ∃ b, b = propOk us (V % N) := ⟨_, rfl⟩
      rw [← hok2]
      have HOK2 := Lib.hid hok2
      have k6 := K64.out.below acc2.ext K64.out.lt
      have k7 := K74.out.below acc2.ext K74.out.lt
      have kA := KA.out.below acc2.ext KA.out.lt
      have hlA := kA.lt
      have hl6 := k6.lt
      have hl7 := k7.lt
      have cA := kA.cell 0
      have ca6 := k6.cell 0
      have fa6 := k6.frozen 0
      have ca7 := k7.cell 0
      have fa7 := k7.frozen 0
      simp only [List.getElem?_toArray, List.getElem?_cons_zero] at ca6 ca7
      simp only [List.getElem?_toArray, List.getElem?_cons_zero] at cA
      have K65 := Lib.hid k6
      have K75 := Lib.hid k7
      have AR1 := Lib.hid ((AC1.out.later acc2.ext).since HB3.out)
      have AR2 := Lib.hid (acc2.since (ext_trans HB3.out AC1.out.ext))
      have HAP := Lib.hid (show Apart p1 p2 from fun x y hx hy => by have h1 := AC1.out.lt x hx; have h2 := (acc2.own.lt y.block (by rw [ownBlock_slice, hy]; rfl)).1; omega)
      have AR2X := Lib.hid acc2.ext
      clear hok2 acc2 k6 k7 kA
      cases ok1
      · have HO := Lib.hid (show partV us zs N = ([], [], false) by rw [HP.out, ← HOK1.out, ← HOK2.out]; rfl)
        go_wp2_with fail
        have k6 := K65.out
        have k7 := K75.out
        have ag := AR2.out.ext
        have ag := ext_set ag (p := ⟨w.heap.size + 1, 0, none⟩) (by dsimp only; omega) (.slice none 0 0)
        have k6 := k6.set_ 0 (.slice none 0 0)
        have k7 := k7.far (p := ⟨w.heap.size + 1, 0, none⟩) (by dsimp only; omega) (.slice none 0 0)
        have ag := ext_set ag (p := ⟨w.heap.size + 1 + 1, 0, none⟩) (by dsimp only; omega) (.slice none 0 0)
        have k7 := k7.set_ 0 (.slice none 0 0)
        have k6 := k6.far (p := ⟨w.heap.size + 1 + 1, 0, none⟩) (by dsimp only; omega) (.slice none 0 0)
        simp only [List.setIfInBounds_toArray, List.set_cons_zero] at k6 k7
        have k6 := k6.alloc (Obj.cells #[.slice p2 m2 k2] 28)
        have k7 := k7.alloc (Obj.cells #[.slice p2 m2 k2] 28)
        have ag := ext_alloc ag (Obj.cells #[.slice p2 m2 k2] 28)
        generalize ((w5.setCell ⟨w.heap.size + 1, 0, none⟩ (.slice none 0 0)).setCell ⟨w.heap.size + 1 + 1, 0, none⟩ (.slice none 0 0)).alloc (Obj.cells #[.slice p2 m2 k2] 28) = WZ at k6 k7 ag ⊢
        have r0 := k6.cell 0
        have r1 := k7.cell 0
        simp only [List.getElem?_toArray, List.getElem?_cons_zero] at r0 r1
        refine bodyPost_ret (v := .tuple #[.agg #[.slice none 0 0], .agg #[.slice none 0 0], .bool false]) (by simp [results, Try.results10, go_sem, r0, r1]) rfl ?_
        exact ⟨none, 0, 0, none, 0, 0, by rw [HO.out], by rw [HO.out]; exact ⟨Acc.nil ag, Acc.nil ag, Apart.none_ _⟩⟩
      · cases ok2
        · have HO := Lib.hid (show partV us zs N = ([], [], false) by rw [HP.out, ← HOK1.out, ← HOK2.out]; rfl)
          go_wp2_with fail
          have k6 := K65.out
          have k7 := K75.out
          have ag := AR2.out.ext
          have ag := ext_set ag (p := ⟨w.heap.size + 1, 0, none⟩) (by dsimp only; omega) (.slice none 0 0)
          have k6 := k6.set_ 0 (.slice none 0 0)
          have k7 := k7.far (p := ⟨w.heap.size + 1, 0, none⟩) (by dsimp only; omega) (.slice none 0 0)
          have ag := ext_set ag (p := ⟨w.heap.size + 1 + 1, 0, none⟩) (by dsimp only; omega) (.slice none 0 0)
          have k7 := k7.set_ 0 (.slice none 0 0)
          have k6 := k6.far (p := ⟨w.heap.size + 1 + 1, 0, none⟩) (by dsimp only; omega) (.slice none 0 0)
          simp only [List.setIfInBounds_toArray, List.set_cons_zero] at k6 k7
          have k6 := k6.alloc (Obj.cells #[.slice p2 m2 k2] 28)
          have k7 := k7.alloc (Obj.cells #[.slice p2 m2 k2] 28)
          have ag := ext_alloc ag (Obj.cells #[.slice p2 m2 k2] 28)
          generalize ((w5.setCell ⟨w.heap.size + 1, 0, none⟩ (.slice none 0 0)).setCell ⟨w.heap.size + 1 + 1, 0, none⟩ (.slice none 0 0)).alloc (Obj.cells #[.slice p2 m2 k2] 28) = WZ at k6 k7 ag ⊢
          have r0 := k6.cell 0
          have r1 := k7.cell 0
          simp only [List.getElem?_toArray, List.getElem?_cons_zero] at r0 r1
          refine bodyPost_ret (v := .tuple #[.agg #[.slice none 0 0], .agg #[.slice none 0 0], .bool false]) (by simp [results, Try.results10, go_sem, r0, r1]) rfl ?_
          exact ⟨none, 0, 0, none, 0, 0, by rw [HO.out], by rw [HO.out]; exact ⟨Acc.nil ag, Acc.nil ag, Apart.none_ _⟩⟩
        · have HO := Lib.hid (show partV us zs N = (propL us (V / N), propL us (V % N), true) by rw [HP.out, ← HOK1.out, ← HOK2.out]; rfl)
          have a1 := AR1.out
          have a2 := AR2.out
          rw [HVV.out, ← HOK1.out, if_pos rfl] at a1
          rw [HVV.out, ← HOK2.out, if_pos rfl] at a2
          have a1 := a1.alloc (Obj.cells #[.slice p2 m2 k2] 28)
          have a2 := a2.alloc (Obj.cells #[.slice p2 m2 k2] 28)
          have kB := Blk.new w5 28 #[.slice p2 m2 k2]
          have k6 := K65.out.alloc (Obj.cells #[.slice p2 m2 k2] 28)
          have k7 := K75.out.alloc (Obj.cells #[.slice p2 m2 k2] 28)
          have kA := (KA.out.below AR2X.out KA.out.lt).alloc (Obj.cells #[.slice p2 m2 k2] 28)
          generalize hw5a : w5.alloc (Obj.cells #[.slice p2 m2 k2] 28) = w5a at a1 a2 kB k6 k7 kA
          have HW5 := Lib.hid hw5a
          have A1 := Lib.hid a1
          have A2 := Lib.hid a2
          have K6F := Lib.hid k6
          have K7F := Lib.hid k7
          have e0 := kA.cell 0
          have e1 := kB.cell 0
          have e6 := k6.cell 0
          have e7 := k7.cell 0
          have g6 := k6.frozen 0
          have g7 := k7.frozen 0
          simp only [List.getElem?_toArray, List.getElem?_cons_zero] at e0 e1 e6 e7
          clear a1 a2 kB k6 k7 kA hw5a
          go_wp2_with fail
          rw [HW5.out]
          go_region
          all_goals go_wp2_with fail
          all_goals
            have k6 := K6F.out
            have k7 := K7F.out
            have a1 := A1.out
            have a2 := A2.out
            have ag := A2.out.ext
            first
            | (
              have a1 := a1.setOther k6 (by decide) (by omega) 0 (.slice p1 m1 k1)
              have a2 := a2.setOther k6 (by decide) (by omega) 0 (.slice p1 m1 k1)
              have ag := ext_set ag (p := ⟨w.heap.size + 1, 0, none⟩) (by dsimp only; omega) (.slice p1 m1 k1)
              have k6 := k6.set_ 0 (.slice p1 m1 k1)
              have k7 := k7.far (p := ⟨w.heap.size + 1, 0, none⟩) (by dsimp only; omega) (.slice p1 m1 k1)
              have a1 := a1.setOther k7 (by decide) (by omega) 0 (.slice p2 m2 k2)
              have a2 := a2.setOther k7 (by decide) (by omega) 0 (.slice p2 m2 k2)
              have ag := ext_set ag (p := ⟨w.heap.size + 1 + 1, 0, none⟩) (by dsimp only; omega) (.slice p2 m2 k2)
              have k7 := k7.set_ 0 (.slice p2 m2 k2)
              have k6 := k6.far (p := ⟨w.heap.size + 1 + 1, 0, none⟩) (by dsimp only; omega) (.slice p2 m2 k2)
              simp only [List.setIfInBounds_toArray, List.set_cons_zero] at k6 k7
              generalize (w5a.setCell ⟨w.heap.size + 1, 0, none⟩ (.slice p1 m1 k1)).setCell ⟨w.heap.size + 1 + 1, 0, none⟩ (.slice p2 m2 k2) = WZ at k6 k7 ag a1 a2 ⊢
              have r0 := k6.cell 0
              have r1 := k7.cell 0
              simp only [List.getElem?_toArray, List.getElem?_cons_zero] at r0 r1
              refine bodyPost_ret (v := .tuple #[.agg #[.slice p1 m1 k1], .agg #[.slice p2 m2 k2], .bool true]) (by simp [results, Try.results10, go_sem, r0, r1]) rfl ?_
              exact ⟨p1, m1, k1, p2, m2, k2, by rw [HO.out], by rw [HO.out]; exact ⟨a1.drew, a2.drew, HAP.out⟩⟩)
            | (
              have a1 := a1.setOther k7 (by decide) (by omega) 0 (.slice p2 m2 k2)
              have a2 := a2.setOther k7 (by decide) (by omega) 0 (.slice p2 m2 k2)
              have ag := ext_set ag (p := ⟨w.heap.size + 1 + 1, 0, none⟩) (by dsimp only; omega) (.slice p2 m2 k2)
              have k7 := k7.set_ 0 (.slice p2 m2 k2)
              have k6 := k6.far (p := ⟨w.heap.size + 1 + 1, 0, none⟩) (by dsimp only; omega) (.slice p2 m2 k2)
              have a1 := a1.setOther k6 (by decide) (by omega) 0 (.slice p1 m1 k1)
              have a2 := a2.setOther k6 (by decide) (by omega) 0 (.slice p1 m1 k1)
              have ag := ext_set ag (p := ⟨w.heap.size + 1, 0, none⟩) (by dsimp only; omega) (.slice p1 m1 k1)
              have k6 := k6.set_ 0 (.slice p1 m1 k1)
              have k7 := k7.far (p := ⟨w.heap.size + 1, 0, none⟩) (by dsimp only; omega) (.slice p1 m1 k1)
              simp only [List.setIfInBounds_toArray, List.set_cons_zero] at k6 k7
              generalize (w5a.setCell ⟨w.heap.size + 1 + 1, 0, none⟩ (.slice p2 m2 k2)).setCell ⟨w.heap.size + 1, 0, none⟩ (.slice p1 m1 k1) = WZ at k6 k7 ag a1 a2 ⊢
              have r0 := k6.cell 0
              have r1 := k7.cell 0
              simp only [List.getElem?_toArray, List.getElem?_cons_zero] at r0 r1
              refine bodyPost_ret (v := .tuple #[.agg #[.slice p1 m1 k1], .agg #[.slice p2 m2 k2], .bool true]) (by simp [results, Try.results10, go_sem, r0, r1]) rfl ?_
              exact ⟨p1, m1, k1, p2, m2, k2, by rw [HO.out], by rw [HO.out]; exact ⟨a1.drew, a2.drew, HAP.out⟩⟩)
set_option maxRecDepth 100000 in
set_option maxHeartbeats 8000000 in
theorem sPartOf_any (A : Option Addr) (n c B : Nat) (us : List Unt) (D : Option Addr) (m k B2 : Nat) (zs : List Int) (N : Int) (w : World) (h : Reads w B 2 A n (untF us)) (hB : B ≤ w.heap.size) (hn : n ≤ 1048576) (hnm : ∀ x ∈ us, x.nm.size ≤ 1048576)
    (h2 : Reads w B2 1 D m (zs.map (Value.int .i64))) (hB2 : B2 ≤ w.heap.size) (hm : m ≤ 1048576) :
    Calls Try.prog 7 #[.slice A n c, .agg #[.slice D m k], .int .i64 N] w fun e w' => ∃ (a1 : Option Addr) (m1 k1 : Nat) (a2 : Option Addr) (m2 k2 : Nat), e = .returned (.tuple #[.agg #[.slice a1 m1 k1], .agg #[.slice a2 m2 k2], .bool (partV us zs N).2.2]) ∧ AccP w w' 3 1 a1 m1 k1 (partV us zs N).1 a2 m2 k2 (partV us zs N).2.1 := by
  have hl := h.untLen
  have hl2 := h2.len
  have hb := ext_alloc (ext_alloc (ext_alloc (Below.refl w.heap.size w) (.cells #[.slice D m k] 28)) (.cells #[.slice none 0 0] 28)) (.cells #[.slice none 0 0] 28)
  have hk4 := ((Blk.new w 28 #[.slice D m k]).alloc (.cells #[.slice none 0 0] 28)).alloc (.cells #[.slice none 0 0] 28)
  have hk6 := (Blk.new (w.alloc (.cells #[.slice D m k] 28)) 28 #[.slice none 0 0]).alloc (.cells #[.slice none 0 0] 28)
  have hk7 := Blk.new ((w.alloc (.cells #[.slice D m k] 28)).alloc (.cells #[.slice none 0 0] 28)) 28 #[.slice none 0 0]
  rw [show (w.alloc (.cells #[.slice D m k] 28)).heap.size = w.heap.size + 1 by simp] at hk6
  rw [show ((w.alloc (.cells #[.slice D m k] 28)).alloc (.cells #[.slice none 0 0] 28)).heap.size = w.heap.size + 1 + 1 by simp] at hk7
  generalize hw1 : ((w.alloc (.cells #[.slice D m k] 28)).alloc (.cells #[.slice none 0 0] 28)).alloc (.cells #[.slice none 0 0] 28) = w1 at hb hk4 hk6 hk7
  have HB := Lib.hid hb
  have K4 := Lib.hid hk4
  have K6 := Lib.hid hk6
  have K7 := Lib.hid hk7
  have HW := Lib.hid hw1
  have R1 := Lib.hid (h.below (hb.mono hB))
  have R2 := Lib.hid (h2.below (hb.mono hB2))
  have Z1 := Lib.hid (Nat.le_trans hB hb.size)
  have Z2 := Lib.hid (Nat.le_trans hB2 hb.size)
  have HQ := Lib.hid (l7Amount_any A n c B us D m k B2 zs w1 R1.out Z1.out hn hnm R2.out Z2.out hm)
  have x0 := hk4.cell 0
  simp only [List.getElem?_toArray, List.getElem?_cons_zero] at x0
  clear h h2 hb hk4 hk6 hk7 hw1
  cases ha : amtB us zs
  · have HO := Lib.hid (show partV us zs N = ([], [], false) by unfold partV; rw [ha]; rfl)
    rw [ha] at HQ
    go_enter Try.func7, Try.ntmps7
    go_wp2_with fail
    rw [HW.out]
    refine HQ.out.mono ?_
    rintro e w2 ⟨rfl, hb2⟩
    have k6 := K6.out.below hb2 K6.out.lt
    have k7 := K7.out.below hb2 K7.out.lt
    have ag := ext_trans HB.out hb2
    have ca6 := k6.cell 0
    have fa6 := k6.frozen 0
    have ca7 := k7.cell 0
    have fa7 := k7.frozen 0
    simp only [List.getElem?_toArray, List.getElem?_cons_zero] at ca6 ca7
    have K6X := Lib.hid k6
    have K7X := Lib.hid k7
    have AGX := Lib.hid ag
    clear k6 k7 ag hb2
    go_wp2_with fail
    have k6 := K6X.out
    have k7 := K7X.out
    have ag := AGX.out
    have ag := ext_set ag (p := ⟨w.heap.size + 1, 0, none⟩) (by dsimp only; omega) (.slice none 0 0)
    have k6 := k6.set_ 0 (.slice none 0 0)
    have k7 := k7.far (p := ⟨w.heap.size + 1, 0, none⟩) (by dsimp only; omega) (.slice none 0 0)
    have ag := ext_set ag (p := ⟨w.heap.size + 1 + 1, 0, none⟩) (by dsimp only; omega) (.slice none 0 0)
    have k7 := k7.set_ 0 (.slice none 0 0)
    have k6 := k6.far (p := ⟨w.heap.size + 1 + 1, 0, none⟩) (by dsimp only; omega) (.slice none 0 0)
    simp only [List.setIfInBounds_toArray, List.set_cons_zero] at k6 k7
    generalize (w2.setCell ⟨w.heap.size + 1, 0, none⟩ (.slice none 0 0)).setCell ⟨w.heap.size + 1 + 1, 0, none⟩ (.slice none 0 0) = WZ at k6 k7 ag ⊢
    have r0 := k6.cell 0
    have r1 := k7.cell 0
    simp only [List.getElem?_toArray, List.getElem?_cons_zero] at r0 r1
    refine bodyPost_ret (v := .tuple #[.agg #[.slice none 0 0], .agg #[.slice none 0 0], .bool false]) (by simp [results, Try.results7, go_sem, r0, r1]) rfl ?_
    exact ⟨none, 0, 0, none, 0, 0, by rw [HO.out], by rw [HO.out]; exact ⟨Acc.nil ag, Acc.nil ag, Apart.none_ _⟩⟩
  · rw [ha] at HQ
    have hs : sysB us = true := by unfold amtB at ha; simp only [Bool.and_eq_true] at ha; exact ha.1
    have hi := amt_in ha
    have hmn : n = m := by have := hi.len; omega
    subst hmn
    cases hin : inB N 1 1000
    · have HO := Lib.hid (show partV us zs N = ([], [], false) by unfold partV; rw [ha, hin]; rfl)
      go_enter Try.func7, Try.ntmps7
      go_wp2_with fail
      rw [HW.out]
      refine HQ.out.mono ?_
      rintro e w2 ⟨rfl, hb2⟩
      have k6 := K6.out.below hb2 K6.out.lt
      have k7 := K7.out.below hb2 K7.out.lt
      have ag := ext_trans HB.out hb2
      have ca6 := k6.cell 0
      have fa6 := k6.frozen 0
      have ca7 := k7.cell 0
      have fa7 := k7.frozen 0
      simp only [List.getElem?_toArray, List.getElem?_cons_zero] at ca6 ca7
      have K6X := Lib.hid k6
      have K7X := Lib.hid k7
      have AGX := Lib.hid ag
      have HIN := Lib.hid hin
      clear k6 k7 ag hb2 hin
      go_wp2_with (go_at_call 38; refine (l1In_any _ _ _ _).mono ?_; rintro e w' ⟨rfl, rfl⟩; rw [HIN.out])
      have k6 := K6X.out
      have k7 := K7X.out
      have ag := AGX.out
      have ag := ext_set ag (p := ⟨w.heap.size + 1, 0, none⟩) (by dsimp only; omega) (.slice none 0 0)
      have k6 := k6.set_ 0 (.slice none 0 0)
      have k7 := k7.far (p := ⟨w.heap.size + 1, 0, none⟩) (by dsimp only; omega) (.slice none 0 0)
      have ag := ext_set ag (p := ⟨w.heap.size + 1 + 1, 0, none⟩) (by dsimp only; omega) (.slice none 0 0)
      have k7 := k7.set_ 0 (.slice none 0 0)
      have k6 := k6.far (p := ⟨w.heap.size + 1 + 1, 0, none⟩) (by dsimp only; omega) (.slice none 0 0)
      simp only [List.setIfInBounds_toArray, List.set_cons_zero] at k6 k7
      generalize (w2.setCell ⟨w.heap.size + 1, 0, none⟩ (.slice none 0 0)).setCell ⟨w.heap.size + 1 + 1, 0, none⟩ (.slice none 0 0) = WZ at k6 k7 ag ⊢
      have r0 := k6.cell 0
      have r1 := k7.cell 0
      simp only [List.getElem?_toArray, List.getElem?_cons_zero] at r0 r1
      refine bodyPost_ret (v := .tuple #[.agg #[.slice none 0 0], .agg #[.slice none 0 0], .bool false]) (by simp [results, Try.results7, go_sem, r0, r1]) rfl ?_
      exact ⟨none, 0, 0, none, 0, 0, by rw [HO.out], by rw [HO.out]; exact ⟨Acc.nil ag, Acc.nil ag, Apart.none_ _⟩⟩
    · obtain ⟨n0, n1⟩ := inB_true hin
      have hvb := valR_bd us zs hi.sz hi.ct hi.few
      have hvb2 := (bnd_le hi.few).2
      have hqu := wquo (x := valR us zs) (y := N) hvb.1 (by omega) n0
      have hrm := wrem (x := valR us zs) (y := N) hvb.1
      have hz0 : ¬ N = 0 := by omega
      have hv0 : 0 ≤ valR us zs := hvb.1
      have hv1 : valR us zs ≤ 9223372036854775807 := by omega
      have hd1 : valR us zs / N ≤ 9223372036854775807 := Int.le_trans (Int.ediv_le_self N hv0) hv1
      have hd2 : valR us zs % N ≤ 9223372036854775807 := by have := Int.emod_lt_of_pos (valR us zs) (show 0 < N by omega); omega
      have HP := Lib.hid (show partV us zs N = (if (propOk us (valR us zs / N) && propOk us (valR us zs % N)) = true then (propL us (valR us zs / N), propL us (valR us zs % N), true) else ([], [], false)) by unfold partV; rw [ha, hin]; rfl)
      have HI := Lib.hid hi
      have HS := Lib.hid hs
      have HVV := Lib.hid (fun v => show propV us v = if propOk us v = true then propL us v else [] from rfl)
      clear hvb hvb2
      go_enter Try.func7, Try.ntmps7
      go_wp2_with fail
      rw [HW.out]
      refine HQ.out.mono ?_
      rintro e w2 ⟨rfl, hb2⟩
      have K62 := Lib.hid (K6.out.below hb2 K6.out.lt)
      have K72 := Lib.hid (K7.out.below hb2 K7.out.lt)
      have k42 := K4.out.below hb2 K4.out.lt
      have y0 := k42.cell 0
      simp only [List.getElem?_toArray, List.getElem?_cons_zero] at y0
      have R12 := Lib.hid (R1.out.below (hb2.mono Z1.out))
      have R22 := Lib.hid (R2.out.below (hb2.mono Z2.out))
      have Z12 := Lib.hid (Nat.le_trans Z1.out hb2.size)
      have Z22 := Lib.hid (Nat.le_trans Z2.out hb2.size)
      have HB2 := Lib.hid (ext_trans HB.out hb2)
      have HIN := Lib.hid hin
      clear x0 hb2 k42 hin hi hs ha
      go_wp2_with (go_at_call 38; refine (l1In_any _ _ _ _).mono ?_; rintro e w' ⟨rfl, rfl⟩; rw [HIN.out])
      refine (l7Value_any A n c B us D k B2 zs w2 R12.out Z12.out R22.out Z22.out HI.out).mono ?_
      rintro e w3 ⟨rfl, hb3⟩
      have K63 := Lib.hid (K62.out.below hb3 K62.out.lt)
      have K73 := Lib.hid (K72.out.below hb3 K72.out.lt)
      have R13 := Lib.hid (R12.out.below (hb3.mono Z12.out))
      have Z13 := Lib.hid (Nat.le_trans Z12.out hb3.size)
      have HB3 := Lib.hid (ext_trans HB2.out hb3)
      generalize valR us zs = V at *
      clear y0 hb3
      go_wp2_with fail
      refine (l7Proper_any A n c B us (V / N) w3 R13.out Z13.out HS.out hd1).mono ?_
      rintro e w4 ⟨p1, m1, k1, rfl, acc1⟩
      obtain ⟨ok1, hok1⟩ : ∃ b, b = propOk us (V / N) := ⟨_, rfl⟩
      rw [← hok1]
      have HOK1 := Lib.hid hok1
      have hb4 := ext_alloc acc1.ext (.cells #[.slice p1 m1 k1] 28)
      have acc1a := acc1.alloc (.cells #[.slice p1 m1 k1] 28)
      have kA := Blk.new w4 28 #[.slice p1 m1 k1]
      generalize hw4a : w4.alloc (.cells #[.slice p1 m1 k1] 28) = w4a at hb4 acc1a kA
      have HW4 := Lib.hid hw4a
      have AC1 := Lib.hid acc1a
      have KA := Lib.hid kA
      have K64 := Lib.hid (K63.out.below hb4 K63.out.lt)
      have K74 := Lib.hid (K73.out.below hb4 K73.out.lt)
      have R14 := Lib.hid (R13.out.below (hb4.mono Z13.out))
      have Z14 := Lib.hid (Nat.le_trans Z13.out hb4.size)
      clear hok1 acc1 acc1a hb4 kA hw4a
      go_wp2_with fail
      rw [HW4.out]
      refine (l7Proper_any A n c B us (V % N) w4a R14.out Z14.out HS.out hd2).mono ?_
      rintro e w5 ⟨p2, m2, k2, rfl, acc2⟩
      obtain ⟨ok2, hok2⟩ : ∃ b, b = propOk us (V % N) := ⟨_, rfl⟩
      rw [← hok2]
      have HOK2 := Lib.hid hok2
      have k6 := K64.out.below acc2.ext K64.out.lt
      have k7 := K74.out.below acc2.ext K74.out.lt
      have kA := KA.out.below acc2.ext KA.out.lt
      have hlA := kA.lt
      have hl6 := k6.lt
      have hl7 := k7.lt
      have cA := kA.cell 0
      have ca6 := k6.cell 0
      have fa6 := k6.frozen 0
      have ca7 := k7.cell 0
      have fa7 := k7.frozen 0
      simp only [List.getElem?_toArray, List.getElem?_cons_zero] at ca6 ca7
      simp only [List.getElem?_toArray, List.getElem?_cons_zero] at cA
      have K65 := Lib.hid k6
      have K75 := Lib.hid k7
      have AR1 := Lib.hid ((AC1.out.later acc2.ext).since HB3.out)
      have AR2 := Lib.hid (acc2.since (ext_trans HB3.out AC1.out.ext))
      have HAP := Lib.hid (show Apart p1 p2 from fun x y hx hy => by have h1 := AC1.out.lt x hx; have h2 := (acc2.own.lt y.block (by rw [ownBlock_slice, hy]; rfl)).1; omega)
      have AR2X := Lib.hid acc2.ext
      clear hok2 acc2 k6 k7 kA
      cases ok1
      · have HO := Lib.hid (show partV us zs N = ([], [], false) by rw [HP.out, ← HOK1.out, ← HOK2.out]; rfl)
        go_wp2_with fail
        have k6 := K65.out
        have k7 := K75.out
        have ag := AR2.out.ext
        have ag := ext_set ag (p := ⟨w.heap.size + 1, 0, none⟩) (by dsimp only; omega) (.slice none 0 0)
        have k6 := k6.set_ 0 (.slice none 0 0)
        have k7 := k7.far (p := ⟨w.heap.size + 1, 0, none⟩) (by dsimp only; omega) (.slice none 0 0)
        have ag := ext_set ag (p := ⟨w.heap.size + 1 + 1, 0, none⟩) (by dsimp only; omega) (.slice none 0 0)
        have k7 := k7.set_ 0 (.slice none 0 0)
        have k6 := k6.far (p := ⟨w.heap.size + 1 + 1, 0, none⟩) (by dsimp only; omega) (.slice none 0 0)
        simp only [List.setIfInBounds_toArray, List.set_cons_zero] at k6 k7
        have k6 := k6.alloc (Obj.cells #[.slice p2 m2 k2] 28)
        have k7 := k7.alloc (Obj.cells #[.slice p2 m2 k2] 28)
        have ag := ext_alloc ag (Obj.cells #[.slice p2 m2 k2] 28)
        generalize ((w5.setCell ⟨w.heap.size + 1, 0, none⟩ (.slice none 0 0)).setCell ⟨w.heap.size + 1 + 1, 0, none⟩ (.slice none 0 0)).alloc (Obj.cells #[.slice p2 m2 k2] 28) = WZ at k6 k7 ag ⊢
        have r0 := k6.cell 0
        have r1 := k7.cell 0
        simp only [List.getElem?_toArray, List.getElem?_cons_zero] at r0 r1
        refine bodyPost_ret (v := .tuple #[.agg #[.slice none 0 0], .agg #[.slice none 0 0], .bool false]) (by simp [results, Try.results7, go_sem, r0, r1]) rfl ?_
        exact ⟨none, 0, 0, none, 0, 0, by rw [HO.out], by rw [HO.out]; exact ⟨Acc.nil ag, Acc.nil ag, Apart.none_ _⟩⟩
      · cases ok2
        · have HO := Lib.hid (show partV us zs N = ([], [], false) by rw [HP.out, ← HOK1.out, ← HOK2.out]; rfl)
          go_wp2_with fail
          have k6 := K65.out
          have k7 := K75.out
          have ag := AR2.out.ext
          have ag := ext_set ag (p := ⟨w.heap.size + 1, 0, none⟩) (by dsimp only; omega) (.slice none 0 0)
          have k6 := k6.set_ 0 (.slice none 0 0)
          have k7 := k7.far (p := ⟨w.heap.size + 1, 0, none⟩) (by dsimp only; omega) (.slice none 0 0)
          have ag := ext_set ag (p := ⟨w.heap.size + 1 + 1, 0, none⟩) (by dsimp only; omega) (.slice none 0 0)
          have k7 := k7.set_ 0 (.slice none 0 0)
          have k6 := k6.far (p := ⟨w.heap.size + 1 + 1, 0, none⟩) (by dsimp only; omega) (.slice none 0 0)
          simp only [List.setIfInBounds_toArray, List.set_cons_zero] at k6 k7
          have k6 := k6.alloc (Obj.cells #[.slice p2 m2 k2] 28)
          have k7 := k7.alloc (Obj.cells #[.slice p2 m2 k2] 28)
          have ag := ext_alloc ag (Obj.cells #[.slice p2 m2 k2] 28)
          generalize ((w5.setCell ⟨w.heap.size + 1, 0, none⟩ (.slice none 0 0)).setCell ⟨w.heap.size + 1 + 1, 0, none⟩ (.slice none 0 0)).alloc (Obj.cells #[.slice p2 m2 k2] 28) = WZ at k6 k7 ag ⊢
          have r0 := k6.cell 0
          have r1 := k7.cell 0
          simp only [List.getElem?_toArray, List.getElem?_cons_zero] at r0 r1
          refine bodyPost_ret (v := .tuple #[.agg #[.slice none 0 0], .agg #[.slice none 0 0], .bool false]) (by simp [results, Try.results7, go_sem, r0, r1]) rfl ?_
          exact ⟨none, 0, 0, none, 0, 0, by rw [HO.out], by rw [HO.out]; exact ⟨Acc.nil ag, Acc.nil ag, Apart.none_ _⟩⟩
        · have HO := Lib.hid (show partV us zs N = (propL us (V / N), propL us (V % N), true) by rw [HP.out, ← HOK1.out, ← HOK2.out]; rfl)
          have a1 := AR1.out
          have a2 := AR2.out
          rw [HVV.out, ← HOK1.out, if_pos rfl] at a1
          rw [HVV.out, ← HOK2.out, if_pos rfl] at a2
          have a1 := a1.alloc (Obj.cells #[.slice p2 m2 k2] 28)
          have a2 := a2.alloc (Obj.cells #[.slice p2 m2 k2] 28)
          have kB := Blk.new w5 28 #[.slice p2 m2 k2]
          have k6 := K65.out.alloc (Obj.cells #[.slice p2 m2 k2] 28)
          have k7 := K75.out.alloc (Obj.cells #[.slice p2 m2 k2] 28)
          have kA := (KA.out.below AR2X.out KA.out.lt).alloc (Obj.cells #[.slice p2 m2 k2] 28)
          generalize hw5a : w5.alloc (Obj.cells #[.slice p2 m2 k2] 28) = w5a at a1 a2 kB k6 k7 kA
          have HW5 := Lib.hid hw5a
          have A1 := Lib.hid a1
          have A2 := Lib.hid a2
          have K6F := Lib.hid k6
          have K7F := Lib.hid k7
          have e0 := kA.cell 0
          have e1 := kB.cell 0
          have e6 := k6.cell 0
          have e7 := k7.cell 0
          have g6 := k6.frozen 0
          have g7 := k7.frozen 0
          simp only [List.getElem?_toArray, List.getElem?_cons_zero] at e0 e1 e6 e7
          clear a1 a2 kB k6 k7 kA hw5a
          go_wp2_with fail
          rw [HW5.out]
          go_region
          all_goals go_wp2_with fail
          all_goals
            have k6 := K6F.out
            have k7 := K7F.out
            have a1 := A1.out
            have a2 := A2.out
            have ag := A2.out.ext
            first
            | (
              have a1 := a1.setOther k6 (by decide) (by omega) 0 (.slice p1 m1 k1)
              have a2 := a2.setOther k6 (by decide) (by omega) 0 (.slice p1 m1 k1)
              have ag := ext_set ag (p := ⟨w.heap.size + 1, 0, none⟩) (by dsimp only; omega) (.slice p1 m1 k1)
              have k6 := k6.set_ 0 (.slice p1 m1 k1)
              have k7 := k7.far (p := ⟨w.heap.size + 1, 0, none⟩) (by dsimp only; omega) (.slice p1 m1 k1)
              have a1 := a1.setOther k7 (by decide) (by omega) 0 (.slice p2 m2 k2)
              have a2 := a2.setOther k7 (by decide) (by omega) 0 (.slice p2 m2 k2)
              have ag := ext_set ag (p := ⟨w.heap.size + 1 + 1, 0, none⟩) (by dsimp only; omega) (.slice p2 m2 k2)
              have k7 := k7.set_ 0 (.slice p2 m2 k2)
              have k6 := k6.far (p := ⟨w.heap.size + 1 + 1, 0, none⟩) (by dsimp only; omega) (.slice p2 m2 k2)
              simp only [List.setIfInBounds_toArray, List.set_cons_zero] at k6 k7
              generalize (w5a.setCell ⟨w.heap.size + 1, 0, none⟩ (.slice p1 m1 k1)).setCell ⟨w.heap.size + 1 + 1, 0, none⟩ (.slice p2 m2 k2) = WZ at k6 k7 ag a1 a2 ⊢
              have r0 := k6.cell 0
              have r1 := k7.cell 0
              simp only [List.getElem?_toArray, List.getElem?_cons_zero] at r0 r1
              refine bodyPost_ret (v := .tuple #[.agg #[.slice p1 m1 k1], .agg #[.slice p2 m2 k2], .bool true]) (by simp [results, Try.results7, go_sem, r0, r1]) rfl ?_
              exact ⟨p1, m1, k1, p2, m2, k2, by rw [HO.out], by rw [HO.out]; exact ⟨a1.drew, a2.drew, HAP.out⟩⟩)
            | (
              have a1 := a1.setOther k7 (by decide) (by omega) 0 (.slice p2 m2 k2)
              have a2 := a2.setOther k7 (by decide) (by omega) 0 (.slice p2 m2 k2)
              have ag := ext_set ag (p := ⟨w.heap.size + 1 + 1, 0, none⟩) (by dsimp only; omega) (.slice p2 m2 k2)
              have k7 := k7.set_ 0 (.slice p2 m2 k2)
              have k6 := k6.far (p := ⟨w.heap.size + 1 + 1, 0, none⟩) (by dsimp only; omega) (.slice p2 m2 k2)
              have a1 := a1.setOther k6 (by decide) (by omega) 0 (.slice p1 m1 k1)
              have a2 := a2.setOther k6 (by decide) (by omega) 0 (.slice p1 m1 k1)
              have ag := ext_set ag (p := ⟨w.heap.size + 1, 0, none⟩) (by dsimp only; omega) (.slice p1 m1 k1)
              have k6 := k6.set_ 0 (.slice p1 m1 k1)
              have k7 := k7.far (p := ⟨w.heap.size + 1, 0, none⟩) (by dsimp only; omega) (.slice p1 m1 k1)
              simp only [List.setIfInBounds_toArray, List.set_cons_zero] at k6 k7
              generalize (w5a.setCell ⟨w.heap.size + 1 + 1, 0, none⟩ (.slice p2 m2 k2)).setCell ⟨w.heap.size + 1, 0, none⟩ (.slice p1 m1 k1) = WZ at k6 k7 ag a1 a2 ⊢
              have r0 := k6.cell 0
              have r1 := k7.cell 0
              simp only [List.getElem?_toArray, List.getElem?_cons_zero] at r0 r1
              refine bodyPost_ret (v := .tuple #[.agg #[.slice p1 m1 k1], .agg #[.slice p2 m2 k2], .bool true]) (by simp [results, Try.results7, go_sem, r0, r1]) rfl ?_
              exact ⟨p1, m1, k1, p2, m2, k2, by rw [HO.out], by rw [HO.out]; exact ⟨a1.drew, a2.drew, HAP.out⟩⟩)
end Go.Proofs.Ythigfbhkdegfkaa
