/- The proper amount with a value: the reference's walk. No condition. -/
import Derived.Test.YthigfbhkdegfkaaPrw
namespace Go.Proofs.Ythigfbhkdegfkaa
open Go.RowKit

set_option maxRecDepth 100000 in
set_option maxHeartbeats 8000000 in
theorem l7Proper_any (A : Option Addr) (n c B : Nat) (us : List Unt) (v : Int) (w : World) (h : Reads w B 2 A n (untF us)) (hB : B ≤ w.heap.size) (hs : sysB us = true) (hv : v ≤ 9223372036854775807) :
    Calls Try.prog 40 #[.slice A n c, .int .i64 v] w fun e w' => ∃ (a : Option Addr) (m k : Nat), e = .returned (.tuple #[.agg #[.slice a m k], .bool (propOk us v)]) ∧ Acc w w' 3 1 a m k (propV us v) := by
  have hl := h.untLen
  obtain ⟨⟨l1, l6⟩, _⟩ := sysB_to hs
  have hsz := sys_sz hs
  by_cases hv0 : v < 0
  · have HO := Lib.hid (show propOk us v = false by unfold propOk; simp; omega)
    have HV := Lib.hid (show propV us v = [] by unfold propV; rw [HO.out]; rfl)
    have hk := Blk.new w 28 #[.slice none 0 0]
    have hb := ext_alloc (Below.refl w.heap.size w) (.cells #[.slice none 0 0] 28)
    have f0 := hk.frozen 0
    have x0 := hk.cell 0
    simp only [List.getElem?_toArray, List.getElem?_cons_zero] at x0
    go_enter Try.func40, Try.ntmps40
    go_wp2_with fail
    refine bodyPost_ret (v := .tuple #[.agg #[.slice none 0 0], .bool false]) (by simp [results, Try.results40, go_sem, x0]) rfl ?_
    exact ⟨none, 0, 0, by rw [HO.out], by rw [HV.out]; exact Acc.nil hb⟩
  · have hv1 : 0 ≤ v := by omega
    have hpa := prop_amt hs hv1
    have hnm := fun x hx => Nat.le_trans (sys_nm hs x hx) (show 10 ≤ 1048576 by omega)
    have hb := ext_alloc (ext_alloc (Below.refl w.heap.size w) (.cells #[.slice none 0 0] 28)) (.cells #[.slice none 0 0] 28)
    have hk4 := (Blk.new w 28 #[.slice none 0 0]).alloc (.cells #[.slice none 0 0] 28)
    have hk6 := Blk.new (w.alloc (.cells #[.slice none 0 0] 28)) 28 #[.slice none 0 0]
    rw [show (w.alloc (.cells #[.slice none 0 0] 28)).heap.size = w.heap.size + 1 by simp] at hk6
    generalize hw1 : (w.alloc (.cells #[.slice none 0 0] 28)).alloc (.cells #[.slice none 0 0] 28) = w1 at hb hk4 hk6
    have HB := Lib.hid hb
    have K4 := Lib.hid hk4
    have K6 := Lib.hid hk6
    have HW := Lib.hid hw1
    have H := Lib.hid h
    have HL := Lib.hid hl
    have HSZ := Lib.hid hsz
    have HPA := Lib.hid hpa
    have HNM := Lib.hid hnm
    clear h hb hk4 hk6 hw1 hsz hl hpa hnm
    go_enter Try.func40, Try.ntmps40
    go_wp2_with fail
    rw [HW.out]
    go_loopw [1, 7] (fun q i wr => ∃ (j m k : Nat) (P : Option Addr) (zs : List Int) (z : Int), i = .int .i64 (j : Int) ∧ j ≤ n ∧ q = .int .i64 z ∧ ((j < n ∧ z = quoT us v j ∧ zs = propTo us v j) ∨ (j = n ∧ zs = propL us v)) ∧ Blk wr w.heap.size 28 #[.slice none 0 0] ∧ Blk wr (w.heap.size + 1) 28 #[.slice P m k] ∧ Acc w wr 3 1 P m k zs) (fun _ i _ => n - (intOf i).toNat)
    case atStart => exact ⟨0, 0, 0, none, [], v, rfl, by omega, rfl, .inl ⟨by have := HL.out; omega, rfl, rfl⟩, K4.out, K6.out, Acc.nil HB.out⟩
    case round =>
      obtain ⟨wq, rfl⟩ : ∃ wq : World, wq = wr := ⟨_, rfl⟩
      obtain ⟨j, m, k, P, zs, q, rfl, hj, rfl, hst, h4, h6, hacc⟩ := hrel
      have K4Q := Lib.hid h4
      have K6Q := Lib.hid h6
      have HA := Lib.hid hacc
      have hn6 : n ≤ 6 := by have := HL.out; omega
      have hgl : w.heap.size + 1 < wq.heap.size := h6.lt
      have j0 : (0 : Int) ≤ j := by omega
      have y0 := h6.cell 0
      simp only [List.getElem?_toArray, List.getElem?_cons_zero] at y0
      have hlen := hacc.len
      clear h4 h6 hacc
      rcases hst with ⟨hlt, hq, hz⟩ | ⟨hjn, hz⟩
      · have hm6 : m ≤ 6 := by rw [hz, propTo_len] at hlen; omega
        have hqb := quoT_bd HSZ.out hv1 j
        rw [← hq] at hqb
        have hq0 := hqb.1
        have hq1 : q ≤ 9223372036854775807 := by omega
        have HZ := Lib.hid hz
        have HQ := Lib.hid hq
        have j1 : (j : Int) < n := by omega
        clear hz hq hlen hqb
        by_cases hlast : j + 1 = n
        · have d1 : ¬ (j : Int) + 1 < n := by omega
          have HN := Lib.hid (show zs ++ [q] = propL us v by unfold propL; rw [HZ.out, HQ.out, show us.length - 1 = j by have := HL.out; omega])
          have HLS := Lib.hid hlast
          clear hlast
          go_wp2_with (at_builtin; refine appI_b rfl _ _ rfl rfl (HA.out.alloc _) rfl (reads_newAt _ _ _ 1 [q] _ (by simp) rfl rfl) (by omega) ?_; intro P2 c2 w2 a2 p2; have k6 := (K6Q.out.alloc (.cells #[.int .i64 (q)] 3)).pushed p2 (own_ne_blk (HA.out.alloc (.cells #[.int .i64 (q)] 3)).own (K6Q.out.alloc (.cells #[.int .i64 (q)] 3)) (by decide)); have k4 := (K4Q.out.alloc (.cells #[.int .i64 (q)] 3)).pushed p2 (own_ne_blk (HA.out.alloc (.cells #[.int .i64 (q)] 3)).own (K4Q.out.alloc (.cells #[.int .i64 (q)] 3)) (by decide)); have v6 := k6.cell 0; have g6 := k6.frozen 0; simp only [List.getElem?_toArray, List.getElem?_cons_zero] at v6)
          have ag := a2.setOther k6 (by decide) (by omega) 0 (.slice P2 (m + 1) c2)
          have k6 := k6.set_ 0 (.slice P2 (m + 1) c2)
          have k4 := k4.far (p := ⟨w.heap.size + 1, 0, none⟩) (show w.heap.size ≠ w.heap.size + 1 by omega) (.slice P2 (m + 1) c2)
          simp only [List.setIfInBounds_toArray, List.set_cons_zero] at k6
          have HK4 := Lib.hid k4
          have HK6 := Lib.hid k6
          have HAG := Lib.hid ag
          clear k4 k6 ag v6 g6
          go_wp2_with fail
          go_roundw
          case rel => exact ⟨j + 1, m + 1, c2, P2, _, q, by go_num, by omega, rfl, .inr ⟨HLS.out, HN.out⟩, HK4.out, HK6.out, HAG.out⟩
          case measure => simp [intOf]; omega
        · have d1 : (j : Int) + 1 < n := by omega
          have RQ := Lib.hid (H.out.below (HA.out.ext.mono hB))
          obtain ⟨b, o, x, hAx, hx, hc0, hc1⟩ := RQ.out.unt (show j + 1 < n by omega)
          have hs1 := HSZ.out x (List.mem_of_getElem? hx)
          have hz0 : ¬ x.sz = 0 := by omega
          have e2 := szAt_some hx
          have HN := Lib.hid (show zs ++ [q % x.sz] = propTo us v (j + 1) by rw [propTo_next, e2, HZ.out, HQ.out])
          have HN2 := Lib.hid (show q / x.sz = quoT us v (j + 1) by rw [quoT, e2, HQ.out])
          subst hAx
          clear hx e2
          have hjn : j + 1 < n := by omega
          go_wp2_with (at_builtin; refine appI_b rfl _ _ rfl rfl (HA.out.alloc _) rfl (reads_newAt _ _ _ 1 [q % x.sz] _ (by simp) rfl rfl) (by omega) ?_; intro P2 c2 w2 a2 p2; have k6 := (K6Q.out.alloc (.cells #[.int .i64 (q % x.sz)] 3)).pushed p2 (own_ne_blk (HA.out.alloc (.cells #[.int .i64 (q % x.sz)] 3)).own (K6Q.out.alloc (.cells #[.int .i64 (q % x.sz)] 3)) (by decide)); have k4 := (K4Q.out.alloc (.cells #[.int .i64 (q % x.sz)] 3)).pushed p2 (own_ne_blk (HA.out.alloc (.cells #[.int .i64 (q % x.sz)] 3)).own (K4Q.out.alloc (.cells #[.int .i64 (q % x.sz)] 3)) (by decide)); have v6 := k6.cell 0; have g6 := k6.frozen 0; simp only [List.getElem?_toArray, List.getElem?_cons_zero] at v6)
          have ag := a2.setOther k6 (by decide) (by omega) 0 (.slice P2 (m + 1) c2)
          have k6 := k6.set_ 0 (.slice P2 (m + 1) c2)
          have k4 := k4.far (p := ⟨w.heap.size + 1, 0, none⟩) (show w.heap.size ≠ w.heap.size + 1 by omega) (.slice P2 (m + 1) c2)
          simp only [List.setIfInBounds_toArray, List.set_cons_zero] at k6
          have HK4 := Lib.hid k4
          have HK6 := Lib.hid k6
          have HAG := Lib.hid ag
          clear k4 k6 ag v6 g6
          go_wp2_with fail
          go_roundw
          case rel => exact ⟨j + 1, m + 1, c2, P2, _, q / x.sz, by go_num, by omega, rfl, .inl ⟨hjn, HN2.out, HN.out⟩, HK4.out, HK6.out, HAG.out⟩
          case measure => simp [intOf]; omega
      · have e1 : us.length - 1 = n - 1 := by rw [HL.out]
        have HZ := Lib.hid hz
        have hm6 : m ≤ 6 := by
          rw [hz] at hlen
          unfold propL at hlen
          rw [List.length_append, propTo_len] at hlen
          simp at hlen
          have := HL.out
          omega
        have RQ := Lib.hid (H.out.below (HA.out.ext.mono hB))
        have HQA := Lib.hid (l7Amount_any A n c B us P m k _ zs wq RQ.out (Nat.le_trans hB HA.out.ext.size) (by omega) HNM.out HA.out.reads (Nat.le_refl _) (by omega))
        have hd1 : ¬ (j : Int) < n := by omega
        clear hz hlen e1 hjn
        go_wp2_with fail
        refine HQA.out.mono ?_
        rintro e w5 ⟨rfl, hb5⟩
        have HK4 := Lib.hid (K4Q.out.below hb5 K4Q.out.lt)
        have HK6 := Lib.hid (K6Q.out.below hb5 K6Q.out.lt)
        have HAG := Lib.hid (HA.out.later hb5)
        have u4 := HK4.out.cell 0
        have u6 := HK6.out.cell 0
        have g4 := HK4.out.frozen 0
        simp only [List.getElem?_toArray, List.getElem?_cons_zero] at u4 u6
        have HAM := Lib.hid (show amtB us zs = propOk us v by rw [HZ.out, HPA.out]; unfold propOk; simp [hv1])
        rw [HAM.out]
        clear hb5
        cases hok : propOk us v
        · have HO := Lib.hid hok
          have HV := Lib.hid (show propV us v = [] by unfold propV; rw [hok]; rfl)
          clear hok
          go_wp2_with fail
          have k4 := HK4.out
          have ag := HAG.out
          have ag := ag.setOther k4 (by decide) (Nat.le_refl _) 0 (.slice none 0 0)
          have k4 := k4.set_ 0 (.slice none 0 0)
          simp only [List.setIfInBounds_toArray, List.set_cons_zero] at k4
          generalize w5.setCell ⟨w.heap.size, 0, none⟩ (.slice none 0 0) = WZ at k4 ag ⊢
          have r0 := k4.cell 0
          simp only [List.getElem?_toArray, List.getElem?_cons_zero] at r0
          refine bodyPost_ret (v := .tuple #[.agg #[.slice none 0 0], .bool false]) (by simp [results, Try.results40, go_sem, r0]) rfl ?_
          exact ⟨none, 0, 0, by rw [HO.out], by rw [HV.out]; exact Acc.nil ag.ext⟩
        · have HO := Lib.hid hok
          have HV := Lib.hid (show propV us v = zs by unfold propV; rw [hok, HZ.out]; rfl)
          clear hok
          go_wp2_with fail
          have k4 := HK4.out
          have ag := HAG.out
          have ag := ag.setOther k4 (by decide) (Nat.le_refl _) 0 (.slice P m k)
          have k4 := k4.set_ 0 (.slice P m k)
          simp only [List.setIfInBounds_toArray, List.set_cons_zero] at k4
          generalize w5.setCell ⟨w.heap.size, 0, none⟩ (.slice P m k) = WZ at k4 ag ⊢
          have r0 := k4.cell 0
          simp only [List.getElem?_toArray, List.getElem?_cons_zero] at r0
          refine bodyPost_ret (v := .tuple #[.agg #[.slice P m k], .bool true]) (by simp [results, Try.results40, go_sem, r0]) rfl ?_
          exact ⟨P, m, k, by rw [HO.out], by rw [HV.out]; exact ag⟩
end Go.Proofs.Ythigfbhkdegfkaa
