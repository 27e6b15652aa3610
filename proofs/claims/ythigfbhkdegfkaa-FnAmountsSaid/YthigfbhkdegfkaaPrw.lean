/- The proper amount with a value: the program's walk. No condition. -/
import Derived.Test.YthigfbhkdegfkaaPrp
namespace Go.Proofs.Ythigfbhkdegfkaa
open Go.RowKit

def propV (us : List Unt) (v : Int) : List Int := if propOk us v = true then propL us v else []
set_option maxRecDepth 100000 in
set_option maxHeartbeats 8000000 in
theorem properOf_any (A : Option Addr) (n c B : Nat) (us : List Unt) (v : Int) (w : World) (h : Reads w B 2 A n (untF us)) (hB : B ≤ w.heap.size) (hs : sysB us = true) (hv : v ≤ 9223372036854775807) :
    Calls Try.prog 45 #[.slice A n c, .int .i64 v] w fun e w' => ∃ (a : Option Addr) (m k : Nat), e = .returned (.tuple #[.agg #[.slice a m k], .bool (propOk us v)]) ∧ Acc w w' 3 1 a m k (propV us v) := by
  have hl := h.untLen
  obtain ⟨⟨l1, l6⟩, _⟩ := sysB_to hs
  have hsz := sys_sz hs
  by_cases hv0 : v < 0
  · have HO := Lib.hid (show propOk us v = false by unfold propOk; simp; omega)
    have HV := Lib.hid (show propV us v = [] by unfold propV; rw [HO.out]; rfl)
    have hk := Blk.new w 28 #[.slice none 0 0]
    have hb := ext_alloc (Below.refl w.heap.size w) (.cells #[.slice none 0 0] 28)
    have f0 := hk.frozen 0
    have x0 := hk.cell 0
    simp only [List.getElem?_toArray, List.getElem?_cons_zero] at x0
    go_enter Try.func45, Try.ntmps45
    go_wp2_with fail
    refine bodyPost_ret (v := .tuple #[.agg #[.slice none 0 0], .bool false]) (by simp [results, Try.results45, go_sem, x0]) rfl ?_
    exact ⟨none, 0, 0, by rw [HO.out], by rw [HV.out]; exact Acc.nil hb⟩
  · have hv1 : 0 ≤ v := by omega
    have hb := ext_alloc (ext_alloc (Below.refl w.heap.size w) (.cells #[.slice none 0 0] 28)) (.cells #[.slice none 0 0] 28)
    have hk4 := (Blk.new w 28 #[.slice none 0 0]).alloc (.cells #[.slice none 0 0] 28)
    have hk6 := Blk.new (w.alloc (.cells #[.slice none 0 0] 28)) 28 #[.slice none 0 0]
    rw [show (w.alloc (.cells #[.slice none 0 0] 28)).heap.size = w.heap.size + 1 by simp] at hk6
    generalize hw1 : (w.alloc (.cells #[.slice none 0 0] 28)).alloc (.cells #[.slice none 0 0] 28) = w1 at hb hk4 hk6
    have HB := Lib.hid hb
    have K4 := Lib.hid hk4
    have K6 := Lib.hid hk6
    have HW := Lib.hid hw1
    have H := Lib.hid h
    have HL := Lib.hid hl
    have HSZ := Lib.hid hsz
    clear h hb hk4 hk6 hw1 hsz hl
    go_enter Try.func45, Try.ntmps45
    go_wp2_with fail
    rw [HW.out]
    go_loopw [1, 13] (fun q i wr => ∃ (j m k : Nat) (P : Option Addr), i = .int .i64 (j : Int) ∧ j + 1 ≤ n ∧ q = .int .i64 (quoT us v j) ∧ Blk wr w.heap.size 28 #[.slice none 0 0] ∧ Blk wr (w.heap.size + 1) 28 #[.slice P m k] ∧ Acc w wr 3 1 P m k (propTo us v j)) (fun _ i _ => n - (intOf i).toNat)
    case atStart => exact ⟨0, 0, 0, none, rfl, by have := HL.out; omega, rfl, K4.out, K6.out, Acc.nil HB.out⟩
    case round =>
      obtain ⟨wq, rfl⟩ : ∃ wq : World, wq = wr := ⟨_, rfl⟩
      obtain ⟨j, m, k, P, rfl, hj, rfl, h4, h6, hacc⟩ := hrel
      have K4Q := Lib.hid h4
      have K6Q := Lib.hid h6
      have HA := Lib.hid hacc
      have hn6 : n ≤ 6 := by have := HL.out; omega
      have hm : m = j := by have h1 := hacc.len; rw [propTo_len] at h1; omega
      have hm6 : m ≤ 6 := by omega
      clear hm
      have hqb := quoT_bd HSZ.out hv1 j
      have hq0 := hqb.1
      have hq1 : quoT us v j ≤ 9223372036854775807 := by omega
      have HNT := Lib.hid (propTo_next us v j)
      have j0 : (0 : Int) ≤ j := by omega
      have j1 : (j : Int) < n := by omega
      have y0 := h6.cell 0
      simp only [List.getElem?_toArray, List.getElem?_cons_zero] at y0
      clear h4 h6 hacc hqb
      by_cases hlast : j + 1 = n
      · have e1 : us.length - 1 = j := by have := HL.out; omega
        have d1 : ((j : Int) == (n : Int) - 1) = true := by simp; omega
        by_cases hle : quoT us v j ≤ 9999
        · have HO := Lib.hid (show propOk us v = true by unfold propOk; rw [e1]; simp [hv1, hle])
          have HV := Lib.hid (show propV us v = propTo us v j ++ [quoT us v j] by unfold propV propL; rw [HO.out, e1]; rfl)
          clear e1
          go_wp2_with (at_builtin; refine appI_b rfl _ _ rfl rfl (HA.out.alloc _) rfl (reads_newAt _ _ _ 1 [quoT us v j] _ (by simp) rfl rfl) (by omega) ?_; intro P2 c2 w2 a2 p2; have k6 := (K6Q.out.alloc (.cells #[.int .i64 (quoT us v j)] 3)).pushed p2 (own_ne_blk (HA.out.alloc (.cells #[.int .i64 (quoT us v j)] 3)).own (K6Q.out.alloc (.cells #[.int .i64 (quoT us v j)] 3)) (by decide)); have k4 := (K4Q.out.alloc (.cells #[.int .i64 (quoT us v j)] 3)).pushed p2 (own_ne_blk (HA.out.alloc (.cells #[.int .i64 (quoT us v j)] 3)).own (K4Q.out.alloc (.cells #[.int .i64 (quoT us v j)] 3)) (by decide)); have v6 := k6.cell 0; have g6 := k6.frozen 0; have v4 := k4.cell 0; have g4 := k4.frozen 0; simp only [List.getElem?_toArray, List.getElem?_cons_zero] at v6 v4)
          have ag := a2.setOther k6 (by decide) (by omega) 0 (.slice P2 (m + 1) c2)
          have k6 := k6.set_ 0 (.slice P2 (m + 1) c2)
          have k4 := k4.far (p := ⟨w.heap.size + 1, 0, none⟩) (show w.heap.size ≠ w.heap.size + 1 by omega) (.slice P2 (m + 1) c2)
          have ag := ag.setOther k4 (by decide) (Nat.le_refl _) 0 (.slice P2 (m + 1) c2)
          have k4 := k4.set_ 0 (.slice P2 (m + 1) c2)
          simp only [List.setIfInBounds_toArray, List.set_cons_zero] at k4
          generalize (w2.setCell ⟨w.heap.size + 1, 0, none⟩ (.slice P2 (m + 1) c2)).setCell ⟨w.heap.size, 0, none⟩ (.slice P2 (m + 1) c2) = WZ at k4 ag ⊢
          have r0 := k4.cell 0
          simp only [List.getElem?_toArray, List.getElem?_cons_zero] at r0
          refine bodyPost_ret (v := .tuple #[.agg #[.slice P2 (m + 1) c2], .bool true]) (by simp [results, Try.results45, go_sem, r0]) rfl ?_
          exact ⟨P2, m + 1, c2, by rw [HO.out], by rw [HV.out]; exact ag⟩
        · have HO := Lib.hid (show propOk us v = false by unfold propOk; rw [e1]; simp; intro _; omega)
          have HV := Lib.hid (show propV us v = [] by unfold propV; rw [HO.out]; rfl)
          clear e1
          go_wp2_with (at_builtin; refine appI_b rfl _ _ rfl rfl (HA.out.alloc _) rfl (reads_newAt _ _ _ 1 [quoT us v j] _ (by simp) rfl rfl) (by omega) ?_; intro P2 c2 w2 a2 p2; have k6 := (K6Q.out.alloc (.cells #[.int .i64 (quoT us v j)] 3)).pushed p2 (own_ne_blk (HA.out.alloc (.cells #[.int .i64 (quoT us v j)] 3)).own (K6Q.out.alloc (.cells #[.int .i64 (quoT us v j)] 3)) (by decide)); have k4 := (K4Q.out.alloc (.cells #[.int .i64 (quoT us v j)] 3)).pushed p2 (own_ne_blk (HA.out.alloc (.cells #[.int .i64 (quoT us v j)] 3)).own (K4Q.out.alloc (.cells #[.int .i64 (quoT us v j)] 3)) (by decide)); have v6 := k6.cell 0; have g6 := k6.frozen 0; have v4 := k4.cell 0; have g4 := k4.frozen 0; simp only [List.getElem?_toArray, List.getElem?_cons_zero] at v6 v4)
          have ag := a2.setOther k6 (by decide) (by omega) 0 (.slice P2 (m + 1) c2)
          have k6 := k6.set_ 0 (.slice P2 (m + 1) c2)
          have k4 := k4.far (p := ⟨w.heap.size + 1, 0, none⟩) (show w.heap.size ≠ w.heap.size + 1 by omega) (.slice P2 (m + 1) c2)
          have ag := ag.setOther k4 (by decide) (Nat.le_refl _) 0 (.slice none 0 0)
          have k4 := k4.set_ 0 (.slice none 0 0)
          simp only [List.setIfInBounds_toArray, List.set_cons_zero] at k4
          generalize (w2.setCell ⟨w.heap.size + 1, 0, none⟩ (.slice P2 (m + 1) c2)).setCell ⟨w.heap.size, 0, none⟩ (.slice none 0 0) = WZ at k4 ag ⊢
          have r0 := k4.cell 0
          simp only [List.getElem?_toArray, List.getElem?_cons_zero] at r0
          refine bodyPost_ret (v := .tuple #[.agg #[.slice none 0 0], .bool false]) (by simp [results, Try.results45, go_sem, r0]) rfl ?_
          exact ⟨none, 0, 0, by rw [HO.out], by rw [HV.out]; exact Acc.nil ag.ext⟩
      · have d1 : ((j : Int) == (n : Int) - 1) = false := by simp; omega
        have RQ := Lib.hid (H.out.below (HA.out.ext.mono hB))
        obtain ⟨b, o, x, hAx, hx, hc0, hc1⟩ := RQ.out.unt (show j + 1 < n by omega)
        have hs1 := HSZ.out x (List.mem_of_getElem? hx)
        have hrm : (quoT us v j).tmod x.sz = quoT us v j % x.sz := wrem hq0
        have hqu := wquo (x := quoT us v j) (y := x.sz) hq0 hq1 hs1.1
        have hz0 : ¬ x.sz = 0 := by omega
        have hgl : w.heap.size + 1 < wq.heap.size := K6Q.out.lt
        have e2 := szAt_some hx
        have HQ1 := Lib.hid (show quoT us v (j + 1) = quoT us v j / x.sz by rw [quoT, e2])
        rw [e2] at HNT
        subst hAx
        have HXJ := Lib.hid hx
        generalize quoT us v j = q at *
        clear hx e2
        have f6 := K6Q.out.frozen 0
        have hwj : IntKind.i64.wrap ((j : Int) + 1) = (j : Int) + 1 := IntWalk.i64_in _ ⟨by omega, by omega⟩
        have hj0 : (0 : Int) ≤ (j : Int) + 1 := by omega
        have hj1 : (j : Int) + 1 < (n : Int) := by omega
        have hjt : ((j : Int) + 1).toNat = j + 1 := by omega
        have HX1 := Lib.hid (And.intro hc0 hc1)
        go_wp2_with fail
        go_region_law (refine appI_b_step rfl _ _ rfl rfl (HA.out.alloc (.cells #[.int .i64 (q % x.sz)] 3)).drew rfl (reads_newAt _ _ _ 1 [q % x.sz] _ (by simp) rfl rfl).drew (by omega) ?_; intro P2 c2 w2 a2 p2; have k6 := (K6Q.out.alloc (.cells #[.int .i64 (q % x.sz)] 3)).pushed (w := (wq.alloc (.cells #[.int .i64 (q % x.sz)] 3)).drew) p2 (own_ne_blk (HA.out.alloc (.cells #[.int .i64 (q % x.sz)] 3)).own (K6Q.out.alloc (.cells #[.int .i64 (q % x.sz)] 3)) (by decide)); have v6 := k6.cell 0; have g6 := k6.frozen 0; simp only [List.getElem?_toArray, List.getElem?_cons_zero] at v6)
        all_goals
          have ag := a2.setOther k6 (by decide) (by omega) 0 (.slice P2 (m + 1) c2)
          have k4 := ((K4Q.out.alloc (.cells #[.int .i64 (q % x.sz)] 3)).pushed (w := (wq.alloc (.cells #[.int .i64 (q % x.sz)] 3)).drew) p2 (own_ne_blk (HA.out.alloc (.cells #[.int .i64 (q % x.sz)] 3)).own (K4Q.out.alloc (.cells #[.int .i64 (q % x.sz)] 3)) (by decide))).far (p := ⟨w.heap.size + 1, 0, none⟩) (show w.heap.size ≠ w.heap.size + 1 by omega) (.slice P2 (m + 1) c2)
          have k6 := k6.set_ 0 (.slice P2 (m + 1) c2)
          simp only [List.setIfInBounds_toArray, List.set_cons_zero] at k6
          generalize w2.setCell ⟨w.heap.size + 1, 0, none⟩ (.slice P2 (m + 1) c2) = w3 at k4 k6 ag ⊢
          obtain ⟨b', o', x', hA', hx', hc0', hc1'⟩ := (H.out.below (ag.ext.mono hB)).unt (show j + 1 < n by omega)
          injection hA' with hA'
          injection hA' with e1' e2'
          subst e1' e2'
          rw [HXJ.out] at hx'
          injection hx' with hx'
          subst hx'
          have HK4 := Lib.hid k4
          have HK6 := Lib.hid k6
          have HAG := Lib.hid ag
          clear k4 k6 ag hc0 hc1 v6 g6
          go_wp2_with fail
          go_roundw
          case rel => exact ⟨j + 1, m + 1, c2, P2, by go_num, by omega, by rw [HQ1.out], HK4.out, HK6.out, by rw [HNT.out]; exact HAG.out⟩
          case measure => simp [intOf]; omega
end Go.Proofs.Ythigfbhkdegfkaa
