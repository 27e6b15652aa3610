/- Is there a system? Walks on both sides. No condition. -/
import Derived.Test.YthigfbhkdegfkaaUnt
import Derived.Test.YthigfbhkdegfkaaIns
import Derived.Test.YthigfbhkdegfkaaHeld
namespace Go.Proofs.Ythigfbhkdegfkaa
open Go.RowKit

def szOk (k : Nat) (x : Unt) : Bool := if k = 0 then decide (x.sz = 1) else inB x.sz 2 100
def newTo (us : List Unt) (j : Nat) (x : Unt) : Bool := (us.take j).all fun y => decide (y.nm ≠ x.nm)
theorem untB_eq (us : List Unt) (k : Nat) (x : Unt) : untB us k x = (wordB x.nm && (szOk k x && newTo us k x)) := rfl
theorem new_next {us : List Unt} {j : Nat} {x y : Unt} (hy : us[j]? = some y) (h : newTo us j x = true) (hne : y.nm ≠ x.nm) : newTo us (j + 1) x = true := by
  unfold newTo at *
  rw [List.take_add_one, hy, List.all_append, h]
  simp [hne]
theorem new_miss {us : List Unt} {j k : Nat} {x y : Unt} (hy : us[j]? = some y) (hjk : j < k) (h : y.nm = x.nm) : newTo us k x = false := by
  unfold newTo
  rw [List.all_eq_false]
  refine ⟨y, List.mem_iff_getElem?.2 ⟨j, by rw [List.getElem?_take, if_pos hjk]; exact hy⟩, by simp [h]⟩
theorem sys_next {us : List Unt} {k : Nat} {x : Unt} (hx : us[k]? = some x) (h : sysTo us k) (hu : untB us k x = true) : sysTo us (k + 1) := by
  intro i y hi hy
  rcases Nat.lt_or_ge i k with hlt | hge
  · exact h i y hlt hy
  · obtain rfl : i = k := by omega
    rw [hx] at hy
    injection hy with hy
    subst hy
    exact hu
set_option maxRecDepth 100000 in
set_option maxHeartbeats 8000000 in
theorem iIsSystem_any (A : Option Addr) (n c B : Nat) (us : List Unt) (w : World) (h : Reads w B 2 A n (untF us)) (hB : B ≤ w.heap.size) (hn : n ≤ 1048576) (hnm : ∀ x ∈ us, x.nm.size ≤ 1048576) (hc : n ≤ c) (hc2 : c ≤ maxLen) :
    Calls Try.prog 25 #[.slice A n c] w fun e w' => e = .returned (.bool (sysB us)) ∧ Below w.heap.size w w' := by
  have hl := h.untLen
  have H := Lib.hid h
  have HL := Lib.hid hl
  have HNM := Lib.hid hnm
  unfold maxLen at hc2
  clear h hnm
  cases hz : inB (n : Int) 1 6
  · have HF := Lib.hid (show sysB us = false by unfold sysB; rw [hl, hz]; rfl)
    go_enter Try.func25, Try.ntmps25
    go_wp2_with (go_at_call 43; refine (within_any _ _ _ _).mono ?_; rintro e w' ⟨rfl, rfl⟩; rw [hz])
    go_ret
    exact ⟨by rw [HF.out]; rfl, Below.refl _ _⟩
  · have hz' := inB_true hz
    have HZ := Lib.hid hz
    clear hl
    go_enter Try.func25, Try.ntmps25
    go_wp2_with (go_at_call 43; refine (within_any _ _ _ _).mono ?_; rintro e w' ⟨rfl, rfl⟩; rw [HZ.out])
    clear hz
    go_loopw [13] (fun i wr => ∃ k : Nat, i = .int .i64 (k : Int) ∧ k ≤ n ∧ sysTo us k ∧ Below w.heap.size w wr) (fun i _ => n - (intOf i).toNat)
    case atStart => exact ⟨0, rfl, by omega, fun i x hi => by omega, Below.refl _ _⟩
    case round =>
      obtain ⟨wq, rfl⟩ : ∃ wq : World, wq = wr := ⟨_, rfl⟩
      obtain ⟨k, rfl, hk, hs, hb⟩ := hrel
      have HS := Lib.hid hs
      have HQ := Lib.hid hb
      have RQ := Lib.hid (H.out.below (hb.mono hB))
      have k0 : (0 : Int) ≤ k := by omega
      clear hs hb
      by_cases hlt : k < n
      · have k1 : (k : Int) < n := by omega
        obtain ⟨b, o, x, hAx, hx, hc0, hc1⟩ := RQ.out.unt hlt
        have HX := Lib.hid hx
        have hxn := HNM.out x (List.mem_of_getElem? hx)
        have HWD := Lib.hid (isWord_any x.nm hxn)
        cases hw : wordB x.nm
        · have HF := Lib.hid (sysB_miss HX.out (by rw [untB_eq, hw]; rfl))
          have HW := Lib.hid hw
          subst hAx
          clear hx hw
          go_wp2_with (go_at_call 58; refine (HWD.out _).mono ?_; rintro e w' ⟨rfl, rfl⟩; rw [HW.out])
          go_ret
          exact ⟨by rw [HF.out]; rfl, ext_alloc HQ.out _⟩
        · have HW := Lib.hid hw
          cases hs : szOk k x
          · have HF := Lib.hid (sysB_miss HX.out (by rw [untB_eq, hw, hs]; rfl))
            subst hAx
            clear hx hw
            by_cases hk0 : k = 0
            · have hne : x.sz ≠ 1 := by simpa [szOk, hk0] using hs
              have d0 : ((k : Int) == 0) = true := by simp [hk0]
              have d1 : (x.sz != 1) = true := by simp [hne]
              have HK0 := Lib.hid hk0
              clear hs hk0 hne
              go_wp2_with (go_at_call 58; refine (HWD.out _).mono ?_; rintro e w' ⟨rfl, rfl⟩; rw [HW.out])
              go_ret
              exact ⟨by rw [HF.out]; rfl, ext_alloc HQ.out _⟩
            · have d0 : ((k : Int) == 0) = false := by simp [hk0]
              have d1 : decide (0 < k) = true := by simp; omega
              have d2 : (0 : Int) < k := by omega
              have hin : inB x.sz 2 100 = false := by simpa [szOk, hk0] using hs
              have HIN := Lib.hid hin
              clear hs hin
              go_wp2_with (first | (go_at_call 58; refine (HWD.out _).mono ?_; rintro e w' ⟨rfl, rfl⟩; rw [HW.out]) | (go_at_call 43; refine (within_any _ _ _ _).mono ?_; rintro e w' ⟨rfl, rfl⟩; rw [HIN.out]))
              go_ret
              exact ⟨by rw [HF.out]; rfl, ext_alloc HQ.out _⟩
          · have HSZ := Lib.hid hs
            have HHD := Lib.hid (show ∀ v, newTo us k x = v → untB us k x = v from fun v hv => by rw [untB_eq, hw, hs, hv]; rfl)
            have hkc : k ≤ c := by omega
            have hkc' : (k : Int) ≤ (c : Int) := by omega
            subst hAx
            clear hx hw hs
            obtain ⟨wb, hwb⟩ : ∃ wb, wb = wq.alloc (.cells #[.string x.nm, .int .i64 x.sz] 52) := ⟨_, rfl⟩
            have bB : Below wq.heap.size wq wb := hwb ▸ ext_alloc (Below.refl _ _) _
            have HWB := Lib.hid hwb
            have HBQ := Lib.hid (ext_trans HQ.out bB)
            have RB := Lib.hid (RQ.out.below (bB.mono (Nat.le_trans hB HQ.out.size)))
            have HK := Lib.hid (show wb.cell? ⟨wq.heap.size, 0, none⟩ = some (.string x.nm) ∧ wb.cell? ⟨wq.heap.size, 1, none⟩ = some (.int .i64 x.sz) by rw [hwb]; exact ⟨by rw [World.cell?_alloc_new]; rfl, by rw [World.cell?_alloc_new]; rfl⟩)
            have HSB := Lib.hid (show wq.heap.size < wb.heap.size by rw [hwb]; simp)
            have ZB := Lib.hid (Nat.le_trans hB HQ.out.size)
            clear bB hwb
            by_cases hk0 : k = 0
            · have h1 : x.sz = 1 := by have := HSZ.out; simpa [szOk, hk0] using this
              have d0 : ((k : Int) == 0) = true := by simp [hk0]
              have d1 : (x.sz != 1) = false := by simp [h1]
              have d2 : ¬ (0 : Int) < k := by omega
              have HK0 := Lib.hid hk0
              clear hk0 h1
              go_wp2_with (go_at_call 58; refine (HWD.out _).mono ?_; rintro e w' ⟨rfl, rfl⟩; rw [HW.out])
              rw [← HWB.out]
              go_loopw [45] (fun i wr => ∃ j : Nat, i = .int .i64 (j : Int) ∧ j ≤ k ∧ newTo us j x = true ∧ Below wb.heap.size wb wr) (fun i _ => k - (intOf i).toNat)
              case atStart => exact ⟨0, rfl, by omega, rfl, Below.refl _ _⟩
              case round =>
                obtain ⟨wo, rfl⟩ : ∃ wo : World, wo = wr := ⟨_, rfl⟩
                obtain ⟨j, rfl, hj, hnw, hbo⟩ := hrel
                have HNW := Lib.hid hnw
                have HBO := Lib.hid hbo
                have RO := Lib.hid (RB.out.below (hbo.mono (Nat.le_trans ZB.out (Nat.le_of_lt HSB.out))))
                have j0 : (0 : Int) ≤ j := by omega
                have e0 := below_cell hbo HK.out.1
                have e1 := below_cell hbo HK.out.2
                have hgl : wq.heap.size < wo.heap.size := Nat.lt_of_lt_of_le HSB.out hbo.size
                clear hnw hbo
                by_cases hjk : j < k
                · exact absurd hjk (by have := HK0.out; omega)
                · obtain rfl : j = k := by omega
                  have HN := Lib.hid (sys_next HX.out HS.out (HHD.out true HNW.out))
                  go_wp2_with fail
                  go_roundw
                  case rel => exact ⟨j + 1, by go_num, by omega, HN.out, ext_trans HBQ.out HBO.out⟩
                  case measure => simp [intOf]; omega
            · have d0 : ((k : Int) == 0) = false := by simp [hk0]
              have d1 : decide (0 < k) = true := by simp; omega
              have d2 : (0 : Int) < k := by omega
              have HIN := Lib.hid (show inB x.sz 2 100 = true by have := HSZ.out; simpa [szOk, hk0] using this)
              clear hk0
              go_wp2_with (first | (go_at_call 58; refine (HWD.out _).mono ?_; rintro e w' ⟨rfl, rfl⟩; rw [HW.out]) | (go_at_call 43; refine (within_any _ _ _ _).mono ?_; rintro e w' ⟨rfl, rfl⟩; rw [HIN.out]))
              rw [← HWB.out]
              go_loopw [45] (fun i wr => ∃ j : Nat, i = .int .i64 (j : Int) ∧ j ≤ k ∧ newTo us j x = true ∧ Below wb.heap.size wb wr) (fun i _ => k - (intOf i).toNat)
              case atStart => exact ⟨0, rfl, by omega, rfl, Below.refl _ _⟩
              case round =>
                obtain ⟨wo, rfl⟩ : ∃ wo : World, wo = wr := ⟨_, rfl⟩
                obtain ⟨j, rfl, hj, hnw, hbo⟩ := hrel
                have HNW := Lib.hid hnw
                have HBO := Lib.hid hbo
                have RO := Lib.hid (RB.out.below (hbo.mono (Nat.le_trans ZB.out (Nat.le_of_lt HSB.out))))
                have j0 : (0 : Int) ≤ j := by omega
                have e0 := below_cell hbo HK.out.1
                have e1 := below_cell hbo HK.out.2
                have hgl : wq.heap.size < wo.heap.size := Nat.lt_of_lt_of_le HSB.out hbo.size
                clear hnw hbo
                by_cases hjk : j < k
                · have j1 : (j : Int) < k := by omega
                  obtain ⟨b', o', y, hAy, hy, hd0, hd1⟩ := RO.out.unt (show j < n by omega)
                  injection hAy with hAy
                  injection hAy with e1' e2'
                  subst e1' e2'
                  have HY := Lib.hid hy
                  clear hy
                  by_cases he : y.nm = x.nm
                  · have HF := Lib.hid (sysB_miss HX.out (HHD.out false (new_miss HY.out hjk he)))
                    have de : (y.nm.toList == x.nm.toList) = true := by rw [tol_eq]; simp [he]
                    clear he
                    go_wp2_with fail
                    go_ret
                    exact ⟨by rw [HF.out]; rfl, ext_trans HBQ.out (ext_alloc HBO.out _)⟩
                  · have HN2 := Lib.hid (new_next HY.out HNW.out he)
                    have de : (y.nm.toList == x.nm.toList) = false := by rw [tol_eq]; simp [he]
                    clear he
                    go_wp2_with fail
                    go_roundw
                    case rel => exact ⟨j + 1, by go_num, by omega, HN2.out, ext_alloc HBO.out _⟩
                    case measure => simp [intOf]; omega
                · obtain rfl : j = k := by omega
                  have HN := Lib.hid (sys_next HX.out HS.out (HHD.out true HNW.out))
                  go_wp2_with fail
                  go_roundw
                  case rel => exact ⟨j + 1, by go_num, by omega, HN.out, ext_trans HBQ.out HBO.out⟩
                  case measure => simp [intOf]; omega
      · have hkn : k = n := by omega
        have HF := Lib.hid (show sysB us = true by rw [sysB_of (by rw [HL.out, ← hkn]; exact HS.out), HL.out]; exact HZ.out)
        clear hkn
        go_wp2_with fail
        go_ret
        exact ⟨by rw [HF.out]; rfl, HQ.out⟩
set_option maxRecDepth 100000 in
set_option maxHeartbeats 8000000 in
theorem l7System_any (A : Option Addr) (n c B : Nat) (us : List Unt) (w : World) (h : Reads w B 2 A n (untF us)) (hB : B ≤ w.heap.size) (hn : n ≤ 1048576) (hnm : ∀ x ∈ us, x.nm.size ≤ 1048576) :
    Calls Try.prog 57 #[.slice A n c] w fun e w' => e = .returned (.bool (sysB us)) ∧ Below w.heap.size w w' := by
  have hl := h.untLen
  have H := Lib.hid h
  have HL := Lib.hid hl
  have HNM := Lib.hid hnm
  clear h hnm
  · clear hl
    go_enter Try.func57, Try.ntmps57
    go_wp2_with fail
    go_loopw [3] (fun i wr => ∃ k : Nat, i = .int .i64 (k : Int) ∧ k ≤ n ∧ k ≤ 7 ∧ sysTo us k ∧ Below w.heap.size w wr) (fun i _ => n - (intOf i).toNat)
    case atStart => exact ⟨0, rfl, by omega, by omega, fun i x hi => by omega, Below.refl _ _⟩
    case round =>
      obtain ⟨wq, rfl⟩ : ∃ wq : World, wq = wr := ⟨_, rfl⟩
      obtain ⟨k, rfl, hk, hk7, hs, hb⟩ := hrel
      have HS := Lib.hid hs
      have HQ := Lib.hid hb
      have RQ := Lib.hid (H.out.below (hb.mono hB))
      have k0 : (0 : Int) ≤ k := by omega
      clear hs hb
      by_cases hlt6 : k < n ∧ k ≤ 6
      · obtain ⟨hlt, hle6⟩ := hlt6
        have k1 : (k : Int) < n := by omega
        have k6 : (k : Int) ≤ 6 := by omega
        obtain ⟨b, o, x, hAx, hx, hc0, hc1⟩ := RQ.out.unt hlt
        have HX := Lib.hid hx
        have hxn := HNM.out x (List.mem_of_getElem? hx)
        have HWD := Lib.hid (l2Word_any x.nm hxn)
        cases hw : wordB x.nm
        · have HF := Lib.hid (sysB_miss HX.out (by rw [untB_eq, hw]; rfl))
          have HW := Lib.hid hw
          subst hAx
          clear hx hw
          go_wp2_with (go_at_call 66; refine (HWD.out _).mono ?_; rintro e w' ⟨rfl, rfl⟩; rw [HW.out])
          go_ret
          exact ⟨by rw [HF.out]; rfl, ext_alloc HQ.out _⟩
        · have HW := Lib.hid hw
          cases hs : szOk k x
          · have HF := Lib.hid (sysB_miss HX.out (by rw [untB_eq, hw, hs]; rfl))
            subst hAx
            clear hx hw
            by_cases hk0 : k = 0
            · have hne : x.sz ≠ 1 := by simpa [szOk, hk0] using hs
              have d0 : ((k : Int) == 0) = true := by simp [hk0]
              have d1 : (x.sz != 1) = true := by simp [hne]
              have HK0 := Lib.hid hk0
              clear hs hk0 hne
              go_wp2_with (go_at_call 66; refine (HWD.out _).mono ?_; rintro e w' ⟨rfl, rfl⟩; rw [HW.out])
              go_ret
              exact ⟨by rw [HF.out]; rfl, ext_alloc HQ.out _⟩
            · have d0 : ((k : Int) == 0) = false := by simp [hk0]
              have d1 : decide (0 < k) = true := by simp; omega
              have d2 : (0 : Int) < k := by omega
              have hin : inB x.sz 2 100 = false := by simpa [szOk, hk0] using hs
              have HIN := Lib.hid hin
              clear hs hin
              go_wp2_with (first | (go_at_call 66; refine (HWD.out _).mono ?_; rintro e w' ⟨rfl, rfl⟩; rw [HW.out]) | (go_at_call 38; refine (l1In_any _ _ _ _).mono ?_; rintro e w' ⟨rfl, rfl⟩; rw [HIN.out]))
              go_ret
              exact ⟨by rw [HF.out]; rfl, ext_alloc HQ.out _⟩
          · have HSZ := Lib.hid hs
            have HHD := Lib.hid (show ∀ v, newTo us k x = v → untB us k x = v from fun v hv => by rw [untB_eq, hw, hs, hv]; rfl)
            subst hAx
            clear hx hw hs
            obtain ⟨wb, hwb⟩ : ∃ wb, wb = wq.alloc (.cells #[.string x.nm, .int .i64 x.sz] 52) := ⟨_, rfl⟩
            have bB : Below wq.heap.size wq wb := hwb ▸ ext_alloc (Below.refl _ _) _
            have HWB := Lib.hid hwb
            have HBQ := Lib.hid (ext_trans HQ.out bB)
            have RB := Lib.hid (RQ.out.below (bB.mono (Nat.le_trans hB HQ.out.size)))
            have HK := Lib.hid (show wb.cell? ⟨wq.heap.size, 0, none⟩ = some (.string x.nm) ∧ wb.cell? ⟨wq.heap.size, 1, none⟩ = some (.int .i64 x.sz) by rw [hwb]; exact ⟨by rw [World.cell?_alloc_new]; rfl, by rw [World.cell?_alloc_new]; rfl⟩)
            have HSB := Lib.hid (show wq.heap.size < wb.heap.size by rw [hwb]; simp)
            have ZB := Lib.hid (Nat.le_trans hB HQ.out.size)
            clear bB hwb
            by_cases hk0 : k = 0
            · have h1 : x.sz = 1 := by have := HSZ.out; simpa [szOk, hk0] using this
              have d0 : ((k : Int) == 0) = true := by simp [hk0]
              have d1 : (x.sz != 1) = false := by simp [h1]
              have d2 : ¬ (0 : Int) < k := by omega
              have HK0 := Lib.hid hk0
              clear hk0 h1
              go_wp2_with (go_at_call 66; refine (HWD.out _).mono ?_; rintro e w' ⟨rfl, rfl⟩; rw [HW.out])
              rw [← HWB.out]
              go_loopw [5] (fun i wr => ∃ j : Nat, i = .int .i64 (j : Int) ∧ j ≤ k ∧ newTo us j x = true ∧ Below wb.heap.size wb wr) (fun i _ => k - (intOf i).toNat)
              case atStart => exact ⟨0, rfl, by omega, rfl, Below.refl _ _⟩
              case round =>
                obtain ⟨wo, rfl⟩ : ∃ wo : World, wo = wr := ⟨_, rfl⟩
                obtain ⟨j, rfl, hj, hnw, hbo⟩ := hrel
                have HNW := Lib.hid hnw
                have HBO := Lib.hid hbo
                have RO := Lib.hid (RB.out.below (hbo.mono (Nat.le_trans ZB.out (Nat.le_of_lt HSB.out))))
                have j0 : (0 : Int) ≤ j := by omega
                have e0 := below_cell hbo HK.out.1
                have e1 := below_cell hbo HK.out.2
                have hgl : wq.heap.size < wo.heap.size := Nat.lt_of_lt_of_le HSB.out hbo.size
                clear hnw hbo
                by_cases hjk : j < k
                · exact absurd hjk (by have := HK0.out; omega)
                · obtain rfl : j = k := by omega
                  have HN := Lib.hid (sys_next HX.out HS.out (HHD.out true HNW.out))
                  go_wp2_with fail
                  go_roundw
                  case rel => exact ⟨j + 1, by go_num, by omega, by omega, HN.out, ext_trans HBQ.out HBO.out⟩
                  case measure => simp [intOf]; omega
            · have d0 : ((k : Int) == 0) = false := by simp [hk0]
              have d1 : decide (0 < k) = true := by simp; omega
              have d2 : (0 : Int) < k := by omega
              have HIN := Lib.hid (show inB x.sz 2 100 = true by have := HSZ.out; simpa [szOk, hk0] using this)
              clear hk0
              go_wp2_with (first | (go_at_call 66; refine (HWD.out _).mono ?_; rintro e w' ⟨rfl, rfl⟩; rw [HW.out]) | (go_at_call 38; refine (l1In_any _ _ _ _).mono ?_; rintro e w' ⟨rfl, rfl⟩; rw [HIN.out]))
              rw [← HWB.out]
              go_loopw [5] (fun i wr => ∃ j : Nat, i = .int .i64 (j : Int) ∧ j ≤ k ∧ newTo us j x = true ∧ Below wb.heap.size wb wr) (fun i _ => k - (intOf i).toNat)
              case atStart => exact ⟨0, rfl, by omega, rfl, Below.refl _ _⟩
              case round =>
                obtain ⟨wo, rfl⟩ : ∃ wo : World, wo = wr := ⟨_, rfl⟩
                obtain ⟨j, rfl, hj, hnw, hbo⟩ := hrel
                have HNW := Lib.hid hnw
                have HBO := Lib.hid hbo
                have RO := Lib.hid (RB.out.below (hbo.mono (Nat.le_trans ZB.out (Nat.le_of_lt HSB.out))))
                have j0 : (0 : Int) ≤ j := by omega
                have e0 := below_cell hbo HK.out.1
                have e1 := below_cell hbo HK.out.2
                have hgl : wq.heap.size < wo.heap.size := Nat.lt_of_lt_of_le HSB.out hbo.size
                clear hnw hbo
                by_cases hjk : j < k
                · have j1 : (j : Int) < k := by omega
                  obtain ⟨b', o', y, hAy, hy, hd0, hd1⟩ := RO.out.unt (show j < n by omega)
                  injection hAy with hAy
                  injection hAy with e1' e2'
                  subst e1' e2'
                  have HY := Lib.hid hy
                  clear hy
                  by_cases he : y.nm = x.nm
                  · have HF := Lib.hid (sysB_miss HX.out (HHD.out false (new_miss HY.out hjk he)))
                    have de : (y.nm.toList == x.nm.toList) = true := by rw [tol_eq]; simp [he]
                    clear he
                    go_wp2_with fail
                    go_quiet (fail)
                    go_wp2_with fail
                    go_ret
                    exact ⟨by rw [HF.out]; rfl, ext_trans HBQ.out (ext_drewN HBO.out _)⟩
                  · have HN2 := Lib.hid (new_next HY.out HNW.out he)
                    have de : (y.nm.toList == x.nm.toList) = false := by rw [tol_eq]; simp [he]
                    clear he
                    go_wp2_with fail
                    go_quiet (fail)
                    go_wp2_with fail
                    go_roundw
                    case rel => exact ⟨j + 1, by go_num, by omega, HN2.out, ext_drewN HBO.out _⟩
                    case measure => simp [intOf]; omega
                · obtain rfl : j = k := by omega
                  have HN := Lib.hid (sys_next HX.out HS.out (HHD.out true HNW.out))
                  go_wp2_with fail
                  go_roundw
                  case rel => exact ⟨j + 1, by go_num, by omega, by omega, HN.out, ext_trans HBQ.out HBO.out⟩
                  case measure => simp [intOf]; omega
      · have HF := Lib.hid (show sysB us = inB (n : Int) 1 6 by
          rcases Nat.lt_or_ge k n with h | h
          · have h2 : inB (n : Int) 1 6 = false := by
              cases hh : inB (n : Int) 1 6
              · rfl
              · have := inB_true hh; omega
            rw [h2]; unfold sysB; rw [HL.out, h2]; rfl
          · rw [sysB_of (by rw [HL.out, show n = k by omega]; exact HS.out), HL.out])
        by_cases d1 : k < n
        · have d2 : (k : Int) < n := by omega
          have d3 : ¬ (k : Int) ≤ 6 := by omega
          clear hlt6
          go_wp2_with (go_at_call 38; refine (l1In_any _ _ _ _).mono ?_; rintro e w' ⟨rfl, rfl⟩)
          go_ret
          exact ⟨by rw [HF.out]; rfl, HQ.out⟩
        · have d2 : ¬ (k : Int) < n := by omega
          clear hlt6
          go_wp2_with (go_at_call 38; refine (l1In_any _ _ _ _).mono ?_; rintro e w' ⟨rfl, rfl⟩)
          go_ret
          exact ⟨by rw [HF.out]; rfl, HQ.out⟩
end Go.Proofs.Ythigfbhkdegfkaa
