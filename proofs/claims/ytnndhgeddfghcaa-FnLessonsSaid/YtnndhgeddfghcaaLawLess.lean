/- FnLessons: in the first slot a lesson has no new clash, free rooms have no lesson then, and a class's day has its lessons in order. No condition. -/
import Derived.Test.YtnndhgeddfghcaaLessP
import Derived.Test.YtnndhgeddfghcaaDrawL
import Derived.Test.YtnndhgeddfghcaaRsL
import Derived.Test.YtnndhgeddfghcaaRooms
import Derived.Test.YtnndhgeddfghcaaDayL
namespace Go.Proofs.Ytnndhgeddfghcaa
open Go.RowKit

set_option maxRecDepth 100000 in
set_option maxHeartbeats 16000000 in
theorem FnLessons_any (A : Option Addr) (n c : Nat) (w : World) (hcode : CodeOk w w.heap.size A n) :
    Calls Try.prog 13 #[.slice A n c] w fun e w' => e = .returned (.bool true) ∧ Below w.heap.size w w' := by
  have HC := Lib.hid hcode
  clear hcode
  cases hbig : bigR n
  rotate_left
  · go_enter Try.func13, Try.ntmps13
    go_wp2_with fail
    refine (rBig_any A n c _).mono ?_
    rintro e w' ⟨rfl, rfl⟩
    go_wp2_with fail
    go_ret
    exact ⟨rfl, Below.refl _ _⟩
  · go_enter Try.func13, Try.ntmps13
    go_wp2_with fail
    refine (rBig_any A n c _).mono ?_
    rintro e w' ⟨rfl, rfl⟩
    go_wp2_with fail
    refine (DrawFirstSlot_any A n c w.heap.size _ HC.out (Nat.le_refl _)).mono ?_
    rintro e s1 ⟨sA, sn, sc, sl, id, rfl, sd, sh⟩
    have sR := Lib.hid sd.reads
    have sJ := Lib.hid sd.ext
    have scap := sd.cap
    have smax := sd.max
    obtain ⟨a, b, ok, hst⟩ := slotT_form sl id
    have hi := fun (A : Option Addr) (n c B : Nat) (w : World) h hB hn => iFirstSlot_any A n c B sl id w h hB hn
    have hs := fun (A : Option Addr) (n c B : Nat) (w : World) h hB hn => sFirstSlot_any A n c B sl id w h hB hn
    rw [hst] at hi hs
    have HI := Lib.hid hi
    have HS := Lib.hid hs
    clear hi hs sd hbig
    cases ok
    · clear hst
      go_wp2_with fail
      refine (HI.out sA sn sc _ _ sR.out (Nat.le_refl _) (by omega)).mono ?_
      rintro e s2 ⟨rfl, h2⟩
      have R2 := Lib.hid (sR.out.below h2)
      go_wp2_with fail
      refine (HS.out sA sn sc _ _ R2.out h2.size (by omega)).mono ?_
      rintro e s3 ⟨rfl, h3⟩
      have JB := Lib.hid (ext_trans sJ.out (ext_trans h2 h3))
      clear h2 h3 R2 sR sJ HI HS scap smax
      go_wp2_with fail
      refine (DrawFreeRooms_any A n c w.heap.size _ (HC.out.below JB.out) JB.out.size).mono ?_
      rintro e f1 ⟨fA, fn, fc, fl, fx0, fx1, fx2, rfl, fd, fh⟩
      have fR := Lib.hid fd.reads
      have fJ := Lib.hid (ext_trans JB.out fd.ext)
      have hzl := roomsL_len fl fx0 fx1 fx2
      have hll := fd.reads.lesnLen
      have hi := fun (A : Option Addr) (n c B : Nat) (w : World) h hB hn => iFreeRooms_any A n c B fl fx0 fx1 fx2 w h hB hn
      have hs := fun (A : Option Addr) (n c B : Nat) (w : World) h hB hn => sFreeRooms_any A n c B fl fx0 fx1 fx2 w h hB hn
      have fz : (roomsL fl fx0 fx1 fx2).length ≤ 1000 := by omega
      generalize roomsL fl fx0 fx1 fx2 = fzs at hi hs fz
      generalize roomsOk fl fx0 fx1 fx2 = fok at hi hs
      have HI := Lib.hid hi
      have HS := Lib.hid hs
      have fe := eqB_self fzs
      have fk : (fok != fok) = false := by simp
      clear hi hs fd hzl hll
      go_wp2_with fail
      refine (HI.out fA fn fc _ _ fR.out (Nat.le_refl _) (by omega)).mono ?_
      rintro e f2 ⟨fG, fg, fq, rfl, h2⟩
      have R2 := Lib.hid (fR.out.below h2.ext)
      go_wp2_with fail
      refine (HS.out fA fn fc _ _ R2.out h2.ext.size (by omega)).mono ?_
      rintro e f3 ⟨fF, ff, fr, rfl, h3⟩
      have l1 : fg ≤ 1000 := by have := h2.len; omega
      have l2 : ff ≤ 1000 := by have := h3.len; omega
      have Q1 := Lib.hid (h2.reads.below h3.ext)
      have Q2 := Lib.hid h3.reads
      have JX := Lib.hid (ext_trans fJ.out (ext_trans h2.ext h3.ext))
      clear h2 h3 R2 fR fJ HI HS
      go_wp2_with fail
      refine (rInts_any fG fF fg ff fq fr _ _ fzs fzs _ Q1.out Q2.out (by unfold maxLen; omega) (by unfold maxLen; omega)).mono ?_
      rintro e w' ⟨rfl, u, rfl⟩
      have JC := Lib.hid (ext_drewN JX.out u)
      clear Q1 Q2 JX l1 l2
      generalize f3.drewN u = f4 at *

      go_wp2_with fail
      refine (DrawDayOfClass_any A n c w.heap.size _ (HC.out.below JC.out) JC.out.size).mono ?_
      rintro e y1 ⟨yA, yn, yc, yl, yx0, yx1, rfl, yd, yh⟩
      have yR := Lib.hid yd.reads
      have yJ := Lib.hid (ext_trans JC.out yd.ext)
      have hzl := dayIds_len yx0 yx1 yl
      have hll := yd.reads.lesnLen
      have hi := fun (A : Option Addr) (n c B : Nat) (w : World) h hB hn => iDayOfClass_any A n c B yl yx0 yx1 w h hB hn
      have hs := fun (A : Option Addr) (n c B : Nat) (w : World) h hB hn => sDayOfClass_any A n c B yl yx0 yx1 w h hB hn
      have yz : (dayIds yx0 yx1 yl).length ≤ 1000 := by omega
      generalize dayIds yx0 yx1 yl = yzs at hi hs yz
      generalize dayOk yx0 yx1 yl = yok at hi hs
      have HI := Lib.hid hi
      have HS := Lib.hid hs
      have ye := eqB_self yzs
      have yk : (yok != yok) = false := by simp
      clear hi hs yd hzl hll
      go_wp2_with fail
      refine (HI.out yA yn yc _ _ yR.out (Nat.le_refl _) (by omega)).mono ?_
      rintro e y2 ⟨yG, yg, yq, rfl, h2⟩
      have R2 := Lib.hid (yR.out.below h2.ext)
      go_wp2_with fail
      refine (HS.out yA yn yc _ _ R2.out h2.ext.size (by omega)).mono ?_
      rintro e y3 ⟨yF, yf, yr, rfl, h3⟩
      have l1 : yg ≤ 1000 := by have := h2.len; omega
      have l2 : yf ≤ 1000 := by have := h3.len; omega
      have Q1 := Lib.hid (h2.reads.below h3.ext)
      have Q2 := Lib.hid h3.reads
      have JX := Lib.hid (ext_trans yJ.out (ext_trans h2.ext h3.ext))
      clear h2 h3 R2 yR yJ HI HS
      go_wp2_with fail
      refine (rInts_any yG yF yg yf yq yr _ _ yzs yzs _ Q1.out Q2.out (by unfold maxLen; omega) (by unfold maxLen; omega)).mono ?_
      rintro e w' ⟨rfl, u, rfl⟩
      have JD := Lib.hid (ext_drewN JX.out u)
      clear Q1 Q2 JX l1 l2
      generalize y3.drewN u = y4 at *

      go_wp2_with fail
      refine (DrawClashingPairs_any A n c w.heap.size _ (HC.out.below JD.out) JD.out.size).mono ?_
      rintro e v1 ⟨vA, vn, vc, vl, rfl, vd, vh⟩
      have vR := Lib.hid vd.reads
      have vJ := Lib.hid (ext_trans JD.out vd.ext)
      have vcap := vd.cap
      have vmax := vd.max
      have hll := vd.reads.lesnLen
      have hzl := pairsL_len vl
      have hi := fun (A : Option Addr) (n c B : Nat) (w : World) h hB hn hc hc2 => iClashingPairs_any A n c B vl w h hB hn hc hc2
      have hs := fun (A : Option Addr) (n c B : Nat) (w : World) h hB hn => sClashingPairs_any A n c B vl w h hB hn
      have ha := fun (A : Option Addr) (n c B : Nat) (w : World) h hB hn => iAreLessons_any A n c B vl w h hB hn
      have hok : pairsOk vl = lessB vl := rfl
      rw [hok] at hi hs
      generalize pairsL vl = vzs at hi hs hzl
      generalize lessB vl = vok at hi hs ha
      have HI := Lib.hid hi
      have HS := Lib.hid hs
      have HA := Lib.hid ha
      have ve := decide_eq_true (rfl : vzs = vzs)
      have vk : (vok == vok) = true := by simp
      clear hi hs ha hok vd hll
      go_wp2_with fail
      refine (HI.out vA vn vc _ _ vR.out (Nat.le_refl _) (by omega) vcap vmax).mono ?_
      rintro e v2 ⟨vG, vg, vq, hs1, rfl, h2⟩
      have R2 := Lib.hid (vR.out.below h2.ext)
      go_wp2_with fail
      refine (HS.out vA vn vc _ _ R2.out h2.ext.size (by omega)).mono ?_
      rintro e v3 ⟨vF, vf, vr, hs2, rfl, h3⟩
      have l1 : vg ≤ 1000 := by have := h2.reads.rlen; omega
      have l2 : vf ≤ 1000 := by have := h3.reads.rlen; omega
      have R3 := Lib.hid (R2.out.below (h3.ext.mono h2.ext.size))
      have S3 := Lib.hid (Nat.le_trans h2.ext.size h3.ext.size)
      have Q1 := Lib.hid (h2.reads.below h3.ext)
      have Q2 := Lib.hid h3.reads
      have JX := Lib.hid (ext_trans vJ.out (ext_trans h2.ext h3.ext))
      clear h2 h3 R2 vR vJ HI HS vcap vmax
      go_wp2_with fail
      refine (rTable_any vG vF vg vf vq vr _ _ hs1 hs2 vzs vzs _ Q1.out Q2.out (by unfold maxLen; omega) (by unfold maxLen; omega)).mono ?_
      rintro e w' ⟨rfl, u, rfl⟩
      have JY := Lib.hid (ext_drewN JX.out u)
      have R4 := Lib.hid (R3.out.drewN u)
      clear Q1 Q2 JX R3
      go_wp2_with fail
      refine (HA.out vA vn vc _ _ R4.out S3.out (by omega)).mono ?_
      rintro e v5 ⟨rfl, h5⟩
      go_wp2_with fail
      go_ret
      exact ⟨by simp, ext_trans JY.out h5⟩
    · obtain ⟨ys, f1, f2, f3, f4, f5, f6⟩ := slot_facts hst
      have hk := fun (A : Option Addr) (n c B : Nat) (w : World) h hB hn => iShiftLesson_any A n c B sl id a b w h hB hn
      rw [f1, f2] at hk
      have hp := fun (A : Option Addr) (n c B : Nat) (w : World) h hB hn hc hc2 => iClashingPairs_any A n c B sl w h hB hn hc hc2
      have hq := fun (A : Option Addr) (n c B : Nat) (w : World) h hB hn hc hc2 => iClashingPairs_any A n c B ys w h hB hn hc hc2
      rw [f3] at hp
      rw [f4] at hq
      have hyl : ys.length ≤ sn := by rw [← f2]; have := shift_len sl id a b; have := sR.out.lesnLen; omega
      have hpl := pairsL_len sl
      have hql := pairsL_len ys
      generalize pairsL sl = ps at *
      generalize pairsL ys = qs at *
      have HK := Lib.hid hk
      have HP := Lib.hid hp
      have HQ := Lib.hid hq
      have F6 := Lib.hid f6
      clear hst hk hp hq f1 f2 f3 f4 f6
      go_wp2_with fail
      refine (HI.out sA sn sc _ _ sR.out (Nat.le_refl _) (by omega)).mono ?_
      rintro e s2 ⟨rfl, h2⟩
      have R2 := Lib.hid (sR.out.below h2)
      go_wp2_with fail
      refine (HS.out sA sn sc _ _ R2.out h2.size (by omega)).mono ?_
      rintro e s3 ⟨rfl, h3⟩
      have R3 := Lib.hid (R2.out.below (h3.mono h2.size))
      have Z3 := Lib.hid (Nat.le_trans h2.size h3.size)
      have J3 := Lib.hid (ext_trans sJ.out (ext_trans h2 h3))
      clear h2 h3 R2 sJ HI HS
      go_wp2_with fail
      refine (HK.out sA sn sc _ _ R3.out Z3.out (by omega)).mono ?_
      rintro e s4 ⟨mA, mn, mc, rfl, h4⟩
      have R4 := Lib.hid (R3.out.below (h4.ext.mono Z3.out))
      have Z4 := Lib.hid (Nat.le_trans Z3.out h4.ext.size)
      have J4 := Lib.hid (ext_trans J3.out h4.ext)
      have M4 := Lib.hid h4.reads
      obtain ⟨mcap, mmax⟩ := h4.cap
      have hmn : ys.length = mn := h4.reads.lesnLen
      have hmn2 : mn ≤ 13 := by omega
      clear h4 R3 J3 HK hmn hyl
      go_wp2_with fail
      refine (HP.out sA sn sc _ _ R4.out Z4.out (by omega) scap smax).mono ?_
      rintro e s5 ⟨pA, pn, pc, hs1, rfl, h5⟩
      have M5 := Lib.hid (M4.out.below h5.ext)
      have J5 := Lib.hid (ext_trans J4.out h5.ext)
      have hpn : ps.length = pn := h5.reads.rlen
      have Z5 := Lib.hid h5.ext.size
      clear h5 R4 J4 HP sR M4
      go_wp2_with fail
      refine (HQ.out mA mn mc _ _ M5.out Z5.out (by omega) mcap mmax).mono ?_
      rintro e s6 ⟨qA, qn, qc, hs2, rfl, h6⟩
      have J6 := Lib.hid (ext_trans J5.out h6.ext)
      have hqn : qs.length = qn := h6.reads.rlen
      have QR := Lib.hid h6.reads
      have hle : ¬ (pn : Int) < qn := by omega
      have hle2 : ¬ pn < qn := by omega
      have hle3 : decide ((pn : Int) < qn) = false := by simp; omega
      have hle4 : decide (pn < qn) = false := by simp; omega
      have hq144 : qn ≤ 144 := by omega
      clear h6 J5 HQ M5 hpn hpl hql f5
      have hqn2 := Lib.hid hqn
      clear hqn
      go_wp2_with fail
      go_loopw [17] (fun i wr => ∃ k s : Nat, i = .int .i64 (k : Int) ∧ k ≤ qn ∧ wr = s6.drewN s) (fun i _ => qn - (intOf i).toNat)
      case atStart => exact ⟨0, 0, rfl, by omega, rfl⟩
      case round =>
        obtain ⟨k, s, rfl, hk, rfl⟩ := hrel
        have QR := Lib.hid (QR.out.drewN s)
        have J6 := Lib.hid (ext_drewN J6.out s)
        obtain ⟨ws, hws⟩ : ∃ ws, s6.drewN s = ws := ⟨_, rfl⟩
        rw [hws] at QR J6 ⊢
        have HWS := Lib.hid hws
        clear hws
        have k0 : (0 : Int) ≤ k := by omega
        by_cases hlt : k < qn
        · obtain ⟨b', o, ra, rn, rc, r, rfl, hr, hcell, hrr, hrm, _⟩ := QR.out.at hlt
          have HN := Lib.hid (F6.out r (List.mem_of_getElem? hr))
          have HR := Lib.hid hrr
          have k1 : (k : Int) < qn := by omega
          clear hr hrr
          go_wp2_with fail
          refine (rHas_any ra rn rc _ r id _ HR.out hrm).mono ?_
          rintro e w' ⟨rfl, rfl⟩
          rw [HN.out]
          go_wp2_with fail
          go_roundw
          case rel => exact ⟨k + 1, s, by go_num, by omega, HWS.out.symm⟩
          case measure => simp [intOf]; omega
        · have JB := Lib.hid J6.out
          have hnk : ¬ (k : Int) < qn := by omega
          clear J6 QR F6 hqn2
          go_wp2_with fail
          refine (DrawFreeRooms_any A n c w.heap.size _ (HC.out.below JB.out) JB.out.size).mono ?_
          rintro e f1 ⟨fA, fn, fc, fl, fx0, fx1, fx2, rfl, fd, fh⟩
          have fR := Lib.hid fd.reads
          have fJ := Lib.hid (ext_trans JB.out fd.ext)
          have hzl := roomsL_len fl fx0 fx1 fx2
          have hll := fd.reads.lesnLen
          have hi := fun (A : Option Addr) (n c B : Nat) (w : World) h hB hn => iFreeRooms_any A n c B fl fx0 fx1 fx2 w h hB hn
          have hs := fun (A : Option Addr) (n c B : Nat) (w : World) h hB hn => sFreeRooms_any A n c B fl fx0 fx1 fx2 w h hB hn
          have fz : (roomsL fl fx0 fx1 fx2).length ≤ 1000 := by omega
          generalize roomsL fl fx0 fx1 fx2 = fzs at hi hs fz
          generalize roomsOk fl fx0 fx1 fx2 = fok at hi hs
          have HI := Lib.hid hi
          have HS := Lib.hid hs
          have fe := eqB_self fzs
          have fk : (fok != fok) = false := by simp
          clear hi hs fd hzl hll
          go_wp2_with fail
          refine (HI.out fA fn fc _ _ fR.out (Nat.le_refl _) (by omega)).mono ?_
          rintro e f2 ⟨fG, fg, fq, rfl, h2⟩
          have R2 := Lib.hid (fR.out.below h2.ext)
          go_wp2_with fail
          refine (HS.out fA fn fc _ _ R2.out h2.ext.size (by omega)).mono ?_
          rintro e f3 ⟨fF, ff, fr, rfl, h3⟩
          have l1 : fg ≤ 1000 := by have := h2.len; omega
          have l2 : ff ≤ 1000 := by have := h3.len; omega
          have Q1 := Lib.hid (h2.reads.below h3.ext)
          have Q2 := Lib.hid h3.reads
          have JX := Lib.hid (ext_trans fJ.out (ext_trans h2.ext h3.ext))
          clear h2 h3 R2 fR fJ HI HS
          go_wp2_with fail
          refine (rInts_any fG fF fg ff fq fr _ _ fzs fzs _ Q1.out Q2.out (by unfold maxLen; omega) (by unfold maxLen; omega)).mono ?_
          rintro e w' ⟨rfl, u, rfl⟩
          have JC := Lib.hid (ext_drewN JX.out u)
          clear Q1 Q2 JX l1 l2
          generalize f3.drewN u = f4 at *

          go_wp2_with fail
          refine (DrawDayOfClass_any A n c w.heap.size _ (HC.out.below JC.out) JC.out.size).mono ?_
          rintro e y1 ⟨yA, yn, yc, yl, yx0, yx1, rfl, yd, yh⟩
          have yR := Lib.hid yd.reads
          have yJ := Lib.hid (ext_trans JC.out yd.ext)
          have hzl := dayIds_len yx0 yx1 yl
          have hll := yd.reads.lesnLen
          have hi := fun (A : Option Addr) (n c B : Nat) (w : World) h hB hn => iDayOfClass_any A n c B yl yx0 yx1 w h hB hn
          have hs := fun (A : Option Addr) (n c B : Nat) (w : World) h hB hn => sDayOfClass_any A n c B yl yx0 yx1 w h hB hn
          have yz : (dayIds yx0 yx1 yl).length ≤ 1000 := by omega
          generalize dayIds yx0 yx1 yl = yzs at hi hs yz
          generalize dayOk yx0 yx1 yl = yok at hi hs
          have HI := Lib.hid hi
          have HS := Lib.hid hs
          have ye := eqB_self yzs
          have yk : (yok != yok) = false := by simp
          clear hi hs yd hzl hll
          go_wp2_with fail
          refine (HI.out yA yn yc _ _ yR.out (Nat.le_refl _) (by omega)).mono ?_
          rintro e y2 ⟨yG, yg, yq, rfl, h2⟩
          have R2 := Lib.hid (yR.out.below h2.ext)
          go_wp2_with fail
          refine (HS.out yA yn yc _ _ R2.out h2.ext.size (by omega)).mono ?_
          rintro e y3 ⟨yF, yf, yr, rfl, h3⟩
          have l1 : yg ≤ 1000 := by have := h2.len; omega
          have l2 : yf ≤ 1000 := by have := h3.len; omega
          have Q1 := Lib.hid (h2.reads.below h3.ext)
          have Q2 := Lib.hid h3.reads
          have JX := Lib.hid (ext_trans yJ.out (ext_trans h2.ext h3.ext))
          clear h2 h3 R2 yR yJ HI HS
          go_wp2_with fail
          refine (rInts_any yG yF yg yf yq yr _ _ yzs yzs _ Q1.out Q2.out (by unfold maxLen; omega) (by unfold maxLen; omega)).mono ?_
          rintro e w' ⟨rfl, u, rfl⟩
          have JD := Lib.hid (ext_drewN JX.out u)
          clear Q1 Q2 JX l1 l2
          generalize y3.drewN u = y4 at *

          go_wp2_with fail
          refine (DrawClashingPairs_any A n c w.heap.size _ (HC.out.below JD.out) JD.out.size).mono ?_
          rintro e v1 ⟨vA, vn, vc, vl, rfl, vd, vh⟩
          have vR := Lib.hid vd.reads
          have vJ := Lib.hid (ext_trans JD.out vd.ext)
          have vcap := vd.cap
          have vmax := vd.max
          have hll := vd.reads.lesnLen
          have hzl := pairsL_len vl
          have hi := fun (A : Option Addr) (n c B : Nat) (w : World) h hB hn hc hc2 => iClashingPairs_any A n c B vl w h hB hn hc hc2
          have hs := fun (A : Option Addr) (n c B : Nat) (w : World) h hB hn => sClashingPairs_any A n c B vl w h hB hn
          have ha := fun (A : Option Addr) (n c B : Nat) (w : World) h hB hn => iAreLessons_any A n c B vl w h hB hn
          have hok : pairsOk vl = lessB vl := rfl
          rw [hok] at hi hs
          generalize pairsL vl = vzs at hi hs hzl
          generalize lessB vl = vok at hi hs ha
          have HI := Lib.hid hi
          have HS := Lib.hid hs
          have HA := Lib.hid ha
          have ve := decide_eq_true (rfl : vzs = vzs)
          have vk : (vok == vok) = true := by simp
          clear hi hs ha hok vd hll
          go_wp2_with fail
          refine (HI.out vA vn vc _ _ vR.out (Nat.le_refl _) (by omega) vcap vmax).mono ?_
          rintro e v2 ⟨vG, vg, vq, hs1, rfl, h2⟩
          have R2 := Lib.hid (vR.out.below h2.ext)
          go_wp2_with fail
          refine (HS.out vA vn vc _ _ R2.out h2.ext.size (by omega)).mono ?_
          rintro e v3 ⟨vF, vf, vr, hs2, rfl, h3⟩
          have l1 : vg ≤ 1000 := by have := h2.reads.rlen; omega
          have l2 : vf ≤ 1000 := by have := h3.reads.rlen; omega
          have R3 := Lib.hid (R2.out.below (h3.ext.mono h2.ext.size))
          have S3 := Lib.hid (Nat.le_trans h2.ext.size h3.ext.size)
          have Q1 := Lib.hid (h2.reads.below h3.ext)
          have Q2 := Lib.hid h3.reads
          have JX := Lib.hid (ext_trans vJ.out (ext_trans h2.ext h3.ext))
          clear h2 h3 R2 vR vJ HI HS vcap vmax
          go_wp2_with fail
          refine (rTable_any vG vF vg vf vq vr _ _ hs1 hs2 vzs vzs _ Q1.out Q2.out (by unfold maxLen; omega) (by unfold maxLen; omega)).mono ?_
          rintro e w' ⟨rfl, u, rfl⟩
          have JY := Lib.hid (ext_drewN JX.out u)
          have R4 := Lib.hid (R3.out.drewN u)
          clear Q1 Q2 JX R3
          go_wp2_with fail
          refine (HA.out vA vn vc _ _ R4.out S3.out (by omega)).mono ?_
          rintro e v5 ⟨rfl, h5⟩
          go_wp2_with fail
          go_ret
          exact ⟨by simp, ext_trans JY.out h5⟩
end Go.Proofs.Ytnndhgeddfghcaa
