/- FnAmounts: times one is the same value, units grow upwards, and converting there has the told value. No condition. -/
import Derived.Test.YthigfbhkdegfkaaDrawV
import Derived.Test.YthigfbhkdegfkaaRsU
import Derived.Test.YthigfbhkdegfkaaAmtP
import Derived.Test.YthigfbhkdegfkaaCnv
import Derived.Test.YthigfbhkdegfkaaAtx
import Derived.Deep.CutRange
import Derived.Deep.CutBlock
namespace Go.Proofs.Ythigfbhkdegfkaa
open Go.RowKit

theorem txt_known (us : List Unt) (zs : List Int) : (textV us zs).2 = amtB us zs := by
  unfold textV
  cases amtB us zs <;> rfl
theorem acc_cap {w0 w : World} {E k n c : Nat} {A : Option Addr} {zs : List Int} (h : Acc w0 w E k A n c zs) : n ≤ c ∧ c ≤ maxLen := (AccW.mk h.own h.ext.size).cap
set_option maxRecDepth 100000 in
set_option maxHeartbeats 64000000 in
theorem FnAmounts_any (A : Option Addr) (n c : Nat) (w : World) (hcode : CodeOk w w.heap.size A n) :
    Calls Try.prog 4 #[.slice A n c] w fun e w' => e = .returned (.bool true) ∧ Below w.heap.size w w' := by
  have HC := Lib.hid hcode
  clear hcode
  cases hbig : bigR n
  rotate_left
  · go_enter Try.func4, Try.ntmps4
    go_wp2_with fail
    refine (rBig_any A n c _).mono ?_
    rintro e w' ⟨rfl, rfl⟩
    go_wp2_with fail
    go_ret
    exact ⟨rfl, Below.refl _ _⟩
  · go_enter Try.func4, Try.ntmps4
    go_wp2_with fail
    refine (rBig_any A n c _).mono ?_
    rintro e w' ⟨rfl, rfl⟩
    go_wp2_with fail
    refine (DrawTimesOf_any A n c w.heap.size _ HC.out (Nat.le_refl _)).mono ?_
    rintro e a1 ⟨sA, sn, sc, us, D, m, k, zs, N, rfl, du, da, db⟩
    have hfew := du.few
    have hfea := da.few
    have hba := ext_alloc (Below.refl a1.heap.size a1) (.cells #[.slice D m k] 28)
    have hk := Blk.new a1 28 #[.slice D m k]
    have DU2 := Lib.hid (du.later hba)
    have DA2 := Lib.hid (da.later hba)
    have J2 := Lib.hid (ext_trans db hba)
    generalize hw2 : a1.alloc (.cells #[.slice D m k] 28) = a2 at hba hk DU2 DA2 J2
    have K42 := Lib.hid hk
    have HW2 := Lib.hid hw2
    have hi := fun (B B2 : Nat) (w : World) h hB h2 hB2 => iTimesOf_any sA sn sc B us D m k B2 zs N w h hB (by omega) du.nm du.row.cap du.row.max h2 hB2 (by omega)
    have hs := fun (B B2 : Nat) (w : World) h hB h2 hB2 => sTimesOf_any sA sn sc B us D m k B2 zs N w h hB (by omega) du.nm h2 hB2 (by omega)
    have ht := fun h => tim_ok (us := us) (zs := zs) (N := N) h
    generalize (timV us zs N).1 = TL at hi hs ht
    generalize (timV us zs N).2 = ok at hi hs ht
    have HI := Lib.hid hi
    have HS := Lib.hid hs
    have HT := Lib.hid ht
    have fk : (ok != ok) = false := by simp
    have NMU := Lib.hid du.nm
    have CAPU := Lib.hid (And.intro du.row.cap du.row.max)
    clear hw2 hk hba du da db hi hs ht hbig
    go_wp2_with fail
    rw [HW2.out]
    refine (HI.out _ _ a2 DU2.out.row.reads (Nat.le_refl _) DA2.out.row.reads (Nat.le_refl _)).mono ?_
    rintro e a3 ⟨t1, m1, k1, rfl, acc1⟩
    have hcap1 := acc_cap acc1
    have hl1 := acc1.len
    have hba := ext_alloc (Below.refl a3.heap.size a3) (.cells #[.slice t1 m1 k1] 28)
    have hk := Blk.new a3 28 #[.slice t1 m1 k1]
    have hbe := ext_trans acc1.ext hba
    have DU4 := Lib.hid (DU2.out.later hbe)
    have DA4 := Lib.hid (DA2.out.later hbe)
    have J4 := Lib.hid (ext_trans J2.out hbe)
    have K44 := Lib.hid (K42.out.below hbe K42.out.lt)
    have A14 := Lib.hid (acc1.later hba)
    have y4 := K44.out.cell 0
    simp only [List.getElem?_toArray, List.getElem?_cons_zero] at y4
    generalize hw4 : a3.alloc (.cells #[.slice t1 m1 k1] 28) = a4 at hba hk hbe DU4 DA4 J4 K44 A14
    have K64 := Lib.hid hk
    have HW4 := Lib.hid hw4
    clear hw4 hk hba hbe acc1 HI DU2 DA2 J2 K42 HW2
    go_wp2_with fail
    rw [HW4.out]
    refine (HS.out _ _ a4 DU4.out.row.reads (Nat.le_refl _) DA4.out.row.reads (Nat.le_refl _)).mono ?_
    rintro e a5 ⟨t2, m2, k2, rfl, acc2⟩
    have hl2 := acc2.len
    obtain rfl : m2 = m1 := by omega
    have hba := ext_alloc (Below.refl a5.heap.size a5) (.cells #[.slice t2 m2 k2] 28)
    have hbe := ext_trans acc2.ext hba
    have DU6 := Lib.hid (DU4.out.later hbe)
    have DA6 := Lib.hid (DA4.out.later hbe)
    have J6 := Lib.hid (ext_trans J4.out hbe)
    have K46 := Lib.hid (K44.out.below hbe K44.out.lt)
    have K66 := Lib.hid (K64.out.below hbe K64.out.lt)
    have A16 := Lib.hid (A14.out.later hbe)
    have A26 := Lib.hid (acc2.later hba)
    have y6 := K66.out.cell 0
    simp only [List.getElem?_toArray, List.getElem?_cons_zero] at y6
    generalize hw6 : a5.alloc (.cells #[.slice t2 m2 k2] 28) = a6 at hba hbe DU6 DA6 J6 K46 K66 A16 A26
    have HW6 := Lib.hid hw6
    clear hw6 hba hbe acc2 HS DU4 DA4 J4 K44 K64 A14 HW4 y4 hl2
    go_wp2_with fail
    rw [HW6.out]
    refine (rAmount_same t1 t2 m2 k1 k2 _ _ TL a6 A16.out.reads A26.out.reads (Nat.le_refl _) (Nat.le_refl _) (by omega)).mono ?_
    rintro e a7 ⟨rfl, h7⟩
    have DU7 := Lib.hid (DU6.out.later h7)
    have DA7 := Lib.hid (DA6.out.later h7)
    have J7 := Lib.hid (ext_trans J6.out h7)
    have K47 := Lib.hid (K46.out.below h7 K46.out.lt)
    have K67 := Lib.hid (K66.out.below h7 K66.out.lt)
    have A17 := Lib.hid (A16.out.later h7)
    clear h7 DU6 DA6 J6 K46 K66 A16 A26 HW6 y6
    go_upto_if 76 with fail
    go_cut [10, 11, 12, 13] from 77 to 101 (fun _ _ _ _ wx => Below a7.heap.size a7 wx)
    case first =>
      cases ok
      · go_wp2_with fail
        go_meet
        exact Below.refl _ _
      · obtain ⟨ha, hta, hv, p0, p1⟩ := HT.out rfl
        have htl := (amt_in hta).len
        have hfw := (amt_in hta).few
        have hm1 : m2 ≤ 1048576 := by omega
        have hiv := fun (B B2 : Nat) (w : World) h hB h2 hB2 => iValueIn_any sA sn sc B us D m k B2 zs w h hB (by omega) NMU.out CAPU.out.1 CAPU.out.2 h2 hB2 (by omega)
        have hjv := fun (B B2 : Nat) (w : World) h hB h2 hB2 => iValueIn_any sA sn sc B us t1 m2 k1 B2 TL w h hB (by omega) NMU.out CAPU.out.1 CAPU.out.2 h2 hB2 hm1
        rw [ha] at hiv
        rw [hta, hv] at hjv
        generalize valA us zs = V at hiv hjv p0 p1
        have HIV := Lib.hid hiv
        have HJV := Lib.hid hjv
        have hmu : IntKind.i64.wrap (N * V) = N * V := IntWalk.i64_in _ ⟨by omega, by omega⟩
        have hnn : (N * V != N * V) = false := by simp
        have x4 := K47.out.cell 0
        simp only [List.getElem?_toArray, List.getElem?_cons_zero] at x4
        clear ha hta hv hiv hjv htl hfw hl1 HT fk
        go_wp2_with fail
        refine (HIV.out _ _ a7 DU7.out.row.reads (Nat.le_refl _) DA7.out.row.reads (Nat.le_refl _)).mono ?_
        rintro e a8 ⟨rfl, h8⟩
        have H8 := Lib.hid h8
        have x6 := (K67.out.below h8 K67.out.lt).cell 0
        simp only [List.getElem?_toArray, List.getElem?_cons_zero] at x6
        clear x4 h8
        go_wp2_with fail
        refine (HJV.out _ _ a8 (DU7.out.later H8.out).row.reads (Nat.le_refl _) (A17.out.later H8.out).reads (Nat.le_refl _)).mono ?_
        rintro e a9 ⟨rfl, h9⟩
        have H9 := Lib.hid (ext_trans H8.out h9)
        clear h9 x6
        go_wp2_with fail
        go_meet
        exact H9.out
    case rest =>
      have J8 := Lib.hid (ext_trans J7.out hcut)
      clear hcut DU7 DA7 J7 K47 K67 A17 HT fk NMU CAPU hfew hfea hcap1 hl1
      go_wp2_with fail
      refine (DrawUnitsIn_any A n c w.heap.size _ (HC.out.below J8.out) J8.out.size).mono ?_
      rintro e u1 ⟨uA, un, uc, vs, nm, rfl, du, hns, db⟩
      have J9 := Lib.hid (ext_trans J8.out db)
      have hfew := du.few
      have hi := fun (nm : ByteArray) (B : Nat) (w : World) h hB => iUnitsIn_any uA un uc B vs nm w h hB (by omega) du.nm du.row.cap du.row.max
      have hs := fun (B : Nat) (w : World) h hB => sUnitsIn_any uA un uc B vs nm w h hB (by omega) du.nm
      have hsys := fun (B : Nat) (w : World) h hB => iIsSystem_any uA un uc B vs w h hB (by omega) du.nm du.row.cap du.row.max
      have hi1 := hi nm
      have hpos := fun h => uni_pos (us := vs) (nm := nm) h
      generalize (uniV vs nm).1 = UV at hi1 hs hpos
      generalize (uniV vs nm).2 = fine at hi1 hs hpos
      have HI := Lib.hid hi
      have HI1 := Lib.hid hi1
      have HS := Lib.hid hs
      have HSYS := Lib.hid hsys
      have HPOS := Lib.hid hpos
      have DU1 := Lib.hid du
      have fk : (fine != fine) = false := by simp
      have fk2 : (UV != UV) = false := by simp
      clear hi hs hi1 hsys hpos du db J8
      go_wp2_with fail
      refine (HI1.out _ u1 DU1.out.row.reads (Nat.le_refl _)).mono ?_
      rintro e u2 ⟨rfl, h2⟩
      have DU2 := Lib.hid (DU1.out.later h2)
      go_wp2_with fail
      refine (HS.out _ u2 DU2.out.row.reads (Nat.le_refl _)).mono ?_
      rintro e u3 ⟨rfl, h3⟩
      have DU3 := Lib.hid (DU2.out.later h3)
      have J10 := Lib.hid (ext_trans J9.out (ext_trans h2 h3))
      clear h2 h3 DU1 DU2 J9 HI1 HS
      go_upto_region 16 with fail
      go_cut [133] from 119 to 133 (fun s wx => s = .bool false ∧ wx = u3)
      case first =>
        cases fine
        · go_wp2_with fail
          go_meet
          first | exact ⟨rfl, rfl⟩ | exact ⟨by simp, rfl⟩
        · have hU := HPOS.out rfl
          have hU1 : ¬ UV < 1 := by omega
          go_wp2_with fail
          go_meet
          first | exact ⟨rfl, rfl⟩ | exact ⟨by simp <;> omega, rfl⟩
      case rest =>
        obtain ⟨rfl, hwc⟩ := hcut
        have hwc := hwc.symm
        subst hwc
        clear HPOS fk fk2
        go_upto_block 0 with fail
        go_cut [20, 21, 22, 23] from 134 to 161 (fun _ _ _ _ wx => Below u3.heap.size u3 wx)
        case first =>
          cases hsy : sysB vs
          · rw [hsy] at HSYS
            clear hsy HI
            by_cases hd0 : 0 < un
            · have hd1 : (0 : Int) < un := by omega
              have hd2 : decide ((0 : Int) < un) = true := by simp; omega
              go_wp2_with fail
              go_loopw [20, 21] (fun l i wr => l = .int .i64 0 ∧ i = .int .i64 0 ∧ wr = u3) (fun _ _ _ => 0)
              case atStart => exact ⟨rfl, rfl, rfl⟩
              case round =>
                obtain ⟨rfl, rfl, hwr⟩ := hrel
                subst hwr
                go_wp2_with fail
                refine (HSYS.out _ _ DU3.out.row.reads (Nat.le_refl _)).mono ?_
                rintro e u4 ⟨rfl, h4⟩
                have H4 := Lib.hid h4
                clear h4
                go_wp2_with fail
                go_meet
                exact H4.out
            · have hd1 : ¬ (0 : Int) < un := by omega
              have hd2 : decide ((0 : Int) < un) = false := by simp; omega
              go_wp2_with fail
              go_loopw [20, 21] (fun l i wr => l = .int .i64 0 ∧ i = .int .i64 0 ∧ wr = u3) (fun _ _ _ => 0)
              case atStart => exact ⟨rfl, rfl, rfl⟩
              case round =>
                obtain ⟨rfl, rfl, hwr⟩ := hrel
                subst hwr
                go_wp2_with fail
                go_meet
                exact Below.refl _ _
          · rw [hsy] at HSYS
            have HSY := Lib.hid hsy
            clear hsy
            go_wp2_with fail
            go_loopw [20, 21] (fun l i wr => ∃ j : Nat, l = .int .i64 (lastP vs j) ∧ i = .int .i64 (j : Int) ∧ j ≤ un ∧ Below u3.heap.size u3 wr) (fun _ i _ => un - (intOf i).toNat)
            case atStart => exact ⟨0, rfl, rfl, by omega, Below.refl _ _⟩
            case round =>
              obtain ⟨wq, rfl⟩ : ∃ wq : World, wq = wr := ⟨_, rfl⟩
              obtain ⟨j, rfl, rfl, hj, hb⟩ := hrel
              have HB := Lib.hid hb
              have DUQ := Lib.hid (DU3.out.later hb)
              have j0 : (0 : Int) ≤ j := by omega
              clear hb
              by_cases hlt : j < un
              · have j1 : (j : Int) < un := by omega
                obtain ⟨b, o, x, hAx, hx, hc0, _⟩ := DUQ.out.row.reads.unt hlt
                have HUN := Lib.hid (uni_at HSY.out hx)
                have hgr := prod_grow HSY.out hx
                have HLN := Lib.hid (lastP_next vs j)
                have hix := HI.out x.nm
                rw [HUN.out] at hix
                generalize hP : prodTo vs (j + 1) = P at hgr HLN hix
                generalize hLP : lastP vs j = LP at hgr ⊢
                have hgr1 : ¬ P ≤ LP := by omega
                have HIX := Lib.hid hix
                subst hAx
                clear hx hix hP hLP
                go_wp2_with fail
                refine (HSYS.out _ _ DUQ.out.row.reads (Nat.le_refl _)).mono ?_
                rintro e u4 ⟨rfl, h4⟩
                have DU4 := Lib.hid (DUQ.out.later h4)
                have H4 := Lib.hid (ext_trans HB.out h4)
                have d0 := below_cell h4 hc0
                clear h4 hc0
                go_wp2_with fail
                refine (HIX.out _ _ DU4.out.row.reads (Nat.le_refl _)).mono ?_
                rintro e u5 ⟨rfl, h5⟩
                have H5 := Lib.hid (ext_trans H4.out h5)
                clear h5 d0
                go_wp2_with fail
                go_roundw
                case rel => exact ⟨j + 1, by rw [HLN.out], by go_num, by omega, H5.out⟩
                case measure => simp [intOf]; omega
              · have hnk : ¬ (j : Int) < un := by omega
                go_wp2_with fail
                go_meet
                exact HB.out
        case rest =>
          have J11 := Lib.hid (ext_trans J10.out hcut)
          clear hcut DU3 J10 HI HSYS hfew
          go_wp2_with fail
          refine (DrawConvertTo_any A n c w.heap.size _ (HC.out.below J11.out) J11.out.size).mono ?_
          rintro e a1 ⟨sA, sn, sc, us, D, m, k, zs, A3, n3, c3, ws, p, q, rfl, du, da, du3, db⟩
          have hfew := du.few
          have hfea := da.few
          have hfe3 := du3.few
          have hba := ext_alloc (Below.refl a1.heap.size a1) (.cells #[.slice D m k] 28)
          have hk := Blk.new a1 28 #[.slice D m k]
          have DU2 := Lib.hid (du.later hba)
          have DA2 := Lib.hid (da.later hba)
          have DV2 := Lib.hid (du3.later hba)
          have J2 := Lib.hid (ext_trans (ext_trans J11.out db) hba)
          generalize hw2 : a1.alloc (.cells #[.slice D m k] 28) = a2 at hba hk DU2 DA2 DV2 J2
          have K42 := Lib.hid hk
          have HW2 := Lib.hid hw2
          have hi := fun (B B2 B3 : Nat) (w : World) h hB h2 hB2 h3 hB3 => iConvertTo_any sA sn sc B us D m k B2 zs A3 n3 c3 B3 ws p q w h hB (by omega) du.nm h2 hB2 (by omega) h3 hB3 (by omega) du3.nm du.row.cap du.row.max du3.row.cap du3.row.max
          have hs := fun (B B2 B3 : Nat) (w : World) h hB h2 hB2 h3 hB3 => sConvertTo_any sA sn sc B us D m k B2 zs A3 n3 c3 B3 ws p q w h hB (by omega) du.nm h2 hB2 (by omega) h3 hB3 (by omega) du3.nm
          generalize (cnvV us zs ws p q).1 = CL at hi hs
          generalize (cnvV us zs ws p q).2 = told at hi hs
          have HI := Lib.hid hi
          have HS := Lib.hid hs
          have fk : (told != told) = false := by simp
          clear hw2 hk hba du da du3 db hi hs J11
          go_wp2_with fail
          rw [HW2.out]
          refine (HI.out _ _ _ a2 DU2.out.row.reads (Nat.le_refl _) DA2.out.row.reads (Nat.le_refl _) DV2.out.row.reads (Nat.le_refl _)).mono ?_
          rintro e a3 ⟨t1, m1, k1, rfl, acc1⟩
          have hcap1 := acc_cap acc1
          have hl1 := acc1.len
          have hba := ext_alloc (Below.refl a3.heap.size a3) (.cells #[.slice t1 m1 k1] 28)
          have hk := Blk.new a3 28 #[.slice t1 m1 k1]
          have hbe := ext_trans acc1.ext hba
          have DU4 := Lib.hid (DU2.out.later hbe)
          have DA4 := Lib.hid (DA2.out.later hbe)
          have DV4 := Lib.hid (DV2.out.later hbe)
          have J4 := Lib.hid (ext_trans J2.out hbe)
          have K44 := Lib.hid (K42.out.below hbe K42.out.lt)
          have A14 := Lib.hid (acc1.later hba)
          have y4 := K44.out.cell 0
          simp only [List.getElem?_toArray, List.getElem?_cons_zero] at y4
          generalize hw4 : a3.alloc (.cells #[.slice t1 m1 k1] 28) = a4 at hba hk hbe DU4 DA4 DV4 J4 K44 A14
          have K64 := Lib.hid hk
          have HW4 := Lib.hid hw4
          clear hw4 hk hba hbe acc1 HI DU2 DA2 DV2 J2 K42 HW2
          go_wp2_with fail
          rw [HW4.out]
          refine (HS.out _ _ _ a4 DU4.out.row.reads (Nat.le_refl _) DA4.out.row.reads (Nat.le_refl _) DV4.out.row.reads (Nat.le_refl _)).mono ?_
          rintro e a5 ⟨t2, m2, k2, rfl, acc2⟩
          have hl2 := acc2.len
          obtain rfl : m2 = m1 := by omega
          have hba := ext_alloc (Below.refl a5.heap.size a5) (.cells #[.slice t2 m2 k2] 28)
          have hbe := ext_trans acc2.ext hba
          have J6 := Lib.hid (ext_trans J4.out hbe)
          have K66 := Lib.hid (K64.out.below hbe K64.out.lt)
          have A16 := Lib.hid (A14.out.later hbe)
          have A26 := Lib.hid (acc2.later hba)
          have y6 := K66.out.cell 0
          simp only [List.getElem?_toArray, List.getElem?_cons_zero] at y6
          generalize hw6 : a5.alloc (.cells #[.slice t2 m2 k2] 28) = a6 at hba hbe J6 K66 A16 A26
          have HW6 := Lib.hid hw6
          clear hw6 hba hbe acc2 HS DU4 DA4 DV4 J4 K44 K64 A14 HW4 y4 hl1 hl2
          go_wp2_with fail
          rw [HW6.out]
          refine (rAmount_same t1 t2 m2 k1 k2 _ _ CL a6 A16.out.reads A26.out.reads (Nat.le_refl _) (Nat.le_refl _) (by omega)).mono ?_
          rintro e a7 ⟨rfl, h7⟩
          have J7 := Lib.hid (ext_trans J6.out h7)
          clear h7 J6 K66 A16 A26 HW6 y6 hcap1 hfew hfea hfe3
          go_wp2_with fail
          refine (DrawAmountText_any A n c w.heap.size _ (HC.out.below J7.out) J7.out.size).mono ?_
          rintro e d1 ⟨vA, vn, vc, xs, E, l, h, es, rfl, du, da, db⟩
          have hfew := du.few
          have hfea := da.few
          have hba := ext_alloc (Below.refl d1.heap.size d1) (.cells #[.slice E l h] 28)
          have hk := Blk.new d1 28 #[.slice E l h]
          have DU2 := Lib.hid (du.later hba)
          have DA2 := Lib.hid (da.later hba)
          have J2 := Lib.hid (ext_trans (ext_trans J7.out db) hba)
          generalize hw2 : d1.alloc (.cells #[.slice E l h] 28) = d2 at hba hk DU2 DA2 J2
          have K2 := Lib.hid hk
          have HW2 := Lib.hid hw2
          have hi := fun (B B2 : Nat) (w : World) h1 hB h2 hB2 => iAmountText_any vA vn vc B xs E l h B2 es w h1 hB (by omega) du.nm du.row.cap du.row.max h2 hB2 (by omega)
          have hs := fun (B B2 : Nat) (w : World) h1 hB h2 hB2 => sAmountText_any vA vn vc B xs E l h B2 es w h1 hB (by omega) du.nm h2 hB2 (by omega)
          have ha := fun (B B2 : Nat) (w : World) h1 hB h2 hB2 => iIsAmount_any vA vn vc B xs E l h B2 es w h1 hB (by omega) du.nm du.row.cap du.row.max h2 hB2 (by omega)
          rw [txt_known] at hi hs
          generalize (textV xs es).1 = TX at hi hs
          generalize amtB xs es = kn at hi hs ha
          have HI := Lib.hid hi
          have HS := Lib.hid hs
          have HA := Lib.hid ha
          have fk : (kn != kn) = false := by simp
          have tk : (TX.toList != TX.toList) = false := by simp
          have tk2 : (TX.toList == TX.toList) = true := by simp
          clear hw2 hk hba du da db hi hs ha J7
          go_wp2_with fail
          rw [HW2.out]
          refine (HI.out _ _ d2 DU2.out.row.reads (Nat.le_refl _) DA2.out.row.reads (Nat.le_refl _)).mono ?_
          rintro e d3 ⟨rfl, h3⟩
          have DU3 := Lib.hid (DU2.out.later h3)
          have DA3 := Lib.hid (DA2.out.later h3)
          have J3 := Lib.hid (ext_trans J2.out h3)
          have K3 := Lib.hid (K2.out.below h3 K2.out.lt)
          have x3 := K3.out.cell 0
          simp only [List.getElem?_toArray, List.getElem?_cons_zero] at x3
          clear h3 DU2 DA2 J2 K2 HW2 HI
          go_wp2_with fail
          refine (HS.out _ _ d3 DU3.out.row.reads (Nat.le_refl _) DA3.out.row.reads (Nat.le_refl _)).mono ?_
          rintro e d4 ⟨rfl, h4⟩
          have DU4 := Lib.hid (DU3.out.later h4)
          have DA4 := Lib.hid (DA3.out.later h4)
          have J4 := Lib.hid (ext_trans J3.out h4)
          have x4 := (K3.out.below h4 K3.out.lt).cell 0
          simp only [List.getElem?_toArray, List.getElem?_cons_zero] at x4
          clear h4 DU3 DA3 J3 K3 HS x3
          go_wp2_with fail
          refine (HA.out _ _ d4 DU4.out.row.reads (Nat.le_refl _) DA4.out.row.reads (Nat.le_refl _)).mono ?_
          rintro e d5 ⟨rfl, h5⟩
          have J5 := Lib.hid (ext_trans J4.out h5)
          clear h5 DU4 DA4 J4 HA x4 hfew hfea
          go_wp2_with fail
          refine (DrawValueIn_any A n c w.heap.size _ (HC.out.below J5.out) J5.out.size).mono ?_
          rintro e g1 ⟨rA, rn, rc, ys, F, l2, h2, fs, rfl, du, da, db⟩
          have hfew := du.few
          have hfea := da.few
          have hba := ext_alloc (Below.refl g1.heap.size g1) (.cells #[.slice F l2 h2] 28)
          have hk := Blk.new g1 28 #[.slice F l2 h2]
          have DU2 := Lib.hid (du.later hba)
          have DA2 := Lib.hid (da.later hba)
          have J6 := Lib.hid (ext_trans (ext_trans J5.out db) hba)
          generalize hw2 : g1.alloc (.cells #[.slice F l2 h2] 28) = g2 at hba hk DU2 DA2 J6
          have K2 := Lib.hid hk
          have HW2 := Lib.hid hw2
          have hi := fun (B B2 : Nat) (w : World) h1 hB h3 hB2 => iValueIn_any rA rn rc B ys F l2 h2 B2 fs w h1 hB (by omega) du.nm du.row.cap du.row.max h3 hB2 (by omega)
          have hs := fun (B B2 : Nat) (w : World) h1 hB h3 hB2 => sValueIn_any rA rn rc B ys F l2 h2 B2 fs w h1 hB (by omega) du.nm h3 hB2 (by omega)
          generalize valA ys fs = V2 at hi hs
          generalize amtB ys fs = kn2 at hi hs
          have HI := Lib.hid hi
          have HS := Lib.hid hs
          have ck : (kn2 == kn2) = true := by simp
          have ck2 : (V2 == V2) = true := by simp
          clear hw2 hk hba du da db hi hs J5
          go_wp2_with fail
          rw [HW2.out]
          refine (HI.out _ _ g2 DU2.out.row.reads (Nat.le_refl _) DA2.out.row.reads (Nat.le_refl _)).mono ?_
          rintro e g3 ⟨rfl, h3⟩
          have DU3 := Lib.hid (DU2.out.later h3)
          have DA3 := Lib.hid (DA2.out.later h3)
          have J7 := Lib.hid (ext_trans J6.out h3)
          have x3 := (K2.out.below h3 K2.out.lt).cell 0
          simp only [List.getElem?_toArray, List.getElem?_cons_zero] at x3
          clear h3 DU2 DA2 J6 K2 HW2 HI
          go_wp2_with fail
          refine (HS.out _ _ g3 DU3.out.row.reads (Nat.le_refl _) DA3.out.row.reads (Nat.le_refl _)).mono ?_
          rintro e g4 ⟨rfl, h4⟩
          have J8 := Lib.hid (ext_trans J7.out h4)
          clear h4 x3
          go_wp2_with fail
          go_ret
          exact ⟨by first | rfl | simp, J8.out⟩
end Go.Proofs.Ythigfbhkdegfkaa
