/- FnFees: more siblings never make a fee greater, balances are what is paid less the fees, and months have all fees. No condition. -/
import Derived.Test.YtbjmpllnkkfgfaaFeesP
import Derived.Test.YtbjmpllnkkfgfaaDrawA
import Derived.Test.YtbjmpllnkkfgfaaRsA
import Derived.Test.YtbjmpllnkkfgfaaAccs2
import Derived.Deep.CutRange
import Derived.Deep.CutBlock
namespace Go.Proofs.Ytbjmpllnkkfgfaa
open Go.RowKit

theorem quiet_r {P : Program} {f : FuncId} {args : Array Value} {w : World} {n : Nat} {v : Value}
    (h : Calls P f args (w.drewN n) fun e w' => e = .returned v ∧ w.drewN n = w') : Calls P f args (w.drewN n) fun e w'' => e = .returned v ∧ ∃ m, w'' = w.drewN m :=
  h.mono fun _ _ ⟨he, hm⟩ => ⟨he, n, hm.symm⟩
set_option maxRecDepth 100000 in
set_option maxHeartbeats 16000000 in
theorem FnFees_any (A : Option Addr) (n c : Nat) (w : World) (hcode : CodeOk w w.heap.size A n) :
    Calls Try.prog 14 #[.slice A n c] w fun e w' => e = .returned (.bool true) ∧ Below w.heap.size w w' := by
  have HC := Lib.hid hcode
  clear hcode
  cases hbig : bigR n
  rotate_left
  · go_enter Try.func14, Try.ntmps14
    go_wp2_with fail
    refine (rBig_any A n c _).mono ?_
    rintro e w' ⟨rfl, rfl⟩
    go_wp2_with fail
    go_ret
    exact ⟨rfl, Below.refl _ _⟩
  · go_enter Try.func14, Try.ntmps14
    go_wp2_with fail
    refine (rBig_any A n c _).mono ?_
    rintro e w' ⟨rfl, rfl⟩
    go_wp2_with fail
    refine (DrawFeeOf_any A n c w.heap.size _ HC.out (Nat.le_refl _)).mono ?_
    rintro e t1 ⟨z0, z1, z2, z3, z4, price, rfl, db⟩
    obtain ⟨fee, ok, less, one, hf, hg, hle⟩ := fee_more z0 z1 z2 z3 z4 price
    have hi := fun (w : World) => iFeeOf_any z0 z1 z2 z3 z4 price w
    have hs := fun (w : World) => sFeeOf_any z0 z1 z2 z3 z4 price w
    have hm := fun (w : World) => iFeeOf_any z0 z1 z2 (wrap64 (z3 + 1)) z4 price w
    rw [hf] at hi hs
    rw [hg] at hm
    have HI := Lib.hid hi
    have HS := Lib.hid hs
    have HM := Lib.hid hm
    have HLE := Lib.hid hle
    have JD := Lib.hid (ext_alloc db (.cells #[.int .i64 z0, .int .i64 z1, .int .i64 z2, .int .i64 z3, .int .i64 z4] 25))
    have hB := Blk.new t1 25 #[.int .i64 z0, .int .i64 z1, .int .i64 z2, .int .i64 z3, .int .i64 z4]
    have HB := Lib.hid hB
    have hbw : w.heap.size ≤ t1.heap.size := db.size
    obtain ⟨x0, x1, x2, x3, x4⟩ := box_cells t1 25 ⟨z0, z1, z2, z3, z4⟩
    dsimp only at x0 x1 x2 x3 x4
    clear hi hs hm hf hg hle db hB hbig
    go_wp2_with fail
    refine (HI.out _).mono ?_
    rintro e t2 ⟨rfl, h2⟩
    have hl := HB.out.lt
    have HB := Lib.hid (HB.out.below h2 hl)
    have J2 := Lib.hid (ext_trans JD.out h2)
    clear x0 x1 x2 x3 x4 h2 hl
    have x0 := HB.out.cell 0
    have x1 := HB.out.cell 1
    have x2 := HB.out.cell 2
    have x3 := HB.out.cell 3
    have x4 := HB.out.cell 4
    simp only [List.getElem?_toArray, List.getElem?_cons_zero, List.getElem?_cons_succ] at x0 x1 x2 x3 x4

    go_wp2_with fail
    refine (HS.out _).mono ?_
    rintro e t3 ⟨rfl, h3⟩
    have hl := HB.out.lt
    have HB := Lib.hid (HB.out.below h3 hl)
    have J3 := Lib.hid (ext_trans J2.out h3)
    clear x0 x1 x2 x3 x4 h3 hl
    generalize t1.heap.size = bx at *
    have J4 := Lib.hid (ext_alloc J3.out (.cells #[.int .i64 z0, .int .i64 z1, .int .i64 z2, .int .i64 z3, .int .i64 z4] 25))
    have hbz : w.heap.size ≤ t3.heap.size := J3.out.size
    have fk : (ok != ok) = false := by simp
    have hB9 := Blk.new t3 25 #[.int .i64 z0, .int .i64 z1, .int .i64 z2, .int .i64 z3, .int .i64 z4]
    have hBx := HB.out.alloc (.cells #[.int .i64 z0, .int .i64 z1, .int .i64 z2, .int .i64 z3, .int .i64 z4] 25)
    have f3 := hB9.frozen 3
    have v0 := HB.out.cell 0
    have v1 := HB.out.cell 1
    have v2 := HB.out.cell 2
    have v3 := HB.out.cell 3
    have v4 := HB.out.cell 4
    simp only [List.getElem?_toArray, List.getElem?_cons_zero, List.getElem?_cons_succ] at v0 v1 v2 v3 v4
    have x0 := hBx.cell 0
    have x1 := hBx.cell 1
    have x2 := hBx.cell 2
    have x3 := hBx.cell 3
    have x4 := hBx.cell 4
    simp only [List.getElem?_toArray, List.getElem?_cons_zero, List.getElem?_cons_succ] at x0 x1 x2 x3 x4
    have y0 := hB9.cell 0
    have y1 := hB9.cell 1
    have y2 := hB9.cell 2
    have y3 := hB9.cell 3
    have y4 := hB9.cell 4
    simp only [List.getElem?_toArray, List.getElem?_cons_zero, List.getElem?_cons_succ] at y0 y1 y2 y3 y4
    clear HB J2 HI HS J4 hB9 hBx
    go_wp2_with fail
    refine (HM.out _).mono ?_
    rintro e t4 ⟨rfl, h4⟩
    have J4 := Lib.hid (ext_trans (ext_alloc J3.out _) h4)
    clear h4 HM J3 x0 x1 x2 x3 x4 v0 v1 v2 v3 v4 y0 y1 y2 y3 y4 f3 hbz hbw JD
    go_upto_region 11 with fail
    go_cut [85] from 77 to 85 (fun s wx => s = .bool false ∧ wx = t4)
    case first =>
      cases ok
      · go_wp2_with fail
        go_meet
        exact ⟨rfl, rfl⟩
      · cases one
        · go_wp2_with fail
          go_meet
          exact ⟨rfl, rfl⟩
        · have hl := HLE.out rfl rfl
          have hl1 : ¬ fee < less := by omega
          go_wp2_with fail
          go_meet
          exact ⟨by simp <;> omega, rfl⟩
    case rest =>
      obtain ⟨rfl, rfl⟩ := hcut
      clear HLE fk
      go_wp2_with fail
      refine (DrawMonthSums_any A n c w.heap.size _ (HC.out.below J4.out) J4.out.size).mono ?_
      rintro e a1 ⟨aA, an, ac, al, ap, rfl, ad, ah⟩
      have R1 := Lib.hid ad.reads
      have J1 := Lib.hid (ext_trans J4.out ad.ext)
      have hal := ad.reads.acctLen
      have hi := fun (A : Option Addr) (n c B : Nat) (w : World) h hB hn => iMonthSums_any A n c B al ap w h hB hn
      have hs := fun (A : Option Addr) (n c B : Nat) (w : World) h hB hn => sMonthSums_any A n c B al ap w h hB hn
      have hlen := monL_len ap al
      have hlet := fun (h : monOk ap al = true) => months_letters h
      have hpar := fun (h : monOk ap al = true) => monOk_parts h
      have hnil := fun (h : monOk ap al = false) => monL_none h
      obtain ⟨hr1, hr2⟩ := months_rows ap al
      generalize monL ap al = rows at *
      generalize monOk ap al = mok at *
      have HI := Lib.hid hi
      have HS := Lib.hid hs
      have HLET := Lib.hid hlet
      have HPAR := Lib.hid hpar
      have HNIL := Lib.hid hnil
      have E2 := Lib.hid hr1
      have E3 := Lib.hid hr2
      have HAL := Lib.hid hal
      have te := decide_eq_true (rfl : rows = rows)
      have fk : (mok != mok) = false := by simp
      clear hi hs hlet hpar hnil hr1 hr2 ad J4 hal
      go_wp2_with fail
      refine (HI.out aA an ac _ _ R1.out (Nat.le_refl _) (by omega)).mono ?_
      rintro e a2 ⟨rA, rn, rc, hs1, rfl, h2⟩
      have R2 := Lib.hid (R1.out.below h2.ext)
      go_wp2_with fail
      refine (HS.out aA an ac _ _ R2.out h2.ext.size (by omega)).mono ?_
      rintro e a3 ⟨uA, un, uc, hs2, rfl, h3⟩
      have hrr : rows.length = rn := h2.reads.rlen
      have hrn : rn ≤ 20 := by have := HAL.out; omega
      have hun : un ≤ 20 := by have := h3.reads.rlen; have := HAL.out; omega
      have Q1 := Lib.hid (h2.reads.below h3.ext)
      have Q2 := Lib.hid h3.reads
      have J3 := Lib.hid (ext_trans J1.out (ext_trans h2.ext h3.ext))
      have R3 := Lib.hid (R2.out.below (h3.ext.mono h2.ext.size))
      have HRR := Lib.hid hrr
      have hz1 : a1.heap.size ≤ a3.heap.size := Nat.le_trans h2.ext.size h3.ext.size
      have hz2 := h3.ext.size
      clear h2 h3 R1 R2 J1 HI HS hrr hlen
      go_wp2_with fail
      refine (rTable_any rA uA rn un rc uc _ _ hs1 hs2 rows rows _ Q1.out Q2.out (by unfold maxLen; omega) (by unfold maxLen; omega)).mono ?_
      rintro e w' ⟨rfl, u, rfl⟩
      have JA := Lib.hid (ext_drewN J3.out u)
      have hz1' : a1.heap.size ≤ (a3.drewN u).heap.size := hz1
      have hz2' : a2.heap.size ≤ (a3.drewN u).heap.size := hz2
      have R4 := Lib.hid ((R3.out.drewN u).more hz1')
      have Q4 := Lib.hid (Q1.out.drewN u)
      clear Q1 Q2 J3 R3 hz1 hz2 hz1'
      generalize a3.drewN u = a4 at *
      go_upto_block 0 with fail
      go_cut [18] from 112 to 140 (fun s wx => ∃ S : Int, s = .int .i64 S ∧ 0 ≤ S ∧ S ≤ 1097500 ∧ S - rowS rows = 0 ∧ Below a4.heap.size a4 wx)
      case first =>
        cases mok
        · obtain rfl := HNIL.out rfl
          clear HLET HPAR HNIL
          by_cases hd0 : 0 < an
          · have hd1 : (0 : Int) < an := by omega
            have hd2 : decide ((0 : Int) < an) = true := by simp; omega
            go_wp2_with fail
            go_loopw [18, 19] (fun s i wr => s = .int .i64 0 ∧ i = .int .i64 0 ∧ Below a4.heap.size a4 wr) (fun _ _ _ => 0)
            case atStart => exact ⟨rfl, rfl, Below.refl _ _⟩
            case round =>
              obtain ⟨rfl, rfl, hb⟩ := hrel
              have HB := Lib.hid hb
              clear hb
              go_wp2_with fail
              go_meet
              exact ⟨0, rfl, by omega, by omega, by simp [rowS], HB.out⟩
          · have hd1 : ¬ (0 : Int) < an := by omega
            have hd2 : decide ((0 : Int) < an) = false := by simp; omega
            go_wp2_with fail
            go_loopw [18, 19] (fun s i wr => s = .int .i64 0 ∧ i = .int .i64 0 ∧ Below a4.heap.size a4 wr) (fun _ _ _ => 0)
            case atStart => exact ⟨rfl, rfl, Below.refl _ _⟩
            case round =>
              obtain ⟨rfl, rfl, hb⟩ := hrel
              have HB := Lib.hid hb
              clear hb
              go_wp2_with fail
              go_meet
              exact ⟨0, rfl, by omega, by omega, by simp [rowS], HB.out⟩
        · obtain ⟨e0, e1, _⟩ := HLET.out rfl
          obtain ⟨p0, _, p2⟩ := HPAR.out rfl
          have E0 := Lib.hid e0
          have E1 := Lib.hid e1
          have HOK := Lib.hid p0
          have HP := Lib.hid p2
          clear e0 e1 p0 p2 HLET HPAR HNIL
          go_wp2_with fail
          go_loopw [18, 19] (fun s i wr => ∃ k : Nat, s = .int .i64 (ffS ap (al.take k)) ∧ i = .int .i64 (k : Int) ∧ k ≤ an ∧ Below a4.heap.size a4 wr) (fun _ i _ => an - (intOf i).toNat)
          case atStart => exact ⟨0, by simp [ffS, feesS, paidS], rfl, by omega, Below.refl _ _⟩
          case round =>
            obtain ⟨wq, rfl⟩ : ∃ wq : World, wq = wr := ⟨_, rfl⟩
            obtain ⟨k, rfl, rfl, hk, hb⟩ := hrel
            have HB := Lib.hid hb
            have RQ := Lib.hid (R4.out.below hb)
            have k0 : (0 : Int) ≤ k := by omega
            obtain ⟨s0, s1⟩ := E1.out k
            clear hb
            by_cases hlt : k < an
            · obtain ⟨b, o, x, hAx, hx, hc0, hc1, hc2, hc3, hc4⟩ := RQ.out.acct hlt
              subst hAx
              have hxo := HOK.out x (List.mem_of_getElem? hx)
              obtain ⟨_, _, _, _, _, _, _, _, d0, d1⟩ := Acct.ok_parts hxo
              obtain ⟨v0, v1⟩ := Acct.fee_bd hxo HP.out
              have HN := Lib.hid (ffS_at (price := ap) hx)
              have hf := fun (w : World) => iFeeOf_any x.p x.m x.l x.s x.d ap w
              rw [feeT_ok hxo HP.out] at hf
              have HF := Lib.hid hf
              have k1 : (k : Int) < an := by omega
              clear hxo hx hf
              generalize ffS ap (al.take k) = sk at *
              generalize feeV x.l x.s ap = fv at *
              go_wp2_with fail
              refine (HF.out _).mono ?_
              rintro e w5 ⟨rfl, h5⟩
              have HX := Lib.hid (below_cell h5 hc4)
              have HB := Lib.hid (ext_trans HB.out h5)
              clear hc0 hc1 hc2 hc3 hc4 h5
              have hc4 := HX.out
              go_wp2_with fail
              go_roundw
              case rel => exact ⟨k + 1, by rw [HN.out], by go_num, by omega, HB.out⟩
              case measure => simp [intOf]; omega
            · have hk' : al.take k = al := List.take_of_length_le (by have := HAL.out; omega)
              rw [hk'] at s0 s1 ⊢
              have hnk : ¬ (k : Int) < an := by omega
              clear RQ hk'
              go_wp2_with fail
              go_meet
              exact ⟨_, rfl, s0, s1, E0.out, HB.out⟩
      case rest =>
        obtain ⟨S, rfl, s0, s1, hS, hb⟩ := hcut
        have HE0 := Lib.hid hS
        have J5 := Lib.hid (ext_trans JA.out hb)
        have Q5 := Lib.hid (Q4.out.below (hb.mono hz2'))
        clear hS hb R4 Q4 JA HLET HPAR HNIL HAL te fk
        go_wp2_with fail
        go_loopw [18, 22] (fun s i wr => ∃ k m : Nat, i = .int .i64 (k : Int) ∧ k ≤ rn ∧ s = .int .i64 (S - rowS (rows.take k)) ∧ wr = wc.drewN m) (fun _ i _ => rn - (intOf i).toNat)
        case atStart => exact ⟨0, 0, rfl, by omega, by simp [rowS], rfl⟩
        case round =>
          obtain ⟨k, m, rfl, hk, rfl, hwm⟩ := hrel
          have k0 : (0 : Int) ≤ k := by omega
          obtain ⟨t0, t1⟩ := E2.out k
          have Q6 := Lib.hid (show ReadsN wr a2.heap.size rA rn hs1 rows by rw [hwm]; exact Q5.out.drewN m)
          have HM := Lib.hid hwm
          clear hwm
          by_cases hlt : k < rn
          · obtain ⟨b, o, ra, rm, rc', r, rfl, hr, hcell, hrr, hrm, _⟩ := Q6.out.at hlt
            obtain ⟨x, y, z, rfl, x0, x1, y0, y1, z0, z1⟩ := E3.out r (List.mem_of_getElem? hr)
            have hrm2 : rm = 3 := by have := hrr.len; simpa using this.symm
            subst hrm2
            obtain ⟨b', o', zz, rfl, hz, hzc⟩ := hrr.int (show 0 < 3 by omega)
            obtain rfl : x = zz := by simpa using hz
            have HN := Lib.hid (rowS_at hr)
            have hq := fun m' => rSum_any (some ⟨b', o', none⟩) 3 rc' _ [x, y, z] (wr.drewN m') (hrr.drewN m') (by omega) (fun j => by
              match j with
              | 0 => simp
              | 1 => simp; omega
              | 2 => simp; omega
              | j + 3 => simp; omega)
            have HQ := Lib.hid hq
            have hsum : [x, y, z].sum = x + (y + z) := by simp
            have k1 : (k : Int) < rn := by omega
            simp only [hsum, Nat.add_zero] at HQ hzc
            clear hr hrr hz hq
            generalize rowS (rows.take k) = tk at *
            have w1 : IntKind.i64.wrap (S - tk - (x + (y + z))) = S - tk - (x + (y + z)) := IntWalk.i64_in _ ⟨by omega, by omega⟩
            have w2 : IntKind.i64.wrap (S - tk - (x + (y + z)) + x) = S - tk - (x + (y + z)) + x := IntWalk.i64_in _ ⟨by omega, by omega⟩
            have HEQ := Lib.hid (show S - tk - (x + (y + z)) + x = S - rowS (rows.take (k + 1)) by rw [HN.out, hsum]; simp; omega)
            go_wp2_with fail
            go_quiet ((go_at_call 59; exact quiet_r (HQ.out _)))
            go_wp2_with fail
            go_roundw
            case rel => exact ⟨k + 1, _, by go_num, by omega, by rw [HEQ.out], by rw [HM.out]; exact World.drewN_drewN _ _ _⟩
            case measure => simp [intOf]; omega
          · have hk' : rows.take k = rows := List.take_of_length_le (by have := HRR.out; omega)
            rw [hk']
            have hnk2 : ¬ (k : Int) < rn := by omega
            have JA := Lib.hid (show Below w.heap.size w wr by rw [HM.out]; exact ext_drewN J5.out m)
            clear HM Q6 t0 t1 Q5 J5 E2 E3 HRR hk' hk hlt k0
            rw [HE0.out]
            go_wp2_with fail
            refine (DrawBalanceOf_any A n c w.heap.size _ (HC.out.below JA.out) JA.out.size).mono ?_
            rintro e l1 ⟨lA, ln, lc, ll, lp, lq, rfl, ld, lh⟩
            have R1 := Lib.hid ld.reads
            have J1 := Lib.hid (ext_trans JA.out ld.ext)
            have hll := ld.reads.acctLen
            obtain ⟨bal, told, hbt, hto⟩ := balT_parts (pupil := lp) (price := lq) (xs := ll)
            have hi := fun (A : Option Addr) (n c B : Nat) (w : World) h hB hn => iBalanceOf_any A n c B ll lp lq w h hB hn
            have hs := fun (A : Option Addr) (n c B : Nat) (w : World) h hB hn => sBalanceOf_any A n c B ll lp lq w h hB hn
            rw [hbt] at hi hs
            have HI := Lib.hid hi
            have HS := Lib.hid hs
            have HTO := Lib.hid hto
            have HLL := Lib.hid hll
            have fk : (told != told) = false := by simp
            have fk2 : (bal != bal) = false := by simp
            clear hi hs hbt hto ld JA hll
            go_wp2_with fail
            refine (HI.out lA ln lc _ _ R1.out (Nat.le_refl _) (by omega)).mono ?_
            rintro e l2 ⟨rfl, h2⟩
            have R2 := Lib.hid (R1.out.below h2)
            go_wp2_with fail
            refine (HS.out lA ln lc _ _ R2.out h2.size (by omega)).mono ?_
            rintro e l3 ⟨rfl, h3⟩
            have R3 := Lib.hid ((R2.out.below (h3.mono h2.size)).more (Nat.le_trans h2.size h3.size))
            have J3 := Lib.hid (ext_trans J1.out (ext_trans h2 h3))
            clear h2 h3 R1 R2 J1 HI HS
            go_upto_block 4 with fail
            go_cut [26] from 191 to 226 (fun s wx => ∃ z : Int, s = .int .i64 z ∧ (told = true → z = 0) ∧ Below l3.heap.size l3 wx)
            case first =>
              cases told
              · clear HTO
                by_cases hd0 : 0 < ln
                · have hd1 : (0 : Int) < ln := by omega
                  have hd2 : decide ((0 : Int) < ln) = true := by simp; omega
                  go_wp2_with fail
                  go_loopw [26, 30] (fun s i wr => s = .int .i64 bal ∧ i = .int .i64 0 ∧ Below l3.heap.size l3 wr) (fun _ _ _ => 0)
                  case atStart => exact ⟨rfl, rfl, Below.refl _ _⟩
                  case round =>
                    obtain ⟨rfl, rfl, hb⟩ := hrel
                    have HB := Lib.hid hb
                    clear hb
                    go_wp2_with fail
                    go_meet
                    exact ⟨_, rfl, fun h => (by cases h), HB.out⟩
                · have hd1 : ¬ (0 : Int) < ln := by omega
                  have hd2 : decide ((0 : Int) < ln) = false := by simp; omega
                  go_wp2_with fail
                  go_loopw [26, 30] (fun s i wr => s = .int .i64 bal ∧ i = .int .i64 0 ∧ Below l3.heap.size l3 wr) (fun _ _ _ => 0)
                  case atStart => exact ⟨rfl, rfl, Below.refl _ _⟩
                  case round =>
                    obtain ⟨rfl, rfl, hb⟩ := hrel
                    have HB := Lib.hid hb
                    clear hb
                    go_wp2_with fail
                    go_meet
                    exact ⟨_, rfl, fun h => (by cases h), HB.out⟩
              · obtain ⟨p0, p1, p2, rfl⟩ := HTO.out rfl
                have HOK := Lib.hid p0
                have HP := Lib.hid p2
                have hbd := fun k => bal_bd (pupil := lp) p0 p2 rfl (show ll.length ≤ 1048576 by omega) k
                have HBD := Lib.hid hbd
                clear p0 p2 hbd HTO
                go_wp2_with fail
                go_loopw [26, 30] (fun s i wr => ∃ k : Nat, s = .int .i64 (balV lp lq ll - balV lp lq (ll.take k)) ∧ i = .int .i64 (k : Int) ∧ k ≤ ln ∧ Below l3.heap.size l3 wr) (fun _ i _ => ln - (intOf i).toNat)
                case atStart => exact ⟨0, by simp [balV, ownA, paidS, feesS], rfl, by omega, Below.refl _ _⟩
                case round =>
                  obtain ⟨wq, rfl⟩ : ∃ wq : World, wq = wr := ⟨_, rfl⟩
                  obtain ⟨k, rfl, rfl, hk, hb⟩ := hrel
                  have HB := Lib.hid hb
                  have RQ := Lib.hid (R3.out.below hb)
                  have k0 : (0 : Int) ≤ k := by omega
                  have hbk := HBD.out k
                  have hbn := HBD.out ll.length
                  rw [List.take_length] at hbn
                  clear hb
                  by_cases hlt : k < ln
                  · obtain ⟨b, o, x, hAx, hx, hc0, hc1, hc2, hc3, hc4⟩ := RQ.out.acct hlt
                    subst hAx
                    have k1 : (k : Int) < ln := by omega
                    by_cases hid : x.p = lp
                    · have hxo := HOK.out x (List.mem_of_getElem? hx)
                      obtain ⟨_, _, _, _, _, _, _, _, d0, d1⟩ := Acct.ok_parts hxo
                      obtain ⟨v0, v1⟩ := Acct.fee_bd hxo HP.out
                      have HN := Lib.hid (bal_hit (price := lq) hx hid)
                      have hf := fun (w : World) => iFeeOf_any x.p x.m x.l x.s x.d lq w
                      rw [feeT_ok hxo HP.out] at hf
                      have HF := Lib.hid hf
                      have hib : (x.p != lp) = false := by simp [hid]
                      clear hxo hx hf hid
                      generalize balV lp lq (ll.take k) = bk at *
                      generalize balV lp lq ll = bn at *
                      generalize feeV x.l x.s lq = fv at *
                      go_wp2_with fail
                      refine (HF.out _).mono ?_
                      rintro e w5 ⟨rfl, h5⟩
                      have HX := Lib.hid (below_cell h5 hc4)
                      have HB := Lib.hid (ext_trans HB.out h5)
                      clear hc0 hc1 hc2 hc3 hc4 h5
                      have hc4 := HX.out
                      go_wp2_with fail
                      go_roundw
                      case rel => exact ⟨k + 1, by rw [HN.out]; go_num, by go_num, by omega, HB.out⟩
                      case measure => simp [intOf]; omega
                    · have HN := Lib.hid (bal_miss (price := lq) hx hid)
                      have hib : (x.p != lp) = true := by simp [hid]
                      clear hid hx
                      go_wp2_with fail
                      go_roundw
                      case rel => exact ⟨k + 1, by rw [HN.out], by go_num, by omega, HB.out⟩
                      case measure => simp [intOf]; omega
                  · have hk' : ll.take k = ll := List.take_of_length_le (by have := HLL.out; omega)
                    rw [hk']
                    have hnk : ¬ (k : Int) < ln := by omega
                    clear RQ hk'
                    go_wp2_with fail
                    go_meet
                    exact ⟨_, rfl, fun _ => by omega, HB.out⟩
            case rest =>
              obtain ⟨z, rfl, hz, hb⟩ := hcut
              have HZ := Lib.hid hz
              have R5 := Lib.hid (R3.out.below hb)
              have J5 := Lib.hid (ext_trans J3.out hb)
              have hsz := hb.size
              clear hz hb R3 J3 HTO fk fk2
              go_upto_region 45 with fail
              go_cut [231] from 227 to 231 (fun s wx => s = .bool false ∧ wx = wc)
              case first =>
                cases told
                · go_wp2_with fail
                  go_meet
                  exact ⟨rfl, rfl⟩
                · obtain rfl := HZ.out rfl
                  go_wp2_with fail
                  go_meet
                  exact ⟨rfl, rfl⟩
              case rest =>
                obtain ⟨rfl, hwc⟩ := hcut
                subst hwc
                clear HZ
                go_wp2_with fail
                refine (DrawFeeText_any A n c w.heap.size _ (HC.out.below J5.out) J5.out.size).mono ?_
                rintro e t1 ⟨z0, z1, z2, z3, z4, zp, rfl, th⟩
                have JT := Lib.hid (ext_trans J5.out th)
                have R6 := Lib.hid (R5.out.below (th.mono hsz))
                have hsz := Nat.le_trans hsz th.size
                obtain ⟨st, sok, hst⟩ := feeTextT_form ⟨z0, z1, z2, z3, z4⟩ zp
                have hi := fun (w : World) => iFeeText_any ⟨z0, z1, z2, z3, z4⟩ zp w
                have hs := fun (w : World) => sFeeText_any ⟨z0, z1, z2, z3, z4⟩ zp w
                rw [hst] at hi hs
                dsimp only at hi hs
                have ha := fun (A : Option Addr) (n c B : Nat) (w : World) h hB hn => iAreAccounts_any A n c B ll w h hB hn
                have hb := fun (A : Option Addr) (n c B : Nat) (w : World) h hB hn => sAreAccounts_any A n c B ll w h hB hn
                generalize accsB ll = aok at *
                have HI := Lib.hid hi
                have HS := Lib.hid hs
                have HA := Lib.hid ha
                have HBB := Lib.hid hb
                have tk : (sok == sok) = true := by simp
                have tk2 : (st.toList == st.toList) = true := by simp
                have tk3 : (aok == aok) = true := by simp
                clear hi hs hst th ha hb J5 R5
                obtain ⟨x0, x1, x2, x3, x4⟩ := box_cells t1 25 ⟨z0, z1, z2, z3, z4⟩
                dsimp only at x0 x1 x2 x3 x4
                have JT := Lib.hid (ext_alloc JT.out (.cells #[.int .i64 z0, .int .i64 z1, .int .i64 z2, .int .i64 z3, .int .i64 z4] 25))
                have hba := ext_alloc (Below.refl t1.heap.size t1) (.cells #[.int .i64 z0, .int .i64 z1, .int .i64 z2, .int .i64 z3, .int .i64 z4] 25)
                have R6 := Lib.hid (R6.out.below (hba.mono hsz))
                have hsz := Nat.le_trans hsz hba.size
                clear hba
                go_wp2_with fail
                refine (HI.out _).mono ?_
                rintro e t2 ⟨rfl, h2⟩
                have y0 := below_cell h2 x0
                have y1 := below_cell h2 x1
                have y2 := below_cell h2 x2
                have y3 := below_cell h2 x3
                have y4 := below_cell h2 x4
                have R7 := Lib.hid (R6.out.below (h2.mono hsz))
                have hsz := Nat.le_trans hsz h2.size
                have JT := Lib.hid (ext_trans JT.out h2)
                clear x0 x1 x2 x3 x4 h2 R6
                go_wp2_with fail
                refine (HS.out _).mono ?_
                rintro e t3 ⟨rfl, h3⟩
                have R8 := Lib.hid (R7.out.below (h3.mono hsz))
                have hsz := Nat.le_trans hsz h3.size
                have JT := Lib.hid (ext_trans JT.out h3)
                clear y0 y1 y2 y3 y4 h3 R7
                go_wp2_with fail
                refine (HA.out lA ln lc _ _ R8.out hsz (by omega)).mono ?_
                rintro e t4' ⟨rfl, h4⟩
                have R9 := Lib.hid (R8.out.below (h4.mono hsz))
                have hsz := Nat.le_trans hsz h4.size
                have JT := Lib.hid (ext_trans JT.out h4)
                clear h4 R8
                go_wp2_with fail
                refine (HBB.out lA ln lc _ _ R9.out hsz (by omega)).mono ?_
                rintro e t5 ⟨rfl, h5⟩
                have JT := Lib.hid (ext_trans JT.out h5)
                go_wp2_with fail
                go_ret
                exact ⟨by simp, JT.out⟩
end Go.Proofs.Ytbjmpllnkkfgfaa
