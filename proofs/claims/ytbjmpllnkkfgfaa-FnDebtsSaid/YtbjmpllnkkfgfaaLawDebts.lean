/- FnDebts: debtors have negative balances, at the told price the fees are enough and at one less they are not, and a booked lesson is one more. No condition. -/
import Derived.Test.YtbjmpllnkkfgfaaDebtsP
import Derived.Test.YtbjmpllnkkfgfaaDrawB
import Derived.Test.YtbjmpllnkkfgfaaRsA
import Derived.Test.YtbjmpllnkkfgfaaAccs2
import Derived.Deep.CutRange
import Derived.Deep.CutBlock
namespace Go.Proofs.Ytbjmpllnkkfgfaa
open Go.RowKit

set_option maxRecDepth 100000 in
set_option maxHeartbeats 16000000 in
theorem FnDebts_any (A : Option Addr) (n c : Nat) (w : World) (hcode : CodeOk w w.heap.size A n) :
    Calls Try.prog 13 #[.slice A n c] w fun e w' => e = .returned (.bool true) ∧ Below w.heap.size w w' := by
  have HC := Lib.hid hcode
  clear hcode
  cases hbig : bigR n
  rotate_left
  · go_enter Try.func13, Try.ntmps13
    go_wp2_with fail
    refine (rBig_any A n c _).mono ?_
    rintro e w' ⟨rfl, rfl⟩
    go_wp2_with fail
    go_ret
    exact ⟨rfl, Below.refl _ _⟩
  · go_enter Try.func13, Try.ntmps13
    go_wp2_with fail
    refine (rBig_any A n c _).mono ?_
    rintro e w' ⟨rfl, rfl⟩
    go_wp2_with fail
    refine (DrawDebtors_any A n c w.heap.size _ HC.out (Nat.le_refl _)).mono ?_
    rintro e a1 ⟨aA, an, ac, al, ap, rfl, ad, ah⟩
    have R1 := Lib.hid ad.reads
    have J1 := Lib.hid ad.ext
    have hal := ad.reads.acctLen
    have hi := fun (A : Option Addr) (n c B : Nat) (w : World) h hB hn => iDebtors_any A n c B al ap w h hB hn
    have hs := fun (A : Option Addr) (n c B : Nat) (w : World) h hB hn => sDebtors_any A n c B al ap w h hB hn
    have hlen := debtL_len ap al
    have hat := fun (h : debtOk ap al = true) (k : Nat) (x : Acct) (hx : al[k]? = some x) => debts_at h hx
    generalize debtL ap al = ds at *
    generalize debtOk ap al = dok at *
    have HI := Lib.hid hi
    have HS := Lib.hid hs
    have HAT := Lib.hid hat
    have HAL := Lib.hid hal
    have te := decide_eq_true (rfl : ds = ds)
    have te2 : eqB ds ds = true := by simp [eqB]
    have fk : (dok != dok) = false := by simp
    clear hi hs hat hal ad hbig
    go_wp2_with fail
    refine (HI.out aA an ac _ _ R1.out (Nat.le_refl _) (by omega)).mono ?_
    rintro e a2 ⟨rA, rn, rc, rfl, h2⟩
    have R2 := Lib.hid (R1.out.below h2.ext)
    go_wp2_with fail
    refine (HS.out aA an ac _ _ R2.out h2.ext.size (by omega)).mono ?_
    rintro e a3 ⟨uA, un, uc, rfl, h3⟩
    have hrn : rn ≤ 20 := by have := h2.reads.len; have := HAL.out; omega
    have hun : un ≤ 20 := by have := h3.reads.len; have := HAL.out; omega
    have Q1 := Lib.hid (h2.reads.below h3.ext)
    have Q2 := Lib.hid h3.reads
    have J3 := Lib.hid (ext_trans J1.out (ext_trans h2.ext h3.ext))
    have R3 := Lib.hid (R2.out.below (h3.ext.mono h2.ext.size))
    have hz1 : a1.heap.size ≤ a3.heap.size := Nat.le_trans h2.ext.size h3.ext.size
    have hz2 := h3.ext.size
    clear h2 h3 R1 R2 J1 HI HS hlen
    go_wp2_with fail
    refine (rInts_any rA uA rn un rc uc _ _ ds ds _ Q1.out Q2.out (by unfold maxLen; omega) (by unfold maxLen; omega)).mono ?_
    rintro e w' ⟨rfl, u, rfl⟩
    have JA := Lib.hid (ext_drewN J3.out u)
    have hz1' : a1.heap.size ≤ (a3.drewN u).heap.size := hz1
    have hz2' : a2.heap.size ≤ (a3.drewN u).heap.size := hz2
    have R4 := Lib.hid ((R3.out.drewN u).more hz1')
    have Q4 := Lib.hid ((Q1.out.drewN u).more hz2')
    clear Q1 Q2 J3 R3 hz1 hz2 hz1' hz2'
    generalize a3.drewN u = a4 at *
    go_upto_block 0 with fail
    go_cut [9] from 71 to 104 (fun _ wx => Below a4.heap.size a4 wx)
    case first =>
      cases dok
      · clear HAT
        by_cases hd0 : 0 < an
        · have hd1 : (0 : Int) < an := by omega
          have hd2 : decide ((0 : Int) < an) = true := by simp; omega
          go_wp2_with fail
          go_loopw [9] (fun i wr => i = .int .i64 0 ∧ Below a4.heap.size a4 wr) (fun _ _ => 0)
          case atStart => exact ⟨rfl, Below.refl _ _⟩
          case round =>
            obtain ⟨rfl, hb⟩ := hrel
            have HB := Lib.hid hb
            clear hb
            go_wp2_with fail
            go_meet
            exact HB.out
        · have hd1 : ¬ (0 : Int) < an := by omega
          have hd2 : decide ((0 : Int) < an) = false := by simp; omega
          go_wp2_with fail
          go_loopw [9] (fun i wr => i = .int .i64 0 ∧ Below a4.heap.size a4 wr) (fun _ _ => 0)
          case atStart => exact ⟨rfl, Below.refl _ _⟩
          case round =>
            obtain ⟨rfl, hb⟩ := hrel
            have HB := Lib.hid hb
            clear hb
            go_wp2_with fail
            go_meet
            exact HB.out
      · have hat := HAT.out rfl
        have HAT2 := Lib.hid hat
        clear hat HAT
        go_wp2_with fail
        go_loopw [9] (fun i wr => ∃ k : Nat, i = .int .i64 (k : Int) ∧ k ≤ an ∧ Below a4.heap.size a4 wr) (fun i _ => an - (intOf i).toNat)
        case atStart => exact ⟨0, rfl, by omega, Below.refl _ _⟩
        case round =>
          obtain ⟨wq, rfl⟩ : ∃ wq : World, wq = wr := ⟨_, rfl⟩
          obtain ⟨k, rfl, hk, hb⟩ := hrel
          have HB := Lib.hid hb
          have RQ := Lib.hid (R4.out.below hb)
          have QQ := Lib.hid (Q4.out.below hb)
          have hbs := hb.size
          have k0 : (0 : Int) ≤ k := by omega
          clear hb
          by_cases hlt : k < an
          · obtain ⟨b, o, x, hAx, hx, hc0, _, _, _, _⟩ := RQ.out.acct hlt
            subst hAx
            obtain ⟨bal, hbal, hhas⟩ := HAT2.out k x hx
            have hf := fun (A : Option Addr) (n c B : Nat) (w : World) h hB hn => iBalanceOf_any A n c B al x.p ap w h hB hn
            rw [hbal] at hf
            have HF := Lib.hid hf
            have hh := fun (w : World) hr => rHas_any rA rn rc a4.heap.size ds x.p w hr (by unfold maxLen; omega)
            rw [hhas] at hh
            have HH := Lib.hid hh
            have k1 : (k : Int) < an := by omega
            have hm : (decide (bal < 0) != decide (bal < 0)) = false := by simp
            clear hx hf hbal hhas hh
            go_wp2_with fail
            refine (HF.out _ _ _ _ _ RQ.out hbs (by omega)).mono ?_
            rintro e w5 ⟨rfl, h5⟩
            have HX := Lib.hid (below_cell h5 hc0)
            have QZ := Lib.hid (QQ.out.below (h5.mono hbs))
            have HB := Lib.hid (ext_trans HB.out h5)
            clear hc0 h5
            have hc0 := HX.out
            go_wp2_with fail
            refine (HH.out _ QZ.out).mono ?_
            rintro e w6 ⟨rfl, rfl⟩
            go_wp2_with fail
            go_roundw
            case rel => exact ⟨k + 1, by go_num, by omega, HB.out⟩
            case measure => simp [intOf]; omega
          · have hnk : ¬ (k : Int) < an := by omega
            go_wp2_with fail
            go_meet
            exact HB.out
    case rest =>
      have J5 := Lib.hid (ext_trans JA.out hcut)
      clear hcut R4 Q4 JA HAT HAL te te2 fk
      go_wp2_with fail
      refine (DrawPriceFor_any A n c w.heap.size _ (HC.out.below J5.out) J5.out.size).mono ?_
      rintro e b1 ⟨bA, bn, bc, bl, coins, rfl, bd, bh⟩
      have R1 := Lib.hid bd.reads
      have J1 := Lib.hid (ext_trans J5.out bd.ext)
      have hbl := bd.reads.acctLen
      obtain ⟨pr, pok, hpt, hpo⟩ := price_parts (coins := coins) (xs := bl)
      have hi := fun (A : Option Addr) (n c B : Nat) (w : World) h hB hn => iPriceFor_any A n c B bl coins w h hB hn
      have hs := fun (A : Option Addr) (n c B : Nat) (w : World) h hB hn => sPriceFor_any A n c B bl coins w h hB hn
      rw [hpt] at hi hs
      have HI := Lib.hid hi
      have HS := Lib.hid hs
      have HPO := Lib.hid hpo
      have HBL := Lib.hid hbl
      have fk : (pok != pok) = false := by simp
      have fk2 : (pr != pr) = false := by simp
      clear hi hs hpt hpo bd J5 hbl
      go_wp2_with fail
      refine (HI.out bA bn bc _ _ R1.out (Nat.le_refl _) (by omega)).mono ?_
      rintro e b2 ⟨rfl, h2⟩
      have R2 := Lib.hid (R1.out.below h2)
      go_wp2_with fail
      refine (HS.out bA bn bc _ _ R2.out h2.size (by omega)).mono ?_
      rintro e b3 ⟨rfl, h3⟩
      have R3 := Lib.hid ((R2.out.below (h3.mono h2.size)).more (Nat.le_trans h2.size h3.size))
      have J3 := Lib.hid (ext_trans J1.out (ext_trans h2 h3))
      clear h2 h3 R1 R2 J1 HI HS
      go_upto_if 130 with fail
      go_cut [18] from 130 to 175 (fun _ wx => Below b3.heap.size b3 wx)
      case first =>
        cases pok
        · go_wp2_with fail
          go_meet
          exact Below.refl _ _
        · obtain ⟨p0, p1, p2, p3, p4, p5⟩ := HPO.out rfl
          have hbd := fun k => befS_bd p0 p2 p3 p1 k
          have HBD := Lib.hid hbd
          have HOK := Lib.hid p0
          have HP5 := Lib.hid p5
          have HP4 := Lib.hid p4
          have wpr : IntKind.i64.wrap (pr - 1) = pr - 1 := IntWalk.i64_in _ ⟨by omega, by omega⟩
          clear p0 p4 p5 hbd HPO fk fk2
          go_wp2_with fail
          go_loopw [18, 19, 20] (fun s q i wr => ∃ k : Nat, s = .int .i64 (feesS pr (bl.take k)) ∧ q = .int .i64 (befS pr (bl.take k)) ∧ i = .int .i64 (k : Int) ∧ k ≤ bn ∧ Below b3.heap.size b3 wr) (fun _ _ i _ => bn - (intOf i).toNat)
          case atStart => exact ⟨0, by simp [feesS], by simp [befS, feesS], rfl, by omega, Below.refl _ _⟩
          case round =>
            obtain ⟨wq, rfl⟩ : ∃ wq : World, wq = wr := ⟨_, rfl⟩
            obtain ⟨k, rfl, rfl, rfl, hk, hb⟩ := hrel
            have HB := Lib.hid hb
            have RQ := Lib.hid (R3.out.below hb)
            have k0 : (0 : Int) ≤ k := by omega
            obtain ⟨f0, f1, g0, g1⟩ := HBD.out k
            clear hb
            by_cases hlt : k < bn
            · obtain ⟨b, o, x, hAx, hx, hc0, hc1, hc2, hc3, hc4⟩ := RQ.out.acct hlt
              subst hAx
              obtain ⟨fa, fb, one, ha, hb, a0, a1, b0, b1, hst⟩ := two_fees (HOK.out x (List.mem_of_getElem? hx)) p2 p3
              obtain ⟨s1, s2⟩ := hst bl k hx
              have HN1 := Lib.hid s1
              have HN2 := Lib.hid s2
              have hf := fun (w : World) => iFeeOf_any x.p x.m x.l x.s x.d pr w
              have hg := fun (w : World) => iFeeOf_any x.p x.m x.l x.s x.d (pr - 1) w
              rw [ha] at hf
              rw [hb] at hg
              have HF := Lib.hid hf
              have HG := Lib.hid hg
              have k1 : (k : Int) < bn := by omega
              clear hx hf hg ha hb s1 s2 hst
              generalize feesS pr (bl.take k) = sk at *
              generalize befS pr (bl.take k) = qk at *
              go_wp2_with fail
              refine (HF.out _).mono ?_
              rintro e w5 ⟨rfl, h5⟩
              have HX0 := Lib.hid (below_cell h5 hc0)
              have HX1 := Lib.hid (below_cell h5 hc1)
              have HX2 := Lib.hid (below_cell h5 hc2)
              have HX3 := Lib.hid (below_cell h5 hc3)
              have HX4 := Lib.hid (below_cell h5 hc4)
              have HB := Lib.hid (ext_trans HB.out h5)
              clear hc0 hc1 hc2 hc3 hc4 h5
              have hc0 := HX0.out
              have hc1 := HX1.out
              have hc2 := HX2.out
              have hc3 := HX3.out
              have hc4 := HX4.out
              go_wp2_with fail
              refine (HG.out _).mono ?_
              rintro e w6 ⟨rfl, h6⟩
              have HB := Lib.hid (ext_trans HB.out h6)
              clear hc0 hc1 hc2 hc3 hc4 h6
              go_wp2_with fail
              go_roundw
              case rel => exact ⟨k + 1, by rw [HN1.out], by rw [HN2.out], by go_num, by omega, HB.out⟩
              case measure => simp [intOf]; omega
            · have hk' : bl.take k = bl := List.take_of_length_le (by have := HBL.out; omega)
              rw [hk'] at f0 f1 g0 g1 ⊢
              have hnk : ¬ (k : Int) < bn := by omega
              have q1 : ¬ feesS pr bl < coins := by have := HP4.out; omega
              have q2 : decide (feesS pr bl < coins) = false := by simpa using q1
              clear RQ hk'
              by_cases h1 : 1 < pr
              · have q3 : ¬ coins ≤ befS pr bl := fun hh => HP5.out ⟨h1, hh⟩
                have q4 : decide (coins ≤ befS pr bl) = false := by simpa using q3
                have q5 : decide (1 < pr) = true := by simpa using h1
                generalize befS pr bl = qq at *
                generalize feesS pr bl = ss at *
                go_wp2_with fail
                go_meet
                exact HB.out
              · have q5 : decide (1 < pr) = false := by simpa using h1
                generalize befS pr bl = qq at *
                generalize feesS pr bl = ss at *
                go_wp2_with fail
                go_meet
                exact HB.out
      case rest =>
        have J5 := Lib.hid (ext_trans J3.out hcut)
        clear hcut R3 J3 HPO HBL fk fk2
        go_wp2_with fail
        refine (DrawBookLesson_any A n c w.heap.size _ (HC.out.below J5.out) J5.out.size).mono ?_
        rintro e c1 ⟨cA, cn, cc, cl, cp, cm, rfl, cd, ch⟩
        have R1 := Lib.hid cd.reads
        have J1 := Lib.hid (ext_trans J5.out cd.ext)
        have hcl := cd.reads.acctLen
        have hcap := cd.cap
        have hmax := cd.max
        have hi := fun (A : Option Addr) (n c B : Nat) (w : World) h hB hn => iBookLesson_any A n c B cl cp cm w h hB hn
        have hs := fun (A : Option Addr) (n c B : Nat) (w : World) h hB hn hnc hcm => sBookLesson_any A n c B cl cp cm w h hB hn hnc hcm
        have hlet := fun (h : bookOk cp cm cl = true) => book_letters h
        have hlen := bookL_len cp cm cl
        generalize bookL cp cm cl = ks at *
        generalize bookOk cp cm cl = bok at *
        have HI := Lib.hid hi
        have HS := Lib.hid hs
        have HLET := Lib.hid hlet
        have HCL := Lib.hid hcl
        have fk : (bok != bok) = false := by simp
        clear hi hs hlet hcl cd J5
        go_wp2_with fail
        refine (HI.out cA cn cc _ _ R1.out (Nat.le_refl _) (by omega)).mono ?_
        rintro e c2 ⟨rA, rn, rc, rfl, h2⟩
        have R2 := Lib.hid (R1.out.below h2.ext)
        go_wp2_with fail
        refine (HS.out cA cn cc _ _ R2.out h2.ext.size (by omega) hcap hmax).mono ?_
        rintro e c3 ⟨uA, un, uc, rfl, h3⟩
        have hkn : ks.length = rn := h2.reads.acctLen
        have hkn2 : ks.length = un := h3.reads.acctLen
        obtain rfl : un = rn := by omega
        have hrn : un ≤ 20 := by have := HCL.out; omega
        have HKN := Lib.hid hkn
        have Q1 := Lib.hid (h2.reads.below h3.ext)
        have Q2 := Lib.hid h3.reads
        have J3 := Lib.hid (ext_trans J1.out (ext_trans h2.ext h3.ext))
        have R3 := Lib.hid (R2.out.below (h3.ext.mono h2.ext.size))
        have hz2 := h3.ext.size
        clear h2 h3 R1 R2 J1 HI HS hlen hkn hkn2 hcap hmax
        go_wp2_with fail
        refine (rAccounts_same rA uA un rc uc _ _ ks _ Q1.out Q2.out (by omega)).mono ?_
        rintro e w' ⟨rfl, u, rfl⟩
        have JA := Lib.hid (ext_drewN J3.out u)
        have hz2' : c2.heap.size ≤ (c3.drewN u).heap.size := hz2
        have R4 := Lib.hid (R3.out.drewN u)
        have Q4 := Lib.hid ((Q1.out.drewN u).more hz2')
        clear Q1 Q2 J3 R3 hz2 hz2'
        generalize c3.drewN u = c4 at *
        go_upto_if 205 with fail
        go_cut [32] from 205 to 238 (fun _ wx => Below c4.heap.size c4 wx)
        case first =>
          cases bok
          · go_wp2_with fail
            go_meet
            exact Below.refl _ _
          · obtain ⟨l0, l1, l2, l3, l4, l5⟩ := HLET.out rfl
            have E0 := Lib.hid l1
            have HO1 := Lib.hid l2
            have HO2 := Lib.hid l3
            have E4 := Lib.hid l4
            have E5 := Lib.hid l5
            have ha := fun (A : Option Addr) (n c B : Nat) (w : World) h hB hn => iAreAccounts_any A n c B ks w h hB hn
            rw [l0] at ha
            have HAA := Lib.hid ha
            clear l0 l1 l2 l3 l4 l5 ha HLET fk
            go_wp2_with fail
            go_loop [32, 33] (fun s i => ∃ k : Nat, s = .int .i64 (1 + lsnS (cl.take k)) ∧ i = .int .i64 (k : Int) ∧ k ≤ cn) (fun _ i => cn - (intOf i).toNat)
            case atStart => exact ⟨0, by simp [lsnS], rfl, by omega⟩
            case round =>
              obtain ⟨k, rfl, rfl, hk⟩ := hrel
              have k0 : (0 : Int) ≤ k := by omega
              obtain ⟨f0, f1⟩ := E4.out k
              by_cases hlt : k < cn
              · obtain ⟨b, o, x, hAx, hx, _, _, hc2, _, _⟩ := R4.out.acct hlt
                subst hAx
                obtain ⟨_, _, _, _, x0, x1, _⟩ := Acct.ok_parts (HO1.out x (List.mem_of_getElem? hx))
                have HN := Lib.hid (lsnS_at hx)
                have k1 : (k : Int) < cn := by omega
                clear hx
                generalize lsnS (cl.take k) = sk at *
                go_wp2_with fail
                go_round
                case rel => exact ⟨k + 1, by rw [HN.out]; go_num, by go_num, by omega⟩
                case measure => simp [intOf]; omega
              · have hk' : cl.take k = cl := List.take_of_length_le (by have := HCL.out; omega)
                rw [hk'] at f0 f1 ⊢
                have hnk : ¬ (k : Int) < cn := by omega
                clear R4 hk' E4
                generalize lsnS cl = S at *
                go_wp2_with fail
                go_loop [32, 34] (fun s i => ∃ k : Nat, s = .int .i64 (1 + S - lsnS (ks.take k)) ∧ i = .int .i64 (k : Int) ∧ k ≤ un) (fun _ i => un - (intOf i).toNat)
                case atStart => exact ⟨0, by simp [lsnS], rfl, by omega⟩
                case round =>
                  obtain ⟨k, rfl, rfl, hk⟩ := hrel
                  have k0 : (0 : Int) ≤ k := by omega
                  obtain ⟨g0, g1⟩ := E5.out k
                  by_cases hlt : k < un
                  · obtain ⟨b, o, x, hAx, hx, _, _, hc2, _, _⟩ := Q4.out.acct hlt
                    subst hAx
                    obtain ⟨_, _, _, _, x0, x1, _⟩ := Acct.ok_parts (HO2.out x (List.mem_of_getElem? hx))
                    have HN := Lib.hid (lsnS_at hx)
                    have k1 : (k : Int) < un := by omega
                    clear hx
                    generalize lsnS (ks.take k) = sk at *
                    go_wp2_with fail
                    go_round
                    case rel => exact ⟨k + 1, by rw [HN.out]; go_num, by go_num, by omega⟩
                    case measure => simp [intOf]; omega
                  · have hk' : ks.take k = ks := List.take_of_length_le (by have := HKN.out; omega)
                    rw [hk', E0.out]
                    have hnk : ¬ (k : Int) < un := by omega
                    clear hk' E5 g0 g1
                    go_wp2_with fail
                    refine (HAA.out _ _ _ _ _ Q4.out (Nat.le_refl _) (by omega)).mono ?_
                    rintro e w6 ⟨rfl, h6⟩
                    have HB := Lib.hid h6
                    clear h6
                    go_wp2_with fail
                    go_meet
                    exact HB.out
        case rest =>
          have J5 := Lib.hid (ext_trans JA.out hcut)
          clear hcut R4 Q4 JA HLET HCL HKN fk
          go_wp2_with fail
          refine (DrawLastPaidUp_any A n c w.heap.size _ (HC.out.below J5.out) J5.out.size).mono ?_
          rintro e l1 ⟨lA, ln, lc, ll, lp, lq, rfl, ld, lh⟩
          have R1 := Lib.hid ld.reads
          have J1 := Lib.hid (ext_trans J5.out ld.ext)
          obtain ⟨lr, lok, hbt⟩ := lastT_form lp lq ll
          have hi := fun (A : Option Addr) (n c B : Nat) (w : World) h hB hn => iLastPaidUp_any A n c B ll lp lq w h hB hn
          have hs := fun (A : Option Addr) (n c B : Nat) (w : World) h hB hn => sLastPaidUp_any A n c B ll lp lq w h hB hn
          rw [hbt] at hi hs
          have HI := Lib.hid hi
          have HS := Lib.hid hs
          have fk : (lok != lok) = false := by simp
          have fk2 : (lr != lr) = false := by simp
          clear hi hs hbt ld J5
          go_wp2_with fail
          refine (HI.out lA ln lc _ _ R1.out (Nat.le_refl _) (by omega)).mono ?_
          rintro e l2 ⟨rfl, h2⟩
          have R2 := Lib.hid (R1.out.below h2)
          go_wp2_with fail
          refine (HS.out lA ln lc _ _ R2.out h2.size (by omega)).mono ?_
          rintro e l3 ⟨rfl, h3⟩
          have J3 := Lib.hid (ext_trans J1.out (ext_trans h2 h3))
          clear h2 h3 R1 R2 J1 HI HS
          go_wp2_with fail
          refine (DrawIsAccount_any A n c w.heap.size _ (HC.out.below J3.out) J3.out.size).mono ?_
          rintro e t1 ⟨z0, z1, z2, z3, z4, rfl, th⟩
          have JT := Lib.hid (ext_alloc (ext_trans J3.out th) (.cells #[.int .i64 z0, .int .i64 z1, .int .i64 z2, .int .i64 z3, .int .i64 z4] 25))
          obtain ⟨x0, x1, x2, x3, x4⟩ := box_cells t1 25 ⟨z0, z1, z2, z3, z4⟩
          dsimp only at x0 x1 x2 x3 x4
          have hi := fun (w : World) => iIsAccount_any z0 z1 z2 z3 z4 w
          have hs := fun (w : World) => sIsAccount_any z0 z1 z2 z3 z4 w
          generalize accB z0 z1 z2 z3 z4 = aok at hi hs
          have HI := Lib.hid hi
          have HS := Lib.hid hs
          have tk : (aok == aok) = true := by simp
          clear hi hs th J3
          go_wp2_with fail
          generalize t1.heap.size = bx at *
          generalize t1.alloc (.cells #[.int .i64 z0, .int .i64 z1, .int .i64 z2, .int .i64 z3, .int .i64 z4] 25) = tz at *
          have hself : Below tz.heap.size tz tz.drew := ext_drew (Below.refl _ _)
          refine wp_region_held_drew (S := (fun w' => w'.cell? ⟨bx, 0, none⟩ = some (.int .i64 z0) ∧ w'.cell? ⟨bx, 1, none⟩ = some (.int .i64 z1) ∧ w'.cell? ⟨bx, 2, none⟩ = some (.int .i64 z2) ∧ w'.cell? ⟨bx, 3, none⟩ = some (.int .i64 z3) ∧ w'.cell? ⟨bx, 4, none⟩ = some (.int .i64 z4) ∧ Below tz.heap.size tz w')) (by kernel_rfl) ?_ (fun hHeld => ?_)
          · (try dsimp only); (first | (go_keep; done) | ((try go_split_ands); (repeat' apply And.intro); all_goals first | exact ext_drew (Below.refl _ _) | exact below_cell (by assumption) (by assumption) | (refine ext_trans ?_ (by assumption); assumption) | assumption))
          refine wpAnyH_takeD (i := 0) (v := ?_) 269 rfl rfl (by kernel_rfl) (by kernel_rfl) (by kernel_rfl) (fun _ _ _ _ _ h => h) (by rfl) (by assumption) ?_ ?_
          rotate_left; focus (intro w hSw; (try dsimp only at hSw); go_simp; try (with_reducible rfl))
          try simp only [Act.put, List.setIfInBounds_toArray, List.set_cons_zero, List.set_cons_succ]
          refine wpAnyH_takeD (i := 2) (v := ?_) 271 rfl rfl (by kernel_rfl) (by kernel_rfl) (by kernel_rfl) (fun _ _ _ _ _ h => h) (by rfl) (by assumption) ?_ ?_
          rotate_left; focus (intro w hSw; (try dsimp only at hSw); go_simp; try (with_reducible rfl))
          try simp only [Act.put, List.setIfInBounds_toArray, List.set_cons_zero, List.set_cons_succ]
          refine wpAnyH_ready (rs := [1]) (by kernel_rfl) (by simp) ?_
          refine AllReadyH.cons rfl (fun K hK => ?_) AllReadyH.nil
          go_simp; (go_at_call 17; refine (HI.out _).mono ?_; rintro e w' ⟨rfl, hbe⟩); (try dsimp only)
          refine hK.out _ _ ?_ (fun hHeld => ?_)
          focus ((try dsimp only); (first | (go_keep; done) | ((try go_split_ands); (repeat' apply And.intro); all_goals first | exact ext_drew (Below.refl _ _) | exact below_cell (by assumption) (by assumption) | (refine ext_trans ?_ (by assumption); assumption) | assumption)))
          clear hK K; try simp only [Act.put, List.setIfInBounds_toArray, List.set_cons_zero, List.set_cons_succ]
          refine wpAnyH_ready (rs := [3]) (by kernel_rfl) (by simp) ?_
          refine AllReadyH.cons rfl (fun K hK => ?_) AllReadyH.nil
          go_simp; (go_at_call 15; refine (HS.out _).mono ?_; rintro e w' ⟨rfl, hbe⟩); (try dsimp only)
          refine hK.out _ _ ?_ (fun hHeld => ?_)
          focus ((try dsimp only); (first | (go_keep; done) | ((try go_split_ands); (repeat' apply And.intro); all_goals first | exact ext_drew (Below.refl _ _) | exact below_cell (by assumption) (by assumption) | (refine ext_trans ?_ (by assumption); assumption) | assumption)))
          clear hK K; try simp only [Act.put, List.setIfInBounds_toArray, List.set_cons_zero, List.set_cons_succ]
          refine wpAnyH_takeD (i := 4) (v := ?_) 273 rfl rfl (by kernel_rfl) (by kernel_rfl) (by kernel_rfl) (fun _ _ _ _ _ h => h) (by rfl) (by assumption) ?_ ?_
          rotate_left; focus (intro w hSw; (try dsimp only at hSw); go_simp; try (with_reducible rfl))
          try simp only [Act.put, List.setIfInBounds_toArray, List.set_cons_zero, List.set_cons_succ]
          refine wpAnyH_takeD (i := 5) (v := ?_) 2 rfl rfl (by kernel_rfl) (by kernel_rfl) (by kernel_rfl) (fun _ _ _ _ _ h => h) (by rfl) (by assumption) ?_ ?_
          rotate_left; focus (intro w hSw; (try dsimp only at hSw); go_simp; try (with_reducible rfl))
          try simp only [Act.put, List.setIfInBounds_toArray, List.set_cons_zero, List.set_cons_succ]
          refine wpAnyH_done (by kernel_rfl) ?_ _

          have HNX := Lib.hid hHeld.2.2.2.2.2
          go_wp2_with fail
          go_ret
          exact ⟨by simp, ext_trans JT.out HNX.out⟩
end Go.Proofs.Ytbjmpllnkkfgfaa
