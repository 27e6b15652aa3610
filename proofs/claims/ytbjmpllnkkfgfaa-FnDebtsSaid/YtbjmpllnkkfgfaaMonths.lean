/- The fees and payments of each month; the law. No condition. -/
import Derived.Test.YtbjmpllnkkfgfaaSS
import Derived.Test.YtbjmpllnkkfgfaaPut
import Derived.Test.YtbjmpllnkkfgfaaBal
namespace Go.Proofs.Ytbjmpllnkkfgfaa
open Go.RowKit

def monA (m : Int) (xs : List Acct) : List Acct := xs.filter (fun x => x.m == m)
theorem monA_hit {m : Int} {xs : List Acct} {k : Nat} {x : Acct} (hx : xs[k]? = some x) (h : x.m = m) : monA m (xs.take (k + 1)) = monA m (xs.take k) ++ [x] := by
  rw [acctF_snoc hx]; simp [monA, h]
theorem monA_miss {m : Int} {xs : List Acct} {k : Nat} {x : Acct} (hx : xs[k]? = some x) (h : x.m ≠ m) : monA m (xs.take (k + 1)) = monA m (xs.take k) := by
  rw [acctF_snoc hx]; simp [monA, h]
theorem monA_len (m : Int) (xs : List Acct) : (monA m xs).length ≤ xs.length := List.length_filter_le _ _
theorem AllOk.mon {xs : List Acct} (h : AllOk xs) (m : Int) : AllOk (monA m xs) := fun x hx => h x (List.mem_filter.1 hx).1
theorem mon_bd {m price : Int} {xs : List Acct} (h : AllOk xs) (hp : inB price 1 500 = true) (hl : xs.length ≤ 10) (k : Nat) : 0 ≤ paidS (monA m (xs.take k)) ∧ paidS (monA m (xs.take k)) ≤ 1000000 ∧ 0 ≤ feesS price (monA m (xs.take k)) ∧ feesS price (monA m (xs.take k)) ≤ 97500 := by
  have h1 := paidS_bd ((h.take k).mon m)
  have h2 := feesS_bd hp ((h.take k).mon m)
  have h3 := monA_len m (xs.take k)
  have h4 : (xs.take k).length ≤ 10 := by rw [List.length_take]; omega
  omega
theorem mon_paid {m : Int} {xs : List Acct} {k : Nat} {x : Acct} (hx : xs[k]? = some x) (h : x.m = m) : paidS (monA m (xs.take (k + 1))) = paidS (monA m (xs.take k)) + x.d := by
  rw [monA_hit hx h, paidS_app]; simp [paidS]
theorem mon_fees {m price : Int} {xs : List Acct} {k : Nat} {x : Acct} (hx : xs[k]? = some x) (h : x.m = m) : feesS price (monA m (xs.take (k + 1))) = feesS price (monA m (xs.take k)) + feeV x.l x.s price := by
  rw [monA_hit hx h, feesS_app]; simp [feesS]
theorem putV_len (m : Int) : ∀ (zs : List Int), (putV m zs).length ≤ zs.length + 1
  | [] => by simp [putV]
  | z :: zs => by
    have ih := putV_len m zs
    unfold putV at ih ⊢
    simp only [List.length_append, List.length_cons, List.filter_cons] at ih ⊢
    by_cases h1 : z < m
    · have h2 : ¬ m < z := by omega
      simp [h1, h2] at ih ⊢; omega
    · by_cases h2 : m < z
      · simp [h1, h2] at ih ⊢; omega
      · simp [h1, h2] at ih ⊢; omega
theorem putV_has {m : Int} {zs : List Int} (ha : Asc zs) (h : hasB zs m = true) : putV m zs = zs := by
  unfold hasB at h
  rw [List.contains_iff_mem] at h
  obtain ⟨k, hk⟩ := List.mem_iff_getElem?.1 h
  refine putV_hit hk (take_all fun i hi x hx => ha.lt hx hk hi) (drop_all fun i hi x hx => ha.lt hk hx (by omega))
def monthsF (ms : List Int) (xs : List Acct) : List Int := xs.foldl (fun ms x => putV x.m ms) ms
theorem monthsF_asc : ∀ (xs : List Acct) {ms : List Int}, Asc ms → Asc (monthsF ms xs)
  | [], _, h => h
  | x :: xs, _, h => monthsF_asc xs (putV_asc x.m h)
theorem monthsF_len : ∀ (xs : List Acct) (ms : List Int), (monthsF ms xs).length ≤ ms.length + xs.length
  | [], ms => by simp [monthsF]
  | x :: xs, ms => by
    have h1 := monthsF_len xs (putV x.m ms)
    have h2 := putV_len x.m ms
    have e : monthsF ms (x :: xs) = monthsF (putV x.m ms) xs := rfl
    rw [e, List.length_cons]; omega
def monthsL (xs : List Acct) : List Int := monthsF [] xs
theorem months_asc (xs : List Acct) : Asc (monthsL xs) := monthsF_asc xs (by unfold Asc; exact List.Pairwise.nil)
theorem months_len (xs : List Acct) : (monthsL xs).length ≤ xs.length := by have := monthsF_len xs []; simpa [monthsL] using this
theorem months_next {xs : List Acct} {k : Nat} {x : Acct} (hx : xs[k]? = some x) : monthsL (xs.take (k + 1)) = putV x.m (monthsL (xs.take k)) := by
  unfold monthsL monthsF
  rw [acctF_snoc hx, List.foldl_append]; rfl
def monRow (price : Int) (xs : List Acct) (m : Int) : List Int := [m, feesS price (monA m xs), paidS (monA m xs)]
def monOk (price : Int) (xs : List Acct) : Bool := accsB xs && inB price 1 500
def monL (price : Int) (xs : List Acct) : List (List Int) := if monOk price xs = true then (monthsL xs).map (monRow price xs) else []
theorem monL_len (price : Int) (xs : List Acct) : (monL price xs).length ≤ xs.length := by
  unfold monL; split
  · rw [List.length_map]; exact months_len xs
  · simp
theorem rows_tot (price : Int) (xs : List Acct) : ∀ (ms : List Int), ((ms.map (monRow price xs)).map List.length).sum = 3 * ms.length
  | [] => rfl
  | m :: ms => by rw [List.map_cons, List.map_cons, List.sum_cons, rows_tot price xs ms, List.length_cons]; show 3 + _ = _; omega
theorem monL_tot (price : Int) (xs : List Acct) : ((monL price xs).map List.length).sum ≤ 30 := by
  unfold monL; split
  · rename_i h
    unfold monOk at h
    simp only [Bool.and_eq_true] at h
    have h1 := (accs_ok h.1).2
    have h2 := months_len xs
    rw [rows_tot]; omega
  · simp
theorem rows_next {price : Int} {xs : List Acct} {ms : List Int} {k : Nat} {m : Int} (hm : ms[k]? = some m) : (ms.take (k + 1)).map (monRow price xs) = (ms.take k).map (monRow price xs) ++ [[m, feesS price (monA m xs), paidS (monA m xs)]] := by
  rw [take_at hm, List.map_append]; rfl
set_option maxRecDepth 100000 in
set_option maxHeartbeats 4000000 in
theorem sMonthSums_any (A : Option Addr) (n c B : Nat) (xs : List Acct) (price : Int) (w : World) (h : Reads w B 5 A n ((acctF xs).map (Value.int .i64))) (hB : B ≤ w.heap.size) (hn : n ≤ 1048576) :
    Calls Try.prog 42 #[.slice A n c, .int .i64 price] w fun e w' => GivesN 47 3 (monL price xs) (monOk price xs) w e w' := by
  have hl := h.acctLen
  have H := Lib.hid h
  have HL := Lib.hid hl
  clear h hl
  cases ha : accsB xs
  · have HR := Lib.hid (show monOk price xs = false ∧ monL price xs = [] by unfold monL monOk; rw [ha]; simp)
    go_enter Try.func42, Try.ntmps42
    go_wp2_with fail
    refine (l14Good_any A n c B xs _ (H.out.alloc hB _) (by simp; omega) hn).mono ?_
    rintro e w2 ⟨rfl, hb2⟩
    rw [ha]
    have A0 := Lib.hid ((AccN.empty (E2 := 47) (E := 3) (Below.refl w.heap.size w)).later hb2)
    clear hb2
    go_wp2
    go_ret2
    rw [HR.out.1, HR.out.2]
    exact ⟨_, _, _, _, rfl, A0.out⟩
  cases hp : inB price 1 500
  · have HR := Lib.hid (show monOk price xs = false ∧ monL price xs = [] by unfold monL monOk; rw [hp]; simp)
    go_enter Try.func42, Try.ntmps42
    go_wp2_with fail
    refine (l14Good_any A n c B xs _ (H.out.alloc hB _) (by simp; omega) hn).mono ?_
    rintro e w2 ⟨rfl, hb2⟩
    rw [ha]
    have A0 := Lib.hid ((AccN.empty (E2 := 47) (E := 3) (Below.refl w.heap.size w)).later hb2)
    clear hb2
    go_wp2_with (go_at_call 65; refine (l14Price_v _ hp _).mono ?_; rintro e w' ⟨rfl, rfl⟩)
    go_ret2
    rw [HR.out.1, HR.out.2]
    exact ⟨_, _, _, _, rfl, A0.out⟩
  · have HR := Lib.hid (show monOk price xs = true ∧ monL price xs = (monthsL xs).map (monRow price xs) by unfold monL monOk; rw [ha, hp]; simp)
    have HO := Lib.hid (accs_ok ha).1
    have HT := Lib.hid (accs_ok ha).2
    have HP := Lib.hid hp
    have HML := Lib.hid (months_len xs)
    have hn10 : n ≤ 10 := by have := HT.out; have := HL.out; omega
    go_enter Try.func42, Try.ntmps42
    go_wp2_with fail
    refine (l14Good_any A n c B xs _ (H.out.alloc hB _) (by simp; omega) hn).mono ?_
    rintro e w2 ⟨rfl, hb2⟩
    rw [ha]
    have A0 := Lib.hid ((AccN.empty (E2 := 47) (E := 3) (Below.refl w.heap.size w)).later hb2)
    have HB20 := Lib.hid hb2.size
    clear hb2 ha
    go_wp2_with (go_at_call 65; refine (l14Price_v _ hp _).mono ?_; rintro e w' ⟨rfl, rfl⟩)
    clear hp
    go_loopw [7, 8] (fun p q wr => ∃ (k m cc : Nat) (P : Option Addr), q = .int .i64 k ∧ k ≤ n ∧ p = .slice P m cc ∧ Acc w2 wr 3 1 P m cc (monthsL (xs.take k))) (fun _ q _ => n - (intOf q).toNat)
    case atStart => exact ⟨0, 0, 0, _, rfl, by omega, rfl, Acc.empty (Below.refl _ _)⟩
    case round =>
      obtain ⟨wo, rfl⟩ : ∃ wo : World, wo = wr := ⟨_, rfl⟩
      obtain ⟨k, m, cc, P, rfl, hk, rfl, hacc⟩ := hrel
      have HA := Lib.hid hacc
      have hm : m ≤ 10 := by
        have h1 := hacc.reads.len
        have h2 := months_len (xs.take k)
        rw [List.length_take] at h2
        omega
      clear hacc
      have R1 := Lib.hid (H.out.below ((A0.out.ext.trans (HA.out.ext.mono A0.out.ext.size)).mono hB))
      have k0 : (0 : Int) ≤ k := by omega
      by_cases hlt : k < n
      · obtain ⟨b, o, x, hAx, hx, hc0, hc1, hc2, hc3, hc4⟩ := R1.out.acct hlt
        subst hAx
        have k1 : (k : Int) < n := by omega
        have HN := Lib.hid (months_next hx)
        clear hx
        have HASC := Lib.hid (months_asc (xs.take k))
        generalize monthsL (xs.take k) = ms at *
        cases hh : hasB ms x.m
        · have HH := Lib.hid hh
          clear hh
          go_wp2_with fail
          refine (l1Has_any P m cc _ ms x.m _ HA.out.reads (by unfold maxLen; omega)).mono ?_
          rintro e w' ⟨rfl, rfl⟩
          rw [HH.out]
          go_wp2_with fail
          refine (l1Put_any P m cc _ ms x.m _ HA.out.reads (Nat.le_refl _) (by omega) (own_cap HA.out.own).1 (own_cap HA.out.own).2 HASC.out HH.out).mono ?_
          rintro e w3 ⟨A3, n3, c3, rfl, h3⟩
          have H3 := Lib.hid (h3.since HA.out.ext)
          clear h3
          go_wp2_with fail
          go_roundw
          case rel => exact ⟨k + 1, _, _, _, by go_num, by omega, rfl, by rw [HN.out]; exact H3.out⟩
          case measure => simp [intOf]; omega
        · have HH := Lib.hid hh
          have HE := Lib.hid (putV_has HASC.out hh)
          clear hh
          go_wp2_with fail
          refine (l1Has_any P m cc _ ms x.m _ HA.out.reads (by unfold maxLen; omega)).mono ?_
          rintro e w' ⟨rfl, rfl⟩
          rw [HH.out]
          go_wp2_with fail
          go_roundw
          case rel => exact ⟨k + 1, _, _, _, by go_num, by omega, rfl, by rw [HN.out, HE.out]; exact HA.out⟩
          case measure => simp [intOf]; omega
      · have hk' : xs.take k = xs := List.take_of_length_le (by have := HL.out; omega)
        rw [hk'] at HA
        have hml := HML.out
        have hm2 := HA.out.reads.len
        generalize monthsL xs = ms at *
        have AW := Lib.hid (A0.out.later HA.out.ext)
        have hkn : ¬ (k : Int) < n := by omega
        clear hk' k0 hk hlt
        go_wp2
        go_loopw [6, 9] (fun p q wr => ∃ (j m2 c2 : Nat) (P2 : Option Addr) (hs : List Hd), q = .int .i64 j ∧ j ≤ m ∧ p = .slice P2 m2 c2 ∧ AccN w wr 47 3 P2 m2 c2 hs ((ms.take j).map (monRow price xs)) ∧ Side wr wo.heap.size 1 P m ms P2) (fun _ q _ => m - (intOf q).toNat)
        case atStart => exact ⟨0, 0, 0, _, [], rfl, by omega, rfl, AW.out, Side.made HA.out (Nat.lt_of_lt_of_le (by simp) HB20.out)⟩
        case round =>
          obtain ⟨wq, rfl⟩ : ∃ wq : World, wq = wr := ⟨_, rfl⟩
          obtain ⟨j, m2, c2, P2, hs, rfl, hj, rfl, hacc, hsd⟩ := hrel
          have HN := Lib.hid hacc
          have HSD := Lib.hid hsd
          have hm3 : m2 ≤ 10 := by have := hacc.reads.rlen; rw [List.length_map, List.length_take] at this; omega
          clear hacc hsd
          have j0 : (0 : Int) ≤ j := by omega
          by_cases hjt : j < m
          · obtain ⟨b, o, mon, hAx, hmon, hcm⟩ := HSD.out.reads.int hjt
            subst hAx
            have HMN := Lib.hid (rows_next (price := price) (xs := xs) hmon)
            clear hmon
            have j1 : (j : Int) < m := by omega
            go_wp2_with fail
            go_loopw [10, 11, 12] (fun p q i wr => ∃ k : Nat, i = .int .i64 k ∧ k ≤ n ∧ p = .int .i64 (feesS price (monA mon (xs.take k))) ∧ q = .int .i64 (paidS (monA mon (xs.take k))) ∧ Below wq.heap.size wq wr) (fun _ _ i _ => n - (intOf i).toNat)
            case atStart => exact ⟨0, rfl, by omega, rfl, rfl, Below.refl _ _⟩
            case round =>
              obtain ⟨wi, rfl⟩ : ∃ wi : World, wi = wr := ⟨_, rfl⟩
              obtain ⟨k, rfl, hk, rfl, rfl, hb⟩ := hrel
              have HB := Lib.hid hb
              have k0 : (0 : Int) ≤ k := by omega
              have RI := Lib.hid (H.out.below ((ext_trans HN.out.ext hb).mono hB))
              have hcm2 := below_cell hb hcm
              clear hb
              obtain ⟨bd1, bd2, bd3, bd4⟩ := mon_bd (m := mon) HO.out HP.out HT.out k
              by_cases hkt : k < n
              · obtain ⟨b', o', x, hAx, hx, hc0, hc1, hc2, hc3, hc4⟩ := RI.out.acct hkt
                subst hAx
                have HX := Lib.hid hx
                clear hx
                have k1 : (k : Int) < n := by omega
                by_cases hp : x.m = mon
                · have HF := Lib.hid (mon_fees (price := price) HX.out hp)
                  have HPd := Lib.hid (mon_paid HX.out hp)
                  have hpb : (x.m == mon) = true := by simp [hp]
                  obtain ⟨f1, f2⟩ := Acct.fee_bd (HO.out.at HX.out) HP.out
                  obtain ⟨_, _, _, _, _, _, _, _, d1, d2⟩ := Acct.ok_parts (HO.out.at HX.out)
                  have hf := l14Fee_any x price (HO.out.at HX.out) HP.out
                  clear hp
                  generalize feesS price (monA mon (xs.take k)) = fk at *
                  generalize paidS (monA mon (xs.take k)) = pk at *
                  generalize feeV x.l x.s price = fv at *
                  go_wp2_with fail
                  go_quiet (fail)
                  generalize hwz : World.drewN wi _ = wz
                  have hbz : Below wi.heap.size wi wz := hwz ▸ below_drewN wi _
                  have kx0 := below_cell hbz hc0
                  have kx1 := below_cell hbz hc1
                  have kx2 := below_cell hbz hc2
                  have kx3 := below_cell hbz hc3
                  have kx4 := below_cell hbz hc4
                  have HZ := Lib.hid (ext_trans HB.out hbz)
                  clear hwz hbz hc0 hc1 hc2 hc3 hc4 hcm hcm2
                  go_wp2_with fail
                  refine (hf _).mono ?_
                  rintro e w3 ⟨rfl, h3⟩
                  have ky4 := below_cell h3 kx4
                  clear hf kx0 kx1 kx2 kx3 kx4
                  go_wp2_with fail
                  go_roundw
                  case rel => exact ⟨k + 1, by go_num, by omega, by rw [HF.out], by rw [HPd.out], ext_trans HZ.out h3⟩
                  case measure => simp [intOf]; omega
                · have HF := Lib.hid (monA_miss HX.out hp)
                  have hpb : (x.m == mon) = false := by simp [hp]
                  clear hp
                  go_wp2_with fail
                  go_quiet (fail)
                  go_wp2_with fail
                  go_roundw
                  case rel => exact ⟨k + 1, by go_num, by omega, by rw [HF.out], by rw [HF.out], ext_drewN HB.out _⟩
                  case measure => simp [intOf]; omega
              · have hk' : xs.take k = xs := List.take_of_length_le (by have := HL.out; omega)
                rw [hk']
                have HN2 := Lib.hid (HN.out.later HB.out)
                have HS2 := Lib.hid (HSD.out.later HB.out)
                have hnk : ¬ (k : Int) < n := by omega
                clear hk' bd1 bd2 bd3 bd4 hcm
                go_wp2_with (at_builtin; refine appN rfl _ _ rfl rfl ((HN2.out.alloc _).alloc _) rfl (reads_hd _ _ ⟨some ⟨wi.heap.size, 0, none⟩, 3, 3⟩ _ (by simp)) (HN2.out.newRow _ [mon, feesS price (monA mon xs), paidS (monA mon xs)] rfl (by simp [maxLen]) _) (by omega) ?_; intro A2 c3 wz A3 P3)
                have HS4 := Lib.hid (((HS2.out.alloc _).alloc _).pushed P3)
                go_roundw
                case rel => exact ⟨j + 1, _, _, _, _, by go_num, by omega, rfl, by rw [HMN.out]; exact A3, HS4.out⟩
                case measure => simp [intOf]; omega
          · have hjm : ms.take j = ms := List.take_of_length_le (by omega)
            rw [hjm] at HN
            have hjn : ¬ (j : Int) < m := by omega
            clear hjm
            go_wp2
            go_ret2
            rw [HR.out.1, HR.out.2]
            exact ⟨_, _, _, _, rfl, HN.out⟩
set_option maxRecDepth 100000 in
set_option maxHeartbeats 4000000 in
theorem iMonthSums_any (A : Option Addr) (n c B : Nat) (xs : List Acct) (price : Int) (w : World) (h : Reads w B 5 A n ((acctF xs).map (Value.int .i64))) (hB : B ≤ w.heap.size) (hn : n ≤ 1048576) :
    Calls Try.prog 43 #[.slice A n c, .int .i64 price] w fun e w' => GivesN 47 3 (monL price xs) (monOk price xs) w e w' := by
  have hl := h.acctLen
  have H := Lib.hid h
  have HL := Lib.hid hl
  clear h hl
  cases ha : accsB xs
  · have HR := Lib.hid (show monOk price xs = false ∧ monL price xs = [] by unfold monL monOk; rw [ha]; simp)
    go_enter Try.func43, Try.ntmps43
    go_wp2_with fail
    refine (iAreAccounts_any A n c B xs _ H.out hB hn).mono ?_
    rintro e w2 ⟨rfl, hb2⟩
    rw [ha]
    have A0 := Lib.hid (AccN.nil (E2 := 47) (E := 3) hb2)
    clear hb2
    go_wp2
    go_ret2
    rw [HR.out.1, HR.out.2]
    exact ⟨_, _, _, _, rfl, A0.out⟩
  cases hp : inB price 1 500
  · have HR := Lib.hid (show monOk price xs = false ∧ monL price xs = [] by unfold monL monOk; rw [hp]; simp)
    go_enter Try.func43, Try.ntmps43
    go_wp2_with fail
    refine (iAreAccounts_any A n c B xs _ H.out hB hn).mono ?_
    rintro e w2 ⟨rfl, hb2⟩
    rw [ha]
    have A0 := Lib.hid (AccN.nil (E2 := 47) (E := 3) hb2)
    clear hb2
    go_wp2_with (go_at_call 67; refine (isPrice_v _ hp _).mono ?_; rintro e w' ⟨rfl, rfl⟩)
    go_ret2
    rw [HR.out.1, HR.out.2]
    exact ⟨_, _, _, _, rfl, A0.out⟩
  · have HR := Lib.hid (show monOk price xs = true ∧ monL price xs = (monthsL xs).map (monRow price xs) by unfold monL monOk; rw [ha, hp]; simp)
    have HO := Lib.hid (accs_ok ha).1
    have HT := Lib.hid (accs_ok ha).2
    have HP := Lib.hid hp
    have HML := Lib.hid (months_len xs)
    have hn10 : n ≤ 10 := by have := HT.out; have := HL.out; omega
    go_enter Try.func43, Try.ntmps43
    go_wp2_with fail
    refine (iAreAccounts_any A n c B xs _ H.out hB hn).mono ?_
    rintro e w2 ⟨rfl, hb2⟩
    rw [ha]
    have A0 := Lib.hid (AccN.nil (E2 := 47) (E := 3) hb2)
    have HB20 := Lib.hid hb2.size
    clear hb2 ha
    go_wp2_with (go_at_call 67; refine (isPrice_v _ hp _).mono ?_; rintro e w' ⟨rfl, rfl⟩)
    clear hp
    go_loopw [6, 27] (fun p q wr => ∃ (k m cc : Nat) (P : Option Addr), q = .int .i64 k ∧ k ≤ n ∧ p = .slice P m cc ∧ Acc w2 wr 3 1 P m cc (monthsL (xs.take k))) (fun _ q _ => n - (intOf q).toNat)
    case atStart => exact ⟨0, 0, 0, _, rfl, by omega, rfl, Acc.nil (Below.refl _ _)⟩
    case round =>
      obtain ⟨wo, rfl⟩ : ∃ wo : World, wo = wr := ⟨_, rfl⟩
      obtain ⟨k, m, cc, P, rfl, hk, rfl, hacc⟩ := hrel
      have HA := Lib.hid hacc
      have hm : m ≤ 10 := by
        have h1 := hacc.reads.len
        have h2 := months_len (xs.take k)
        rw [List.length_take] at h2
        omega
      clear hacc
      have R1 := Lib.hid (H.out.below ((A0.out.ext.trans (HA.out.ext.mono A0.out.ext.size)).mono hB))
      have k0 : (0 : Int) ≤ k := by omega
      by_cases hlt : k < n
      · obtain ⟨b, o, x, hAx, hx, hc0, hc1, hc2, hc3, hc4⟩ := R1.out.acct hlt
        subst hAx
        have k1 : (k : Int) < n := by omega
        have HN := Lib.hid (months_next hx)
        clear hx
        have HASC := Lib.hid (months_asc (xs.take k))
        generalize monthsL (xs.take k) = ms at *
        go_wp2_with fail
        refine (putInt_any P m cc ms x.m _ (HA.out.alloc _) (by omega) HASC.out).mono ?_
        rintro e w3 ⟨A3, n3, c3, rfl, h3⟩
        have H3 := Lib.hid h3
        clear h3
        go_wp2_with fail
        go_roundw
        case rel => exact ⟨k + 1, _, _, _, by go_num, by omega, rfl, by rw [HN.out]; exact H3.out⟩
        case measure => simp [intOf]; omega
      · have hk' : xs.take k = xs := List.take_of_length_le (by have := HL.out; omega)
        rw [hk'] at HA
        have hml := HML.out
        have hm2 := HA.out.reads.len
        generalize monthsL xs = ms at *
        have AW := Lib.hid (A0.out.later HA.out.ext)
        have hkn : ¬ (k : Int) < n := by omega
        clear hk' k0 hk hlt
        go_wp2
        go_loopw [9, 38] (fun p q wr => ∃ (j m2 c2 : Nat) (P2 : Option Addr) (hs : List Hd), q = .int .i64 j ∧ j ≤ m ∧ p = .slice P2 m2 c2 ∧ AccN w wr 47 3 P2 m2 c2 hs ((ms.take j).map (monRow price xs)) ∧ Side wr wo.heap.size 1 P m ms P2) (fun _ q _ => m - (intOf q).toNat)
        case atStart => exact ⟨0, 0, 0, _, [], rfl, by omega, rfl, AW.out, Side.none_ HA.out.reads (Nat.le_refl _)⟩
        case round =>
          obtain ⟨wq, rfl⟩ : ∃ wq : World, wq = wr := ⟨_, rfl⟩
          obtain ⟨j, m2, c2, P2, hs, rfl, hj, rfl, hacc, hsd⟩ := hrel
          have HN := Lib.hid hacc
          have HSD := Lib.hid hsd
          have hm3 : m2 ≤ 10 := by have := hacc.reads.rlen; rw [List.length_map, List.length_take] at this; omega
          clear hacc hsd
          have j0 : (0 : Int) ≤ j := by omega
          by_cases hjt : j < m
          · obtain ⟨b, o, mon, hAx, hmon, hcm⟩ := HSD.out.reads.int hjt
            subst hAx
            have HMN := Lib.hid (rows_next (price := price) (xs := xs) hmon)
            clear hmon
            have j1 : (j : Int) < m := by omega
            go_wp2_with fail
            go_loopw [12, 44] (fun p i wr => ∃ (k n' c' : Nat) (A' : Option Addr), i = .int .i64 k ∧ k ≤ n ∧ p = .slice A' n' c' ∧ Acc wq wr 25 5 A' n' c' (acctF (monA mon (xs.take k)))) (fun _ i _ => n - (intOf i).toNat)
            case atStart => exact ⟨0, 0, 0, none, rfl, by omega, rfl, Acc.nil (Below.refl _ _)⟩
            case round =>
              obtain ⟨wi, rfl⟩ : ∃ wi : World, wi = wr := ⟨_, rfl⟩
              obtain ⟨k, n', c', A', rfl, hk, rfl, hacc⟩ := hrel
              have HAI := Lib.hid hacc
              have hn' : n' ≤ k := by
                have h1 := hacc.reads.acctLen
                have h2 := monA_len mon (xs.take k)
                have h3 := List.length_take_le k xs
                omega
              have k0 : (0 : Int) ≤ k := by omega
              have RI := Lib.hid (H.out.below ((ext_trans HN.out.ext hacc.ext).mono hB))
              clear hacc
              by_cases hkt : k < n
              · obtain ⟨b', o', x, hAx, hx, hc0, hc1, hc2, hc3, hc4⟩ := RI.out.acct hkt
                subst hAx
                have HX := Lib.hid hx
                clear hx
                have k1 : (k : Int) < n := by omega
                by_cases hp : x.m = mon
                · have HO2 := Lib.hid (monA_hit HX.out hp)
                  have hpb : (x.m == mon) = true := by simp [hp]
                  clear hp
                  go_wp2_with (at_builtin; (refine appAcct rfl _ _ rfl rfl ((HAI.out.alloc _).alloc _) rfl (reads_newAt _ _ _ 5 x.cs _ (by simp) rfl rfl) (by omega) ?_; intro A2 c2 w2 hacc' _))
                  have HA' := Lib.hid hacc'
                  clear hacc'
                  go_wp2
                  go_roundw
                  case rel => exact ⟨k + 1, _, _, _, by go_num, by omega, rfl, by rw [HO2.out, acctF_app]; simpa [acctF] using HA'.out⟩
                  case measure => simp [intOf]; omega
                · have HO2 := Lib.hid (monA_miss HX.out hp)
                  have hpb : (x.m == mon) = false := by simp [hp]
                  clear hp
                  go_wp2
                  go_roundw
                  case rel => exact ⟨k + 1, _, _, _, by go_num, by omega, rfl, by rw [HO2.out]; exact HAI.out.alloc _⟩
                  case measure => simp [intOf]; omega
              · have hk' : xs.take k = xs := List.take_of_length_le (by have := HL.out; omega)
                rw [hk'] at HAI
                have HN2 := Lib.hid (HN.out.later HAI.out.ext)
                have HS2 := Lib.hid (HSD.out.later HAI.out.ext)
                have hnk : ¬ (k : Int) < n := by omega
                clear hk' hcm
                go_wp2_with fail
                refine (sums_any A' n' c' _ (monA mon xs) price _ HAI.out.reads (Nat.le_refl _) (by omega) (HO.out.mon mon) HP.out).mono ?_
                rintro e w3 ⟨rfl, h3⟩
                have HN3 := Lib.hid (HN2.out.later h3)
                have HS3 := Lib.hid (HS2.out.later h3)
                clear h3
                go_wp2_with (at_builtin; refine appN rfl _ _ rfl rfl ((HN3.out.alloc _).alloc _) rfl (reads_hd _ _ ⟨some ⟨w3.heap.size, 0, none⟩, 3, 3⟩ _ (by simp)) (HN3.out.newRow _ [mon, feesS price (monA mon xs), paidS (monA mon xs)] rfl (by simp [maxLen]) _) (by omega) ?_; intro A2 c3 wz A3 P3)
                have HS4 := Lib.hid (((HS3.out.alloc _).alloc _).pushed P3)
                go_roundw
                case rel => exact ⟨j + 1, _, _, _, _, by go_num, by omega, rfl, by rw [HMN.out]; exact A3, HS4.out⟩
                case measure => simp [intOf]; omega
          · have hjm : ms.take j = ms := List.take_of_length_le (by omega)
            rw [hjm] at HN
            have hjn : ¬ (j : Int) < m := by omega
            clear hjm
            go_wp2
            go_ret2
            rw [HR.out.1, HR.out.2]
            exact ⟨_, _, _, _, rfl, HN.out⟩
set_option maxHeartbeats 4000000 in
theorem FnExactMonthSums_any (A : Option Addr) (n c : Nat) (zs : List Int) (price : Int) (_ : (Lit.int .i64 price).wf = true) (w : World) (h : Reads w w.heap.size 5 A n (zs.map (Value.int .i64)) ∧ n ≤ maxLen) :
    Calls Try.prog 12 #[.slice A n c, .int .i64 price] w fun e w' => e = .returned (.bool true) ∧ Below w.heap.size w w' := by
  obtain ⟨h, hm⟩ := h
  obtain ⟨xs, rfl, hl⟩ := acctF_of n zs (by simpa using h.1)
  have H := Lib.hid h
  clear h
  by_cases hn : n ≤ 1048576
  · have hzl : (monL price xs).length ≤ 1048576 := by have := monL_len price xs; omega
    have hzt : ((monL price xs).map List.length).sum ≤ 1048576 := by have := monL_tot price xs; omega
    clear hl
    have hS := fun (A : Option Addr) (n c B : Nat) (w : World) h hB hn => sMonthSums_any A n c B xs price w h hB hn
    have hI := fun (A : Option Addr) (n c B : Nat) (w : World) h hB hn => iMonthSums_any A n c B xs price w h hB hn
    generalize monL price xs = zs at hS hI hzl hzt
    generalize monOk price xs = ok at hS hI
    have HS := Lib.hid hS
    have HI := Lib.hid hI
    have he := decide_eq_true (rfl : zs = zs)
    clear hS hI
    go_enter Try.func12, Try.ntmps12
    go_wp2_with fail
    refine (szAccountS_any A n c hm _).mono ?_
    rintro e w' ⟨rfl, rfl⟩
    rw [if_pos hn]
    go_wp2_with fail
    refine (toAccountS_any A n c _ xs _ H.out (Nat.le_refl _) hn).mono ?_
    rintro e w1 ⟨A1, n1, c1, rfl, a1⟩
    have z1 := a1.reads.acctLen
    have z0 := H.out.acctLen
    obtain rfl : n1 = n := by omega
    have R1 := Lib.hid (H.out.below a1.ext)
    have E1 := Lib.hid a1.ext
    go_wp2_with fail
    refine (HS.out A1 n1 c1 _ _ a1.reads (Nat.le_refl _) hn).mono ?_
    rintro e w2 ⟨A0, n0, c0, hs0, rfl, h0⟩
    have R2 := Lib.hid (R1.out.below (h0.ext.mono E1.out.size))
    have E2 := Lib.hid (ext_trans E1.out h0.ext)
    have H0 := Lib.hid h0.reads
    have L0 : n0 ≤ 1048576 := by have := h0.reads.rlen; omega
    clear a1 z1 h0
    go_wp2_with fail
    refine (toAccountS_any A n1 c _ xs _ R2.out E2.out.size hn).mono ?_
    rintro e w3 ⟨A3, n3, c3, rfl, a3⟩
    have z3 := a3.reads.acctLen
    obtain rfl : n3 = n1 := by omega
    have R3 := Lib.hid (R2.out.below (a3.ext.mono E2.out.size))
    have E3 := Lib.hid (ext_trans E2.out a3.ext)
    have H3 := Lib.hid (H0.out.below a3.ext)
    have O3 := Lib.hid a3
    have S23 : w2.heap.size ≤ w3.heap.size := a3.ext.size
    clear a3 z3
    go_wp2_with fail
    refine (HI.out A3 n3 c3 _ _ O3.out.reads (Nat.le_refl _) hn).mono ?_
    rintro e w4 ⟨A4, n4, c4, hs4, rfl, h4⟩
    have R4 := Lib.hid (R3.out.below (h4.ext.mono E3.out.size))
    have E4 := Lib.hid (ext_trans E3.out h4.ext)
    have H4 := Lib.hid (H3.out.below (h4.ext.mono S23))
    have O4 := Lib.hid (O3.out.later h4.ext)
    have G4 := Lib.hid h4
    have L4 : n4 ≤ 1048576 := by have := h4.reads.rlen; omega
    have T4 : (tot hs4 : Int) ≤ 1048576 := by have := h4.reads.tot; omega
    have S34 : w3.heap.size ≤ w4.heap.size := h4.ext.size
    clear h4
    go_wp2_with fail
    refine (eqIntSS_any A4 A0 n4 n0 c4 c0 _ _ _ _ zs zs _ G4.out.reads H4.out (by unfold maxLen; omega) (by unfold maxLen; omega)).mono ?_
    rintro e w' ⟨rfl, m4, rfl⟩
    go_wp2_with fail
    refine (toAccountS_any A n3 c _ xs _ (R4.out.drewN m4) E4.out.size hn).mono ?_
    rintro e w5 ⟨A5, n5, c5, rfl, a5⟩
    have z5 := a5.reads.acctLen
    obtain rfl : n5 = n3 := by omega
    have B45 := Lib.hid (ext_trans (below_drewN (B := w4.heap.size) w4 m4) a5.ext)
    go_wp2_with fail
    refine (eqAccountS_any A3 A5 n5 n5 c3 c5 _ _ xs xs _ (O4.out.reads.below B45.out) a5.reads B45.out.size (Nat.le_refl _) (by unfold maxLen; omega) (by unfold maxLen; omega)).mono ?_
    rintro e w6 ⟨rfl, hb6⟩
    rw [decide_eq_true (rfl : xs = xs)]
    have B46 := Lib.hid (ext_trans B45.out hb6)
    have R6 := Lib.hid (R4.out.below (B46.out.mono E4.out.size))
    have E6 := Lib.hid (ext_trans E4.out B46.out)
    have H6 := Lib.hid (H4.out.below (B46.out.mono (Nat.le_trans S23 S34)))
    have O6 := Lib.hid (O4.out.later B46.out)
    have G6 := Lib.hid (G4.out.later B46.out)
    have S46 : w4.heap.size ≤ w6.heap.size := B46.out.size
    clear hb6 a5 z5
    go_wp2_with fail
    refine (markAccountS_any A3 n5 c3 _ _ 1 _ O6.out.own (by omega) (by omega) (by omega)).mono ?_
    rintro e w7 ⟨rfl, _, hg7⟩
    have hrow3 : ∀ g, (Value.slice A3 n5 c3).ownBlock = some g → w2.heap.size ≤ g ∧ g < w3.heap.size := fun g hg => O3.out.own.lt g hg
    have S26 : w2.heap.size ≤ w6.heap.size := by omega
    have H7 := Lib.hid (H6.out.grown hg7 S26 (fun g hg => (hrow3 g hg).1))
    obtain ⟨w3', z3', G7'⟩ := G6.out.moved hg7 (fun g hg => (hrow3 g hg).2)
    have G7 := Lib.hid G7'
    clear G7'
    have E7 := Lib.hid (ext_grown E6.out hg7 (fun g hg => Nat.le_trans E2.out.size (hrow3 g hg).1))
    have S67 : w6.heap.size ≤ w7.heap.size := hg7.size
    have hk1 : (0 : Int) ≤ 1 + ((n5 * 5 : Nat) : Int) := by omega
    clear hg7
    go_wp2_with fail
    refine (eqIntSS_any A4 A0 n4 n0 c4 c0 _ _ _ _ zs zs _ G7.out.reads H7.out (by unfold maxLen; omega) (by unfold maxLen; omega)).mono ?_
    rintro e w' ⟨rfl, m7, rfl⟩
    go_wp2_with fail
    refine (markIntSS_any A4 n4 c4 w3' _ hs4 zs 1 _ (G7.out.drewN m7) (by omega) (by omega) (by omega) (by omega)).mono ?_
    rintro e w8 ⟨rfl, hm8, hb8⟩
    rw [z3'] at hb8
    have H8 := Lib.hid ((H7.out.drewN m7).below (hb8.mono S23))
    have E8 := Lib.hid ((ext_drewN E7.out m7).trans (hb8.mono E3.out.size))
    have G8 := Lib.hid hm8
    have S78 : w7.heap.size ≤ w8.heap.size := hb8.size
    have R8 := Lib.hid (H.out.below E8.out)
    clear hm8 hb8
    go_wp2_with fail
    refine (heldIntSS_any A4 n4 c4 _ hs4 1 _ G8.out.reads (by omega) (by omega) (by omega) (by omega)).mono ?_
    rintro e w' ⟨rfl, rfl⟩
    go_wp2_with fail
    refine (toAccountS_any A n5 c _ xs _ R8.out E8.out.size hn).mono ?_
    rintro e w9 ⟨A9, n9, c9, rfl, a9⟩
    have z9 := a9.reads.acctLen
    obtain rfl : n9 = n5 := by omega
    have B89 := Lib.hid a9.ext
    go_wp2_with fail
    refine (HI.out A9 n9 c9 _ _ a9.reads (Nat.le_refl _) hn).mono ?_
    rintro e w10 ⟨A10, n10, c10, hs10, rfl, h10⟩
    have B8 := Lib.hid (ext_trans B89.out h10.ext)
    have H10 := Lib.hid (H8.out.below (B8.out.mono (by omega)))
    have G10 := Lib.hid (G8.out.later B8.out)
    have E10 := Lib.hid (ext_trans E8.out B8.out)
    have L10 : n10 ≤ 1048576 := by have := h10.reads.rlen; omega
    go_wp2_with fail
    refine (eqIntSS_any A10 A0 n10 n0 c10 c0 _ _ _ _ zs zs _ h10.reads H10.out (by unfold maxLen; omega) (by unfold maxLen; omega)).mono ?_
    rintro e w' ⟨rfl, m10, rfl⟩
    go_wp2_with fail
    refine (heldIntSS_any A4 n4 c4 _ hs4 1 _ (G10.out.drewN m10).reads (by omega) (by omega) (by omega) (by omega)).mono ?_
    rintro e w' ⟨rfl, rfl⟩
    go_wp2_with fail
    go_ret
    exact ⟨rfl, ext_drewN E10.out m10⟩
  · go_enter Try.func12, Try.ntmps12
    go_wp2_with fail
    refine (szAccountS_any A n c hm _).mono ?_
    rintro e w' ⟨rfl, rfl⟩
    rw [if_neg hn]
    go_wp2_with fail
    go_ret
    exact ⟨rfl, Below.refl _ _⟩
end Go.Proofs.Ytbjmpllnkkfgfaa
