/- Debtors: the program. No condition. -/
import Derived.Test.YtbjmpllnkkfgfaaDeb
import Derived.StillTailTactics
namespace Go.Proofs.Ytbjmpllnkkfgfaa
open Go.RowKit

/-- The pupils are told in ascending order. -/
theorem accs_asc {xs : List Acct} (h : accsB xs = true) {i : Nat} {x y : Acct} (hx : xs[i]? = some x) (hy : xs[i + 1]? = some y) : x.p ≤ y.p := by
  unfold accsB at h
  simp only [Bool.and_eq_true] at h
  have h1 := h.1
  unfold accsGo at h1
  rw [List.all_eq_true] at h1
  have hi := (List.getElem?_eq_some_iff.1 hy).1
  have h2 := h1 (i + 1) (by simpa using hi)
  rw [accAt_at (by omega) hy (by simpa using hx)] at h2
  simp only [Bool.and_eq_true] at h2
  have h3 := h2.2
  unfold befB at h3
  simp only [Bool.or_eq_true, Bool.and_eq_true, decide_eq_true_eq, beq_iff_eq] at h3
  omega
theorem accs_le {xs : List Acct} (h : accsB xs = true) : ∀ {j i : Nat} {x y : Acct}, xs[i]? = some x → xs[j]? = some y → i ≤ j → x.p ≤ y.p
  | 0, i, x, y, hx, hy, hij => by
    obtain rfl : i = 0 := by omega
    rw [hx] at hy; injection hy with hy; rw [hy]; exact Int.le_refl _
  | j + 1, i, x, y, hx, hy, hij => by
    rcases Nat.lt_or_ge i (j + 1) with h1 | h1
    · have hj := (List.getElem?_eq_some_iff.1 hy).1
      have hz : xs[j]? = some (xs[j]'(by omega)) := List.getElem?_eq_getElem (by omega)
      exact Int.le_trans (accs_le h hx hz (by omega)) (accs_asc h hz hy)
    · obtain rfl : i = j + 1 := by omega
      rw [hx] at hy; injection hy with hy; rw [hy]; exact Int.le_refl _
theorem debt_seen {f : Int → Int} {xs : List Acct} {i : Nat} {x y : Acct} (hy : xs[i]? = some y) (he : y.p = x.p) : debtStep f (debtS f ((xs.take (i + 1)).map Acct.p)) x.p = debtS f ((xs.take (i + 1)).map Acct.p) := by
  by_cases h : f x.p < 0
  · refine debt_out (.inr (hasB_mem.2 (debtS_has f ?_ h)))
    rw [List.mem_map]
    exact ⟨y, List.mem_of_getElem? (by rw [List.getElem?_take, if_pos (Nat.lt_succ_self i)]; exact hy), he⟩
  · exact debt_out (.inl h)
theorem debt_new {f : Int → Int} {xs : List Acct} {j : Nat} {x : Acct} (ha : accsB xs = true) (hx : xs[j]? = some x) (hn : ∀ i y, j = i + 1 → xs[i]? = some y → y.p ≠ x.p) : hasB (debtS f ((xs.take j).map Acct.p)) x.p = false := by
  cases hb : hasB (debtS f ((xs.take j).map Acct.p)) x.p with
  | false => rfl
  | true =>
    have h1 := debtS_sub f _ _ (hasB_mem.1 hb)
    rw [List.mem_map] at h1
    obtain ⟨z, hz, hzp⟩ := h1
    obtain ⟨i, hi⟩ := List.mem_iff_getElem?.1 hz
    rw [List.getElem?_take] at hi
    split at hi
    · have hij : i < j := by assumption
      have hj := (List.getElem?_eq_some_iff.1 hx).1
      have hy : xs[j - 1]? = some (xs[j - 1]'(by omega)) := List.getElem?_eq_getElem (by omega)
      have l1 := accs_le ha hi hy (by omega)
      have l2 := accs_le ha hy hx (by omega)
      exact absurd (by omega) (hn (j - 1) _ (by omega) hy)
    · cases hi
theorem debt_map {f : Int → Int} {k : Nat} {p : Int} {out : List Int} : (insAt k p out).map f = insAt k (f p) (out.map f) := by simp [insAt, List.map_take, List.map_drop]
theorem bal_own {price : Int} {xs : List Acct} {j : Nat} {x : Acct} (hx : xs[j]? = some x) (ha : accsB xs = true) (hp : inB price 1 500 = true) : balT x.p price xs = .tuple #[.int .i64 (balF price xs x.p), .bool true] := by
  unfold balT
  rw [if_pos ⟨ha, hp, hasA_hit hx rfl⟩]; rfl
set_option maxRecDepth 100000 in
set_option maxHeartbeats 8000000 in
theorem iDebtors_any (A : Option Addr) (n c B : Nat) (xs : List Acct) (price : Int) (w : World) (h : Reads w B 5 A n ((acctF xs).map (Value.int .i64))) (hB : B ≤ w.heap.size) (hn : n ≤ 1048576) :
    Calls Try.prog 38 #[.slice A n c, .int .i64 price] w fun e w' => Gives 3 1 (debtL price xs) (debtOk price xs) w e w' := by
  have hl := h.acctLen
  have H := Lib.hid h
  have HL := Lib.hid hl
  clear h hl
  cases ha : accsB xs
  · rw [show debtL price xs = [] from by simp [debtL, debtOk, ha], show debtOk price xs = false from by simp [debtOk, ha]]
    go_enter Try.func38, Try.ntmps38
    go_wp2_with fail
    refine (iAreAccounts_any A n c B xs _ H.out hB hn).mono ?_
    rintro e w2 ⟨rfl, hb2⟩
    rw [ha]
    go_wp2_with fail
    go_ret2
    exact ⟨none, 0, 0, rfl, Acc.nil hb2⟩
  · cases hp : inB price 1 500
    · rw [show debtL price xs = [] from by simp [debtL, debtOk, hp], show debtOk price xs = false from by simp [debtOk, hp]]
      go_enter Try.func38, Try.ntmps38
      go_wp2_with fail
      refine (iAreAccounts_any A n c B xs _ H.out hB hn).mono ?_
      rintro e w2 ⟨rfl, hb2⟩
      rw [ha]
      go_wp2_with (go_at_call 67; refine (isPrice_v _ hp _).mono ?_; rintro e w' ⟨rfl, rfl⟩)
      go_ret2
      exact ⟨none, 0, 0, rfl, Acc.nil hb2⟩
    · rw [show debtL price xs = debtV price xs from by simp [debtL, debtOk, hp, ha], show debtOk price xs = true from by simp [debtOk, hp, ha]]
      have HAA := Lib.hid ha
      have HO := Lib.hid (accs_ok ha).1
      have HP := Lib.hid hp
      go_enter Try.func38, Try.ntmps38
      go_wp2_with fail
      refine (iAreAccounts_any A n c B xs _ H.out hB hn).mono ?_
      rintro e w2 ⟨rfl, hb2⟩
      rw [ha]
      have HB2 := Lib.hid hb2
      have R2 := Lib.hid (H.out.below (hb2.mono hB))
      have hB2 : B ≤ w2.heap.size := Nat.le_trans hB hb2.size
      clear hb2
      go_wp2_with (go_at_call 67; refine (isPrice_v _ hp _).mono ?_; rintro e w' ⟨rfl, rfl⟩)
      clear ha hp
      go_loopw [6, 7, 23] (fun s t i wr => ∃ (j : Nat) (A1 A2 : Option Addr) (m c1 c2 : Nat), i = .int .i64 j ∧ j ≤ n ∧ s = .slice A1 m c1 ∧ t = .slice A2 m c2 ∧
        AccP w wr 3 1 A1 m c1 (debtS (balF price xs) ((xs.take j).map Acct.p)) A2 m c2 ((debtS (balF price xs) ((xs.take j).map Acct.p)).map (balF price xs))) (fun _ _ i _ => n - (intOf i).toNat)
      case atStart => exact ⟨0, none, none, 0, 0, 0, rfl, by omega, rfl, rfl, Acc.nil HB2.out, Acc.nil HB2.out, Apart.none_ _⟩
      case round =>
        obtain ⟨wo, rfl⟩ : ∃ wo : World, wo = wr := ⟨_, rfl⟩
        obtain ⟨j, A1, A2, m, c1, c2, rfl, hj, rfl, rfl, hacc⟩ := hrel
        have hn' : m ≤ j := by
          have h1 := debtS_len (balF price xs) ((xs.take j).map Acct.p)
          have h2 := hacc.one.reads.len
          rw [h2, List.length_map] at h1
          have h3 := List.length_take_le j xs
          omega
        have HA := Lib.hid hacc
        have hBo : B ≤ wo.heap.size := Nat.le_trans hB hacc.one.ext.size
        have RL := Lib.hid (H.out.below (hacc.one.ext.mono hB))
        clear hacc
        by_cases hlt : j < n
        · obtain ⟨b, o, x, hAx, hx, hc0, hc1, hc2, hc3, hc4⟩ := RL.out.acct hlt
          subst hAx
          have HX := Lib.hid hx
          clear hx
          have HN := Lib.hid (debt_next (f := balF price xs) HX.out)
          have j0 : (0 : Int) ≤ j := by omega
          rcases Nat.eq_zero_or_pos j with hz | hz
          · have HNEW := Lib.hid (debt_new (f := balF price xs) HAA.out HX.out (fun i y e _ => by omega))
            have e0 : decide (0 < j) = false := by simp; omega
            have HZ := Lib.hid hz
            clear hz
            go_wp2
            obtain ⟨W1, hW1⟩ : ∃ W1, W1 = wo.alloc (Obj.cells #[.int .i64 x.p, .int .i64 x.m, .int .i64 x.l, .int .i64 x.s, .int .i64 x.d] 25) := ⟨_, rfl⟩
            rw [← hW1]
            have HAW := Lib.hid (HA.out.alloc (Obj.cells #[.int .i64 x.p, .int .i64 x.m, .int .i64 x.l, .int .i64 x.s, .int .i64 x.d] 25))
            rw [← hW1] at HAW
            have RLW := Lib.hid (RL.out.alloc hBo (Obj.cells #[.int .i64 x.p, .int .i64 x.m, .int .i64 x.l, .int .i64 x.s, .int .i64 x.d] 25))
            rw [← hW1] at RLW
            have hbW : B ≤ W1.heap.size := by rw [hW1]; simp; omega
            have kW : W1.cell? ⟨wo.heap.size, 0, none⟩ = some (.int .i64 x.p) := by rw [hW1]; exact (box_cells wo 25 x).1
            clear hW1
            go_quiet (fail)
            go_wp2_with fail
            refine (iBalanceOf_any _ n c B xs x.p price _ (RLW.out.drewN _) hbW hn).mono ?_
            rintro e wp ⟨rfl, hbp⟩
            rw [bal_own HX.out HAA.out HP.out]
            have kbox : wp.cell? ⟨wo.heap.size, 0, none⟩ = some (.int .i64 x.p) := ((bcell hbp).1 wo.heap.size 0 (World.block_lt_of_cell? _ _ kW)).trans kW
            have HAP := Lib.hid ((HAW.out.drewN _).later hbp)
            clear hbp
            clear HAW kW
            generalize hDD : debtS (balF price xs) ((xs.take j).map Acct.p) = D at HAP HN HNEW
            clear hDD
            obtain ⟨hbd1, hbd2⟩ := balF_bd x.p HO.out HP.out HL.out hn
            generalize hfp : balF price xs x.p = fp at hbd1 hbd2 ⊢
            have HF := Lib.hid hfp
            clear hfp
            have hDl : D.length = m := HAP.out.one.reads.len
            have HDL := Lib.hid hDl
            clear hDl
            by_cases hneg : fp < 0
            · have hd : decide (0 ≤ fp) = false := by simp; omega
              have HIN := Lib.hid (fun k => debt_in (f := balF price xs) (k := k) (HF.out ▸ hneg) HNEW.out)
              go_wp2
              go_loop [12] (fun q => ∃ k : Nat, q = .int .i64 k ∧ k ≤ m ∧ posD fp (D.map (balF price xs)) m = posD fp (D.map (balF price xs)) k) (fun q => (intOf q).toNat)
              case atStart => exact ⟨m, rfl, Nat.le_refl _, rfl⟩
              case round =>
                obtain ⟨k, rfl, hk, hpos⟩ := hrel
                have HPOS := Lib.hid hpos
                clear hpos
                have k0 : (0 : Int) ≤ k := by omega
                have k1 : (k : Int) ≤ m := by omega
                rcases Nat.eq_zero_or_pos k with h0 | h0
                · have HI := Lib.hid (HIN.out k (by rw [HDL.out, HF.out, HPOS.out, h0]; rfl))
                  have e9 : decide (0 < k) = false := by simp; omega
                  clear h0
                  obtain ⟨z3, hz3⟩ : ∃ z, (splice (D ++ [0]) (k + 1) (((D ++ [0]).drop k).take (m - k)))[k]? = some z := ⟨_, List.getElem?_eq_getElem (by rw [length_splice _ _ _ (by rw [List.length_take, List.length_drop, List.length_append, HDL.out]; simp; omega), List.length_append, HDL.out]; simp; omega)⟩
                  obtain ⟨z6, hz6⟩ : ∃ z, (splice (D.map (balF price xs) ++ [0]) (k + 1) (((D.map (balF price xs) ++ [0]).drop k).take (m - k)))[k]? = some z := ⟨_, List.getElem?_eq_getElem (by rw [length_splice _ _ _ (by rw [List.length_take, List.length_drop, List.length_append, List.length_map, HDL.out]; simp; omega), List.length_append, List.length_map, HDL.out]; simp; omega)⟩
                  have HZ3 := Lib.hid hz3
                  have HZ6 := Lib.hid hz6
                  have HO3 := Lib.hid (hole_one D 0 x.p m k HDL.out hk)
                  have HO6 := Lib.hid (hole_one (D.map (balF price xs)) 0 fp m k (by rw [List.length_map]; exact HDL.out) hk)
                  clear hz3 hz6
                  go_wp2_with (at_builtin; refine appI_b rfl (.tmp 66) (.tmp 67) rfl rfl (HAP.out.one.alloc _) rfl (reads_new _ _ _ 1 [0] rfl rfl) (by omega) ?_; intro A3 c3 w3 hacc3 hp3)
                  have P3 := Lib.hid ((HAP.out.alloc _).push1 hacc3 hp3)
                  obtain ⟨g, cp, hv, hg1, hg2⟩ := hacc3.own.form (by omega)
                  obtain rfl : A3 = some ⟨g, 0, none⟩ := by injection hv
                  have hb3 := hp3.cell ((World.cell?_alloc_lt wp _ _ (World.block_lt_of_cell? _ _ kbox)).trans kbox) (fun y hy => Nat.ne_of_lt (HA.out.one.lt y hy))
                  have hoff3 : g ≠ wo.heap.size := hp3.off (Nat.lt_of_lt_of_le (World.block_lt_of_cell? _ _ kbox) (by simp)) (fun y hy => Nat.ne_of_lt (HA.out.one.lt y hy)) _ rfl
                  have hcap := hacc3.cap
                  unfold maxLen at hcap
                  obtain ⟨cc1, cc2⟩ := hcap
                  clear hacc3 hp3 hv hg1 hg2 kbox
                  have q3 : ((m + 1 : Nat) : Int) ≤ c3 := by omega
                  have q4 : IntKind.i64.wrap ((k : Int) + 1) = (k : Int) + 1 := IntWalk.i64_in _ ⟨by omega, by omega⟩
                  have q5 : (0 : Int) ≤ (k : Int) + 1 := by omega
                  have q6 : ((k : Int) + 1).toNat = k + 1 := by omega
                  have q7 : ¬ c3 = k := by omega
                  have q9 : (k : Int) ≤ (m : Int) + 1 := by omega
                  have q10 : (k : Int) + 1 ≤ (m : Int) + 1 := by omega
                  have q11 : (m : Int) + 1 ≤ c3 := by omega
                  go_still_tail 7, (by kernel_rfl)
                  refine acc_copy (size := 1) rfl (.tmp 72) (.tmp 75) rfl Try.underlying47 (by kernel_rfl) P3.out.one.drew _ _ _ _ _ _ (k + 1) k (m - k) rfl rfl (by show min _ _ = _; omega) (fun hp => ⟨if_neg (by omega), by first | rfl | exact if_neg (by omega)⟩) (by omega) (by omega) ?_
                  intro w4 haccw4 hgw4
                  rw [Nat.mul_one] at haccw4
                  generalize (if c3 = k + 1 then some (⟨g, 0, none⟩ : Addr) else some ⟨g, k + 1, none⟩) = sv
                  have P4 := Lib.hid (P3.out.drew.push1 haccw4 (pushed_self hgw4))
                  have hb4 := (pushed_self hgw4).cell (w := w3.drew) hb3 (fun y hy => by injection hy with hy; subst hy; exact hoff3)
                  obtain ⟨hcell3, hfr3⟩ := haccw4.cellAt HZ3.out
                  have P5 := Lib.hid (P4.out.push1 (haccw4.set k x.p) (pushed_set haccw4 _))
                  clear hb3 hgw4 haccw4 q3 q7 q11
                  go_wp2_with (at_builtin; refine appI_b rfl (.tmp 82) (.tmp 83) rfl rfl (P5.out.two.alloc _) rfl (reads_newAt _ _ _ 1 [0] _ (by simp) rfl rfl) (by omega) ?_; intro A6 c6 w6 hacc6 hp6)
                  have P6 := Lib.hid ((P5.out.alloc _).push2 hacc6 hp6)
                  obtain ⟨g6, cp6, hv, hg1, hg2⟩ := hacc6.own.form (by omega)
                  obtain rfl : A6 = some ⟨g6, 0, none⟩ := by injection hv
                  have hcap := hacc6.cap
                  unfold maxLen at hcap
                  obtain ⟨cd1, cd2⟩ := hcap
                  clear hacc6 hp6 hv hg1 hg2 hb4 hcell3 hfr3
                  have q3 : ((m + 1 : Nat) : Int) ≤ c6 := by omega
                  have q7 : ¬ c6 = k := by omega
                  have q11 : (m : Int) + 1 ≤ c6 := by omega
                  go_still_tail 7, (by kernel_rfl)
                  refine acc_copy (size := 1) rfl (.tmp 88) (.tmp 91) rfl Try.underlying47 (by kernel_rfl) P6.out.two.drew _ _ _ _ _ _ (k + 1) k (m - k) rfl rfl (by show min _ _ = _; omega) (fun hp => ⟨if_neg (by omega), by first | rfl | exact if_neg (by omega)⟩) (by omega) (by omega) ?_
                  intro w7 haccw7 hgw7
                  rw [Nat.mul_one] at haccw7
                  generalize (if c6 = k + 1 then some (⟨g6, 0, none⟩ : Addr) else some ⟨g6, k + 1, none⟩) = sv6
                  have P7 := Lib.hid (P6.out.drew.push2 haccw7 (pushed_self hgw7))
                  obtain ⟨hcell6, hfr6⟩ := haccw7.cellAt HZ6.out
                  have P8 := Lib.hid (P7.out.push2 (haccw7.set k fp) (pushed_set haccw7 _))
                  clear hgw7 haccw7
                  go_wp2
                  go_roundw
                  case rel =>
                    have h8 := P8.out
                    rw [HO3.out, HO6.out] at h8
                    refine ⟨j + 1, _, _, _, _, _, by go_num, by omega, rfl, rfl, ?_⟩
                    rw [HN.out, HI.out, debt_map, HF.out]
                    exact h8
                  case measure => simp [intOf]; omega
                · obtain ⟨i, hi⟩ : ∃ i, k = i + 1 := ⟨k - 1, by omega⟩
                  have e9 : decide (0 < k) = true := by simp; omega
                  have i0 : (0 : Int) ≤ i := by omega
                  have i1 : (i : Int) < m := by omega
                  have i2 : (k : Int) - 1 = (i : Int) := by omega
                  obtain ⟨b', o', y, hAy, hy, hcell⟩ := HAP.out.two.reads.int (show i < m by omega)
                  subst hAy
                  have HY := Lib.hid hy
                  have HJ := Lib.hid hi
                  clear hy hi h0
                  by_cases hlt2 : fp < y
                  · have HPO := Lib.hid (posD_on HY.out hlt2)
                    have e3 : decide (fp < y) = true := by simp; omega
                    go_wp2
                    go_round
                    case rel => exact ⟨i, by have := HJ.out; go_num, by omega, by rw [HPOS.out, HJ.out, HPO.out]⟩
                    case measure => simp [intOf]; have := HJ.out; omega
                  · have HPO := Lib.hid (posD_stop HY.out hlt2)
                    have e3 : decide (fp < y) = false := by simp; omega
                    have HI := Lib.hid (HIN.out k (by rw [HDL.out, HF.out, HPOS.out, HJ.out, HPO.out]))
                    obtain ⟨z3, hz3⟩ : ∃ z, (splice (D ++ [0]) (k + 1) (((D ++ [0]).drop k).take (m - k)))[k]? = some z := ⟨_, List.getElem?_eq_getElem (by rw [length_splice _ _ _ (by rw [List.length_take, List.length_drop, List.length_append, HDL.out]; simp; omega), List.length_append, HDL.out]; simp; omega)⟩
                    obtain ⟨z6, hz6⟩ : ∃ z, (splice (D.map (balF price xs) ++ [0]) (k + 1) (((D.map (balF price xs) ++ [0]).drop k).take (m - k)))[k]? = some z := ⟨_, List.getElem?_eq_getElem (by rw [length_splice _ _ _ (by rw [List.length_take, List.length_drop, List.length_append, List.length_map, HDL.out]; simp; omega), List.length_append, List.length_map, HDL.out]; simp; omega)⟩
                    have HZ3 := Lib.hid hz3
                    have HZ6 := Lib.hid hz6
                    have HO3 := Lib.hid (hole_one D 0 x.p m k HDL.out hk)
                    have HO6 := Lib.hid (hole_one (D.map (balF price xs)) 0 fp m k (by rw [List.length_map]; exact HDL.out) hk)
                    clear hz3 hz6
                    go_wp2_with (at_builtin; refine appI_b rfl (.tmp 66) (.tmp 67) rfl rfl (HAP.out.one.alloc _) rfl (reads_new _ _ _ 1 [0] rfl rfl) (by omega) ?_; intro A3 c3 w3 hacc3 hp3)
                    have P3 := Lib.hid ((HAP.out.alloc _).push1 hacc3 hp3)
                    obtain ⟨g, cp, hv, hg1, hg2⟩ := hacc3.own.form (by omega)
                    obtain rfl : A3 = some ⟨g, 0, none⟩ := by injection hv
                    have hb3 := hp3.cell ((World.cell?_alloc_lt wp _ _ (World.block_lt_of_cell? _ _ kbox)).trans kbox) (fun y hy => Nat.ne_of_lt (HA.out.one.lt y hy))
                    have hoff3 : g ≠ wo.heap.size := hp3.off (Nat.lt_of_lt_of_le (World.block_lt_of_cell? _ _ kbox) (by simp)) (fun y hy => Nat.ne_of_lt (HA.out.one.lt y hy)) _ rfl
                    have hcap := hacc3.cap
                    unfold maxLen at hcap
                    obtain ⟨cc1, cc2⟩ := hcap
                    clear hacc3 hp3 hv hg1 hg2 kbox
                    have q3 : ((m + 1 : Nat) : Int) ≤ c3 := by omega
                    have q4 : IntKind.i64.wrap ((k : Int) + 1) = (k : Int) + 1 := IntWalk.i64_in _ ⟨by omega, by omega⟩
                    have q5 : (0 : Int) ≤ (k : Int) + 1 := by omega
                    have q6 : ((k : Int) + 1).toNat = k + 1 := by omega
                    have q7 : ¬ c3 = k := by omega
                    have q9 : (k : Int) ≤ (m : Int) + 1 := by omega
                    have q10 : (k : Int) + 1 ≤ (m : Int) + 1 := by omega
                    have q11 : (m : Int) + 1 ≤ c3 := by omega
                    go_still_tail 7, (by kernel_rfl)
                    refine acc_copy (size := 1) rfl (.tmp 72) (.tmp 75) rfl Try.underlying47 (by kernel_rfl) P3.out.one.drew _ _ _ _ _ _ (k + 1) k (m - k) rfl rfl (by show min _ _ = _; omega) (fun hp => ⟨if_neg (by omega), by first | rfl | exact if_neg (by omega)⟩) (by omega) (by omega) ?_
                    intro w4 haccw4 hgw4
                    rw [Nat.mul_one] at haccw4
                    generalize (if c3 = k + 1 then some (⟨g, 0, none⟩ : Addr) else some ⟨g, k + 1, none⟩) = sv
                    have P4 := Lib.hid (P3.out.drew.push1 haccw4 (pushed_self hgw4))
                    have hb4 := (pushed_self hgw4).cell (w := w3.drew) hb3 (fun y hy => by injection hy with hy; subst hy; exact hoff3)
                    obtain ⟨hcell3, hfr3⟩ := haccw4.cellAt HZ3.out
                    have P5 := Lib.hid (P4.out.push1 (haccw4.set k x.p) (pushed_set haccw4 _))
                    clear hb3 hgw4 haccw4 q3 q7 q11
                    go_wp2_with (at_builtin; refine appI_b rfl (.tmp 82) (.tmp 83) rfl rfl (P5.out.two.alloc _) rfl (reads_newAt _ _ _ 1 [0] _ (by simp) rfl rfl) (by omega) ?_; intro A6 c6 w6 hacc6 hp6)
                    have P6 := Lib.hid ((P5.out.alloc _).push2 hacc6 hp6)
                    obtain ⟨g6, cp6, hv, hg1, hg2⟩ := hacc6.own.form (by omega)
                    obtain rfl : A6 = some ⟨g6, 0, none⟩ := by injection hv
                    have hcap := hacc6.cap
                    unfold maxLen at hcap
                    obtain ⟨cd1, cd2⟩ := hcap
                    clear hacc6 hp6 hv hg1 hg2 hb4 hcell3 hfr3
                    have q3 : ((m + 1 : Nat) : Int) ≤ c6 := by omega
                    have q7 : ¬ c6 = k := by omega
                    have q11 : (m : Int) + 1 ≤ c6 := by omega
                    go_still_tail 7, (by kernel_rfl)
                    refine acc_copy (size := 1) rfl (.tmp 88) (.tmp 91) rfl Try.underlying47 (by kernel_rfl) P6.out.two.drew _ _ _ _ _ _ (k + 1) k (m - k) rfl rfl (by show min _ _ = _; omega) (fun hp => ⟨if_neg (by omega), by first | rfl | exact if_neg (by omega)⟩) (by omega) (by omega) ?_
                    intro w7 haccw7 hgw7
                    rw [Nat.mul_one] at haccw7
                    generalize (if c6 = k + 1 then some (⟨g6, 0, none⟩ : Addr) else some ⟨g6, k + 1, none⟩) = sv6
                    have P7 := Lib.hid (P6.out.drew.push2 haccw7 (pushed_self hgw7))
                    obtain ⟨hcell6, hfr6⟩ := haccw7.cellAt HZ6.out
                    have P8 := Lib.hid (P7.out.push2 (haccw7.set k fp) (pushed_set haccw7 _))
                    clear hgw7 haccw7
                    go_wp2
                    go_roundw
                    case rel =>
                      have h8 := P8.out
                      rw [HO3.out, HO6.out] at h8
                      refine ⟨j + 1, _, _, _, _, _, by go_num, by omega, rfl, rfl, ?_⟩
                      rw [HN.out, HI.out, debt_map, HF.out]
                      exact h8
                    case measure => simp [intOf]; omega
            · have HST := Lib.hid (debt_out (f := balF price xs) (out := D) (p := x.p) (.inl (HF.out ▸ hneg)))
              have hd : decide (0 ≤ fp) = true := by simp; omega
              have hnn : 0 ≤ fp := by omega
              go_wp2
              go_roundw
              case rel => exact ⟨j + 1, _, _, _, _, _, by go_num, by omega, rfl, rfl, by rw [HN.out, HST.out]; exact HAP.out⟩
              case measure => simp [intOf]; omega
          · obtain ⟨i, hi⟩ : ∃ i, j = i + 1 := ⟨j - 1, by omega⟩
            have e0 : decide (0 < j) = true := by simp; omega
            have i0 : (0 : Int) ≤ i := by omega
            have i1 : (i : Int) < n := by omega
            have i2 : IntKind.i64.wrap (i : Int) = (i : Int) := IntWalk.i64_in _ ⟨by omega, by omega⟩
            have i3 : (j : Int) - 1 = (i : Int) := by omega
            obtain ⟨b2, o2, y, hAy, hy, hd0, _, _, _, _⟩ := RL.out.acct (show i < n by omega)
            injection hAy with hAy
            injection hAy with e1 e2
            subst e1 e2
            have HY := Lib.hid hy
            have HI' := Lib.hid hi
            clear hy hi hz
            by_cases hpe : y.p = x.p
            · have HST := Lib.hid (by have h := debt_seen (f := balF price xs) HY.out hpe; rw [← HI'.out] at h; exact h)
              have hpb : (y.p == x.p) = true := by simp [hpe]
              clear hpe
              go_wp2
              obtain ⟨W1, hW1⟩ : ∃ W1, W1 = wo.alloc (Obj.cells #[.int .i64 x.p, .int .i64 x.m, .int .i64 x.l, .int .i64 x.s, .int .i64 x.d] 25) := ⟨_, rfl⟩
              rw [← hW1]
              have HAW := Lib.hid (HA.out.alloc (Obj.cells #[.int .i64 x.p, .int .i64 x.m, .int .i64 x.l, .int .i64 x.s, .int .i64 x.d] 25))
              rw [← hW1] at HAW
              have RLW := Lib.hid (RL.out.alloc hBo (Obj.cells #[.int .i64 x.p, .int .i64 x.m, .int .i64 x.l, .int .i64 x.s, .int .i64 x.d] 25))
              rw [← hW1] at RLW
              have hbW : B ≤ W1.heap.size := by rw [hW1]; simp; omega
              have kW : W1.cell? ⟨wo.heap.size, 0, none⟩ = some (.int .i64 x.p) := by rw [hW1]; exact (box_cells wo 25 x).1
              have hdW : W1.cell? ⟨b, o + i * 5, none⟩ = some (.int .i64 y.p) := by rw [hW1]; exact (World.cell?_alloc_lt wo _ _ (World.block_lt_of_cell? _ _ hd0)).trans hd0
              clear hW1
              go_quiet (fail)
              go_wp2
              go_roundw
              case rel => exact ⟨j + 1, _, _, _, _, _, by go_num, by omega, rfl, rfl, by rw [HN.out, HST.out]; exact HAW.out.drewN _⟩
              case measure => simp [intOf]; omega
            · have HNEW := Lib.hid (debt_new (f := balF price xs) HAA.out HX.out (fun i' y' e hy' => by
                have h2 := HI'.out
                obtain rfl : i' = i := by omega
                rw [HY.out] at hy'; injection hy' with hy'; rw [← hy']; exact hpe))
              have hpb : (y.p == x.p) = false := by simp [hpe]
              clear hpe
              go_wp2
              obtain ⟨W1, hW1⟩ : ∃ W1, W1 = wo.alloc (Obj.cells #[.int .i64 x.p, .int .i64 x.m, .int .i64 x.l, .int .i64 x.s, .int .i64 x.d] 25) := ⟨_, rfl⟩
              rw [← hW1]
              have HAW := Lib.hid (HA.out.alloc (Obj.cells #[.int .i64 x.p, .int .i64 x.m, .int .i64 x.l, .int .i64 x.s, .int .i64 x.d] 25))
              rw [← hW1] at HAW
              have RLW := Lib.hid (RL.out.alloc hBo (Obj.cells #[.int .i64 x.p, .int .i64 x.m, .int .i64 x.l, .int .i64 x.s, .int .i64 x.d] 25))
              rw [← hW1] at RLW
              have hbW : B ≤ W1.heap.size := by rw [hW1]; simp; omega
              have kW : W1.cell? ⟨wo.heap.size, 0, none⟩ = some (.int .i64 x.p) := by rw [hW1]; exact (box_cells wo 25 x).1
              have hdW : W1.cell? ⟨b, o + i * 5, none⟩ = some (.int .i64 y.p) := by rw [hW1]; exact (World.cell?_alloc_lt wo _ _ (World.block_lt_of_cell? _ _ hd0)).trans hd0
              clear hW1
              go_quiet (fail)
              go_wp2_with fail
              refine (iBalanceOf_any _ n c B xs x.p price _ (RLW.out.drewN _) hbW hn).mono ?_
              rintro e wp ⟨rfl, hbp⟩
              rw [bal_own HX.out HAA.out HP.out]
              have kbox : wp.cell? ⟨wo.heap.size, 0, none⟩ = some (.int .i64 x.p) := ((bcell hbp).1 wo.heap.size 0 (World.block_lt_of_cell? _ _ kW)).trans kW
              have HAP := Lib.hid ((HAW.out.drewN _).later hbp)
              clear hbp
              clear HAW kW
              generalize hDD : debtS (balF price xs) ((xs.take j).map Acct.p) = D at HAP HN HNEW
              clear hDD
              obtain ⟨hbd1, hbd2⟩ := balF_bd x.p HO.out HP.out HL.out hn
              generalize hfp : balF price xs x.p = fp at hbd1 hbd2 ⊢
              have HF := Lib.hid hfp
              clear hfp
              have hDl : D.length = m := HAP.out.one.reads.len
              have HDL := Lib.hid hDl
              clear hDl
              by_cases hneg : fp < 0
              · have hd : decide (0 ≤ fp) = false := by simp; omega
                have HIN := Lib.hid (fun k => debt_in (f := balF price xs) (k := k) (HF.out ▸ hneg) HNEW.out)
                go_wp2
                go_loop [12] (fun q => ∃ k : Nat, q = .int .i64 k ∧ k ≤ m ∧ posD fp (D.map (balF price xs)) m = posD fp (D.map (balF price xs)) k) (fun q => (intOf q).toNat)
                case atStart => exact ⟨m, rfl, Nat.le_refl _, rfl⟩
                case round =>
                  obtain ⟨k, rfl, hk, hpos⟩ := hrel
                  have HPOS := Lib.hid hpos
                  clear hpos
                  have k0 : (0 : Int) ≤ k := by omega
                  have k1 : (k : Int) ≤ m := by omega
                  rcases Nat.eq_zero_or_pos k with h0 | h0
                  · have HI := Lib.hid (HIN.out k (by rw [HDL.out, HF.out, HPOS.out, h0]; rfl))
                    have e9 : decide (0 < k) = false := by simp; omega
                    clear h0
                    obtain ⟨z3, hz3⟩ : ∃ z, (splice (D ++ [0]) (k + 1) (((D ++ [0]).drop k).take (m - k)))[k]? = some z := ⟨_, List.getElem?_eq_getElem (by rw [length_splice _ _ _ (by rw [List.length_take, List.length_drop, List.length_append, HDL.out]; simp; omega), List.length_append, HDL.out]; simp; omega)⟩
                    obtain ⟨z6, hz6⟩ : ∃ z, (splice (D.map (balF price xs) ++ [0]) (k + 1) (((D.map (balF price xs) ++ [0]).drop k).take (m - k)))[k]? = some z := ⟨_, List.getElem?_eq_getElem (by rw [length_splice _ _ _ (by rw [List.length_take, List.length_drop, List.length_append, List.length_map, HDL.out]; simp; omega), List.length_append, List.length_map, HDL.out]; simp; omega)⟩
                    have HZ3 := Lib.hid hz3
                    have HZ6 := Lib.hid hz6
                    have HO3 := Lib.hid (hole_one D 0 x.p m k HDL.out hk)
                    have HO6 := Lib.hid (hole_one (D.map (balF price xs)) 0 fp m k (by rw [List.length_map]; exact HDL.out) hk)
                    clear hz3 hz6
                    go_wp2_with (at_builtin; refine appI_b rfl (.tmp 66) (.tmp 67) rfl rfl (HAP.out.one.alloc _) rfl (reads_new _ _ _ 1 [0] rfl rfl) (by omega) ?_; intro A3 c3 w3 hacc3 hp3)
                    have P3 := Lib.hid ((HAP.out.alloc _).push1 hacc3 hp3)
                    obtain ⟨g, cp, hv, hg1, hg2⟩ := hacc3.own.form (by omega)
                    obtain rfl : A3 = some ⟨g, 0, none⟩ := by injection hv
                    have hb3 := hp3.cell ((World.cell?_alloc_lt wp _ _ (World.block_lt_of_cell? _ _ kbox)).trans kbox) (fun y hy => Nat.ne_of_lt (HA.out.one.lt y hy))
                    have hoff3 : g ≠ wo.heap.size := hp3.off (Nat.lt_of_lt_of_le (World.block_lt_of_cell? _ _ kbox) (by simp)) (fun y hy => Nat.ne_of_lt (HA.out.one.lt y hy)) _ rfl
                    have hcap := hacc3.cap
                    unfold maxLen at hcap
                    obtain ⟨cc1, cc2⟩ := hcap
                    clear hacc3 hp3 hv hg1 hg2 kbox
                    have q3 : ((m + 1 : Nat) : Int) ≤ c3 := by omega
                    have q4 : IntKind.i64.wrap ((k : Int) + 1) = (k : Int) + 1 := IntWalk.i64_in _ ⟨by omega, by omega⟩
                    have q5 : (0 : Int) ≤ (k : Int) + 1 := by omega
                    have q6 : ((k : Int) + 1).toNat = k + 1 := by omega
                    have q7 : ¬ c3 = k := by omega
                    have q9 : (k : Int) ≤ (m : Int) + 1 := by omega
                    have q10 : (k : Int) + 1 ≤ (m : Int) + 1 := by omega
                    have q11 : (m : Int) + 1 ≤ c3 := by omega
                    go_still_tail 7, (by kernel_rfl)
                    refine acc_copy (size := 1) rfl (.tmp 72) (.tmp 75) rfl Try.underlying47 (by kernel_rfl) P3.out.one.drew _ _ _ _ _ _ (k + 1) k (m - k) rfl rfl (by show min _ _ = _; omega) (fun hp => ⟨if_neg (by omega), by first | rfl | exact if_neg (by omega)⟩) (by omega) (by omega) ?_
                    intro w4 haccw4 hgw4
                    rw [Nat.mul_one] at haccw4
                    generalize (if c3 = k + 1 then some (⟨g, 0, none⟩ : Addr) else some ⟨g, k + 1, none⟩) = sv
                    have P4 := Lib.hid (P3.out.drew.push1 haccw4 (pushed_self hgw4))
                    have hb4 := (pushed_self hgw4).cell (w := w3.drew) hb3 (fun y hy => by injection hy with hy; subst hy; exact hoff3)
                    obtain ⟨hcell3, hfr3⟩ := haccw4.cellAt HZ3.out
                    have P5 := Lib.hid (P4.out.push1 (haccw4.set k x.p) (pushed_set haccw4 _))
                    clear hb3 hgw4 haccw4 q3 q7 q11
                    go_wp2_with (at_builtin; refine appI_b rfl (.tmp 82) (.tmp 83) rfl rfl (P5.out.two.alloc _) rfl (reads_newAt _ _ _ 1 [0] _ (by simp) rfl rfl) (by omega) ?_; intro A6 c6 w6 hacc6 hp6)
                    have P6 := Lib.hid ((P5.out.alloc _).push2 hacc6 hp6)
                    obtain ⟨g6, cp6, hv, hg1, hg2⟩ := hacc6.own.form (by omega)
                    obtain rfl : A6 = some ⟨g6, 0, none⟩ := by injection hv
                    have hcap := hacc6.cap
                    unfold maxLen at hcap
                    obtain ⟨cd1, cd2⟩ := hcap
                    clear hacc6 hp6 hv hg1 hg2 hb4 hcell3 hfr3
                    have q3 : ((m + 1 : Nat) : Int) ≤ c6 := by omega
                    have q7 : ¬ c6 = k := by omega
                    have q11 : (m : Int) + 1 ≤ c6 := by omega
                    go_still_tail 7, (by kernel_rfl)
                    refine acc_copy (size := 1) rfl (.tmp 88) (.tmp 91) rfl Try.underlying47 (by kernel_rfl) P6.out.two.drew _ _ _ _ _ _ (k + 1) k (m - k) rfl rfl (by show min _ _ = _; omega) (fun hp => ⟨if_neg (by omega), by first | rfl | exact if_neg (by omega)⟩) (by omega) (by omega) ?_
                    intro w7 haccw7 hgw7
                    rw [Nat.mul_one] at haccw7
                    generalize (if c6 = k + 1 then some (⟨g6, 0, none⟩ : Addr) else some ⟨g6, k + 1, none⟩) = sv6
                    have P7 := Lib.hid (P6.out.drew.push2 haccw7 (pushed_self hgw7))
                    obtain ⟨hcell6, hfr6⟩ := haccw7.cellAt HZ6.out
                    have P8 := Lib.hid (P7.out.push2 (haccw7.set k fp) (pushed_set haccw7 _))
                    clear hgw7 haccw7
                    go_wp2
                    go_roundw
                    case rel =>
                      have h8 := P8.out
                      rw [HO3.out, HO6.out] at h8
                      refine ⟨j + 1, _, _, _, _, _, by go_num, by omega, rfl, rfl, ?_⟩
                      rw [HN.out, HI.out, debt_map, HF.out]
                      exact h8
                    case measure => simp [intOf]; omega
                  · obtain ⟨i, hi⟩ : ∃ i, k = i + 1 := ⟨k - 1, by omega⟩
                    have e9 : decide (0 < k) = true := by simp; omega
                    have i0 : (0 : Int) ≤ i := by omega
                    have i1 : (i : Int) < m := by omega
                    have i2 : (k : Int) - 1 = (i : Int) := by omega
                    obtain ⟨b', o', y, hAy, hy, hcell⟩ := HAP.out.two.reads.int (show i < m by omega)
                    subst hAy
                    have HY := Lib.hid hy
                    have HJ := Lib.hid hi
                    clear hy hi h0
                    by_cases hlt2 : fp < y
                    · have HPO := Lib.hid (posD_on HY.out hlt2)
                      have e3 : decide (fp < y) = true := by simp; omega
                      go_wp2
                      go_round
                      case rel => exact ⟨i, by have := HJ.out; go_num, by omega, by rw [HPOS.out, HJ.out, HPO.out]⟩
                      case measure => simp [intOf]; have := HJ.out; omega
                    · have HPO := Lib.hid (posD_stop HY.out hlt2)
                      have e3 : decide (fp < y) = false := by simp; omega
                      have HI := Lib.hid (HIN.out k (by rw [HDL.out, HF.out, HPOS.out, HJ.out, HPO.out]))
                      obtain ⟨z3, hz3⟩ : ∃ z, (splice (D ++ [0]) (k + 1) (((D ++ [0]).drop k).take (m - k)))[k]? = some z := ⟨_, List.getElem?_eq_getElem (by rw [length_splice _ _ _ (by rw [List.length_take, List.length_drop, List.length_append, HDL.out]; simp; omega), List.length_append, HDL.out]; simp; omega)⟩
                      obtain ⟨z6, hz6⟩ : ∃ z, (splice (D.map (balF price xs) ++ [0]) (k + 1) (((D.map (balF price xs) ++ [0]).drop k).take (m - k)))[k]? = some z := ⟨_, List.getElem?_eq_getElem (by rw [length_splice _ _ _ (by rw [List.length_take, List.length_drop, List.length_append, List.length_map, HDL.out]; simp; omega), List.length_append, List.length_map, HDL.out]; simp; omega)⟩
                      have HZ3 := Lib.hid hz3
                      have HZ6 := Lib.hid hz6
                      have HO3 := Lib.hid (hole_one D 0 x.p m k HDL.out hk)
                      have HO6 := Lib.hid (hole_one (D.map (balF price xs)) 0 fp m k (by rw [List.length_map]; exact HDL.out) hk)
                      clear hz3 hz6
                      go_wp2_with (at_builtin; refine appI_b rfl (.tmp 66) (.tmp 67) rfl rfl (HAP.out.one.alloc _) rfl (reads_new _ _ _ 1 [0] rfl rfl) (by omega) ?_; intro A3 c3 w3 hacc3 hp3)
                      have P3 := Lib.hid ((HAP.out.alloc _).push1 hacc3 hp3)
                      obtain ⟨g, cp, hv, hg1, hg2⟩ := hacc3.own.form (by omega)
                      obtain rfl : A3 = some ⟨g, 0, none⟩ := by injection hv
                      have hb3 := hp3.cell ((World.cell?_alloc_lt wp _ _ (World.block_lt_of_cell? _ _ kbox)).trans kbox) (fun y hy => Nat.ne_of_lt (HA.out.one.lt y hy))
                      have hoff3 : g ≠ wo.heap.size := hp3.off (Nat.lt_of_lt_of_le (World.block_lt_of_cell? _ _ kbox) (by simp)) (fun y hy => Nat.ne_of_lt (HA.out.one.lt y hy)) _ rfl
                      have hcap := hacc3.cap
                      unfold maxLen at hcap
                      obtain ⟨cc1, cc2⟩ := hcap
                      clear hacc3 hp3 hv hg1 hg2 kbox
                      have q3 : ((m + 1 : Nat) : Int) ≤ c3 := by omega
                      have q4 : IntKind.i64.wrap ((k : Int) + 1) = (k : Int) + 1 := IntWalk.i64_in _ ⟨by omega, by omega⟩
                      have q5 : (0 : Int) ≤ (k : Int) + 1 := by omega
                      have q6 : ((k : Int) + 1).toNat = k + 1 := by omega
                      have q7 : ¬ c3 = k := by omega
                      have q9 : (k : Int) ≤ (m : Int) + 1 := by omega
                      have q10 : (k : Int) + 1 ≤ (m : Int) + 1 := by omega
                      have q11 : (m : Int) + 1 ≤ c3 := by omega
                      go_still_tail 7, (by kernel_rfl)
                      refine acc_copy (size := 1) rfl (.tmp 72) (.tmp 75) rfl Try.underlying47 (by kernel_rfl) P3.out.one.drew _ _ _ _ _ _ (k + 1) k (m - k) rfl rfl (by show min _ _ = _; omega) (fun hp => ⟨if_neg (by omega), by first | rfl | exact if_neg (by omega)⟩) (by omega) (by omega) ?_
                      intro w4 haccw4 hgw4
                      rw [Nat.mul_one] at haccw4
                      generalize (if c3 = k + 1 then some (⟨g, 0, none⟩ : Addr) else some ⟨g, k + 1, none⟩) = sv
                      have P4 := Lib.hid (P3.out.drew.push1 haccw4 (pushed_self hgw4))
                      have hb4 := (pushed_self hgw4).cell (w := w3.drew) hb3 (fun y hy => by injection hy with hy; subst hy; exact hoff3)
                      obtain ⟨hcell3, hfr3⟩ := haccw4.cellAt HZ3.out
                      have P5 := Lib.hid (P4.out.push1 (haccw4.set k x.p) (pushed_set haccw4 _))
                      clear hb3 hgw4 haccw4 q3 q7 q11
                      go_wp2_with (at_builtin; refine appI_b rfl (.tmp 82) (.tmp 83) rfl rfl (P5.out.two.alloc _) rfl (reads_newAt _ _ _ 1 [0] _ (by simp) rfl rfl) (by omega) ?_; intro A6 c6 w6 hacc6 hp6)
                      have P6 := Lib.hid ((P5.out.alloc _).push2 hacc6 hp6)
                      obtain ⟨g6, cp6, hv, hg1, hg2⟩ := hacc6.own.form (by omega)
                      obtain rfl : A6 = some ⟨g6, 0, none⟩ := by injection hv
                      have hcap := hacc6.cap
                      unfold maxLen at hcap
                      obtain ⟨cd1, cd2⟩ := hcap
                      clear hacc6 hp6 hv hg1 hg2 hb4 hcell3 hfr3
                      have q3 : ((m + 1 : Nat) : Int) ≤ c6 := by omega
                      have q7 : ¬ c6 = k := by omega
                      have q11 : (m : Int) + 1 ≤ c6 := by omega
                      go_still_tail 7, (by kernel_rfl)
                      refine acc_copy (size := 1) rfl (.tmp 88) (.tmp 91) rfl Try.underlying47 (by kernel_rfl) P6.out.two.drew _ _ _ _ _ _ (k + 1) k (m - k) rfl rfl (by show min _ _ = _; omega) (fun hp => ⟨if_neg (by omega), by first | rfl | exact if_neg (by omega)⟩) (by omega) (by omega) ?_
                      intro w7 haccw7 hgw7
                      rw [Nat.mul_one] at haccw7
                      generalize (if c6 = k + 1 then some (⟨g6, 0, none⟩ : Addr) else some ⟨g6, k + 1, none⟩) = sv6
                      have P7 := Lib.hid (P6.out.drew.push2 haccw7 (pushed_self hgw7))
                      obtain ⟨hcell6, hfr6⟩ := haccw7.cellAt HZ6.out
                      have P8 := Lib.hid (P7.out.push2 (haccw7.set k fp) (pushed_set haccw7 _))
                      clear hgw7 haccw7
                      go_wp2
                      go_roundw
                      case rel =>
                        have h8 := P8.out
                        rw [HO3.out, HO6.out] at h8
                        refine ⟨j + 1, _, _, _, _, _, by go_num, by omega, rfl, rfl, ?_⟩
                        rw [HN.out, HI.out, debt_map, HF.out]
                        exact h8
                      case measure => simp [intOf]; omega
              · have HST := Lib.hid (debt_out (f := balF price xs) (out := D) (p := x.p) (.inl (HF.out ▸ hneg)))
                have hd : decide (0 ≤ fp) = true := by simp; omega
                have hnn : 0 ≤ fp := by omega
                go_wp2
                go_roundw
                case rel => exact ⟨j + 1, _, _, _, _, _, by go_num, by omega, rfl, rfl, by rw [HN.out, HST.out]; exact HAP.out⟩
                case measure => simp [intOf]; omega
        · have hj' : j = n := by omega
          have e : xs.take j = xs := List.take_of_length_le (by have := HL.out; omega)
          rw [e] at HA
          clear e
          go_wp2
          go_ret2
          exact ⟨_, _, _, rfl, HA.out.one⟩
end Go.Proofs.Ytbjmpllnkkfgfaa
