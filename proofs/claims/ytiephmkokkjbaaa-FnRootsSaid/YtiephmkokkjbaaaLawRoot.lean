/- FnRoots: as many odd numbers can be taken as the whole root tells, and its digits are those of the steps. No condition. -/
import Derived.Test.YtiephmkokkjbaaaDraw12
import Derived.Test.YtiephmkokkjbaaaVs
import Derived.Test.YtiephmkokkjbaaaRoot2
namespace Go.Proofs.Ytiephmkokkjbaaa
open Go.RowKit

theorem rootAt_pre (ps : List Int) {k : Nat} : ∀ {m : Nat}, k ≤ m → ∀ {i : Nat}, i < k * 3 → (rootAt ps m).1[i]? = (rootAt ps k).1[i]?
  | 0, h, i, hi => by omega
  | m + 1, h, i, hi => by
    by_cases hk : k = m + 1
    · rw [hk]
    · have ih := rootAt_pre ps (k := k) (m := m) (by omega) hi
      rw [← ih]
      show ((rootAt ps m).1 ++ _)[i]? = _
      rw [List.getElem?_append_left (by rw [rootAt_len]; omega)]
theorem steps_get {n k : Nat} (hk : k < (digs 100 n).length) : ∃ d : Nat, (rsteps n)[k * 3 + 1]? = some (d : Int) ∧ (rsteps n)[k * 3 + 2]? = some ((rootAt (digs 100 n) (k + 1)).2.2 : Int) ∧ 10 * (rootAt (digs 100 n) k).2.1 + d = (rootAt (digs 100 n) (k + 1)).2.1 := by
  have hl := rootAt_len (digs 100 n) k
  unfold rsteps
  refine ⟨nextD (rootAt (digs 100 n) k).2.1 (100 * (rootAt (digs 100 n) k).2.2 + ((digs 100 n).getD k 0).toNat) 9, ?_, ?_, rfl⟩
  · rw [rootAt_pre (digs 100 n) (k := k + 1) (by omega) (by omega)]
    show ((rootAt (digs 100 n) k).1 ++ _)[k * 3 + 1]? = _
    rw [List.getElem?_append_right (by omega), hl, Nat.add_sub_cancel_left]
    rfl
  · rw [rootAt_pre (digs 100 n) (k := k + 1) (by omega) (by omega)]
    show ((rootAt (digs 100 n) k).1 ++ _)[k * 3 + 2]? = _
    rw [List.getElem?_append_right (by omega), hl, Nat.add_sub_cancel_left]
    rfl
theorem rest_at (n : Nat) : isq n * isq n + (rootAt (digs 100 n) (digs 100 n).length).2.2 = n ∧ n < (isq n + 1) * (isq n + 1) := by
  obtain ⟨h1, h2⟩ := rootAt_inv (ps := digs 100 n) (fun _ _ h => pairs_get h) _ (Nat.le_refl _)
  rw [valTo_digs (by omega)] at h1 h2
  rw [isq_at]
  exact ⟨h1, h2⟩
/-- What FnRoots asks of one root, told in letters. -/
theorem roots_letters {n : Int} (h : inB n 0 99999999 = true) : ∃ (r t q p : Int) (N : Nat), n = N ∧ (N : Int) ≤ 99999999 ∧ r * r = q ∧ (r + 1) * (r + 1) = p ∧ q + t = n ∧ n < p ∧ 0 ≤ r ∧ r ≤ 9999 ∧ 0 ≤ t ∧ 0 ≤ q ∧ p ≤ 100000000 ∧
    ((rootAt (digs 100 N) (digs 100 N).length).2.1 : Int) = r ∧ ((rootAt (digs 100 N) (digs 100 N).length).2.2 : Int) = t ∧
    wrootT n = .tuple #[.int .i64 r, .int .i64 t, .bool true] ∧ oddsT n = .tuple #[.int .i64 r, .bool true] ∧ nextT n = .tuple #[.int .i64 p, .bool true] ∧ issqT n = .tuple #[.bool (t == 0), .bool true] ∧ rstepsT n = rsteps N := by
  obtain ⟨h0, h1⟩ := inB_true h
  obtain ⟨N, rfl⟩ := Int.eq_ofNat_of_zero_le h0
  obtain ⟨e1, e2⟩ := rest_at N
  have hr : isq N ≤ 9999 := root_le (n := N) (by omega) (by omega)
  have hp : (isq N + 1) * (isq N + 1) ≤ 100000000 := Nat.le_trans (Nat.mul_le_mul (show isq N + 1 ≤ 10000 by omega) (show isq N + 1 ≤ 10000 by omega)) (by omega)
  have ha := isq_at N
  obtain ⟨T, hT⟩ : ∃ T, (rootAt (digs 100 N) (digs 100 N).length).2.2 = T := ⟨_, rfl⟩
  rw [hT] at e1
  have eN : ((N : Nat) : Int).toNat = N := rfl
  have c1 : ((isq N : Nat) : Int) * (isq N : Nat) = ((isq N * isq N : Nat) : Int) := by simp
  have c2 : (((isq N : Nat) : Int) + 1) * (((isq N : Nat) : Int) + 1) = (((isq N + 1) * (isq N + 1) : Nat) : Int) := by simp
  refine ⟨isq N, T, ((isq N * isq N : Nat) : Int), (((isq N + 1) * (isq N + 1) : Nat) : Int), N, rfl, h1, c1, c2, by omega, by omega, by omega, by omega, by omega, by omega, by omega, by rw [ha], by rw [hT], ?_, ?_, ?_, ?_, ?_⟩
  · unfold wrootT
    rw [if_pos h, eN, c1, show ((N : Nat) : Int) - ((isq N * isq N : Nat) : Int) = T by omega]
  · unfold oddsT
    rw [if_pos h, eN]
  · unfold nextT
    rw [if_pos h, eN, c2]
  · unfold issqT
    rw [if_pos h, eN, c1]
    have : (((isq N * isq N : Nat) : Int) == ((N : Nat) : Int)) = ((T : Int) == 0) := by
      rw [Bool.eq_iff_iff]
      simp only [beq_iff_eq]
      omega
    rw [this]
  · unfold rstepsT
    rw [if_pos h, eN]
theorem roots_none {n : Int} (h : inB n 0 99999999 = false) : wrootT n = .tuple #[.int .i64 0, .int .i64 0, .bool false] ∧ rstepsT n = [] := by
  unfold wrootT rstepsT
  rw [h]
  exact ⟨rfl, rfl⟩
theorem oddsT_form (n : Int) : ∃ r ok, oddsT n = .tuple #[.int .i64 r, .bool ok] := by unfold oddsT; split <;> exact ⟨_, _, rfl⟩
/-- The sum of the pairs. -/
theorem pairs_sum {n : Int} (h : inB n 0 99999999 = true) : ∃ zs : List Int, pairsT n = zs ∧ zs.length ≤ 4 ∧ (∀ (k : Nat) (z : Int), zs[k]? = some z → 0 ≤ z ∧ z ≤ 99) ∧ (valTo 100 zs zs.length : Int) = n := by
  obtain ⟨h0, h1⟩ := inB_true h
  obtain ⟨N, rfl⟩ := Int.eq_ofNat_of_zero_le h0
  refine ⟨digs 100 N, by unfold pairsT; rw [if_pos h]; rfl, digs_len (by omega) 4 N (by omega), fun k z hz => pairs_get hz, by rw [valTo_digs (by omega)]⟩
theorem pairs_none {n : Int} (h : inB n 0 99999999 = false) : pairsT n = [] := by unfold pairsT; rw [h]; rfl
theorem val_step {zs : List Int} {k : Nat} {z : Int} (hz : zs[k]? = some z) (h0 : 0 ≤ z) : ((valTo 100 zs (k + 1) : Nat) : Int) = 100 * ((valTo 100 zs k : Nat) : Int) + z := by
  have : zs.getD k 0 = z := by simp [List.getD, hz]
  rw [valTo, this]; omega
set_option maxRecDepth 100000 in
set_option maxHeartbeats 16000000 in
theorem FnRoots_any (A : Option Addr) (n c : Nat) (w : World) (hcode : CodeOk w w.heap.size A n) :
    Calls Try.prog 12 #[.slice A n c] w fun e w' => e = .returned (.bool true) ∧ Below w.heap.size w w' := by
  have HC := Lib.hid hcode
  clear hcode
  cases hbig : bigB n
  rotate_left
  · go_enter Try.func12, Try.ntmps12
    go_wp2_with fail
    refine (vBig_any A n c _).mono ?_
    rintro e w' ⟨rfl, rfl⟩
    go_wp2_with fail
    go_ret
    exact ⟨rfl, Below.refl _ _⟩
  · go_enter Try.func12, Try.ntmps12
    go_wp2_with fail
    refine (vBig_any A n c _).mono ?_
    rintro e w' ⟨rfl, rfl⟩
    go_wp2_with fail
    refine (DrawWholeRoot_any A n c w.heap.size _ HC.out (Nat.le_refl _)).mono ?_
    rintro e w1 ⟨m, rfl, h1⟩
    have hi0 := iWholeRoot_any m
    have hs0 := sWholeRoot_any m
    have hi1 := iRootSteps_any m
    have hs1 := sRootSteps_any m
    cases hv : inB m 0 99999999
    · obtain ⟨e1, e2⟩ := roots_none hv
      rw [e1] at hi0 hs0
      rw [e2, hv] at hi1 hs1
      have HI0 := Lib.hid hi0
      have HS0 := Lib.hid hs0
      have HI1 := Lib.hid hi1
      have HS1 := Lib.hid hs1
      clear hi0 hs0 hi1 hs1 e1 e2 hv hbig
      go_wp2_with fail
      refine (HI0.out _).mono ?_
      rintro e w2 ⟨rfl, h2⟩
      go_wp2_with fail
      refine (HS0.out _).mono ?_
      rintro e w3 ⟨rfl, h3⟩
      go_wp2_with fail
      refine (HI1.out _).mono ?_
      rintro e w4 ⟨A1, b1, f1, rfl, o1⟩
      go_wp2_with fail
      refine (HS1.out _).mono ?_
      rintro e w5 ⟨A2, b2, f2, rfl, o2⟩
      have l1' : b1 = 0 := by have := o1.len; simp at this; omega
      have l2' : b2 = 0 := by have := o2.len; simp at this; omega
      subst l1' l2'
      have P1 := Lib.hid (o1.reads.below o2.ext)
      have P2 := Lib.hid o2.reads
      have JA := Lib.hid (ext_trans h1 (ext_trans h2 (ext_trans h3 (ext_trans o1.ext o2.ext))))
      clear o1 o2 h1 h2 h3 HI0 HS0 HI1 HS1
      go_wp2_with fail
      refine (vTriples_same A1 A2 0 f1 f2 _ _ [] _ P1.out P2.out (by simp)).mono ?_
      rintro e w' ⟨rfl, u, rfl⟩
      have JB := Lib.hid (ext_drewN JA.out u)
      clear P1 P2 JA
      go_wp2_with fail
      refine (DrawOddsTaken_any A n c w.heap.size _ (HC.out.below JB.out) JB.out.size).mono ?_
      rintro e t1 ⟨x, rfl, j1⟩
      obtain ⟨xr, xo, hx⟩ := oddsT_form x
      have hi := iOddsTaken_any x
      have hs := sOddsTaken_any x
      rw [hx] at hi hs
      have HI2 := Lib.hid hi
      have HS2 := Lib.hid hs
      have hxx : (xo != xo) = false := by simp
      clear hi hs hx
      go_wp2_with fail
      refine (HI2.out _).mono ?_
      rintro e t2 ⟨rfl, j2⟩
      go_wp2_with fail
      refine (HS2.out _).mono ?_
      rintro e t3 ⟨rfl, j3⟩
      have JC := Lib.hid (ext_trans JB.out (ext_trans j1 (ext_trans j2 j3)))
      clear JB j1 j2 j3 HI2 HS2
      go_wp2_with fail
      refine (DrawPairsOf_any A n c w.heap.size _ (HC.out.below JC.out) JC.out.size).mono ?_
      rintro e t4 ⟨y, rfl, j4⟩
      have hi := iPairsOf_any y
      have hs := sPairsOf_any y
      cases hy : inB y 0 99999999
      · rw [hy, pairs_none hy] at hi hs
        have HI2 := Lib.hid hi
        have HS2 := Lib.hid hs
        clear hi hs hy
        go_wp2_with fail
        refine (HI2.out _).mono ?_
        rintro e t5 ⟨T1, b1, f1, rfl, o1⟩
        go_wp2_with fail
        refine (HS2.out _).mono ?_
        rintro e t6 ⟨T2, b2, f2, rfl, o2⟩
        have l1 := o1.len
        have l2 := o2.len
        have l1' : b1 = 0 := by simp at l1; omega
        have l2' : b2 = 0 := by simp at l2; omega
        subst l1' l2'
        have P1 := Lib.hid (o1.reads.below o2.ext)
        have P2 := Lib.hid o2.reads
        have JD := Lib.hid (ext_trans JC.out (ext_trans j4 (ext_trans o1.ext o2.ext)))
        have he2 : eqB [] [] = true := rfl
        clear o1 o2 j4 l1 l2 JC
        go_wp2_with fail
        refine (vInts_any T1 T2 0 0 f1 f2 _ _ [] [] _ P1.out P2.out (by simp) (by simp)).mono ?_
        rintro e w' ⟨rfl, u2, rfl⟩
        have JE := Lib.hid (ext_drewN JD.out u2)
        clear P1 P2 JD HI2 HS2
        go_wp2_with fail
        go_loopw [34] (fun i wr => i = .int .i64 0 ∧ Below w.heap.size w wr) (fun _ _ => 0)
        case atStart => exact ⟨rfl, JE.out⟩
        case round =>
          obtain ⟨rfl, hb⟩ := hrel
          go_wp2_with fail
          go_ret
          exact ⟨rfl, hb⟩
      · obtain ⟨zs, hzs, hzl, hzb, hzv⟩ := pairs_sum hy
        rw [hy, hzs] at hi hs
        have HI2 := Lib.hid hi
        have HS2 := Lib.hid hs
        have HZB := Lib.hid hzb
        have HZV := Lib.hid hzv
        clear hi hs hy hzs hzb hzv
        go_wp2_with fail
        refine (HI2.out _).mono ?_
        rintro e t5 ⟨T1, b1, f1, rfl, o1⟩
        go_wp2_with fail
        refine (HS2.out _).mono ?_
        rintro e t6 ⟨T2, b2, f2, rfl, o2⟩
        have l1 := o1.len
        have l2 := o2.len
        have l1' : b1 ≤ 4 := by omega
        have l2' : b2 ≤ 4 := by omega
        have hbl : zs.length = b1 := by omega
        have HBL := Lib.hid hbl
        have P1 := Lib.hid (o1.reads.below o2.ext)
        have P2 := Lib.hid o2.reads
        have JD := Lib.hid (ext_trans JC.out (ext_trans j4 (ext_trans o1.ext o2.ext)))
        have he2 := eqB_self zs
        clear o1 o2 j4 l1 l2 JC hzl hbl
        go_wp2_with fail
        refine (vInts_any T1 T2 b1 b2 f1 f2 _ _ zs zs _ P1.out P2.out (by unfold maxLen; omega) (by unfold maxLen; omega)).mono ?_
        rintro e w' ⟨rfl, u2, rfl⟩
        have JE := Lib.hid (ext_drewN JD.out u2)
        have P3 := Lib.hid (P1.out.drewN u2)
        clear P1 P2 JD HI2 HS2
        generalize t6.drewN u2 = t7 at *
        go_wp2_with fail
        go_loopw [33, 34] (fun s i wr => ∃ k : Nat, i = .int .i64 k ∧ k ≤ b1 ∧ s = .int .i64 ((valTo 100 zs k : Nat) : Int) ∧ wr = t7) (fun _ i _ => b1 - (intOf i).toNat)
        case atStart => exact ⟨0, rfl, by omega, rfl, by first | rfl | trivial⟩
        case round =>
          obtain ⟨k, rfl, hk, rfl, rfl⟩ := hrel
          have hv := valTo_lt HZB.out k (by have := HBL.out; omega)
          have hv4 : (100 : Nat) ^ k ≤ 100 ^ 4 := Nat.pow_le_pow_right (by omega) (by omega)
          have e4 : (100 : Nat) ^ 4 = 100000000 := by decide
          have k0 : (0 : Int) ≤ k := by omega
          have v0 : (0 : Int) ≤ ((valTo 100 zs k : Nat) : Int) := by omega
          have v1 : ((valTo 100 zs k : Nat) : Int) ≤ 100000000 := by omega
          clear hv hv4 e4
          by_cases hlt : k < b1
          · obtain ⟨g, o, z, rfl, hz, hcell⟩ := P3.out.int hlt
            obtain ⟨z0, z1⟩ := HZB.out k z hz
            have HN := Lib.hid (val_step hz z0)
            have k1 : (k : Int) < b1 := by omega
            clear hz
            generalize ((valTo 100 zs k : Nat) : Int) = v at *
            go_wp2_with fail
            go_roundw
            case rel => exact ⟨k + 1, by go_num, by omega, by rw [HN.out], by first | rfl | trivial⟩
            case measure => simp [intOf]; omega
          · have hkb : k = zs.length := by have := HBL.out; omega
            have hval : ((valTo 100 zs k : Nat) : Int) = y := by rw [hkb]; exact HZV.out
            rw [hval]
            clear hval hkb v0 v1
            go_wp2_with fail
            go_ret
            exact ⟨rfl, JE.out⟩
    · obtain ⟨r, t, q, p, N, hN, hN9, hrr, hpp, hqt, hnp, r0, r1, t0, q0, p1, hroot, hrest, e1, e2, e3, e4, e5⟩ := roots_letters hv
      have hi2 := iOddsTaken_any m
      have hi3 := iNextSquare_any m
      have hi4 := iIsSquare_any m
      rw [e1] at hi0 hs0
      rw [e5, hv] at hi1 hs1
      rw [e2] at hi2
      rw [e3] at hi3
      rw [e4] at hi4
      have HI0 := Lib.hid hi0
      have HS0 := Lib.hid hs0
      have HI1 := Lib.hid hi1
      have HS1 := Lib.hid hs1
      have HI2' := Lib.hid hi2
      have HI3 := Lib.hid hi3
      have HI4 := Lib.hid hi4
      have HR := Lib.hid hroot
      have HT := Lib.hid hrest
      have HLn := Lib.hid (rsteps_len N)
      have HG := Lib.hid (fun k hk => steps_get (n := N) (k := k) hk)
      have hl4 : (digs 100 N).length ≤ 4 := digs_len (by omega) 4 N (by omega)
      have HSm := Lib.hid (fun k hk => rootAt_small (ps := digs 100 N) (fun _ _ h => pairs_get h) (by omega) (k := k) hk)
      have H00 := Lib.hid (show (rootAt (digs 100 N) 0).2.1 = 0 ∧ (rootAt (digs 100 N) 0).2.2 = 0 from ⟨rfl, rfl⟩)
      have HRR := Lib.hid hrr
      have HPP := Lib.hid hpp
      have HQT := Lib.hid hqt
      have HNP := Lib.hid hnp
      have hm9 : m ≤ 99999999 := by omega
      have hm0 : 0 ≤ m := by omega
      generalize (digs 100 N).length = L at *
      generalize rootAt (digs 100 N) = S at *
      generalize rsteps N = zs at *
      clear hi0 hs0 hi1 hs1 hi2 hi3 hi4 hroot hrest e1 e2 e3 e4 e5 hv hbig hrr hpp hqt hnp hN hN9
      go_wp2_with fail
      refine (HI0.out _).mono ?_
      rintro e w2 ⟨rfl, h2⟩
      go_wp2_with fail
      refine (HS0.out _).mono ?_
      rintro e w3 ⟨rfl, h3⟩
      go_wp2_with fail
      refine (HI1.out _).mono ?_
      rintro e w4 ⟨A1, b1, f1, rfl, o1⟩
      go_wp2_with fail
      refine (HS1.out _).mono ?_
      rintro e w5 ⟨A2, b2, f2, rfl, o2⟩
      have l1' : b1 = L := by have := o1.len; have := HLn.out; omega
      have l2' : b2 = L := by have := o2.len; have := HLn.out; omega
      subst l1' l2'
      have P1 := Lib.hid (o1.reads.below o2.ext)
      have P2 := Lib.hid o2.reads
      have JA := Lib.hid (ext_trans h1 (ext_trans h2 (ext_trans h3 (ext_trans o1.ext o2.ext))))
      clear o1 o2 h1 h2 h3 HI0 HS0 HI1 HS1
      go_wp2_with fail
      refine (vTriples_same A1 A2 b2 f1 f2 _ _ zs _ P1.out P2.out (by unfold maxLen; omega)).mono ?_
      rintro e w' ⟨rfl, u, rfl⟩
      have JB := Lib.hid (ext_drewN JA.out u)
      have P3 := Lib.hid (P1.out.drewN u)
      clear P1 P2 JA
      generalize w5.drewN u = w6 at *
      go_wp2_with fail
      go_loopw [14, 15, 16] (fun x y i wr => ∃ k : Nat, i = .int .i64 k ∧ k ≤ b2 ∧ x = .int .i64 (((S k).2.1 : Nat) : Int) ∧ y = .int .i64 (((S k).2.2 : Nat) : Int) ∧ wr = w6) (fun _ _ i _ => b2 - (intOf i).toNat)
      case atStart => exact ⟨0, rfl, by omega, by rw [H00.out.1]; rfl, by rw [H00.out.2]; rfl, by first | rfl | trivial⟩
      case round =>
        obtain ⟨k, rfl, hk, rfl, rfl, rfl⟩ := hrel
        have k0 : (0 : Int) ≤ k := by omega
        by_cases hlt : k < b2
        · obtain ⟨d, g1, g2, g3⟩ := HG.out k hlt
          obtain ⟨b, o, rfl, hrow⟩ := P3.out.row hlt (by omega)
          obtain ⟨z1, hz1, hc1⟩ := hrow 1 (by omega)
          obtain ⟨z2, hz2, hc2⟩ := hrow 2 (by omega)
          rw [hz1] at g1
          rw [hz2] at g2
          injection g1 with g1
          injection g2 with g2
          subst g1 g2
          obtain ⟨s1, _⟩ := HSm.out (k + 1) (by omega)
          have k1 : (k : Int) < b2 := by omega
          simp only [← Nat.add_assoc] at hc1 hc2
          have HN := Lib.hid (show (((S (k + 1)).2.1 : Nat) : Int) = 10 * (((S k).2.1 : Nat) : Int) + (d : Int) by omega)
          have x0 : (0 : Int) ≤ (((S k).2.1 : Nat) : Int) := by omega
          have x1 : (((S k).2.1 : Nat) : Int) ≤ 99999999 := by omega
          have y0 : (0 : Int) ≤ (d : Int) := by omega
          have y1 : (d : Int) ≤ 99999999 := by omega
          clear hrow hz1 hz2 s1 g3
          generalize (((S k).2.1 : Nat) : Int) = sk at *
          generalize (d : Int) = dk at *
          go_wp2_with fail
          go_roundw
          case rel => exact ⟨k + 1, by go_num, by omega, by rw [HN.out], rfl, by first | rfl | trivial⟩
          case measure => simp [intOf]; omega
        · obtain rfl : k = b2 := by omega
          rw [HR.out, HT.out]
          have hnlt : ¬ (k : Int) < k := by omega
          clear hlt hk
          go_wp2_with fail
          refine (HI2'.out _).mono ?_
          rintro e v1 ⟨rfl, j1⟩
          go_wp2_with fail
          refine (HI3.out _).mono ?_
          rintro e v2 ⟨rfl, j2⟩
          go_wp2_with fail
          refine (HI4.out _).mono ?_
          rintro e v3 ⟨rfl, j3⟩
          have JB := Lib.hid (ext_trans JB.out (ext_trans j1 (ext_trans j2 j3)))
          have hrr := HRR.out
          have hpp := HPP.out
          have hqt := HQT.out
          have hnp := HNP.out
          have hnp2 : ¬ p ≤ m := by omega
          have hsq : ((t == 0) != (t == 0)) = false := by simp
          clear j1 j2 j3 HI2' HI3 HI4
          go_wp2_with fail
          refine (DrawOddsTaken_any A n c w.heap.size _ (HC.out.below JB.out) JB.out.size).mono ?_
          rintro e t1 ⟨x, rfl, j1⟩
          obtain ⟨xr, xo, hx⟩ := oddsT_form x
          have hi := iOddsTaken_any x
          have hs := sOddsTaken_any x
          rw [hx] at hi hs
          have HI2 := Lib.hid hi
          have HS2 := Lib.hid hs
          have hxx : (xo != xo) = false := by simp
          clear hi hs hx
          go_wp2_with fail
          refine (HI2.out _).mono ?_
          rintro e t2 ⟨rfl, j2⟩
          go_wp2_with fail
          refine (HS2.out _).mono ?_
          rintro e t3 ⟨rfl, j3⟩
          have JC := Lib.hid (ext_trans JB.out (ext_trans j1 (ext_trans j2 j3)))
          clear JB j1 j2 j3 HI2 HS2
          go_wp2_with fail
          refine (DrawPairsOf_any A n c w.heap.size _ (HC.out.below JC.out) JC.out.size).mono ?_
          rintro e t4 ⟨y, rfl, j4⟩
          have hi := iPairsOf_any y
          have hs := sPairsOf_any y
          cases hy : inB y 0 99999999
          · rw [hy, pairs_none hy] at hi hs
            have HI2 := Lib.hid hi
            have HS2 := Lib.hid hs
            clear hi hs hy
            go_wp2_with fail
            refine (HI2.out _).mono ?_
            rintro e t5 ⟨T1, b1, f1, rfl, o1⟩
            go_wp2_with fail
            refine (HS2.out _).mono ?_
            rintro e t6 ⟨T2, b2, f2, rfl, o2⟩
            have l1 := o1.len
            have l2 := o2.len
            have l1' : b1 = 0 := by simp at l1; omega
            have l2' : b2 = 0 := by simp at l2; omega
            subst l1' l2'
            have P1 := Lib.hid (o1.reads.below o2.ext)
            have P2 := Lib.hid o2.reads
            have JD := Lib.hid (ext_trans JC.out (ext_trans j4 (ext_trans o1.ext o2.ext)))
            have he2 : eqB [] [] = true := rfl
            clear o1 o2 j4 l1 l2 JC
            go_wp2_with fail
            refine (vInts_any T1 T2 0 0 f1 f2 _ _ [] [] _ P1.out P2.out (by simp) (by simp)).mono ?_
            rintro e w' ⟨rfl, u2, rfl⟩
            have JE := Lib.hid (ext_drewN JD.out u2)
            clear P1 P2 JD HI2 HS2
            go_wp2_with fail
            go_loopw [34] (fun i wr => i = .int .i64 0 ∧ Below w.heap.size w wr) (fun _ _ => 0)
            case atStart => exact ⟨rfl, JE.out⟩
            case round =>
              obtain ⟨rfl, hb⟩ := hrel
              go_wp2_with fail
              go_ret
              exact ⟨rfl, hb⟩
          · obtain ⟨zs, hzs, hzl, hzb, hzv⟩ := pairs_sum hy
            rw [hy, hzs] at hi hs
            have HI2 := Lib.hid hi
            have HS2 := Lib.hid hs
            have HZB := Lib.hid hzb
            have HZV := Lib.hid hzv
            clear hi hs hy hzs hzb hzv
            go_wp2_with fail
            refine (HI2.out _).mono ?_
            rintro e t5 ⟨T1, b1, f1, rfl, o1⟩
            go_wp2_with fail
            refine (HS2.out _).mono ?_
            rintro e t6 ⟨T2, b2, f2, rfl, o2⟩
            have l1 := o1.len
            have l2 := o2.len
            have l1' : b1 ≤ 4 := by omega
            have l2' : b2 ≤ 4 := by omega
            have hbl : zs.length = b1 := by omega
            have HBL := Lib.hid hbl
            have P1 := Lib.hid (o1.reads.below o2.ext)
            have P2 := Lib.hid o2.reads
            have JD := Lib.hid (ext_trans JC.out (ext_trans j4 (ext_trans o1.ext o2.ext)))
            have he2 := eqB_self zs
            clear o1 o2 j4 l1 l2 JC hzl hbl
            go_wp2_with fail
            refine (vInts_any T1 T2 b1 b2 f1 f2 _ _ zs zs _ P1.out P2.out (by unfold maxLen; omega) (by unfold maxLen; omega)).mono ?_
            rintro e w' ⟨rfl, u2, rfl⟩
            have JE := Lib.hid (ext_drewN JD.out u2)
            have P3 := Lib.hid (P1.out.drewN u2)
            clear P1 P2 JD HI2 HS2
            generalize t6.drewN u2 = t7 at *
            go_wp2_with fail
            go_loopw [33, 34] (fun s i wr => ∃ k : Nat, i = .int .i64 k ∧ k ≤ b1 ∧ s = .int .i64 ((valTo 100 zs k : Nat) : Int) ∧ wr = t7) (fun _ i _ => b1 - (intOf i).toNat)
            case atStart => exact ⟨0, rfl, by omega, rfl, by first | rfl | trivial⟩
            case round =>
              obtain ⟨k, rfl, hk, rfl, rfl⟩ := hrel
              have hv := valTo_lt HZB.out k (by have := HBL.out; omega)
              have hv4 : (100 : Nat) ^ k ≤ 100 ^ 4 := Nat.pow_le_pow_right (by omega) (by omega)
              have e4 : (100 : Nat) ^ 4 = 100000000 := by decide
              have k0 : (0 : Int) ≤ k := by omega
              have v0 : (0 : Int) ≤ ((valTo 100 zs k : Nat) : Int) := by omega
              have v1 : ((valTo 100 zs k : Nat) : Int) ≤ 100000000 := by omega
              clear hv hv4 e4
              by_cases hlt : k < b1
              · obtain ⟨g, o, z, rfl, hz, hcell⟩ := P3.out.int hlt
                obtain ⟨z0, z1⟩ := HZB.out k z hz
                have HN := Lib.hid (val_step hz z0)
                have k1 : (k : Int) < b1 := by omega
                clear hz
                generalize ((valTo 100 zs k : Nat) : Int) = v at *
                go_wp2_with fail
                go_roundw
                case rel => exact ⟨k + 1, by go_num, by omega, by rw [HN.out], by first | rfl | trivial⟩
                case measure => simp [intOf]; omega
              · have hkb : k = zs.length := by have := HBL.out; omega
                have hval : ((valTo 100 zs k : Nat) : Int) = y := by rw [hkb]; exact HZV.out
                rw [hval]
                clear hval hkb v0 v1
                go_wp2_with fail
                go_ret
                exact ⟨rfl, JE.out⟩
end Go.Proofs.Ytiephmkokkjbaaa
