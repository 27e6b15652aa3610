/- FnMoreRoots: the decimals of a root begin with the whole one, and squares of pairs have the told sum. No condition. -/
import Derived.Test.YtiephmkokkjbaaaDraw12
import Derived.Test.YtiephmkokkjbaaaVs
import Derived.Test.YtiephmkokkjbaaaRoot2
import Derived.Test.YtiephmkokkjbaaaSum2
import Derived.Test.YtiephmkokkjbaaaCube
namespace Go.Proofs.Ytiephmkokkjbaaa
open Go.RowKit

theorem dec_whole (N P : Nat) : isq (N * 10 ^ (2 * P)) / 10 ^ P = isq N := by
  have hD : 0 < 10 ^ P := Nat.pow_pos (by omega)
  have e : 10 ^ (2 * P) = 10 ^ P * 10 ^ P := by rw [← Nat.pow_add]; congr 1; omega
  rw [e]
  generalize 10 ^ P = D at *
  obtain ⟨h1, h2⟩ := isq_root (N * (D * D))
  generalize isq (N * (D * D)) = R at *
  have q1 : R / D * D ≤ R := Nat.div_mul_le_self R D
  have q2 : R + 1 ≤ (R / D + 1) * D := by
    have := Nat.div_add_mod R D
    have := Nat.mod_lt R hD
    rw [Nat.add_mul, Nat.one_mul, Nat.mul_comm (R / D) D]; omega
  refine (isq_is ⟨?_, ?_⟩).symm
  · rcases Nat.lt_or_ge N (R / D * (R / D)) with h | h
    · exfalso
      have a1 := Nat.mul_le_mul q1 q1
      rw [Nat.mul_mul_mul_comm] at a1
      have a2 := Nat.mul_le_mul_right (D * D) (show N + 1 ≤ R / D * (R / D) from h)
      rw [Nat.add_mul, Nat.one_mul] at a2
      have a3 : 0 < D * D := Nat.mul_pos hD hD
      omega
    · exact h
  · rcases Nat.lt_or_ge N ((R / D + 1) * (R / D + 1)) with h | h
    · exact h
    · exfalso
      have a1 := Nat.mul_le_mul q2 q2
      rw [Nat.mul_mul_mul_comm] at a1
      have a2 := Nat.mul_le_mul_right (D * D) h
      omega
theorem dec_letters {n p : Int} (h : rdecV n p = true) : ∃ (R v r0 : Int) (P : Nat), p = P ∧ P ≤ 4 ∧ rdecT n p = .tuple #[.int .i64 R, .bool true] ∧ 0 ≤ R ∧ R ≤ 99999999 ∧ R / ((10 ^ P : Nat) : Int) = v ∧ wrootT n = .tuple #[.int .i64 v, .int .i64 r0, .bool true] := by
  have h' := h
  unfold rdecV at h'
  simp only [Bool.and_eq_true] at h'
  obtain ⟨h0, h1⟩ := inB_true h'.1
  obtain ⟨p0, p1⟩ := inB_true h'.2
  obtain ⟨N, rfl⟩ := Int.eq_ofNat_of_zero_le h0
  obtain ⟨P, rfl⟩ := Int.eq_ofNat_of_zero_le p0
  have hb := rdec_bd (m := N) (q := P) (by omega) (by omega)
  have hr := root_le (n := N * 10 ^ (2 * P)) (b := 99999999) (isq_root _).1 (by omega)
  refine ⟨(isq (N * 10 ^ (2 * P)) : Nat), (isq N : Nat), ((N : Nat) : Int) - (isq N : Nat) * (isq N : Nat), P, rfl, by omega, ?_, by omega, by omega, ?_, ?_⟩
  · unfold rdecT
    rw [if_pos h]; rfl
  · rw [← Int.natCast_ediv, dec_whole]
  · unfold wrootT
    rw [if_pos h'.1]; rfl
theorem dec_none {n p : Int} (h : rdecV n p = false) : rdecT n p = .tuple #[.int .i64 0, .bool false] := by
  unfold rdecT; rw [h]; rfl
theorem sq2_even (n : Nat) : ∀ k, (sq2 n k).length % 2 = 0
  | 0 => rfl
  | k + 1 => by
    have := sq2_even n k
    rw [sq2]; split
    · simp; omega
    · exact this
theorem sq2_get (n : Nat) : ∀ (k j : Nat), j * 2 < (sq2 n k).length → ∃ a b : Nat, (sq2 n k)[j * 2]? = some (a : Int) ∧ (sq2 n k)[j * 2 + 1]? = some (b : Int) ∧ a * a + b * b = n ∧ a ≤ b
  | 0, j, h => by simp [sq2] at h
  | k + 1, j, h => by
    have he := sq2_even n k
    rw [sq2] at h ⊢
    split at h
    · rename_i hc
      rw [if_pos hc]
      by_cases hj : j * 2 < (sq2 n k).length
      · obtain ⟨a, b, h1, h2, h3, h4⟩ := sq2_get n k j hj
        exact ⟨a, b, by rw [List.getElem?_append_left hj]; exact h1, by rw [List.getElem?_append_left (by omega)]; exact h2, h3, h4⟩
      · have hl : j * 2 = (sq2 n k).length := by simp at h; omega
        refine ⟨k, isq (n - k * k), ?_, ?_, ?_, ?_⟩
        · rw [List.getElem?_append_right (by omega), hl, Nat.sub_self]; rfl
        · rw [List.getElem?_append_right (by omega), hl, Nat.add_sub_cancel_left]; rfl
        · rw [hc.2]; have := two_ge hc.1; omega
        · rcases Nat.lt_or_ge (isq (n - k * k)) k with hlt | hge
          · have a1 := Nat.mul_le_mul (Nat.le_of_lt hlt) (Nat.le_of_lt hlt)
            have a2 := Nat.mul_lt_mul_of_lt_of_le hlt (Nat.le_of_lt hlt) (by omega)
            have a3 := hc.1
            rw [Nat.mul_assoc] at a3
            have a4 := hc.2
            omega
          · exact hge
    · rename_i hc
      rw [if_neg hc]
      exact sq2_get n k j h
/-- A pair of the list, in letters. -/
theorem sum2_get {n : Int} {j : Nat} (h : j * 2 < (sum2 n).length) : ∃ a b a2 b2 : Int, (sum2 n)[j * 2]? = some a ∧ (sum2 n)[j * 2 + 1]? = some b ∧ a * a = a2 ∧ b * b = b2 ∧ a2 + b2 = n ∧ a ≤ b ∧ 0 ≤ a2 ∧ 0 ≤ b2 ∧ n ≤ 10000 := by
  unfold sum2 at h ⊢
  split at h
  · rename_i hi
    obtain ⟨h0, h1⟩ := inB_true hi
    obtain ⟨N, rfl⟩ := Int.eq_ofNat_of_zero_le h0
    obtain ⟨a, b, g1, g2, g3, g4⟩ := sq2_get _ _ _ h
    rw [if_pos hi]
    have e1 : (a : Int) * a = ((a * a : Nat) : Int) := by simp
    have e2 : (b : Int) * b = ((b * b : Nat) : Int) := by simp
    have g3' : a * a + b * b = N := g3
    exact ⟨a, b, _, _, g1, g2, e1, e2, by omega, by omega, by omega, by omega, h1⟩
  · simp at h
theorem sum2_even (n : Int) : (sum2 n).length % 2 = 0 := by
  unfold sum2; split
  · exact sq2_even _ _
  · rfl
theorem cubeUp_inv (n : Nat) : ∀ f k, k * k * k ≤ n → cubeUp n f k * cubeUp n f k * cubeUp n f k ≤ n ∧ (cubeUp n f k < k + f → n < (cubeUp n f k + 1) * (cubeUp n f k + 1) * (cubeUp n f k + 1))
  | 0, k, h => ⟨h, fun hh => by rw [cubeUp] at hh; omega⟩
  | f + 1, k, h => by
    rw [cubeUp]
    split
    · rename_i hc
      obtain ⟨h1, h2⟩ := cubeUp_inv n f (k + 1) hc
      exact ⟨h1, fun hh => h2 (by omega)⟩
    · rename_i hc
      exact ⟨h, fun _ => by omega⟩
theorem cube_letters {y : Int} (h : inB y 0 99999999 = true) : ∃ c c2 c3 d2 d3 : Int, cubeT y = .tuple #[.int .i64 c, .bool true] ∧ c * c = c2 ∧ c2 * c = c3 ∧ (c + 1) * (c + 1) = d2 ∧ d2 * (c + 1) = d3 ∧ c3 ≤ y ∧ y < d3 ∧ 0 ≤ c ∧ c ≤ 464 ∧ 0 ≤ c2 ∧ c2 ≤ 216225 ∧ 0 ≤ c3 ∧ 0 ≤ d2 ∧ d2 ≤ 216225 ∧ d3 ≤ 100544625 := by
  obtain ⟨h0, h1⟩ := inB_true h
  obtain ⟨N, rfl⟩ := Int.eq_ofNat_of_zero_le h0
  obtain ⟨g1, g2⟩ := cubeUp_inv N 1000 0 (by omega)
  have hN : N ≤ 99999999 := by omega
  have hs := cube_small g1 hN
  have g3 := g2 (by omega)
  have u1 := sq_up hs
  have u2 := cube_up hs
  have e : cubeT (Int.ofNat N) = .tuple #[.int .i64 ((cubeUp N 1000 0 : Nat) : Int), .bool true] := by unfold cubeT cube; exact if_pos h
  generalize cubeUp N 1000 0 = c at *
  have u3 := Nat.mul_le_mul hs hs
  have e1 : (c : Int) * c = ((c * c : Nat) : Int) := by simp
  have e2 : ((c * c : Nat) : Int) * c = ((c * c * c : Nat) : Int) := by simp
  have e3 : ((c : Int) + 1) * ((c : Int) + 1) = (((c + 1) * (c + 1) : Nat) : Int) := by simp
  have e4 : (((c + 1) * (c + 1) : Nat) : Int) * ((c : Int) + 1) = (((c + 1) * (c + 1) * (c + 1) : Nat) : Int) := by simp
  have g1' : ((c * c * c : Nat) : Int) ≤ Int.ofNat N := Int.ofNat_le.2 g1
  have g3' : Int.ofNat N < (((c + 1) * (c + 1) * (c + 1) : Nat) : Int) := Int.ofNat_lt.2 g3
  exact ⟨c, _, _, _, _, e, e1, e2, e3, e4, g1', g3', by omega, by omega, by omega, by omega, by omega, by omega, by omega, by omega⟩
theorem cube_none {y : Int} (h : inB y 0 99999999 = false) : cubeT y = .tuple #[.int .i64 0, .bool false] := by unfold cubeT; rw [h]; rfl
theorem issqT_form (n : Int) : ∃ v ok, issqT n = .tuple #[.bool v, .bool ok] := by unfold issqT; split <;> exact ⟨_, _, rfl⟩
theorem nextT_form (n : Int) : ∃ v ok, nextT n = .tuple #[.int .i64 v, .bool ok] := by unfold nextT; split <;> exact ⟨_, _, rfl⟩
theorem pow_letters : ∃ F : Nat → Int, F 0 = 1 ∧ (∀ k, F (k + 1) = 10 * F k) ∧ (∀ k, k ≤ 4 → 1 ≤ F k ∧ F k ≤ 10000) ∧ ∀ k, F k = ((10 ^ k : Nat) : Int) := by
  refine ⟨fun k => ((10 ^ k : Nat) : Int), rfl, fun k => ?_, fun k hk => ?_, fun k => rfl⟩
  · show ((10 ^ (k + 1) : Nat) : Int) = 10 * ((10 ^ k : Nat) : Int)
    rw [Nat.pow_succ]; omega
  · show 1 ≤ ((10 ^ k : Nat) : Int) ∧ ((10 ^ k : Nat) : Int) ≤ 10000
    have h1 : 10 ^ k ≤ 10 ^ 4 := Nat.pow_le_pow_right (by omega) hk
    have h2 : 0 < 10 ^ k := Nat.pow_pos (by omega)
    have e4 : (10 : Nat) ^ 4 = 10000 := by decide
    omega
set_option maxRecDepth 100000 in
set_option maxHeartbeats 16000000 in
theorem FnMoreRoots_any (A : Option Addr) (n c : Nat) (w : World) (hcode : CodeOk w w.heap.size A n) :
    Calls Try.prog 13 #[.slice A n c] w fun e w' => e = .returned (.bool true) ∧ Below w.heap.size w w' := by
  have HC := Lib.hid hcode
  clear hcode
  cases hbig : bigB n
  rotate_left
  · go_enter Try.func13, Try.ntmps13
    go_wp2_with fail
    refine (vBig_any A n c _).mono ?_
    rintro e w' ⟨rfl, rfl⟩
    go_wp2_with fail
    go_ret
    exact ⟨rfl, Below.refl _ _⟩
  · go_enter Try.func13, Try.ntmps13
    go_wp2_with fail
    refine (vBig_any A n c _).mono ?_
    rintro e w' ⟨rfl, rfl⟩
    go_wp2_with fail
    refine (DrawRootDecimals_any A n c w.heap.size _ HC.out (Nat.le_refl _)).mono ?_
    rintro e w1 ⟨m, p, rfl, h1⟩
    have hi0 := iRootDecimals_any m p
    have hs0 := sRootDecimals_any m p
    cases hv : rdecV m p
    · rw [dec_none hv] at hi0 hs0
      have HI0 := Lib.hid hi0
      have HS0 := Lib.hid hs0
      clear hi0 hs0 hv hbig
      go_wp2_with fail
      refine (HI0.out _).mono ?_
      rintro e w2 ⟨rfl, h2⟩
      go_wp2_with fail
      refine (HS0.out _).mono ?_
      rintro e w3 ⟨rfl, h3⟩
      have JB := Lib.hid (ext_trans h1 (ext_trans h2 h3))
      clear h1 h2 h3 HI0 HS0
      go_wp2_with fail
      refine (DrawSumOfTwo_any A n c w.heap.size _ (HC.out.below JB.out) JB.out.size).mono ?_
      rintro e t1 ⟨x, rfl, j1⟩
      have hi := iSumOfTwo_any x
      have hs := sSumOfTwo_any x
      have HG := Lib.hid (fun j (h : j * 2 < (sum2 x).length) => sum2_get (n := x) (j := j) h)
      have hbd := sum2_len x
      generalize sum2 x = zs at *
      generalize inB x 0 10000 = told at hi hs
      have HI2 := Lib.hid hi
      have HS2 := Lib.hid hs
      clear hi hs
      go_wp2_with fail
      refine (HI2.out _).mono ?_
      rintro e t2 ⟨T1, b1, f1, rfl, o1⟩
      go_wp2_with fail
      refine (HS2.out _).mono ?_
      rintro e t3 ⟨T2, b2, f2, rfl, o2⟩
      have l1 := o1.len
      have l2 := o2.len
      obtain rfl : b2 = b1 := by omega
      have l1' : b2 ≤ 200 := by omega
      have HLn := Lib.hid l1
      have P1 := Lib.hid (o1.reads.below o2.ext)
      have P2 := Lib.hid o2.reads
      have JC0 := Lib.hid (ext_trans JB.out (ext_trans j1 (ext_trans o1.ext o2.ext)))
      clear o1 o2 j1 JB HI2 HS2 l1 l2 hbd
      go_wp2_with fail
      refine (vPairs_same T1 T2 b2 f1 f2 _ _ zs _ P1.out P2.out (by unfold maxLen; omega)).mono ?_
      rintro e w' ⟨rfl, u2, rfl⟩
      have JC := Lib.hid (ext_drewN JC0.out u2)
      have P3 := Lib.hid (P1.out.drewN u2)
      clear P1 P2 JC0
      generalize t3.drewN u2 = t4 at *
      go_wp2_with fail
      go_loopw [19] (fun i wr => ∃ k s : Nat, i = .int .i64 (k : Int) ∧ k ≤ b2 ∧ wr = t4.drewN s) (fun i _ => b2 - (intOf i).toNat)
      case atStart => exact ⟨0, 0, rfl, by omega, rfl⟩
      case round =>
        obtain ⟨k, s, rfl, hk, rfl⟩ := hrel
        have k0 : (0 : Int) ≤ k := by omega
        by_cases hlt : k < b2
        · obtain ⟨a, b, a2, b2', g1, g2, g3, g4, g5, g6, g7, g8, g9⟩ := HG.out k (by have := HLn.out; omega)
          obtain ⟨g, o, rfl, hrow⟩ := P3.out.row hlt (by omega)
          obtain ⟨z1, hz1, hc1⟩ := hrow 0 (by omega)
          obtain ⟨z2, hz2, hc2⟩ := hrow 1 (by omega)
          simp only [Nat.add_zero, ← Nat.add_assoc] at hz1 hz2 hc1 hc2
          rw [hz1] at g1
          rw [hz2] at g2
          injection g1 with g1
          injection g2 with g2
          subst g1 g2
          have k1 : (k : Int) < b2 := by omega
          have w1 : IntKind.i64.wrap a2 = a2 := IntWalk.i64_in _ ⟨by omega, by omega⟩
          have w2 : IntKind.i64.wrap b2' = b2' := IntWalk.i64_in _ ⟨by omega, by omega⟩
          have w3 : IntKind.i64.wrap x = x := IntWalk.i64_in _ ⟨by omega, by omega⟩
          have ngt : ¬ z2 < z1 := by omega
          have ngd : decide (z2 < z1) = false := by simp; omega
          have xx : (x != x) = false := by simp
          clear hrow hz1 hz2
          go_wp2_with fail
          go_quiet (fail)
          go_wp2_with fail
          go_roundw
          case rel => exact ⟨k + 1, _, by go_num, by omega, rfl⟩
          case measure => simp [intOf]; omega
        · have JC := Lib.hid (ext_drewN JC.out s)
          clear P3 HG HLn
          generalize t4.drewN s = t5 at *
          have hnlt : ¬ (k : Int) < b2 := by omega
          go_wp2_with fail
          refine (DrawCubeRoot_any A n c w.heap.size _ (HC.out.below JC.out) JC.out.size).mono ?_
          rintro e t6 ⟨y, rfl, j1⟩
          have hi := iCubeRoot_any y
          have hs := sCubeRoot_any y
          cases hy : inB y 0 99999999
          · rw [cube_none hy] at hi hs
            have HI2 := Lib.hid hi
            have HS2 := Lib.hid hs
            clear hi hs hy
            go_wp2_with fail
            refine (HI2.out _).mono ?_
            rintro e w' ⟨rfl, rfl⟩
            go_wp2_with fail
            refine (HS2.out _).mono ?_
            rintro e w' ⟨rfl, rfl⟩
            clear HI2 HS2
            have JD := Lib.hid (ext_trans JC.out j1)
            clear JC j1
            go_wp2_with fail
            refine (DrawIsSquare_any A n c w.heap.size _ (HC.out.below JD.out) JD.out.size).mono ?_
            rintro e a1 ⟨z, rfl, k1⟩
            obtain ⟨sv, so, hz⟩ := issqT_form z
            have hi := iIsSquare_any z
            have hs := sIsSquare_any z
            rw [hz] at hi hs
            have HI2 := Lib.hid hi
            have HS2 := Lib.hid hs
            have q1 : (sv != sv) = false := by simp
            have q2 : (so != so) = false := by simp
            clear hi hs hz
            go_wp2_with fail
            refine (HI2.out _).mono ?_
            rintro e a2 ⟨rfl, k2⟩
            go_wp2_with fail
            refine (HS2.out _).mono ?_
            rintro e a3 ⟨rfl, k3⟩
            have JE := Lib.hid (ext_trans JD.out (ext_trans k1 (ext_trans k2 k3)))
            clear JD k1 k2 k3 HI2 HS2
            go_wp2_with fail
            refine (DrawNextSquare_any A n c w.heap.size _ (HC.out.below JE.out) JE.out.size).mono ?_
            rintro e a4 ⟨u, rfl, k4⟩
            obtain ⟨nv, no, hu⟩ := nextT_form u
            have hi := iNextSquare_any u
            have hs := sNextSquare_any u
            rw [hu] at hi hs
            have HI2 := Lib.hid hi
            have HS2 := Lib.hid hs
            clear hi hs hu
            go_wp2_with fail
            refine (HI2.out _).mono ?_
            rintro e a5 ⟨rfl, k5⟩
            go_wp2_with fail
            refine (HS2.out _).mono ?_
            rintro e a6 ⟨rfl, k6⟩
            go_wp2_with fail
            go_ret
            exact ⟨by simp, ext_trans JE.out (ext_trans k4 (ext_trans k5 k6))⟩
          · obtain ⟨cc, c2, c3, d2, d3, e1, e2, e3, e4, e5, g1, g2, g3, g4, g5, g6, g7, g8, g9, g10⟩ := cube_letters hy
            rw [e1] at hi hs
            have HI2 := Lib.hid hi
            have HS2 := Lib.hid hs
            have yb := inB_true hy
            have y1 := yb.2
            have n1 : ¬ y < c3 := by omega
            have n2 : ¬ d3 ≤ y := by omega
            clear hi hs hy e1 yb
            go_wp2_with fail
            refine (HI2.out _).mono ?_
            rintro e w' ⟨rfl, rfl⟩
            go_wp2_with fail
            refine (HS2.out _).mono ?_
            rintro e w' ⟨rfl, rfl⟩
            clear HI2 HS2
            have JD := Lib.hid (ext_trans JC.out j1)
            clear JC j1
            go_wp2_with fail
            refine (DrawIsSquare_any A n c w.heap.size _ (HC.out.below JD.out) JD.out.size).mono ?_
            rintro e a1 ⟨z, rfl, k1⟩
            obtain ⟨sv, so, hz⟩ := issqT_form z
            have hi := iIsSquare_any z
            have hs := sIsSquare_any z
            rw [hz] at hi hs
            have HI2 := Lib.hid hi
            have HS2 := Lib.hid hs
            have q1 : (sv != sv) = false := by simp
            have q2 : (so != so) = false := by simp
            clear hi hs hz
            go_wp2_with fail
            refine (HI2.out _).mono ?_
            rintro e a2 ⟨rfl, k2⟩
            go_wp2_with fail
            refine (HS2.out _).mono ?_
            rintro e a3 ⟨rfl, k3⟩
            have JE := Lib.hid (ext_trans JD.out (ext_trans k1 (ext_trans k2 k3)))
            clear JD k1 k2 k3 HI2 HS2
            go_wp2_with fail
            refine (DrawNextSquare_any A n c w.heap.size _ (HC.out.below JE.out) JE.out.size).mono ?_
            rintro e a4 ⟨u, rfl, k4⟩
            obtain ⟨nv, no, hu⟩ := nextT_form u
            have hi := iNextSquare_any u
            have hs := sNextSquare_any u
            rw [hu] at hi hs
            have HI2 := Lib.hid hi
            have HS2 := Lib.hid hs
            clear hi hs hu
            go_wp2_with fail
            refine (HI2.out _).mono ?_
            rintro e a5 ⟨rfl, k5⟩
            go_wp2_with fail
            refine (HS2.out _).mono ?_
            rintro e a6 ⟨rfl, k6⟩
            go_wp2_with fail
            go_ret
            exact ⟨by simp, ext_trans JE.out (ext_trans k4 (ext_trans k5 k6))⟩
    · obtain ⟨R, v, r0, P, rfl, hP, e1, R0, R1, hdiv, e2⟩ := dec_letters hv
      have hi1 := iWholeRoot_any m
      rw [e1] at hi0 hs0
      rw [e2] at hi1
      have HI0 := Lib.hid hi0
      have HS0 := Lib.hid hs0
      have HI1 := Lib.hid hi1
      obtain ⟨F, F0, F1, Fb, Fe⟩ := pow_letters
      rw [← Fe P] at hdiv
      have HF0 := Lib.hid F0
      have HF1 := Lib.hid F1
      have HFb := Lib.hid Fb
      have HD := Lib.hid hdiv
      clear hi0 hs0 hi1 hv hbig e1 e2 F0 F1 Fb Fe hdiv
      go_wp2_with fail
      refine (HI0.out _).mono ?_
      rintro e w2 ⟨rfl, h2⟩
      go_wp2_with fail
      refine (HS0.out _).mono ?_
      rintro e w3 ⟨rfl, h3⟩
      go_wp2_with fail
      refine (HI1.out _).mono ?_
      rintro e w4 ⟨rfl, h4⟩
      have JB := Lib.hid (ext_trans h1 (ext_trans h2 (ext_trans h3 h4)))
      clear h1 h2 h3 h4 HI0 HS0 HI1
      go_wp2_with fail
      go_loopw [12, 13] (fun q i wr => ∃ k : Nat, i = .int .i64 (k : Int) ∧ k ≤ P ∧ q = .int .i64 (F k) ∧ wr = w4) (fun _ i _ => P - (intOf i).toNat)
      case atStart => exact ⟨0, rfl, by omega, by rw [HF0.out], by first | rfl | trivial⟩
      case round =>
        obtain ⟨k, rfl, hk, rfl, rfl⟩ := hrel
        have k0 : (0 : Int) ≤ k := by omega
        obtain ⟨f0, f1⟩ := HFb.out k (by omega)
        by_cases hlt : k < P
        · have k1 : (k : Int) < P := by omega
          have HN := Lib.hid (HF1.out k)
          generalize F k = fk at *
          go_wp2_with fail
          go_roundw
          case rel => exact ⟨k + 1, by go_num, by omega, by rw [HN.out], by first | rfl | trivial⟩
          case measure => simp [intOf]; omega
        · obtain rfl : k = P := by omega
          have hnk : ¬ (k : Int) < k := by omega
          generalize F k = D at *
          have d0 : ¬ D = 0 := by omega
          have d1 : (D == 0) = false := by simp; omega
          have q1 : IntKind.i64.wrap (R.tdiv D) = v := by rw [wquo R0 (by omega) (by omega)]; exact HD.out
          have hv0 : 0 ≤ v := by rw [← HD.out]; exact Int.ediv_nonneg R0 (by omega)
          have hv1 : v ≤ R := by rw [← HD.out]; exact Int.ediv_le_self D R0
          have q2 : wrap64 (R.tdiv D) = v := by rw [Int.tdiv_eq_ediv_of_nonneg R0, HD.out]; exact IntWalk.wrap64_in _ ⟨by omega, by omega⟩
          have vv : (v != v) = false := by simp
          clear hlt hk HF0 HF1 HFb
          go_wp2_with fail
          go_wp2_with fail
          refine (DrawSumOfTwo_any A n c w.heap.size _ (HC.out.below JB.out) JB.out.size).mono ?_
          rintro e t1 ⟨x, rfl, j1⟩
          have hi := iSumOfTwo_any x
          have hs := sSumOfTwo_any x
          have HG := Lib.hid (fun j (h : j * 2 < (sum2 x).length) => sum2_get (n := x) (j := j) h)
          have hbd := sum2_len x
          generalize sum2 x = zs at *
          generalize inB x 0 10000 = told at hi hs
          have HI2 := Lib.hid hi
          have HS2 := Lib.hid hs
          clear hi hs
          go_wp2_with fail
          refine (HI2.out _).mono ?_
          rintro e t2 ⟨T1, b1, f1, rfl, o1⟩
          go_wp2_with fail
          refine (HS2.out _).mono ?_
          rintro e t3 ⟨T2, b2, f2, rfl, o2⟩
          have l1 := o1.len
          have l2 := o2.len
          obtain rfl : b2 = b1 := by omega
          have l1' : b2 ≤ 200 := by omega
          have HLn := Lib.hid l1
          have P1 := Lib.hid (o1.reads.below o2.ext)
          have P2 := Lib.hid o2.reads
          have JC0 := Lib.hid (ext_trans JB.out (ext_trans j1 (ext_trans o1.ext o2.ext)))
          clear o1 o2 j1 JB HI2 HS2 l1 l2 hbd
          go_wp2_with fail
          refine (vPairs_same T1 T2 b2 f1 f2 _ _ zs _ P1.out P2.out (by unfold maxLen; omega)).mono ?_
          rintro e w' ⟨rfl, u2, rfl⟩
          have JC := Lib.hid (ext_drewN JC0.out u2)
          have P3 := Lib.hid (P1.out.drewN u2)
          clear P1 P2 JC0
          generalize t3.drewN u2 = t4 at *
          go_wp2_with fail
          go_loopw [19] (fun i wr => ∃ k s : Nat, i = .int .i64 (k : Int) ∧ k ≤ b2 ∧ wr = t4.drewN s) (fun i _ => b2 - (intOf i).toNat)
          case atStart => exact ⟨0, 0, rfl, by omega, rfl⟩
          case round =>
            obtain ⟨k, s, rfl, hk, rfl⟩ := hrel
            have k0 : (0 : Int) ≤ k := by omega
            by_cases hlt : k < b2
            · obtain ⟨a, b, a2, b2', g1, g2, g3, g4, g5, g6, g7, g8, g9⟩ := HG.out k (by have := HLn.out; omega)
              obtain ⟨g, o, rfl, hrow⟩ := P3.out.row hlt (by omega)
              obtain ⟨z1, hz1, hc1⟩ := hrow 0 (by omega)
              obtain ⟨z2, hz2, hc2⟩ := hrow 1 (by omega)
              simp only [Nat.add_zero, ← Nat.add_assoc] at hz1 hz2 hc1 hc2
              rw [hz1] at g1
              rw [hz2] at g2
              injection g1 with g1
              injection g2 with g2
              subst g1 g2
              have k1 : (k : Int) < b2 := by omega
              have w1 : IntKind.i64.wrap a2 = a2 := IntWalk.i64_in _ ⟨by omega, by omega⟩
              have w2 : IntKind.i64.wrap b2' = b2' := IntWalk.i64_in _ ⟨by omega, by omega⟩
              have w3 : IntKind.i64.wrap x = x := IntWalk.i64_in _ ⟨by omega, by omega⟩
              have ngt : ¬ z2 < z1 := by omega
              have ngd : decide (z2 < z1) = false := by simp; omega
              have xx : (x != x) = false := by simp
              clear hrow hz1 hz2
              go_wp2_with fail
              go_quiet (fail)
              go_wp2_with fail
              go_roundw
              case rel => exact ⟨k + 1, _, by go_num, by omega, rfl⟩
              case measure => simp [intOf]; omega
            · have JC := Lib.hid (ext_drewN JC.out s)
              clear P3 HG HLn
              generalize t4.drewN s = t5 at *
              have hnlt : ¬ (k : Int) < b2 := by omega
              go_wp2_with fail
              refine (DrawCubeRoot_any A n c w.heap.size _ (HC.out.below JC.out) JC.out.size).mono ?_
              rintro e t6 ⟨y, rfl, j1⟩
              have hi := iCubeRoot_any y
              have hs := sCubeRoot_any y
              cases hy : inB y 0 99999999
              · rw [cube_none hy] at hi hs
                have HI2 := Lib.hid hi
                have HS2 := Lib.hid hs
                clear hi hs hy
                go_wp2_with fail
                refine (HI2.out _).mono ?_
                rintro e w' ⟨rfl, rfl⟩
                go_wp2_with fail
                refine (HS2.out _).mono ?_
                rintro e w' ⟨rfl, rfl⟩
                clear HI2 HS2
                have JD := Lib.hid (ext_trans JC.out j1)
                clear JC j1
                go_wp2_with fail
                refine (DrawIsSquare_any A n c w.heap.size _ (HC.out.below JD.out) JD.out.size).mono ?_
                rintro e a1 ⟨z, rfl, k1⟩
                obtain ⟨sv, so, hz⟩ := issqT_form z
                have hi := iIsSquare_any z
                have hs := sIsSquare_any z
                rw [hz] at hi hs
                have HI2 := Lib.hid hi
                have HS2 := Lib.hid hs
                have q1 : (sv != sv) = false := by simp
                have q2 : (so != so) = false := by simp
                clear hi hs hz
                go_wp2_with fail
                refine (HI2.out _).mono ?_
                rintro e a2 ⟨rfl, k2⟩
                go_wp2_with fail
                refine (HS2.out _).mono ?_
                rintro e a3 ⟨rfl, k3⟩
                have JE := Lib.hid (ext_trans JD.out (ext_trans k1 (ext_trans k2 k3)))
                clear JD k1 k2 k3 HI2 HS2
                go_wp2_with fail
                refine (DrawNextSquare_any A n c w.heap.size _ (HC.out.below JE.out) JE.out.size).mono ?_
                rintro e a4 ⟨u, rfl, k4⟩
                obtain ⟨nv, no, hu⟩ := nextT_form u
                have hi := iNextSquare_any u
                have hs := sNextSquare_any u
                rw [hu] at hi hs
                have HI2 := Lib.hid hi
                have HS2 := Lib.hid hs
                clear hi hs hu
                go_wp2_with fail
                refine (HI2.out _).mono ?_
                rintro e a5 ⟨rfl, k5⟩
                go_wp2_with fail
                refine (HS2.out _).mono ?_
                rintro e a6 ⟨rfl, k6⟩
                go_wp2_with fail
                go_ret
                exact ⟨by simp, ext_trans JE.out (ext_trans k4 (ext_trans k5 k6))⟩
              · obtain ⟨cc, c2, c3, d2, d3, e1, e2, e3, e4, e5, g1, g2, g3, g4, g5, g6, g7, g8, g9, g10⟩ := cube_letters hy
                rw [e1] at hi hs
                have HI2 := Lib.hid hi
                have HS2 := Lib.hid hs
                have yb := inB_true hy
                have y1 := yb.2
                have n1 : ¬ y < c3 := by omega
                have n2 : ¬ d3 ≤ y := by omega
                clear hi hs hy e1 yb
                go_wp2_with fail
                refine (HI2.out _).mono ?_
                rintro e w' ⟨rfl, rfl⟩
                go_wp2_with fail
                refine (HS2.out _).mono ?_
                rintro e w' ⟨rfl, rfl⟩
                clear HI2 HS2
                have JD := Lib.hid (ext_trans JC.out j1)
                clear JC j1
                go_wp2_with fail
                refine (DrawIsSquare_any A n c w.heap.size _ (HC.out.below JD.out) JD.out.size).mono ?_
                rintro e a1 ⟨z, rfl, k1⟩
                obtain ⟨sv, so, hz⟩ := issqT_form z
                have hi := iIsSquare_any z
                have hs := sIsSquare_any z
                rw [hz] at hi hs
                have HI2 := Lib.hid hi
                have HS2 := Lib.hid hs
                have q1 : (sv != sv) = false := by simp
                have q2 : (so != so) = false := by simp
                clear hi hs hz
                go_wp2_with fail
                refine (HI2.out _).mono ?_
                rintro e a2 ⟨rfl, k2⟩
                go_wp2_with fail
                refine (HS2.out _).mono ?_
                rintro e a3 ⟨rfl, k3⟩
                have JE := Lib.hid (ext_trans JD.out (ext_trans k1 (ext_trans k2 k3)))
                clear JD k1 k2 k3 HI2 HS2
                go_wp2_with fail
                refine (DrawNextSquare_any A n c w.heap.size _ (HC.out.below JE.out) JE.out.size).mono ?_
                rintro e a4 ⟨u, rfl, k4⟩
                obtain ⟨nv, no, hu⟩ := nextT_form u
                have hi := iNextSquare_any u
                have hs := sNextSquare_any u
                rw [hu] at hi hs
                have HI2 := Lib.hid hi
                have HS2 := Lib.hid hs
                clear hi hs hu
                go_wp2_with fail
                refine (HI2.out _).mono ?_
                rintro e a5 ⟨rfl, k5⟩
                go_wp2_with fail
                refine (HS2.out _).mono ?_
                rintro e a6 ⟨rfl, k6⟩
                go_wp2_with fail
                go_ret
                exact ⟨by simp, ext_trans JE.out (ext_trans k4 (ext_trans k5 k6))⟩
end Go.Proofs.Ytiephmkokkjbaaa
