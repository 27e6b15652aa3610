/- Chapter 12: sums of two squares. No condition. -/
import Derived.Test.YtiephmkokkjbaaaRoot2
import Derived.Test.YtiephmkokkjbaaaA2
namespace Go.Proofs.Ytiephmkokkjbaaa
open Go.RowKit

/-- The pairs before k whose squares have the sum n. -/
def sq2 (n : Nat) : Nat → List Int
  | 0 => []
  | k + 1 => if 2 * k * k ≤ n ∧ isq (n - k * k) * isq (n - k * k) = n - k * k then sq2 n k ++ [(k : Int), (isq (n - k * k) : Int)] else sq2 n k
theorem sq2_yes {n k : Nat} (h1 : 2 * k * k ≤ n) (h2 : isq (n - k * k) * isq (n - k * k) = n - k * k) : sq2 n (k + 1) = sq2 n k ++ [(k : Int), (isq (n - k * k) : Int)] := by rw [sq2, if_pos ⟨h1, h2⟩]
theorem sq2_no {n k : Nat} (h2 : ¬ isq (n - k * k) * isq (n - k * k) = n - k * k) : sq2 n (k + 1) = sq2 n k := by rw [sq2, if_neg (fun h => h2 h.2)]
theorem sq2_stop {n k : Nat} (h : n < 2 * k * k) : ∀ j, sq2 n (k + j) = sq2 n k
  | 0 => rfl
  | j + 1 => by
    have : 2 * k * k ≤ 2 * (k + j) * (k + j) := Nat.mul_le_mul (by omega) (by omega)
    rw [← Nat.add_assoc, sq2, if_neg (fun hh => by have := hh.1; omega), sq2_stop h j]
theorem sq2_len (n : Nat) : ∀ k, (sq2 n k).length ≤ k * 2
  | 0 => by simp [sq2]
  | k + 1 => by
    have := sq2_len n k
    unfold sq2
    split
    · simp; omega
    · omega
/-- What SumOfTwo gives. -/
def sum2 (n : Int) : List Int := if inB n 0 10000 = true then sq2 n.toNat 200 else []
theorem sum2_len (n : Int) : (sum2 n).length ≤ 400 := by
  unfold sum2
  split
  · exact sq2_len _ 200
  · simp
theorem two_small {k n : Nat} (hn : n ≤ 10000) (h : 2 * k * k ≤ n) : k ≤ 70 := by
  rcases Nat.lt_or_ge 70 k with hk | hk
  · have : 2 * 71 * 71 ≤ 2 * k * k := Nat.mul_le_mul (by omega) (by omega)
    omega
  · exact hk
theorem two_ge {k n : Nat} (h : 2 * k * k ≤ n) : k * k ≤ n := by rw [Nat.mul_assoc] at h; omega

set_option maxHeartbeats 2000000 in
theorem sSumOfTwo_any (n : Int) (w : World) :
    Calls Try.prog 36 #[.int .i64 n] w (Gives 52 2 (sum2 n) (inB n 0 10000) w) := by
  cases h : inB n 0 10000
  · go_enter Try.func36, Try.ntmps36
    go_wp2_with (go_at_call 59; refine (l1In_any _ _ _ _).mono ?_; rintro e w' ⟨rfl, rfl⟩)
    go_ret2
    exact ⟨_, _, _, rfl, by simp only [sum2, h, Bool.false_eq_true, if_false]; exact Acc.empty (Below.refl _ _)⟩
  · obtain ⟨n1, n2⟩ := inB_true h
    have hd : sum2 n = sq2 n.toNat 200 := by simp only [sum2, if_pos h]
    obtain ⟨N, rfl⟩ := Int.eq_ofNat_of_zero_le n1
    rw [Int.toNat_natCast] at hd
    have hN : N ≤ 10000 := by omega
    have HD := Lib.hid hd
    clear hd
    go_enter Try.func36, Try.ntmps36
    go_wp2_with (go_at_call 59; refine (l1In_any _ _ _ _).mono ?_; rintro e w' ⟨rfl, rfl⟩)
    go_loopw [4, 5] (fun v t wr => ∃ (k m c : Nat) (A : Option Addr), t = .int .i64 (k : Int) ∧ k ≤ 100 ∧ v = .slice A m c ∧ Acc w wr 52 2 A m c (sq2 N k)) (fun _ t _ => 200 - (intOf t).toNat)
    case atStart => exact ⟨0, _, _, _, rfl, by omega, rfl, Acc.empty (Below.refl _ _)⟩
    case round =>
      obtain ⟨k, m, c, A, rfl, hk, rfl, hacc⟩ := hrel
      have hm := hacc.len
      have hl := sq2_len N k
      have hkk := Nat.mul_le_mul (show 2 * k ≤ 200 by omega) hk
      have g1 : 0 ≤ 2 * (k : Int) * k := by have : 2 * (k : Int) * k = ((2 * k * k : Nat) : Int) := by simp
                                            rw [this]; omega
      have g2 : 2 * (k : Int) * k ≤ 20000 := by have : 2 * (k : Int) * k = ((2 * k * k : Nat) : Int) := by simp
                                                rw [this]; omega
      by_cases hle : 2 * k * k ≤ N
      · have g3 : 2 * (k : Int) * k ≤ N := by have : 2 * (k : Int) * k = ((2 * k * k : Nat) : Int) := by simp
                                              rw [this]; omega
        have hks := two_small hN hle
        have hge := two_ge hle
        have f1 : 0 ≤ (k : Int) * k := by rw [← Int.natCast_mul]; omega
        have f2 : (k : Int) * k ≤ N := by rw [← Int.natCast_mul]; omega
        obtain ⟨R, hR⟩ : ∃ R, R = N - k * k := ⟨_, rfl⟩
        have hRI : (N : Int) - (k : Int) * k = (R : Int) := by rw [hR, Int.ofNat_sub hge]; simp
        have hR1 : R ≤ 10000 := by omega
        obtain ⟨r1, r2⟩ := isq_small (n := R) (by omega)
        have p1 : 0 ≤ (isq R : Int) * (isq R : Int) := by rw [← Int.natCast_mul]; omega
        have p2 : (isq R : Int) * (isq R : Int) ≤ R := by rw [← Int.natCast_mul]; omega
        have HLE := Lib.hid hle
        have HR := Lib.hid hR
        clear hle hR hkk hge r2
        go_wp2_with fail
        try rw [hRI]
        have HRI := Lib.hid hRI
        clear hRI
        cases he : ((isq R : Int) * (isq R : Int) == (R : Int))
        · have hne : ¬ isq R * isq R = R := by
            intro h
            have : (isq R : Int) * (isq R : Int) = (R : Int) := by rw [← Int.natCast_mul, h]
            rw [this] at he
            simp at he
          rw [HR.out] at hne
          have HS := Lib.hid (sq2_no hne)
          clear hne
          refine (l12Root_any R (by omega) _).mono ?_
          rintro e w' ⟨rfl, rfl⟩
          go_wp2_with fail
          go_roundw
          case rel => exact ⟨k + 1, _, _, _, by go_num, by omega, rfl, by rw [HS.out]; exact hacc⟩
          case measure => simp [intOf]; omega
        · have hyes : isq R * isq R = R := by
            have h := eq_of_beq he
            rw [← Int.natCast_mul] at h
            omega
          rw [HR.out] at hyes
          have hs := sq2_yes HLE.out hyes
          rw [← HR.out] at hs
          have HS := Lib.hid hs
          clear hs hyes
          refine (l12Root_any R (by omega) _).mono ?_
          rintro e w' ⟨rfl, rfl⟩
          have hacc2 := hacc
          clear hacc
          go_wp2_with (at_builtin; refine app2 rfl _ _ rfl rfl (hacc2.alloc _) rfl (reads_newAt _ _ _ 2 [(k : Int), (isq R : Int)] _ (by simp) rfl rfl) (by omega) ?_; intro A' c' w2 hacc' _)
          go_roundw
          case rel => exact ⟨k + 1, _, _, _, by go_num, by omega, rfl, by rw [HS.out]; exact hacc'⟩
          case measure => simp [intOf]; omega
      · have hgt : N < 2 * k * k := by omega
        have g3 : (N : Int) < 2 * (k : Int) * k := by have : 2 * (k : Int) * k = ((2 * k * k : Nat) : Int) := by simp
                                                      rw [this]; omega
        have hs := sq2_stop hgt (200 - k)
        rw [show k + (200 - k) = 200 from by omega] at hs
        have HS := Lib.hid hs
        clear hs hle hgt hkk
        go_wp2_with fail
        go_ret2
        exact ⟨A, m, c, rfl, by rw [HD.out, HS.out]; exact hacc⟩
set_option maxHeartbeats 2000000 in
theorem iSumOfTwo_any (n : Int) (w : World) :
    Calls Try.prog 37 #[.int .i64 n] w (Gives 52 2 (sum2 n) (inB n 0 10000) w) := by
  cases h : inB n 0 10000
  · go_enter Try.func37, Try.ntmps37
    go_wp2_with (go_at_call 61; refine (within_any _ _ _ _).mono ?_; rintro e w' ⟨rfl, rfl⟩)
    go_ret2
    exact ⟨_, _, _, rfl, by simp only [sum2, h, Bool.false_eq_true, if_false]; exact Acc.nil (Below.refl _ _)⟩
  · obtain ⟨n1, n2⟩ := inB_true h
    have hd : sum2 n = sq2 n.toNat 200 := by simp only [sum2, if_pos h]
    obtain ⟨N, rfl⟩ := Int.eq_ofNat_of_zero_le n1
    rw [Int.toNat_natCast] at hd
    have hN : N ≤ 10000 := by omega
    have HD := Lib.hid hd
    clear hd
    go_enter Try.func37, Try.ntmps37
    go_wp2_with (go_at_call 61; refine (within_any _ _ _ _).mono ?_; rintro e w' ⟨rfl, rfl⟩)
    go_loopw [4, 5] (fun v t wr => ∃ (k m c : Nat) (A : Option Addr), t = .int .i64 (k : Int) ∧ k ≤ 100 ∧ v = .slice A m c ∧ Acc w wr 52 2 A m c (sq2 N k)) (fun _ t _ => 200 - (intOf t).toNat)
    case atStart => exact ⟨0, _, _, _, rfl, by omega, rfl, Acc.nil (Below.refl _ _)⟩
    case round =>
      obtain ⟨k, m, c, A, rfl, hk, rfl, hacc⟩ := hrel
      have hm := hacc.len
      have hl := sq2_len N k
      have hkk := Nat.mul_le_mul (show 2 * k ≤ 200 by omega) hk
      have g1 : 0 ≤ 2 * (k : Int) * k := by have : 2 * (k : Int) * k = ((2 * k * k : Nat) : Int) := by simp
                                            rw [this]; omega
      have g2 : 2 * (k : Int) * k ≤ 20000 := by have : 2 * (k : Int) * k = ((2 * k * k : Nat) : Int) := by simp
                                                rw [this]; omega
      by_cases hle : 2 * k * k ≤ N
      · have g3 : 2 * (k : Int) * k ≤ N := by have : 2 * (k : Int) * k = ((2 * k * k : Nat) : Int) := by simp
                                              rw [this]; omega
        have hks := two_small hN hle
        have hge := two_ge hle
        have f1 : 0 ≤ (k : Int) * k := by rw [← Int.natCast_mul]; omega
        have f2 : (k : Int) * k ≤ N := by rw [← Int.natCast_mul]; omega
        obtain ⟨R, hR⟩ : ∃ R, R = N - k * k := ⟨_, rfl⟩
        have hRI : (N : Int) - (k : Int) * k = (R : Int) := by rw [hR, Int.ofNat_sub hge]; simp
        have hR1 : R ≤ 10000 := by omega
        obtain ⟨r1, r2⟩ := isq_small (n := R) (by omega)
        have p1 : 0 ≤ (isq R : Int) * (isq R : Int) := by rw [← Int.natCast_mul]; omega
        have p2 : (isq R : Int) * (isq R : Int) ≤ R := by rw [← Int.natCast_mul]; omega
        have HLE := Lib.hid hle
        have HR := Lib.hid hR
        clear hle hR hkk hge r2
        go_wp2_with fail
        try rw [hRI]
        have HRI := Lib.hid hRI
        clear hRI
        cases he : ((isq R : Int) * (isq R : Int) == (R : Int))
        · have hne : ¬ isq R * isq R = R := by
            intro h
            have : (isq R : Int) * (isq R : Int) = (R : Int) := by rw [← Int.natCast_mul, h]
            rw [this] at he
            simp at he
          rw [HR.out] at hne
          have HS := Lib.hid (sq2_no hne)
          clear hne
          refine (wholeRoot_any R (by omega) _).mono ?_
          rintro e w' ⟨rfl, hb⟩
          go_wp2_with fail
          go_roundw
          case rel => exact ⟨k + 1, _, _, _, by go_num, by omega, rfl, by rw [HS.out]; exact hacc.later hb⟩
          case measure => simp [intOf]; omega
        · have hyes : isq R * isq R = R := by
            have h := eq_of_beq he
            rw [← Int.natCast_mul] at h
            omega
          rw [HR.out] at hyes
          have hs := sq2_yes HLE.out hyes
          rw [← HR.out] at hs
          have HS := Lib.hid hs
          clear hs hyes
          refine (wholeRoot_any R (by omega) _).mono ?_
          rintro e w' ⟨rfl, hb⟩
          have hacc2 := hacc.later hb
          clear hacc
          go_wp2_with (at_builtin; refine app2 rfl _ _ rfl rfl (hacc2.alloc _) rfl (reads_newAt _ _ _ 2 [(k : Int), (isq R : Int)] _ (by simp) rfl rfl) (by omega) ?_; intro A' c' w2 hacc' _)
          go_roundw
          case rel => exact ⟨k + 1, _, _, _, by go_num, by omega, rfl, by rw [HS.out]; exact hacc'⟩
          case measure => simp [intOf]; omega
      · have hgt : N < 2 * k * k := by omega
        have g3 : (N : Int) < 2 * (k : Int) * k := by have : 2 * (k : Int) * k = ((2 * k * k : Nat) : Int) := by simp
                                                      rw [this]; omega
        have hs := sq2_stop hgt (200 - k)
        rw [show k + (200 - k) = 200 from by omega] at hs
        have HS := Lib.hid hs
        clear hs hle hgt hkk
        go_wp2_with fail
        go_ret2
        exact ⟨A, m, c, rfl, by rw [HD.out, HS.out]; exact hacc⟩
set_option maxHeartbeats 1000000 in
theorem FnExactSumOfTwo_any (n : Int) (_ : (Lit.int .i64 n).wf = true) (w : World) :
    Calls Try.prog 11 #[.int .i64 n] w fun e w' => e = .returned (.bool true) ∧ Below w.heap.size w w' := by
  have hbd : (sum2 n).length ≤ 1000000 := Nat.le_trans (sum2_len n) (by omega)
  have hs := sSumOfTwo_any n
  have hi := iSumOfTwo_any n
  generalize sum2 n = zs at hs hi hbd
  generalize inB n 0 10000 = ok at hs hi
  have HS := Lib.hid hs
  have HI := Lib.hid hi
  have he := eqB_self zs
  clear hs hi
  go_enter Try.func11, Try.ntmps11
  go_wp2_with fail
  refine (HS.out _).mono ?_
  rintro e w1 ⟨A0, n0, c0, rfl, h0⟩
  go_wp2_with fail
  refine (HI.out _).mono ?_
  rintro e w2 ⟨A1, n1, c1, rfl, h1⟩
  have b0 := h0.len
  have b1 := h1.len
  have b1' : n1 ≤ 1000000 := by omega
  have b0' : n0 ≤ 1000000 := by omega
  clear b0 b1
  go_wp2_with fail
  refine (eqIntA2S_any A1 A0 n1 n0 c1 c0 _ _ zs zs _ h1.reads (h0.reads.below h1.ext) (Nat.le_refl _) h1.ext.size (by unfold maxLen; omega) (by unfold maxLen; omega)).mono ?_
  rintro e w3 ⟨rfl, hb3⟩
  go_wp2_with fail
  refine (markIntA2S_any A1 n1 c1 w1.heap.size zs 1 _ (h1.later hb3).own (by omega) (by omega) (by omega)).mono ?_
  rintro e w4 ⟨rfl, hm, hg⟩
  go_wp2_with fail
  refine (heldIntA2S_any A1 n1 c1 _ 1 _ (Reads.of_own hm) (by omega) (by omega) (by omega)).mono ?_
  rintro e w' ⟨rfl, rfl⟩
  go_wp2_with fail
  refine (HI.out _).mono ?_
  rintro e w5 ⟨A2, n2, c2, rfl, h2⟩
  have b2 := h2.len
  have b2' : n2 ≤ 1000000 := by omega
  clear b2
  have z14 : w1.heap.size ≤ w4.heap.size := Nat.le_trans (Nat.le_trans h1.ext.size hb3.size) hg.size
  have r0 : Reads w5 w1.heap.size 2 A0 n0 (zs.map (Value.int .i64)) := ((((h0.reads.below h1.ext).below (hb3.mono h1.ext.size)).grown hg (Nat.le_trans h1.ext.size hb3.size) fun g hb => (h1.own.lt g hb).1).below (h2.ext.mono z14))
  have r1 := own_below hm h2.ext
  go_wp2_with fail
  refine (eqIntA2S_any A2 A0 n2 n0 c2 c0 _ _ zs zs _ h2.reads r0 (Nat.le_refl _) (Nat.le_trans z14 h2.ext.size) (by unfold maxLen; omega) (by unfold maxLen; omega)).mono ?_
  rintro e w6 ⟨rfl, hb6⟩
  go_wp2_with fail
  refine (heldIntA2S_any A1 n1 c1 _ 1 _ (Reads.of_own (own_below r1 hb6)) (by omega) (by omega) (by omega)).mono ?_
  rintro e w' ⟨rfl, rfl⟩
  go_wp2_with fail
  go_ret
  exact ⟨rfl, ext_trans (ext_trans (ext_grown (ext_trans (ext_trans h0.ext h1.ext) hb3) hg fun g hb => Nat.le_trans h0.ext.size (h1.own.lt g hb).1) h2.ext) hb6⟩
end Go.Proofs.Ytiephmkokkjbaaa
