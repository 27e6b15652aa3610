/- Chapter 10: small divisors. No condition. -/
import Derived.Test.YteibpconehgnbaaAppend
import Derived.Test.YteibpconehgnbaaQuo
namespace Go.Proofs.Yteibpconehgnbaa
open Go.RowKit

/-- The divisors of n up to k. -/
def divsTo (n : Int) : Nat → List Int
  | 0 => []
  | k + 1 => if n % ((k : Int) + 1) = 0 then divsTo n k ++ [(k : Int) + 1] else divsTo n k
theorem divsTo_len (n : Int) : ∀ k, (divsTo n k).length ≤ k
  | 0 => by simp [divsTo]
  | k + 1 => by
    have := divsTo_len n k
    unfold divsTo
    split
    · simp; omega
    · omega
def divsOf (n : Int) : List Int := if inB n 0 99999999 = true then divsTo n 99 else []
theorem divsOf_len (n : Int) : (divsOf n).length ≤ 99 := by
  unfold divsOf
  split
  · exact divsTo_len n 99
  · simp
theorem divs_yes {n : Int} {k : Nat} (h : n % ((k : Int) + 1) = 0) : divsTo n (k + 1) = divsTo n k ++ [(k : Int) + 1] := by rw [divsTo, if_pos h]
theorem divs_no {n : Int} {k : Nat} (h : ¬ n % ((k : Int) + 1) = 0) : divsTo n (k + 1) = divsTo n k := by rw [divsTo, if_neg h]

set_option maxHeartbeats 1000000 in
theorem sDivisorsOf_any (n : Int) (w : World) :
    Calls Try.prog 18 #[.int .i64 n] w (Gives 3 1 (divsOf n) (inB n 0 99999999) w) := by
  by_cases h : inB n 0 99999999 = true
  · obtain ⟨n1, n2⟩ := inB_true h
    have hd : divsOf n = divsTo n 99 := by simp only [divsOf, if_pos h]
    have HD := Lib.hid hd
    clear hd
    go_enter Try.func18, Try.ntmps18
    go_wp2_with (go_at_call 40; refine (l1In_any _ _ _ _).mono ?_; rintro e w' ⟨rfl, rfl⟩)
    go_loopw [4, 5] (fun v d wr => ∃ (k : Nat) (A : Option Addr) (m c : Nat), d = .int .i64 ((k : Int) + 1) ∧ k ≤ 99 ∧ v = .slice A m c ∧ Acc w wr 3 1 A m c (divsTo n k)) (fun _ d _ => 101 - (intOf d).toNat)
    case atStart => exact ⟨0, _, _, _, by simp, by omega, rfl, Acc.empty (Below.refl _ _)⟩
    case round =>
      obtain ⟨k, A, m, c, rfl, hk, rfl, hacc⟩ := hrel
      have hm := hacc.len
      have hl := divsTo_len n k
      by_cases hlt : k < 99
      · by_cases hdv : n % ((k : Int) + 1) = 0
        · have hdv' : (n % ((k : Int) + 1) == 0) = true := by simpa using hdv
          have HV := Lib.hid hdv
          clear hdv
          go_wp2_with (at_builtin; refine appI rfl _ _ rfl rfl (hacc.alloc _) rfl (reads_new _ _ _ 1 [(k : Int) + 1] rfl rfl) (by omega) ?_; intro A' c' w' hacc' _)
          go_roundw
          case rel => exact ⟨k + 1, _, _, _, by go_num, by omega, rfl, by rw [divs_yes HV.out]; exact hacc'⟩
          case measure => simp [intOf]; omega
        · have hdv' : (n % ((k : Int) + 1) == 0) = false := by simpa using hdv
          have HV := Lib.hid hdv
          clear hdv
          go_wp2
          go_roundw
          case rel => exact ⟨k + 1, _, _, _, by go_num, by omega, rfl, by rw [divs_no HV.out]; exact hacc⟩
          case measure => simp [intOf]; omega
      · have hk' : k = 99 := by omega
        subst hk'
        go_wp2
        go_ret2
        exact ⟨A, m, c, by rw [h]; rfl, by rw [HD.out]; exact hacc⟩
  · go_enter Try.func18, Try.ntmps18
    go_wp2_with (go_at_call 40; refine (l1In_any _ _ _ _).mono ?_; rintro e w' ⟨rfl, rfl⟩)
    go_ret2
    exact ⟨_, _, _, by rw [Bool.eq_false_iff.2 h]; rfl, by simp only [divsOf, if_neg h]; exact Acc.empty (Below.refl _ _)⟩
set_option maxHeartbeats 1000000 in
theorem iDivisorsOf_any (n : Int) (w : World) :
    Calls Try.prog 19 #[.int .i64 n] w (Gives 3 1 (divsOf n) (inB n 0 99999999) w) := by
  by_cases h : inB n 0 99999999 = true
  · obtain ⟨n1, n2⟩ := inB_true h
    have hd : divsOf n = divsTo n 99 := by simp only [divsOf, if_pos h]
    have HD := Lib.hid hd
    clear hd
    go_enter Try.func19, Try.ntmps19
    go_wp2_with (go_at_call 42; refine (isDividend_any _ _).mono ?_; rintro e w' ⟨rfl, rfl⟩)
    go_loopw [4, 5] (fun v d wr => ∃ (k : Nat) (A : Option Addr) (m c : Nat), d = .int .i64 ((k : Int) + 1) ∧ k ≤ 99 ∧ v = .slice A m c ∧ Acc w wr 3 1 A m c (divsTo n k)) (fun _ d _ => 101 - (intOf d).toNat)
    case atStart => exact ⟨0, _, _, _, by simp, by omega, rfl, Acc.nil (Below.refl _ _)⟩
    case round =>
      obtain ⟨k, A, m, c, rfl, hk, rfl, hacc⟩ := hrel
      have hm := hacc.len
      have hl := divsTo_len n k
      by_cases hlt : k < 99
      · by_cases hdv : n % ((k : Int) + 1) = 0
        · have hdv' : (n % ((k : Int) + 1) == 0) = true := by simpa using hdv
          have HV := Lib.hid hdv
          clear hdv
          go_wp2_with (at_builtin; refine appI rfl _ _ rfl rfl (hacc.alloc _) rfl (reads_new _ _ _ 1 [(k : Int) + 1] rfl rfl) (by omega) ?_; intro A' c' w' hacc' _)
          go_roundw
          case rel => exact ⟨k + 1, _, _, _, by go_num, by omega, rfl, by rw [divs_yes HV.out]; exact hacc'⟩
          case measure => simp [intOf]; omega
        · have hdv' : (n % ((k : Int) + 1) == 0) = false := by simpa using hdv
          have HV := Lib.hid hdv
          clear hdv
          go_wp2
          go_roundw
          case rel => exact ⟨k + 1, _, _, _, by go_num, by omega, rfl, by rw [divs_no HV.out]; exact hacc⟩
          case measure => simp [intOf]; omega
      · have hk' : k = 99 := by omega
        subst hk'
        go_wp2
        go_ret2
        exact ⟨A, m, c, by rw [h]; rfl, by rw [HD.out]; exact hacc⟩
  · go_enter Try.func19, Try.ntmps19
    go_wp2_with (go_at_call 42; refine (isDividend_any _ _).mono ?_; rintro e w' ⟨rfl, rfl⟩)
    go_ret2
    exact ⟨_, _, _, by rw [Bool.eq_false_iff.2 h]; rfl, by simp only [divsOf, if_neg h]; exact Acc.nil (Below.refl _ _)⟩
set_option maxHeartbeats 1000000 in
theorem FnExactDivisorsOf_any (n : Int) (_ : (Lit.int .i64 n).wf = true) (w : World) :
    Calls Try.prog 6 #[.int .i64 n] w fun e w' => e = .returned (.bool true) ∧ Below w.heap.size w w' := by
  have hbd : (divsOf n).length ≤ 1000000 := Nat.le_trans (divsOf_len n) (by omega)
  have hs := sDivisorsOf_any n
  have hi := iDivisorsOf_any n
  generalize divsOf n = zs at hs hi hbd
  generalize inB n 0 99999999 = ok at hs hi
  have HS := Lib.hid hs
  have HI := Lib.hid hi
  have he := eqB_self zs
  clear hs hi
  go_enter Try.func6, Try.ntmps6
  go_wp2_with fail
  refine (HS.out _).mono ?_
  rintro e w1 ⟨A0, n0, c0, rfl, h0⟩
  go_wp2_with fail
  refine (HI.out _).mono ?_
  rintro e w2 ⟨A1, n1, c1, rfl, h1⟩
  have b0 := h0.len
  have b1 := h1.len
  have b1' : n1 ≤ 1000000 := by omega
  have b0' : n0 ≤ 1000000 := by omega
  clear b0 b1
  go_wp2_with fail
  refine (eqIntS_any A1 A0 n1 n0 c1 c0 _ _ zs zs _ h1.reads (h0.reads.below h1.ext) (by unfold maxLen; omega) (by unfold maxLen; omega)).mono ?_
  rintro e w' ⟨rfl, m, rfl⟩
  go_wp2_with fail
  refine (markIntS_any A1 n1 c1 w1.heap.size zs 1 _ (h1.drewN m).own (by omega) (by omega) (by omega)).mono ?_
  rintro e w4 ⟨rfl, hm, hg⟩
  go_wp2_with fail
  refine (heldIntS_any A1 n1 c1 _ 1 _ (Reads.of_own hm) (by omega) (by omega) (by omega)).mono ?_
  rintro e w' ⟨rfl, rfl⟩
  go_wp2_with fail
  refine (HI.out _).mono ?_
  rintro e w5 ⟨A2, n2, c2, rfl, h2⟩
  have b2 := h2.len
  have b2' : n2 ≤ 1000000 := by omega
  clear b2
  have r0 : Reads w5 w1.heap.size 1 A0 n0 (zs.map (Value.int .i64)) := ((((h0.reads.below h1.ext).drewN m).grown hg h1.ext.size fun g hb => (h1.own.lt g hb).1).below (h2.ext.mono (Nat.le_trans h1.ext.size hg.size)))
  have r1 := Reads.of_own (own_below hm h2.ext)
  go_wp2_with fail
  refine (eqIntS_any A2 A0 n2 n0 c2 c0 _ _ zs zs _ h2.reads r0 (by unfold maxLen; omega) (by unfold maxLen; omega)).mono ?_
  rintro e w' ⟨rfl, m', rfl⟩
  go_wp2_with fail
  refine (heldIntS_any A1 n1 c1 _ 1 _ (r1.drewN m') (by omega) (by omega) (by omega)).mono ?_
  rintro e w' ⟨rfl, rfl⟩
  go_wp2_with fail
  go_ret
  exact ⟨rfl, ext_drewN (ext_trans (ext_grown (ext_drewN (ext_trans h0.ext h1.ext) m) hg fun g hb => Nat.le_trans h0.ext.size (h1.own.lt g hb).1) h2.ext) m'⟩
end Go.Proofs.Yteibpconehgnbaa
