/- Chapter 9: the places at which an answer is wrong. No condition. -/
import Derived.Test.YtbhhkkfpfcbonaaAppend
import Derived.Test.YtbhhkkfpfcbonaaTests
import Derived.Test.YtbhhkkfpfcbonaaPow
namespace Go.Proofs.Ytbhhkkfpfcbonaa
open Go.RowKit

theorem quiet_left {P : Program} {f : FuncId} {args : Array Value} {w : World} {n : Nat} {v : Value}
    (h : Calls P f args (w.drewN n) fun e w' => e = .returned v ∧ w.drewN n = w') : Calls P f args (w.drewN n) fun e w'' => e = .returned v ∧ ∃ m, w'' = w.drewN m :=
  h.mono fun _ _ ⟨he, hm⟩ => ⟨he, n, hm.symm⟩
/-- The places before k at which the digits of two numbers differ. -/
def wrongTo (p q : Int) : Nat → List Int
  | 0 => []
  | k + 1 => if (p / pow10 k % 10 != q / pow10 k % 10) = true then wrongTo p q k ++ [(k : Int)] else wrongTo p q k
theorem wrongTo_len (p q : Int) : ∀ k, (wrongTo p q k).length ≤ k
  | 0 => by simp [wrongTo]
  | k + 1 => by
    have := wrongTo_len p q k
    unfold wrongTo
    split
    · simp; omega
    · omega
theorem wrong_yes {p q : Int} {k : Nat} (h : (p / pow10 k % 10 != q / pow10 k % 10) = true) : wrongTo p q (k + 1) = wrongTo p q k ++ [(k : Int)] := by rw [wrongTo, if_pos h]
theorem wrong_no {p q : Int} {k : Nat} (h : (p / pow10 k % 10 != q / pow10 k % 10) = false) : wrongTo p q (k + 1) = wrongTo p q k := by rw [wrongTo, if_neg (by rw [h]; decide)]
theorem wrong_comm (p q : Int) : ∀ k, wrongTo p q k = wrongTo q p k
  | 0 => rfl
  | k + 1 => by simp only [wrongTo, wrong_comm p q k, bne_comm]
/-- Valid arguments of WrongDigits. -/
def wrgV (a b n : Int) : Bool := (inB a 0 9999 && inB b 0 9999) && inB n 0 99999999
def wrongs (a b n : Int) : List Int := if wrgV a b n = true then wrongTo n (a * b) 8 else []
theorem wrongs_len (a b n : Int) : (wrongs a b n).length ≤ 8 := by
  unfold wrongs
  split
  · exact wrongTo_len _ _ 8
  · simp

set_option maxHeartbeats 2000000 in
theorem sWrongDigits_any (a b n : Int) (w : World) :
    Calls Try.prog 17 #[.int .i64 a, .int .i64 b, .int .i64 n] w (Gives 3 1 (wrongs a b n) (wrgV a b n) w) := by
  cases h : (inB a 0 9999 && inB b 0 9999)
  · go_enter Try.func17, Try.ntmps17
    go_wp2_with (first | (go_at_call 33; refine (l9Both_any _ _ _).mono ?_; rintro e w' ⟨rfl, rfl⟩) | (go_at_call 36; refine (l1In_any _ _ _ _).mono ?_; rintro e w' ⟨rfl, rfl⟩))
    go_ret2
    exact ⟨_, _, _, by simp only [wrgV, h]; rfl, by simp only [wrongs, wrgV, h, Bool.false_and, Bool.false_eq_true, if_false]; exact Acc.empty (Below.refl _ _)⟩
  · cases h' : inB n 0 99999999
    · go_enter Try.func17, Try.ntmps17
      go_wp2_with (first | (go_at_call 33; refine (l9Both_any _ _ _).mono ?_; rintro e w' ⟨rfl, rfl⟩) | (go_at_call 36; refine (l1In_any _ _ _ _).mono ?_; rintro e w' ⟨rfl, rfl⟩))
      go_ret2
      exact ⟨_, _, _, by simp only [wrgV, h, h']; rfl, by simp only [wrongs, wrgV, h, h', Bool.and_false, Bool.false_eq_true, if_false]; exact Acc.empty (Below.refl _ _)⟩
    · have hv : wrgV a b n = true := by simp only [wrgV, h, h']; rfl
      have hab := h
      simp only [Bool.and_eq_true] at hab
      obtain ⟨a1, a2⟩ := inB_true hab.1
      obtain ⟨b1, b2⟩ := inB_true hab.2
      obtain ⟨n1, n2⟩ := inB_true h'
      obtain ⟨m1, m2⟩ := mul_bd a1 a2 b1 b2
      have hd : wrongs a b n = wrongTo (a * b) n 8 := by simp only [wrongs, if_pos hv, wrong_comm n (a * b)]
      have HD := Lib.hid hd
      have HV := Lib.hid hv
      clear hd hv hab
      go_enter Try.func17, Try.ntmps17
      go_wp2_with (first | (go_at_call 33; refine (l9Both_any _ _ _).mono ?_; rintro e w' ⟨rfl, rfl⟩) | (go_at_call 36; refine (l1In_any _ _ _ _).mono ?_; rintro e w' ⟨rfl, rfl⟩))
      go_loopw [8, 9] (fun v t wr => ∃ (k m c : Nat) (A : Option Addr), t = .int .i64 (k : Int) ∧ k ≤ 8 ∧ v = .slice A m c ∧ Acc w wr 3 1 A m c (wrongTo (a * b) n k)) (fun _ t _ => 8 - (intOf t).toNat)
      case atStart => exact ⟨0, _, _, _, rfl, by omega, rfl, Acc.empty (Below.refl _ _)⟩
      case round =>
        obtain ⟨k, m, c, A, rfl, hk, rfl, hacc⟩ := hrel
        have hm := hacc.len
        have hl := wrongTo_len (a * b) n k
        by_cases hlt : k < 8
        · obtain ⟨p1, p2⟩ := pow10_bd (j := k) (by omega)
          have hp0 : ¬ pow10 k = 0 := by omega
          have q1 := wquo (x := a * b) (y := pow10 k) (by omega) (by omega) p1
          have q2 := wquo (x := n) (y := pow10 k) (by omega) (by omega) p1
          have q3 := wrem (x := a * b / pow10 k) (y := 10) (Int.ediv_nonneg m1 (by omega))
          have q4 := wrem (x := n / pow10 k) (y := 10) (Int.ediv_nonneg n1 (by omega))
          have q5 : IntKind.i64.wrap (a * b) = a * b := IntWalk.i64_in _ ⟨by omega, by omega⟩
          cases hne : ((a * b) / pow10 k % 10 != n / pow10 k % 10)
          · have HN := Lib.hid (wrong_no hne)
            go_wp2_with fail
            go_quiet ((go_at_call 41; exact quiet_left (l2Power_any _ (by omega) _)))
            clear q1 q2 q3 q4 q5
            go_wp2_with fail
            go_roundw
            case rel => exact ⟨k + 1, _, _, _, by go_num, by omega, rfl, by rw [HN.out]; exact hacc.drewN _⟩
            case measure => simp [intOf]; omega
          · have HN := Lib.hid (wrong_yes hne)
            go_wp2_with fail
            go_quiet ((go_at_call 41; exact quiet_left (l2Power_any _ (by omega) _)))
            clear q1 q2 q3 q4 q5
            go_wp2_with (at_builtin; refine appI rfl _ _ rfl rfl ((hacc.drewN _).alloc _) rfl (reads_new _ _ _ 1 [(k : Int)] rfl rfl) (by omega) ?_; intro A' c' w' hacc' _)
            go_roundw
            case rel => exact ⟨k + 1, _, _, _, by go_num, by omega, rfl, by rw [HN.out]; exact hacc'⟩
            case measure => simp [intOf]; omega
        · have hk' : k = 8 := by omega
          subst hk'
          go_wp2
          go_ret2
          exact ⟨A, m, c, by rw [HV.out]; rfl, by rw [HD.out]; exact hacc⟩
set_option maxHeartbeats 2000000 in
theorem iWrongDigits_any (a b n : Int) (w : World) :
    Calls Try.prog 18 #[.int .i64 a, .int .i64 b, .int .i64 n] w (Gives 3 1 (wrongs a b n) (wrgV a b n) w) := by
  cases h : (inB a 0 9999 && inB b 0 9999)
  · go_enter Try.func18, Try.ntmps18
    go_wp2_with (first | (go_at_call 34; refine (areFactors_any _ _ _).mono ?_; rintro e w' ⟨rfl, rfl⟩) | (go_at_call 39; refine (within_any _ _ _ _).mono ?_; rintro e w' ⟨rfl, rfl⟩))
    go_ret2
    exact ⟨_, _, _, by simp only [wrgV, h]; rfl, by simp only [wrongs, wrgV, h, Bool.false_and, Bool.false_eq_true, if_false]; exact Acc.nil (Below.refl _ _)⟩
  · cases h' : inB n 0 99999999
    · go_enter Try.func18, Try.ntmps18
      go_wp2_with (first | (go_at_call 34; refine (areFactors_any _ _ _).mono ?_; rintro e w' ⟨rfl, rfl⟩) | (go_at_call 39; refine (within_any _ _ _ _).mono ?_; rintro e w' ⟨rfl, rfl⟩))
      go_ret2
      exact ⟨_, _, _, by simp only [wrgV, h, h']; rfl, by simp only [wrongs, wrgV, h, h', Bool.and_false, Bool.false_eq_true, if_false]; exact Acc.nil (Below.refl _ _)⟩
    · have hv : wrgV a b n = true := by simp only [wrgV, h, h']; rfl
      have hab := h
      simp only [Bool.and_eq_true] at hab
      obtain ⟨a1, a2⟩ := inB_true hab.1
      obtain ⟨b1, b2⟩ := inB_true hab.2
      obtain ⟨n1, n2⟩ := inB_true h'
      obtain ⟨m1, m2⟩ := mul_bd a1 a2 b1 b2
      have hd : wrongs a b n = wrongTo n (a * b) 8 := by simp only [wrongs, if_pos hv]
      have HD := Lib.hid hd
      have HV := Lib.hid hv
      clear hd hv hab
      go_enter Try.func18, Try.ntmps18
      go_wp2_with (first | (go_at_call 34; refine (areFactors_any _ _ _).mono ?_; rintro e w' ⟨rfl, rfl⟩) | (go_at_call 39; refine (within_any _ _ _ _).mono ?_; rintro e w' ⟨rfl, rfl⟩))
      go_loopw [8, 9] (fun v t wr => ∃ (k m c : Nat) (A : Option Addr), t = .int .i64 (k : Int) ∧ k ≤ 8 ∧ v = .slice A m c ∧ Acc w wr 3 1 A m c (wrongTo n (a * b) k)) (fun _ t _ => 8 - (intOf t).toNat)
      case atStart => exact ⟨0, _, _, _, rfl, by omega, rfl, Acc.nil (Below.refl _ _)⟩
      case round =>
        obtain ⟨k, m, c, A, rfl, hk, rfl, hacc⟩ := hrel
        have hm := hacc.len
        have hl := wrongTo_len n (a * b) k
        by_cases hlt : k < 8
        · obtain ⟨p1, p2⟩ := pow10_bd (j := k) (by omega)
          have hp0 : ¬ pow10 k = 0 := by omega
          have q1 := wquo (x := a * b) (y := pow10 k) (by omega) (by omega) p1
          have q2 := wquo (x := n) (y := pow10 k) (by omega) (by omega) p1
          have q3 := wrem (x := a * b / pow10 k) (y := 10) (Int.ediv_nonneg m1 (by omega))
          have q4 := wrem (x := n / pow10 k) (y := 10) (Int.ediv_nonneg n1 (by omega))
          have q5 : IntKind.i64.wrap (a * b) = a * b := IntWalk.i64_in _ ⟨by omega, by omega⟩
          cases hne : (n / pow10 k % 10 != (a * b) / pow10 k % 10)
          · have HN := Lib.hid (wrong_no hne)
            go_wp2_with fail
            go_quiet ((go_at_call 42; exact quiet_left (power_any _ (by omega) _)))
            clear q1 q2 q3 q4 q5
            go_wp2_with fail
            go_roundw
            case rel => exact ⟨k + 1, _, _, _, by go_num, by omega, rfl, by rw [HN.out]; exact hacc.drewN _⟩
            case measure => simp [intOf]; omega
          · have HN := Lib.hid (wrong_yes hne)
            go_wp2_with fail
            go_quiet ((go_at_call 42; exact quiet_left (power_any _ (by omega) _)))
            clear q1 q2 q3 q4 q5
            go_wp2_with (at_builtin; refine appI rfl _ _ rfl rfl ((hacc.drewN _).alloc _) rfl (reads_new _ _ _ 1 [(k : Int)] rfl rfl) (by omega) ?_; intro A' c' w' hacc' _)
            go_roundw
            case rel => exact ⟨k + 1, _, _, _, by go_num, by omega, rfl, by rw [HN.out]; exact hacc'⟩
            case measure => simp [intOf]; omega
        · have hk' : k = 8 := by omega
          subst hk'
          go_wp2
          go_ret2
          exact ⟨A, m, c, by rw [HV.out]; rfl, by rw [HD.out]; exact hacc⟩
set_option maxHeartbeats 1000000 in
theorem FnExactWrongDigits_any (a : Int) (_ : (Lit.int .i64 a).wf = true) (b : Int) (_ : (Lit.int .i64 b).wf = true) (n : Int) (_ : (Lit.int .i64 n).wf = true) (w : World) :
    Calls Try.prog 5 #[.int .i64 a, .int .i64 b, .int .i64 n] w fun e w' => e = .returned (.bool true) ∧ Below w.heap.size w w' := by
  have hbd : (wrongs a b n).length ≤ 1000000 := Nat.le_trans (wrongs_len a b n) (by omega)
  have hs := sWrongDigits_any a b n
  have hi := iWrongDigits_any a b n
  generalize wrongs a b n = zs at hs hi hbd
  generalize wrgV a b n = ok at hs hi
  have HS := Lib.hid hs
  have HI := Lib.hid hi
  have he := eqB_self zs
  clear hs hi
  go_enter Try.func5, Try.ntmps5
  go_wp2_with fail
  refine (HS.out _).mono ?_
  rintro e w1 ⟨A0, n0, c0, rfl, h0⟩
  go_wp2_with fail
  refine (HI.out _).mono ?_
  rintro e w2 ⟨A1, n1, c1, rfl, h1⟩
  have b0 := h0.len
  have b1 := h1.len
  have b1' : n1 ≤ 1000000 := by omega
  have b0' : n0 ≤ 1000000 := by omega
  clear b0 b1
  go_wp2_with fail
  refine (eqIntS_any A1 A0 n1 n0 c1 c0 _ _ zs zs _ h1.reads (h0.reads.below h1.ext) (by unfold maxLen; omega) (by unfold maxLen; omega)).mono ?_
  rintro e w' ⟨rfl, m, rfl⟩
  go_wp2_with fail
  refine (markIntS_any A1 n1 c1 w1.heap.size zs 1 _ (h1.drewN m).own (by omega) (by omega) (by omega)).mono ?_
  rintro e w4 ⟨rfl, hm, hg⟩
  go_wp2_with fail
  refine (heldIntS_any A1 n1 c1 _ 1 _ (Reads.of_own hm) (by omega) (by omega) (by omega)).mono ?_
  rintro e w' ⟨rfl, rfl⟩
  go_wp2_with fail
  refine (HI.out _).mono ?_
  rintro e w5 ⟨A2, n2, c2, rfl, h2⟩
  have b2 := h2.len
  have b2' : n2 ≤ 1000000 := by omega
  clear b2
  have r0 : Reads w5 w1.heap.size 1 A0 n0 (zs.map (Value.int .i64)) := ((((h0.reads.below h1.ext).drewN m).grown hg h1.ext.size fun g hb => (h1.own.lt g hb).1).below (h2.ext.mono (Nat.le_trans h1.ext.size hg.size)))
  have r1 := Reads.of_own (own_below hm h2.ext)
  go_wp2_with fail
  refine (eqIntS_any A2 A0 n2 n0 c2 c0 _ _ zs zs _ h2.reads r0 (by unfold maxLen; omega) (by unfold maxLen; omega)).mono ?_
  rintro e w' ⟨rfl, m', rfl⟩
  go_wp2_with fail
  refine (heldIntS_any A1 n1 c1 _ 1 _ (r1.drewN m') (by omega) (by omega) (by omega)).mono ?_
  rintro e w' ⟨rfl, rfl⟩
  go_wp2_with fail
  go_ret
  exact ⟨rfl, ext_drewN (ext_trans (ext_grown (ext_drewN (ext_trans h0.ext h1.ext) m) hg fun g hb => Nat.le_trans h0.ext.size (h1.own.lt g hb).1) h2.ext) m'⟩
end Go.Proofs.Ytbhhkkfpfcbonaa
