/- Chapter 10: the digits behind the point. No condition. -/
import Derived.Test.YteibpconehgnbaaAppend
import Derived.Test.YteibpconehgnbaaQuo
namespace Go.Proofs.Yteibpconehgnbaa
open Go.RowKit

/-- The rests of a division carried on behind the point. -/
def rm (a b : Int) : Nat → Int
  | 0 => a % b
  | k + 1 => 10 * rm a b k % b
theorem rm_bd {a b : Int} (hb : 1 ≤ b) : ∀ k, 0 ≤ rm a b k ∧ rm a b k < b
  | 0 => ⟨Int.emod_nonneg _ (by omega), Int.emod_lt_of_pos _ (by omega)⟩
  | k + 1 => ⟨Int.emod_nonneg _ (by omega), Int.emod_lt_of_pos _ (by omega)⟩
theorem rm_succ (a b : Int) (k : Nat) : rm a b (k + 1) = 10 * rm a b k % b := rfl
/-- The first n digits behind the point. -/
def decs (a b : Int) (n : Nat) : List Int := (List.range n).map fun k => 10 * rm a b k / b
theorem decs_len (a b : Int) (n : Nat) : (decs a b n).length = n := by simp [decs]
theorem decs_succ (a b : Int) (n : Nat) : decs a b (n + 1) = decs a b n ++ [10 * rm a b n / b] := by simp [decs, List.range_succ]
theorem decs_at {a b : Int} {n k : Nat} (h : k < n) : (decs a b n)[k]? = some (10 * rm a b k / b) := by simp [decs, h]
/-- What DecimalsOf gives. -/
def decT (a b p : Int) : List Int := if (divV a b && inB p 0 12) = true then decs a b p.toNat else []
theorem decT_len (a b p : Int) : (decT a b p).length ≤ 12 := by
  unfold decT
  split
  · next h =>
    simp only [Bool.and_eq_true] at h
    have := inB_true h.2
    rw [decs_len]; omega
  · simp

set_option maxHeartbeats 1000000 in
theorem iDecimalsOf_any (a b p : Int) (w : World) :
    Calls Try.prog 24 #[.int .i64 a, .int .i64 b, .int .i64 p] w (Gives 3 1 (decT a b p) (divV a b && inB p 0 12) w) := by
  cases h : divV a b
  · go_enter Try.func24, Try.ntmps24
    go_wp2_with (go_at_call 41; refine (isDivision_v _ _ _).mono ?_; rintro e w' ⟨rfl, rfl⟩)
    go_ret2
    exact ⟨_, _, _, rfl, by simp only [decT, h, Bool.false_and, Bool.false_eq_true, if_false]; exact Acc.nil (Below.refl _ _)⟩
  · cases h' : inB p 0 12
    · go_enter Try.func24, Try.ntmps24
      go_wp2_with (first | (go_at_call 41; refine (isDivision_v _ _ _).mono ?_; rintro e w' ⟨rfl, rfl⟩) | (go_at_call 43; refine (within_any _ _ _ _).mono ?_; rintro e w' ⟨rfl, rfl⟩))
      go_ret2
      exact ⟨_, _, _, rfl, by simp only [decT, h, h', Bool.and_false, Bool.false_eq_true, if_false]; exact Acc.nil (Below.refl _ _)⟩
    · obtain ⟨a1, a2, b1, b2⟩ := divV_true h
      obtain ⟨p1, p2⟩ := inB_true h'
      obtain ⟨P, rfl⟩ := Int.eq_ofNat_of_zero_le p1
      have hbz : (b == 0) = false := by simp; omega
      have hd : decT a b (P : Int) = decs a b P := by simp only [decT, h, h', Bool.true_and, if_true, Int.toNat_natCast]
      have HD := Lib.hid hd
      clear hd
      go_enter Try.func24, Try.ntmps24
      go_wp2_with (first | (go_at_call 41; refine (isDivision_v _ _ _).mono ?_; rintro e w' ⟨rfl, rfl⟩) | (go_at_call 43; refine (within_any _ _ _ _).mono ?_; rintro e w' ⟨rfl, rfl⟩))
      go_loopw [2, 8, 9] (fun t v r wr => ∃ (k m c : Nat) (A : Option Addr), k ≤ P ∧ t = .int .i64 ((P - k : Nat) : Int) ∧ r = .int .i64 (rm a b k) ∧ v = .slice A m c ∧ Acc w wr 3 1 A m c (decs a b k)) (fun t _ _ _ => (intOf t).toNat)
      case atStart => exact ⟨0, _, _, _, by omega, by simp, by simp [rm], rfl, Acc.nil (Below.refl _ _)⟩
      case round =>
        obtain ⟨k, m, c, A, hk, rfl, rfl, rfl, hacc⟩ := hrel
        obtain rfl : k = m := by have h1 := hacc.len; have h2 := decs_len a b k; omega
        obtain ⟨r1, r2⟩ := rm_bd (a := a) b1 k
        by_cases hlt : k < P
        · have hs := rm_succ a b k
          have hds := decs_succ a b k
          have HS := Lib.hid hs
          have HDS := Lib.hid hds
          clear hs hds
          have hp : (0 : Int) < ((P - k : Nat) : Int) := by omega
          go_wp2_with (at_builtin; refine appI rfl _ _ rfl rfl (hacc.alloc _) rfl (reads_new _ _ _ 1 [10 * rm a b k / b] (by rw [Int.mul_comm]; rfl) rfl) (by omega) ?_; intro A' c' w' hacc' _)
          go_roundw
          case rel => exact ⟨k + 1, _, _, _, by omega, by simp; omega, by rw [HS.out, Int.mul_comm], rfl, by rw [HDS.out]; exact hacc'⟩
          case measure => simp [intOf]; omega
        · have hk' : k = P := by omega
          subst hk'
          have hz : ((k - k : Nat) : Int) = 0 := by simp
          go_wp2
          go_ret2
          exact ⟨A, k, c, rfl, by rw [HD.out]; exact hacc⟩
set_option maxHeartbeats 1000000 in
theorem sDecimalsOf_any (a b p : Int) (w : World) :
    Calls Try.prog 23 #[.int .i64 a, .int .i64 b, .int .i64 p] w (Gives 3 1 (decT a b p) (divV a b && inB p 0 12) w) := by
  cases h : divV a b
  · go_enter Try.func23, Try.ntmps23
    go_wp2_with (go_at_call 39; refine (l10Asked_v _ _ _).mono ?_; rintro e w' ⟨rfl, rfl⟩)
    go_ret2
    exact ⟨_, _, _, rfl, by simp only [decT, h, Bool.false_and, Bool.false_eq_true, if_false]; exact Acc.empty (Below.refl _ _)⟩
  · cases h' : inB p 0 12
    · go_enter Try.func23, Try.ntmps23
      go_wp2_with (first | (go_at_call 39; refine (l10Asked_v _ _ _).mono ?_; rintro e w' ⟨rfl, rfl⟩) | (go_at_call 40; refine (l1In_any _ _ _ _).mono ?_; rintro e w' ⟨rfl, rfl⟩))
      go_ret2
      exact ⟨_, _, _, rfl, by simp only [decT, h, h', Bool.and_false, Bool.false_eq_true, if_false]; exact Acc.empty (Below.refl _ _)⟩
    · obtain ⟨a1, a2, b1, b2⟩ := divV_true h
      obtain ⟨p1, p2⟩ := inB_true h'
      obtain ⟨P, rfl⟩ := Int.eq_ofNat_of_zero_le p1
      have hbz : (b == 0) = false := by simp; omega
      have hd : decT a b (P : Int) = decs a b P := by simp only [decT, h, h', Bool.true_and, if_true, Int.toNat_natCast]
      have HD := Lib.hid hd
      clear hd
      go_enter Try.func23, Try.ntmps23
      go_wp2_with (first | (go_at_call 39; refine (l10Asked_v _ _ _).mono ?_; rintro e w' ⟨rfl, rfl⟩) | (go_at_call 40; refine (l1In_any _ _ _ _).mono ?_; rintro e w' ⟨rfl, rfl⟩))
      go_loopw [8, 9, 10] (fun v r t wr => ∃ (k m c : Nat) (A : Option Addr), k ≤ P ∧ t = .int .i64 (k : Int) ∧ r = .int .i64 (rm a b k) ∧ v = .slice A m c ∧ Acc w wr 3 1 A m c (decs a b k)) (fun _ _ t _ => P - (intOf t).toNat)
      case atStart => exact ⟨0, _, _, _, by omega, by simp, by simp [rm], rfl, Acc.empty (Below.refl _ _)⟩
      case round =>
        obtain ⟨k, m, c, A, hk, rfl, rfl, rfl, hacc⟩ := hrel
        obtain rfl : k = m := by have h1 := hacc.len; have h2 := decs_len a b k; omega
        obtain ⟨r1, r2⟩ := rm_bd (a := a) b1 k
        by_cases hlt : k < P
        · have hs := rm_succ a b k
          have hds := decs_succ a b k
          have HS := Lib.hid hs
          have HDS := Lib.hid hds
          clear hs hds
          go_wp2_with (at_builtin; refine appI rfl _ _ rfl rfl (hacc.alloc _) rfl (reads_new _ _ _ 1 [10 * rm a b k / b] rfl rfl) (by omega) ?_; intro A' c' w' hacc' _)
          go_roundw
          case rel => exact ⟨k + 1, _, _, _, by omega, by go_num, by rw [HS.out], rfl, by rw [HDS.out]; exact hacc'⟩
          case measure => simp [intOf]; omega
        · have hk' : k = P := by omega
          subst hk'
          go_wp2
          go_ret2
          exact ⟨A, k, c, rfl, by rw [HD.out]; exact hacc⟩
set_option maxHeartbeats 1000000 in
theorem FnExactDecimalsOf_any (a : Int) (_ : (Lit.int .i64 a).wf = true) (b : Int) (_ : (Lit.int .i64 b).wf = true) (p : Int) (_ : (Lit.int .i64 p).wf = true) (w : World) :
    Calls Try.prog 7 #[.int .i64 a, .int .i64 b, .int .i64 p] w fun e w' => e = .returned (.bool true) ∧ Below w.heap.size w w' := by
  have hbd : (decT a b p).length ≤ 1000000 := Nat.le_trans (decT_len a b p) (by omega)
  have hs := sDecimalsOf_any a b p
  have hi := iDecimalsOf_any a b p
  generalize decT a b p = zs at hs hi hbd
  generalize (divV a b && inB p 0 12) = ok at hs hi
  have HS := Lib.hid hs
  have HI := Lib.hid hi
  have he := eqB_self zs
  clear hs hi
  go_enter Try.func7, Try.ntmps7
  go_wp2_with fail
  refine (HS.out _).mono ?_
  rintro e w1 ⟨A0, n0, c0, rfl, h0⟩
  go_wp2_with fail
  refine (HI.out _).mono ?_
  rintro e w2 ⟨A1, n1, c1, rfl, h1⟩
  have b0 := h0.len
  have b1 := h1.len
  have b1' : n1 ≤ 1000000 := by omega
  have b0' : n0 ≤ 1000000 := by omega
  clear b0 b1
  go_wp2_with fail
  refine (eqIntS_any A1 A0 n1 n0 c1 c0 _ _ zs zs _ h1.reads (h0.reads.below h1.ext) (by unfold maxLen; omega) (by unfold maxLen; omega)).mono ?_
  rintro e w' ⟨rfl, m, rfl⟩
  go_wp2_with fail
  refine (markIntS_any A1 n1 c1 w1.heap.size zs 1 _ (h1.drewN m).own (by omega) (by omega) (by omega)).mono ?_
  rintro e w4 ⟨rfl, hm, hg⟩
  go_wp2_with fail
  refine (heldIntS_any A1 n1 c1 _ 1 _ (Reads.of_own hm) (by omega) (by omega) (by omega)).mono ?_
  rintro e w' ⟨rfl, rfl⟩
  go_wp2_with fail
  refine (HI.out _).mono ?_
  rintro e w5 ⟨A2, n2, c2, rfl, h2⟩
  have b2 := h2.len
  have b2' : n2 ≤ 1000000 := by omega
  clear b2
  have r0 : Reads w5 w1.heap.size 1 A0 n0 (zs.map (Value.int .i64)) := ((((h0.reads.below h1.ext).drewN m).grown hg h1.ext.size fun g hb => (h1.own.lt g hb).1).below (h2.ext.mono (Nat.le_trans h1.ext.size hg.size)))
  have r1 := Reads.of_own (own_below hm h2.ext)
  go_wp2_with fail
  refine (eqIntS_any A2 A0 n2 n0 c2 c0 _ _ zs zs _ h2.reads r0 (by unfold maxLen; omega) (by unfold maxLen; omega)).mono ?_
  rintro e w' ⟨rfl, m', rfl⟩
  go_wp2_with fail
  refine (heldIntS_any A1 n1 c1 _ 1 _ (r1.drewN m') (by omega) (by omega) (by omega)).mono ?_
  rintro e w' ⟨rfl, rfl⟩
  go_wp2_with fail
  go_ret
  exact ⟨rfl, ext_drewN (ext_trans (ext_grown (ext_drewN (ext_trans h0.ext h1.ext) m) hg fun g hb => Nat.le_trans h0.ext.size (h1.own.lt g hb).1) h2.ext) m'⟩
end Go.Proofs.Yteibpconehgnbaa
