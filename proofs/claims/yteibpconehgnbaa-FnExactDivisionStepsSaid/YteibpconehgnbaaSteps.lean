/- Chapter 10: the steps of a division. No condition. -/
import Derived.Test.YteibpconehgnbaaDigits
import Derived.Test.YteibpconehgnbaaQuo
import Derived.Test.YteibpconehgnbaaA3
import Derived.Test.YteibpconehgnbaaPow
namespace Go.Proofs.Yteibpconehgnbaa
open Go.RowKit

/-- The first k steps, and the rest behind them. -/
def stepsAt (b : Int) (ds : List Int) : Nat → List Int × Int
  | 0 => ([], 0)
  | k + 1 => ((stepsAt b ds k).1 ++ [10 * (stepsAt b ds k).2 + ds.getD k 0, (10 * (stepsAt b ds k).2 + ds.getD k 0) / b, (10 * (stepsAt b ds k).2 + ds.getD k 0) % b], (10 * (stepsAt b ds k).2 + ds.getD k 0) % b)
theorem stepsAt_succ {b : Int} {ds : List Int} {k : Nat} {z : Int} (hz : ds[k]? = some z) {r : Int} (hr : (stepsAt b ds k).2 = r) :
    stepsAt b ds (k + 1) = ((stepsAt b ds k).1 ++ [10 * r + z, (10 * r + z) / b, (10 * r + z) % b], (10 * r + z) % b) := by
  have : ds.getD k 0 = z := by simp [List.getD, hz]
  simp only [stepsAt, this, hr]
theorem stepsAt_rest {b : Int} (hb : 1 ≤ b) (ds : List Int) : ∀ k, 0 ≤ (stepsAt b ds k).2 ∧ (stepsAt b ds k).2 < b
  | 0 => by simp [stepsAt]; omega
  | k + 1 => ⟨Int.emod_nonneg _ (by omega), Int.emod_lt_of_pos _ (by omega)⟩
theorem stepsAt_len (b : Int) (ds : List Int) : ∀ k, (stepsAt b ds k).1.length = k * 3
  | 0 => rfl
  | k + 1 => by simp [stepsAt, stepsAt_len b ds k]; omega
/-- All steps of a division. -/
def stepsOf (a b : Int) : List Int := (stepsAt b (digs 10 a.toNat) (digs 10 a.toNat).length).1
theorem digs8 {a : Int} (h0 : 0 ≤ a) (h : a ≤ 99999999) : (digs 10 a.toNat).length ≤ 8 := digs_len (by omega) 8 _ (by omega)
theorem stepsOf_len {a b : Int} (h0 : 0 ≤ a) (h : a ≤ 99999999) : (stepsOf a b).length ≤ 24 := by
  have := digs8 h0 h
  unfold stepsOf
  rw [stepsAt_len]; omega
theorem digs_get {n k : Nat} {z : Int} (h : (digs 10 n)[k]? = some z) : 0 ≤ z ∧ z ≤ 9 := by
  have := digs_bd (b := 10) (by omega) n z (List.mem_of_getElem? h)
  omega

set_option maxHeartbeats 1000000 in
theorem divisionSteps_any (a b : Int) (ha : 0 ≤ a) (ha' : a ≤ 99999999) (hb : 1 ≤ b) (hb' : b ≤ 9999) (w : World) :
    Calls Try.prog 46 #[.int .i64 a, .int .i64 b] w (GivesS 54 3 (stepsOf a b) w) := by
  obtain ⟨m, rfl⟩ := Int.eq_ofNat_of_zero_le ha
  have hd8 := digs8 ha ha'
  have hso : stepsOf (m : Int) b = (stepsAt b (digs 10 m) (digs 10 m).length).1 := rfl
  rw [Int.toNat_natCast] at hd8
  have hbz : (b == 0) = false := by simp; omega
  have hdig := digitsOf_any m (by omega)
  have hget : ∀ (k : Nat) (z : Int), (digs 10 m)[k]? = some z → 0 ≤ z ∧ z ≤ 9 := fun k z h => digs_get h
  generalize digs 10 m = ds at *
  have HDIG := Lib.hid hdig
  have HGET := Lib.hid hget
  have HSO := Lib.hid hso
  clear hdig hget hso
  go_enter Try.func46, Try.ntmps46
  go_wp2_with fail
  refine (HDIG.out _).mono ?_
  rintro e w1 ⟨A, n, c, rfl, h1⟩
  have hn : n ≤ 8 := by have := h1.len; omega
  go_wp2_with fail
  go_loopw [5, 6, 12] (fun v r i wr => ∃ (k : Nat) (A' : Option Addr) (m' c' : Nat), i = .int .i64 k ∧ k ≤ n ∧ r = .int .i64 (stepsAt b ds k).2 ∧ v = .slice A' m' c' ∧ Acc w1 wr 54 3 A' m' c' (stepsAt b ds k).1) (fun _ _ i _ => n - (intOf i).toNat)
  case atStart => exact ⟨0, _, _, _, rfl, by omega, rfl, rfl, Acc.nil (Below.refl _ _)⟩
  case round =>
    obtain ⟨k, A', m', c', rfl, hk, rfl, rfl, hacc⟩ := hrel
    obtain rfl : k = m' := by have h1 := hacc.len; have h2 := stepsAt_len b ds k; omega
    obtain ⟨r1, r2⟩ := stepsAt_rest hb ds k
    by_cases hlt : k < n
    · obtain ⟨g, o, z, rfl, hz, hcell⟩ := (h1.reads.below hacc.ext).int hlt
      obtain ⟨z1, z2⟩ := HGET.out k z hz
      have HR := Lib.hid (fun (r : Int) => @stepsAt_succ b ds k z hz r)
      clear hz
      generalize hr : (stepsAt b ds k).2 = r at *
      have HR' := Lib.hid (HR.out _ rfl)
      clear HR hr
      go_wp2_with fail
      have hb0 : ¬ b = 0 := by omega
      have q1 := wquo (x := 10 * r + z) (y := b) (by omega) (by omega) hb
      have q2 := wrem (x := 10 * r + z) (y := b) (by omega)
      go_region_law (refine app3_step rfl _ _ rfl rfl (by first | exact (hacc.alloc _).drew | exact hacc.drew.alloc _) rfl (by first | exact (reads_new _ _ _ 3 [10 * r + z, (10 * r + z) / b, (10 * r + z) % b] rfl rfl).drew | exact reads_new _ _ _ 3 [10 * r + z, (10 * r + z) / b, (10 * r + z) % b] rfl rfl) (by omega) ?_; intro A2 c2 w2 hacc2 _)
      clear hb0 q1 q2
      go_wp2_with fail
      go_roundw
      case rel => exact ⟨k + 1, _, _, _, by go_num, by omega, by rw [HR'.out], rfl, by rw [HR'.out]; exact hacc2⟩
      case measure => simp [intOf]; omega
    · have hk' : k = n := by omega
      subst hk'
      go_wp2
      go_ret
      refine ⟨A', k, c', rfl, ?_⟩
      have hl : ds.length = k := by simpa using h1.len
      rw [HSO.out, hl]
      exact hacc.since h1.ext
set_option maxHeartbeats 1000000 in
theorem l10Steps_any (a b : Int) (ha : 0 ≤ a) (ha' : a ≤ 99999999) (hb : 1 ≤ b) (hb' : b ≤ 9999) (w : World) :
    Calls Try.prog 45 #[.int .i64 a, .int .i64 b] w (GivesS 54 3 (stepsOf a b) w) := by
  obtain ⟨m, rfl⟩ := Int.eq_ofNat_of_zero_le ha
  have hd8 := digs8 ha ha'
  have hso : stepsOf (m : Int) b = (stepsAt b (digs 10 m) (digs 10 m).length).1 := rfl
  rw [Int.toNat_natCast] at hd8
  have hbz : (b == 0) = false := by simp; omega
  have hdig := l9Digits_any m (by omega)
  have hget : ∀ (k : Nat) (z : Int), (digs 10 m)[k]? = some z → 0 ≤ z ∧ z ≤ 9 := fun k z h => digs_get h
  generalize digs 10 m = ds at *
  have HDIG := Lib.hid hdig
  have HGET := Lib.hid hget
  have HSO := Lib.hid hso
  clear hdig hget hso
  go_enter Try.func45, Try.ntmps45
  go_wp2_with fail
  refine (HDIG.out _).mono ?_
  rintro e w1 ⟨A, n, c, rfl, h1⟩
  have hn : n ≤ 8 := by have := h1.len; omega
  go_wp2_with fail
  go_loopw [6, 7, 8] (fun v r i wr => ∃ (k : Nat) (A' : Option Addr) (m' c' : Nat), i = .int .i64 k ∧ k ≤ n ∧ r = .int .i64 (stepsAt b ds k).2 ∧ v = .slice A' m' c' ∧ Acc w1 wr 54 3 A' m' c' (stepsAt b ds k).1) (fun _ _ i _ => n - (intOf i).toNat)
  case atStart => exact ⟨0, _, _, _, rfl, by omega, rfl, rfl, Acc.empty (Below.refl _ _)⟩
  case round =>
    obtain ⟨k, A', m', c', rfl, hk, rfl, rfl, hacc⟩ := hrel
    obtain rfl : k = m' := by have h1 := hacc.len; have h2 := stepsAt_len b ds k; omega
    obtain ⟨r1, r2⟩ := stepsAt_rest hb ds k
    by_cases hlt : k < n
    · obtain ⟨g, o, z, rfl, hz, hcell⟩ := (h1.reads.below hacc.ext).int hlt
      obtain ⟨z1, z2⟩ := HGET.out k z hz
      have HR := Lib.hid (fun (r : Int) => @stepsAt_succ b ds k z hz r)
      clear hz
      generalize hr : (stepsAt b ds k).2 = r at *
      have HR' := Lib.hid (HR.out _ rfl)
      clear HR hr
      go_wp2_with (at_builtin; refine app3 rfl _ _ rfl rfl (hacc.alloc _) rfl (reads_new _ _ _ 3 [10 * r + z, (10 * r + z) / b, (10 * r + z) % b] rfl rfl) (by omega) ?_; intro A2 c2 w2 hacc2 _)
      go_roundw
      case rel => exact ⟨k + 1, _, _, _, by go_num, by omega, by rw [HR'.out], rfl, by rw [HR'.out]; exact hacc2⟩
      case measure => simp [intOf]; omega
    · have hk' : k = n := by omega
      subst hk'
      go_wp2
      go_ret
      refine ⟨A', k, c', rfl, ?_⟩
      have hl : ds.length = k := by simpa using h1.len
      rw [HSO.out, hl]
      exact hacc.since h1.ext
/-- What DivisionSteps gives. -/
def dsteps (a b : Int) : List Int := if divV a b = true then stepsOf a b else []
theorem dsteps_len (a b : Int) : (dsteps a b).length ≤ 24 := by
  unfold dsteps
  split
  · next h => obtain ⟨h1, h2, _⟩ := divV_true h; exact stepsOf_len h1 h2
  · simp
set_option maxHeartbeats 400000 in
theorem sDivisionSteps_any (a b : Int) (w : World) :
    Calls Try.prog 25 #[.int .i64 a, .int .i64 b] w (Gives 54 3 (dsteps a b) (divV a b) w) := by
  by_cases h : divV a b = true
  · obtain ⟨a1, a2, b1, b2⟩ := divV_true h
    have hd : dsteps a b = stepsOf a b := by simp only [dsteps, if_pos h]
    have HD := Lib.hid hd
    clear hd
    go_enter Try.func25, Try.ntmps25
    go_wp2_with (first | (go_at_call 39; refine (l10Asked_v _ _ _).mono ?_; rintro e w' ⟨rfl, rfl⟩) | (go_at_call 45; refine (l10Steps_any _ _ a1 a2 b1 b2 _).mono ?_; rintro e w' ⟨A, n, c, rfl, hacc⟩))
    go_ret2
    exact ⟨A, n, c, by rw [h]; rfl, by rw [HD.out]; exact hacc⟩
  · go_enter Try.func25, Try.ntmps25
    go_wp2_with (go_at_call 39; refine (l10Asked_v _ _ _).mono ?_; rintro e w' ⟨rfl, rfl⟩)
    go_ret2
    exact ⟨_, _, _, by rw [Bool.eq_false_iff.2 h]; rfl, by simp only [dsteps, if_neg h]; exact Acc.empty (Below.refl _ _)⟩
set_option maxHeartbeats 400000 in
theorem iDivisionSteps_any (a b : Int) (w : World) :
    Calls Try.prog 26 #[.int .i64 a, .int .i64 b] w (Gives 54 3 (dsteps a b) (divV a b) w) := by
  by_cases h : divV a b = true
  · obtain ⟨a1, a2, b1, b2⟩ := divV_true h
    have hd : dsteps a b = stepsOf a b := by simp only [dsteps, if_pos h]
    have HD := Lib.hid hd
    clear hd
    go_enter Try.func26, Try.ntmps26
    go_wp2_with (first | (go_at_call 41; refine (isDivision_v _ _ _).mono ?_; rintro e w' ⟨rfl, rfl⟩) | (go_at_call 46; refine (divisionSteps_any _ _ a1 a2 b1 b2 _).mono ?_; rintro e w' ⟨A, n, c, rfl, hacc⟩))
    go_ret2
    exact ⟨A, n, c, by rw [h]; rfl, by rw [HD.out]; exact hacc⟩
  · go_enter Try.func26, Try.ntmps26
    go_wp2_with (go_at_call 41; refine (isDivision_v _ _ _).mono ?_; rintro e w' ⟨rfl, rfl⟩)
    go_ret2
    exact ⟨_, _, _, by rw [Bool.eq_false_iff.2 h]; rfl, by simp only [dsteps, if_neg h]; exact Acc.nil (Below.refl _ _)⟩
set_option maxHeartbeats 1000000 in
theorem FnExactDivisionSteps_any (a : Int) (_ : (Lit.int .i64 a).wf = true) (b : Int) (_ : (Lit.int .i64 b).wf = true) (w : World) :
    Calls Try.prog 8 #[.int .i64 a, .int .i64 b] w fun e w' => e = .returned (.bool true) ∧ Below w.heap.size w w' := by
  have hbd : (dsteps a b).length ≤ 1000000 := Nat.le_trans (dsteps_len a b) (by omega)
  have hs := sDivisionSteps_any a b
  have hi := iDivisionSteps_any a b
  generalize dsteps a b = zs at hs hi hbd
  generalize divV a b = ok at hs hi
  have HS := Lib.hid hs
  have HI := Lib.hid hi
  have he := eqB_self zs
  clear hs hi
  go_enter Try.func8, Try.ntmps8
  go_wp2_with fail
  refine (HS.out _).mono ?_
  rintro e w1 ⟨A0, n0, c0, rfl, h0⟩
  go_wp2_with fail
  refine (HI.out _).mono ?_
  rintro e w2 ⟨A1, n1, c1, rfl, h1⟩
  have b0 := h0.len
  have b1 := h1.len
  have b1' : n1 ≤ 1000000 := by omega
  have b0' : n0 ≤ 1000000 := by omega
  clear b0 b1
  go_wp2_with fail
  refine (eqIntA3S_any A1 A0 n1 n0 c1 c0 _ _ zs zs _ h1.reads (h0.reads.below h1.ext) (Nat.le_refl _) h1.ext.size (by unfold maxLen; omega) (by unfold maxLen; omega)).mono ?_
  rintro e w3 ⟨rfl, hb3⟩
  go_wp2_with fail
  refine (markIntA3S_any A1 n1 c1 w1.heap.size zs 1 _ (h1.later hb3).own (by omega) (by omega) (by omega)).mono ?_
  rintro e w4 ⟨rfl, hm, hg⟩
  go_wp2_with fail
  refine (heldIntA3S_any A1 n1 c1 _ 1 _ (Reads.of_own hm) (by omega) (by omega) (by omega)).mono ?_
  rintro e w' ⟨rfl, rfl⟩
  go_wp2_with fail
  refine (HI.out _).mono ?_
  rintro e w5 ⟨A2, n2, c2, rfl, h2⟩
  have b2 := h2.len
  have b2' : n2 ≤ 1000000 := by omega
  clear b2
  have z14 : w1.heap.size ≤ w4.heap.size := Nat.le_trans (Nat.le_trans h1.ext.size hb3.size) hg.size
  have r0 : Reads w5 w1.heap.size 3 A0 n0 (zs.map (Value.int .i64)) := ((((h0.reads.below h1.ext).below (hb3.mono h1.ext.size)).grown hg (Nat.le_trans h1.ext.size hb3.size) fun g hb => (h1.own.lt g hb).1).below (h2.ext.mono z14))
  have r1 := own_below hm h2.ext
  go_wp2_with fail
  refine (eqIntA3S_any A2 A0 n2 n0 c2 c0 _ _ zs zs _ h2.reads r0 (Nat.le_refl _) (Nat.le_trans z14 h2.ext.size) (by unfold maxLen; omega) (by unfold maxLen; omega)).mono ?_
  rintro e w6 ⟨rfl, hb6⟩
  go_wp2_with fail
  refine (heldIntA3S_any A1 n1 c1 _ 1 _ (Reads.of_own (own_below r1 hb6)) (by omega) (by omega) (by omega)).mono ?_
  rintro e w' ⟨rfl, rfl⟩
  go_wp2_with fail
  go_ret
  exact ⟨rfl, ext_trans (ext_trans (ext_grown (ext_trans (ext_trans h0.ext h1.ext) hb3) hg fun g hb => Nat.le_trans h0.ext.size (h1.own.lt g hb).1) h2.ext) hb6⟩
end Go.Proofs.Yteibpconehgnbaa
