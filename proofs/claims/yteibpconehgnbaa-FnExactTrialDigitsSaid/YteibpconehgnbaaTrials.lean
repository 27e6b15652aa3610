/- Chapter 10: trial digits and corrections. No condition. -/
import Derived.Test.YteibpconehgnbaaSteps
namespace Go.Proofs.Yteibpconehgnbaa
open Go.RowKit

theorem digs_ge {n : Nat} (hn : 0 < n) : 0 < (digs 10 n).length ∧ pow10 ((digs 10 n).length - 1) ≤ (n : Int) := by
  induction n using Nat.strongRecOn with
  | ind n ih =>
    rw [digs_step (by omega) hn]
    refine ⟨by simp, ?_⟩
    simp only [List.length_append, List.length_cons, List.length_nil, Nat.zero_add, Nat.add_sub_cancel]
    rcases Nat.eq_zero_or_pos (n / 10) with h0 | h0
    · rw [h0, digs_zero]; simp [pow10_zero]; omega
    · obtain ⟨h1, h2⟩ := ih (n / 10) (by omega) h0
      obtain ⟨l, hl⟩ : ∃ l, (digs 10 (n / 10)).length = l + 1 := ⟨_, (Nat.succ_pred_eq_of_pos h1).symm⟩
      rw [hl] at h2 ⊢
      rw [pow10_succ]
      simp at h2
      omega
/-- What a step's first number is worth: between 0 and 99999. -/
theorem stepsAt_first {b : Int} (hb : 1 ≤ b) (hb' : b ≤ 9999) {ds : List Int} (hd : ∀ (k : Nat) (z : Int), ds[k]? = some z → 0 ≤ z ∧ z ≤ 9) :
    ∀ n, n ≤ ds.length → ∀ z ∈ (stepsAt b ds n).1, 0 ≤ z ∧ z ≤ 99999
  | 0, _ => by simp [stepsAt]
  | n + 1, hn => by
    have ih := stepsAt_first hb hb' hd n (by omega)
    have hz : ds[n]? = some (ds[n]'(by omega)) := List.getElem?_eq_getElem (by omega)
    obtain ⟨z1, z2⟩ := hd n _ hz
    obtain ⟨r1, r2⟩ := stepsAt_rest hb ds n
    rw [stepsAt_succ hz rfl]
    generalize ds[n]'(by omega) = z at *
    generalize (stepsAt b ds n).2 = r at *
    intro y hy
    rcases List.mem_append.1 hy with hy | hy
    · exact ih y hy
    · have h0 : 0 ≤ 10 * r + z := by omega
      have q1 := Int.ediv_nonneg h0 (show 0 ≤ b by omega)
      have q2 := Int.ediv_le_self b h0
      have q3 := Int.emod_nonneg (10 * r + z) (show b ≠ 0 by omega)
      have q4 := Int.emod_lt_of_pos (10 * r + z) (show 0 < b by omega)
      simp at hy
      rcases hy with rfl | rfl | rfl <;> omega
theorem stepsOf_bd {a b : Int} (hb : 1 ≤ b) (hb' : b ≤ 9999) : ∀ z ∈ stepsOf a b, 0 ≤ z ∧ z ≤ 99999 :=
  stepsAt_first hb hb' (fun _ _ h => digs_get h) _ (Nat.le_refl _)

/-- The first k trial digits: m is the worth of the divisor's first digit. -/
def trialAt (m b : Int) (ss : List Int) : Nat → List Int
  | 0 => []
  | k + 1 => trialAt m b ss k ++ [min 9 (ss.getD (k * 3) 0 / m / (b / m))]
theorem trialAt_len (m b : Int) (ss : List Int) : ∀ k, (trialAt m b ss k).length = k
  | 0 => rfl
  | k + 1 => by simp [trialAt, trialAt_len m b ss k]
theorem trialAt_succ {m b : Int} {ss : List Int} {k : Nat} {z : Int} (hz : ss[k * 3]? = some z) : trialAt m b ss (k + 1) = trialAt m b ss k ++ [min 9 (z / m / (b / m))] := by
  have : ss.getD (k * 3) 0 = z := by simp [List.getD, hz]
  simp only [trialAt, this]
theorem min9 (x : Int) : min 9 x = if x < 9 then x else 9 := by split <;> omega
theorem trialAt_succ' {m b : Int} {ss : List Int} {k : Nat} {z : Int} (hz : ss[k * 3]? = some z) : trialAt m b ss (k + 1) = trialAt m b ss k ++ [if z / m / (b / m) < 9 then z / m / (b / m) else 9] := by
  rw [trialAt_succ hz, min9]
/-- The worth of a number's first digit. -/
def firstWorth (b : Int) : Int := pow10 ((digs 10 b.toNat).length - 1)
theorem firstWorth_bd {b : Int} (hb : 1 ≤ b) : 1 ≤ firstWorth b ∧ firstWorth b ≤ b := by
  have := (digs_ge (n := b.toNat) (by omega)).2
  rw [Int.toNat_of_nonneg (by omega)] at this
  exact ⟨pow10_pos _, this⟩
/-- All trial digits of a division. -/
def trials (a b : Int) : List Int := trialAt (firstWorth b) b (stepsOf a b) (digs 10 a.toNat).length
theorem stepsOf_length (a b : Int) : (stepsOf a b).length = (digs 10 a.toNat).length * 3 := by unfold stepsOf; rw [stepsAt_len]
theorem trials_len (a b : Int) : (trials a b).length = (digs 10 a.toNat).length := trialAt_len _ _ _ _

set_option maxHeartbeats 2000000 in
theorem trialDigits_any (a b : Int) (ha : 0 ≤ a) (ha' : a ≤ 99999999) (hb : 1 ≤ b) (hb' : b ≤ 9999) (w : World) :
    Calls Try.prog 50 #[.int .i64 a, .int .i64 b] w (GivesS 3 1 (trials a b) w) := by
  obtain ⟨B, rfl⟩ := Int.eq_ofNat_of_zero_le (show 0 ≤ b by omega)
  have hdig := digitsOf_any B (by omega)
  have hsteps := divisionSteps_any a (B : Int) ha ha' hb hb'
  have hsb := stepsOf_bd (a := a) hb hb'
  have hsl := stepsOf_length a (B : Int)
  have h8 := digs8 ha ha'
  obtain ⟨hlp, -⟩ := digs_ge (n := B) (by omega)
  have hl4 : (digs 10 B).length ≤ 4 := digs_len (by omega) 4 _ (by omega)
  have hfw := firstWorth_bd hb
  have hpow : pow10 ((digs 10 B).length - 1) = firstWorth (B : Int) := by simp [firstWorth]
  have htr : trials a (B : Int) = trialAt (firstWorth (B : Int)) (B : Int) (stepsOf a (B : Int)) (digs 10 a.toNat).length := rfl
  generalize stepsOf a (B : Int) = ss at *
  generalize firstWorth (B : Int) = m at *
  generalize (digs 10 a.toNat).length = L at *
  have HDIG := Lib.hid hdig
  have HSTEPS := Lib.hid hsteps
  have HSB := Lib.hid hsb
  have HSL := Lib.hid hsl
  have HPOW := Lib.hid hpow
  have HTR := Lib.hid htr
  clear hdig hsteps hsb hsl hpow htr
  obtain ⟨m1, m2⟩ := hfw
  go_enter Try.func50, Try.ntmps50
  go_wp2_with fail
  refine (HDIG.out _).mono ?_
  rintro e w1 ⟨A, n, c, rfl, h1⟩
  have hn := h1.len
  have hn1 : 1 ≤ n := by omega
  have hn4 : n ≤ 4 := by omega
  have HN := Lib.hid hn
  clear hn
  go_wp2_with fail
  refine (power_any _ (by omega) _).mono ?_
  rintro e w' ⟨rfl, rfl⟩
  have hpn : pow10 ((n : Int) - 1).toNat = m := by
    rw [← HPOW.out, HN.out]; congr 1; omega
  rw [hpn]
  clear hpn
  go_wp2_with fail
  refine (HSTEPS.out _).mono ?_
  rintro e w2 ⟨A2, n2, c2, rfl, h2⟩
  have hn2 : n2 = L := by have h3 := h2.len; have h4 := HSL.out; omega
  obtain rfl : L = n2 := hn2.symm
  clear hn2
  have h12 := ext_trans h1.ext h2.ext
  clear h1
  have hd0 : 1 ≤ (B : Int) / m := by
    rw [Int.le_ediv_iff_mul_le (by omega)]; omega
  go_wp2_with fail
  go_loopw [6, 18] (fun v i wr => ∃ (k : Nat) (A' : Option Addr) (m' c' : Nat), i = .int .i64 k ∧ k ≤ L ∧ v = .slice A' m' c' ∧ Acc w2 wr 3 1 A' m' c' (trialAt m (B : Int) ss k)) (fun _ i _ => L - (intOf i).toNat)
  case atStart => exact ⟨0, _, _, _, rfl, by omega, rfl, Acc.nil (Below.refl _ _)⟩
  case round =>
    obtain ⟨k, A', m', c', rfl, hk, rfl, hacc⟩ := hrel
    obtain rfl : k = m' := by have h1 := hacc.len; have h2 := trialAt_len m (B : Int) ss k; omega
    by_cases hlt : k < L
    · obtain ⟨g, o, rfl, hr⟩ := (h2.reads.below hacc.ext).row hlt (by omega)
      obtain ⟨z0, hz0, hc0⟩ := hr 0 (by omega)
      obtain ⟨z1, hz1, hc1⟩ := hr 1 (by omega)
      obtain ⟨z2, hz2, hc2⟩ := hr 2 (by omega)
      clear hr hz1 hz2
      simp only [Nat.add_zero, ← Nat.add_assoc] at hz0 hc0 hc1 hc2
      obtain ⟨b1, b2⟩ := HSB.out z0 (List.mem_of_getElem? hz0)
      have HR := Lib.hid (trialAt_succ' (m := m) (b := (B : Int)) hz0)
      clear hz0
      go_wp2_with fail
      have hm0 : ¬ m = 0 := by omega
      have hd1 : ¬ (B : Int) / m = 0 := by omega
      have hzm : 0 ≤ z0 / m ∧ z0 / m ≤ 99999 := ⟨Int.ediv_nonneg b1 (by omega), Int.le_trans (Int.ediv_le_self m b1) b2⟩
      have q1 := wquo (x := z0) (y := m) (by omega) (by omega) m1
      have q2 := wedi (x := (B : Int)) (y := m) (by omega) (by omega) m1
      have q3 := wquo (x := z0 / m) (y := (B : Int) / m) (by omega) (by omega) hd0
      go_region_law (refine appI_step rfl _ _ rfl rfl ((hacc.alloc _).alloc _).drew rfl (reads_newAt _ _ _ 1 [if z0 / m / ((B : Int) / m) < 9 then z0 / m / ((B : Int) / m) else 9] _ (by simp) rfl rfl).drew (by omega) ?_; intro A2 c2 w2 hacc2 _)
      clear hm0 hd1 q1 q2 q3
      go_wp2_with fail
      go_roundw
      case rel => exact ⟨k + 1, _, _, _, by go_num, by omega, rfl, by rw [HR.out]; exact hacc2⟩
      case measure => simp [intOf]; omega
    · have hk' : k = L := by omega
      subst hk'
      go_wp2
      go_ret
      exact ⟨A', k, c', rfl, by rw [HTR.out]; exact hacc.since h12⟩
set_option maxHeartbeats 2000000 in
theorem l10Trials_any (a b : Int) (ha : 0 ≤ a) (ha' : a ≤ 99999999) (hb : 1 ≤ b) (hb' : b ≤ 9999) (w : World) :
    Calls Try.prog 48 #[.int .i64 a, .int .i64 b] w (GivesS 3 1 (trials a b) w) := by
  obtain ⟨B, rfl⟩ := Int.eq_ofNat_of_zero_le (show 0 ≤ b by omega)
  have hdig := l9Digits_any B (by omega)
  have hsteps := l10Steps_any a (B : Int) ha ha' hb hb'
  have hsb := stepsOf_bd (a := a) hb hb'
  have hsl := stepsOf_length a (B : Int)
  have h8 := digs8 ha ha'
  obtain ⟨hlp, -⟩ := digs_ge (n := B) (by omega)
  have hl4 : (digs 10 B).length ≤ 4 := digs_len (by omega) 4 _ (by omega)
  have hfw := firstWorth_bd hb
  have hpow : pow10 ((digs 10 B).length - 1) = firstWorth (B : Int) := by simp [firstWorth]
  have htr : trials a (B : Int) = trialAt (firstWorth (B : Int)) (B : Int) (stepsOf a (B : Int)) (digs 10 a.toNat).length := rfl
  generalize stepsOf a (B : Int) = ss at *
  generalize firstWorth (B : Int) = m at *
  generalize (digs 10 a.toNat).length = L at *
  have HDIG := Lib.hid hdig
  have HSTEPS := Lib.hid hsteps
  have HSB := Lib.hid hsb
  have HSL := Lib.hid hsl
  have HPOW := Lib.hid hpow
  have HTR := Lib.hid htr
  clear hdig hsteps hsb hsl hpow htr
  obtain ⟨m1, m2⟩ := hfw
  go_enter Try.func48, Try.ntmps48
  go_wp2_with fail
  refine (HSTEPS.out _).mono ?_
  rintro e w2 ⟨A2, n2, c2, rfl, h2⟩
  have hn2 : n2 = L := by have h3 := h2.len; have h4 := HSL.out; omega
  obtain rfl : L = n2 := hn2.symm
  clear hn2
  go_wp2_with fail
  refine (HDIG.out _).mono ?_
  rintro e w1 ⟨A, n, c, rfl, h1⟩
  have hn := h1.len
  have hn1 : 1 ≤ n := by omega
  have hn4 : n ≤ 4 := by omega
  have HN := Lib.hid hn
  clear hn
  go_wp2_with fail
  refine (l2Power_any _ (by omega) _).mono ?_
  rintro e w' ⟨rfl, rfl⟩
  have hpn : pow10 ((n : Int) - 1).toNat = m := by
    rw [← HPOW.out, HN.out]; congr 1; omega
  rw [hpn]
  clear hpn
  have h0 := (Acc.empty (E := 3) (k := 1) (Below.refl w2.heap.size w2)).later h1.ext
  clear h1
  have hd0 : 1 ≤ (B : Int) / m := by
    rw [Int.le_ediv_iff_mul_le (by omega)]; omega
  go_wp2_with fail
  go_loopw [6, 8] (fun v i wr => ∃ (k : Nat) (A' : Option Addr) (m' c' : Nat), i = .int .i64 k ∧ k ≤ L ∧ v = .slice A' m' c' ∧ Acc w2 wr 3 1 A' m' c' (trialAt m (B : Int) ss k)) (fun _ i _ => L - (intOf i).toNat)
  case atStart => exact ⟨0, _, _, _, rfl, by omega, rfl, h0⟩
  case round =>
    obtain ⟨k, A', m', c', rfl, hk, rfl, hacc⟩ := hrel
    obtain rfl : k = m' := by have h1 := hacc.len; have h2 := trialAt_len m (B : Int) ss k; omega
    by_cases hlt : k < L
    · obtain ⟨g, o, rfl, hr⟩ := (h2.reads.below hacc.ext).row hlt (by omega)
      obtain ⟨z0, hz0, hc0⟩ := hr 0 (by omega)
      obtain ⟨z1, hz1, hc1⟩ := hr 1 (by omega)
      obtain ⟨z2, hz2, hc2⟩ := hr 2 (by omega)
      clear hr hz1 hz2
      simp only [Nat.add_zero, ← Nat.add_assoc] at hz0 hc0 hc1 hc2
      obtain ⟨b1, b2⟩ := HSB.out z0 (List.mem_of_getElem? hz0)
      have HR := Lib.hid (trialAt_succ (m := m) (b := (B : Int)) hz0)
      clear hz0
      go_wp2_with fail
      have hm0 : ¬ m = 0 := by omega
      have hd1 : ¬ (B : Int) / m = 0 := by omega
      have hzm : 0 ≤ z0 / m ∧ z0 / m ≤ 99999 := ⟨Int.ediv_nonneg b1 (by omega), Int.le_trans (Int.ediv_le_self m b1) b2⟩
      have q1 := wquo (x := z0) (y := m) (by omega) (by omega) m1
      have q2 := wedi (x := (B : Int)) (y := m) (by omega) (by omega) m1
      have q3 := wquo (x := z0 / m) (y := (B : Int) / m) (by omega) (by omega) hd0
      go_region_law (first | (refine appI_step rfl _ _ rfl rfl (hacc.alloc _).drew rfl (reads_newAt _ _ _ 1 [min 9 (z0 / m / ((B : Int) / m))] _ (by simp) rfl rfl).drew (by omega) ?_; intro A2 c2 w2 hacc2 _) | (go_simp; go_at_call 58; refine (l1Least_any _ _ _).mono ?_; rintro e w' ⟨rfl, rfl⟩; dsimp only))
      clear hm0 hd1 q1 q2 q3
      go_wp2_with fail
      go_roundw
      case rel => exact ⟨k + 1, _, _, _, by go_num, by omega, rfl, by rw [HR.out]; exact hacc2⟩
      case measure => simp [intOf]; omega
    · have hk' : k = L := by omega
      subst hk'
      go_wp2
      go_ret
      exact ⟨A', k, c', rfl, by rw [HTR.out]; exact hacc.since h2.ext⟩
/-- What TrialDigits gives. -/
def ttrials (a b : Int) : List Int := if divV a b = true then trials a b else []
theorem ttrials_len (a b : Int) : (ttrials a b).length ≤ 8 := by
  unfold ttrials
  split
  · next h => obtain ⟨h1, h2, _⟩ := divV_true h; rw [trials_len]; exact digs8 h1 h2
  · simp
set_option maxHeartbeats 400000 in
theorem sTrialDigits_any (a b : Int) (w : World) :
    Calls Try.prog 32 #[.int .i64 a, .int .i64 b] w (Gives 3 1 (ttrials a b) (divV a b) w) := by
  by_cases h : divV a b = true
  · obtain ⟨a1, a2, b1, b2⟩ := divV_true h
    have hd : ttrials a b = trials a b := by simp only [ttrials, if_pos h]
    have HD := Lib.hid hd
    clear hd
    go_enter Try.func32, Try.ntmps32
    go_wp2_with (first | (go_at_call 39; refine (l10Asked_v _ _ _).mono ?_; rintro e w' ⟨rfl, rfl⟩) | (go_at_call 48; refine (l10Trials_any _ _ a1 a2 b1 b2 _).mono ?_; rintro e w' ⟨A, n, c, rfl, hacc⟩))
    go_ret2
    exact ⟨A, n, c, by rw [h]; rfl, by rw [HD.out]; exact hacc⟩
  · go_enter Try.func32, Try.ntmps32
    go_wp2_with (go_at_call 39; refine (l10Asked_v _ _ _).mono ?_; rintro e w' ⟨rfl, rfl⟩)
    go_ret2
    exact ⟨_, _, _, by rw [Bool.eq_false_iff.2 h]; rfl, by simp only [ttrials, if_neg h]; exact Acc.empty (Below.refl _ _)⟩
set_option maxHeartbeats 400000 in
theorem iTrialDigits_any (a b : Int) (w : World) :
    Calls Try.prog 33 #[.int .i64 a, .int .i64 b] w (Gives 3 1 (ttrials a b) (divV a b) w) := by
  by_cases h : divV a b = true
  · obtain ⟨a1, a2, b1, b2⟩ := divV_true h
    have hd : ttrials a b = trials a b := by simp only [ttrials, if_pos h]
    have HD := Lib.hid hd
    clear hd
    go_enter Try.func33, Try.ntmps33
    go_wp2_with (first | (go_at_call 41; refine (isDivision_v _ _ _).mono ?_; rintro e w' ⟨rfl, rfl⟩) | (go_at_call 50; refine (trialDigits_any _ _ a1 a2 b1 b2 _).mono ?_; rintro e w' ⟨A, n, c, rfl, hacc⟩))
    go_ret2
    exact ⟨A, n, c, by rw [h]; rfl, by rw [HD.out]; exact hacc⟩
  · go_enter Try.func33, Try.ntmps33
    go_wp2_with (go_at_call 41; refine (isDivision_v _ _ _).mono ?_; rintro e w' ⟨rfl, rfl⟩)
    go_ret2
    exact ⟨_, _, _, by rw [Bool.eq_false_iff.2 h]; rfl, by simp only [ttrials, if_neg h]; exact Acc.nil (Below.refl _ _)⟩
set_option maxHeartbeats 1000000 in
theorem FnExactTrialDigits_any (a : Int) (_ : (Lit.int .i64 a).wf = true) (b : Int) (_ : (Lit.int .i64 b).wf = true) (w : World) :
    Calls Try.prog 10 #[.int .i64 a, .int .i64 b] w fun e w' => e = .returned (.bool true) ∧ Below w.heap.size w w' := by
  have hbd : (ttrials a b).length ≤ 1000000 := Nat.le_trans (ttrials_len a b) (by omega)
  have hs := sTrialDigits_any a b
  have hi := iTrialDigits_any a b
  generalize ttrials a b = zs at hs hi hbd
  generalize divV a b = ok at hs hi
  have HS := Lib.hid hs
  have HI := Lib.hid hi
  have he := eqB_self zs
  clear hs hi
  go_enter Try.func10, Try.ntmps10
  go_wp2_with fail
  refine (HS.out _).mono ?_
  rintro e w1 ⟨A0, n0, c0, rfl, h0⟩
  go_wp2_with fail
  refine (HI.out _).mono ?_
  rintro e w2 ⟨A1, n1, c1, rfl, h1⟩
  have b0 := h0.len
  have b1 := h1.len
  have b1' : n1 ≤ 1000000 := by omega
  have b0' : n0 ≤ 1000000 := by omega
  clear b0 b1
  go_wp2_with fail
  refine (eqIntS_any A1 A0 n1 n0 c1 c0 _ _ zs zs _ h1.reads (h0.reads.below h1.ext) (by unfold maxLen; omega) (by unfold maxLen; omega)).mono ?_
  rintro e w' ⟨rfl, m, rfl⟩
  go_wp2_with fail
  refine (markIntS_any A1 n1 c1 w1.heap.size zs 1 _ (h1.drewN m).own (by omega) (by omega) (by omega)).mono ?_
  rintro e w4 ⟨rfl, hm, hg⟩
  go_wp2_with fail
  refine (heldIntS_any A1 n1 c1 _ 1 _ (Reads.of_own hm) (by omega) (by omega) (by omega)).mono ?_
  rintro e w' ⟨rfl, rfl⟩
  go_wp2_with fail
  refine (HI.out _).mono ?_
  rintro e w5 ⟨A2, n2, c2, rfl, h2⟩
  have b2 := h2.len
  have b2' : n2 ≤ 1000000 := by omega
  clear b2
  have r0 : Reads w5 w1.heap.size 1 A0 n0 (zs.map (Value.int .i64)) := ((((h0.reads.below h1.ext).drewN m).grown hg h1.ext.size fun g hb => (h1.own.lt g hb).1).below (h2.ext.mono (Nat.le_trans h1.ext.size hg.size)))
  have r1 := Reads.of_own (own_below hm h2.ext)
  go_wp2_with fail
  refine (eqIntS_any A2 A0 n2 n0 c2 c0 _ _ zs zs _ h2.reads r0 (by unfold maxLen; omega) (by unfold maxLen; omega)).mono ?_
  rintro e w' ⟨rfl, m', rfl⟩
  go_wp2_with fail
  refine (heldIntS_any A1 n1 c1 _ 1 _ (r1.drewN m') (by omega) (by omega) (by omega)).mono ?_
  rintro e w' ⟨rfl, rfl⟩
  go_wp2_with fail
  go_ret
  exact ⟨rfl, ext_drewN (ext_trans (ext_grown (ext_drewN (ext_trans h0.ext h1.ext) m) hg fun g hb => Nat.le_trans h0.ext.size (h1.own.lt g hb).1) h2.ext) m'⟩
end Go.Proofs.Yteibpconehgnbaa
