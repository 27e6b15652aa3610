/- Chapter 10: corrections. No condition. -/
import Derived.Test.YteibpconehgnbaaTrials
import Derived.Test.YteibpconehgnbaaSum
namespace Go.Proofs.Yteibpconehgnbaa
open Go.RowKit

/-- The sum of the first k digits of a quotient, out of the steps. -/
def qsum (ss : List Int) : Nat → Int
  | 0 => 0
  | k + 1 => qsum ss k + ss.getD (k * 3 + 1) 0
theorem qsum_succ {ss : List Int} {k : Nat} {z : Int} (hz : ss[k * 3 + 1]? = some z) : qsum ss (k + 1) = qsum ss k + z := by
  have : ss.getD (k * 3 + 1) 0 = z := by simp [List.getD, hz]
  simp only [qsum, this]
theorem qsum_bd {ss : List Int} (h : ∀ z ∈ ss, 0 ≤ z ∧ z ≤ 99999) : ∀ k, k * 3 ≤ ss.length → 0 ≤ qsum ss k ∧ qsum ss k ≤ k * 99999
  | 0, _ => by simp [qsum]
  | k + 1, hk => by
    have ih := qsum_bd h k (by omega)
    have hz : ss[k * 3 + 1]? = some (ss[k * 3 + 1]'(by omega)) := List.getElem?_eq_getElem (by omega)
    have hb := h _ (List.mem_of_getElem? hz)
    rw [qsum_succ hz]
    omega
theorem trials_bd {a b : Int} (hb : 1 ≤ b) (hb' : b ≤ 9999) : ∀ z ∈ trials a b, 0 ≤ z ∧ z ≤ 9 := by
  have hs := stepsOf_bd (a := a) hb hb'
  have hl := stepsOf_length a b
  obtain ⟨f1, f2⟩ := firstWorth_bd hb
  unfold trials
  generalize (digs 10 a.toNat).length = L at *
  have : ∀ n, n ≤ L → ∀ z ∈ trialAt (firstWorth b) b (stepsOf a b) n, 0 ≤ z ∧ z ≤ 9 := by
    intro n
    induction n with
    | zero => intro _; simp [trialAt]
    | succ n ih =>
      intro hn z hz
      have hx : (stepsOf a b)[n * 3]? = some ((stepsOf a b)[n * 3]'(by omega)) := List.getElem?_eq_getElem (by omega)
      have hxb := hs _ (List.mem_of_getElem? hx)
      rw [trialAt_succ hx] at hz
      rcases List.mem_append.1 hz with hz | hz
      · exact ih (by omega) z hz
      · have h1 := Int.ediv_nonneg (Int.ediv_nonneg hxb.1 (show 0 ≤ firstWorth b by omega)) (Int.ediv_nonneg (show 0 ≤ b by omega) (show 0 ≤ firstWorth b by omega))
        simp at hz
        omega
  exact this L (Nat.le_refl _)
/-- What Corrections gives. -/
def corr (a b : Int) : Int := sumTo (trials a b) (digs 10 a.toNat).length - qsum (stepsOf a b) (digs 10 a.toNat).length
def corrT (a b : Int) : Value := if divV a b = true then .tuple #[.int .i64 (corr a b), .bool true] else .tuple #[.int .i64 0, .bool false]

set_option maxHeartbeats 1000000 in
theorem iCorrections_any (a b : Int) (w : World) :
    Calls Try.prog 31 #[.int .i64 a, .int .i64 b] w fun e w' => e = .returned (corrT a b) ∧ Below w.heap.size w w' := by
  by_cases h : divV a b = true
  · obtain ⟨a1, a2, b1, b2⟩ := divV_true h
    have htr := trialDigits_any a b a1 a2 b1 b2
    have hst := divisionSteps_any a b a1 a2 b1 b2
    have hct : corrT a b = .tuple #[.int .i64 (sumTo (trials a b) (digs 10 a.toNat).length - qsum (stepsOf a b) (digs 10 a.toNat).length), .bool true] := by simp only [corrT, corr, if_pos h]
    have htl := trials_len a b
    have hsl := stepsOf_length a b
    have htb := trials_bd (a := a) b1 b2
    have hsb := stepsOf_bd (a := a) b1 b2
    have h8 := digs8 a1 a2
    generalize trials a b = ts at *
    generalize stepsOf a b = ss at *
    generalize (digs 10 a.toNat).length = L at *
    have hqb : ∀ k, k ≤ L → 0 ≤ qsum ss k ∧ qsum ss k ≤ 999999 := fun k hk => by
      have := qsum_bd hsb k (by omega)
      omega
    have hsum := sumTo_bd (M := 9) (by omega) (fun z hz => by have := htb z hz; omega) L (by omega)
    have HTR := Lib.hid htr
    have HST := Lib.hid hst
    have HCT := Lib.hid hct
    have HTB := Lib.hid (show ∀ z ∈ ts, -1000000000000 ≤ z ∧ z ≤ 1000000000000 from fun z hz => by have := htb z hz; omega)
    have HQB := Lib.hid hqb
    have HTL := Lib.hid htl
    have HSL := Lib.hid hsl
    clear htr hst hct htb hsb hqb htl hsl
    obtain ⟨s1, s2⟩ := hsum
    go_enter Try.func31, Try.ntmps31
    go_wp2_with fail
    refine (isDivision_v _ _ _).mono ?_
    rintro e w' ⟨rfl, rfl⟩
    go_wp2_with fail
    refine (HTR.out _).mono ?_
    rintro e w1 ⟨A, n, c, rfl, h1⟩
    have hn : n = L := by have h3 := h1.len; have h4 := HTL.out; omega
    obtain rfl : L = n := hn.symm
    clear hn
    go_wp2_with fail
    refine (sum_any A L c _ ts _ h1.reads (by omega) HTB.out).mono ?_
    rintro e w' ⟨rfl, rfl⟩
    go_wp2_with fail
    refine (HST.out _).mono ?_
    rintro e w2 ⟨A2, n2, c2, rfl, h2⟩
    have hn : n2 = L := by have h3 := h2.len; have h4 := HSL.out; omega
    obtain rfl : L = n2 := hn.symm
    clear hn
    have hb := ext_trans h1.ext h2.ext
    clear h1
    generalize hS : sumTo ts L = S at *
    clear hS
    go_wp2_with fail
    go_loopw [6, 21] (fun t i wr => ∃ k : Nat, i = .int .i64 k ∧ k ≤ L ∧ t = .int .i64 (S - qsum ss k) ∧ Below w2.heap.size w2 wr) (fun _ i _ => L - (intOf i).toNat)
    case atStart => exact ⟨0, rfl, by omega, by simp [qsum], Below.refl _ _⟩
    case round =>
      obtain ⟨k, rfl, hk, rfl, hbk⟩ := hrel
      by_cases hlt : k < L
      · obtain ⟨g, o, rfl, hr⟩ := (h2.reads.below hbk).row hlt (by omega)
        obtain ⟨z0, hz0, hc0⟩ := hr 0 (by omega)
        obtain ⟨z1, hz1, hc1⟩ := hr 1 (by omega)
        obtain ⟨z2, hz2, hc2⟩ := hr 2 (by omega)
        clear hr hz0 hz2
        simp only [Nat.add_zero, ← Nat.add_assoc] at hz1 hc0 hc1 hc2
        obtain ⟨q1, q2⟩ := HQB.out k hk
        obtain ⟨q3, q4⟩ := HQB.out (k + 1) hlt
        have hq := qsum_succ hz1
        have q5 : 0 ≤ qsum ss k + z1 ∧ qsum ss k + z1 ≤ 999999 := by rw [← hq]; exact ⟨q3, q4⟩
        have HQ := Lib.hid hq
        clear hq hz1 q3 q4
        obtain ⟨q3, q4⟩ := q5
        go_wp2_with fail
        go_roundw
        case rel => exact ⟨k + 1, by go_num, by omega, by rw [HQ.out]; go_num, ext_alloc hbk _⟩
        case measure => simp [intOf]; omega
      · have hk' : k = L := by omega
        subst hk'
        go_wp2
        go_ret2
        exact ⟨by rw [HCT.out]; rfl, ext_trans hb hbk⟩
  · go_enter Try.func31, Try.ntmps31
    go_wp2_with (go_at_call 41; refine (isDivision_v _ _ _).mono ?_; rintro e w' ⟨rfl, rfl⟩)
    go_ret2
    exact ⟨by simp only [corrT, if_neg h]; rfl, Below.refl _ _⟩
set_option maxHeartbeats 1000000 in
theorem sCorrections_any (a b : Int) (w : World) :
    Calls Try.prog 30 #[.int .i64 a, .int .i64 b] w fun e w' => e = .returned (corrT a b) ∧ Below w.heap.size w w' := by
  by_cases h : divV a b = true
  · obtain ⟨a1, a2, b1, b2⟩ := divV_true h
    have htr := l10Trials_any a b a1 a2 b1 b2
    have hst := l10Steps_any a b a1 a2 b1 b2
    have hct : corrT a b = .tuple #[.int .i64 (sumTo (trials a b) (digs 10 a.toNat).length - qsum (stepsOf a b) (digs 10 a.toNat).length), .bool true] := by simp only [corrT, corr, if_pos h]
    have htl := trials_len a b
    have hsl := stepsOf_length a b
    have htb := trials_bd (a := a) b1 b2
    have hsb := stepsOf_bd (a := a) b1 b2
    have h8 := digs8 a1 a2
    generalize trials a b = ts at *
    generalize stepsOf a b = ss at *
    generalize (digs 10 a.toNat).length = L at *
    have hqb : ∀ k, k ≤ L → 0 ≤ qsum ss k ∧ qsum ss k ≤ 999999 := fun k hk => by
      have := qsum_bd hsb k (by omega)
      omega
    have hsum : ∀ k, k ≤ L → -100 ≤ sumTo ts k ∧ sumTo ts k ≤ 100 := fun k hk => by
      have := sumTo_bd (M := 9) (by omega) (fun z hz => by have := htb z hz; omega) k (show k ≤ ts.length by omega)
      omega
    have HTR := Lib.hid htr
    have HST := Lib.hid hst
    have HCT := Lib.hid hct
    have HTB := Lib.hid htb
    have HQB := Lib.hid hqb
    have HSUM := Lib.hid hsum
    have HTL := Lib.hid htl
    have HSL := Lib.hid hsl
    clear htr hst hct htb hsb hqb htl hsl hsum
    go_enter Try.func30, Try.ntmps30
    go_wp2_with fail
    refine (l10Asked_v _ _ _).mono ?_
    rintro e w' ⟨rfl, rfl⟩
    go_wp2_with fail
    refine (HST.out _).mono ?_
    rintro e w2 ⟨A2, n2, c2, rfl, h2⟩
    have hn : n2 = L := by have h3 := h2.len; have h4 := HSL.out; omega
    obtain rfl : L = n2 := hn.symm
    clear hn
    go_wp2_with fail
    refine (HTR.out _).mono ?_
    rintro e w1 ⟨A, n, c, rfl, h1⟩
    have hn : n = L := by have h3 := h1.len; have h4 := HTL.out; omega
    obtain rfl : L = n := hn.symm
    clear hn
    have hb := ext_trans h2.ext h1.ext
    have r2 := h2.reads.below h1.ext
    have r1 := h1.reads
    have R2 := Lib.hid r2
    have R1 := Lib.hid r1
    clear h1 h2 r1 r2
    go_wp2_with fail
    go_loopw [8, 9] (fun t i wr => ∃ k m : Nat, i = .int .i64 k ∧ k ≤ L ∧ t = .int .i64 (sumTo ts k - qsum ss k) ∧ wr = w1.drewN m) (fun _ i _ => L - (intOf i).toNat)
    case atStart => exact ⟨0, 0, rfl, by omega, by simp [qsum, sumTo], rfl⟩
    case round =>
      obtain ⟨k, m, rfl, hk, rfl, rfl⟩ := hrel
      by_cases hlt : k < L
      · obtain ⟨g, o, rfl, hr⟩ := R2.out.row hlt (by omega)
        obtain ⟨z1, hz1, hc1⟩ := hr 1 (by omega)
        clear hr
        simp only [← Nat.add_assoc] at hz1 hc1
        obtain ⟨g', o', t1, rfl, ht1, hd1⟩ := R1.out.int hlt
        obtain ⟨q1, q2⟩ := HQB.out k hk
        obtain ⟨q3, q4⟩ := HQB.out (k + 1) hlt
        obtain ⟨s1, s2⟩ := HSUM.out k hk
        obtain ⟨s3, s4⟩ := HSUM.out (k + 1) hlt
        have hq := qsum_succ hz1
        have hs := sumTo_succ ht1
        rw [hq] at q3 q4
        rw [hs] at s3 s4
        have HQ := Lib.hid hq
        have HS := Lib.hid hs
        clear hq hs hz1 ht1
        have hlt' : (k : Int) < L := by omega
        have hk0 : (0 : Int) ≤ k := by omega
        generalize hx : sumTo ts k = x at *
        generalize hy : qsum ss k = y at *
        have e1 : IntKind.i64.wrap (x - y + t1) = x - y + t1 := IntWalk.i64_in _ ⟨by omega, by omega⟩
        have e2 : IntKind.i64.wrap (x - y + t1 - z1) = x - y + t1 - z1 := IntWalk.i64_in _ ⟨by omega, by omega⟩
        have E1 := Lib.hid e1
        clear hx hy
        go_wp2_with fail
        go_quiet (fail)
        clear e1 e2
        go_wp2_with fail
        go_roundw
        case rel => exact ⟨k + 1, _, by go_num, by omega, by rw [HQ.out, HS.out]; go_num, rfl⟩
        case measure => simp [intOf]; omega
      · have hk' : k = L := by omega
        subst hk'
        go_wp2
        go_ret2
        exact ⟨by rw [HCT.out]; rfl, ext_drewN hb _⟩
  · go_enter Try.func30, Try.ntmps30
    go_wp2_with (go_at_call 39; refine (l10Asked_v _ _ _).mono ?_; rintro e w' ⟨rfl, rfl⟩)
    go_ret2
    exact ⟨by simp only [corrT, if_neg h]; rfl, Below.refl _ _⟩
set_option maxHeartbeats 400000 in
theorem FnExactCorrections_any (a : Int) (_ : (Lit.int .i64 a).wf = true) (b : Int) (_ : (Lit.int .i64 b).wf = true) (w : World) :
    Calls Try.prog 9 #[.int .i64 a, .int .i64 b] w fun e w' => e = .returned (.bool true) ∧ Below w.heap.size w w' := by
  obtain ⟨x, y, hq⟩ : ∃ (x : Int) (y : Bool), corrT a b = .tuple #[.int .i64 x, .bool y] := by
    unfold corrT
    split
    · exact ⟨_, _, rfl⟩
    · exact ⟨_, _, rfl⟩
  go_enter Try.func9, Try.ntmps9
  go_wp2_with (first | (go_at_call 30; refine (sCorrections_any _ _ _).mono ?_; rintro e w1 ⟨rfl, hb1⟩) | (go_at_call 31; refine (iCorrections_any _ _ _).mono ?_; rintro e w2 ⟨rfl, hb2⟩))
  go_ret
  exact ⟨rfl, ext_trans hb1 hb2⟩
end Go.Proofs.Yteibpconehgnbaa
