/- Chapter 10: periods. No condition. -/
import Derived.Test.YteibpconehgnbaaDecs
namespace Go.Proofs.Yteibpconehgnbaa
open Go.RowKit

/-- The rests before number K differ. -/
def Dist (a b : Int) (K : Nat) : Prop := ∀ i j, i < j → j < K → rm a b i ≠ rm a b j
theorem pigeon : ∀ (n : Nat) (f : Nat → Nat) (K : Nat), (∀ i, i < K → f i < n) → (∀ i j, i < j → j < K → f i ≠ f j) → K ≤ n
  | 0, f, K, hf, _ => by
    rcases Nat.eq_zero_or_pos K with h | h
    · omega
    · have := hf 0 h; omega
  | n + 1, f, K, hf, hinj => by
    rcases Nat.eq_zero_or_pos K with h | h
    · omega
    · obtain ⟨K', rfl⟩ : ∃ K', K = K' + 1 := ⟨K - 1, by omega⟩
      have hv := hf K' (by omega)
      have := pigeon n (fun i => if f i = n then f K' else f i) K' (fun i hi => by
        have h1 := hf i (by omega)
        have h2 := hinj i K' hi (by omega)
        show (if f i = n then f K' else f i) < n
        split <;> omega) (fun i j hij hj => by
        have h1 := hinj i j hij (by omega)
        have h2 := hinj i K' (by omega) (by omega)
        have h3 := hinj j K' hj (by omega)
        show (if f i = n then f K' else f i) ≠ (if f j = n then f K' else f j)
        split <;> split <;> omega)
      omega
theorem dist_le {a b : Int} (hb : 1 ≤ b) {K : Nat} (h : Dist a b K) : K ≤ b.toNat :=
  pigeon b.toNat (fun i => (rm a b i).toNat) K (fun i _ => by
    have := rm_bd (a := a) hb i
    show (rm a b i).toNat < _
    omega) (fun i j hij hj => by
    have h1 := rm_bd (a := a) hb i
    have h2 := rm_bd (a := a) hb j
    have h3 := h i j hij hj
    show (rm a b i).toNat ≠ (rm a b j).toNat
    omega)
theorem dist_zero (a b : Int) : Dist a b 0 := fun i j hij hj => by omega
theorem dist_succ {a b : Int} {K : Nat} (h : Dist a b K) (h' : ∀ i, i < K → rm a b i ≠ rm a b K) : Dist a b (K + 1) := fun i j hij hj => by
  rcases Nat.lt_or_ge j K with hk | hk
  · exact h i j hij hk
  · obtain rfl : K = j := by omega
    exact h' i hij

/-- The first repeated rest has number K, and it is the one with number j. -/
structure IsPer (a b : Int) (K j : Nat) : Prop where
  dist : Dist a b K
  lt : j < K
  eq : rm a b j = rm a b K
theorem IsPer.unique {a b : Int} {K j K' j' : Nat} (h : IsPer a b K j) (h' : IsPer a b K' j') : K = K' ∧ j = j' := by
  have hk : K = K' := by
    rcases Nat.lt_trichotomy K K' with hlt | heq | hgt
    · exact absurd h.eq (h'.dist j K h.lt hlt)
    · exact heq
    · exact absurd h'.eq (h.dist j' K' h'.lt hgt)
  subst hk
  refine ⟨rfl, ?_⟩
  rcases Nat.lt_trichotomy j j' with hlt | heq | hgt
  · exact absurd (h.eq.trans h'.eq.symm) (h.dist j j' hlt h'.lt)
  · exact heq
  · exact absurd (h'.eq.trans h.eq.symm) (h.dist j' j hgt h.lt)
/-- What PeriodOf tells. -/
def PerRes (a b x y : Int) : Prop := ∃ K j, IsPer a b K j ∧ x = (if rm a b K = 0 then 0 else (j : Int)) ∧ y = (if rm a b K = 0 then 0 else (K : Int) - j)
theorem PerRes.unique {a b x y x' y' : Int} (h : PerRes a b x y) (h' : PerRes a b x' y') : x = x' ∧ y = y' := by
  obtain ⟨K, j, h1, rfl, rfl⟩ := h
  obtain ⟨K', j', h1', rfl, rfl⟩ := h'
  obtain ⟨rfl, rfl⟩ := h1.unique h1'
  exact ⟨rfl, rfl⟩
/-- All is told by the rest that comes to nought. -/
theorem perRes_zero {a b : Int} {K : Nat} (hd : Dist a b K) (hn : ∀ i, i < K → rm a b i ≠ 0) (h0 : rm a b K = 0) : PerRes a b 0 0 := by
  have h1 : rm a b (K + 1) = 0 := by rw [rm_succ, h0]; simp
  refine ⟨K + 1, K, ⟨dist_succ hd fun i hi => ?_, by omega, by rw [h0, h1]⟩, by rw [if_pos h1], by rw [if_pos h1]⟩
  rw [h0]; exact hn i hi

/-- What the program notes: for each rest one more than its number, or nought. -/
def seenL (a b : Int) (n : Nat) : Nat → List Int
  | 0 => List.replicate n 0
  | K + 1 => (seenL a b n K).set (rm a b K).toNat ((K : Int) + 1)
theorem seenL_len (a b : Int) (n : Nat) : ∀ K, (seenL a b n K).length = n
  | 0 => by simp [seenL]
  | K + 1 => by simp [seenL, seenL_len a b n K]
theorem seenL_at {a b : Int} (hb : 1 ≤ b) {n r : Nat} : ∀ {K : Nat} {z : Int}, (seenL a b n K)[r]? = some z → (0 < z → ∃ i, i < K ∧ rm a b i = r ∧ z = (i : Int) + 1) ∧ (z ≤ 0 → ∀ i, i < K → rm a b i ≠ r)
  | 0, z, h => by
    simp only [seenL, List.getElem?_replicate] at h
    split at h
    · injection h with h
      subst h
      exact ⟨fun h => by omega, fun _ i hi => by omega⟩
    · cases h
  | K + 1, z, h => by
    simp only [seenL] at h
    have hr := rm_bd (a := a) hb K
    by_cases he : (rm a b K).toNat = r
    · have hlt : r < (seenL a b n K).length := by
        have := (List.getElem?_eq_some_iff.1 h).1
        simpa using this
      rw [he, List.getElem?_set_self hlt] at h
      injection h with h
      subst h
      exact ⟨fun _ => ⟨K, by omega, by omega, rfl⟩, fun h => by omega⟩
    · rw [List.getElem?_set_ne he] at h
      obtain ⟨h1, h2⟩ := seenL_at hb h
      refine ⟨fun hz => ?_, fun hz i hi => ?_⟩
      · obtain ⟨i, hi, h3, h4⟩ := h1 hz
        exact ⟨i, by omega, h3, h4⟩
      · rcases Nat.lt_or_ge i K with hk | hk
        · exact h2 hz i hk
        · obtain rfl : K = i := by omega
          omega

/-- Valid arguments. -/
def perV (a b : Int) : Bool := divV a b && !decide (500 < b)

set_option maxHeartbeats 2000000 in
theorem iPeriodOf_yes (a b : Int) (h : divV a b = true) (h5 : b ≤ 500) (w : World) :
    Calls Try.prog 17 #[.int .i64 a, .int .i64 b] w fun e w' => ∃ x y, PerRes a b x y ∧ e = .returned (.tuple #[.int .i64 x, .int .i64 y, .bool true]) ∧ Below w.heap.size w w' := by
  obtain ⟨a1, a2, b1, b2⟩ := divV_true h
  obtain ⟨B, rfl⟩ := Int.eq_ofNat_of_zero_le (show 0 ≤ b by omega)
  have hbz : ((B : Int) == 0) = false := by simp; omega
  go_enter Try.func17, Try.ntmps17
  go_wp2_with (first | (go_at_call 41; refine (isDivision_v _ _ _).mono ?_; rintro e w' ⟨rfl, rfl⟩) | (at_make; refine makeI rfl _ _ rfl (Below.refl _ _) B rfl rfl (by omega) ?_; intro g w1 hacc hb1))
  go_loopw [8, 9] (fun t i wr => ∃ K r : Nat, t = .int .i64 (r : Int) ∧ rm a (B : Int) K = r ∧ i = .int .i64 ((K : Int) + 1) ∧ K ≤ 500 ∧ Dist a (B : Int) K ∧ (∀ i, i < K → rm a (B : Int) i ≠ 0) ∧ Acc w wr 3 1 (some ⟨g, 0, none⟩) B B (seenL a (B : Int) B K)) (fun _ i _ => 502 - (intOf i).toNat)
  case atStart =>
    refine ⟨0, (a % (B : Int)).toNat, ?_, ?_, by simp, by omega, dist_zero _ _, fun i hi => by omega, hacc⟩
    · rw [Int.toNat_of_nonneg (Int.emod_nonneg _ (by omega))]
    · rw [Int.toNat_of_nonneg (Int.emod_nonneg _ (by omega))]; rfl
  case round =>
    clear hacc
    obtain ⟨K, r, rfl, hr, rfl, hK, hd, hn, hacc⟩ := hrel
    have hrb := rm_bd (a := a) b1 K
    rw [hr] at hrb
    have HR := Lib.hid hr
    have HD := Lib.hid hd
    have HN := Lib.hid hn
    clear hr hd hn
    by_cases h0 : r = 0
    · subst h0
      go_wp2
      go_ret3
      exact ⟨0, 0, perRes_zero HD.out HN.out (by simpa using HR.out), rfl, hacc.ext⟩
    · have h0' : ((r : Int) == 0) = false := by simp; omega
      have h0'' : ((r : Int) != 0) = true := by simp; omega
      have hrl : r < (seenL a (B : Int) B K).length := by rw [seenL_len]; omega
      have hz := List.getElem?_eq_getElem hrl
      obtain ⟨hcell, hfr⟩ := hacc.cellAt hz
      generalize (seenL a (B : Int) B K)[r]'hrl = z at *
      obtain ⟨hz1, hz2⟩ := seenL_at b1 hz
      have HZ1 := Lib.hid hz1
      have HZ2 := Lib.hid hz2
      clear hz hz1 hz2 hrl
      have hr1 : (r : Int) < B := by omega
      have hr2 : (0 : Int) ≤ r := by omega
      by_cases hp : 0 < z
      · obtain ⟨i, hi, hri, hzi⟩ := HZ1.out hp
        have hper : IsPer a (B : Int) K i := ⟨HD.out, hi, by rw [hri, HR.out]⟩
        have hzb : z ≤ 500 := by omega
        have HP := Lib.hid hper
        have HZI := Lib.hid hzi
        clear hper hri hzi
        have e1 : IntKind.i64.wrap (z - 1) = z - 1 := IntWalk.i64_in _ ⟨by omega, by omega⟩
        have e2 : IntKind.i64.wrap ((K : Int) + 1 - z) = (K : Int) + 1 - z := IntWalk.i64_in _ ⟨by omega, by omega⟩
        go_wp2_with fail
        go_quiet (fail)
        clear e1 e2
        go_wp2_with fail
        go_ret3
        have hne : rm a (B : Int) K ≠ 0 := by rw [HR.out]; omega
        exact ⟨z - 1, (K : Int) + 1 - z, ⟨K, i, HP.out, by rw [if_neg hne, HZI.out]; omega, by rw [if_neg hne, HZI.out]; omega⟩, rfl, ext_drewN hacc.ext _⟩
      · have hnew : ∀ i, i < K → rm a (B : Int) i ≠ rm a (B : Int) K := fun i hi => by rw [HR.out]; exact HZ2.out (by omega) i hi
        have hd' := dist_succ HD.out hnew
        have hK' := dist_le b1 hd'
        have hrs := rm_succ a (B : Int) K
        rw [HR.out] at hrs
        have HRS := Lib.hid hrs
        have HD' := Lib.hid hd'
        clear hrs hd' hnew
        have hm := Int.emod_nonneg (10 * (r : Int)) (show (B : Int) ≠ 0 by omega)
        go_wp2_with fail
        go_roundw
        case rel =>
          refine ⟨K + 1, (10 * (r : Int) % (B : Int)).toNat, by rw [Int.toNat_of_nonneg hm], by rw [Int.toNat_of_nonneg hm]; exact HRS.out, by go_num, by omega, HD'.out, fun i hi => ?_, ?_⟩
          · rcases Nat.lt_or_ge i K with hk | hk
            · exact HN.out i hk
            · obtain rfl : K = i := by omega
              rw [HR.out]; omega
          · have := hacc.set r ((K : Int) + 1)
            simp only [seenL, HR.out, Int.toNat_natCast]
            exact this
        case measure => simp [intOf]; omega
set_option maxHeartbeats 1000000 in
theorem iPeriodOf_no (a b : Int) (h : perV a b = false) (w : World) :
    Calls Try.prog 17 #[.int .i64 a, .int .i64 b] w fun e w' => e = .returned (.tuple #[.int .i64 0, .int .i64 0, .bool false]) ∧ w = w' := by
  cases hv : divV a b
  · go_enter Try.func17, Try.ntmps17
    go_wp2_with (first | (go_at_call 41; refine (isDivision_v _ _ _).mono ?_; rintro e w' ⟨rfl, rfl⟩))
    go_ret3
    exact ⟨rfl, rfl⟩
  · have h5 : 500 < b := by simpa [perV, hv] using h
    go_enter Try.func17, Try.ntmps17
    go_wp2_with (first | (go_at_call 41; refine (isDivision_v _ _ _).mono ?_; rintro e w' ⟨rfl, rfl⟩))
    go_ret3
    exact ⟨rfl, rfl⟩
set_option maxHeartbeats 1000000 in
theorem sPeriodOf_no (a b : Int) (h : perV a b = false) (w : World) :
    Calls Try.prog 16 #[.int .i64 a, .int .i64 b] w fun e w' => e = .returned (.tuple #[.int .i64 0, .int .i64 0, .bool false]) ∧ w = w' := by
  cases hv : divV a b
  · go_enter Try.func16, Try.ntmps16
    go_wp2_with (first | (go_at_call 39; refine (l10Asked_v _ _ _).mono ?_; rintro e w' ⟨rfl, rfl⟩))
    go_ret3
    exact ⟨rfl, rfl⟩
  · have h5 : 500 < b := by simpa [perV, hv] using h
    go_enter Try.func16, Try.ntmps16
    go_wp2_with (first | (go_at_call 39; refine (l10Asked_v _ _ _).mono ?_; rintro e w' ⟨rfl, rfl⟩))
    go_ret3
    exact ⟨rfl, rfl⟩
/-- The rests before number K. -/
def rms (a b : Int) (K : Nat) : List Int := (List.range K).map (rm a b)
theorem rms_len (a b : Int) (K : Nat) : (rms a b K).length = K := by simp [rms]
theorem rms_succ (a b : Int) (K : Nat) : rms a b (K + 1) = rms a b K ++ [rm a b K] := by simp [rms, List.range_succ]
theorem rms_at {a b : Int} {K i : Nat} {z : Int} (h : (rms a b K)[i]? = some z) : i < K ∧ z = rm a b i := by
  have hi := (List.getElem?_eq_some_iff.1 h).1
  rw [rms_len] at hi
  refine ⟨hi, ?_⟩
  simp [rms, hi] at h
  exact h.symm
theorem rms_has {a b : Int} {K : Nat} {r : Int} : hasB (rms a b K) r = true ↔ ∃ i, i < K ∧ rm a b i = r := by simp [hasB, rms]
set_option maxHeartbeats 2000000 in
theorem sPeriodOf_yes (a b : Int) (h : divV a b = true) (h5 : b ≤ 500) (w : World) :
    Calls Try.prog 16 #[.int .i64 a, .int .i64 b] w fun e w' => ∃ x y, PerRes a b x y ∧ e = .returned (.tuple #[.int .i64 x, .int .i64 y, .bool true]) ∧ Below w.heap.size w w' := by
  obtain ⟨a1, a2, b1, b2⟩ := divV_true h
  have hbz : (b == 0) = false := by simp; omega
  have hb0 : ¬ b = 0 := by omega
  have q1 := wrem (x := a) (y := b) a1
  go_enter Try.func16, Try.ntmps16
  go_wp2_with (first | (go_at_call 39; refine (l10Asked_v _ _ _).mono ?_; rintro e w' ⟨rfl, rfl⟩))
  go_region
  clear q1 hb0
  go_wp2_with fail
  go_loopw [7, 8] (fun v t wr => ∃ (K m c : Nat) (A : Option Addr), t = .int .i64 (rm a b K) ∧ v = .slice A m c ∧ K ≤ 500 ∧ Dist a b K ∧ Acc w wr 3 1 A m c (rms a b K)) (fun v _ _ => match v with | .slice _ m _ => 502 - m | _ => 0)
  case atStart => exact ⟨0, _, _, _, rfl, rfl, by omega, dist_zero _ _, (Acc.empty (Below.refl _ _)).drew⟩
  case round =>
    obtain ⟨K, m, c, A, rfl, rfl, hK, hd, hacc⟩ := hrel
    obtain rfl : K = m := by have h1 := hacc.len; have h2 := rms_len a b K; omega
    have hrb := rm_bd (a := a) b1 K
    obtain ⟨r1, r2⟩ := hrb
    have HD := Lib.hid hd
    clear hd
    cases hh : hasB (rms a b K) (rm a b K)
    · have hnew : ∀ i, i < K → rm a b i ≠ rm a b K := fun i hi he => by
        have := rms_has.2 ⟨i, hi, he⟩
        rw [hh] at this; cases this
      have hd' := dist_succ HD.out hnew
      have hK' := dist_le b1 hd'
      have HD' := Lib.hid hd'
      have HRS := Lib.hid (rm_succ a b K)
      have HMS := Lib.hid (rms_succ a b K)
      clear hd' hnew
      go_wp2_with (first | (go_at_call 44; refine (l1Has_any _ _ _ _ _ _ _ hacc.reads (by unfold maxLen; omega)).mono ?_; rintro e w' ⟨rfl, rfl⟩) | (at_builtin; refine appI rfl _ _ rfl rfl (hacc.alloc _) rfl (reads_new _ _ _ 1 [rm a b K] rfl rfl) (by omega) ?_; intro A' c' w' hacc' _))
      go_roundw
      case rel => exact ⟨K + 1, _, _, _, by rw [HRS.out], rfl, by omega, HD'.out, by rw [HMS.out]; exact hacc'⟩
      case measure => simp; omega
    · obtain ⟨j, hj, hje⟩ := rms_has.1 hh
      have hper : IsPer a b K j := ⟨HD.out, hj, hje⟩
      have HP := Lib.hid hper
      have HJ := Lib.hid hje
      clear hper hje
      by_cases h0 : rm a b K = 0
      · have H0 := Lib.hid h0
        have h0' : (rm a b K == 0) = true := by simpa using h0
        clear h0
        go_wp2_with (first | (go_at_call 44; refine (l1Has_any _ _ _ _ _ _ _ hacc.reads (by unfold maxLen; omega)).mono ?_; rintro e w' ⟨rfl, rfl⟩))
        go_ret3
        exact ⟨0, 0, ⟨K, j, HP.out, by rw [if_pos H0.out], by rw [if_pos H0.out]⟩, rfl, hacc.ext⟩
      · have H0 := Lib.hid h0
        have h0' : (rm a b K == 0) = false := by simpa using h0
        clear h0
        go_wp2_with (first | (go_at_call 44; refine (l1Has_any _ _ _ _ _ _ _ hacc.reads (by unfold maxLen; omega)).mono ?_; rintro e w' ⟨rfl, rfl⟩))
        obtain ⟨ws, hws⟩ : ∃ ws, ws = wr := ⟨_, rfl⟩
        go_loop [9] (fun t => ∃ i : Nat, t = .int .i64 (i : Int) ∧ i ≤ j ∧ ∀ i', i' < i → rm a b i' ≠ rm a b K) (fun t => j - (intOf t).toNat)
        case atStart => exact ⟨0, rfl, by omega, fun i' hi' => by omega⟩
        case round =>
          obtain ⟨i, rfl, hij, hlt⟩ := hrel
          have HL := Lib.hid hlt
          clear hlt
          have hiK : i < K := by omega
          obtain ⟨g, o, z, rfl, hz, hcell⟩ := hacc.reads.int hiK
          obtain ⟨-, hzr⟩ := rms_at hz
          have HZ := Lib.hid hzr
          clear hz hzr
          cases hne : (z != rm a b K)
          · have hzr : rm a b i = rm a b K := by rw [← HZ.out]; simpa using hne
            have hji : i = j := by
              rcases Nat.lt_trichotomy i j with h1 | h1 | h1
              · exact absurd hzr (fun he => (HP.out.dist i j h1 HP.out.lt) (he.trans HP.out.eq.symm))
              · exact h1
              · omega
            subst hji
            clear hzr
            go_wp2_with fail
            go_ret3
            exact ⟨(i : Int), (K : Int) - i, ⟨K, i, HP.out, by rw [if_neg H0.out], by rw [if_neg H0.out]⟩, rfl, hacc.ext⟩
          · have hzr : rm a b i ≠ rm a b K := by rw [← HZ.out]; simpa using hne
            have hij' : i < j := by
              rcases Nat.lt_or_ge i j with h1 | h1
              · exact h1
              · obtain rfl : i = j := by omega
                exact absurd HJ.out hzr
            have HZR := Lib.hid hzr
            clear hzr
            go_wp2_with fail
            go_round
            case rel =>
              refine ⟨i + 1, by go_num, by omega, fun i' hi' => ?_⟩
              rcases Nat.lt_or_ge i' i with h1 | h1
              · exact HL.out i' h1
              · obtain rfl : i = i' := by omega
                exact HZR.out
            case measure => simp [intOf]; omega
set_option maxHeartbeats 1000000 in
theorem FnExactPeriodOf_any (a : Int) (_ : (Lit.int .i64 a).wf = true) (b : Int) (_ : (Lit.int .i64 b).wf = true) (w : World) :
    Calls Try.prog 5 #[.int .i64 a, .int .i64 b] w fun e w' => e = .returned (.bool true) ∧ Below w.heap.size w w' := by
  cases hv : perV a b
  · go_enter Try.func5, Try.ntmps5
    go_wp2_with (first | (go_at_call 16; refine (sPeriodOf_no _ _ hv _).mono ?_; rintro e w' ⟨rfl, rfl⟩) | (go_at_call 17; refine (iPeriodOf_no _ _ hv _).mono ?_; rintro e w' ⟨rfl, rfl⟩))
    go_ret
    exact ⟨rfl, Below.refl _ _⟩
  · have hd : divV a b = true := by simp only [perV, Bool.and_eq_true] at hv; exact hv.1
    have h5 : b ≤ 500 := by simp only [perV, Bool.and_eq_true] at hv; simpa using hv.2
    clear hv
    go_enter Try.func5, Try.ntmps5
    go_wp2_with fail
    refine (sPeriodOf_yes _ _ hd h5 _).mono ?_
    rintro e w1 ⟨x, y, hp, rfl, hb1⟩
    have HP := Lib.hid hp
    clear hp
    go_wp2_with fail
    refine (iPeriodOf_yes _ _ hd h5 _).mono ?_
    rintro e w2 ⟨x', y', hp', rfl, hb2⟩
    obtain ⟨rfl, rfl⟩ := HP.out.unique hp'
    clear hp'
    go_wp2_with fail
    go_ret
    exact ⟨rfl, ext_trans hb1 hb2⟩
end Go.Proofs.Yteibpconehgnbaa
