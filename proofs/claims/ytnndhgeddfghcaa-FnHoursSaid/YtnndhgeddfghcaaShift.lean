/- A lesson at another time. No condition. -/
import Derived.Test.YtnndhgeddfghcaaSlot
namespace Go.Proofs.Ytnndhgeddfghcaa
open Go.RowKit

theorem lesnF_setS : ∀ (xs : List Lesn) (i : Nat) (x : Lesn), i < xs.length → ((((((((lesnF xs).set (i * 7) x.i).set (i * 7 + 1) x.c).set (i * 7 + 2) x.t).set (i * 7 + 3) x.r).set (i * 7 + 4) x.d).set (i * 7 + 5) x.b).set (i * 7 + 6) x.m) = lesnF (xs.set i x)
  | [], i, x, h => by simp at h
  | y :: ys, 0, x, h => by simp [lesnF, Lesn.cs]
  | y :: ys, i + 1, x, h => by
    have ih := lesnF_setS ys i x (by simpa using h)
    rw [List.set_cons_succ, lesnF_cons, lesnF_cons, ← ih]
    have hl : y.cs.length = 7 := rfl
    rw [List.set_append_right _ _ (by rw [hl]; omega), hl, show (i + 1) * 7 - 7 = i * 7 from by omega]
    rw [List.set_append_right _ _ (by rw [hl]; omega), hl, show (i + 1) * 7 + 1 - 7 = i * 7 + 1 from by omega]
    rw [List.set_append_right _ _ (by rw [hl]; omega), hl, show (i + 1) * 7 + 2 - 7 = i * 7 + 2 from by omega]
    rw [List.set_append_right _ _ (by rw [hl]; omega), hl, show (i + 1) * 7 + 3 - 7 = i * 7 + 3 from by omega]
    rw [List.set_append_right _ _ (by rw [hl]; omega), hl, show (i + 1) * 7 + 4 - 7 = i * 7 + 4 from by omega]
    rw [List.set_append_right _ _ (by rw [hl]; omega), hl, show (i + 1) * 7 + 5 - 7 = i * 7 + 5 from by omega]
    rw [List.set_append_right _ _ (by rw [hl]; omega), hl, show (i + 1) * 7 + 6 - 7 = i * 7 + 6 from by omega]
theorem lesnF_move : ∀ (xs : List Lesn) (i : Nat) (z : Lesn) (d b : Int), xs[i]? = some z → ((lesnF xs).set (i * 7 + 4) d).set (i * 7 + 5) b = lesnF (xs.set i (movedL z d b))
  | [], i, z, d, b, h => by simp at h
  | y :: ys, 0, z, d, b, h => by
    obtain rfl : y = z := by simpa using h
    simp [lesnF, Lesn.cs, movedL]
  | y :: ys, i + 1, z, d, b, h => by
    have ih := lesnF_move ys i z d b (by simpa using h)
    rw [List.set_cons_succ, lesnF_cons, lesnF_cons, ← ih]
    have hl : y.cs.length = 7 := rfl
    rw [List.set_append_right _ _ (by rw [hl]; omega), hl, show (i + 1) * 7 + 4 - 7 = i * 7 + 4 from by omega]
    rw [List.set_append_right _ _ (by rw [hl]; omega), hl, show (i + 1) * 7 + 5 - 7 = i * 7 + 5 from by omega]
theorem set_at {xs : List Lesn} {i j : Nat} {z x a : Lesn} (hz : xs[i]? = some z) (he : x.i = z.i) (ha : (xs.set i x)[j]? = some a) : ∃ a', xs[j]? = some a' ∧ a.i = a'.i ∧ ((j = i ∧ a = x) ∨ (j ≠ i ∧ a = a')) := by
  rw [List.getElem?_set] at ha
  split at ha
  · have hij : i = j := by assumption
    subst hij
    split at ha
    · injection ha with ha
      subst ha
      exact ⟨z, hz, he, .inl ⟨rfl, rfl⟩⟩
    · cases ha
  · exact ⟨a, ha, rfl, .inr ⟨fun e => by omega, rfl⟩⟩
theorem less_set {xs : List Lesn} {i : Nat} {z x : Lesn} (h : lessB xs = true) (hz : xs[i]? = some z) (he : x.i = z.i) : lessB (xs.set i x) = x.ok := by
  have hi := (List.getElem?_eq_some_iff.1 hz).1
  have hx : (xs.set i x)[i]? = some x := by rw [List.getElem?_set_self hi]
  have hl := less_len h
  unfold lessB
  rw [List.length_set, decide_eq_true hl, Bool.and_true]
  cases hok : x.ok with
  | false => exact lessGo_miss (by rw [List.length_set]; exact hi) (lesAt_bad hx hok)
  | true =>
    refine lessGo_all (fun j hj => ?_)
    have hj' : (xs.set i x)[j]? = some ((xs.set i x)[j]) := List.getElem?_eq_getElem hj
    generalize (xs.set i x)[j] = a at hj'
    obtain ⟨a', ha', hid, hcase⟩ := set_at hz he hj'
    have haok : a.ok = true := by
      rcases hcase with ⟨_, rfl⟩ | ⟨_, rfl⟩
      · exact hok
      · exact less_ok h ha'
    rcases Nat.eq_zero_or_pos j with h0 | h0
    · subst h0
      rw [lesAt_zero hj']; exact haok
    · have hb : (xs.set i x)[j - 1]? = some ((xs.set i x)[j - 1]'(by omega)) := List.getElem?_eq_getElem (by omega)
      generalize (xs.set i x)[j - 1]'(by omega) = c at hb
      obtain ⟨c', hc', hcid, _⟩ := set_at hz he hb
      have hlt := less_lt h hc' ha' (by omega)
      rw [lesAt_at h0 hj' hb, haok, decide_eq_false (by omega)]
      rfl
theorem free_set {xs : List Lesn} {i : Nat} {z x : Lesn} (hz : xs[i]? = some z) (he : x.i = z.i) : freeB (xs.set i x) x = freeB xs x := by
  have hi := (List.getElem?_eq_some_iff.1 hz).1
  cases hf : freeB xs x with
  | true =>
    refine freeB_all (fun k y hy => ?_)
    obtain ⟨y', hy', hid, hcase⟩ := set_at hz he hy
    rcases hcase with ⟨_, rfl⟩ | ⟨_, rfl⟩
    · simp
    · unfold freeB at hf
      rw [List.all_eq_true] at hf
      exact hf y (List.mem_of_getElem? hy')
  | false =>
    unfold freeB at hf
    rw [List.all_eq_false] at hf
    obtain ⟨y, hy, h1⟩ := hf
    obtain ⟨k, hk⟩ := List.mem_iff_getElem?.1 hy
    simp only [Bool.not_eq_true, Bool.or_eq_false_iff, Bool.not_eq_false'] at h1
    have hne : k ≠ i := fun e => by
      subst e
      rw [hz] at hk; injection hk with hk
      rw [← hk, he] at h1
      simp at h1
    refine freeB_miss (k := k) (y := y) ?_ h1.1 h1.2
    rw [List.getElem?_set_ne (Ne.symm hne)]
    exact hk
def shiftOk (xs : List Lesn) (id d b : Int) : Bool := match xs[findN id xs]? with
  | some z => lessB xs && ((movedL z d b).ok && freeB xs (movedL z d b))
  | none => false
def shiftL (xs : List Lesn) (id d b : Int) : List Lesn := match xs[findN id xs]? with
  | some z => if shiftOk xs id d b = true then xs.set (findN id xs) (movedL z d b) else []
  | none => []
theorem shift_len (xs : List Lesn) (id d b : Int) : (shiftL xs id d b).length ≤ xs.length := by
  unfold shiftL
  split
  · split <;> simp
  · simp
theorem shift_bad {xs : List Lesn} (id d b : Int) (h : lessB xs = false) : shiftOk xs id d b = false ∧ shiftL xs id d b = [] := by
  have h1 : shiftOk xs id d b = false := by unfold shiftOk; split <;> simp [h]
  refine ⟨h1, ?_⟩
  unfold shiftL
  split
  · rw [if_neg (by rw [h1]; simp)]
  · rfl
theorem shift_none {xs : List Lesn} {id : Int} (d b : Int) (h : ¬ findN id xs < xs.length) : shiftOk xs id d b = false ∧ shiftL xs id d b = [] := by
  have e : xs[findN id xs]? = none := List.getElem?_eq_none (by omega)
  unfold shiftL shiftOk
  rw [e]
  exact ⟨rfl, rfl⟩
theorem shift_at {xs : List Lesn} {id : Int} {z : Lesn} (d b : Int) (hz : xs[findN id xs]? = some z) (h : lessB xs = true) : shiftOk xs id d b = ((movedL z d b).ok && freeB xs (movedL z d b)) ∧
    shiftL xs id d b = if ((movedL z d b).ok && freeB xs (movedL z d b)) = true then xs.set (findN id xs) (movedL z d b) else [] := by
  have h1 : shiftOk xs id d b = ((movedL z d b).ok && freeB xs (movedL z d b)) := by
    unfold shiftOk; rw [hz]; simp [h]
  refine ⟨h1, ?_⟩
  unfold shiftL
  rw [hz, h1]
set_option maxHeartbeats 4000000 in
theorem iShiftLesson_any (A : Option Addr) (n c B : Nat) (xs : List Lesn) (id d b : Int) (w : World) (h : Reads w B 7 A n ((lesnF xs).map (Value.int .i64))) (hB : B ≤ w.heap.size) (hn : n ≤ 1048576) :
    Calls Try.prog 45 #[.slice A n c, .int .i64 id, .int .i64 d, .int .i64 b] w fun e w' => Gives 25 7 (lesnF (shiftL xs id d b)) (shiftOk xs id d b) w e w' := by
  have hl := h.lesnLen
  have H := Lib.hid h
  have HL := Lib.hid hl
  clear h hl
  cases ha : lessB xs
  · rw [(shift_bad id d b ha).1, (shift_bad id d b ha).2]
    go_enter Try.func45, Try.ntmps45
    go_wp2_with fail
    refine (lessonAt_any A n c B xs id _ H.out hB hn).mono ?_
    rintro e w1 ⟨rfl, hb1⟩
    go_wp2_with fail
    refine (iAreLessons_any A n c B xs _ (H.out.below (hb1.mono hB)) (Nat.le_trans hB hb1.size) hn).mono ?_
    rintro e w2 ⟨rfl, hb2⟩
    rw [ha]
    have HB2 := Lib.hid (ext_trans hb1 hb2)
    clear hb1 hb2
    go_wp2
    go_ret2
    exact ⟨none, 0, 0, rfl, Acc.nil HB2.out⟩
  · by_cases hf : findN id xs < xs.length
    · obtain ⟨z, hz⟩ : ∃ z, xs[findN id xs]? = some z := ⟨_, List.getElem?_eq_getElem hf⟩
      rw [(shift_at d b hz ha).1, (shift_at d b hz ha).2]
      have hfv : findV id xs = (findN id xs : Int) := if_pos hf
      have hin : findN id xs < n := by rw [HL.out] at hf; exact hf
      generalize findN id xs = i at hz hfv hin ⊢
      clear hf
      cases hok : (movedL z d b).ok
      · rw [Bool.false_and, if_neg (by simp)]
        have HOK := Lib.hid hok
        clear hok
        have HFV := Lib.hid hfv
        have HZ := Lib.hid hz
        have HG := Lib.hid ha
        have i0 : (0 : Int) ≤ i := by omega
        have i1 : (i : Int) < n := by omega
        have HX := Lib.hid (less_set HG.out HZ.out (show (movedL z d b).i = z.i from rfl))
        have HF2 := Lib.hid (free_set HZ.out (show (movedL z d b).i = z.i from rfl))
        have HM := Lib.hid (lesnF_move xs i z d b HZ.out)
        clear hz hfv
        go_enter Try.func45, Try.ntmps45
        go_wp2_with fail
        refine (lessonAt_any A n c B xs id _ H.out hB hn).mono ?_
        rintro e w1 ⟨rfl, hb1⟩
        rw [HFV.out]
        go_wp2_with fail
        refine (iAreLessons_any A n c B xs _ (H.out.below (hb1.mono hB)) (Nat.le_trans hB hb1.size) hn).mono ?_
        rintro e w2 ⟨rfl, hb2⟩
        rw [ha]
        have HB2 := Lib.hid (ext_trans hb1 hb2)
        clear hb1 hb2
        have R2 := Lib.hid (H.out.below (HB2.out.mono hB))
        have hB2 : B ≤ w2.heap.size := Nat.le_trans hB HB2.out.size
        clear ha
        go_wp2_with (at_builtin; refine appLesn rfl _ _ rfl rfl (Acc.empty HB2.out) rfl (R2.out.alloc hB2 _) (by omega) ?_; intro A2 c2 w3 hacc _; obtain ⟨g, cp, hv, _, hgl⟩ := hacc.own.form (by omega); (have hA2 : A2 = some ⟨g, 0, none⟩ := by injection hv); subst hA2; simp only [Nat.zero_add, List.nil_append] at hacc; obtain ⟨hc0, hf0⟩ := hacc.cellAt ((lesnF_at HZ.out).1); obtain ⟨hc1, hf1⟩ := hacc.cellAt ((lesnF_at HZ.out).2.1); obtain ⟨hc2, hf2⟩ := hacc.cellAt ((lesnF_at HZ.out).2.2.1); obtain ⟨hc3, hf3⟩ := hacc.cellAt ((lesnF_at HZ.out).2.2.2.1); obtain ⟨hc4, hf4⟩ := hacc.cellAt ((lesnF_at HZ.out).2.2.2.2.1); obtain ⟨hc5, hf5⟩ := hacc.cellAt ((lesnF_at HZ.out).2.2.2.2.2.1); obtain ⟨hc6, hf6⟩ := hacc.cellAt ((lesnF_at HZ.out).2.2.2.2.2.2); have HS := Lib.hid ((hacc.set (i * 7 + 4) d).set (i * 7 + 5) b); rw [HM.out] at HS; clear hacc hv hgl)
        refine (iAreLessons_any _ n c2 _ (xs.set i (movedL z d b)) _ HS.out.reads (Nat.le_refl _) hn).mono ?_
        rintro e w5 ⟨rfl, hb5⟩
        rw [HX.out, HOK.out]
        have O5 := Lib.hid (HS.out.later hb5)
        clear hb5 hc0 hc1 hc2 hc3 hc4 hc5 hc6 hf0 hf1 hf2 hf3 hf4 hf5 hf6
        go_wp2
        go_ret2
        exact ⟨none, 0, 0, rfl, Acc.nil O5.out.ext⟩
      · cases hfr : freeB xs (movedL z d b)
        · rw [Bool.true_and, if_neg (by simp)]
          have HOK := Lib.hid hok
          have HFR := Lib.hid hfr
          clear hok hfr
          have HFV := Lib.hid hfv
          have HZ := Lib.hid hz
          have HG := Lib.hid ha
          have i0 : (0 : Int) ≤ i := by omega
          have i1 : (i : Int) < n := by omega
          have HX := Lib.hid (less_set HG.out HZ.out (show (movedL z d b).i = z.i from rfl))
          have HF2 := Lib.hid (free_set HZ.out (show (movedL z d b).i = z.i from rfl))
          have HM := Lib.hid (lesnF_move xs i z d b HZ.out)
          clear hz hfv
          go_enter Try.func45, Try.ntmps45
          go_wp2_with fail
          refine (lessonAt_any A n c B xs id _ H.out hB hn).mono ?_
          rintro e w1 ⟨rfl, hb1⟩
          rw [HFV.out]
          go_wp2_with fail
          refine (iAreLessons_any A n c B xs _ (H.out.below (hb1.mono hB)) (Nat.le_trans hB hb1.size) hn).mono ?_
          rintro e w2 ⟨rfl, hb2⟩
          rw [ha]
          have HB2 := Lib.hid (ext_trans hb1 hb2)
          clear hb1 hb2
          have R2 := Lib.hid (H.out.below (HB2.out.mono hB))
          have hB2 : B ≤ w2.heap.size := Nat.le_trans hB HB2.out.size
          clear ha
          go_wp2_with (at_builtin; refine appLesn rfl _ _ rfl rfl (Acc.empty HB2.out) rfl (R2.out.alloc hB2 _) (by omega) ?_; intro A2 c2 w3 hacc _; obtain ⟨g, cp, hv, _, hgl⟩ := hacc.own.form (by omega); (have hA2 : A2 = some ⟨g, 0, none⟩ := by injection hv); subst hA2; simp only [Nat.zero_add, List.nil_append] at hacc; obtain ⟨hc0, hf0⟩ := hacc.cellAt ((lesnF_at HZ.out).1); obtain ⟨hc1, hf1⟩ := hacc.cellAt ((lesnF_at HZ.out).2.1); obtain ⟨hc2, hf2⟩ := hacc.cellAt ((lesnF_at HZ.out).2.2.1); obtain ⟨hc3, hf3⟩ := hacc.cellAt ((lesnF_at HZ.out).2.2.2.1); obtain ⟨hc4, hf4⟩ := hacc.cellAt ((lesnF_at HZ.out).2.2.2.2.1); obtain ⟨hc5, hf5⟩ := hacc.cellAt ((lesnF_at HZ.out).2.2.2.2.2.1); obtain ⟨hc6, hf6⟩ := hacc.cellAt ((lesnF_at HZ.out).2.2.2.2.2.2); have HS := Lib.hid ((hacc.set (i * 7 + 4) d).set (i * 7 + 5) b); rw [HM.out] at HS; clear hacc hv hgl)
          refine (iAreLessons_any _ n c2 _ (xs.set i (movedL z d b)) _ HS.out.reads (Nat.le_refl _) hn).mono ?_
          rintro e w5 ⟨rfl, hb5⟩
          rw [HX.out, HOK.out]
          have O5 := Lib.hid (HS.out.later hb5)
          clear hb5 hc0 hc1 hc2 hc3 hc4 hc5 hc6 hf0 hf1 hf2 hf3 hf4 hf5 hf6
          obtain ⟨gb, go, x', hAx, hx', hd0, hd1, hd2, hd3, hd4, hd5, hd6⟩ := O5.out.reads.lesn hin
          injection hAx with hAx
          injection hAx with e1 e2
          subst e1 e2
          rw [List.getElem?_set_self (by rw [HL.out]; exact hin)] at hx'
          injection hx' with hx'
          subst hx'
          simp only [Nat.zero_add] at hd0 hd1 hd2 hd3 hd4 hd5 hd6
          go_wp2_with fail
          refine (isFree_v _ n c2 _ (xs.set i (movedL z d b)) (movedL z d b) (HF2.out.trans HFR.out) _ O5.out.reads (Nat.le_refl _) hn).mono ?_
          rintro e w6 ⟨rfl, hb6⟩
          have O6 := Lib.hid (O5.out.later hb6)
          clear hb6 hd0 hd1 hd2 hd3 hd4 hd5 hd6
          go_wp2
          go_ret2
          exact ⟨none, 0, 0, rfl, Acc.nil O6.out.ext⟩
        · rw [Bool.true_and, if_pos rfl]
          have HOK := Lib.hid hok
          have HFR := Lib.hid hfr
          clear hok hfr
          have HFV := Lib.hid hfv
          have HZ := Lib.hid hz
          have HG := Lib.hid ha
          have i0 : (0 : Int) ≤ i := by omega
          have i1 : (i : Int) < n := by omega
          have HX := Lib.hid (less_set HG.out HZ.out (show (movedL z d b).i = z.i from rfl))
          have HF2 := Lib.hid (free_set HZ.out (show (movedL z d b).i = z.i from rfl))
          have HM := Lib.hid (lesnF_move xs i z d b HZ.out)
          clear hz hfv
          go_enter Try.func45, Try.ntmps45
          go_wp2_with fail
          refine (lessonAt_any A n c B xs id _ H.out hB hn).mono ?_
          rintro e w1 ⟨rfl, hb1⟩
          rw [HFV.out]
          go_wp2_with fail
          refine (iAreLessons_any A n c B xs _ (H.out.below (hb1.mono hB)) (Nat.le_trans hB hb1.size) hn).mono ?_
          rintro e w2 ⟨rfl, hb2⟩
          rw [ha]
          have HB2 := Lib.hid (ext_trans hb1 hb2)
          clear hb1 hb2
          have R2 := Lib.hid (H.out.below (HB2.out.mono hB))
          have hB2 : B ≤ w2.heap.size := Nat.le_trans hB HB2.out.size
          clear ha
          go_wp2_with (at_builtin; refine appLesn rfl _ _ rfl rfl (Acc.empty HB2.out) rfl (R2.out.alloc hB2 _) (by omega) ?_; intro A2 c2 w3 hacc _; obtain ⟨g, cp, hv, _, hgl⟩ := hacc.own.form (by omega); (have hA2 : A2 = some ⟨g, 0, none⟩ := by injection hv); subst hA2; simp only [Nat.zero_add, List.nil_append] at hacc; obtain ⟨hc0, hf0⟩ := hacc.cellAt ((lesnF_at HZ.out).1); obtain ⟨hc1, hf1⟩ := hacc.cellAt ((lesnF_at HZ.out).2.1); obtain ⟨hc2, hf2⟩ := hacc.cellAt ((lesnF_at HZ.out).2.2.1); obtain ⟨hc3, hf3⟩ := hacc.cellAt ((lesnF_at HZ.out).2.2.2.1); obtain ⟨hc4, hf4⟩ := hacc.cellAt ((lesnF_at HZ.out).2.2.2.2.1); obtain ⟨hc5, hf5⟩ := hacc.cellAt ((lesnF_at HZ.out).2.2.2.2.2.1); obtain ⟨hc6, hf6⟩ := hacc.cellAt ((lesnF_at HZ.out).2.2.2.2.2.2); have HS := Lib.hid ((hacc.set (i * 7 + 4) d).set (i * 7 + 5) b); rw [HM.out] at HS; clear hacc hv hgl)
          refine (iAreLessons_any _ n c2 _ (xs.set i (movedL z d b)) _ HS.out.reads (Nat.le_refl _) hn).mono ?_
          rintro e w5 ⟨rfl, hb5⟩
          rw [HX.out, HOK.out]
          have O5 := Lib.hid (HS.out.later hb5)
          clear hb5 hc0 hc1 hc2 hc3 hc4 hc5 hc6 hf0 hf1 hf2 hf3 hf4 hf5 hf6
          obtain ⟨gb, go, x', hAx, hx', hd0, hd1, hd2, hd3, hd4, hd5, hd6⟩ := O5.out.reads.lesn hin
          injection hAx with hAx
          injection hAx with e1 e2
          subst e1 e2
          rw [List.getElem?_set_self (by rw [HL.out]; exact hin)] at hx'
          injection hx' with hx'
          subst hx'
          simp only [Nat.zero_add] at hd0 hd1 hd2 hd3 hd4 hd5 hd6
          go_wp2_with fail
          refine (isFree_v _ n c2 _ (xs.set i (movedL z d b)) (movedL z d b) (HF2.out.trans HFR.out) _ O5.out.reads (Nat.le_refl _) hn).mono ?_
          rintro e w6 ⟨rfl, hb6⟩
          have O6 := Lib.hid (O5.out.later hb6)
          clear hb6 hd0 hd1 hd2 hd3 hd4 hd5 hd6
          go_wp2
          go_ret2
          exact ⟨_, _, _, rfl, O6.out⟩
    · rw [(shift_none d b hf).1, (shift_none d b hf).2]
      have hfv : findV id xs = -1 := if_neg hf
      have HFV := Lib.hid hfv
      clear hf hfv
      go_enter Try.func45, Try.ntmps45
      go_wp2_with fail
      refine (lessonAt_any A n c B xs id _ H.out hB hn).mono ?_
      rintro e w1 ⟨rfl, hb1⟩
      rw [HFV.out]
      go_wp2_with fail
      refine (iAreLessons_any A n c B xs _ (H.out.below (hb1.mono hB)) (Nat.le_trans hB hb1.size) hn).mono ?_
      rintro e w2 ⟨rfl, hb2⟩
      rw [ha]
      have HB2 := Lib.hid (ext_trans hb1 hb2)
      clear hb1 hb2
      go_wp2
      go_ret2
      exact ⟨none, 0, 0, rfl, Acc.nil HB2.out⟩
set_option maxHeartbeats 4000000 in
theorem sShiftLesson_any (A : Option Addr) (n c B : Nat) (xs : List Lesn) (id d b : Int) (w : World) (h : Reads w B 7 A n ((lesnF xs).map (Value.int .i64))) (hB : B ≤ w.heap.size) (hn : n ≤ 1048576) :
    Calls Try.prog 44 #[.slice A n c, .int .i64 id, .int .i64 d, .int .i64 b] w fun e w' => Gives 25 7 (lesnF (shiftL xs id d b)) (shiftOk xs id d b) w e w' := by
  have hl := h.lesnLen
  have H := Lib.hid h
  have HL := Lib.hid hl
  clear h hl
  cases ha : lessB xs
  · rw [(shift_bad id d b ha).1, (shift_bad id d b ha).2]
    go_enter Try.func44, Try.ntmps44
    go_wp2_with fail
    refine (l11Find_any A n c B xs id _ H.out hB hn).mono ?_
    rintro e w1 ⟨rfl, hb1⟩
    go_wp2_with fail
    refine (l11Good_any A n c B xs _ (H.out.below (hb1.mono hB)) (Nat.le_trans hB hb1.size) hn).mono ?_
    rintro e w2 ⟨rfl, hb2⟩
    rw [ha]
    have HB2 := Lib.hid (ext_trans hb1 hb2)
    clear hb1 hb2
    go_wp2
    go_ret2
    exact ⟨_, _, _, rfl, Acc.empty HB2.out⟩
  · by_cases hf : findN id xs < xs.length
    · obtain ⟨z, hz⟩ : ∃ z, xs[findN id xs]? = some z := ⟨_, List.getElem?_eq_getElem hf⟩
      rw [(shift_at d b hz ha).1, (shift_at d b hz ha).2]
      have hfv : findV id xs = (findN id xs : Int) := if_pos hf
      have hin : findN id xs < n := by rw [HL.out] at hf; exact hf
      generalize findN id xs = i at hz hfv hin ⊢
      clear hf
      cases hvv : ((movedL z d b).ok && freeB xs (movedL z d b))
      · rw [if_neg (by simp)]
        have HVV := Lib.hid hvv
        clear hvv
        have HFV := Lib.hid hfv
        have HZ := Lib.hid hz
        have HG := Lib.hid ha
        have i0 : (0 : Int) ≤ i := by omega
        have i1 : (i : Int) < n := by omega
        have HX := Lib.hid (less_set HG.out HZ.out (show (movedL z d b).i = z.i from rfl))
        have HF2 := Lib.hid (free_set HZ.out (show (movedL z d b).i = z.i from rfl))
        have HM := Lib.hid (show ((((((((lesnF xs).set (i * 7) z.i).set (i * 7 + 1) z.c).set (i * 7 + 2) z.t).set (i * 7 + 3) z.r).set (i * 7 + 4) d).set (i * 7 + 5) b).set (i * 7 + 6) z.m) = lesnF (xs.set i (movedL z d b)) from lesnF_setS xs i (movedL z d b) (by rw [HL.out]; exact hin))
        clear hz hfv
        go_enter Try.func44, Try.ntmps44
        go_wp2_with fail
        refine (l11Find_any A n c B xs id _ H.out hB hn).mono ?_
        rintro e w1 ⟨rfl, hb1⟩
        rw [HFV.out]
        go_wp2_with fail
        refine (l11Good_any A n c B xs _ (H.out.below (hb1.mono hB)) (Nat.le_trans hB hb1.size) hn).mono ?_
        rintro e w2 ⟨rfl, hb2⟩
        rw [ha]
        have HB2 := Lib.hid (ext_trans hb1 hb2)
        clear hb1 hb2
        have R2 := Lib.hid (H.out.below (HB2.out.mono hB))
        have hB2 : B ≤ w2.heap.size := Nat.le_trans hB HB2.out.size
        clear ha
        have HV := Lib.hid (show (fitsB xs i (movedL z d b) && (movedL z d b).ok) = ((movedL z d b).ok && freeB xs (movedL z d b)) by rw [fits_free HG.out HZ.out (x := movedL z d b) rfl, Bool.and_comm])
        go_wp2_with fail
        refine (l11Fits_any _ n c B xs i z (movedL z d b) _ R2.out hB2 hn HZ.out rfl).mono ?_
        rintro e w4 ⟨rfl, hb4⟩
        rw [HV.out, HVV.out]
        have HB4 := Lib.hid (ext_trans HB2.out hb4)
        have R4 := Lib.hid (R2.out.below (hb4.mono hB2))
        have hB4 : B ≤ w4.heap.size := Nat.le_trans hB2 hb4.size
        clear hb4
        go_wp2
        go_ret2
        exact ⟨_, _, _, rfl, Acc.empty HB4.out⟩
      · rw [if_pos rfl]
        have HVV := Lib.hid hvv
        clear hvv
        have HFV := Lib.hid hfv
        have HZ := Lib.hid hz
        have HG := Lib.hid ha
        have i0 : (0 : Int) ≤ i := by omega
        have i1 : (i : Int) < n := by omega
        have HX := Lib.hid (less_set HG.out HZ.out (show (movedL z d b).i = z.i from rfl))
        have HF2 := Lib.hid (free_set HZ.out (show (movedL z d b).i = z.i from rfl))
        have HM := Lib.hid (show ((((((((lesnF xs).set (i * 7) z.i).set (i * 7 + 1) z.c).set (i * 7 + 2) z.t).set (i * 7 + 3) z.r).set (i * 7 + 4) d).set (i * 7 + 5) b).set (i * 7 + 6) z.m) = lesnF (xs.set i (movedL z d b)) from lesnF_setS xs i (movedL z d b) (by rw [HL.out]; exact hin))
        clear hz hfv
        go_enter Try.func44, Try.ntmps44
        go_wp2_with fail
        refine (l11Find_any A n c B xs id _ H.out hB hn).mono ?_
        rintro e w1 ⟨rfl, hb1⟩
        rw [HFV.out]
        go_wp2_with fail
        refine (l11Good_any A n c B xs _ (H.out.below (hb1.mono hB)) (Nat.le_trans hB hb1.size) hn).mono ?_
        rintro e w2 ⟨rfl, hb2⟩
        rw [ha]
        have HB2 := Lib.hid (ext_trans hb1 hb2)
        clear hb1 hb2
        have R2 := Lib.hid (H.out.below (HB2.out.mono hB))
        have hB2 : B ≤ w2.heap.size := Nat.le_trans hB HB2.out.size
        clear ha
        have HV := Lib.hid (show (fitsB xs i (movedL z d b) && (movedL z d b).ok) = ((movedL z d b).ok && freeB xs (movedL z d b)) by rw [fits_free HG.out HZ.out (x := movedL z d b) rfl, Bool.and_comm])
        go_wp2_with fail
        refine (l11Fits_any _ n c B xs i z (movedL z d b) _ R2.out hB2 hn HZ.out rfl).mono ?_
        rintro e w4 ⟨rfl, hb4⟩
        rw [HV.out, HVV.out]
        have HB4 := Lib.hid (ext_trans HB2.out hb4)
        have R4 := Lib.hid (R2.out.below (hb4.mono hB2))
        have hB4 : B ≤ w4.heap.size := Nat.le_trans hB2 hb4.size
        clear hb4
        go_wp2_with (at_builtin; refine appLesn rfl _ _ rfl rfl (Acc.empty HB4.out) rfl (R4.out.alloc hB4 _) (by omega) ?_; intro A2 c2 w3 hacc _; obtain ⟨g, cp, hv, _, hgl⟩ := hacc.own.form (by omega); (have hA2 : A2 = some ⟨g, 0, none⟩ := by injection hv); subst hA2; simp only [Nat.zero_add, List.nil_append] at hacc; obtain ⟨hc0, hf0⟩ := hacc.cellAt ((lesnF_at HZ.out).1); obtain ⟨hc1, hf1⟩ := hacc.cellAt ((lesnF_at HZ.out).2.1); obtain ⟨hc2, hf2⟩ := hacc.cellAt ((lesnF_at HZ.out).2.2.1); obtain ⟨hc3, hf3⟩ := hacc.cellAt ((lesnF_at HZ.out).2.2.2.1); obtain ⟨hc4, hf4⟩ := hacc.cellAt ((lesnF_at HZ.out).2.2.2.2.1); obtain ⟨hc5, hf5⟩ := hacc.cellAt ((lesnF_at HZ.out).2.2.2.2.2.1); obtain ⟨hc6, hf6⟩ := hacc.cellAt ((lesnF_at HZ.out).2.2.2.2.2.2); have HS := Lib.hid (((((((hacc.set (i * 7) z.i).set (i * 7 + 1) z.c).set (i * 7 + 2) z.t).set (i * 7 + 3) z.r).set (i * 7 + 4) d).set (i * 7 + 5) b).set (i * 7 + 6) z.m); rw [HM.out] at HS; clear hacc hv)
        go_ret2
        exact ⟨_, _, _, rfl, HS.out.alloc _⟩
    · rw [(shift_none d b hf).1, (shift_none d b hf).2]
      have hfv : findV id xs = -1 := if_neg hf
      have HFV := Lib.hid hfv
      clear hf hfv
      go_enter Try.func44, Try.ntmps44
      go_wp2_with fail
      refine (l11Find_any A n c B xs id _ H.out hB hn).mono ?_
      rintro e w1 ⟨rfl, hb1⟩
      rw [HFV.out]
      go_wp2_with fail
      refine (l11Good_any A n c B xs _ (H.out.below (hb1.mono hB)) (Nat.le_trans hB hb1.size) hn).mono ?_
      rintro e w2 ⟨rfl, hb2⟩
      rw [ha]
      have HB2 := Lib.hid (ext_trans hb1 hb2)
      clear hb1 hb2
      go_wp2
      go_ret2
      exact ⟨_, _, _, rfl, Acc.empty HB2.out⟩
set_option maxHeartbeats 4000000 in
theorem FnExactShiftLesson_any (A : Option Addr) (n c : Nat) (zs : List Int) (id : Int) (_ : (Lit.int .i64 id).wf = true) (d : Int) (_ : (Lit.int .i64 d).wf = true) (b : Int) (_ : (Lit.int .i64 b).wf = true) (w : World) (h : Reads w w.heap.size 7 A n (zs.map (Value.int .i64)) ∧ n ≤ maxLen) :
    Calls Try.prog 12 #[.slice A n c, .int .i64 id, .int .i64 d, .int .i64 b] w fun e w' => e = .returned (.bool true) ∧ Below w.heap.size w w' := by
  obtain ⟨h, hm⟩ := h
  obtain ⟨xs, rfl, hl⟩ := lesnF_of n zs (by simpa using h.1)
  have H := Lib.hid h
  clear h
  by_cases hn : n ≤ 1048576
  · have hzl : (shiftL xs id d b).length ≤ 1048577 := by have := shift_len xs id d b; omega
    clear hl
    have hS := fun (A : Option Addr) (n c B : Nat) (w : World) h hB hn => sShiftLesson_any A n c B xs id d b w h hB hn
    have hI := fun (A : Option Addr) (n c B : Nat) (w : World) h hB hn => iShiftLesson_any A n c B xs id d b w h hB hn
    generalize shiftL xs id d b = ys at hS hI hzl
    generalize shiftOk xs id d b = ok at hS hI
    have HS := Lib.hid hS
    have HI := Lib.hid hI
    clear hS hI
    go_enter Try.func12, Try.ntmps12
    go_wp2_with fail
    refine (szLessonS_any A n c hm _).mono ?_
    rintro e w' ⟨rfl, rfl⟩
    rw [if_pos hn]
    go_wp2_with fail
    refine (toLessonS_any A n c _ xs _ H.out (Nat.le_refl _) hn).mono ?_
    rintro e w1 ⟨A1, n1, c1, rfl, a1⟩
    have z1 := a1.reads.lesnLen
    have z0 := H.out.lesnLen
    obtain rfl : n1 = n := by omega
    have R1 := Lib.hid (H.out.below a1.ext)
    have E1 := Lib.hid a1.ext
    go_wp2_with fail
    refine (HS.out A1 n1 c1 _ _ a1.reads (Nat.le_refl _) hn).mono ?_
    rintro e w2 ⟨A0, n0, c0, rfl, h0⟩
    have R2 := Lib.hid (R1.out.below (h0.ext.mono E1.out.size))
    have E2 := Lib.hid (ext_trans E1.out h0.ext)
    have H0 := Lib.hid h0.reads
    have L0 : n0 ≤ 1048577 := by have := h0.reads.lesnLen; omega
    clear a1 z1 h0
    go_wp2_with fail
    refine (toLessonS_any A n1 c _ xs _ R2.out E2.out.size hn).mono ?_
    rintro e w3 ⟨A3, n3, c3, rfl, a3⟩
    have z3 := a3.reads.lesnLen
    obtain rfl : n3 = n1 := by omega
    have R3 := Lib.hid (R2.out.below (a3.ext.mono E2.out.size))
    have E3 := Lib.hid (ext_trans E2.out a3.ext)
    have H3 := Lib.hid (H0.out.below a3.ext)
    have O3 := Lib.hid a3
    have S23 : w2.heap.size ≤ w3.heap.size := a3.ext.size
    clear a3 z3
    go_wp2_with fail
    refine (HI.out A3 n3 c3 _ _ O3.out.reads (Nat.le_refl _) hn).mono ?_
    rintro e w4 ⟨A4, n4, c4, rfl, h4⟩
    have R4 := Lib.hid (R3.out.below (h4.ext.mono E3.out.size))
    have E4 := Lib.hid (ext_trans E3.out h4.ext)
    have H4 := Lib.hid (H3.out.below (h4.ext.mono S23))
    have O4 := Lib.hid (O3.out.later h4.ext)
    have G4 := Lib.hid h4
    have L4 : n4 ≤ 1048577 := by have := h4.reads.lesnLen; omega
    have S34 : w3.heap.size ≤ w4.heap.size := h4.ext.size
    have S24 : w2.heap.size ≤ w4.heap.size := Nat.le_trans S23 S34
    clear h4
    go_wp2_with fail
    refine (eqLessonS_any A4 A0 n4 n0 c4 c0 _ _ ys ys _ G4.out.reads H4.out (Nat.le_refl _) S24 (by unfold maxLen; omega) (by unfold maxLen; omega)).mono ?_
    rintro e v4 ⟨rfl, hv4⟩
    rw [decide_eq_true (rfl : ys = ys)]
    have V4 := Lib.hid hv4
    clear hv4
    go_wp2_with fail
    refine (toLessonS_any A n3 c _ xs _ (R4.out.below (V4.out.mono E4.out.size)) (Nat.le_trans E4.out.size V4.out.size) hn).mono ?_
    rintro e w5 ⟨A5, n5, c5, rfl, a5⟩
    have z5 := a5.reads.lesnLen
    obtain rfl : n5 = n3 := by omega
    have B45 := Lib.hid (ext_trans V4.out a5.ext)
    go_wp2_with fail
    refine (eqLessonS_any A3 A5 n5 n5 c3 c5 _ _ xs xs _ (O4.out.reads.below B45.out) a5.reads B45.out.size (Nat.le_refl _) (by unfold maxLen; omega) (by unfold maxLen; omega)).mono ?_
    rintro e w6 ⟨rfl, hb6⟩
    rw [decide_eq_true (rfl : xs = xs)]
    have B46 := Lib.hid (ext_trans B45.out hb6)
    have R6 := Lib.hid (R4.out.below (B46.out.mono E4.out.size))
    have E6 := Lib.hid (ext_trans E4.out B46.out)
    have H6 := Lib.hid (H4.out.below (B46.out.mono S24))
    have O6 := Lib.hid (O4.out.later B46.out)
    have G6 := Lib.hid (G4.out.later B46.out)
    have S46 : w4.heap.size ≤ w6.heap.size := B46.out.size
    clear hb6 a5 z5
    go_wp2_with fail
    refine (markLessonS_any A3 n5 c3 _ _ 1 _ O6.out.own (by omega) (by omega) (by omega)).mono ?_
    rintro e w7 ⟨rfl, _, hg7⟩
    have hrow3 : ∀ g, (Value.slice A3 n5 c3).ownBlock = some g → w2.heap.size ≤ g ∧ g < w3.heap.size := fun g hg => O3.out.own.lt g hg
    have hne4 : (Value.slice A4 n4 c4).ownBlock = none ∨ (Value.slice A4 n4 c4).ownBlock ≠ (Value.slice A3 n5 c3).ownBlock := by
      cases hv : (Value.slice A4 n4 c4).ownBlock with
      | none => exact .inl rfl
      | some g => exact .inr (fun e => by have h1 := (G4.out.own.lt g hv).1; have h2 := (hrow3 g e.symm).2; omega)
    have S26 : w2.heap.size ≤ w6.heap.size := by omega
    have H7 := Lib.hid (H6.out.grown hg7 S26 (fun g hg => (hrow3 g hg).1))
    have G7 := Lib.hid (G6.out.own.kept hg7 hne4)
    have E7 := Lib.hid (ext_grown E6.out hg7 (fun g hg => Nat.le_trans E2.out.size (hrow3 g hg).1))
    have S67 : w6.heap.size ≤ w7.heap.size := hg7.size
    have S27 : w2.heap.size ≤ w7.heap.size := Nat.le_trans S26 S67
    have hk1 : (0 : Int) ≤ 1 + ((n5 * 7 : Nat) : Int) := by omega
    clear hg7 hne4
    go_wp2_with fail
    refine (eqLessonS_any A4 A0 n4 n0 c4 c0 _ _ ys ys _ (Reads.of_own G7.out) H7.out (Nat.le_refl _) S27 (by unfold maxLen; omega) (by unfold maxLen; omega)).mono ?_
    rintro e v7 ⟨rfl, hv7⟩
    rw [decide_eq_true (rfl : ys = ys)]
    have V7 := Lib.hid hv7
    have S7v : w7.heap.size ≤ v7.heap.size := hv7.size
    clear hv7
    go_wp2_with fail
    refine (markLessonS_any A4 n4 c4 w3.heap.size (lesnF ys) 1 _ (own_below G7.out V7.out) (by omega) (by omega) (by omega)).mono ?_
    rintro e w8 ⟨rfl, hm8, hg8⟩
    have hrow4 : ∀ g, (Value.slice A4 n4 c4).ownBlock = some g → w3.heap.size ≤ g := fun g hg => (G4.out.own.lt g hg).1
    have H8 := Lib.hid ((H7.out.below (V7.out.mono S27)).grown hg8 (Nat.le_trans S27 S7v) (fun g hg => Nat.le_trans S23 (hrow4 g hg)))
    have E8 := Lib.hid (ext_grown (ext_trans E7.out V7.out) hg8 (fun g hg => Nat.le_trans E3.out.size (hrow4 g hg)))
    have G8 := Lib.hid hm8
    have S78 : v7.heap.size ≤ w8.heap.size := hg8.size
    have R8 := Lib.hid (H.out.below E8.out)
    clear hm8 hg8
    go_wp2_with fail
    refine (heldLessonS_any A4 n4 c4 _ 1 _ (Reads.of_own G8.out) (by omega) (by omega) (by omega)).mono ?_
    rintro e w' ⟨rfl, rfl⟩
    have hq1 : (0 : Int) ≤ 1 + ((n4 * 7 : Nat) : Int) := by omega
    go_wp2_with fail
    refine (toLessonS_any A n5 c _ xs _ R8.out E8.out.size hn).mono ?_
    rintro e w9 ⟨A9, n9, c9, rfl, a9⟩
    have z9 := a9.reads.lesnLen
    obtain rfl : n9 = n5 := by omega
    have B89 := Lib.hid a9.ext
    go_wp2_with fail
    refine (HI.out A9 n9 c9 _ _ a9.reads (Nat.le_refl _) hn).mono ?_
    rintro e w10 ⟨A10, n10, c10, rfl, h10⟩
    have B8 := Lib.hid (ext_trans B89.out h10.ext)
    have S8 : w8.heap.size ≤ w10.heap.size := B8.out.size
    have H10 := Lib.hid (H8.out.below (B8.out.mono (by omega)))
    have G10 := Lib.hid (own_below G8.out B8.out)
    have E10 := Lib.hid (ext_trans E8.out B8.out)
    have L10 : n10 ≤ 1048577 := by have := h10.reads.lesnLen; omega
    go_wp2_with fail
    refine (eqLessonS_any A10 A0 n10 n0 c10 c0 _ _ ys ys _ h10.reads H10.out (Nat.le_refl _) (by omega) (by unfold maxLen; omega) (by unfold maxLen; omega)).mono ?_
    rintro e v10 ⟨rfl, hv10⟩
    rw [decide_eq_true (rfl : ys = ys)]
    go_wp2_with fail
    refine (heldLessonS_any A4 n4 c4 _ 1 _ (Reads.of_own (own_below G10.out hv10)) (by omega) (by omega) (by omega)).mono ?_
    rintro e w' ⟨rfl, rfl⟩
    go_wp2_with fail
    go_ret
    exact ⟨rfl, ext_trans E10.out hv10⟩
  · go_enter Try.func12, Try.ntmps12
    go_wp2_with fail
    refine (szLessonS_any A n c hm _).mono ?_
    rintro e w' ⟨rfl, rfl⟩
    rw [if_neg hn]
    go_wp2_with fail
    go_ret
    exact ⟨rfl, Below.refl _ _⟩
end Go.Proofs.Ytnndhgeddfghcaa
