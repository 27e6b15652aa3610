/- How many words a script carries out, and the rod at its end; the laws. No condition. -/
import Derived.Test.YtianniocjhgllaaRule2
namespace Go.Proofs.Ytianniocjhgllaa
open Go.RowKit

def wordsT (s : ByteArray) : Value := if scriptB s = true then .tuple #[.int .i64 (timesS (wordsB s)), .bool true] else .tuple #[.int .i64 0, .bool false]
theorem wordsT_form (s : ByteArray) : ∃ r ok, wordsT s = .tuple #[.int .i64 r, .bool ok] := by unfold wordsT; split <;> exact ⟨_, _, rfl⟩
theorem rodT_form (s : ByteArray) (rods : Int) : ∃ r ok, rodT s rods = .tuple #[.int .i64 r, .bool ok] := by unfold rodT; split <;> exact ⟨_, _, rfl⟩
theorem times_step {ws : List ByteArray} {k : Nat} {wd : ByteArray} (hw : ws[k]? = some wd) (hl : ws.length ≤ 81) : wrap64 (timesS (ws.take k) + wordT wd) = timesS (ws.take (k + 1)) ∧ 0 ≤ timesS (ws.take k) ∧ timesS (ws.take k) ≤ 729 := by
  have h1 := timesS_bd (ws.take k)
  have h2 := wordT_bd wd
  rw [List.length_take] at h1
  rw [timesS_at hw]
  exact ⟨IntWalk.wrap64_in _ ⟨by omega, by omega⟩, by omega, by omega⟩
set_option maxHeartbeats 1000000 in
theorem sWordsOf_any (s : ByteArray) (w : World) :
    Calls Try.prog 12 #[.string s] w fun e w' => e = .returned (wordsT s) ∧ Below w.heap.size w w' := by
  cases hs : scriptB s
  · have HT := Lib.hid (show wordsT s = .tuple #[.int .i64 0, .bool false] by unfold wordsT; rw [hs]; simp)
    go_enter Try.func12, Try.ntmps12
    go_wp2_with fail
    refine (l15Good_any s _).mono ?_
    rintro e w1 ⟨rfl, h1⟩
    rw [hs]
    go_wp2_with fail
    go_ret2
    exact ⟨by rw [HT.out]; rfl, h1⟩
  · have HT := Lib.hid (show wordsT s = .tuple #[.int .i64 (timesS (wordsB s)), .bool true] by unfold wordsT; rw [hs]; simp)
    obtain ⟨h80, hall⟩ := script_small hs
    have hl := words_len h80
    go_enter Try.func12, Try.ntmps12
    go_wp2_with fail
    refine (l15Good_any s _).mono ?_
    rintro e w0 ⟨rfl, h0⟩
    rw [hs]
    go_wp2_with fail
    refine (l15Words_any s (by omega) _).mono ?_
    rintro e w1 ⟨A, n, c, rfl, ha⟩
    have HA := Lib.hid ha
    have hn : (wordsB s).length = n := ha.reads.strLen
    clear ha
    generalize wordsB s = ws at *
    have HL := Lib.hid hn
    have HO := Lib.hid hall
    have HZ := Lib.hid hl
    have HB0 := Lib.hid h0
    have hn81 : n ≤ 81 := by omega
    clear hn hl h80 hs h0 hall
    go_wp2_with fail
    go_loopw [5, 6] (fun p q wr => ∃ k : Nat, q = .int .i64 k ∧ k ≤ n ∧ p = .int .i64 (timesS (ws.take k)) ∧ Below w1.heap.size w1 wr) (fun _ q _ => n - (intOf q).toNat)
    case atStart => exact ⟨0, rfl, by omega, rfl, Below.refl _ _⟩
    case round =>
      obtain ⟨wo, rfl⟩ : ∃ wo : World, wo = wr := ⟨_, rfl⟩
      obtain ⟨k, rfl, hk, rfl, hb⟩ := hrel
      have HB := Lib.hid hb
      clear hb
      have k0 : (0 : Int) ≤ k := by omega
      by_cases hlt : k < n
      · obtain ⟨b, o, wd, rfl, hw, hcell⟩ := (HA.out.reads.below HB.out).str hlt
        have HX := Lib.hid hw
        clear hw
        have k1 : (k : Int) < n := by omega
        obtain ⟨e1, b1, b2⟩ := times_step HX.out HZ.out
        have t1 := wordT_bd wd
        have HE := Lib.hid e1
        clear e1
        go_wp2_with fail
        refine (l15Times_any wd (all_at HX.out HO.out) _).mono ?_
        rintro e w3 ⟨rfl, h3⟩
        have e2 : wrap64 (timesS (ws.take k) + wordT wd) = timesS (ws.take k) + wordT wd := IntWalk.wrap64_in _ ⟨by omega, by omega⟩
        have HE2 := Lib.hid (show timesS (ws.take k) + wordT wd = timesS (ws.take (k + 1)) by rw [← HE.out, e2])
        go_wp2_with fail
        go_roundw
        case rel => exact ⟨k + 1, by go_num, by omega, by rw [HE2.out], ext_trans HB.out h3⟩
        case measure => simp [intOf]; omega
      · have hk' : ws.take k = ws := List.take_of_length_le (by have := HL.out; omega)
        rw [hk']
        go_wp2_with fail
        go_ret2
        exact ⟨by rw [HT.out]; rfl, ext_trans (ext_trans HB0.out HA.out.ext) HB.out⟩
set_option maxHeartbeats 1000000 in
theorem iWordsOf_any (s : ByteArray) (w : World) :
    Calls Try.prog 13 #[.string s] w fun e w' => e = .returned (wordsT s) ∧ Below w.heap.size w w' := by
  cases hs : scriptB s
  · have HT := Lib.hid (show wordsT s = .tuple #[.int .i64 0, .bool false] by unfold wordsT; rw [hs]; simp)
    go_enter Try.func13, Try.ntmps13
    go_wp2_with fail
    refine (rulesOf_any s _).mono ?_
    rintro e w1 ⟨A, n, c, rfl, ha⟩
    rw [hs]
    go_wp2_with fail
    go_ret2
    exact ⟨by rw [HT.out]; rfl, ha.ext⟩
  · have HT := Lib.hid (show wordsT s = .tuple #[.int .i64 (timesS (wordsB s)), .bool true] by unfold wordsT; rw [hs]; simp)
    obtain ⟨h80, hall⟩ := script_small hs
    have hl := words_len h80
    go_enter Try.func13, Try.ntmps13
    go_wp2_with fail
    refine (rulesOf_any s _).mono ?_
    rintro e w1 ⟨A, n, c, rfl, ha⟩
    rw [hs]
    rw [ruleO_yes hs] at ha
    have HA := Lib.hid ha
    have hn : (wordsB s).length = n := by have := ha.len; rw [ruleF_len] at this; omega
    clear ha
    generalize wordsB s = ws at *
    have HL := Lib.hid hn
    have HZ := Lib.hid hl
    have hn81 : n ≤ 81 := by omega
    clear hn hl h80 hs hall
    go_wp2_with fail
    go_loopw [6, 18] (fun p q wr => ∃ k : Nat, q = .int .i64 k ∧ k ≤ n ∧ p = .int .i64 (timesS (ws.take k)) ∧ Below w1.heap.size w1 wr) (fun _ q _ => n - (intOf q).toNat)
    case atStart => exact ⟨0, rfl, by omega, rfl, Below.refl _ _⟩
    case round =>
      obtain ⟨wo, rfl⟩ : ∃ wo : World, wo = wr := ⟨_, rfl⟩
      obtain ⟨k, rfl, hk, rfl, hb⟩ := hrel
      have HB := Lib.hid hb
      clear hb
      have k0 : (0 : Int) ≤ k := by omega
      by_cases hlt : k < n
      · have hw : ws[k]? = some (ws[k]'(by rw [HL.out]; exact hlt)) := List.getElem?_eq_getElem _
        generalize ws[k]'(by rw [HL.out]; exact hlt) = wd at hw
        obtain ⟨b, o, rfl, r1, r2, r3⟩ := (HA.out.reads.below HB.out).rule hw hlt
        have HX := Lib.hid hw
        clear hw
        have k1 : (k : Int) < n := by omega
        obtain ⟨e1, b1, b2⟩ := times_step HX.out HZ.out
        have t1 := wordT_bd wd
        have HE := Lib.hid e1
        clear e1
        have e2 : wrap64 (timesS (ws.take k) + wordT wd) = timesS (ws.take k) + wordT wd := IntWalk.wrap64_in _ ⟨by omega, by omega⟩
        have HE2 := Lib.hid (show timesS (ws.take k) + wordT wd = timesS (ws.take (k + 1)) by rw [← HE.out, e2])
        go_wp2_with fail
        go_roundw
        case rel => exact ⟨k + 1, by go_num, by omega, by rw [HE2.out], ext_alloc HB.out _⟩
        case measure => simp [intOf]; omega
      · have hk' : ws.take k = ws := List.take_of_length_le (by have := HL.out; omega)
        rw [hk']
        go_wp2_with fail
        go_ret2
        exact ⟨by rw [HT.out]; rfl, ext_trans HA.out.ext HB.out⟩
set_option maxHeartbeats 1000000 in
theorem FnExactWordsOf_any (s : ByteArray) (_ : s.size ≤ maxLen) (w : World) :
    Calls Try.prog 5 #[.string s] w fun e w' => e = .returned (.bool true) ∧ Below w.heap.size w w' := by
  by_cases hs : s.size ≤ 1048576
  · have h1 : ¬ (1048576 : Int) < s.size := by omega
    obtain ⟨r, ok, ht⟩ := wordsT_form s
    have HV := Lib.hid ht
    have he : (ok != ok) = false := by simp
    clear hs ht
    go_enter Try.func5, Try.ntmps5
    go_wp2_with fail
    refine (sWordsOf_any s _).mono ?_
    rintro e w1 ⟨rfl, h1⟩
    rw [HV.out]
    go_wp2_with fail
    refine (iWordsOf_any s _).mono ?_
    rintro e w2 ⟨rfl, h2⟩
    rw [HV.out]
    go_wp2_with fail
    go_ret
    exact ⟨rfl, ext_trans h1 h2⟩
  · have h1 : (1048576 : Int) < s.size := by omega
    clear hs
    go_enter Try.func5, Try.ntmps5
    go_wp2_with fail
    go_ret
    exact ⟨rfl, Below.refl _ _⟩
set_option maxRecDepth 100000 in
set_option maxHeartbeats 2000000 in
theorem sEndRod_any (s : ByteArray) (rods : Int) (w : World) :
    Calls Try.prog 14 #[.string s, .int .i64 rods] w fun e w' => e = .returned (rodT s rods) ∧ Below w.heap.size w w' := by
  cases hs : scriptB s
  · have HT := Lib.hid (show rodT s rods = .tuple #[.int .i64 0, .bool false] by unfold rodT rodV; rw [hs]; simp)
    go_enter Try.func14, Try.ntmps14
    go_wp2_with fail
    refine (l15Good_any s _).mono ?_
    rintro e w0 ⟨rfl, h0⟩
    rw [hs]
    go_wp2_with fail
    go_ret2
    exact ⟨by rw [HT.out]; rfl, h0⟩
  cases hr : inB rods 1 8
  · have HT := Lib.hid (show rodT s rods = .tuple #[.int .i64 0, .bool false] by unfold rodT rodV; rw [hr]; simp)
    go_enter Try.func14, Try.ntmps14
    go_wp2_with fail
    refine (l15Good_any s _).mono ?_
    rintro e w0 ⟨rfl, h0⟩
    rw [hs]
    go_wp2_with fail
    refine (l1In_any _ _ _ _).mono ?_
    rintro e w' ⟨rfl, rfl⟩
    rw [hr]
    go_wp2_with fail
    go_ret2
    exact ⟨by rw [HT.out]; rfl, h0⟩
  · have HV := Lib.hid (show rodV s rods = rodGo rods (wordsB s) (rods - 1) by unfold rodV; rw [hs, hr]; simp)
    obtain ⟨h80, hall⟩ := script_small hs
    have hl := words_len h80
    have hr' := inB_true hr
    have r1 := hr'.1
    have r2 := hr'.2
    have wr1 : wrap64 (rods - 1) = rods - 1 := IntWalk.wrap64_in _ ⟨by omega, by omega⟩
    go_enter Try.func14, Try.ntmps14
    go_wp2_with fail
    refine (l15Good_any s _).mono ?_
    rintro e w0 ⟨rfl, h0⟩
    rw [hs]
    go_wp2_with fail
    refine (l1In_any _ _ _ _).mono ?_
    rintro e w' ⟨rfl, rfl⟩
    rw [hr]
    go_wp2_with fail
    refine (l15Words_any s (by omega) _).mono ?_
    rintro e w1 ⟨A, n, c, rfl, ha⟩
    have HA := Lib.hid ha
    have HB0 := Lib.hid h0
    have hn : (wordsB s).length = n := ha.reads.strLen
    clear ha h0
    generalize hws : wordsB s = ws at *
    have HL := Lib.hid hn
    have HO := Lib.hid hall
    have HW := Lib.hid hws
    have hn81 : n ≤ 81 := by omega
    clear hn hl h80 hs hall hr hr' hws
    go_wp2_with fail
    go_loopw [7, 8] (fun p q wr => ∃ (k : Nat) (r : Int), q = .int .i64 k ∧ k ≤ n ∧ p = .int .i64 r ∧ 0 ≤ r ∧ r ≤ 7 ∧ rodGo rods (ws.drop k) r = rodGo rods ws (rods - 1) ∧ Below w1.heap.size w1 wr) (fun _ q _ => n - (intOf q).toNat)
    case atStart => exact ⟨0, _, rfl, by omega, rfl, by omega, by omega, rfl, Below.refl _ _⟩
    case round =>
      obtain ⟨wo, rfl⟩ : ∃ wo : World, wo = wr := ⟨_, rfl⟩
      obtain ⟨k, r, rfl, hk, rfl, r0, r7, hgo, hb⟩ := hrel
      have HB := Lib.hid hb
      have HG := Lib.hid hgo
      clear hb hgo
      have k0 : (0 : Int) ≤ k := by omega
      by_cases hlt : k < n
      · obtain ⟨b, o, wd, rfl, hw, hcell⟩ := (HA.out.reads.below HB.out).str hlt
        have HX := Lib.hid hw
        clear hw
        have k1 : (k : Int) < n := by omega
        have t1 := wordT_bd wd
        have hwk := all_at HX.out HO.out
        have HK := Lib.hid hwk
        clear hwk
        by_cases hc : byteAt (wordP wd) 0 = 60
        · skip
          have q1 : ((wordP wd).toList == [60]) = true := by rw [ByteArray.toList_eq, plain_lt HK.out]; simp; omega
          have q2 : ((wordP wd).toList == [62]) = false := by rw [ByteArray.toList_eq, plain_gt HK.out]; simp; omega
          have p1 := q1
          have p2 := q2
          simp only [beq_iff_eq] at q1
          simp only [beq_eq_false_iff_ne, ne_eq] at q2
          have HS := Lib.hid (show rodStep wd r = r - wordT wd by unfold rodStep; rw [if_pos hc])
          clear hc
          have wst : wrap64 (r - wordT wd) = r - wordT wd := IntWalk.wrap64_in _ ⟨by omega, by omega⟩
          cases hin : inB (r - wordT wd) 0 (rods - 1)
          · have HN := Lib.hid (rodGo_out (rods := rods) (r := r) HX.out (by rw [HS.out]; exact hin))
            have HI := Lib.hid hin
            skip
            clear hin
            go_wp2_with fail
            refine (l15Times_any wd HK.out _).mono ?_
            rintro e w3 ⟨rfl, h3⟩
            go_wp2_with fail
            refine (l1In_any _ _ _ _).mono ?_
            rintro e w' ⟨rfl, hww⟩
            subst hww
            rw [HI.out]
            go_wp2_with fail
            go_ret2
            have : rodT s rods = .tuple #[.int .i64 0, .bool false] := by unfold rodT; rw [HV.out, ← HG.out, HN.out]
            exact ⟨by rw [this]; rfl, ext_trans (ext_trans HB0.out HA.out.ext) (ext_trans HB.out h3)⟩
          · have HN := Lib.hid (rodGo_next (rods := rods) (r := r) HX.out (by rw [HS.out]; exact hin))
            have HI := Lib.hid hin
            have hI := inB_true hin
            clear hin
            go_wp2_with fail
            refine (l15Times_any wd HK.out _).mono ?_
            rintro e w3 ⟨rfl, h3⟩
            go_wp2_with fail
            refine (l1In_any _ _ _ _).mono ?_
            rintro e w' ⟨rfl, hww⟩
            subst hww
            rw [HI.out]
            go_wp2_with fail
            go_roundw
            case rel => exact ⟨k + 1, _, by go_num, by omega, rfl, by omega, by omega, by rw [← HG.out, HN.out, HS.out], ext_trans HB.out h3⟩
            case measure => simp [intOf]; omega
        have h60 := hc
        clear hc
        by_cases hc : byteAt (wordP wd) 0 = 62
        · skip
          have q1 : ((wordP wd).toList == [60]) = false := by rw [ByteArray.toList_eq, plain_lt HK.out]; simp; omega
          have q2 : ((wordP wd).toList == [62]) = true := by rw [ByteArray.toList_eq, plain_gt HK.out]; simp; omega
          have p1 := q1
          have p2 := q2
          simp only [beq_eq_false_iff_ne, ne_eq] at q1
          simp only [beq_iff_eq] at q2
          have HS := Lib.hid (show rodStep wd r = r + wordT wd by unfold rodStep; rw [if_neg h60, if_pos hc])
          clear hc
          clear h60
          have wst : wrap64 (r + wordT wd) = r + wordT wd := IntWalk.wrap64_in _ ⟨by omega, by omega⟩
          cases hin : inB (r + wordT wd) 0 (rods - 1)
          · have HN := Lib.hid (rodGo_out (rods := rods) (r := r) HX.out (by rw [HS.out]; exact hin))
            have HI := Lib.hid hin
            skip
            clear hin
            go_wp2_with fail
            refine (l15Times_any wd HK.out _).mono ?_
            rintro e w3 ⟨rfl, h3⟩
            go_wp2_with fail
            refine (l1In_any _ _ _ _).mono ?_
            rintro e w' ⟨rfl, hww⟩
            subst hww
            rw [HI.out]
            go_wp2_with fail
            go_ret2
            have : rodT s rods = .tuple #[.int .i64 0, .bool false] := by unfold rodT; rw [HV.out, ← HG.out, HN.out]
            exact ⟨by rw [this]; rfl, ext_trans (ext_trans HB0.out HA.out.ext) (ext_trans HB.out h3)⟩
          · have HN := Lib.hid (rodGo_next (rods := rods) (r := r) HX.out (by rw [HS.out]; exact hin))
            have HI := Lib.hid hin
            have hI := inB_true hin
            clear hin
            go_wp2_with fail
            refine (l15Times_any wd HK.out _).mono ?_
            rintro e w3 ⟨rfl, h3⟩
            go_wp2_with fail
            refine (l1In_any _ _ _ _).mono ?_
            rintro e w' ⟨rfl, hww⟩
            subst hww
            rw [HI.out]
            go_wp2_with fail
            go_roundw
            case rel => exact ⟨k + 1, _, by go_num, by omega, rfl, by omega, by omega, by rw [← HG.out, HN.out, HS.out], ext_trans HB.out h3⟩
            case measure => simp [intOf]; omega
        have h62 := hc
        clear hc
        skip
        have q1 : ((wordP wd).toList == [60]) = false := by rw [ByteArray.toList_eq, plain_lt HK.out]; simp; omega
        have q2 : ((wordP wd).toList == [62]) = false := by rw [ByteArray.toList_eq, plain_gt HK.out]; simp; omega
        have p1 := q1
        have p2 := q2
        simp only [beq_eq_false_iff_ne, ne_eq] at q1
        simp only [beq_eq_false_iff_ne, ne_eq] at q2
        have HS := Lib.hid (show rodStep wd r = r by unfold rodStep; rw [if_neg h60, if_neg h62])
        clear h60
        clear h62
        cases hin : inB (r) 0 (rods - 1)
        · have HN := Lib.hid (rodGo_out (rods := rods) (r := r) HX.out (by rw [HS.out]; exact hin))
          have HI := Lib.hid hin
          skip
          clear hin
          go_wp2_with fail
          refine (l15Times_any wd HK.out _).mono ?_
          rintro e w3 ⟨rfl, h3⟩
          go_wp2_with fail
          refine (l1In_any _ _ _ _).mono ?_
          rintro e w' ⟨rfl, hww⟩
          subst hww
          rw [HI.out]
          go_wp2_with fail
          go_ret2
          have : rodT s rods = .tuple #[.int .i64 0, .bool false] := by unfold rodT; rw [HV.out, ← HG.out, HN.out]
          exact ⟨by rw [this]; rfl, ext_trans (ext_trans HB0.out HA.out.ext) (ext_trans HB.out h3)⟩
        · have HN := Lib.hid (rodGo_next (rods := rods) (r := r) HX.out (by rw [HS.out]; exact hin))
          have HI := Lib.hid hin
          have hI := inB_true hin
          clear hin
          go_wp2_with fail
          refine (l15Times_any wd HK.out _).mono ?_
          rintro e w3 ⟨rfl, h3⟩
          go_wp2_with fail
          refine (l1In_any _ _ _ _).mono ?_
          rintro e w' ⟨rfl, hww⟩
          subst hww
          rw [HI.out]
          go_wp2_with fail
          go_roundw
          case rel => exact ⟨k + 1, _, by go_num, by omega, rfl, by omega, by omega, by rw [← HG.out, HN.out, HS.out], ext_trans HB.out h3⟩
          case measure => simp [intOf]; omega
      · have hk' : ws.drop k = [] := List.drop_of_length_le (by have := HL.out; omega)
        rw [hk'] at HG
        have : rodT s rods = .tuple #[.int .i64 r, .bool true] := by unfold rodT; rw [HV.out, ← HG.out]; rfl
        have HT := Lib.hid this
        clear this
        go_wp2_with fail
        go_ret2
        exact ⟨by rw [HT.out]; rfl, ext_trans (ext_trans HB0.out HA.out.ext) HB.out⟩
set_option maxRecDepth 100000 in
set_option maxHeartbeats 2000000 in
theorem iEndRod_any (s : ByteArray) (rods : Int) (w : World) :
    Calls Try.prog 15 #[.string s, .int .i64 rods] w fun e w' => e = .returned (rodT s rods) ∧ Below w.heap.size w w' := by
  cases hs : scriptB s
  · have HT := Lib.hid (show rodT s rods = .tuple #[.int .i64 0, .bool false] by unfold rodT rodV; rw [hs]; simp)
    go_enter Try.func15, Try.ntmps15
    go_wp2_with fail
    refine (rulesOf_any s _).mono ?_
    rintro e w0 ⟨A, n, c, rfl, ha⟩
    rw [hs]
    go_wp2_with fail
    go_ret2
    exact ⟨by rw [HT.out]; rfl, ha.ext⟩
  cases hr : inB rods 1 8
  · have HT := Lib.hid (show rodT s rods = .tuple #[.int .i64 0, .bool false] by unfold rodT rodV; rw [hr]; simp)
    go_enter Try.func15, Try.ntmps15
    go_wp2_with fail
    refine (rulesOf_any s _).mono ?_
    rintro e w0 ⟨A, n, c, rfl, ha⟩
    rw [hs]
    go_wp2_with fail
    refine (within_any _ _ _ _).mono ?_
    rintro e w' ⟨rfl, rfl⟩
    rw [hr]
    go_wp2_with fail
    go_ret2
    exact ⟨by rw [HT.out]; rfl, ha.ext⟩
  · have HV := Lib.hid (show rodV s rods = rodGo rods (wordsB s) (rods - 1) by unfold rodV; rw [hs, hr]; simp)
    obtain ⟨h80, hall⟩ := script_small hs
    have hl := words_len h80
    have hr' := inB_true hr
    have r1 := hr'.1
    have r2 := hr'.2
    have wr1 : wrap64 (rods - 1) = rods - 1 := IntWalk.wrap64_in _ ⟨by omega, by omega⟩
    go_enter Try.func15, Try.ntmps15
    go_wp2_with fail
    refine (rulesOf_any s _).mono ?_
    rintro e w0 ⟨A, n, c, rfl, ha⟩
    rw [hs]
    rw [ruleO_yes hs] at ha
    go_wp2_with fail
    refine (within_any _ _ _ _).mono ?_
    rintro e w1 ⟨rfl, hww⟩
    subst hww
    rw [hr]
    have HA := Lib.hid ha
    have hn : (wordsB s).length = n := by have := ha.len; rw [ruleF_len] at this; omega
    clear ha
    generalize hws : wordsB s = ws at *
    have HL := Lib.hid hn
    have HO := Lib.hid hall
    have HW := Lib.hid hws
    have hn81 : n ≤ 81 := by omega
    clear hn hl h80 hs hall hr hr' hws
    go_wp2_with fail
    go_loopw [8, 27] (fun p q wr => ∃ (k : Nat) (r : Int), q = .int .i64 k ∧ k ≤ n ∧ p = .int .i64 r ∧ 0 ≤ r ∧ r ≤ 7 ∧ rodGo rods (ws.drop k) r = rodGo rods ws (rods - 1) ∧ Below w0.heap.size w0 wr) (fun _ q _ => n - (intOf q).toNat)
    case atStart => exact ⟨0, _, rfl, by omega, rfl, by omega, by omega, rfl, Below.refl _ _⟩
    case round =>
      obtain ⟨wo, rfl⟩ : ∃ wo : World, wo = wr := ⟨_, rfl⟩
      obtain ⟨k, r, rfl, hk, rfl, r0, r7, hgo, hb⟩ := hrel
      have HB := Lib.hid hb
      have HG := Lib.hid hgo
      clear hb hgo
      have k0 : (0 : Int) ≤ k := by omega
      by_cases hlt : k < n
      · have hw : ws[k]? = some (ws[k]'(by rw [HL.out]; exact hlt)) := List.getElem?_eq_getElem _
        generalize ws[k]'(by rw [HL.out]; exact hlt) = wd at hw
        obtain ⟨b, o, rfl, c1, c2, c3⟩ := (HA.out.reads.below HB.out).rule hw hlt
        have HX := Lib.hid hw
        clear hw
        have k1 : (k : Int) < n := by omega
        have t1 := wordT_bd wd
        have hwk := all_at HX.out HO.out
        have HK := Lib.hid hwk
        clear hwk
        by_cases hc : byteAt (wordP wd) 0 = 60
        · skip
          have q1 : (byteAt (wordP wd) 0 == 60) = true := by simp; omega
          have q2 : (byteAt (wordP wd) 0 == 62) = false := by simp; omega
          have HS := Lib.hid (show rodStep wd r = r - wordT wd by unfold rodStep; rw [if_pos hc])
          clear hc
          have wst : wrap64 (r - wordT wd) = r - wordT wd := IntWalk.wrap64_in _ ⟨by omega, by omega⟩
          cases hin : inB (r - wordT wd) 0 (rods - 1)
          · have HN := Lib.hid (rodGo_out (rods := rods) (r := r) HX.out (by rw [HS.out]; exact hin))
            have HI := Lib.hid hin
            skip
            clear hin
            go_wp2_with fail
            refine (within_any _ _ _ _).mono ?_
            rintro e w' ⟨rfl, hww⟩
            subst hww
            rw [HI.out]
            go_wp2_with fail
            go_ret2
            have : rodT s rods = .tuple #[.int .i64 0, .bool false] := by unfold rodT; rw [HV.out, ← HG.out, HN.out]
            exact ⟨by rw [this]; rfl, ext_trans HA.out.ext (ext_alloc HB.out _)⟩
          · have HN := Lib.hid (rodGo_next (rods := rods) (r := r) HX.out (by rw [HS.out]; exact hin))
            have HI := Lib.hid hin
            have hI := inB_true hin
            clear hin
            go_wp2_with fail
            refine (within_any _ _ _ _).mono ?_
            rintro e w' ⟨rfl, hww⟩
            subst hww
            rw [HI.out]
            go_wp2_with fail
            go_roundw
            case rel => exact ⟨k + 1, _, by go_num, by omega, rfl, by omega, by omega, by rw [← HG.out, HN.out, HS.out], ext_alloc HB.out _⟩
            case measure => simp [intOf]; omega
        have h60 := hc
        clear hc
        by_cases hc : byteAt (wordP wd) 0 = 62
        · skip
          have q1 : (byteAt (wordP wd) 0 == 60) = false := by simp; omega
          have q2 : (byteAt (wordP wd) 0 == 62) = true := by simp; omega
          have HS := Lib.hid (show rodStep wd r = r + wordT wd by unfold rodStep; rw [if_neg h60, if_pos hc])
          clear hc
          clear h60
          have wst : wrap64 (r + wordT wd) = r + wordT wd := IntWalk.wrap64_in _ ⟨by omega, by omega⟩
          cases hin : inB (r + wordT wd) 0 (rods - 1)
          · have HN := Lib.hid (rodGo_out (rods := rods) (r := r) HX.out (by rw [HS.out]; exact hin))
            have HI := Lib.hid hin
            skip
            clear hin
            go_wp2_with fail
            refine (within_any _ _ _ _).mono ?_
            rintro e w' ⟨rfl, hww⟩
            subst hww
            rw [HI.out]
            go_wp2_with fail
            go_ret2
            have : rodT s rods = .tuple #[.int .i64 0, .bool false] := by unfold rodT; rw [HV.out, ← HG.out, HN.out]
            exact ⟨by rw [this]; rfl, ext_trans HA.out.ext (ext_alloc HB.out _)⟩
          · have HN := Lib.hid (rodGo_next (rods := rods) (r := r) HX.out (by rw [HS.out]; exact hin))
            have HI := Lib.hid hin
            have hI := inB_true hin
            clear hin
            go_wp2_with fail
            refine (within_any _ _ _ _).mono ?_
            rintro e w' ⟨rfl, hww⟩
            subst hww
            rw [HI.out]
            go_wp2_with fail
            go_roundw
            case rel => exact ⟨k + 1, _, by go_num, by omega, rfl, by omega, by omega, by rw [← HG.out, HN.out, HS.out], ext_alloc HB.out _⟩
            case measure => simp [intOf]; omega
        have h62 := hc
        clear hc
        skip
        have q1 : (byteAt (wordP wd) 0 == 60) = false := by simp; omega
        have q2 : (byteAt (wordP wd) 0 == 62) = false := by simp; omega
        have HS := Lib.hid (show rodStep wd r = r by unfold rodStep; rw [if_neg h60, if_neg h62])
        clear h60
        clear h62
        cases hin : inB (r) 0 (rods - 1)
        · have HN := Lib.hid (rodGo_out (rods := rods) (r := r) HX.out (by rw [HS.out]; exact hin))
          have HI := Lib.hid hin
          skip
          clear hin
          go_wp2_with fail
          refine (within_any _ _ _ _).mono ?_
          rintro e w' ⟨rfl, hww⟩
          subst hww
          rw [HI.out]
          go_wp2_with fail
          go_ret2
          have : rodT s rods = .tuple #[.int .i64 0, .bool false] := by unfold rodT; rw [HV.out, ← HG.out, HN.out]
          exact ⟨by rw [this]; rfl, ext_trans HA.out.ext (ext_alloc HB.out _)⟩
        · have HN := Lib.hid (rodGo_next (rods := rods) (r := r) HX.out (by rw [HS.out]; exact hin))
          have HI := Lib.hid hin
          have hI := inB_true hin
          clear hin
          go_wp2_with fail
          refine (within_any _ _ _ _).mono ?_
          rintro e w' ⟨rfl, hww⟩
          subst hww
          rw [HI.out]
          go_wp2_with fail
          go_roundw
          case rel => exact ⟨k + 1, _, by go_num, by omega, rfl, by omega, by omega, by rw [← HG.out, HN.out, HS.out], ext_alloc HB.out _⟩
          case measure => simp [intOf]; omega
      · have hk' : ws.drop k = [] := List.drop_of_length_le (by have := HL.out; omega)
        rw [hk'] at HG
        have : rodT s rods = .tuple #[.int .i64 r, .bool true] := by unfold rodT; rw [HV.out, ← HG.out]; rfl
        have HT := Lib.hid this
        clear this
        go_wp2_with fail
        go_ret2
        exact ⟨by rw [HT.out]; rfl, ext_trans HA.out.ext HB.out⟩
set_option maxHeartbeats 1000000 in
theorem FnExactEndRod_any (s : ByteArray) (_ : s.size ≤ maxLen) (rods : Int) (_ : (Lit.int .i64 rods).wf = true) (w : World) :
    Calls Try.prog 6 #[.string s, .int .i64 rods] w fun e w' => e = .returned (.bool true) ∧ Below w.heap.size w w' := by
  by_cases hs : s.size ≤ 1048576
  · have h1 : ¬ (1048576 : Int) < s.size := by omega
    obtain ⟨r, ok, ht⟩ := rodT_form s rods
    have HV := Lib.hid ht
    have he : (ok != ok) = false := by simp
    clear hs ht
    go_enter Try.func6, Try.ntmps6
    go_wp2_with fail
    refine (sEndRod_any s rods _).mono ?_
    rintro e w1 ⟨rfl, h1⟩
    rw [HV.out]
    go_wp2_with fail
    refine (iEndRod_any s rods _).mono ?_
    rintro e w2 ⟨rfl, h2⟩
    rw [HV.out]
    go_wp2_with fail
    go_ret
    exact ⟨rfl, ext_trans h1 h2⟩
  · have h1 : (1048576 : Int) < s.size := by omega
    clear hs
    go_enter Try.func6, Try.ntmps6
    go_wp2_with fail
    go_ret
    exact ⟨rfl, Below.refl _ _⟩
end Go.Proofs.Ytianniocjhgllaa
