/- Is a text a script? The reference's test and the program's. No condition. -/
import Derived.Test.YtianniocjhgllaaSplit
namespace Go.Proofs.Ytianniocjhgllaa
open Go.RowKit

theorem all_next {ws : List ByteArray} {k : Nat} {wd : ByteArray} (h : ws[k]? = some wd) (h1 : (ws.take k).all wordOk = true) (h2 : wordOk wd = true) : (ws.take (k + 1)).all wordOk = true := by
  rw [take_at h, List.all_append, h1]; simp [h2]
theorem all_miss {ws : List ByteArray} {k : Nat} {wd : ByteArray} (h : ws[k]? = some wd) (h2 : wordOk wd = false) : ws.all wordOk = false := by
  rw [List.all_eq_false]
  exact ⟨wd, List.mem_of_getElem? h, by simp [h2]⟩
theorem all_at {ws : List ByteArray} {k : Nat} {wd : ByteArray} (h : ws[k]? = some wd) (h1 : ws.all wordOk = true) : wordOk wd = true := List.all_eq_true.1 h1 wd (List.mem_of_getElem? h)
theorem script_small {s : ByteArray} (h : scriptB s = true) : s.size ≤ 80 ∧ (wordsB s).all wordOk = true := by
  unfold scriptB at h
  simpa using h
set_option maxHeartbeats 1000000 in
theorem l15Good_any (s : ByteArray) (w : World) :
    Calls Try.prog 23 #[.string s] w fun e w' => e = .returned (.bool (scriptB s)) ∧ Below w.heap.size w w' := by
  by_cases h80 : s.size ≤ 80
  · have HS := Lib.hid (show scriptB s = (wordsB s).all wordOk by unfold scriptB; simp [h80])
    have hl := words_len h80
    have h81 : ¬ (80 : Int) < s.size := by omega
    go_enter Try.func23, Try.ntmps23
    go_wp2_with fail
    refine (l15Words_any s (by omega) _).mono ?_
    rintro e w1 ⟨A, n, c, rfl, ha⟩
    have HA := Lib.hid ha
    have hn : (wordsB s).length = n := ha.reads.strLen
    clear ha
    generalize wordsB s = ws at *
    have HL := Lib.hid hn
    have hn81 : n ≤ 81 := by omega
    clear hn hl
    go_wp2_with fail
    go_loop [4] (fun i => ∃ k : Nat, i = .int .i64 k ∧ k ≤ n ∧ (ws.take k).all wordOk = true) (fun i => n - (intOf i).toNat)
    case atStart => exact ⟨0, rfl, by omega, rfl⟩
    case round =>
      obtain ⟨k, rfl, hk, hall⟩ := hrel
      have HK := Lib.hid hall
      clear hall
      have k0 : (0 : Int) ≤ k := by omega
      by_cases hlt : k < n
      · obtain ⟨b, o, wd, rfl, hw, hcell⟩ := HA.out.reads.str hlt
        have HW := Lib.hid hw
        clear hw
        have k1 : (k : Int) < n := by omega
        cases hv : wordOk wd
        · have HV := Lib.hid hv
          clear hv
          go_wp2_with fail
          refine (l15Word_v wd HV.out _).mono ?_
          rintro e w' ⟨rfl, rfl⟩
          go_wp2_with fail
          go_ret
          exact ⟨by rw [HS.out, all_miss HW.out HV.out]; rfl, HA.out.ext⟩
        · have HV := Lib.hid hv
          clear hv
          go_wp2_with fail
          refine (l15Word_v wd HV.out _).mono ?_
          rintro e w' ⟨rfl, rfl⟩
          go_wp2_with fail
          go_round
          case rel => exact ⟨k + 1, by go_num, by omega, all_next HW.out HK.out HV.out⟩
          case measure => simp [intOf]; omega
      · go_wp2_with fail
        go_ret
        have : scriptB s = true := by rw [HS.out, ← HK.out, List.take_of_length_le (by have := HL.out; omega)]
        exact ⟨by rw [this]; rfl, HA.out.ext⟩
  · have HS := Lib.hid (show scriptB s = false by unfold scriptB; simp [h80])
    have h81 : (80 : Int) < s.size := by omega
    clear h80
    go_enter Try.func23, Try.ntmps23
    go_wp2_with fail
    go_ret
    exact ⟨by rw [HS.out]; rfl, Below.refl _ _⟩
set_option maxHeartbeats 1000000 in
theorem sIsScript_any (s : ByteArray) (w : World) :
    Calls Try.prog 10 #[.string s] w fun e w' => e = .returned (.bool (scriptB s)) ∧ Below w.heap.size w w' := by
  go_enter Try.func10, Try.ntmps10
  go_wp2_with fail
  refine (l15Good_any s _).mono ?_
  rintro e w' ⟨rfl, hb⟩
  go_wp2_with fail
  go_ret
  exact ⟨rfl, hb⟩
theorem u8_of {a : UInt8} {b : UInt8} (h : (a.toNat : Int) = (b.toNat : Int)) : a = b := UInt8.toNat_inj.1 (by omega)
theorem pl_c {p : ByteArray} {c : Int} (hc : c = 60 ∨ c = 62 ∨ c = 99) (h : byteAt p 0 = c) : plainB p = ((p.size : Int) == 1) := by
  unfold plainB
  rw [size_list]
  unfold byteAt at *
  match hl : p.data.toList with
  | [] => rw [hl] at h; simp at h; omega
  | [a] =>
    rw [hl] at h
    rcases hc with rfl | rfl | rfl
    · obtain rfl : a = 60 := u8_of h
      rfl
    · obtain rfl : a = 62 := u8_of h
      rfl
    · obtain rfl : a = 99 := u8_of h
      rfl
  | [a, b] =>
    rw [hl] at h
    have h : (a.toNat : Int) = c := h
    have e1 : ((a.toNat : Int) == 43) = false := by simp; omega
    have e2 : ((a.toNat : Int) == 45) = false := by simp; omega
    simp [e1, e2]
  | a :: b :: d :: l =>
    have e : ((((a :: b :: d :: l).length : Nat) : Int) == 1) = false := by simp; omega
    rw [e, if_neg (by simp)]
    simp
theorem pl_sign {p : ByteArray} (h : byteAt p 0 = 43 ∨ byteAt p 0 = 45) : plainB p = (decide (p.size = 2) && inB (byteAt p 1) 49 57) := by
  by_cases h2 : p.size = 2
  · unfold plainB
    rw [if_pos h2]
    rcases h with h | h <;> simp [h, h2]
  · rw [decide_eq_false h2, Bool.false_and]
    cases hv : plainB p with
    | false => rfl
    | true =>
      rcases plain_list hv with e | e | e | ⟨a, b, e, _⟩
      · unfold byteAt at h; rw [e] at h; simp at h
      · unfold byteAt at h; rw [e] at h; simp at h
      · unfold byteAt at h; rw [e] at h; simp at h
      · rw [size_list, e] at h2; simp at h2
theorem pl_other {p : ByteArray} (h1 : byteAt p 0 ≠ 60) (h2 : byteAt p 0 ≠ 62) (h3 : byteAt p 0 ≠ 99) (h4 : byteAt p 0 ≠ 43) (h5 : byteAt p 0 ≠ 45) : plainB p = false := by
  cases hv : plainB p with
  | false => rfl
  | true =>
    unfold byteAt at *
    rcases plain_list hv with e | e | e | ⟨a, b, e, hh, _⟩
    · rw [e] at h1; simp at h1
    · rw [e] at h2; simp at h2
    · rw [e] at h3; simp at h3
    · rw [e] at h4 h5; simp at h4 h5; omega
theorem pre_size {s : ByteArray} (h : 1 < s.size) : (s.extract 1 s.size).size = s.size - 1 := by rw [ByteArray.size_extract]; omega
def ruleL (s : ByteArray) : List Value := [.int .i64 (wordT s), .int .u8 (byteAt (wordP s) 0), .int .i64 (wordD s)]
/-- What the program's reading of a word gives. -/
def RuleGives (s : ByteArray) (w : World) (e : Ending) (w' : World) : Prop := ∃ t c d, e = .returned (.tuple #[.agg #[.int .i64 t, .int .u8 c, .int .i64 d], .bool (wordOk s)]) ∧ (wordOk s = true → t = wordT s ∧ c = byteAt (wordP s) 0 ∧ d = wordD s) ∧ Below w.heap.size w w'
set_option maxRecDepth 100000 in
set_option maxHeartbeats 2000000 in
theorem rr1_60 (s : ByteArray) (hp : preB s = true) (hq : 0 < s.size - 1) (hy : byteAt (s.extract 1 s.size) 0 = 60) (w : World) :
    Calls Try.prog 31 #[.string s] w (RuleGives s w) := by
  have hp' := hp
  unfold preB at hp'; simp only [Bool.and_eq_true, decide_eq_true_eq] at hp'
  obtain ⟨h1, hx⟩ := hp'
  have hx := inB_true hx
  have hsz := pre_size h1
  have eP : wordP s = s.extract 1 s.size := by unfold wordP; simp [hp]
  have eT : wordT s = byteAt s 0 - 48 := by unfold wordT; simp [hp]
  have gx := get_byteAt s 0 (by omega)
  have g0 := get_byteAt (s.extract 1 s.size) 0 (by omega)
  have HE := Lib.hid (show wordOk s = (((s.size - 1 : Nat) : Int) == 1) by unfold wordOk; rw [eP, pl_c (by omega) hy, hsz])
  have HD := Lib.hid (fun hk : wordOk s = true => show (0 : Int) = wordD s by have := plain_size hk; rw [HE.out] at hk; simp at hk; unfold wordD; rw [eP, hsz, if_neg (by omega)])
  have HT := Lib.hid eT
  have HC := Lib.hid (show (60 : Int) = byteAt (wordP s) 0 by rw [eP, hy])
  have x0 := hx.1; have x1 := hx.2
  have wx : wrap64 (byteAt s 0 - 48) = byteAt s 0 - 48 := IntWalk.wrap64_in _ ⟨by omega, by omega⟩
  have s0 : (0 : Int) < s.size := by omega
  have s1 : (1 : Int) < s.size := by omega
  have s2 : 0 < s.size - 1 := hq
  have sz : (((s.size - 1 : Nat) : Int) == 0) = false := beq_eq_false_iff_ne.2 (by omega)
  rw [hy] at g0
  clear hp eP eT hx hy
  go_enter Try.func31, Try.ntmps31
  go_wp2_with fail
  all_goals
    refine bodyPost_ret (v := .tuple #[.agg #[.int .i64 (byteAt s 0 - 48), .int .u8 (60), .int .i64 (0)], .bool (((s.size - 1 : Nat) : Int) == 1)]) (by simp [results, Try.results31, go_sem]) rfl ⟨_, _, _, by rw [HE.out], ?_, ?_⟩
    · exact fun hk => ⟨HT.out.symm, HC.out, HD.out hk⟩
    · repeat (first | exact Below.refl _ _ | refine Below.alloc ?_ (by first | omega | (simp; done) | (simp; omega)) _ | refine Below.setCell ?_ (by first | omega | (simp; done) | (simp; omega)) _)
set_option maxRecDepth 100000 in
set_option maxHeartbeats 2000000 in
theorem rr1_62 (s : ByteArray) (hp : preB s = true) (hq : 0 < s.size - 1) (hy : byteAt (s.extract 1 s.size) 0 = 62) (w : World) :
    Calls Try.prog 31 #[.string s] w (RuleGives s w) := by
  have hp' := hp
  unfold preB at hp'; simp only [Bool.and_eq_true, decide_eq_true_eq] at hp'
  obtain ⟨h1, hx⟩ := hp'
  have hx := inB_true hx
  have hsz := pre_size h1
  have eP : wordP s = s.extract 1 s.size := by unfold wordP; simp [hp]
  have eT : wordT s = byteAt s 0 - 48 := by unfold wordT; simp [hp]
  have gx := get_byteAt s 0 (by omega)
  have g0 := get_byteAt (s.extract 1 s.size) 0 (by omega)
  have HE := Lib.hid (show wordOk s = (((s.size - 1 : Nat) : Int) == 1) by unfold wordOk; rw [eP, pl_c (by omega) hy, hsz])
  have HD := Lib.hid (fun hk : wordOk s = true => show (0 : Int) = wordD s by have := plain_size hk; rw [HE.out] at hk; simp at hk; unfold wordD; rw [eP, hsz, if_neg (by omega)])
  have HT := Lib.hid eT
  have HC := Lib.hid (show (62 : Int) = byteAt (wordP s) 0 by rw [eP, hy])
  have x0 := hx.1; have x1 := hx.2
  have wx : wrap64 (byteAt s 0 - 48) = byteAt s 0 - 48 := IntWalk.wrap64_in _ ⟨by omega, by omega⟩
  have s0 : (0 : Int) < s.size := by omega
  have s1 : (1 : Int) < s.size := by omega
  have s2 : 0 < s.size - 1 := hq
  have sz : (((s.size - 1 : Nat) : Int) == 0) = false := beq_eq_false_iff_ne.2 (by omega)
  rw [hy] at g0
  clear hp eP eT hx hy
  go_enter Try.func31, Try.ntmps31
  go_wp2_with fail
  all_goals
    refine bodyPost_ret (v := .tuple #[.agg #[.int .i64 (byteAt s 0 - 48), .int .u8 (62), .int .i64 (0)], .bool (((s.size - 1 : Nat) : Int) == 1)]) (by simp [results, Try.results31, go_sem]) rfl ⟨_, _, _, by rw [HE.out], ?_, ?_⟩
    · exact fun hk => ⟨HT.out.symm, HC.out, HD.out hk⟩
    · repeat (first | exact Below.refl _ _ | refine Below.alloc ?_ (by first | omega | (simp; done) | (simp; omega)) _ | refine Below.setCell ?_ (by first | omega | (simp; done) | (simp; omega)) _)
set_option maxRecDepth 100000 in
set_option maxHeartbeats 2000000 in
theorem rr1_99 (s : ByteArray) (hp : preB s = true) (hq : 0 < s.size - 1) (hy : byteAt (s.extract 1 s.size) 0 = 99) (w : World) :
    Calls Try.prog 31 #[.string s] w (RuleGives s w) := by
  have hp' := hp
  unfold preB at hp'; simp only [Bool.and_eq_true, decide_eq_true_eq] at hp'
  obtain ⟨h1, hx⟩ := hp'
  have hx := inB_true hx
  have hsz := pre_size h1
  have eP : wordP s = s.extract 1 s.size := by unfold wordP; simp [hp]
  have eT : wordT s = byteAt s 0 - 48 := by unfold wordT; simp [hp]
  have gx := get_byteAt s 0 (by omega)
  have g0 := get_byteAt (s.extract 1 s.size) 0 (by omega)
  have HE := Lib.hid (show wordOk s = (((s.size - 1 : Nat) : Int) == 1) by unfold wordOk; rw [eP, pl_c (by omega) hy, hsz])
  have HD := Lib.hid (fun hk : wordOk s = true => show (0 : Int) = wordD s by have := plain_size hk; rw [HE.out] at hk; simp at hk; unfold wordD; rw [eP, hsz, if_neg (by omega)])
  have HT := Lib.hid eT
  have HC := Lib.hid (show (99 : Int) = byteAt (wordP s) 0 by rw [eP, hy])
  have x0 := hx.1; have x1 := hx.2
  have wx : wrap64 (byteAt s 0 - 48) = byteAt s 0 - 48 := IntWalk.wrap64_in _ ⟨by omega, by omega⟩
  have s0 : (0 : Int) < s.size := by omega
  have s1 : (1 : Int) < s.size := by omega
  have s2 : 0 < s.size - 1 := hq
  have sz : (((s.size - 1 : Nat) : Int) == 0) = false := beq_eq_false_iff_ne.2 (by omega)
  rw [hy] at g0
  clear hp eP eT hx hy
  go_enter Try.func31, Try.ntmps31
  go_wp2_with fail
  all_goals
    refine bodyPost_ret (v := .tuple #[.agg #[.int .i64 (byteAt s 0 - 48), .int .u8 (99), .int .i64 (0)], .bool (((s.size - 1 : Nat) : Int) == 1)]) (by simp [results, Try.results31, go_sem]) rfl ⟨_, _, _, by rw [HE.out], ?_, ?_⟩
    · exact fun hk => ⟨HT.out.symm, HC.out, HD.out hk⟩
    · repeat (first | exact Below.refl _ _ | refine Below.alloc ?_ (by first | omega | (simp; done) | (simp; omega)) _ | refine Below.setCell ?_ (by first | omega | (simp; done) | (simp; omega)) _)
set_option maxRecDepth 100000 in
set_option maxHeartbeats 2000000 in
theorem rr1_43 (s : ByteArray) (hp : preB s = true) (hq : 0 < s.size - 1) (hy : byteAt (s.extract 1 s.size) 0 = 43) (h2 : s.size - 1 = 2) (hz : inB (byteAt (s.extract 1 s.size) 1) 49 57 = true) (w : World) :
    Calls Try.prog 31 #[.string s] w (RuleGives s w) := by
  have hp' := hp
  unfold preB at hp'; simp only [Bool.and_eq_true, decide_eq_true_eq] at hp'
  obtain ⟨h1, hx⟩ := hp'
  have hx := inB_true hx
  have hsz := pre_size h1
  have eP : wordP s = s.extract 1 s.size := by unfold wordP; simp [hp]
  have eT : wordT s = byteAt s 0 - 48 := by unfold wordT; simp [hp]
  have gx := get_byteAt s 0 (by omega)
  have g0 := get_byteAt (s.extract 1 s.size) 0 (by omega)
  have g1 := get_byteAt (s.extract 1 s.size) 1 (by omega)
  have hz' := inB_true hz
  have bd := byteAt_bd (s.extract 1 s.size) 1
  have HE := Lib.hid (show wordOk s = true by unfold wordOk; rw [eP, pl_sign (by omega), hsz, hz, decide_eq_true h2]; rfl)
  have HD := Lib.hid (fun _ : wordOk s = true => show byteAt (s.extract 1 s.size) 1 - 48 = wordD s by unfold wordD; rw [eP, hsz, if_pos h2])
  have HT := Lib.hid eT
  have HC := Lib.hid (show (43 : Int) = byteAt (wordP s) 0 by rw [eP, hy])
  have x0 := hx.1; have x1 := hx.2
  have wx : wrap64 (byteAt s 0 - 48) = byteAt s 0 - 48 := IntWalk.wrap64_in _ ⟨by omega, by omega⟩
  have s0 : (0 : Int) < s.size := by omega
  have s1 : (1 : Int) < s.size := by omega
  have s2 : 0 < s.size - 1 := hq
  have sz : (((s.size - 1 : Nat) : Int) == 0) = false := beq_eq_false_iff_ne.2 (by omega)
  have sq : (((s.size - 1 : Nat) : Int) == 2) = true := beq_iff_eq.2 (by omega)
  have s3 : 1 < s.size - 1 := by omega
  have s4 : (1 : Int) < ((s.size - 1 : Nat) : Int) := by omega
  have z0 := hz'.1; have z1 := hz'.2
  have wz : wrap64 (byteAt (s.extract 1 s.size) 1 - 48) = byteAt (s.extract 1 s.size) 1 - 48 := IntWalk.wrap64_in _ ⟨by omega, by omega⟩
  rw [hy] at g0
  clear hp eP eT hx hz hz' hy
  go_enter Try.func31, Try.ntmps31
  go_wp2_with fail
  all_goals
    refine bodyPost_ret (v := .tuple #[.agg #[.int .i64 (byteAt s 0 - 48), .int .u8 (43), .int .i64 (byteAt (s.extract 1 s.size) 1 - 48)], .bool (true)]) (by simp [results, Try.results31, go_sem]) rfl ⟨_, _, _, by rw [HE.out], ?_, ?_⟩
    · exact fun hk => ⟨HT.out.symm, HC.out, HD.out hk⟩
    · repeat (first | exact Below.refl _ _ | refine Below.alloc ?_ (by first | omega | (simp; done) | (simp; omega)) _ | refine Below.setCell ?_ (by first | omega | (simp; done) | (simp; omega)) _)
set_option maxRecDepth 100000 in
set_option maxHeartbeats 2000000 in
theorem rr1_43z (s : ByteArray) (hp : preB s = true) (hq : 0 < s.size - 1) (hy : byteAt (s.extract 1 s.size) 0 = 43) (h2 : s.size - 1 = 2) (hz : inB (byteAt (s.extract 1 s.size) 1) 49 57 = false) (w : World) :
    Calls Try.prog 31 #[.string s] w (RuleGives s w) := by
  have hp' := hp
  unfold preB at hp'; simp only [Bool.and_eq_true, decide_eq_true_eq] at hp'
  obtain ⟨h1, hx⟩ := hp'
  have hx := inB_true hx
  have hsz := pre_size h1
  have eP : wordP s = s.extract 1 s.size := by unfold wordP; simp [hp]
  have eT : wordT s = byteAt s 0 - 48 := by unfold wordT; simp [hp]
  have gx := get_byteAt s 0 (by omega)
  have g0 := get_byteAt (s.extract 1 s.size) 0 (by omega)
  have g1 := get_byteAt (s.extract 1 s.size) 1 (by omega)
  have HE := Lib.hid (show wordOk s = false by unfold wordOk; rw [eP, pl_sign (by omega), hsz, hz, Bool.and_false])
  have HT := Lib.hid eT
  have x0 := hx.1; have x1 := hx.2
  have wx : wrap64 (byteAt s 0 - 48) = byteAt s 0 - 48 := IntWalk.wrap64_in _ ⟨by omega, by omega⟩
  have s0 : (0 : Int) < s.size := by omega
  have s1 : (1 : Int) < s.size := by omega
  have s2 : 0 < s.size - 1 := hq
  have sz : (((s.size - 1 : Nat) : Int) == 0) = false := beq_eq_false_iff_ne.2 (by omega)
  have sq : (((s.size - 1 : Nat) : Int) == 2) = true := beq_iff_eq.2 (by omega)
  have s3 : 1 < s.size - 1 := by omega
  have s4 : (1 : Int) < ((s.size - 1 : Nat) : Int) := by omega
  rw [hy] at g0
  clear hp eP eT hx hy
  have hz : ¬ 49 ≤ byteAt (s.extract 1 s.size) 1 ∨ ¬ byteAt (s.extract 1 s.size) 1 ≤ 57 := by unfold inB at hz; simp only [Bool.and_eq_false_iff, decide_eq_false_iff_not] at hz; exact hz
  by_cases k0 : 49 ≤ byteAt (s.extract 1 s.size) 1
  · have k1 : ¬ byteAt (s.extract 1 s.size) 1 ≤ 57 := by omega
    clear hz
    go_enter Try.func31, Try.ntmps31
    go_wp2_with fail
    all_goals
      refine bodyPost_ret (v := .tuple #[.agg #[.int .i64 (0), .int .u8 (0), .int .i64 (0)], .bool (false)]) (by simp [results, Try.results31, go_sem]) rfl ⟨_, _, _, by rw [HE.out], ?_, ?_⟩
      · exact fun hk => by rw [HE.out] at hk; cases hk
      · repeat (first | exact Below.refl _ _ | refine Below.alloc ?_ (by first | omega | (simp; done) | (simp; omega)) _ | refine Below.setCell ?_ (by first | omega | (simp; done) | (simp; omega)) _)
  · clear hz
    go_enter Try.func31, Try.ntmps31
    go_wp2_with fail
    all_goals
      refine bodyPost_ret (v := .tuple #[.agg #[.int .i64 (0), .int .u8 (0), .int .i64 (0)], .bool (false)]) (by simp [results, Try.results31, go_sem]) rfl ⟨_, _, _, by rw [HE.out], ?_, ?_⟩
      · exact fun hk => by rw [HE.out] at hk; cases hk
      · repeat (first | exact Below.refl _ _ | refine Below.alloc ?_ (by first | omega | (simp; done) | (simp; omega)) _ | refine Below.setCell ?_ (by first | omega | (simp; done) | (simp; omega)) _)
set_option maxRecDepth 100000 in
set_option maxHeartbeats 2000000 in
theorem rr1_43q (s : ByteArray) (hp : preB s = true) (hq : 0 < s.size - 1) (hy : byteAt (s.extract 1 s.size) 0 = 43) (h2 : ¬ s.size - 1 = 2) (w : World) :
    Calls Try.prog 31 #[.string s] w (RuleGives s w) := by
  have hp' := hp
  unfold preB at hp'; simp only [Bool.and_eq_true, decide_eq_true_eq] at hp'
  obtain ⟨h1, hx⟩ := hp'
  have hx := inB_true hx
  have hsz := pre_size h1
  have eP : wordP s = s.extract 1 s.size := by unfold wordP; simp [hp]
  have eT : wordT s = byteAt s 0 - 48 := by unfold wordT; simp [hp]
  have gx := get_byteAt s 0 (by omega)
  have g0 := get_byteAt (s.extract 1 s.size) 0 (by omega)
  have HE := Lib.hid (show wordOk s = false by unfold wordOk; rw [eP, pl_sign (by omega), hsz, decide_eq_false h2, Bool.false_and])
  have HT := Lib.hid eT
  have x0 := hx.1; have x1 := hx.2
  have wx : wrap64 (byteAt s 0 - 48) = byteAt s 0 - 48 := IntWalk.wrap64_in _ ⟨by omega, by omega⟩
  have s0 : (0 : Int) < s.size := by omega
  have s1 : (1 : Int) < s.size := by omega
  have s2 : 0 < s.size - 1 := hq
  have sz : (((s.size - 1 : Nat) : Int) == 0) = false := beq_eq_false_iff_ne.2 (by omega)
  have sq : (((s.size - 1 : Nat) : Int) == 2) = false := beq_eq_false_iff_ne.2 (by omega)
  rw [hy] at g0
  clear hp eP eT hx hy
  go_enter Try.func31, Try.ntmps31
  go_wp2_with fail
  all_goals
    refine bodyPost_ret (v := .tuple #[.agg #[.int .i64 (0), .int .u8 (0), .int .i64 (0)], .bool (false)]) (by simp [results, Try.results31, go_sem]) rfl ⟨_, _, _, by rw [HE.out], ?_, ?_⟩
    · exact fun hk => by rw [HE.out] at hk; cases hk
    · repeat (first | exact Below.refl _ _ | refine Below.alloc ?_ (by first | omega | (simp; done) | (simp; omega)) _ | refine Below.setCell ?_ (by first | omega | (simp; done) | (simp; omega)) _)
set_option maxRecDepth 100000 in
set_option maxHeartbeats 2000000 in
theorem rr1_45 (s : ByteArray) (hp : preB s = true) (hq : 0 < s.size - 1) (hy : byteAt (s.extract 1 s.size) 0 = 45) (h2 : s.size - 1 = 2) (hz : inB (byteAt (s.extract 1 s.size) 1) 49 57 = true) (w : World) :
    Calls Try.prog 31 #[.string s] w (RuleGives s w) := by
  have hp' := hp
  unfold preB at hp'; simp only [Bool.and_eq_true, decide_eq_true_eq] at hp'
  obtain ⟨h1, hx⟩ := hp'
  have hx := inB_true hx
  have hsz := pre_size h1
  have eP : wordP s = s.extract 1 s.size := by unfold wordP; simp [hp]
  have eT : wordT s = byteAt s 0 - 48 := by unfold wordT; simp [hp]
  have gx := get_byteAt s 0 (by omega)
  have g0 := get_byteAt (s.extract 1 s.size) 0 (by omega)
  have g1 := get_byteAt (s.extract 1 s.size) 1 (by omega)
  have hz' := inB_true hz
  have bd := byteAt_bd (s.extract 1 s.size) 1
  have HE := Lib.hid (show wordOk s = true by unfold wordOk; rw [eP, pl_sign (by omega), hsz, hz, decide_eq_true h2]; rfl)
  have HD := Lib.hid (fun _ : wordOk s = true => show byteAt (s.extract 1 s.size) 1 - 48 = wordD s by unfold wordD; rw [eP, hsz, if_pos h2])
  have HT := Lib.hid eT
  have HC := Lib.hid (show (45 : Int) = byteAt (wordP s) 0 by rw [eP, hy])
  have x0 := hx.1; have x1 := hx.2
  have wx : wrap64 (byteAt s 0 - 48) = byteAt s 0 - 48 := IntWalk.wrap64_in _ ⟨by omega, by omega⟩
  have s0 : (0 : Int) < s.size := by omega
  have s1 : (1 : Int) < s.size := by omega
  have s2 : 0 < s.size - 1 := hq
  have sz : (((s.size - 1 : Nat) : Int) == 0) = false := beq_eq_false_iff_ne.2 (by omega)
  have sq : (((s.size - 1 : Nat) : Int) == 2) = true := beq_iff_eq.2 (by omega)
  have s3 : 1 < s.size - 1 := by omega
  have s4 : (1 : Int) < ((s.size - 1 : Nat) : Int) := by omega
  have z0 := hz'.1; have z1 := hz'.2
  have wz : wrap64 (byteAt (s.extract 1 s.size) 1 - 48) = byteAt (s.extract 1 s.size) 1 - 48 := IntWalk.wrap64_in _ ⟨by omega, by omega⟩
  rw [hy] at g0
  clear hp eP eT hx hz hz' hy
  go_enter Try.func31, Try.ntmps31
  go_wp2_with fail
  all_goals
    refine bodyPost_ret (v := .tuple #[.agg #[.int .i64 (byteAt s 0 - 48), .int .u8 (45), .int .i64 (byteAt (s.extract 1 s.size) 1 - 48)], .bool (true)]) (by simp [results, Try.results31, go_sem]) rfl ⟨_, _, _, by rw [HE.out], ?_, ?_⟩
    · exact fun hk => ⟨HT.out.symm, HC.out, HD.out hk⟩
    · repeat (first | exact Below.refl _ _ | refine Below.alloc ?_ (by first | omega | (simp; done) | (simp; omega)) _ | refine Below.setCell ?_ (by first | omega | (simp; done) | (simp; omega)) _)
set_option maxRecDepth 100000 in
set_option maxHeartbeats 2000000 in
theorem rr1_45z (s : ByteArray) (hp : preB s = true) (hq : 0 < s.size - 1) (hy : byteAt (s.extract 1 s.size) 0 = 45) (h2 : s.size - 1 = 2) (hz : inB (byteAt (s.extract 1 s.size) 1) 49 57 = false) (w : World) :
    Calls Try.prog 31 #[.string s] w (RuleGives s w) := by
  have hp' := hp
  unfold preB at hp'; simp only [Bool.and_eq_true, decide_eq_true_eq] at hp'
  obtain ⟨h1, hx⟩ := hp'
  have hx := inB_true hx
  have hsz := pre_size h1
  have eP : wordP s = s.extract 1 s.size := by unfold wordP; simp [hp]
  have eT : wordT s = byteAt s 0 - 48 := by unfold wordT; simp [hp]
  have gx := get_byteAt s 0 (by omega)
  have g0 := get_byteAt (s.extract 1 s.size) 0 (by omega)
  have g1 := get_byteAt (s.extract 1 s.size) 1 (by omega)
  have HE := Lib.hid (show wordOk s = false by unfold wordOk; rw [eP, pl_sign (by omega), hsz, hz, Bool.and_false])
  have HT := Lib.hid eT
  have x0 := hx.1; have x1 := hx.2
  have wx : wrap64 (byteAt s 0 - 48) = byteAt s 0 - 48 := IntWalk.wrap64_in _ ⟨by omega, by omega⟩
  have s0 : (0 : Int) < s.size := by omega
  have s1 : (1 : Int) < s.size := by omega
  have s2 : 0 < s.size - 1 := hq
  have sz : (((s.size - 1 : Nat) : Int) == 0) = false := beq_eq_false_iff_ne.2 (by omega)
  have sq : (((s.size - 1 : Nat) : Int) == 2) = true := beq_iff_eq.2 (by omega)
  have s3 : 1 < s.size - 1 := by omega
  have s4 : (1 : Int) < ((s.size - 1 : Nat) : Int) := by omega
  rw [hy] at g0
  clear hp eP eT hx hy
  have hz : ¬ 49 ≤ byteAt (s.extract 1 s.size) 1 ∨ ¬ byteAt (s.extract 1 s.size) 1 ≤ 57 := by unfold inB at hz; simp only [Bool.and_eq_false_iff, decide_eq_false_iff_not] at hz; exact hz
  by_cases k0 : 49 ≤ byteAt (s.extract 1 s.size) 1
  · have k1 : ¬ byteAt (s.extract 1 s.size) 1 ≤ 57 := by omega
    clear hz
    go_enter Try.func31, Try.ntmps31
    go_wp2_with fail
    all_goals
      refine bodyPost_ret (v := .tuple #[.agg #[.int .i64 (0), .int .u8 (0), .int .i64 (0)], .bool (false)]) (by simp [results, Try.results31, go_sem]) rfl ⟨_, _, _, by rw [HE.out], ?_, ?_⟩
      · exact fun hk => by rw [HE.out] at hk; cases hk
      · repeat (first | exact Below.refl _ _ | refine Below.alloc ?_ (by first | omega | (simp; done) | (simp; omega)) _ | refine Below.setCell ?_ (by first | omega | (simp; done) | (simp; omega)) _)
  · clear hz
    go_enter Try.func31, Try.ntmps31
    go_wp2_with fail
    all_goals
      refine bodyPost_ret (v := .tuple #[.agg #[.int .i64 (0), .int .u8 (0), .int .i64 (0)], .bool (false)]) (by simp [results, Try.results31, go_sem]) rfl ⟨_, _, _, by rw [HE.out], ?_, ?_⟩
      · exact fun hk => by rw [HE.out] at hk; cases hk
      · repeat (first | exact Below.refl _ _ | refine Below.alloc ?_ (by first | omega | (simp; done) | (simp; omega)) _ | refine Below.setCell ?_ (by first | omega | (simp; done) | (simp; omega)) _)
set_option maxRecDepth 100000 in
set_option maxHeartbeats 2000000 in
theorem rr1_45q (s : ByteArray) (hp : preB s = true) (hq : 0 < s.size - 1) (hy : byteAt (s.extract 1 s.size) 0 = 45) (h2 : ¬ s.size - 1 = 2) (w : World) :
    Calls Try.prog 31 #[.string s] w (RuleGives s w) := by
  have hp' := hp
  unfold preB at hp'; simp only [Bool.and_eq_true, decide_eq_true_eq] at hp'
  obtain ⟨h1, hx⟩ := hp'
  have hx := inB_true hx
  have hsz := pre_size h1
  have eP : wordP s = s.extract 1 s.size := by unfold wordP; simp [hp]
  have eT : wordT s = byteAt s 0 - 48 := by unfold wordT; simp [hp]
  have gx := get_byteAt s 0 (by omega)
  have g0 := get_byteAt (s.extract 1 s.size) 0 (by omega)
  have HE := Lib.hid (show wordOk s = false by unfold wordOk; rw [eP, pl_sign (by omega), hsz, decide_eq_false h2, Bool.false_and])
  have HT := Lib.hid eT
  have x0 := hx.1; have x1 := hx.2
  have wx : wrap64 (byteAt s 0 - 48) = byteAt s 0 - 48 := IntWalk.wrap64_in _ ⟨by omega, by omega⟩
  have s0 : (0 : Int) < s.size := by omega
  have s1 : (1 : Int) < s.size := by omega
  have s2 : 0 < s.size - 1 := hq
  have sz : (((s.size - 1 : Nat) : Int) == 0) = false := beq_eq_false_iff_ne.2 (by omega)
  have sq : (((s.size - 1 : Nat) : Int) == 2) = false := beq_eq_false_iff_ne.2 (by omega)
  rw [hy] at g0
  clear hp eP eT hx hy
  go_enter Try.func31, Try.ntmps31
  go_wp2_with fail
  all_goals
    refine bodyPost_ret (v := .tuple #[.agg #[.int .i64 (0), .int .u8 (0), .int .i64 (0)], .bool (false)]) (by simp [results, Try.results31, go_sem]) rfl ⟨_, _, _, by rw [HE.out], ?_, ?_⟩
    · exact fun hk => by rw [HE.out] at hk; cases hk
    · repeat (first | exact Below.refl _ _ | refine Below.alloc ?_ (by first | omega | (simp; done) | (simp; omega)) _ | refine Below.setCell ?_ (by first | omega | (simp; done) | (simp; omega)) _)
set_option maxRecDepth 100000 in
set_option maxHeartbeats 2000000 in
theorem rr1_x (s : ByteArray) (hp : preB s = true) (hq : 0 < s.size - 1) (n0 : byteAt (s.extract 1 s.size) 0 ≠ 60) (n1 : byteAt (s.extract 1 s.size) 0 ≠ 62) (n2 : byteAt (s.extract 1 s.size) 0 ≠ 99) (n3 : byteAt (s.extract 1 s.size) 0 ≠ 43) (n4 : byteAt (s.extract 1 s.size) 0 ≠ 45) (w : World) :
    Calls Try.prog 31 #[.string s] w (RuleGives s w) := by
  have hp' := hp
  unfold preB at hp'; simp only [Bool.and_eq_true, decide_eq_true_eq] at hp'
  obtain ⟨h1, hx⟩ := hp'
  have hx := inB_true hx
  have hsz := pre_size h1
  have eP : wordP s = s.extract 1 s.size := by unfold wordP; simp [hp]
  have eT : wordT s = byteAt s 0 - 48 := by unfold wordT; simp [hp]
  have gx := get_byteAt s 0 (by omega)
  have g0 := get_byteAt (s.extract 1 s.size) 0 (by omega)
  have HE := Lib.hid (show wordOk s = false by unfold wordOk; rw [eP]; exact pl_other n0 n1 n2 n3 n4)
  have m0 : (byteAt (s.extract 1 s.size) 0 == 60) = false := beq_eq_false_iff_ne.2 n0
  have m1 : (byteAt (s.extract 1 s.size) 0 == 62) = false := beq_eq_false_iff_ne.2 n1
  have m2 : (byteAt (s.extract 1 s.size) 0 == 99) = false := beq_eq_false_iff_ne.2 n2
  have m3 : (byteAt (s.extract 1 s.size) 0 == 43) = false := beq_eq_false_iff_ne.2 n3
  have m4 : (byteAt (s.extract 1 s.size) 0 == 45) = false := beq_eq_false_iff_ne.2 n4
  have HT := Lib.hid eT
  have x0 := hx.1; have x1 := hx.2
  have wx : wrap64 (byteAt s 0 - 48) = byteAt s 0 - 48 := IntWalk.wrap64_in _ ⟨by omega, by omega⟩
  have s0 : (0 : Int) < s.size := by omega
  have s1 : (1 : Int) < s.size := by omega
  have s2 : 0 < s.size - 1 := hq
  have sz : (((s.size - 1 : Nat) : Int) == 0) = false := beq_eq_false_iff_ne.2 (by omega)
  clear hp eP eT hx
  clear n0 n1 n2 n3 n4
  go_enter Try.func31, Try.ntmps31
  go_wp2_with fail
  all_goals
    refine bodyPost_ret (v := .tuple #[.agg #[.int .i64 (0), .int .u8 (0), .int .i64 (0)], .bool (false)]) (by simp [results, Try.results31, go_sem]) rfl ⟨_, _, _, by rw [HE.out], ?_, ?_⟩
    · exact fun hk => by rw [HE.out] at hk; cases hk
    · repeat (first | exact Below.refl _ _ | refine Below.alloc ?_ (by first | omega | (simp; done) | (simp; omega)) _ | refine Below.setCell ?_ (by first | omega | (simp; done) | (simp; omega)) _)
set_option maxRecDepth 100000 in
set_option maxHeartbeats 2000000 in
theorem rr0_60 (s : ByteArray) (hp : preB s = false) (hq : 0 < s.size) (hy : byteAt s 0 = 60) (w : World) :
    Calls Try.prog 31 #[.string s] w (RuleGives s w) := by
  have hsz : s.size = s.size := rfl
  have eP : wordP s = s := by unfold wordP; simp [hp]
  have eT : wordT s = 1 := by unfold wordT; simp [hp]
  have g0 := get_byteAt s 0 (by omega)
  have HE := Lib.hid (show wordOk s = (((s.size : Nat) : Int) == 1) by unfold wordOk; rw [eP, pl_c (by omega) hy, hsz])
  have HD := Lib.hid (fun hk : wordOk s = true => show (0 : Int) = wordD s by have := plain_size hk; rw [HE.out] at hk; simp at hk; unfold wordD; rw [eP, hsz, if_neg (by omega)])
  have HT := Lib.hid eT
  have HC := Lib.hid (show (60 : Int) = byteAt (wordP s) 0 by rw [eP, hy])
  have s0 : (0 : Int) < s.size := by omega
  have sz : ((s.size : Int) == 0) = false := beq_eq_false_iff_ne.2 (by omega)
  rw [hy] at g0
  clear hp eP eT hy
  go_enter Try.func31, Try.ntmps31
  go_wp2_with fail
  all_goals
    refine bodyPost_ret (v := .tuple #[.agg #[.int .i64 (1), .int .u8 (60), .int .i64 (0)], .bool (((s.size : Nat) : Int) == 1)]) (by simp [results, Try.results31, go_sem]) rfl ⟨_, _, _, by rw [HE.out], ?_, ?_⟩
    · exact fun hk => ⟨HT.out.symm, HC.out, HD.out hk⟩
    · repeat (first | exact Below.refl _ _ | refine Below.alloc ?_ (by first | omega | (simp; done) | (simp; omega)) _ | refine Below.setCell ?_ (by first | omega | (simp; done) | (simp; omega)) _)
set_option maxRecDepth 100000 in
set_option maxHeartbeats 2000000 in
theorem rr0_62 (s : ByteArray) (hp : preB s = false) (hq : 0 < s.size) (hy : byteAt s 0 = 62) (w : World) :
    Calls Try.prog 31 #[.string s] w (RuleGives s w) := by
  have hsz : s.size = s.size := rfl
  have eP : wordP s = s := by unfold wordP; simp [hp]
  have eT : wordT s = 1 := by unfold wordT; simp [hp]
  have g0 := get_byteAt s 0 (by omega)
  have HE := Lib.hid (show wordOk s = (((s.size : Nat) : Int) == 1) by unfold wordOk; rw [eP, pl_c (by omega) hy, hsz])
  have HD := Lib.hid (fun hk : wordOk s = true => show (0 : Int) = wordD s by have := plain_size hk; rw [HE.out] at hk; simp at hk; unfold wordD; rw [eP, hsz, if_neg (by omega)])
  have HT := Lib.hid eT
  have HC := Lib.hid (show (62 : Int) = byteAt (wordP s) 0 by rw [eP, hy])
  have s0 : (0 : Int) < s.size := by omega
  have sz : ((s.size : Int) == 0) = false := beq_eq_false_iff_ne.2 (by omega)
  rw [hy] at g0
  clear hp eP eT hy
  go_enter Try.func31, Try.ntmps31
  go_wp2_with fail
  all_goals
    refine bodyPost_ret (v := .tuple #[.agg #[.int .i64 (1), .int .u8 (62), .int .i64 (0)], .bool (((s.size : Nat) : Int) == 1)]) (by simp [results, Try.results31, go_sem]) rfl ⟨_, _, _, by rw [HE.out], ?_, ?_⟩
    · exact fun hk => ⟨HT.out.symm, HC.out, HD.out hk⟩
    · repeat (first | exact Below.refl _ _ | refine Below.alloc ?_ (by first | omega | (simp; done) | (simp; omega)) _ | refine Below.setCell ?_ (by first | omega | (simp; done) | (simp; omega)) _)
set_option maxRecDepth 100000 in
set_option maxHeartbeats 2000000 in
theorem rr0_99 (s : ByteArray) (hp : preB s = false) (hq : 0 < s.size) (hy : byteAt s 0 = 99) (w : World) :
    Calls Try.prog 31 #[.string s] w (RuleGives s w) := by
  have hsz : s.size = s.size := rfl
  have eP : wordP s = s := by unfold wordP; simp [hp]
  have eT : wordT s = 1 := by unfold wordT; simp [hp]
  have g0 := get_byteAt s 0 (by omega)
  have HE := Lib.hid (show wordOk s = (((s.size : Nat) : Int) == 1) by unfold wordOk; rw [eP, pl_c (by omega) hy, hsz])
  have HD := Lib.hid (fun hk : wordOk s = true => show (0 : Int) = wordD s by have := plain_size hk; rw [HE.out] at hk; simp at hk; unfold wordD; rw [eP, hsz, if_neg (by omega)])
  have HT := Lib.hid eT
  have HC := Lib.hid (show (99 : Int) = byteAt (wordP s) 0 by rw [eP, hy])
  have s0 : (0 : Int) < s.size := by omega
  have sz : ((s.size : Int) == 0) = false := beq_eq_false_iff_ne.2 (by omega)
  rw [hy] at g0
  clear hp eP eT hy
  go_enter Try.func31, Try.ntmps31
  go_wp2_with fail
  all_goals
    refine bodyPost_ret (v := .tuple #[.agg #[.int .i64 (1), .int .u8 (99), .int .i64 (0)], .bool (((s.size : Nat) : Int) == 1)]) (by simp [results, Try.results31, go_sem]) rfl ⟨_, _, _, by rw [HE.out], ?_, ?_⟩
    · exact fun hk => ⟨HT.out.symm, HC.out, HD.out hk⟩
    · repeat (first | exact Below.refl _ _ | refine Below.alloc ?_ (by first | omega | (simp; done) | (simp; omega)) _ | refine Below.setCell ?_ (by first | omega | (simp; done) | (simp; omega)) _)
set_option maxRecDepth 100000 in
set_option maxHeartbeats 2000000 in
theorem rr0_43 (s : ByteArray) (hp : preB s = false) (hq : 0 < s.size) (hy : byteAt s 0 = 43) (h2 : s.size = 2) (hz : inB (byteAt s 1) 49 57 = true) (w : World) :
    Calls Try.prog 31 #[.string s] w (RuleGives s w) := by
  have hsz : s.size = s.size := rfl
  have eP : wordP s = s := by unfold wordP; simp [hp]
  have eT : wordT s = 1 := by unfold wordT; simp [hp]
  have g0 := get_byteAt s 0 (by omega)
  have g1 := get_byteAt s 1 (by omega)
  have hz' := inB_true hz
  have bd := byteAt_bd s 1
  have HE := Lib.hid (show wordOk s = true by unfold wordOk; rw [eP, pl_sign (by omega), hsz, hz, decide_eq_true h2]; rfl)
  have HD := Lib.hid (fun _ : wordOk s = true => show byteAt s 1 - 48 = wordD s by unfold wordD; rw [eP, hsz, if_pos h2])
  have HT := Lib.hid eT
  have HC := Lib.hid (show (43 : Int) = byteAt (wordP s) 0 by rw [eP, hy])
  have s0 : (0 : Int) < s.size := by omega
  have sz : ((s.size : Int) == 0) = false := beq_eq_false_iff_ne.2 (by omega)
  have sq : (((s.size : Nat) : Int) == 2) = true := beq_iff_eq.2 (by omega)
  have s3 : 1 < s.size := by omega
  have s4 : (1 : Int) < ((s.size : Nat) : Int) := by omega
  have z0 := hz'.1; have z1 := hz'.2
  have wz : wrap64 (byteAt s 1 - 48) = byteAt s 1 - 48 := IntWalk.wrap64_in _ ⟨by omega, by omega⟩
  rw [hy] at g0
  clear hp eP eT hz hz' hy
  go_enter Try.func31, Try.ntmps31
  go_wp2_with fail
  all_goals
    refine bodyPost_ret (v := .tuple #[.agg #[.int .i64 (1), .int .u8 (43), .int .i64 (byteAt s 1 - 48)], .bool (true)]) (by simp [results, Try.results31, go_sem]) rfl ⟨_, _, _, by rw [HE.out], ?_, ?_⟩
    · exact fun hk => ⟨HT.out.symm, HC.out, HD.out hk⟩
    · repeat (first | exact Below.refl _ _ | refine Below.alloc ?_ (by first | omega | (simp; done) | (simp; omega)) _ | refine Below.setCell ?_ (by first | omega | (simp; done) | (simp; omega)) _)
set_option maxRecDepth 100000 in
set_option maxHeartbeats 2000000 in
theorem rr0_43z (s : ByteArray) (hp : preB s = false) (hq : 0 < s.size) (hy : byteAt s 0 = 43) (h2 : s.size = 2) (hz : inB (byteAt s 1) 49 57 = false) (w : World) :
    Calls Try.prog 31 #[.string s] w (RuleGives s w) := by
  have hsz : s.size = s.size := rfl
  have eP : wordP s = s := by unfold wordP; simp [hp]
  have eT : wordT s = 1 := by unfold wordT; simp [hp]
  have g0 := get_byteAt s 0 (by omega)
  have g1 := get_byteAt s 1 (by omega)
  have HE := Lib.hid (show wordOk s = false by unfold wordOk; rw [eP, pl_sign (by omega), hsz, hz, Bool.and_false])
  have HT := Lib.hid eT
  have s0 : (0 : Int) < s.size := by omega
  have sz : ((s.size : Int) == 0) = false := beq_eq_false_iff_ne.2 (by omega)
  have sq : (((s.size : Nat) : Int) == 2) = true := beq_iff_eq.2 (by omega)
  have s3 : 1 < s.size := by omega
  have s4 : (1 : Int) < ((s.size : Nat) : Int) := by omega
  rw [hy] at g0
  clear hp eP eT hy
  have hz : ¬ 49 ≤ byteAt s 1 ∨ ¬ byteAt s 1 ≤ 57 := by unfold inB at hz; simp only [Bool.and_eq_false_iff, decide_eq_false_iff_not] at hz; exact hz
  by_cases k0 : 49 ≤ byteAt s 1
  · have k1 : ¬ byteAt s 1 ≤ 57 := by omega
    clear hz
    go_enter Try.func31, Try.ntmps31
    go_wp2_with fail
    all_goals
      refine bodyPost_ret (v := .tuple #[.agg #[.int .i64 (0), .int .u8 (0), .int .i64 (0)], .bool (false)]) (by simp [results, Try.results31, go_sem]) rfl ⟨_, _, _, by rw [HE.out], ?_, ?_⟩
      · exact fun hk => by rw [HE.out] at hk; cases hk
      · repeat (first | exact Below.refl _ _ | refine Below.alloc ?_ (by first | omega | (simp; done) | (simp; omega)) _ | refine Below.setCell ?_ (by first | omega | (simp; done) | (simp; omega)) _)
  · clear hz
    go_enter Try.func31, Try.ntmps31
    go_wp2_with fail
    all_goals
      refine bodyPost_ret (v := .tuple #[.agg #[.int .i64 (0), .int .u8 (0), .int .i64 (0)], .bool (false)]) (by simp [results, Try.results31, go_sem]) rfl ⟨_, _, _, by rw [HE.out], ?_, ?_⟩
      · exact fun hk => by rw [HE.out] at hk; cases hk
      · repeat (first | exact Below.refl _ _ | refine Below.alloc ?_ (by first | omega | (simp; done) | (simp; omega)) _ | refine Below.setCell ?_ (by first | omega | (simp; done) | (simp; omega)) _)
set_option maxRecDepth 100000 in
set_option maxHeartbeats 2000000 in
theorem rr0_43q (s : ByteArray) (hp : preB s = false) (hq : 0 < s.size) (hy : byteAt s 0 = 43) (h2 : ¬ s.size = 2) (w : World) :
    Calls Try.prog 31 #[.string s] w (RuleGives s w) := by
  have hsz : s.size = s.size := rfl
  have eP : wordP s = s := by unfold wordP; simp [hp]
  have eT : wordT s = 1 := by unfold wordT; simp [hp]
  have g0 := get_byteAt s 0 (by omega)
  have HE := Lib.hid (show wordOk s = false by unfold wordOk; rw [eP, pl_sign (by omega), hsz, decide_eq_false h2, Bool.false_and])
  have HT := Lib.hid eT
  have s0 : (0 : Int) < s.size := by omega
  have sz : ((s.size : Int) == 0) = false := beq_eq_false_iff_ne.2 (by omega)
  have sq : (((s.size : Nat) : Int) == 2) = false := beq_eq_false_iff_ne.2 (by omega)
  rw [hy] at g0
  clear hp eP eT hy
  go_enter Try.func31, Try.ntmps31
  go_wp2_with fail
  all_goals
    refine bodyPost_ret (v := .tuple #[.agg #[.int .i64 (0), .int .u8 (0), .int .i64 (0)], .bool (false)]) (by simp [results, Try.results31, go_sem]) rfl ⟨_, _, _, by rw [HE.out], ?_, ?_⟩
    · exact fun hk => by rw [HE.out] at hk; cases hk
    · repeat (first | exact Below.refl _ _ | refine Below.alloc ?_ (by first | omega | (simp; done) | (simp; omega)) _ | refine Below.setCell ?_ (by first | omega | (simp; done) | (simp; omega)) _)
set_option maxRecDepth 100000 in
set_option maxHeartbeats 2000000 in
theorem rr0_45 (s : ByteArray) (hp : preB s = false) (hq : 0 < s.size) (hy : byteAt s 0 = 45) (h2 : s.size = 2) (hz : inB (byteAt s 1) 49 57 = true) (w : World) :
    Calls Try.prog 31 #[.string s] w (RuleGives s w) := by
  have hsz : s.size = s.size := rfl
  have eP : wordP s = s := by unfold wordP; simp [hp]
  have eT : wordT s = 1 := by unfold wordT; simp [hp]
  have g0 := get_byteAt s 0 (by omega)
  have g1 := get_byteAt s 1 (by omega)
  have hz' := inB_true hz
  have bd := byteAt_bd s 1
  have HE := Lib.hid (show wordOk s = true by unfold wordOk; rw [eP, pl_sign (by omega), hsz, hz, decide_eq_true h2]; rfl)
  have HD := Lib.hid (fun _ : wordOk s = true => show byteAt s 1 - 48 = wordD s by unfold wordD; rw [eP, hsz, if_pos h2])
  have HT := Lib.hid eT
  have HC := Lib.hid (show (45 : Int) = byteAt (wordP s) 0 by rw [eP, hy])
  have s0 : (0 : Int) < s.size := by omega
  have sz : ((s.size : Int) == 0) = false := beq_eq_false_iff_ne.2 (by omega)
  have sq : (((s.size : Nat) : Int) == 2) = true := beq_iff_eq.2 (by omega)
  have s3 : 1 < s.size := by omega
  have s4 : (1 : Int) < ((s.size : Nat) : Int) := by omega
  have z0 := hz'.1; have z1 := hz'.2
  have wz : wrap64 (byteAt s 1 - 48) = byteAt s 1 - 48 := IntWalk.wrap64_in _ ⟨by omega, by omega⟩
  rw [hy] at g0
  clear hp eP eT hz hz' hy
  go_enter Try.func31, Try.ntmps31
  go_wp2_with fail
  all_goals
    refine bodyPost_ret (v := .tuple #[.agg #[.int .i64 (1), .int .u8 (45), .int .i64 (byteAt s 1 - 48)], .bool (true)]) (by simp [results, Try.results31, go_sem]) rfl ⟨_, _, _, by rw [HE.out], ?_, ?_⟩
    · exact fun hk => ⟨HT.out.symm, HC.out, HD.out hk⟩
    · repeat (first | exact Below.refl _ _ | refine Below.alloc ?_ (by first | omega | (simp; done) | (simp; omega)) _ | refine Below.setCell ?_ (by first | omega | (simp; done) | (simp; omega)) _)
set_option maxRecDepth 100000 in
set_option maxHeartbeats 2000000 in
theorem rr0_45z (s : ByteArray) (hp : preB s = false) (hq : 0 < s.size) (hy : byteAt s 0 = 45) (h2 : s.size = 2) (hz : inB (byteAt s 1) 49 57 = false) (w : World) :
    Calls Try.prog 31 #[.string s] w (RuleGives s w) := by
  have hsz : s.size = s.size := rfl
  have eP : wordP s = s := by unfold wordP; simp [hp]
  have eT : wordT s = 1 := by unfold wordT; simp [hp]
  have g0 := get_byteAt s 0 (by omega)
  have g1 := get_byteAt s 1 (by omega)
  have HE := Lib.hid (show wordOk s = false by unfold wordOk; rw [eP, pl_sign (by omega), hsz, hz, Bool.and_false])
  have HT := Lib.hid eT
  have s0 : (0 : Int) < s.size := by omega
  have sz : ((s.size : Int) == 0) = false := beq_eq_false_iff_ne.2 (by omega)
  have sq : (((s.size : Nat) : Int) == 2) = true := beq_iff_eq.2 (by omega)
  have s3 : 1 < s.size := by omega
  have s4 : (1 : Int) < ((s.size : Nat) : Int) := by omega
  rw [hy] at g0
  clear hp eP eT hy
  have hz : ¬ 49 ≤ byteAt s 1 ∨ ¬ byteAt s 1 ≤ 57 := by unfold inB at hz; simp only [Bool.and_eq_false_iff, decide_eq_false_iff_not] at hz; exact hz
  by_cases k0 : 49 ≤ byteAt s 1
  · have k1 : ¬ byteAt s 1 ≤ 57 := by omega
    clear hz
    go_enter Try.func31, Try.ntmps31
    go_wp2_with fail
    all_goals
      refine bodyPost_ret (v := .tuple #[.agg #[.int .i64 (0), .int .u8 (0), .int .i64 (0)], .bool (false)]) (by simp [results, Try.results31, go_sem]) rfl ⟨_, _, _, by rw [HE.out], ?_, ?_⟩
      · exact fun hk => by rw [HE.out] at hk; cases hk
      · repeat (first | exact Below.refl _ _ | refine Below.alloc ?_ (by first | omega | (simp; done) | (simp; omega)) _ | refine Below.setCell ?_ (by first | omega | (simp; done) | (simp; omega)) _)
  · clear hz
    go_enter Try.func31, Try.ntmps31
    go_wp2_with fail
    all_goals
      refine bodyPost_ret (v := .tuple #[.agg #[.int .i64 (0), .int .u8 (0), .int .i64 (0)], .bool (false)]) (by simp [results, Try.results31, go_sem]) rfl ⟨_, _, _, by rw [HE.out], ?_, ?_⟩
      · exact fun hk => by rw [HE.out] at hk; cases hk
      · repeat (first | exact Below.refl _ _ | refine Below.alloc ?_ (by first | omega | (simp; done) | (simp; omega)) _ | refine Below.setCell ?_ (by first | omega | (simp; done) | (simp; omega)) _)
set_option maxRecDepth 100000 in
set_option maxHeartbeats 2000000 in
theorem rr0_45q (s : ByteArray) (hp : preB s = false) (hq : 0 < s.size) (hy : byteAt s 0 = 45) (h2 : ¬ s.size = 2) (w : World) :
    Calls Try.prog 31 #[.string s] w (RuleGives s w) := by
  have hsz : s.size = s.size := rfl
  have eP : wordP s = s := by unfold wordP; simp [hp]
  have eT : wordT s = 1 := by unfold wordT; simp [hp]
  have g0 := get_byteAt s 0 (by omega)
  have HE := Lib.hid (show wordOk s = false by unfold wordOk; rw [eP, pl_sign (by omega), hsz, decide_eq_false h2, Bool.false_and])
  have HT := Lib.hid eT
  have s0 : (0 : Int) < s.size := by omega
  have sz : ((s.size : Int) == 0) = false := beq_eq_false_iff_ne.2 (by omega)
  have sq : (((s.size : Nat) : Int) == 2) = false := beq_eq_false_iff_ne.2 (by omega)
  rw [hy] at g0
  clear hp eP eT hy
  go_enter Try.func31, Try.ntmps31
  go_wp2_with fail
  all_goals
    refine bodyPost_ret (v := .tuple #[.agg #[.int .i64 (0), .int .u8 (0), .int .i64 (0)], .bool (false)]) (by simp [results, Try.results31, go_sem]) rfl ⟨_, _, _, by rw [HE.out], ?_, ?_⟩
    · exact fun hk => by rw [HE.out] at hk; cases hk
    · repeat (first | exact Below.refl _ _ | refine Below.alloc ?_ (by first | omega | (simp; done) | (simp; omega)) _ | refine Below.setCell ?_ (by first | omega | (simp; done) | (simp; omega)) _)
set_option maxRecDepth 100000 in
set_option maxHeartbeats 2000000 in
theorem rr0_x1 (s : ByteArray) (hp : preB s = false) (hq : 0 < s.size) (n0 : byteAt s 0 ≠ 60) (n1 : byteAt s 0 ≠ 62) (n2 : byteAt s 0 ≠ 99) (n3 : byteAt s 0 ≠ 43) (n4 : byteAt s 0 ≠ 45) (hs1 : ¬ (1 : Int) < s.size) (w : World) :
    Calls Try.prog 31 #[.string s] w (RuleGives s w) := by
  have hsz : s.size = s.size := rfl
  have eP : wordP s = s := by unfold wordP; simp [hp]
  have eT : wordT s = 1 := by unfold wordT; simp [hp]
  have g0 := get_byteAt s 0 (by omega)
  have HE := Lib.hid (show wordOk s = false by unfold wordOk; rw [eP]; exact pl_other n0 n1 n2 n3 n4)
  have m0 : (byteAt s 0 == 60) = false := beq_eq_false_iff_ne.2 n0
  have m1 : (byteAt s 0 == 62) = false := beq_eq_false_iff_ne.2 n1
  have m2 : (byteAt s 0 == 99) = false := beq_eq_false_iff_ne.2 n2
  have m3 : (byteAt s 0 == 43) = false := beq_eq_false_iff_ne.2 n3
  have m4 : (byteAt s 0 == 45) = false := beq_eq_false_iff_ne.2 n4
  have HT := Lib.hid eT
  have s0 : (0 : Int) < s.size := by omega
  have sz : ((s.size : Int) == 0) = false := beq_eq_false_iff_ne.2 (by omega)
  clear hp eP eT
  clear n0 n1 n2 n3 n4
  go_enter Try.func31, Try.ntmps31
  go_wp2_with fail
  all_goals
    refine bodyPost_ret (v := .tuple #[.agg #[.int .i64 (0), .int .u8 (0), .int .i64 (0)], .bool (false)]) (by simp [results, Try.results31, go_sem]) rfl ⟨_, _, _, by rw [HE.out], ?_, ?_⟩
    · exact fun hk => by rw [HE.out] at hk; cases hk
    · repeat (first | exact Below.refl _ _ | refine Below.alloc ?_ (by first | omega | (simp; done) | (simp; omega)) _ | refine Below.setCell ?_ (by first | omega | (simp; done) | (simp; omega)) _)
set_option maxRecDepth 100000 in
set_option maxHeartbeats 2000000 in
theorem rr0_x2 (s : ByteArray) (hp : preB s = false) (hq : 0 < s.size) (n0 : byteAt s 0 ≠ 60) (n1 : byteAt s 0 ≠ 62) (n2 : byteAt s 0 ≠ 99) (n3 : byteAt s 0 ≠ 43) (n4 : byteAt s 0 ≠ 45) (hs1 : (1 : Int) < s.size) (hs2 : ¬ 50 ≤ byteAt s 0) (w : World) :
    Calls Try.prog 31 #[.string s] w (RuleGives s w) := by
  have hsz : s.size = s.size := rfl
  have eP : wordP s = s := by unfold wordP; simp [hp]
  have eT : wordT s = 1 := by unfold wordT; simp [hp]
  have g0 := get_byteAt s 0 (by omega)
  have HE := Lib.hid (show wordOk s = false by unfold wordOk; rw [eP]; exact pl_other n0 n1 n2 n3 n4)
  have m0 : (byteAt s 0 == 60) = false := beq_eq_false_iff_ne.2 n0
  have m1 : (byteAt s 0 == 62) = false := beq_eq_false_iff_ne.2 n1
  have m2 : (byteAt s 0 == 99) = false := beq_eq_false_iff_ne.2 n2
  have m3 : (byteAt s 0 == 43) = false := beq_eq_false_iff_ne.2 n3
  have m4 : (byteAt s 0 == 45) = false := beq_eq_false_iff_ne.2 n4
  have HT := Lib.hid eT
  have s0 : (0 : Int) < s.size := by omega
  have sz : ((s.size : Int) == 0) = false := beq_eq_false_iff_ne.2 (by omega)
  clear hp eP eT
  clear n0 n1 n2 n3 n4
  go_enter Try.func31, Try.ntmps31
  go_wp2_with fail
  all_goals
    refine bodyPost_ret (v := .tuple #[.agg #[.int .i64 (0), .int .u8 (0), .int .i64 (0)], .bool (false)]) (by simp [results, Try.results31, go_sem]) rfl ⟨_, _, _, by rw [HE.out], ?_, ?_⟩
    · exact fun hk => by rw [HE.out] at hk; cases hk
    · repeat (first | exact Below.refl _ _ | refine Below.alloc ?_ (by first | omega | (simp; done) | (simp; omega)) _ | refine Below.setCell ?_ (by first | omega | (simp; done) | (simp; omega)) _)
set_option maxRecDepth 100000 in
set_option maxHeartbeats 2000000 in
theorem rr0_x3 (s : ByteArray) (hp : preB s = false) (hq : 0 < s.size) (n0 : byteAt s 0 ≠ 60) (n1 : byteAt s 0 ≠ 62) (n2 : byteAt s 0 ≠ 99) (n3 : byteAt s 0 ≠ 43) (n4 : byteAt s 0 ≠ 45) (hs1 : (1 : Int) < s.size) (hs2 : 50 ≤ byteAt s 0) (hs3 : ¬ byteAt s 0 ≤ 57) (w : World) :
    Calls Try.prog 31 #[.string s] w (RuleGives s w) := by
  have hsz : s.size = s.size := rfl
  have eP : wordP s = s := by unfold wordP; simp [hp]
  have eT : wordT s = 1 := by unfold wordT; simp [hp]
  have g0 := get_byteAt s 0 (by omega)
  have HE := Lib.hid (show wordOk s = false by unfold wordOk; rw [eP]; exact pl_other n0 n1 n2 n3 n4)
  have m0 : (byteAt s 0 == 60) = false := beq_eq_false_iff_ne.2 n0
  have m1 : (byteAt s 0 == 62) = false := beq_eq_false_iff_ne.2 n1
  have m2 : (byteAt s 0 == 99) = false := beq_eq_false_iff_ne.2 n2
  have m3 : (byteAt s 0 == 43) = false := beq_eq_false_iff_ne.2 n3
  have m4 : (byteAt s 0 == 45) = false := beq_eq_false_iff_ne.2 n4
  have HT := Lib.hid eT
  have s0 : (0 : Int) < s.size := by omega
  have sz : ((s.size : Int) == 0) = false := beq_eq_false_iff_ne.2 (by omega)
  clear hp eP eT
  clear n0 n1 n2 n3 n4
  go_enter Try.func31, Try.ntmps31
  go_wp2_with fail
  all_goals
    refine bodyPost_ret (v := .tuple #[.agg #[.int .i64 (0), .int .u8 (0), .int .i64 (0)], .bool (false)]) (by simp [results, Try.results31, go_sem]) rfl ⟨_, _, _, by rw [HE.out], ?_, ?_⟩
    · exact fun hk => by rw [HE.out] at hk; cases hk
    · repeat (first | exact Below.refl _ _ | refine Below.alloc ?_ (by first | omega | (simp; done) | (simp; omega)) _ | refine Below.setCell ?_ (by first | omega | (simp; done) | (simp; omega)) _)
set_option maxRecDepth 100000 in
set_option maxHeartbeats 2000000 in
theorem rr0_0 (s : ByteArray) (hp : preB s = false) (h0 : s.size = 0) (w : World) :
    Calls Try.prog 31 #[.string s] w (RuleGives s w) := by
  have hsz : s.size = s.size := rfl
  have eP : wordP s = s := by unfold wordP; simp [hp]
  have eT : wordT s = 1 := by unfold wordT; simp [hp]
  have HE := Lib.hid (show wordOk s = false by cases hv : wordOk s with | false => rfl | true => have := ok_size hv; omega)
  have HT := Lib.hid eT
  have sz : ((s.size : Int) == 0) = true := beq_iff_eq.2 (by omega)
  have s0 : ¬ (1 : Int) < s.size := by omega
  clear hp eP eT h0
  go_enter Try.func31, Try.ntmps31
  go_wp2_with fail
  all_goals
    refine bodyPost_ret (v := .tuple #[.agg #[.int .i64 (0), .int .u8 (0), .int .i64 (0)], .bool (false)]) (by simp [results, Try.results31, go_sem]) rfl ⟨_, _, _, by rw [HE.out], ?_, ?_⟩
    · exact fun hk => by rw [HE.out] at hk; cases hk
    · repeat (first | exact Below.refl _ _ | refine Below.alloc ?_ (by first | omega | (simp; done) | (simp; omega)) _ | refine Below.setCell ?_ (by first | omega | (simp; done) | (simp; omega)) _)
end Go.Proofs.Ytianniocjhgllaa
