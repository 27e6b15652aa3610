/- The words of a script read by the program; the laws on IsScript, WordsOf, EndRod. No condition. -/
import Derived.Test.YtianniocjhgllaaScript
import Derived.Test.YtianniocjhgllaaWord2
namespace Go.Proofs.Ytianniocjhgllaa
open Go.RowKit

theorem readRule_any (s : ByteArray) (w : World) : Calls Try.prog 31 #[.string s] w (RuleGives s w) := by
  cases hp : preB s
  · by_cases h0 : s.size = 0
    · exact rr0_0 s hp h0 w
    have hq : 0 < s.size := by omega
    by_cases n0 : byteAt s 0 = 60
    · exact rr0_60 s hp hq n0 w
    by_cases n1 : byteAt s 0 = 62
    · exact rr0_62 s hp hq n1 w
    by_cases n2 : byteAt s 0 = 99
    · exact rr0_99 s hp hq n2 w
    by_cases n3 : byteAt s 0 = 43
    · by_cases h2 : s.size = 2
      · cases hz : inB (byteAt s 1) 49 57
        · exact rr0_43z s hp hq n3 h2 hz w
        · exact rr0_43 s hp hq n3 h2 hz w
      · exact rr0_43q s hp hq n3 h2 w
    by_cases n4 : byteAt s 0 = 45
    · by_cases h2 : s.size = 2
      · cases hz : inB (byteAt s 1) 49 57
        · exact rr0_45z s hp hq n4 h2 hz w
        · exact rr0_45 s hp hq n4 h2 hz w
      · exact rr0_45q s hp hq n4 h2 w
    by_cases hs1 : (1 : Int) < s.size
    · by_cases hs2 : 50 ≤ byteAt s 0
      · refine rr0_x3 s hp hq n0 n1 n2 n3 n4 hs1 hs2 (fun h => ?_) w
        unfold preB inB at hp
        simp at hp
        have := hp (by omega) hs2
        omega
      · exact rr0_x2 s hp hq n0 n1 n2 n3 n4 hs1 hs2 w
    · exact rr0_x1 s hp hq n0 n1 n2 n3 n4 hs1 w
  · have hq : 0 < s.size - 1 := by
      unfold preB at hp
      simp only [Bool.and_eq_true, decide_eq_true_eq] at hp
      omega
    by_cases n0 : byteAt (s.extract 1 s.size) 0 = 60
    · exact rr1_60 s hp hq n0 w
    by_cases n1 : byteAt (s.extract 1 s.size) 0 = 62
    · exact rr1_62 s hp hq n1 w
    by_cases n2 : byteAt (s.extract 1 s.size) 0 = 99
    · exact rr1_99 s hp hq n2 w
    by_cases n3 : byteAt (s.extract 1 s.size) 0 = 43
    · by_cases h2 : s.size - 1 = 2
      · cases hz : inB (byteAt (s.extract 1 s.size) 1) 49 57
        · exact rr1_43z s hp hq n3 h2 hz w
        · exact rr1_43 s hp hq n3 h2 hz w
      · exact rr1_43q s hp hq n3 h2 w
    by_cases n4 : byteAt (s.extract 1 s.size) 0 = 45
    · by_cases h2 : s.size - 1 = 2
      · cases hz : inB (byteAt (s.extract 1 s.size) 1) 49 57
        · exact rr1_45z s hp hq n4 h2 hz w
        · exact rr1_45 s hp hq n4 h2 hz w
      · exact rr1_45q s hp hq n4 h2 w
    exact rr1_x s hp hq n0 n1 n2 n3 n4 w
def ruleF (ws : List ByteArray) : List Value := ws.flatMap ruleL
theorem ruleF_app (a b : List ByteArray) : ruleF (a ++ b) = ruleF a ++ ruleF b := List.flatMap_append
theorem ruleF_at : ∀ {ws : List ByteArray} {k : Nat} {wd : ByteArray}, ws[k]? = some wd → (ruleF ws)[k * 3]? = some (.int .i64 (wordT wd)) ∧ (ruleF ws)[k * 3 + 1]? = some (.int .u8 (byteAt (wordP wd) 0)) ∧ (ruleF ws)[k * 3 + 2]? = some (.int .i64 (wordD wd))
  | [], k, wd, h => by simp at h
  | x :: ws, 0, wd, h => by
    obtain rfl : x = wd := by simpa using h
    exact ⟨rfl, rfl, rfl⟩
  | x :: ws, k + 1, wd, h => by
    obtain ⟨h1, h2, h3⟩ := ruleF_at (ws := ws) (k := k) (wd := wd) (by simpa using h)
    have e : ruleF (x :: ws) = ruleL x ++ ruleF ws := rfl
    have key : ∀ i, (ruleF (x :: ws))[(k + 1) * 3 + i]? = (ruleF ws)[k * 3 + i]? := fun i => by
      rw [e, List.getElem?_append_right (by show 3 ≤ _; omega)]
      congr 1
      show (k + 1) * 3 + i - 3 = k * 3 + i
      omega
    exact ⟨(key 0).trans h1, (key 1).trans h2, (key 2).trans h3⟩
theorem Reads.rule {w : World} {B n : Nat} {A : Option Addr} {ws : List ByteArray} (h : Reads w B 3 A n (ruleF ws)) {k : Nat} {wd : ByteArray} (hw : ws[k]? = some wd) (hk : k < n) :
    ∃ b o, A = some ⟨b, o, none⟩ ∧ w.cell? ⟨b, o + k * 3, none⟩ = some (.int .i64 (wordT wd)) ∧ w.cell? ⟨b, o + k * 3 + 1, none⟩ = some (.int .u8 (byteAt (wordP wd) 0)) ∧ w.cell? ⟨b, o + k * 3 + 2, none⟩ = some (.int .i64 (wordD wd)) := by
  obtain ⟨ad, e, _, hc⟩ := h.2 (by omega)
  obtain ⟨b, o, s⟩ := ad
  obtain ⟨h1, h2, h3⟩ := ruleF_at hw
  have hl := h.1
  have hs : s = none := by
    have h0 : (ruleF ws)[0]? = some ((ruleF ws)[0]'(by omega)) := List.getElem?_eq_getElem (by omega)
    have := World.cell?_spot (hc 0 _ h0)
    simpa [Addr.add] using this
  subst hs
  have k1 := hc _ _ h1
  have k2 := hc _ _ h2
  have k3 := hc _ _ h3
  simp only [Addr.add_lit, ← Nat.add_assoc] at k1 k2 k3
  exact ⟨b, o, e, k1, k2, k3⟩
theorem ruleF_len (ws : List ByteArray) : (ruleF ws).length = ws.length * 3 := by
  induction ws with
  | nil => rfl
  | cons x ws ih =>
    have e : ruleF (x :: ws) = ruleL x ++ ruleF ws := rfl
    rw [e, List.length_append, ih, List.length_cons]
    show 3 + _ = _
    omega
def ruleO (s : ByteArray) : List ByteArray := if scriptB s = true then wordsB s else []
theorem ruleO_yes {s : ByteArray} (h : scriptB s = true) : ruleO s = wordsB s := by unfold ruleO; rw [h]; simp
theorem ruleO_no {s : ByteArray} (h : scriptB s = false) : ruleO s = [] := by unfold ruleO; rw [h]; simp
theorem infoR : (Try.prog.info? 42).map (fun i => (i.zero, i.size, i.bytes)) = some (some (.agg #[.int .i64 0, .int .u8 0, .int .i64 0]), 3, 24) := by kernel_rfl
theorem rule_oneCell (ws : List ByteArray) : ∀ u ∈ ruleF ws, u.oneCell' = true := by
  intro u hu
  obtain ⟨x, _, hx⟩ := List.mem_flatMap.1 hu
  unfold ruleL at hx
  simp only [List.mem_cons, List.not_mem_nil, or_false] at hx
  rcases hx with rfl | rfl | rfl <;> rfl
/-- append to the list of words. -/
theorem appR {ops : Array Oper} {rest : List Oper} {o : Oper} {a : Act} {Q : Exit → Act → World → Prop} (hgd : o.guard = none) (s x : Operand)
    (ho : o.op = .call { callee := .builtin .append, args := #[s, x], argTypes := #[35, 35] })
    {w0 w : World} {A : Option Addr} {n c : Nat} {ws : List ByteArray} (hs : a.eval s = .slice A n c) (hacc : AccV w0 w 42 3 A n c (ruleF ws))
    {B m c2 : Nat} {A2 : Option Addr} {news : List ByteArray} (hx : a.eval x = .slice A2 m c2) (hr : Reads w B 3 A2 m (ruleF news)) (hb : n + m ≤ 1099511627776)
    (h : ∀ A' c' w', AccV w0 w' 42 3 A' (n + m) c' (ruleF (ws ++ news)) → Pushed w w' A A' → wpList Try.prog ops Q rest (a.put o.dst (.slice A' (n + m) c')) w') : wpList Try.prog ops Q (o :: rest) a w :=
  accV_app Try.underlying35 infoR rfl (by decide) hgd s x ho hs hacc hx hr (rule_oneCell _) (by unfold maxLen; omega) (by omega) (by rw [← ruleF_app]; exact h)
theorem reads_newR (w : World) (T : TypeId) (wd : ByteArray) (g : Nat) (hg : g = w.heap.size) : Reads (w.alloc (.cells #[.int .i64 (wordT wd), .int .u8 (byteAt (wordP wd) 0), .int .i64 (wordD wd)] T)) (w.heap.size + 1) 3 (some ⟨g, 0, none⟩) 1 (ruleF [wd]) :=
  reads_newV w #[.int .i64 (wordT wd), .int .u8 (byteAt (wordP wd) 0), .int .i64 (wordD wd)] T 3 g hg rfl
/-- What the program's list of words is. -/
def RulesGive (s : ByteArray) (w : World) (e : Ending) (w' : World) : Prop := ∃ A n c, e = .returned (.tuple #[.slice A n c, .bool (scriptB s)]) ∧ AccV w w' 42 3 A n c (ruleF (ruleO s))
set_option maxRecDepth 100000 in
set_option maxHeartbeats 2000000 in
theorem rulesOf_any (s : ByteArray) (w : World) : Calls Try.prog 24 #[.string s] w (RulesGive s w) := by
  unfold RulesGive
  by_cases h80 : s.size ≤ 80
  · have h81 : ¬ (80 : Int) < s.size := by omega
    by_cases h0 : s.size = 0
    · have he := str_empty h0
      have hs : scriptB s = true := by unfold scriptB wordsB; rw [if_pos h0]; simp [h80]
      have HO := Lib.hid (show ruleO s = [] by rw [ruleO_yes hs]; unfold wordsB; rw [if_pos h0])
      have HS := Lib.hid hs
      clear hs h0
      go_enter Try.func24, Try.ntmps24
      go_wp2_with fail
      go_ret2
      rw [HS.out, HO.out]
      exact ⟨_, _, _, rfl, AccV.nil (Below.refl _ _)⟩
    · have he := str_some h0
      have HW := Lib.hid (show wordsB s = splitB s 32 by unfold wordsB; rw [if_neg h0])
      have HS := Lib.hid (show scriptB s = (splitB s 32).all wordOk by unfold scriptB; rw [HW.out]; simp [h80])
      have hl := split_len s 32
      go_enter Try.func24, Try.ntmps24
      go_wp2_with fail
      refine (split_any s (by omega) _).mono ?_
      rintro e w1 ⟨A, n, c, rfl, ha⟩
      have HA := Lib.hid ha
      have hn : (splitB s 32).length = n := ha.reads.strLen
      clear ha
      generalize splitB s 32 = ws at *
      have HL := Lib.hid hn
      have hn81 : n ≤ 81 := by omega
      clear hn hl h0
      go_wp2_with fail
      go_loopw [4, 17] (fun p q wr => ∃ (k m cc : Nat) (P : Option Addr), q = .int .i64 k ∧ k ≤ n ∧ p = .slice P m cc ∧ (ws.take k).all wordOk = true ∧ AccV w1 wr 42 3 P m cc (ruleF (ws.take k))) (fun _ q _ => n - (intOf q).toNat)
      case atStart => exact ⟨0, 0, 0, none, rfl, by omega, rfl, rfl, AccV.nil (Below.refl _ _)⟩
      case round =>
        obtain ⟨wo, rfl⟩ : ∃ wo : World, wo = wr := ⟨_, rfl⟩
        obtain ⟨k, m, cc, P, rfl, hk, rfl, hall, hacc⟩ := hrel
        have HK := Lib.hid hall
        have HP := Lib.hid hacc
        have hm : m ≤ n := by have := hacc.len; rw [ruleF_len, List.length_take] at this; omega
        clear hall hacc
        have k0 : (0 : Int) ≤ k := by omega
        by_cases hlt : k < n
        · obtain ⟨b, o, wd, rfl, hw, hcell⟩ := (HA.out.reads.below HP.out.ext).str hlt
          have HX := Lib.hid hw
          clear hw
          have k1 : (k : Int) < n := by omega
          cases hv : wordOk wd
          · have HV := Lib.hid hv
            clear hv
            have HF := Lib.hid (show scriptB s = false by rw [HS.out, all_miss HX.out HV.out])
            go_wp2_with fail
            refine (readRule_any wd _).mono ?_
            rintro e w3 ⟨t, c0, d, rfl, _, hb3⟩
            rw [HV.out]
            go_wp2_with fail
            go_ret2
            rw [HF.out, ruleO_no HF.out]
            exact ⟨_, _, _, rfl, AccV.nil (ext_alloc (ext_trans (ext_trans HA.out.ext HP.out.ext) hb3) _)⟩
          · have HV := Lib.hid hv
            clear hv
            go_wp2_with fail
            refine (readRule_any wd _).mono ?_
            rintro e w3 ⟨t, c0, d, rfl, himp, hb3⟩
            obtain ⟨rfl, rfl, rfl⟩ := himp HV.out
            rw [HV.out]
            have HQ := Lib.hid (HP.out.later hb3)
            clear hb3
            go_wp2_with (at_builtin; refine appR rfl _ _ rfl rfl ((HQ.out.alloc _).alloc _) rfl (reads_newR _ _ wd _ (by simp)) (by omega) ?_; intro A2 c2 wz A3 _)
            go_roundw
            case rel => exact ⟨k + 1, _, _, _, by go_num, by omega, rfl, all_next HX.out HK.out HV.out, by rw [take_at HX.out]; exact A3⟩
            case measure => simp [intOf]; omega
        · have hk' : ws.take k = ws := List.take_of_length_le (by have := HL.out; omega)
          rw [hk'] at HK HP
          have HT := Lib.hid (show scriptB s = true by rw [HS.out, HK.out])
          have HZ := Lib.hid HW.out
          go_wp2_with fail
          go_ret2
          rw [HT.out, ruleO_yes HT.out, HZ.out]
          exact ⟨_, _, _, rfl, HP.out.since HA.out.ext⟩
  · have HS := Lib.hid (show scriptB s = false by unfold scriptB; simp [h80])
    have h81 : (80 : Int) < s.size := by omega
    clear h80
    go_enter Try.func24, Try.ntmps24
    go_wp2_with fail
    go_ret2
    rw [HS.out, ruleO_no HS.out]
    exact ⟨_, _, _, rfl, AccV.nil (Below.refl _ _)⟩
set_option maxHeartbeats 1000000 in
theorem iIsScript_any (s : ByteArray) (w : World) :
    Calls Try.prog 11 #[.string s] w fun e w' => e = .returned (.bool (scriptB s)) ∧ Below w.heap.size w w' := by
  go_enter Try.func11, Try.ntmps11
  go_wp2_with fail
  refine (rulesOf_any s _).mono ?_
  rintro e w' ⟨A, n, c, rfl, ha⟩
  go_wp2_with fail
  go_ret
  exact ⟨rfl, ha.ext⟩
set_option maxHeartbeats 1000000 in
theorem FnExactIsScript_any (s : ByteArray) (_ : s.size ≤ maxLen) (w : World) :
    Calls Try.prog 4 #[.string s] w fun e w' => e = .returned (.bool true) ∧ Below w.heap.size w w' := by
  by_cases hs : s.size ≤ 1048576
  · have h1 : ¬ (1048576 : Int) < s.size := by omega
    obtain ⟨v, hv⟩ : ∃ v, scriptB s = v := ⟨_, rfl⟩
    have HV := Lib.hid hv
    have he : (v != v) = false := by simp
    clear hs hv
    go_enter Try.func4, Try.ntmps4
    go_wp2_with fail
    refine (sIsScript_any s _).mono ?_
    rintro e w1 ⟨rfl, h1⟩
    rw [HV.out]
    go_wp2_with fail
    refine (iIsScript_any s _).mono ?_
    rintro e w2 ⟨rfl, h2⟩
    rw [HV.out]
    go_wp2_with fail
    go_ret
    exact ⟨rfl, ext_trans h1 h2⟩
  · have h1 : (1048576 : Int) < s.size := by omega
    clear hs
    go_enter Try.func4, Try.ntmps4
    go_wp2_with fail
    go_ret
    exact ⟨rfl, Below.refl _ _⟩
end Go.Proofs.Ytianniocjhgllaa
