/- Texts cut at a blank; the reference's test of words. No condition. -/
import Derived.Test.YtianniocjhgllaaWord
import Derived.Test.YtianniocjhgllaaAccV
import Derived.Laws.DeepStrings4
import Derived.StillTailTactics
namespace Go.Proofs.Ytianniocjhgllaa
open Go.RowKit

theorem reads_newS (w : World) (T : TypeId) (p : ByteArray) : Reads (w.alloc (.cells #[.string p] T)) (w.heap.size + 1) 1 (some ⟨w.heap.size, 0, none⟩) 1 ([p].map Value.string) :=
  reads_newV w #[.string p] T 1 _ rfl rfl
/-- What a function gives that hands back texts. -/
def GivesT (E : TypeId) (ss : List ByteArray) (w : World) (e : Ending) (w' : World) : Prop := ∃ A n c, e = .returned (.slice A n c) ∧ AccV w w' E 1 A n c (ss.map Value.string)
theorem str_empty {s : ByteArray} (h : s.size = 0) : s.toList.isEmpty = true := by
  rw [ByteArray.toList_eq]
  rw [size_list] at h
  rw [List.length_eq_zero_iff.1 h]; rfl
theorem str_some {s : ByteArray} (h : ¬ s.size = 0) : s.toList.isEmpty = false := by
  rw [ByteArray.toList_eq]
  rw [size_list] at h
  cases hl : s.data.toList with
  | nil => rw [hl] at h; simp at h
  | cons a l => rfl
set_option maxHeartbeats 1000000 in
theorem split_any (s : ByteArray) (hs : s.size ≤ 4000) (w : World) :
    Calls Try.prog 29 #[.string s, .int .u8 32] w fun e w' => GivesT 9 (splitB s 32) w e w' := by
  go_enter Try.func29, Try.ntmps29
  go_wp2
  go_loopw [5, 6, 7] (fun o f i wr => ∃ (k m cc : Nat) (P : Option Addr), i = .int .i64 k ∧ k ≤ s.size ∧ f = .int .i64 ((cutsTo s 32 k).2 : Nat) ∧ o = .slice P m cc ∧ AccV w wr 9 1 P m cc ((cutsTo s 32 k).1.map Value.string)) (fun _ _ i _ => s.size - (intOf i).toNat)
  case atStart => exact ⟨0, 0, 0, none, rfl, by omega, rfl, rfl, AccV.nil (Below.refl _ _)⟩
  case round =>
    obtain ⟨wo, rfl⟩ : ∃ wo : World, wo = wr := ⟨_, rfl⟩
    obtain ⟨k, m, cc, P, rfl, hk, rfl, rfl, hacc⟩ := hrel
    have HA := Lib.hid hacc
    have hf := cuts_from s 32 k
    have hm : m ≤ 4000 := by have := cuts_len s 32 k; have := hacc.len; simp at this; omega
    clear hacc
    have k0 : (0 : Int) ≤ k := by omega
    by_cases hlt : k < s.size
    · have k1 : (k : Int) < s.size := by omega
      have hz := get_byteAt s k hlt
      by_cases hb : byteAt s k = 32
      · have HN := Lib.hid (cuts_hit hb)
        rw [hb] at hz
        generalize (cutsTo s 32 k).2 = f at hf HN ⊢
        generalize (cutsTo s 32 k).1 = ps at HA HN
        go_wp2_with (at_builtin; refine appS rfl _ _ rfl rfl (HA.out.alloc _) rfl (reads_newS _ _ _) (by omega) ?_; intro A2 c2 wz A3 _)
        go_roundw
        case rel => exact ⟨k + 1, _, _, _, by go_num, by omega, by rw [HN.out]; go_num, rfl, by rw [HN.out]; exact A3⟩
        case measure => simp [intOf]; omega
      · have HN := Lib.hid (cuts_miss hb)
        have hq : (byteAt s k == 32) = false := by simp [hb]
        clear hb
        go_wp2
        go_roundw
        case rel => exact ⟨k + 1, _, _, _, by go_num, by omega, by rw [HN.out], rfl, by rw [HN.out]; exact HA.out⟩
        case measure => simp [intOf]; omega
    · obtain rfl : k = s.size := by omega
      go_wp2_with (at_builtin; refine appS rfl _ _ rfl rfl (HA.out.alloc _) rfl (reads_newS _ _ _) (by omega) ?_; intro A2 c2 wz A3 _)
      go_ret
      exact ⟨_, _, _, rfl, A3⟩
set_option maxHeartbeats 1000000 in
theorem l1Split_any (s : ByteArray) (hs : s.size ≤ 4000) (w : World) :
    Calls Try.prog 32 #[.string s, .int .u8 32] w fun e w' => GivesT 9 (splitB s 32) w e w' := by
  go_enter Try.func32, Try.ntmps32
  go_wp2
  go_loopw [5, 6, 7] (fun o f i wr => ∃ (k m cc : Nat) (P : Option Addr), i = .int .i64 k ∧ k ≤ s.size ∧ f = .int .i64 ((cutsTo s 32 k).2 : Nat) ∧ o = .slice P m cc ∧ AccV w wr 9 1 P m cc ((cutsTo s 32 k).1.map Value.string)) (fun _ _ i _ => s.size - (intOf i).toNat)
  case atStart => exact ⟨0, 0, 0, _, rfl, by omega, rfl, rfl, AccV.empty (Below.refl _ _)⟩
  case round =>
    obtain ⟨wo, rfl⟩ : ∃ wo : World, wo = wr := ⟨_, rfl⟩
    obtain ⟨k, m, cc, P, rfl, hk, rfl, rfl, hacc⟩ := hrel
    have HA := Lib.hid hacc
    have hf := cuts_from s 32 k
    have hm : m ≤ 4000 := by have := cuts_len s 32 k; have := hacc.len; simp at this; omega
    clear hacc
    have k0 : (0 : Int) ≤ k := by omega
    by_cases hlt : k < s.size
    · have k1 : (k : Int) < s.size := by omega
      have hz := get_byteAt s k hlt
      by_cases hb : byteAt s k = 32
      · have HN := Lib.hid (cuts_hit hb)
        rw [hb] at hz
        generalize (cutsTo s 32 k).2 = f at hf HN ⊢
        generalize (cutsTo s 32 k).1 = ps at HA HN
        go_wp2_with (at_builtin; refine appS rfl _ _ rfl rfl (HA.out.alloc _) rfl (reads_newS _ _ _) (by omega) ?_; intro A2 c2 wz A3 _)
        go_roundw
        case rel => exact ⟨k + 1, _, _, _, by go_num, by omega, by rw [HN.out]; go_num, rfl, by rw [HN.out]; exact A3⟩
        case measure => simp [intOf]; omega
      · have HN := Lib.hid (cuts_miss hb)
        have hq : (byteAt s k == 32) = false := by simp [hb]
        clear hb
        go_wp2
        go_roundw
        case rel => exact ⟨k + 1, _, _, _, by go_num, by omega, by rw [HN.out], rfl, by rw [HN.out]; exact HA.out⟩
        case measure => simp [intOf]; omega
    · obtain rfl : k = s.size := by omega
      go_wp2_with (at_builtin; refine appS rfl _ _ rfl rfl (HA.out.alloc _) rfl (reads_newS _ _ _) (by omega) ?_; intro A2 c2 wz A3 _)
      go_ret
      exact ⟨_, _, _, rfl, A3⟩
set_option maxHeartbeats 1000000 in
theorem l15Plain_any (s : ByteArray) (w : World) :
    Calls Try.prog 33 #[.string s] w fun e w' => e = .returned (.bool (plainB s)) ∧ w = w' := by
  by_cases h2 : s.size = 2
  · have HP := Lib.hid (show plainB s = ((byteAt s 0 == 43 || byteAt s 0 == 45) && inB (byteAt s 1) 49 57) by unfold plainB; rw [if_pos h2])
    have z0 := get_byteAt s 0 (by omega)
    have z1 := get_byteAt s 1 (by omega)
    have b0 := byteAt_bd s 0
    have b1 := byteAt_bd s 1
    have hq : ((s.size : Int) == 2) = true := by simp [h2]
    have s0 : (0 : Int) < s.size := by omega
    have s1 : (1 : Int) < s.size := by omega
    generalize byteAt s 0 = x at *
    generalize byteAt s 1 = y at *
    go_enter Try.func33, Try.ntmps33
    go_wp2_with (go_at_call 18; refine (l1In_any _ _ _ _).mono ?_; rintro e w' ⟨rfl, rfl⟩)
    all_goals
      go_ret
      exact ⟨by simp [HP.out, *], rfl⟩
  · have HP := Lib.hid (show plainB s = (s.toList == [60] || (s.toList == [62] || s.toList == [99])) by unfold plainB; rw [if_neg h2, ByteArray.toList_eq])
    have hq : ((s.size : Int) == 2) = false := by simp; omega
    clear h2
    go_enter Try.func33, Try.ntmps33
    go_wp2_with fail
    all_goals
      go_ret
      refine ⟨?_, rfl⟩
      rw [HP.out]
      first
      | (simp [*]; done)
      | (rw [show (s.toList == [60]) = false by simp [*], show (s.toList == [62]) = false by simp [*]]; rfl)
theorem l15Plain_v (s : ByteArray) {v : Bool} (hv : plainB s = v) (w : World) :
    Calls Try.prog 33 #[.string s] w fun e w' => e = .returned (.bool v) ∧ w = w' := hv ▸ l15Plain_any s w
set_option maxHeartbeats 1000000 in
theorem l15Word_any (s : ByteArray) (w : World) :
    Calls Try.prog 30 #[.string s] w fun e w' => e = .returned (.bool (wordOk s)) ∧ w = w' := by
  have HP := Lib.hid (wordOk_spec s)
  cases h0 : plainB s
  · by_cases h1 : 1 < s.size
    · have z0 := get_byteAt s 0 (by omega)
      have HB := Lib.hid (show preB s = inB (byteAt s 0) 50 57 by unfold preB; simp [h1])
      have s0 : (0 : Int) < s.size := by omega
      have s1 : (1 : Int) < s.size := by omega
      have b0 := byteAt_bd s 0
      generalize byteAt s 0 = x at *
      have wx : wrap64 x = x := IntWalk.wrap64_in _ ⟨by omega, by omega⟩
      cases hi : inB x 50 57
      · have HE := Lib.hid (show wordOk s = false by rw [HP.out, HB.out, h0, hi]; rfl)
        have HC := Lib.hid h0
        have HI := Lib.hid hi
        clear h0 hi
        go_enter Try.func30, Try.ntmps30
        go_wp2_with fail
        refine (l15Plain_v s HC.out _).mono ?_
        rintro e w' ⟨rfl, rfl⟩
        go_wp2_with fail
        refine (l1In_any _ _ _ _).mono ?_
        rintro e w' ⟨rfl, rfl⟩
        rw [HI.out]
        go_wp2_with fail
        go_ret
        exact ⟨by rw [HE.out]; rfl, rfl⟩
      · obtain ⟨v, hv⟩ : ∃ v, plainB (s.extract 1 s.size) = v := ⟨_, rfl⟩
        have HE := Lib.hid (show wordOk s = v by rw [HP.out, HB.out, h0, hi, hv]; cases v <;> rfl)
        have HV := Lib.hid hv
        have HC := Lib.hid h0
        have HI := Lib.hid hi
        clear h0 hi hv
        go_enter Try.func30, Try.ntmps30
        go_wp2_with fail
        refine (l15Plain_v s HC.out _).mono ?_
        rintro e w' ⟨rfl, rfl⟩
        go_wp2_with fail
        refine (l1In_any _ _ _ _).mono ?_
        rintro e w' ⟨rfl, rfl⟩
        rw [HI.out]
        go_wp2_with fail
        refine (l15Plain_v _ HV.out _).mono ?_
        rintro e w' ⟨rfl, rfl⟩
        go_wp2_with fail
        go_ret
        exact ⟨by rw [HE.out]; rfl, rfl⟩
    · have HE := Lib.hid (show wordOk s = false by rw [HP.out, h0]; unfold preB; simp [h1])
      have s1 : ¬ (1 : Int) < s.size := by omega
      have HC := Lib.hid h0
      clear h0 h1
      go_enter Try.func30, Try.ntmps30
      go_wp2_with fail
      refine (l15Plain_v s HC.out _).mono ?_
      rintro e w' ⟨rfl, rfl⟩
      go_wp2_with fail
      go_ret
      exact ⟨by rw [HE.out]; rfl, rfl⟩
  · have HE := Lib.hid (show wordOk s = true by rw [HP.out, h0]; rfl)
    have HC := Lib.hid h0
    clear h0
    go_enter Try.func30, Try.ntmps30
    go_wp2_with fail
    refine (l15Plain_v s HC.out _).mono ?_
    rintro e w' ⟨rfl, rfl⟩
    go_wp2_with fail
    go_ret
    exact ⟨by rw [HE.out]; rfl, rfl⟩
set_option maxHeartbeats 1000000 in
theorem l15Words_any (s : ByteArray) (hs : s.size ≤ 4000) (w : World) :
    Calls Try.prog 25 #[.string s] w fun e w' => GivesT 9 (wordsB s) w e w' := by
  by_cases h0 : s.size = 0
  · have he := str_empty h0
    have HW := Lib.hid (show wordsB s = [] by unfold wordsB; rw [if_pos h0])
    clear h0
    go_enter Try.func25, Try.ntmps25
    go_wp2_with fail
    go_ret
    rw [HW.out]
    exact ⟨_, _, _, rfl, AccV.empty (Below.refl _ _)⟩
  · have he := str_some h0
    have HW := Lib.hid (show wordsB s = splitB s 32 by unfold wordsB; rw [if_neg h0])
    clear h0
    go_enter Try.func25, Try.ntmps25
    go_wp2_with fail
    refine (l1Split_any s hs _).mono ?_
    rintro e w' ⟨A, n, c, rfl, h⟩
    go_wp2_with fail
    go_ret
    rw [HW.out]
    exact ⟨_, _, _, rfl, h⟩
theorem l15Word_v (s : ByteArray) {v : Bool} (hv : wordOk s = v) (w : World) :
    Calls Try.prog 30 #[.string s] w fun e w' => e = .returned (.bool v) ∧ w = w' := hv ▸ l15Word_any s w
set_option maxHeartbeats 1000000 in
theorem l15Times_any (s : ByteArray) (hk : wordOk s = true) (w : World) :
    Calls Try.prog 26 #[.string s] w fun e w' => e = .returned (.tuple #[.int .i64 (wordT s), .string (wordP s)]) ∧ Below w.heap.size w w' := by
  cases h0 : plainB s
  · obtain ⟨h1, h2, h3⟩ := ok_pre h0 hk
    have hs := ok_size hk
    have hb := wordT_bd s
    rw [h3] at hb
    have z0 := get_byteAt s 0 (by omega)
    have h4 : 1 < s.size := by unfold preB at h1; simp at h1; exact h1.1
    have s0 : (0 : Int) < s.size := by omega
    have s1 : (1 : Int) ≤ s.size := by omega
    have HT := Lib.hid h3
    have HQ := Lib.hid h2
    have HC := Lib.hid h0
    generalize byteAt s 0 = x at *
    have wx : wrap64 x = x := IntWalk.wrap64_in _ ⟨by omega, by omega⟩
    have w1 : wrap64 (x - 48) = x - 48 := IntWalk.wrap64_in _ ⟨by omega, by omega⟩
    have w2 : IntKind.i64.wrap (x - 48) = x - 48 := IntWalk.i64_in _ ⟨by omega, by omega⟩
    clear h0 h1 h2 h3 hk
    go_enter Try.func26, Try.ntmps26
    go_wp2_with fail
    refine (l15Plain_v s HC.out _).mono ?_
    rintro e w' ⟨rfl, rfl⟩
    go_wp2_with fail
    go_quiet (fail)
    go_wp2_with fail
    go_ret2
    rw [HT.out, HQ.out]
    exact ⟨rfl, ext_drewN (Below.refl _ _) _⟩
  · obtain ⟨h1, h2⟩ := ok_plain h0
    have HT := Lib.hid h2
    have HQ := Lib.hid h1
    have HC := Lib.hid h0
    clear h0 h1 h2 hk
    go_enter Try.func26, Try.ntmps26
    go_wp2_with fail
    refine (l15Plain_v s HC.out _).mono ?_
    rintro e w' ⟨rfl, rfl⟩
    go_wp2_with fail
    go_ret2
    rw [HT.out, HQ.out]
    exact ⟨rfl, Below.refl _ _⟩
end Go.Proofs.Ytianniocjhgllaa
