/- Texts put together; the script that adds a number; its law. No condition. -/
import Derived.Test.YtianniocjhgllaaWord2
import Derived.Test.YtianniocjhgllaaSplit
import Derived.Test.YtianniocjhgllaaTests
namespace Go.Proofs.Ytianniocjhgllaa
open Go.RowKit

set_option maxHeartbeats 1000000 in
theorem join_any (A : Option Addr) (n c B : Nat) (ss : List ByteArray) (sep : ByteArray) (w : World) (h : Reads w B 1 A n (ss.map Value.string)) (hn : n ≤ 4000) (hs : sep.size = 1) (h80 : ∀ s ∈ ss, s.size ≤ 80) :
    Calls Try.prog 22 #[.slice A n c, .string sep] w fun e w' => e = .returned (.string (joinB sep ss)) ∧ w = w' := by
  have hl := h.strLen
  have H := Lib.hid h
  have HL := Lib.hid hl
  have HJ := Lib.hid (join_size (sep := sep) (ss := ss) hs h80)
  have HS := Lib.hid h80
  have hs1 : sep.size ≤ 1 := by omega
  clear h hl h80 hs
  go_enter Try.func22, Try.ntmps22
  go_wp2_with fail
  go_loop [5, 10] (fun t i => ∃ k : Nat, i = .int .i64 k ∧ k ≤ n ∧ t = .string (joinTo sep ss k)) (fun _ i => n - (intOf i).toNat)
  case atStart => exact ⟨0, rfl, by omega, rfl⟩
  case round =>
    obtain ⟨k, rfl, hk, rfl⟩ := hrel
    have k0 : (0 : Int) ≤ k := by omega
    by_cases hlt : k < n
    · obtain ⟨b, o, p, rfl, hp, hcell⟩ := H.out.str hlt
      have hp80 := HS.out p (List.mem_of_getElem? hp)
      have hj := HJ.out k
      have HP := Lib.hid hp
      clear hp
      have k1 : (k : Int) < n := by omega
      have hT : (joinTo sep ss k).size ≤ 324000 := by omega
      clear hj
      by_cases h0 : k = 0
      · have HN := Lib.hid (show joinTo sep ss (k + 1) = joinTo sep ss k ++ p by have := HP.out; rw [h0] at this ⊢; exact join_first this)
        have k2 : ¬ (0 : Int) < k := by omega
        clear h0
        generalize joinTo sep ss k = T at *
        go_wp2_with fail
        go_round
        case rel => exact ⟨k + 1, by go_num, by omega, by rw [HN.out]⟩
        case measure => simp [intOf]; omega
      · have HN := Lib.hid (join_next (sep := sep) (show 0 < k by omega) HP.out)
        have k2 : (0 : Int) < k := by omega
        generalize joinTo sep ss k = T at *
        go_wp2_with fail
        go_round
        case rel => exact ⟨k + 1, by go_num, by omega, by rw [HN.out]⟩
        case measure => simp [intOf]; omega
    · have hk' : k = ss.length := by have := HL.out; omega
      have HE := Lib.hid (show joinTo sep ss k = joinB sep ss by rw [hk']; rfl)
      clear hk'
      go_wp2_with fail
      go_ret
      exact ⟨by rw [← HE.out]; rfl, rfl⟩
theorem l1Num_w (n : Int) (h0 : 0 ≤ n) (h1 : n ≤ 9999999999) (w : World) :
    Calls Try.prog 19 #[.int .i64 n] w fun e w' => e = .returned (.string (numB n)) ∧ Below w.heap.size w w' :=
  (l1Num_any n.toNat n w (Nat.le_refl _) h0 h1).mono fun _ _ ⟨he, m, hm⟩ => ⟨he, hm ▸ ext_drewN (Below.refl _ _) m⟩
def scrT (n : Int) : Value := if inB n 0 99999999 = true then .tuple #[.string (scrB n), .bool true] else .tuple #[.string ⟨#[]⟩, .bool false]
theorem scrT_form (n : Int) : ∃ r ok, scrT n = .tuple #[.string r, .bool ok] := by unfold scrT; split <;> exact ⟨_, _, rfl⟩
theorem scrW_both {x : Nat} (h1 : 0 < x % 10) (h2 : 10 ≤ x) : scrW x = [(⟨#[43]⟩ : ByteArray) ++ numB ((x : Int) % 10), ⟨#[60]⟩] := by
  unfold scrW; rw [if_pos h1, if_pos h2]; rfl
theorem scrW_dig {x : Nat} (h1 : 0 < x % 10) (h2 : ¬ 10 ≤ x) : scrW x = [(⟨#[43]⟩ : ByteArray) ++ numB ((x : Int) % 10)] := by
  unfold scrW; rw [if_pos h1, if_neg h2]; rfl
theorem scrW_left {x : Nat} (h1 : ¬ 0 < x % 10) (h2 : 10 ≤ x) : scrW x = [(⟨#[60]⟩ : ByteArray)] := by
  unfold scrW; rw [if_neg h1, if_pos h2]; rfl
theorem scr_step {W : List ByteArray} {x N : Nat} (h : W ++ scrN x = scrN N) (hx : 0 < x) : (W ++ scrW x) ++ scrN (x / 10) = scrN N := by
  rw [← h, scrN_pos hx, List.append_assoc]
theorem spc_step {T : ByteArray} {x N : Nat} (h : T ++ spc (scrN x) = spc (scrN N)) (hx : 0 < x) : (T ++ spc (scrW x)) ++ spc (scrN (x / 10)) = spc (scrN N) := by
  rw [← h, scrN_pos hx, spc_app, ByteArray.append_assoc]
set_option maxHeartbeats 2000000 in
theorem iScriptFor_any (n : Int) (w : World) :
    Calls Try.prog 9 #[.int .i64 n] w fun e w' => e = .returned (scrT n) ∧ Below w.heap.size w w' := by
  cases hi : inB n 0 99999999
  · have HT := Lib.hid (show scrT n = .tuple #[.string ⟨#[]⟩, .bool false] by unfold scrT; rw [hi]; simp)
    go_enter Try.func9, Try.ntmps9
    go_wp2_with fail
    refine (isDividend_any _ _).mono ?_
    rintro e w' ⟨rfl, rfl⟩
    rw [hi]
    go_wp2_with fail
    go_ret2
    exact ⟨by rw [HT.out]; rfl, Below.refl _ _⟩
  · have HT := Lib.hid (show scrT n = .tuple #[.string (scrB n), .bool true] by unfold scrT; rw [hi]; simp)
    have hi' := inB_true hi
    obtain ⟨N, hN⟩ : ∃ N : Nat, n = N := ⟨n.toNat, by omega⟩
    subst hN
    have hN8 : N ≤ 99999999 := by omega
    have hlen := scrN_len 8 N (by omega)
    have HL := Lib.hid hlen
    have HSm := Lib.hid (scrN_small N)
    have HI := Lib.hid hi
    have HB := Lib.hid (show scrB (N : Int) = joinB spB (scrN N) by unfold scrB; rw [Int.toNat_natCast])
    clear hi hi' hlen
    go_enter Try.func9, Try.ntmps9
    go_wp2_with fail
    refine (isDividend_any _ _).mono ?_
    rintro e w' ⟨rfl, rfl⟩
    rw [HI.out]
    go_wp2_with fail
    go_loopw [4, 5] (fun p q wr => ∃ (x m cc : Nat) (P : Option Addr) (W : List ByteArray), q = .int .i64 x ∧ x ≤ N ∧ p = .slice P m cc ∧ W ++ scrN x = scrN N ∧ AccV w wr 9 1 P m cc (W.map Value.string)) (fun _ q _ => (intOf q).toNat)
    case atStart => exact ⟨N, 0, 0, none, [], rfl, by omega, rfl, rfl, AccV.nil (Below.refl _ _)⟩
    case round =>
      obtain ⟨wo, rfl⟩ : ∃ wo : World, wo = wr := ⟨_, rfl⟩
      obtain ⟨x, m, cc, P, W, rfl, hx, rfl, hW, hacc⟩ := hrel
      have hm : m ≤ 16 := by
        have h1 := hacc.reads.strLen
        have h2 := HL.out
        rw [← hW, List.length_append] at h2
        omega
      have HP := Lib.hid hacc
      have HW := Lib.hid hW
      clear hacc hW
      have x0 : (0 : Int) ≤ x := by omega
      by_cases h0 : 0 < x
      · have HN := Lib.hid (scr_step HW.out h0)
        have x1 : (0 : Int) < x := by omega
        have x2 : (x : Int) ≤ 99999999 := by omega
        have hg := numB_size (show (x : Int) % 10 ≤ 9999999999 by omega)
        by_cases h1 : 0 < x % 10
        · have d1 : (0 : Int) < (x : Int) % 10 := by omega
          by_cases h2 : 10 ≤ x
          · have d2 : (10 : Int) ≤ x := by omega
            rw [scrW_both h1 h2] at HN
            go_wp2_with fail
            refine (text_any _ _ (by omega) (by omega)).mono ?_
            rintro e w3 ⟨rfl, h3⟩
            have HQ := Lib.hid (HP.out.later h3)
            clear h3
            generalize numB ((x : Int) % 10) = g at *
            go_wp2_with (at_builtin; first | (refine appS rfl _ _ rfl rfl (HQ.out.alloc _) rfl (reads_newS _ _ _) (by omega) ?_; intro A2 c2 wz A3 _) | (refine appS rfl _ _ rfl rfl (A3.alloc _) rfl (reads_newS _ _ _) (by omega) ?_; intro A4 c4 wy A5 _))
            go_roundw
            case rel => exact ⟨x / 10, _, _, _, _, by go_num, by omega, rfl, HN.out, by rw [List.append_cons]; exact A5⟩
            case measure => simp [intOf]; omega
          · have d2 : ¬ (10 : Int) ≤ x := by omega
            rw [scrW_dig h1 h2] at HN
            go_wp2_with fail
            refine (text_any _ _ (by omega) (by omega)).mono ?_
            rintro e w3 ⟨rfl, h3⟩
            have HQ := Lib.hid (HP.out.later h3)
            clear h3
            generalize numB ((x : Int) % 10) = g at *
            go_wp2_with (at_builtin; refine appS rfl _ _ rfl rfl (HQ.out.alloc _) rfl (reads_newS _ _ _) (by omega) ?_; intro A2 c2 wz A3 _)
            go_roundw
            case rel => exact ⟨x / 10, _, _, _, _, by go_num, by omega, rfl, HN.out, A3⟩
            case measure => simp [intOf]; omega
        · have d1 : ¬ (0 : Int) < (x : Int) % 10 := by omega
          have h2 : 10 ≤ x := by omega
          have d2 : (10 : Int) ≤ x := by omega
          rw [scrW_left h1 h2] at HN
          go_wp2_with (at_builtin; refine appS rfl _ _ rfl rfl (HP.out.alloc _) rfl (reads_newS _ _ _) (by omega) ?_; intro A2 c2 wz A3 _)
          go_roundw
          case rel => exact ⟨x / 10, _, _, _, _, by go_num, by omega, rfl, HN.out, A3⟩
          case measure => simp [intOf]; omega
      · obtain rfl : x = 0 := by omega
        have hW0 : W = scrN N := by rw [← HW.out, scrN_zero, List.append_nil]
        have HW0 := Lib.hid hW0
        clear hW0
        rw [HW0.out] at HP
        go_wp2_with fail
        refine (join_any _ _ _ _ _ _ _ HP.out.reads (by omega) rfl (fun s hs => by have := HSm.out s hs; omega)).mono ?_
        rintro e w' ⟨rfl, rfl⟩
        go_wp2_with fail
        go_ret2
        exact ⟨by rw [HT.out, HB.out]; rfl, HP.out.ext⟩
set_option maxHeartbeats 2000000 in
theorem sScriptFor_any (n : Int) (w : World) :
    Calls Try.prog 8 #[.int .i64 n] w fun e w' => e = .returned (scrT n) ∧ Below w.heap.size w w' := by
  cases hi : inB n 0 99999999
  · have HT := Lib.hid (show scrT n = .tuple #[.string ⟨#[]⟩, .bool false] by unfold scrT; rw [hi]; simp)
    go_enter Try.func8, Try.ntmps8
    go_wp2_with fail
    refine (l1In_any _ _ _ _).mono ?_
    rintro e w' ⟨rfl, rfl⟩
    rw [hi]
    go_wp2_with fail
    go_ret2
    exact ⟨by rw [HT.out]; rfl, Below.refl _ _⟩
  · have HT := Lib.hid (show scrT n = .tuple #[.string (scrB n), .bool true] by unfold scrT; rw [hi]; simp)
    have hi' := inB_true hi
    obtain ⟨N, hN⟩ : ∃ N : Nat, n = N := ⟨n.toNat, by omega⟩
    subst hN
    have hN8 : N ≤ 99999999 := by omega
    have hsz : (spc (scrN N)).size ≤ 336 := by
      have h1 := scrN_len 8 N (by omega)
      have h2 := spc_size (scrN N) (scrN_small N)
      omega
    have HZ := Lib.hid hsz
    have HI := Lib.hid hi
    have HB := Lib.hid (show scrB (N : Int) = joinB spB (scrN N) by unfold scrB; rw [Int.toNat_natCast])
    clear hi hi' hsz
    go_enter Try.func8, Try.ntmps8
    go_wp2_with fail
    refine (l1In_any _ _ _ _).mono ?_
    rintro e w' ⟨rfl, rfl⟩
    rw [HI.out]
    go_wp2_with fail
    go_loopw [0, 4] (fun q p wr => ∃ (x : Nat) (T : ByteArray), q = .int .i64 x ∧ x ≤ N ∧ p = .string T ∧ T ++ spc (scrN x) = spc (scrN N) ∧ Below w.heap.size w wr) (fun q _ _ => (intOf q).toNat)
    case atStart => exact ⟨N, ⟨#[]⟩, rfl, by omega, rfl, empty_app _, Below.refl _ _⟩
    case round =>
      obtain ⟨wo, rfl⟩ : ∃ wo : World, wo = wr := ⟨_, rfl⟩
      obtain ⟨x, T, rfl, hx, rfl, hW, hb⟩ := hrel
      have hT : T.size ≤ 336 := by
        have h2 := HZ.out
        rw [← hW, ByteArray.size_append] at h2
        omega
      have HW := Lib.hid hW
      have HQ := Lib.hid hb
      clear hb hW
      have x0 : (0 : Int) ≤ x := by omega
      by_cases h0 : 0 < x
      · have HN := Lib.hid (spc_step HW.out h0)
        have x1 : (0 : Int) < x := by omega
        have x2 : (x : Int) ≤ 99999999 := by omega
        have hg := numB_size (show (x : Int) % 10 ≤ 9999999999 by omega)
        by_cases h1 : 0 < x % 10
        · have d1 : (0 : Int) < (x : Int) % 10 := by omega
          by_cases h2 : 10 ≤ x
          · have d2 : (0 : Int) < (x : Int) / 10 := by omega
            rw [scrW_both h1 h2] at HN
            go_wp2_with fail
            refine (l1Num_w _ (by omega) (by omega) _).mono ?_
            rintro e w3 ⟨rfl, h3⟩
            generalize numB ((x : Int) % 10) = g at *
            go_wp2_with fail
            go_roundw
            case rel => exact ⟨x / 10, _, by go_num, by omega, rfl, by rw [← HN.out]; congr 1; simp only [spc, spB, app_empty, ByteArray.append_assoc]; rfl, ext_trans HQ.out h3⟩
            case measure => simp [intOf]; omega
          · have d2 : ¬ (0 : Int) < (x : Int) / 10 := by omega
            rw [scrW_dig h1 h2] at HN
            go_wp2_with fail
            refine (l1Num_w _ (by omega) (by omega) _).mono ?_
            rintro e w3 ⟨rfl, h3⟩
            generalize numB ((x : Int) % 10) = g at *
            go_wp2_with fail
            go_roundw
            case rel => exact ⟨x / 10, _, by go_num, by omega, rfl, by rw [← HN.out]; congr 1; simp only [spc, spB, app_empty, ByteArray.append_assoc], ext_trans HQ.out h3⟩
            case measure => simp [intOf]; omega
        · have d1 : ¬ (0 : Int) < (x : Int) % 10 := by omega
          have h2 : 10 ≤ x := by omega
          have d2 : (0 : Int) < (x : Int) / 10 := by omega
          rw [scrW_left h1 h2] at HN
          go_wp2_with fail
          go_roundw
          case rel => exact ⟨x / 10, _, by go_num, by omega, rfl, by rw [← HN.out]; congr 1; (try simp only [spc, spB, app_empty]); (try rfl), HQ.out⟩
          case measure => simp [intOf]; omega
      · obtain rfl : x = 0 := by omega
        have hW0 : T = spc (scrN N) := by rw [← HW.out, scrN_zero, spc, app_empty]
        by_cases hN0 : N = 0
        · subst hN0
          rw [scrN_zero, spc] at hW0
          subst hW0
          have HB0 := Lib.hid (show scrB ((0 : Nat) : Int) = ⟨#[]⟩ by rw [HB.out, scrN_zero]; rfl)
          have he : (⟨#[]⟩ : ByteArray).toList.isEmpty = true := str_empty rfl
          go_wp2_with fail
          go_ret2
          exact ⟨by rw [HT.out, HB0.out]; rfl, HQ.out⟩
        · have hj := spc_join (scrN N) _ rfl (scrN_ne (by omega))
          have hT1 : T.size = (joinB spB (scrN N)).size + 1 := by rw [hW0, hj, ByteArray.size_append]; rfl
          have HC := Lib.hid (show T.extract 0 (T.size - 1) = joinB spB (scrN N) by rw [hW0, hj]; exact cut_last _)
          have he : T.toList.isEmpty = false := str_some (by omega)
          have hT0 : (1 : Int) ≤ T.size := by omega
          clear hW0 hj hT1
          go_wp2_with fail
          go_ret2
          exact ⟨by rw [HT.out, HB.out, ← HC.out]; rfl, HQ.out⟩
set_option maxHeartbeats 1000000 in
theorem FnExactScriptFor_any (n : Int) (_ : (Lit.int .i64 n).wf = true) (w : World) :
    Calls Try.prog 3 #[.int .i64 n] w fun e w' => e = .returned (.bool true) ∧ Below w.heap.size w w' := by
  obtain ⟨r, ok, ht⟩ := scrT_form n
  have HV := Lib.hid ht
  have he : (ok != ok) = false := by simp
  clear ht
  go_enter Try.func3, Try.ntmps3
  go_wp2_with fail
  refine (sScriptFor_any n _).mono ?_
  rintro e w1 ⟨rfl, h1⟩
  rw [HV.out]
  go_wp2_with fail
  refine (iScriptFor_any n _).mono ?_
  rintro e w2 ⟨rfl, h2⟩
  rw [HV.out]
  go_wp2_with fail
  go_ret
  exact ⟨rfl, ext_trans h1 h2⟩
end Go.Proofs.Ytianniocjhgllaa
