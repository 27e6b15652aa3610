/- The forms of a value. No condition. -/
import Derived.Test.YtkgbcjiinicffaaA2
import Derived.Test.YtkgbcjiinicffaaTests
namespace Go.Proofs.Ytkgbcjiinicffaa
open Go.RowKit

def formU (lo v : Int) (u : Nat) : List Int := if inB (v - 5 * (u : Int)) 0 lo = true then [(u : Int), v - 5 * (u : Int)] else []
def formsTo (lo v : Int) (k : Nat) : List Int := (List.range k).flatMap (formU lo v)
theorem formsTo_next (lo v : Int) (k : Nat) : formsTo lo v (k + 1) = formsTo lo v k ++ formU lo v k := by
  unfold formsTo; rw [List.range_succ, List.flatMap_append]; simp
theorem formsTo_len (lo v : Int) : ∀ k, (formsTo lo v k).length ≤ 2 * k
  | 0 => by simp [formsTo]
  | k + 1 => by
    have ih := formsTo_len lo v k
    rw [formsTo_next, List.length_append]
    have : (formU lo v k).length ≤ 2 := by unfold formU; split <;> simp
    omega
def formsOk (a b v : Int) : Bool := inB a 1 2 && (inB b 4 5 && inB v 0 15)
def formsL (a b v : Int) : List Int := if formsOk a b v = true then formsTo b v (a.toNat + 1) else []
theorem formsL_len (a b v : Int) : (formsL a b v).length ≤ 6 := by
  unfold formsL
  split
  · rename_i h
    have h1 := formsTo_len b v (a.toNat + 1)
    unfold formsOk at h
    simp only [Bool.and_eq_true] at h
    have := inB_true h.1
    omega
  · simp
set_option maxHeartbeats 1000000 in
theorem l13Forms_any (a b v : Int) (w : World) (h0 : 0 ≤ a) (h1 : a ≤ 100) (v0 : -10000 ≤ v) (v1 : v ≤ 10000) :
    Calls Try.prog 33 #[.int .i64 a, .int .i64 b, .int .i64 v] w fun e w' => GivesS 47 2 (formsTo b v (a.toNat + 1)) w e w' := by
  obtain ⟨n, rfl⟩ := Int.eq_ofNat_of_zero_le h0
  have hn : n ≤ 100 := by omega
  rw [Int.toNat_natCast]
  go_enter Try.func33, Try.ntmps33
  go_wp2
  go_loopw [7, 8] (fun s u wr => ∃ (k m c : Nat) (A : Option Addr), u = .int .i64 (k : Int) ∧ k ≤ n + 1 ∧ s = .slice A m c ∧ Acc w wr 47 2 A m c (formsTo b v k)) (fun _ u _ => n + 1 - (intOf u).toNat)
  case atStart => exact ⟨0, _, _, _, rfl, by omega, rfl, Acc.empty (Below.refl _ _)⟩
  case round =>
    obtain ⟨k, m, c, A, rfl, hk, rfl, hacc⟩ := hrel
    have hm : m ≤ k := by
      have h1 := hacc.len
      have h2 := formsTo_len b v k
      omega
    have HA := Lib.hid hacc
    have HN := Lib.hid (formsTo_next b v k)
    clear hacc
    have k0 : (0 : Int) ≤ k := by omega
    by_cases hlt : k < n + 1
    · have k1 : (k : Int) ≤ n := by omega
      have k2 : (k : Int) ≤ 100 := by omega
      cases hin : inB (v - 5 * (k : Int)) 0 b
      · have HU := Lib.hid (show formU b v k = [] by simp [formU, hin])
        go_wp2_with (go_at_call 32; refine (l1In_any _ _ _ _).mono ?_; rintro e w' ⟨rfl, rfl⟩; rw [hin])
        go_roundw
        case rel => exact ⟨k + 1, _, _, _, by go_num, by omega, rfl, by rw [HN.out, HU.out, List.append_nil]; exact HA.out⟩
        case measure => simp [intOf]; omega
      · have HU := Lib.hid (show formU b v k = [(k : Int), v - 5 * (k : Int)] by simp [formU, hin])
        go_wp2_with (first | (go_at_call 32; refine (l1In_any _ _ _ _).mono ?_; rintro e w' ⟨rfl, rfl⟩; rw [hin]) | (at_builtin; refine app2 rfl _ _ rfl rfl (HA.out.alloc _) rfl (reads_new _ _ _ 2 [(k : Int), v - 5 * (k : Int)] rfl rfl) (by omega) ?_; intro A2 c2 w2 hacc2 _))
        have HA2 := Lib.hid hacc2
        clear hacc2
        go_wp2
        go_roundw
        case rel => exact ⟨k + 1, _, _, _, by go_num, by omega, rfl, by rw [HN.out, HU.out]; exact HA2.out⟩
        case measure => simp [intOf]; omega
    · have hk' : k = n + 1 := by omega
      subst hk'
      go_wp2
      go_ret
      exact ⟨_, _, _, rfl, HA.out⟩
set_option maxHeartbeats 1000000 in
theorem formsOf_any (a b v : Int) (w : World) (h0 : 0 ≤ a) (h1 : a ≤ 100) (v0 : -10000 ≤ v) (v1 : v ≤ 10000) :
    Calls Try.prog 35 #[.int .i64 a, .int .i64 b, .int .i64 v] w fun e w' => GivesS 47 2 (formsTo b v (a.toNat + 1)) w e w' := by
  obtain ⟨n, rfl⟩ := Int.eq_ofNat_of_zero_le h0
  have hn : n ≤ 100 := by omega
  rw [Int.toNat_natCast]
  go_enter Try.func35, Try.ntmps35
  go_wp2
  go_loopw [7, 8, 9] (fun s u _ wr => ∃ (k m c : Nat) (A : Option Addr), u = .int .i64 (k : Int) ∧ k ≤ n + 1 ∧ s = .slice A m c ∧ Acc w wr 47 2 A m c (formsTo b v k)) (fun _ u _ _ => n + 1 - (intOf u).toNat)
  case atStart => exact ⟨0, 0, 0, none, rfl, by omega, rfl, Acc.nil (Below.refl _ _)⟩
  case round =>
    obtain ⟨k, m, c, A, rfl, hk, rfl, hacc⟩ := hrel
    have hm : m ≤ k := by
      have h1 := hacc.len
      have h2 := formsTo_len b v k
      omega
    have HA := Lib.hid hacc
    have HN := Lib.hid (formsTo_next b v k)
    clear hacc
    have k0 : (0 : Int) ≤ k := by omega
    by_cases hlt : k < n + 1
    · have k1 : (k : Int) ≤ n := by omega
      have k2 : (k : Int) ≤ 100 := by omega
      cases hin : inB (v - 5 * (k : Int)) 0 b
      · have HU := Lib.hid (show formU b v k = [] by simp [formU, hin])
        go_wp2_with (go_at_call 34; refine (within_any _ _ _ _).mono ?_; rintro e w' ⟨rfl, rfl⟩; rw [hin])
        go_roundw
        case rel => exact ⟨k + 1, _, _, _, by go_num, by omega, rfl, by rw [HN.out, HU.out, List.append_nil]; exact HA.out⟩
        case measure => simp [intOf]; omega
      · have HU := Lib.hid (show formU b v k = [(k : Int), v - 5 * (k : Int)] by simp [formU, hin])
        go_wp2_with (first | (go_at_call 34; refine (within_any _ _ _ _).mono ?_; rintro e w' ⟨rfl, rfl⟩; rw [hin]) | (at_builtin; refine app2 rfl _ _ rfl rfl (HA.out.alloc _) rfl (reads_new _ _ _ 2 [(k : Int), v - 5 * (k : Int)] rfl rfl) (by omega) ?_; intro A2 c2 w2 hacc2 _))
        have HA2 := Lib.hid hacc2
        clear hacc2
        go_wp2
        go_roundw
        case rel => exact ⟨k + 1, _, _, _, by go_num, by omega, rfl, by rw [HN.out, HU.out]; exact HA2.out⟩
        case measure => simp [intOf]; omega
    · have hk' : k = n + 1 := by omega
      subst hk'
      go_wp2
      go_ret
      exact ⟨_, _, _, rfl, HA.out⟩
set_option maxHeartbeats 1000000 in
theorem sFormsOf_any (a b v : Int) (w : World) :
    Calls Try.prog 9 #[.int .i64 a, .int .i64 b, .int .i64 v] w fun e w' => Gives 47 2 (formsL a b v) (formsOk a b v) w e w' := by
  cases ha : inB a 1 2
  · rw [show formsL a b v = [] from by simp [formsL, formsOk, ha], show formsOk a b v = false from by simp [formsOk, ha]]
    go_enter Try.func9, Try.ntmps9
    go_wp2_with (go_at_call 32; refine (l1In_any _ _ _ _).mono ?_; rintro e w' ⟨rfl, rfl⟩; rw [ha])
    go_ret2
    exact ⟨_, _, _, rfl, Acc.empty (Below.refl _ _)⟩
  · cases hb : inB b 4 5
    · rw [show formsL a b v = [] from by simp [formsL, formsOk, hb], show formsOk a b v = false from by simp [formsOk, hb]]
      go_enter Try.func9, Try.ntmps9
      go_wp2_with (go_at_call 32; refine (l1In_any _ _ _ _).mono ?_; rintro e w' ⟨rfl, rfl⟩; (first | rw [ha] | rw [hb]))
      go_ret2
      exact ⟨_, _, _, rfl, Acc.empty (Below.refl _ _)⟩
    · cases hv : inB v 0 15
      · rw [show formsL a b v = [] from by simp [formsL, formsOk, hv], show formsOk a b v = false from by simp [formsOk, hv]]
        go_enter Try.func9, Try.ntmps9
        go_wp2_with (go_at_call 32; refine (l1In_any _ _ _ _).mono ?_; rintro e w' ⟨rfl, rfl⟩; (first | rw [ha] | rw [hb] | rw [hv]))
        go_ret2
        exact ⟨_, _, _, rfl, Acc.empty (Below.refl _ _)⟩
      · rw [show formsL a b v = formsTo b v (a.toNat + 1) from by simp [formsL, formsOk, ha, hb, hv], show formsOk a b v = true from by simp [formsOk, ha, hb, hv]]
        obtain ⟨a0, a1⟩ := inB_true ha
        obtain ⟨v0, v1⟩ := inB_true hv
        go_enter Try.func9, Try.ntmps9
        go_wp2_with (go_at_call 32; refine (l1In_any _ _ _ _).mono ?_; rintro e w' ⟨rfl, rfl⟩; (first | rw [ha] | rw [hb] | rw [hv]))
        refine (l13Forms_any a b v _ (by omega) (by omega) (by omega) (by omega)).mono ?_
        rintro e w1 ⟨A1, n1, c1, rfl, h1⟩
        go_wp2
        go_ret2
        exact ⟨_, _, _, rfl, h1⟩
set_option maxHeartbeats 1000000 in
theorem iFormsOf_any (a b v : Int) (w : World) :
    Calls Try.prog 10 #[.int .i64 a, .int .i64 b, .int .i64 v] w fun e w' => Gives 47 2 (formsL a b v) (formsOk a b v) w e w' := by
  cases ha : inB a 1 2
  · rw [show formsL a b v = [] from by simp [formsL, formsOk, ha], show formsOk a b v = false from by simp [formsOk, ha]]
    go_enter Try.func10, Try.ntmps10
    go_wp2_with (go_at_call 34; refine (within_any _ _ _ _).mono ?_; rintro e w' ⟨rfl, rfl⟩; rw [ha])
    go_ret2
    exact ⟨none, 0, 0, rfl, Acc.nil (Below.refl _ _)⟩
  · cases hb : inB b 4 5
    · rw [show formsL a b v = [] from by simp [formsL, formsOk, hb], show formsOk a b v = false from by simp [formsOk, hb]]
      go_enter Try.func10, Try.ntmps10
      go_wp2_with (go_at_call 34; refine (within_any _ _ _ _).mono ?_; rintro e w' ⟨rfl, rfl⟩; (first | rw [ha] | rw [hb]))
      go_ret2
      exact ⟨none, 0, 0, rfl, Acc.nil (Below.refl _ _)⟩
    · cases hv : inB v 0 15
      · rw [show formsL a b v = [] from by simp [formsL, formsOk, hv], show formsOk a b v = false from by simp [formsOk, hv]]
        go_enter Try.func10, Try.ntmps10
        go_wp2_with (go_at_call 34; refine (within_any _ _ _ _).mono ?_; rintro e w' ⟨rfl, rfl⟩; (first | rw [ha] | rw [hb] | rw [hv]))
        go_ret2
        exact ⟨none, 0, 0, rfl, Acc.nil (Below.refl _ _)⟩
      · rw [show formsL a b v = formsTo b v (a.toNat + 1) from by simp [formsL, formsOk, ha, hb, hv], show formsOk a b v = true from by simp [formsOk, ha, hb, hv]]
        obtain ⟨a0, a1⟩ := inB_true ha
        obtain ⟨v0, v1⟩ := inB_true hv
        go_enter Try.func10, Try.ntmps10
        go_wp2_with (go_at_call 34; refine (within_any _ _ _ _).mono ?_; rintro e w' ⟨rfl, rfl⟩; (first | rw [ha] | rw [hb] | rw [hv]))
        refine (formsOf_any a b v _ (by omega) (by omega) (by omega) (by omega)).mono ?_
        rintro e w1 ⟨A1, n1, c1, rfl, h1⟩
        go_wp2
        go_ret2
        exact ⟨_, _, _, rfl, h1⟩
set_option maxHeartbeats 1000000 in
theorem FnExactFormsOf_any (a : Int) (_ : (Lit.int .i64 a).wf = true) (b : Int) (_ : (Lit.int .i64 b).wf = true) (v : Int) (_ : (Lit.int .i64 v).wf = true) (w : World) :
    Calls Try.prog 3 #[.int .i64 a, .int .i64 b, .int .i64 v] w fun e w' => e = .returned (.bool true) ∧ Below w.heap.size w w' := by
  have hbd : (formsL a b v).length ≤ 1000000 := Nat.le_trans (formsL_len a b v) (by omega)
  have hs := sFormsOf_any a b v
  have hi := iFormsOf_any a b v
  generalize formsL a b v = zs at hs hi hbd
  generalize (formsOk a b v) = ok at hs hi
  have HS := Lib.hid hs
  have HI := Lib.hid hi
  have he := eqB_self zs
  clear hs hi
  go_enter Try.func3, Try.ntmps3
  go_wp2_with fail
  refine (HS.out _).mono ?_
  rintro e w1 ⟨A0, n0, c0, rfl, h0⟩
  go_wp2_with fail
  refine (HI.out _).mono ?_
  rintro e w2 ⟨A1, n1, c1, rfl, h1⟩
  have b0 := h0.len
  have b1 := h1.len
  have b1' : n1 ≤ 1000000 := by omega
  have b0' : n0 ≤ 1000000 := by omega
  clear b0 b1
  go_wp2_with fail
  refine (eqIntA2S_any A1 A0 n1 n0 c1 c0 _ _ zs zs _ h1.reads (h0.reads.below h1.ext) (Nat.le_refl _) h1.ext.size (by unfold maxLen; omega) (by unfold maxLen; omega)).mono ?_
  rintro e w3 ⟨rfl, hb3⟩
  go_wp2_with fail
  refine (markIntA2S_any A1 n1 c1 w1.heap.size zs 1 _ (h1.later hb3).own (by omega) (by omega) (by omega)).mono ?_
  rintro e w4 ⟨rfl, hm, hg⟩
  go_wp2_with fail
  refine (heldIntA2S_any A1 n1 c1 _ 1 _ (Reads.of_own hm) (by omega) (by omega) (by omega)).mono ?_
  rintro e w' ⟨rfl, rfl⟩
  go_wp2_with fail
  refine (HI.out _).mono ?_
  rintro e w5 ⟨A2, n2, c2, rfl, h2⟩
  have b2 := h2.len
  have b2' : n2 ≤ 1000000 := by omega
  clear b2
  have z14 : w1.heap.size ≤ w4.heap.size := Nat.le_trans (Nat.le_trans h1.ext.size hb3.size) hg.size
  have r0 : Reads w5 w1.heap.size 2 A0 n0 (zs.map (Value.int .i64)) := ((((h0.reads.below h1.ext).below (hb3.mono h1.ext.size)).grown hg (Nat.le_trans h1.ext.size hb3.size) fun g hb => (h1.own.lt g hb).1).below (h2.ext.mono z14))
  have r1 := own_below hm h2.ext
  go_wp2_with fail
  refine (eqIntA2S_any A2 A0 n2 n0 c2 c0 _ _ zs zs _ h2.reads r0 (Nat.le_refl _) (Nat.le_trans z14 h2.ext.size) (by unfold maxLen; omega) (by unfold maxLen; omega)).mono ?_
  rintro e w6 ⟨rfl, hb6⟩
  go_wp2_with fail
  refine (heldIntA2S_any A1 n1 c1 _ 1 _ (Reads.of_own (own_below r1 hb6)) (by omega) (by omega) (by omega)).mono ?_
  rintro e w' ⟨rfl, rfl⟩
  go_wp2_with fail
  go_ret
  exact ⟨rfl, ext_trans (ext_trans (ext_grown (ext_trans (ext_trans h0.ext h1.ext) hb3) hg fun g hb => Nat.le_trans h0.ext.size (h1.own.lt g hb).1) h2.ext) hb6⟩
end Go.Proofs.Ytkgbcjiinicffaa
