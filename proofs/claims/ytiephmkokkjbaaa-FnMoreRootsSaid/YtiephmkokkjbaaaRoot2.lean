/- Chapter 12: whole roots. No condition. -/
import Derived.Test.YtiephmkokkjbaaaRoot
import Derived.Test.YtiephmkokkjbaaaPow
namespace Go.Proofs.Ytiephmkokkjbaaa
open Go.RowKit

theorem rootAt_get (ps : List Int) (k : Nat) : ∀ j, k < j → (rootAt ps j).1[k * 3 + 1]? = some ((nextD (rootAt ps k).2.1 (100 * (rootAt ps k).2.2 + (ps.getD k 0).toNat) 9 : Nat) : Int)
  | 0, h => by omega
  | j + 1, h => by
    rcases Nat.lt_or_ge k j with hk | hk
    · have ih := rootAt_get ps k j hk
      simp only [rootAt]
      rw [List.getElem?_append_left (by rw [rootAt_len]; omega)]
      exact ih
    · obtain rfl : k = j := by omega
      simp only [rootAt]
      rw [List.getElem?_append_right (by rw [rootAt_len]; omega), rootAt_len, show k * 3 + 1 - k * 3 = 1 from by omega]
      rfl
theorem rsteps_digit {n k : Nat} (h : k < (digs 100 n).length) : ∃ d : Nat, d ≤ 9 ∧ (rsteps n)[k * 3 + 1]? = some (d : Int) ∧ (rootAt (digs 100 n) (k + 1)).2.1 = 10 * (rootAt (digs 100 n) k).2.1 + d :=
  ⟨_, nextD_le _ _ 9, rootAt_get _ k _ h, rfl⟩
theorem rsteps_len (n : Nat) : (rsteps n).length = (digs 100 n).length * 3 := rootAt_len _ _
/-- What PairsOf gives. -/
def pairsT (n : Int) : List Int := if inB n 0 99999999 = true then digs 100 n.toNat else []
theorem pairsT_len (n : Int) : (pairsT n).length ≤ 8 := by
  unfold pairsT
  split
  · next h => obtain ⟨h1, h2⟩ := inB_true h; exact digs100_8 (by omega)
  · simp
/-- What RootSteps gives. -/
def rstepsT (n : Int) : List Int := if inB n 0 99999999 = true then rsteps n.toNat else []
theorem rstepsT_len (n : Int) : (rstepsT n).length ≤ 24 := by
  unfold rstepsT
  split
  · next h =>
    obtain ⟨h1, h2⟩ := inB_true h
    have := digs100_8 (n := n.toNat) (by omega)
    rw [rsteps_len]; omega
  · simp

set_option maxHeartbeats 400000 in
theorem sPairsOf_any (n : Int) (w : World) :
    Calls Try.prog 18 #[.int .i64 n] w (Gives 3 1 (pairsT n) (inB n 0 99999999) w) := by
  cases h : inB n 0 99999999
  · go_enter Try.func18, Try.ntmps18
    go_wp2_with (go_at_call 53; refine (l12Good_any _ _).mono ?_; rintro e w' ⟨rfl, rfl⟩)
    go_ret2
    exact ⟨_, _, _, rfl, by simp only [pairsT, h, Bool.false_eq_true, if_false]; exact Acc.empty (Below.refl _ _)⟩
  · obtain ⟨n1, n2⟩ := inB_true h
    have hd : pairsT n = digs 100 n.toNat := by simp only [pairsT, if_pos h]
    obtain ⟨m, rfl⟩ := Int.eq_ofNat_of_zero_le n1
    rw [Int.toNat_natCast] at hd
    have HD := Lib.hid hd
    clear hd
    go_enter Try.func18, Try.ntmps18
    go_wp2_with (first | (go_at_call 53; refine (l12Good_any _ _).mono ?_; rintro e w' ⟨rfl, rfl⟩) | (go_at_call 56; refine (l12Pairs_any m (by omega) _).mono ?_; rintro e w' ⟨A, k, c, rfl, hacc⟩))
    go_ret2
    exact ⟨A, k, c, rfl, by rw [HD.out]; exact hacc⟩
set_option maxHeartbeats 400000 in
theorem iPairsOf_any (n : Int) (w : World) :
    Calls Try.prog 19 #[.int .i64 n] w (Gives 3 1 (pairsT n) (inB n 0 99999999) w) := by
  cases h : inB n 0 99999999
  · go_enter Try.func19, Try.ntmps19
    go_wp2_with (go_at_call 54; refine (isDividend_any _ _).mono ?_; rintro e w' ⟨rfl, rfl⟩)
    go_ret2
    exact ⟨_, _, _, rfl, by simp only [pairsT, h, Bool.false_eq_true, if_false]; exact Acc.nil (Below.refl _ _)⟩
  · obtain ⟨n1, n2⟩ := inB_true h
    have hd : pairsT n = digs 100 n.toNat := by simp only [pairsT, if_pos h]
    obtain ⟨m, rfl⟩ := Int.eq_ofNat_of_zero_le n1
    rw [Int.toNat_natCast] at hd
    have HD := Lib.hid hd
    clear hd
    go_enter Try.func19, Try.ntmps19
    go_wp2_with (first | (go_at_call 54; refine (isDividend_any _ _).mono ?_; rintro e w' ⟨rfl, rfl⟩) | (go_at_call 57; refine (pairsOf_any m (by omega) _).mono ?_; rintro e w' ⟨A, k, c, rfl, hacc⟩))
    go_ret2
    exact ⟨A, k, c, rfl, by rw [HD.out]; exact hacc⟩
set_option maxHeartbeats 1000000 in
theorem FnExactPairsOf_any (n : Int) (_ : (Lit.int .i64 n).wf = true) (w : World) :
    Calls Try.prog 5 #[.int .i64 n] w fun e w' => e = .returned (.bool true) ∧ Below w.heap.size w w' := by
  have hbd : (pairsT n).length ≤ 1000000 := Nat.le_trans (pairsT_len n) (by omega)
  have hs := sPairsOf_any n
  have hi := iPairsOf_any n
  generalize pairsT n = zs at hs hi hbd
  generalize inB n 0 99999999 = ok at hs hi
  have HS := Lib.hid hs
  have HI := Lib.hid hi
  have he := eqB_self zs
  clear hs hi
  go_enter Try.func5, Try.ntmps5
  go_wp2_with fail
  refine (HS.out _).mono ?_
  rintro e w1 ⟨A0, n0, c0, rfl, h0⟩
  go_wp2_with fail
  refine (HI.out _).mono ?_
  rintro e w2 ⟨A1, n1, c1, rfl, h1⟩
  have b0 := h0.len
  have b1 := h1.len
  have b1' : n1 ≤ 1000000 := by omega
  have b0' : n0 ≤ 1000000 := by omega
  clear b0 b1
  go_wp2_with fail
  refine (eqIntS_any A1 A0 n1 n0 c1 c0 _ _ zs zs _ h1.reads (h0.reads.below h1.ext) (by unfold maxLen; omega) (by unfold maxLen; omega)).mono ?_
  rintro e w' ⟨rfl, m, rfl⟩
  go_wp2_with fail
  refine (markIntS_any A1 n1 c1 w1.heap.size zs 1 _ (h1.drewN m).own (by omega) (by omega) (by omega)).mono ?_
  rintro e w4 ⟨rfl, hm, hg⟩
  go_wp2_with fail
  refine (heldIntS_any A1 n1 c1 _ 1 _ (Reads.of_own hm) (by omega) (by omega) (by omega)).mono ?_
  rintro e w' ⟨rfl, rfl⟩
  go_wp2_with fail
  refine (HI.out _).mono ?_
  rintro e w5 ⟨A2, n2, c2, rfl, h2⟩
  have b2 := h2.len
  have b2' : n2 ≤ 1000000 := by omega
  clear b2
  have r0 : Reads w5 w1.heap.size 1 A0 n0 (zs.map (Value.int .i64)) := ((((h0.reads.below h1.ext).drewN m).grown hg h1.ext.size fun g hb => (h1.own.lt g hb).1).below (h2.ext.mono (Nat.le_trans h1.ext.size hg.size)))
  have r1 := Reads.of_own (own_below hm h2.ext)
  go_wp2_with fail
  refine (eqIntS_any A2 A0 n2 n0 c2 c0 _ _ zs zs _ h2.reads r0 (by unfold maxLen; omega) (by unfold maxLen; omega)).mono ?_
  rintro e w' ⟨rfl, m', rfl⟩
  go_wp2_with fail
  refine (heldIntS_any A1 n1 c1 _ 1 _ (r1.drewN m') (by omega) (by omega) (by omega)).mono ?_
  rintro e w' ⟨rfl, rfl⟩
  go_wp2_with fail
  go_ret
  exact ⟨rfl, ext_drewN (ext_trans (ext_grown (ext_drewN (ext_trans h0.ext h1.ext) m) hg fun g hb => Nat.le_trans h0.ext.size (h1.own.lt g hb).1) h2.ext) m'⟩
set_option maxHeartbeats 400000 in
theorem sRootSteps_any (n : Int) (w : World) :
    Calls Try.prog 31 #[.int .i64 n] w (Gives 49 3 (rstepsT n) (inB n 0 99999999) w) := by
  cases h : inB n 0 99999999
  · go_enter Try.func31, Try.ntmps31
    go_wp2_with (go_at_call 53; refine (l12Good_any _ _).mono ?_; rintro e w' ⟨rfl, rfl⟩)
    go_ret2
    exact ⟨_, _, _, rfl, by simp only [rstepsT, h, Bool.false_eq_true, if_false]; exact Acc.empty (Below.refl _ _)⟩
  · obtain ⟨n1, n2⟩ := inB_true h
    have hd : rstepsT n = rsteps n.toNat := by simp only [rstepsT, if_pos h]
    obtain ⟨m, rfl⟩ := Int.eq_ofNat_of_zero_le n1
    rw [Int.toNat_natCast] at hd
    have HD := Lib.hid hd
    clear hd
    go_enter Try.func31, Try.ntmps31
    go_wp2_with (first | (go_at_call 53; refine (l12Good_any _ _).mono ?_; rintro e w' ⟨rfl, rfl⟩) | (go_at_call 63; refine (l12Steps_any m (by omega) _).mono ?_; rintro e w' ⟨A, k, c, rfl, hacc⟩))
    go_ret2
    exact ⟨A, k, c, rfl, by rw [HD.out]; exact hacc⟩
set_option maxHeartbeats 400000 in
theorem iRootSteps_any (n : Int) (w : World) :
    Calls Try.prog 32 #[.int .i64 n] w (Gives 49 3 (rstepsT n) (inB n 0 99999999) w) := by
  cases h : inB n 0 99999999
  · go_enter Try.func32, Try.ntmps32
    go_wp2_with (go_at_call 54; refine (isDividend_any _ _).mono ?_; rintro e w' ⟨rfl, rfl⟩)
    go_ret2
    exact ⟨_, _, _, rfl, by simp only [rstepsT, h, Bool.false_eq_true, if_false]; exact Acc.nil (Below.refl _ _)⟩
  · obtain ⟨n1, n2⟩ := inB_true h
    have hd : rstepsT n = rsteps n.toNat := by simp only [rstepsT, if_pos h]
    obtain ⟨m, rfl⟩ := Int.eq_ofNat_of_zero_le n1
    rw [Int.toNat_natCast] at hd
    have HD := Lib.hid hd
    clear hd
    go_enter Try.func32, Try.ntmps32
    go_wp2_with (first | (go_at_call 54; refine (isDividend_any _ _).mono ?_; rintro e w' ⟨rfl, rfl⟩) | (go_at_call 64; refine (rootSteps_any m (by omega) _).mono ?_; rintro e w' ⟨A, k, c, rfl, hacc⟩))
    go_ret2
    exact ⟨A, k, c, rfl, by rw [HD.out]; exact hacc⟩
set_option maxHeartbeats 1000000 in
theorem FnExactRootSteps_any (n : Int) (_ : (Lit.int .i64 n).wf = true) (w : World) :
    Calls Try.prog 10 #[.int .i64 n] w fun e w' => e = .returned (.bool true) ∧ Below w.heap.size w w' := by
  have hbd : (rstepsT n).length ≤ 1000000 := Nat.le_trans (rstepsT_len n) (by omega)
  have hs := sRootSteps_any n
  have hi := iRootSteps_any n
  generalize rstepsT n = zs at hs hi hbd
  generalize inB n 0 99999999 = ok at hs hi
  have HS := Lib.hid hs
  have HI := Lib.hid hi
  have he := eqB_self zs
  clear hs hi
  go_enter Try.func10, Try.ntmps10
  go_wp2_with fail
  refine (HS.out _).mono ?_
  rintro e w1 ⟨A0, n0, c0, rfl, h0⟩
  go_wp2_with fail
  refine (HI.out _).mono ?_
  rintro e w2 ⟨A1, n1, c1, rfl, h1⟩
  have b0 := h0.len
  have b1 := h1.len
  have b1' : n1 ≤ 1000000 := by omega
  have b0' : n0 ≤ 1000000 := by omega
  clear b0 b1
  go_wp2_with fail
  refine (eqIntA3S_any A1 A0 n1 n0 c1 c0 _ _ zs zs _ h1.reads (h0.reads.below h1.ext) (Nat.le_refl _) h1.ext.size (by unfold maxLen; omega) (by unfold maxLen; omega)).mono ?_
  rintro e w3 ⟨rfl, hb3⟩
  go_wp2_with fail
  refine (markIntA3S_any A1 n1 c1 w1.heap.size zs 1 _ (h1.later hb3).own (by omega) (by omega) (by omega)).mono ?_
  rintro e w4 ⟨rfl, hm, hg⟩
  go_wp2_with fail
  refine (heldIntA3S_any A1 n1 c1 _ 1 _ (Reads.of_own hm) (by omega) (by omega) (by omega)).mono ?_
  rintro e w' ⟨rfl, rfl⟩
  go_wp2_with fail
  refine (HI.out _).mono ?_
  rintro e w5 ⟨A2, n2, c2, rfl, h2⟩
  have b2 := h2.len
  have b2' : n2 ≤ 1000000 := by omega
  clear b2
  have z14 : w1.heap.size ≤ w4.heap.size := Nat.le_trans (Nat.le_trans h1.ext.size hb3.size) hg.size
  have r0 : Reads w5 w1.heap.size 3 A0 n0 (zs.map (Value.int .i64)) := ((((h0.reads.below h1.ext).below (hb3.mono h1.ext.size)).grown hg (Nat.le_trans h1.ext.size hb3.size) fun g hb => (h1.own.lt g hb).1).below (h2.ext.mono z14))
  have r1 := own_below hm h2.ext
  go_wp2_with fail
  refine (eqIntA3S_any A2 A0 n2 n0 c2 c0 _ _ zs zs _ h2.reads r0 (Nat.le_refl _) (Nat.le_trans z14 h2.ext.size) (by unfold maxLen; omega) (by unfold maxLen; omega)).mono ?_
  rintro e w6 ⟨rfl, hb6⟩
  go_wp2_with fail
  refine (heldIntA3S_any A1 n1 c1 _ 1 _ (Reads.of_own (own_below r1 hb6)) (by omega) (by omega) (by omega)).mono ?_
  rintro e w' ⟨rfl, rfl⟩
  go_wp2_with fail
  go_ret
  exact ⟨rfl, ext_trans (ext_trans (ext_grown (ext_trans (ext_trans h0.ext h1.ext) hb3) hg fun g hb => Nat.le_trans h0.ext.size (h1.own.lt g hb).1) h2.ext) hb6⟩
set_option maxHeartbeats 1000000 in
theorem wholeRoot_any (n : Nat) (hn : n < 10000000000000000) (w : World) :
    Calls Try.prog 55 #[.int .i64 (n : Int)] w fun e w' => e = .returned (.int .i64 (isq n : Int)) ∧ Below w.heap.size w w' := by
  have hst := rootSteps_any n hn
  have hsq := isq_at n
  have hlen := rsteps_len n
  have hdg : ∀ k, k < (digs 100 n).length → ∃ d : Nat, d ≤ 9 ∧ (rsteps n)[k * 3 + 1]? = some (d : Int) ∧ (rootAt (digs 100 n) (k + 1)).2.1 = 10 * (rootAt (digs 100 n) k).2.1 + d := fun k hk => rsteps_digit hk
  have h8 := digs100_8 hn
  have hsm : ∀ k, k ≤ (digs 100 n).length → (rootAt (digs 100 n) k).2.1 ≤ 99999999 := fun k hk => (rootAt_small (fun _ _ h => pairs_get h) h8 hk).1
  generalize digs 100 n = ps at *
  generalize rsteps n = ss at *
  have HST := Lib.hid hst
  have HSQ := Lib.hid hsq
  have HLEN := Lib.hid hlen
  have HDG := Lib.hid hdg
  have HSM := Lib.hid hsm
  clear hst hsq hlen hdg hsm
  go_enter Try.func55, Try.ntmps55
  go_wp2_with fail
  refine (HST.out _).mono ?_
  rintro e w1 ⟨A, L, c, rfl, h1⟩
  have hl : ps.length = L := by have := h1.len; have := HLEN.out; omega
  have HL := Lib.hid hl
  have hL : L ≤ 8 := by omega
  clear hl h8
  go_wp2_with fail
  go_loopw [3, 9] (fun r i wr => ∃ k : Nat, i = .int .i64 (k : Int) ∧ k ≤ L ∧ r = .int .i64 ((rootAt ps k).2.1 : Int) ∧ Below w1.heap.size w1 wr) (fun _ i _ => L - (intOf i).toNat)
  case atStart => exact ⟨0, rfl, by omega, rfl, Below.refl _ _⟩
  case round =>
    obtain ⟨k, rfl, hk, rfl, hb⟩ := hrel
    have hs1 := HSM.out k (by have := HL.out; omega)
    by_cases hlt : k < L
    · obtain ⟨d, hd9, hdz, hds⟩ := HDG.out k (by have := HL.out; omega)
      obtain ⟨g, o, rfl, hr⟩ := (h1.reads.below hb).row hlt (by omega)
      obtain ⟨x, hx, hc0⟩ := hr 0 (by omega)
      obtain ⟨y, hy, hc1⟩ := hr 1 (by omega)
      obtain ⟨z, hz, hc2⟩ := hr 2 (by omega)
      clear hr hx hz
      simp only [Nat.add_zero, ← Nat.add_assoc] at hy hc0 hc1 hc2
      rw [hdz] at hy
      injection hy with hy
      subst hy
      have HDS := Lib.hid hds
      clear hds hdz
      generalize hrr : (rootAt ps k).2.1 = root at *
      clear hrr
      go_wp2_with fail
      go_roundw
      case rel => exact ⟨k + 1, by go_num, by omega, by rw [HDS.out]; go_num, ext_alloc hb _⟩
      case measure => simp [intOf]; omega
    · have hk' : k = L := by omega
      subst hk'
      go_wp2
      go_ret
      exact ⟨by rw [HSQ.out, HL.out]; rfl, ext_trans h1.ext hb⟩
theorem half_ge {l h M : Nat} (hM : M = (l + h + 1) / 2) (hlt : l < h) : l + 1 ≤ M ∧ M ≤ h := by omega
set_option maxHeartbeats 1000000 in
theorem l12Root_any (n : Nat) (hn : n < 10000000000000000) (w : World) :
    Calls Try.prog 58 #[.int .i64 (n : Int)] w fun e w' => e = .returned (.int .i64 (isq n : Int)) ∧ w = w' := by
  go_enter Try.func58, Try.ntmps58
  go_wp2_with fail
  go_loop [3, 4] (fun a b => ∃ l h : Nat, a = .int .i64 (l : Int) ∧ b = .int .i64 (h : Int) ∧ l ≤ h ∧ h ≤ 200000000 ∧ l * l ≤ n ∧ n < (h + 1) * (h + 1)) (fun a b => (intOf b).toNat - (intOf a).toNat)
  case atStart => exact ⟨0, 200000000, rfl, rfl, by omega, by omega, by omega, by omega⟩
  case round =>
    obtain ⟨l, h, rfl, rfl, hlh, hh, hl2, hh2⟩ := hrel
    have HL2 := Lib.hid hl2
    have HH2 := Lib.hid hh2
    clear hl2 hh2
    by_cases hlt : l < h
    · obtain ⟨M, hM⟩ : ∃ M, M = (l + h + 1) / 2 := ⟨_, rfl⟩
      obtain ⟨m1, m2⟩ := half_ge hM hlt
      have hMI : ((l : Int) + h + 1) / 2 = (M : Int) := by omega
      have HM := Lib.hid hM
      clear hM
      have hsq := Nat.mul_le_mul (show M ≤ 200000000 by omega) (show M ≤ 200000000 by omega)
      have f1 : 0 ≤ (M : Int) * M := by rw [← Int.natCast_mul]; omega
      have f2 : (M : Int) * M ≤ 40000000000000000 := by rw [← Int.natCast_mul]; omega
      by_cases hle : M * M ≤ n
      · have f3 : (M : Int) * M ≤ n := by rw [← Int.natCast_mul]; omega
        have HLE := Lib.hid hle
        clear hle hsq
        go_wp2_with fail
        go_round
        case rel => exact ⟨M, h, by first | rfl | rw [hMI], rfl, by omega, hh, HLE.out, HH2.out⟩
        case measure => simp [intOf]; omega
      · have f3 : (n : Int) < (M : Int) * M := by rw [← Int.natCast_mul]; omega
        have HLE := Lib.hid hle
        clear hle hsq
        go_wp2_with fail
        go_round
        case rel => exact ⟨l, M - 1, rfl, by first | go_num | (rw [hMI]; go_num), by omega, by omega, HL2.out, by rw [Nat.sub_add_cancel (by omega)]; have := HLE.out; omega⟩
        case measure => simp [intOf]; omega
    · obtain rfl : l = h := by omega
      have hq := isq_is (show IsRoot l n from ⟨HL2.out, HH2.out⟩)
      have HQ := Lib.hid hq
      clear hq
      go_wp2_with fail
      go_ret
      exact ⟨by rw [HQ.out]; rfl, rfl⟩
theorem isq_small {n : Nat} (hn : n ≤ 99999999) : isq n ≤ 9999 ∧ isq n * isq n ≤ n := by
  obtain ⟨h1, h2⟩ := isq_root n
  exact ⟨root_le h1 (by omega), h1⟩
def wrootT (n : Int) : Value := if inB n 0 99999999 = true then .tuple #[.int .i64 (isq n.toNat : Int), .int .i64 (n - (isq n.toNat : Int) * (isq n.toNat : Int)), .bool true] else .tuple #[.int .i64 0, .int .i64 0, .bool false]
def issqT (n : Int) : Value := if inB n 0 99999999 = true then .tuple #[.bool ((isq n.toNat : Int) * (isq n.toNat : Int) == n), .bool true] else .tuple #[.bool false, .bool false]
def nextT (n : Int) : Value := if inB n 0 99999999 = true then .tuple #[.int .i64 (((isq n.toNat : Int) + 1) * ((isq n.toNat : Int) + 1)), .bool true] else .tuple #[.int .i64 0, .bool false]
def oddsT (n : Int) : Value := if inB n 0 99999999 = true then .tuple #[.int .i64 (isq n.toNat : Int), .bool true] else .tuple #[.int .i64 0, .bool false]
theorem next_wrap {r : Nat} (h : r ≤ 9999) : wrap64 (((r : Int) + 1) * ((r : Int) + 1)) = ((r : Int) + 1) * ((r : Int) + 1) := by
  have h1 := Nat.mul_le_mul (show r + 1 ≤ 10000 by omega) (show r + 1 ≤ 10000 by omega)
  have e : ((r : Int) + 1) * ((r : Int) + 1) = (((r + 1) * (r + 1) : Nat) : Int) := by simp
  rw [e]
  exact IntWalk.wrap64_in _ ⟨by omega, by omega⟩

set_option maxHeartbeats 400000 in
theorem sWholeRoot_any (n : Int) (w : World) :
    Calls Try.prog 27 #[.int .i64 n] w fun e w' => e = .returned (wrootT n) ∧ Below w.heap.size w w' := by
  cases h : inB n 0 99999999
  · go_enter Try.func27, Try.ntmps27
    go_wp2_with (go_at_call 53; refine (l12Good_any _ _).mono ?_; rintro e w' ⟨rfl, rfl⟩)
    go_ret3
    exact ⟨by simp only [wrootT, h, Bool.false_eq_true, if_false]; rfl, Below.refl _ _⟩
  · obtain ⟨n1, n2⟩ := inB_true h
    obtain ⟨m, rfl⟩ := Int.eq_ofNat_of_zero_le n1
    have ht := show wrootT (m : Int) = _ by simp only [wrootT, if_pos h, Int.toNat_natCast]; rfl
    obtain ⟨q1, q2⟩ := isq_small (n := m) (by omega)
    have f1 : 0 ≤ (isq m : Int) * (isq m : Int) := by rw [← Int.natCast_mul]; omega
    have f2 : (isq m : Int) * (isq m : Int) ≤ (m : Int) := by rw [← Int.natCast_mul]; omega
    have HT := Lib.hid ht
    clear ht q2
    go_enter Try.func27, Try.ntmps27
    go_wp2_with (first | (go_at_call 53; refine (l12Good_any _ _).mono ?_; rintro e w' ⟨rfl, rfl⟩) | (go_at_call 58; refine (l12Root_any m (by omega) _).mono ?_; rintro e w' ⟨rfl, rfl⟩))
    go_ret3
    exact ⟨by rw [HT.out]; rfl, Below.refl _ _⟩
set_option maxHeartbeats 400000 in
theorem iWholeRoot_any (n : Int) (w : World) :
    Calls Try.prog 28 #[.int .i64 n] w fun e w' => e = .returned (wrootT n) ∧ Below w.heap.size w w' := by
  cases h : inB n 0 99999999
  · go_enter Try.func28, Try.ntmps28
    go_wp2_with (go_at_call 54; refine (isDividend_any _ _).mono ?_; rintro e w' ⟨rfl, rfl⟩)
    go_ret3
    exact ⟨by simp only [wrootT, h, Bool.false_eq_true, if_false]; rfl, Below.refl _ _⟩
  · obtain ⟨n1, n2⟩ := inB_true h
    obtain ⟨m, rfl⟩ := Int.eq_ofNat_of_zero_le n1
    have ht := show wrootT (m : Int) = _ by simp only [wrootT, if_pos h, Int.toNat_natCast]; rfl
    obtain ⟨q1, q2⟩ := isq_small (n := m) (by omega)
    have f1 : 0 ≤ (isq m : Int) * (isq m : Int) := by rw [← Int.natCast_mul]; omega
    have f2 : (isq m : Int) * (isq m : Int) ≤ (m : Int) := by rw [← Int.natCast_mul]; omega
    have HT := Lib.hid ht
    clear ht q2
    go_enter Try.func28, Try.ntmps28
    go_wp2_with (first | (go_at_call 54; refine (isDividend_any _ _).mono ?_; rintro e w' ⟨rfl, rfl⟩) | (go_at_call 55; refine (wholeRoot_any m (by omega) _).mono ?_; rintro e w' ⟨rfl, hb⟩))
    go_ret3
    exact ⟨by rw [HT.out]; rfl, hb⟩
set_option maxHeartbeats 400000 in
theorem sIsSquare_any (n : Int) (w : World) :
    Calls Try.prog 23 #[.int .i64 n] w fun e w' => e = .returned (issqT n) ∧ Below w.heap.size w w' := by
  cases h : inB n 0 99999999
  · go_enter Try.func23, Try.ntmps23
    go_wp2_with (go_at_call 53; refine (l12Good_any _ _).mono ?_; rintro e w' ⟨rfl, rfl⟩)
    go_ret2
    exact ⟨by simp only [issqT, h, Bool.false_eq_true, if_false]; rfl, Below.refl _ _⟩
  · obtain ⟨n1, n2⟩ := inB_true h
    obtain ⟨m, rfl⟩ := Int.eq_ofNat_of_zero_le n1
    have ht := show issqT (m : Int) = _ by simp only [issqT, if_pos h, Int.toNat_natCast]; rfl
    obtain ⟨q1, q2⟩ := isq_small (n := m) (by omega)
    have f1 : 0 ≤ (isq m : Int) * (isq m : Int) := by rw [← Int.natCast_mul]; omega
    have f2 : (isq m : Int) * (isq m : Int) ≤ (m : Int) := by rw [← Int.natCast_mul]; omega
    have HT := Lib.hid ht
    clear ht q2
    go_enter Try.func23, Try.ntmps23
    go_wp2_with (first | (go_at_call 53; refine (l12Good_any _ _).mono ?_; rintro e w' ⟨rfl, rfl⟩) | (go_at_call 58; refine (l12Root_any m (by omega) _).mono ?_; rintro e w' ⟨rfl, rfl⟩))
    go_ret2
    exact ⟨by rw [HT.out]; rfl, Below.refl _ _⟩
set_option maxHeartbeats 400000 in
theorem iIsSquare_any (n : Int) (w : World) :
    Calls Try.prog 24 #[.int .i64 n] w fun e w' => e = .returned (issqT n) ∧ Below w.heap.size w w' := by
  cases h : inB n 0 99999999
  · go_enter Try.func24, Try.ntmps24
    go_wp2_with (go_at_call 54; refine (isDividend_any _ _).mono ?_; rintro e w' ⟨rfl, rfl⟩)
    go_ret2
    exact ⟨by simp only [issqT, h, Bool.false_eq_true, if_false]; rfl, Below.refl _ _⟩
  · obtain ⟨n1, n2⟩ := inB_true h
    obtain ⟨m, rfl⟩ := Int.eq_ofNat_of_zero_le n1
    have ht := show issqT (m : Int) = _ by simp only [issqT, if_pos h, Int.toNat_natCast]; rfl
    obtain ⟨q1, q2⟩ := isq_small (n := m) (by omega)
    have f1 : 0 ≤ (isq m : Int) * (isq m : Int) := by rw [← Int.natCast_mul]; omega
    have f2 : (isq m : Int) * (isq m : Int) ≤ (m : Int) := by rw [← Int.natCast_mul]; omega
    have HT := Lib.hid ht
    clear ht q2
    go_enter Try.func24, Try.ntmps24
    go_wp2_with (first | (go_at_call 54; refine (isDividend_any _ _).mono ?_; rintro e w' ⟨rfl, rfl⟩) | (go_at_call 55; refine (wholeRoot_any m (by omega) _).mono ?_; rintro e w' ⟨rfl, hb⟩))
    go_ret2
    exact ⟨by rw [HT.out]; rfl, hb⟩
set_option maxHeartbeats 400000 in
theorem sNextSquare_any (n : Int) (w : World) :
    Calls Try.prog 25 #[.int .i64 n] w fun e w' => e = .returned (nextT n) ∧ Below w.heap.size w w' := by
  cases h : inB n 0 99999999
  · go_enter Try.func25, Try.ntmps25
    go_wp2_with (go_at_call 53; refine (l12Good_any _ _).mono ?_; rintro e w' ⟨rfl, rfl⟩)
    go_ret2
    exact ⟨by simp only [nextT, h, Bool.false_eq_true, if_false]; rfl, Below.refl _ _⟩
  · obtain ⟨n1, n2⟩ := inB_true h
    obtain ⟨m, rfl⟩ := Int.eq_ofNat_of_zero_le n1
    have ht := show nextT (m : Int) = _ by simp only [nextT, if_pos h, Int.toNat_natCast]; rfl
    obtain ⟨q1, q2⟩ := isq_small (n := m) (by omega)
    have HT := Lib.hid ht
    clear ht q2
    go_enter Try.func25, Try.ntmps25
    go_wp2_with (first | (go_at_call 53; refine (l12Good_any _ _).mono ?_; rintro e w' ⟨rfl, rfl⟩) | (go_at_call 58; refine (l12Root_any m (by omega) _).mono ?_; rintro e w' ⟨rfl, rfl⟩))
    go_ret2
    exact ⟨by rw [HT.out]; simp only [next_wrap q1]; rfl, Below.refl _ _⟩
set_option maxHeartbeats 400000 in
theorem iNextSquare_any (n : Int) (w : World) :
    Calls Try.prog 26 #[.int .i64 n] w fun e w' => e = .returned (nextT n) ∧ Below w.heap.size w w' := by
  cases h : inB n 0 99999999
  · go_enter Try.func26, Try.ntmps26
    go_wp2_with (go_at_call 54; refine (isDividend_any _ _).mono ?_; rintro e w' ⟨rfl, rfl⟩)
    go_ret2
    exact ⟨by simp only [nextT, h, Bool.false_eq_true, if_false]; rfl, Below.refl _ _⟩
  · obtain ⟨n1, n2⟩ := inB_true h
    obtain ⟨m, rfl⟩ := Int.eq_ofNat_of_zero_le n1
    have ht := show nextT (m : Int) = _ by simp only [nextT, if_pos h, Int.toNat_natCast]; rfl
    obtain ⟨q1, q2⟩ := isq_small (n := m) (by omega)
    have HT := Lib.hid ht
    clear ht q2
    go_enter Try.func26, Try.ntmps26
    go_wp2_with (first | (go_at_call 54; refine (isDividend_any _ _).mono ?_; rintro e w' ⟨rfl, rfl⟩) | (go_at_call 55; refine (wholeRoot_any m (by omega) _).mono ?_; rintro e w' ⟨rfl, hb⟩))
    go_ret2
    exact ⟨by rw [HT.out]; simp only [next_wrap q1]; rfl, hb⟩
set_option maxHeartbeats 400000 in
theorem iOddsTaken_any (n : Int) (w : World) :
    Calls Try.prog 17 #[.int .i64 n] w fun e w' => e = .returned (oddsT n) ∧ Below w.heap.size w w' := by
  cases h : inB n 0 99999999
  · go_enter Try.func17, Try.ntmps17
    go_wp2_with (go_at_call 54; refine (isDividend_any _ _).mono ?_; rintro e w' ⟨rfl, rfl⟩)
    go_ret2
    exact ⟨by simp only [oddsT, h, Bool.false_eq_true, if_false]; rfl, Below.refl _ _⟩
  · obtain ⟨n1, n2⟩ := inB_true h
    obtain ⟨m, rfl⟩ := Int.eq_ofNat_of_zero_le n1
    have ht := show oddsT (m : Int) = _ by simp only [oddsT, if_pos h, Int.toNat_natCast]; rfl
    obtain ⟨q1, q2⟩ := isq_small (n := m) (by omega)
    have HT := Lib.hid ht
    clear ht q2
    go_enter Try.func17, Try.ntmps17
    go_wp2_with (first | (go_at_call 54; refine (isDividend_any _ _).mono ?_; rintro e w' ⟨rfl, rfl⟩) | (go_at_call 55; refine (wholeRoot_any m (by omega) _).mono ?_; rintro e w' ⟨rfl, hb⟩))
    go_ret2
    exact ⟨by rw [HT.out]; rfl, hb⟩
set_option maxHeartbeats 1000000 in
theorem sOddsTaken_any (n : Int) (w : World) :
    Calls Try.prog 16 #[.int .i64 n] w fun e w' => e = .returned (oddsT n) ∧ Below w.heap.size w w' := by
  cases h : inB n 0 99999999
  · go_enter Try.func16, Try.ntmps16
    go_wp2_with (go_at_call 53; refine (l12Good_any _ _).mono ?_; rintro e w' ⟨rfl, rfl⟩)
    go_ret2
    exact ⟨by simp only [oddsT, h, Bool.false_eq_true, if_false]; rfl, Below.refl _ _⟩
  · obtain ⟨n1, n2⟩ := inB_true h
    obtain ⟨m, rfl⟩ := Int.eq_ofNat_of_zero_le n1
    have ht : oddsT (m : Int) = .tuple #[.int .i64 (isq m : Int), .bool true] := by simp only [oddsT, if_pos h, Int.toNat_natCast]
    have HT := Lib.hid ht
    clear ht
    go_enter Try.func16, Try.ntmps16
    go_wp2_with (go_at_call 53; refine (l12Good_any _ _).mono ?_; rintro e w' ⟨rfl, rfl⟩)
    go_loop [4, 5] (fun a b => ∃ k l : Nat, a = .int .i64 (k : Int) ∧ b = .int .i64 (l : Int) ∧ k * k + l = m ∧ k ≤ 99999999 ∧ l ≤ 99999999) (fun _ b => (intOf b).toNat)
    case atStart => exact ⟨0, m, rfl, rfl, by omega, by omega, by omega⟩
    case round =>
      obtain ⟨k, l, rfl, rfl, hkl, hk, hl⟩ := hrel
      have HKL := Lib.hid hkl
      clear hkl
      by_cases hge : 2 * k + 1 ≤ l
      · go_wp2_with fail
        go_round
        case rel =>
          refine ⟨k + 1, l - 2 * k - 1, by go_num, by go_num, ?_, ?_, by omega⟩
          · have := HKL.out
            have e : (k + 1) * (k + 1) = k * k + 2 * k + 1 := by rw [Nat.add_mul, Nat.mul_add]; omega
            omega
          · omega
        case measure => simp [intOf]; omega
      · have hq := isq_is (show IsRoot k m from ⟨by have := HKL.out; omega, by
          have := HKL.out
          have e : (k + 1) * (k + 1) = k * k + 2 * k + 1 := by rw [Nat.add_mul, Nat.mul_add]; omega
          omega⟩)
        have HQ := Lib.hid hq
        clear hq
        go_wp2_with fail
        go_ret2
        exact ⟨by rw [HT.out, HQ.out]; rfl, Below.refl _ _⟩
set_option maxHeartbeats 400000 in
theorem FnExactWholeRoot_any (n : Int) (_ : (Lit.int .i64 n).wf = true) (w : World) :
    Calls Try.prog 8 #[.int .i64 n] w fun e w' => e = .returned (.bool true) ∧ Below w.heap.size w w' := by
  obtain ⟨x, z, y, hq⟩ : ∃ (x z : Int) (y : Bool), wrootT n = .tuple #[.int .i64 x, .int .i64 z, .bool y] := by
    unfold wrootT
    split
    · exact ⟨_, _, _, rfl⟩
    · exact ⟨_, _, _, rfl⟩
  go_enter Try.func8, Try.ntmps8
  go_wp2_with (first | (go_at_call 27; refine (sWholeRoot_any _ _).mono ?_; rintro e w1 ⟨rfl, hb1⟩) | (go_at_call 28; refine (iWholeRoot_any _ _).mono ?_; rintro e w2 ⟨rfl, hb2⟩))
  go_ret
  exact ⟨rfl, ext_trans hb1 hb2⟩
set_option maxHeartbeats 400000 in
theorem FnExactIsSquare_any (n : Int) (_ : (Lit.int .i64 n).wf = true) (w : World) :
    Calls Try.prog 6 #[.int .i64 n] w fun e w' => e = .returned (.bool true) ∧ Below w.heap.size w w' := by
  obtain ⟨x, y, hq⟩ : ∃ (x y : Bool), issqT n = .tuple #[.bool x, .bool y] := by
    unfold issqT
    split
    · exact ⟨_, _, rfl⟩
    · exact ⟨_, _, rfl⟩
  go_enter Try.func6, Try.ntmps6
  go_wp2_with (first | (go_at_call 23; refine (sIsSquare_any _ _).mono ?_; rintro e w1 ⟨rfl, hb1⟩) | (go_at_call 24; refine (iIsSquare_any _ _).mono ?_; rintro e w2 ⟨rfl, hb2⟩))
  go_ret
  exact ⟨rfl, ext_trans hb1 hb2⟩
set_option maxHeartbeats 400000 in
theorem FnExactNextSquare_any (n : Int) (_ : (Lit.int .i64 n).wf = true) (w : World) :
    Calls Try.prog 7 #[.int .i64 n] w fun e w' => e = .returned (.bool true) ∧ Below w.heap.size w w' := by
  obtain ⟨x, y, hq⟩ : ∃ (x : Int) (y : Bool), nextT n = .tuple #[.int .i64 x, .bool y] := by
    unfold nextT
    split
    · exact ⟨_, _, rfl⟩
    · exact ⟨_, _, rfl⟩
  go_enter Try.func7, Try.ntmps7
  go_wp2_with (first | (go_at_call 25; refine (sNextSquare_any _ _).mono ?_; rintro e w1 ⟨rfl, hb1⟩) | (go_at_call 26; refine (iNextSquare_any _ _).mono ?_; rintro e w2 ⟨rfl, hb2⟩))
  go_ret
  exact ⟨rfl, ext_trans hb1 hb2⟩
set_option maxHeartbeats 400000 in
theorem FnExactOddsTaken_any (n : Int) (_ : (Lit.int .i64 n).wf = true) (w : World) :
    Calls Try.prog 4 #[.int .i64 n] w fun e w' => e = .returned (.bool true) ∧ Below w.heap.size w w' := by
  obtain ⟨x, y, hq⟩ : ∃ (x : Int) (y : Bool), oddsT n = .tuple #[.int .i64 x, .bool y] := by
    unfold oddsT
    split
    · exact ⟨_, _, rfl⟩
    · exact ⟨_, _, rfl⟩
  go_enter Try.func4, Try.ntmps4
  go_wp2_with (first | (go_at_call 16; refine (sOddsTaken_any _ _).mono ?_; rintro e w1 ⟨rfl, hb1⟩) | (go_at_call 17; refine (iOddsTaken_any _ _).mono ?_; rintro e w2 ⟨rfl, hb2⟩))
  go_ret
  exact ⟨rfl, ext_trans hb1 hb2⟩
/-- What RootDecimals gives. -/
def rdecV (n p : Int) : Bool := inB n 0 99999999 && inB p 0 4
def rdecT (n p : Int) : Value := if rdecV n p = true then .tuple #[.int .i64 (isq (n.toNat * 10 ^ (2 * p.toNat)) : Int), .bool true] else .tuple #[.int .i64 0, .bool false]
theorem pow10_nat (k : Nat) : pow10 k = ((10 ^ k : Nat) : Int) := by simp [pow10]
theorem rdec_bd {m q : Nat} (hm : m ≤ 99999999) (hq : q ≤ 4) : m * 10 ^ (2 * q) < 10000000000000000 := by
  have h1 : 10 ^ (2 * q) ≤ 10 ^ 8 := Nat.pow_le_pow_right (by omega) (by omega)
  have h2 := Nat.mul_le_mul hm h1
  have e : (10 : Nat) ^ 8 = 100000000 := by decide
  rw [e] at h2
  omega
set_option maxHeartbeats 1000000 in
theorem sRootDecimals_any (n p : Int) (w : World) :
    Calls Try.prog 29 #[.int .i64 n, .int .i64 p] w fun e w' => e = .returned (rdecT n p) ∧ Below w.heap.size w w' := by
  cases h : inB n 0 99999999
  · go_enter Try.func29, Try.ntmps29
    go_wp2_with (first | (go_at_call 53; refine (l12Good_any _ _).mono ?_; rintro e w' ⟨rfl, rfl⟩) | (go_at_call 59; refine (l1In_any _ _ _ _).mono ?_; rintro e w' ⟨rfl, rfl⟩))
    go_ret2
    exact ⟨by simp only [rdecT, rdecV, h, Bool.false_and, Bool.false_eq_true, if_false]; rfl, Below.refl _ _⟩
  · cases h' : inB p 0 4
    · go_enter Try.func29, Try.ntmps29
      go_wp2_with (first | (go_at_call 53; refine (l12Good_any _ _).mono ?_; rintro e w' ⟨rfl, rfl⟩) | (go_at_call 59; refine (l1In_any _ _ _ _).mono ?_; rintro e w' ⟨rfl, rfl⟩))
      go_ret2
      exact ⟨by simp only [rdecT, rdecV, h, h', Bool.and_false, Bool.false_eq_true, if_false]; rfl, Below.refl _ _⟩
    · obtain ⟨n1, n2⟩ := inB_true h
      obtain ⟨p1, p2⟩ := inB_true h'
      obtain ⟨m, rfl⟩ := Int.eq_ofNat_of_zero_le n1
      obtain ⟨q, rfl⟩ := Int.eq_ofNat_of_zero_le p1
      have ht : rdecT (m : Int) (q : Int) = .tuple #[.int .i64 (isq (m * 10 ^ (2 * q)) : Int), .bool true] := by simp only [rdecT, rdecV, h, h', Bool.and_self, if_true, Int.toNat_natCast]
      have hb0 := rdec_bd (m := m) (q := q) (by omega) (by omega)
      have he : (m : Int) * pow10 (2 * q) = ((m * 10 ^ (2 * q) : Nat) : Int) := by
        rw [pow10_nat]; simp
      generalize m * 10 ^ (2 * q) = N at *
      have g1 : 0 ≤ (m : Int) * pow10 (2 * q) := by rw [he]; omega
      have g2 : (m : Int) * pow10 (2 * q) ≤ 10000000000000000 := by rw [he]; omega
      have HT := Lib.hid ht
      have HE := Lib.hid he
      clear ht he
      go_enter Try.func29, Try.ntmps29
      go_wp2_with (first | (go_at_call 53; refine (l12Good_any _ _).mono ?_; rintro e w' ⟨rfl, rfl⟩) | (go_at_call 59; refine (l1In_any _ _ _ _).mono ?_; rintro e w' ⟨rfl, rfl⟩) | (go_at_call 60; refine (l2Power_any _ (by omega) _).mono ?_; rintro e w' ⟨rfl, rfl⟩))
      rw [HE.out]
      go_wp2_with (go_at_call 58; refine (l12Root_any N hb0 _).mono ?_; rintro e w' ⟨rfl, rfl⟩)
      go_ret2
      exact ⟨by rw [HT.out]; rfl, Below.refl _ _⟩
set_option maxHeartbeats 1000000 in
theorem iRootDecimals_any (n p : Int) (w : World) :
    Calls Try.prog 30 #[.int .i64 n, .int .i64 p] w fun e w' => e = .returned (rdecT n p) ∧ Below w.heap.size w w' := by
  cases h : inB n 0 99999999
  · go_enter Try.func30, Try.ntmps30
    go_wp2_with (first | (go_at_call 54; refine (isDividend_any _ _).mono ?_; rintro e w' ⟨rfl, rfl⟩) | (go_at_call 61; refine (within_any _ _ _ _).mono ?_; rintro e w' ⟨rfl, rfl⟩))
    go_ret2
    exact ⟨by simp only [rdecT, rdecV, h, Bool.false_and, Bool.false_eq_true, if_false]; rfl, Below.refl _ _⟩
  · cases h' : inB p 0 4
    · go_enter Try.func30, Try.ntmps30
      go_wp2_with (first | (go_at_call 54; refine (isDividend_any _ _).mono ?_; rintro e w' ⟨rfl, rfl⟩) | (go_at_call 61; refine (within_any _ _ _ _).mono ?_; rintro e w' ⟨rfl, rfl⟩))
      go_ret2
      exact ⟨by simp only [rdecT, rdecV, h, h', Bool.and_false, Bool.false_eq_true, if_false]; rfl, Below.refl _ _⟩
    · obtain ⟨n1, n2⟩ := inB_true h
      obtain ⟨p1, p2⟩ := inB_true h'
      obtain ⟨m, rfl⟩ := Int.eq_ofNat_of_zero_le n1
      obtain ⟨q, rfl⟩ := Int.eq_ofNat_of_zero_le p1
      have ht : rdecT (m : Int) (q : Int) = .tuple #[.int .i64 (isq (m * 10 ^ (2 * q)) : Int), .bool true] := by simp only [rdecT, rdecV, h, h', Bool.and_self, if_true, Int.toNat_natCast]
      have hb0 := rdec_bd (m := m) (q := q) (by omega) (by omega)
      have he : (m : Int) * pow10 (2 * q) = ((m * 10 ^ (2 * q) : Nat) : Int) := by
        rw [pow10_nat]; simp
      generalize m * 10 ^ (2 * q) = N at *
      have g1 : 0 ≤ (m : Int) * pow10 (2 * q) := by rw [he]; omega
      have g2 : (m : Int) * pow10 (2 * q) ≤ 10000000000000000 := by rw [he]; omega
      have HT := Lib.hid ht
      have HE := Lib.hid he
      clear ht he
      go_enter Try.func30, Try.ntmps30
      go_wp2_with (first | (go_at_call 54; refine (isDividend_any _ _).mono ?_; rintro e w' ⟨rfl, rfl⟩) | (go_at_call 61; refine (within_any _ _ _ _).mono ?_; rintro e w' ⟨rfl, rfl⟩) | (go_at_call 62; refine (power_any _ (by omega) _).mono ?_; rintro e w' ⟨rfl, rfl⟩))
      rw [HE.out]
      go_wp2_with (go_at_call 55; refine (wholeRoot_any N hb0 _).mono ?_; rintro e w' ⟨rfl, hb⟩)
      go_ret2
      exact ⟨by rw [HT.out]; rfl, hb⟩
set_option maxHeartbeats 400000 in
theorem FnExactRootDecimals_any (n : Int) (_ : (Lit.int .i64 n).wf = true) (p : Int) (_ : (Lit.int .i64 p).wf = true) (w : World) :
    Calls Try.prog 9 #[.int .i64 n, .int .i64 p] w fun e w' => e = .returned (.bool true) ∧ Below w.heap.size w w' := by
  obtain ⟨x, y, hq⟩ : ∃ (x : Int) (y : Bool), rdecT n p = .tuple #[.int .i64 x, .bool y] := by
    unfold rdecT
    split
    · exact ⟨_, _, rfl⟩
    · exact ⟨_, _, rfl⟩
  go_enter Try.func9, Try.ntmps9
  go_wp2_with (first | (go_at_call 29; refine (sRootDecimals_any _ _ _).mono ?_; rintro e w1 ⟨rfl, hb1⟩) | (go_at_call 30; refine (iRootDecimals_any _ _ _).mono ?_; rintro e w2 ⟨rfl, hb2⟩))
  go_ret
  exact ⟨rfl, ext_trans hb1 hb2⟩
end Go.Proofs.Ytiephmkokkjbaaa
