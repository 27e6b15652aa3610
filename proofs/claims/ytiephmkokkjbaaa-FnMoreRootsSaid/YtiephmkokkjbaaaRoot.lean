/- Chapter 12: the steps of a root. No condition. -/
import Derived.Test.YtiephmkokkjbaaaSq
import Derived.Test.YtiephmkokkjbaaaA3
import Derived.Test.YtiephmkokkjbaaaTests
namespace Go.Proofs.Ytiephmkokkjbaaa
open Go.RowKit

theorem pairs_get {n k : Nat} {z : Int} (h : (digs 100 n)[k]? = some z) : 0 ≤ z ∧ z ≤ 99 := by
  have := digs_bd (b := 100) (by omega) n z (List.mem_of_getElem? h)
  omega
theorem nextD_take {root n d : Nat} (h : (20 * root + d) * d ≤ n) : nextD root n d = d := by
  cases d with
  | zero => rfl
  | succ d => rw [nextD, if_pos h]
theorem nextD_down {root n d : Nat} (h : ¬ (20 * root + (d + 1)) * (d + 1) ≤ n) : nextD root n (d + 1) = nextD root n d := by rw [nextD, if_neg h]
theorem prod_bd {root d : Nat} (hr : root ≤ 100000000) (hd : d ≤ 9) : (20 * root + d) * d ≤ 18000000081 :=
  Nat.le_trans (Nat.mul_le_mul (show 20 * root + d ≤ 2000000009 by omega) hd) (by omega)
/-- All steps of a root. -/
def rsteps (n : Nat) : List Int := (rootAt (digs 100 n) (digs 100 n).length).1
theorem valTo_lt {ps : List Int} (hp : ∀ (k : Nat) (z : Int), ps[k]? = some z → 0 ≤ z ∧ z ≤ 99) : ∀ k, k ≤ ps.length → valTo 100 ps k < 100 ^ k
  | 0, _ => by simp [valTo]
  | k + 1, hk => by
    have ih := valTo_lt hp k (by omega)
    have hz : ps[k]? = some (ps[k]'(by omega)) := List.getElem?_eq_getElem (by omega)
    have hb := hp k _ hz
    have hg : ps.getD k 0 = ps[k]'(by omega) := by simp [List.getD, hz]
    rw [valTo, hg, Nat.pow_succ]
    omega
theorem rootAt_small {ps : List Int} (hp : ∀ (k : Nat) (z : Int), ps[k]? = some z → 0 ≤ z ∧ z ≤ 99) (hl : ps.length ≤ 8) {k : Nat} (hk : k ≤ ps.length) : (rootAt ps k).2.1 ≤ 99999999 ∧ (rootAt ps k).2.2 ≤ 199999998 := by
  obtain ⟨h1, h2⟩ := rootAt_inv hp k hk
  have h3 := valTo_lt hp k hk
  have h4 : (100 : Nat) ^ k ≤ 100 ^ 8 := Nat.pow_le_pow_right (by omega) (by omega)
  have e8 : (100 : Nat) ^ 8 = (99999999 + 1) * (99999999 + 1) := by decide
  have h5 : (rootAt ps k).2.1 ≤ 99999999 := root_le (n := valTo 100 ps k) (by omega) (by omega)
  refine ⟨h5, ?_⟩
  have e : ((rootAt ps k).2.1 + 1) * ((rootAt ps k).2.1 + 1) = (rootAt ps k).2.1 * (rootAt ps k).2.1 + 2 * (rootAt ps k).2.1 + 1 := by
    rw [Nat.add_mul, Nat.mul_add]; omega
  omega
theorem rootAt_succ {ps : List Int} {k p : Nat} (hz : ps[k]? = some (p : Int)) {root rest : Nat} (h1 : (rootAt ps k).2.1 = root) (h2 : (rootAt ps k).2.2 = rest) {d : Nat} (hd : nextD root (100 * rest + p) 9 = d) :
    rootAt ps (k + 1) = ((rootAt ps k).1 ++ [((100 * rest + p : Nat) : Int), (d : Int), ((100 * rest + p - (20 * root + d) * d : Nat) : Int)], 10 * root + d, 100 * rest + p - (20 * root + d) * d) := by
  have : (ps.getD k 0).toNat = p := by simp [List.getD, hz]
  simp only [rootAt, this, h1, h2, hd]
theorem rest_cast {root d n : Nat} (h : (20 * root + d) * d ≤ n) : ((n - (20 * root + d) * d : Nat) : Int) = (n : Int) - (20 * (root : Int) + d) * d := by
  rw [Int.ofNat_sub h]; simp
theorem rootAt_succI {ps : List Int} {k p : Nat} (hz : ps[k]? = some (p : Int)) {root rest : Nat} (h1 : (rootAt ps k).2.1 = root) (h2 : (rootAt ps k).2.2 = rest) {d : Nat} (hd : nextD root (100 * rest + p) 9 = d) (hle : (20 * root + d) * d ≤ 100 * rest + p) :
    (rootAt ps (k + 1)).1 = (rootAt ps k).1 ++ [100 * (rest : Int) + p, (d : Int), 100 * (rest : Int) + p - (20 * (root : Int) + d) * d] ∧
      ((rootAt ps (k + 1)).2.1 : Int) = 10 * (root : Int) + d ∧ ((rootAt ps (k + 1)).2.2 : Int) = 100 * (rest : Int) + p - (20 * (root : Int) + d) * d := by
  rw [rootAt_succ hz h1 h2 hd]
  have e := rest_cast hle
  simp only [Int.natCast_add, Int.natCast_mul, Int.cast_ofNat_Int] at e
  refine ⟨?_, by simp, ?_⟩
  · simp only [e]; simp
  · exact e
theorem digs100_8 {n : Nat} (h : n < 10000000000000000) : (digs 100 n).length ≤ 8 := digs_len (by omega) 8 n (by omega)
theorem isq_at (n : Nat) : isq n = (rootAt (digs 100 n) (digs 100 n).length).2.1 := by
  obtain ⟨h1, h2⟩ := rootAt_inv (ps := digs 100 n) (fun _ _ h => pairs_get h) _ (Nat.le_refl _)
  rw [valTo_digs (by omega)] at h1 h2
  exact isq_is ⟨by omega, h2⟩
theorem prod_cast (root d : Nat) : (20 * (root : Int) + d) * d = (((20 * root + d) * d : Nat) : Int) := by simp

set_option maxHeartbeats 4000000 in
theorem rootSteps_any (n : Nat) (hn : n < 10000000000000000) (w : World) :
    Calls Try.prog 64 #[.int .i64 (n : Int)] w (GivesS 49 3 (rsteps n) w) := by
  have hdig := pairsOf_any n (by omega)
  have hget : ∀ (k : Nat) (z : Int), (digs 100 n)[k]? = some z → 0 ≤ z ∧ z ≤ 99 := fun k z h => pairs_get h
  have h8 := digs100_8 hn
  have hst : rsteps n = (rootAt (digs 100 n) (digs 100 n).length).1 := rfl
  generalize digs 100 n = ps at *
  have hsm : ∀ k, k ≤ ps.length → (rootAt ps k).2.1 ≤ 99999999 ∧ (rootAt ps k).2.2 ≤ 199999998 := fun k hk => rootAt_small hget h8 hk
  have HDIG := Lib.hid hdig
  have HGET := Lib.hid hget
  have HST := Lib.hid hst
  have HSM := Lib.hid hsm
  clear hdig hget hst hsm
  go_enter Try.func64, Try.ntmps64
  go_wp2_with fail
  refine (HDIG.out _).mono ?_
  rintro e w1 ⟨A, L, c, rfl, h1⟩
  have hl : ps.length = L := by simpa using h1.len
  have hL : L ≤ 8 := by omega
  have HL := Lib.hid hl
  clear hl h8
  go_wp2_with fail
  go_loopw [3, 4, 5, 13] (fun v r s i wr => ∃ (k m c : Nat) (A' : Option Addr), i = .int .i64 (k : Int) ∧ k ≤ L ∧ v = .slice A' m c ∧ r = .int .i64 ((rootAt ps k).2.1 : Int) ∧ s = .int .i64 ((rootAt ps k).2.2 : Int) ∧ Acc w1 wr 49 3 A' m c (rootAt ps k).1) (fun _ _ _ i _ => L - (intOf i).toNat)
  case atStart => exact ⟨0, _, _, _, rfl, by omega, rfl, rfl, rfl, Acc.nil (Below.refl _ _)⟩
  case round =>
    obtain ⟨k, m', c', A', rfl, hk, rfl, rfl, rfl, hacc⟩ := hrel
    obtain rfl : k = m' := by have h1 := hacc.len; have h2 := rootAt_len ps k; omega
    obtain ⟨s1, s2⟩ := HSM.out k (by have := HL.out; omega)
    by_cases hlt : k < L
    · obtain ⟨g, o, z, rfl, hz, hcell⟩ := (h1.reads.below hacc.ext).int hlt
      obtain ⟨z1, z2⟩ := HGET.out k z hz
      obtain ⟨p, rfl⟩ := Int.eq_ofNat_of_zero_le z1
      have HZ := Lib.hid hz
      clear hz
      generalize hr1 : (rootAt ps k).2.1 = root at *
      generalize hr2 : (rootAt ps k).2.2 = rest at *
      have HR1 := Lib.hid hr1
      have HR2 := Lib.hid hr2
      clear hr1 hr2
      go_wp2_with fail
      obtain ⟨wo, hwo⟩ : ∃ wo : World, wo = wr := ⟨_, rfl⟩
      rw [← hwo] at hacc hcell ⊢
      clear hwo
      go_loop [8] (fun x => ∃ d : Nat, x = .int .i64 (d : Int) ∧ d ≤ 9 ∧ nextD root (100 * rest + p) 9 = nextD root (100 * rest + p) d) (fun x => (intOf x).toNat)
      case atStart => exact ⟨9, rfl, by omega, rfl⟩
      case round =>
        obtain ⟨d, rfl, hd, hnd⟩ := hrel
        have HND := Lib.hid hnd
        have hpb := prod_bd (root := root) (d := d) (by omega) hd
        have hpc := prod_cast root d
        have HPC := Lib.hid hpc
        clear hnd hpc
        by_cases hgt : (20 * root + d) * d ≤ 100 * rest + p
        · have HT := Lib.hid (nextD_take hgt)
          have HG := Lib.hid hgt
          have f1 : 0 ≤ (20 * (root : Int) + d) * d := by rw [HPC.out]; omega
          have f2 : (20 * (root : Int) + d) * d ≤ 18000000081 := by rw [HPC.out]; omega
          have f3 : (20 * (root : Int) + d) * d ≤ 100 * rest + p := by rw [HPC.out]; omega
          clear hgt
          obtain ⟨e1, e2, e3⟩ := rootAt_succI HZ.out HR1.out HR2.out (HND.out.trans HT.out) HG.out
          have E1 := Lib.hid e1
          have E2 := Lib.hid e2
          have E3 := Lib.hid e3
          clear e1 e2 e3
          go_wp2_with (at_builtin; refine app3 rfl _ _ rfl rfl (hacc.alloc _) rfl (reads_new _ _ _ 3 [100 * (rest : Int) + p, (d : Int), 100 * (rest : Int) + p - (20 * (root : Int) + d) * d] rfl rfl) (by omega) ?_; intro A2 c2 w2 hacc2 _)
          go_roundw
          case rel => exact ⟨k + 1, _, _, _, by go_num, by omega, rfl, by rw [E2.out], by rw [E3.out], by rw [E1.out]; exact hacc2⟩
          case measure => simp [intOf]; omega
        · obtain ⟨d', rfl⟩ : ∃ d', d = d' + 1 := ⟨d - 1, by
            rcases Nat.eq_zero_or_pos d with h0 | h0
            · subst h0; simp at hgt
            · omega⟩
          have HT := Lib.hid (nextD_down hgt)
          have f1 : 0 ≤ (20 * (root : Int) + (d' + 1 : Nat)) * (d' + 1 : Nat) := by rw [HPC.out]; omega
          have f2 : (20 * (root : Int) + (d' + 1 : Nat)) * (d' + 1 : Nat) ≤ 18000000081 := by rw [HPC.out]; omega
          have f3 : 100 * (rest : Int) + p < (20 * (root : Int) + (d' + 1 : Nat)) * (d' + 1 : Nat) := by rw [HPC.out]; omega
          generalize hdd : ((d' + 1 : Nat) : Int) = D at *
          have HDD := Lib.hid hdd
          have D1 : 1 ≤ D := by omega
          have D2 : D ≤ 9 := by omega
          clear hgt hdd hpb
          go_wp2_with fail
          go_round
          case rel => exact ⟨d', by rw [← HDD.out]; go_num, by omega, HND.out.trans HT.out⟩
          case measure => simp [intOf]; omega
    · have hk' : k = L := by omega
      subst hk'
      go_wp2_with fail
      go_ret
      exact ⟨A', k, c', rfl, by rw [HST.out, HL.out]; exact hacc.since h1.ext⟩
set_option maxHeartbeats 4000000 in
theorem l12Steps_any (n : Nat) (hn : n < 10000000000000000) (w : World) :
    Calls Try.prog 63 #[.int .i64 (n : Int)] w fun e w' => ∃ A n' c, e = .returned (.tuple #[.slice A n' c, .int .i64 (isq n : Int)]) ∧ Acc w w' 49 3 A n' c (rsteps n) := by
  have hdig := l12Pairs_any n (by omega)
  have hget : ∀ (k : Nat) (z : Int), (digs 100 n)[k]? = some z → 0 ≤ z ∧ z ≤ 99 := fun k z h => pairs_get h
  have h8 := digs100_8 hn
  have hst : rsteps n = (rootAt (digs 100 n) (digs 100 n).length).1 := rfl
  have hsq := isq_at n
  have HSQ := Lib.hid hsq
  clear hsq
  generalize digs 100 n = ps at *
  have hsm : ∀ k, k ≤ ps.length → (rootAt ps k).2.1 ≤ 99999999 ∧ (rootAt ps k).2.2 ≤ 199999998 := fun k hk => rootAt_small hget h8 hk
  have HDIG := Lib.hid hdig
  have HGET := Lib.hid hget
  have HST := Lib.hid hst
  have HSM := Lib.hid hsm
  clear hdig hget hst hsm
  go_enter Try.func63, Try.ntmps63
  go_wp2_with fail
  refine (HDIG.out _).mono ?_
  rintro e w1 ⟨A, L, c, rfl, h1⟩
  have hl : ps.length = L := by simpa using h1.len
  have hL : L ≤ 8 := by omega
  have HL := Lib.hid hl
  clear hl h8
  go_wp2_with fail
  go_loopw [5, 6, 7, 8] (fun v r s i wr => ∃ (k m c : Nat) (A' : Option Addr), i = .int .i64 (k : Int) ∧ k ≤ L ∧ v = .slice A' m c ∧ r = .int .i64 ((rootAt ps k).2.1 : Int) ∧ s = .int .i64 ((rootAt ps k).2.2 : Int) ∧ Acc w1 wr 49 3 A' m c (rootAt ps k).1) (fun _ _ _ i _ => L - (intOf i).toNat)
  case atStart => exact ⟨0, _, _, _, rfl, by omega, rfl, rfl, rfl, Acc.empty (Below.refl _ _)⟩
  case round =>
    obtain ⟨k, m', c', A', rfl, hk, rfl, rfl, rfl, hacc⟩ := hrel
    obtain rfl : k = m' := by have h1 := hacc.len; have h2 := rootAt_len ps k; omega
    obtain ⟨s1, s2⟩ := HSM.out k (by have := HL.out; omega)
    by_cases hlt : k < L
    · obtain ⟨g, o, z, rfl, hz, hcell⟩ := (h1.reads.below hacc.ext).int hlt
      obtain ⟨z1, z2⟩ := HGET.out k z hz
      obtain ⟨p, rfl⟩ := Int.eq_ofNat_of_zero_le z1
      have HZ := Lib.hid hz
      clear hz
      generalize hr1 : (rootAt ps k).2.1 = root at *
      generalize hr2 : (rootAt ps k).2.2 = rest at *
      have HR1 := Lib.hid hr1
      have HR2 := Lib.hid hr2
      clear hr1 hr2
      go_wp2_with fail
      obtain ⟨wo, hwo⟩ : ∃ wo : World, wo = wr := ⟨_, rfl⟩
      rw [← hwo] at hacc hcell ⊢
      clear hwo
      go_loop [10] (fun x => ∃ d : Nat, x = .int .i64 (d : Int) ∧ d ≤ 9 ∧ nextD root (100 * rest + p) 9 = nextD root (100 * rest + p) d) (fun x => (intOf x).toNat)
      case atStart => exact ⟨9, rfl, by omega, rfl⟩
      case round =>
        obtain ⟨d, rfl, hd, hnd⟩ := hrel
        have HND := Lib.hid hnd
        have hpb := prod_bd (root := root) (d := d) (by omega) hd
        have hpc := prod_cast root d
        have HPC := Lib.hid hpc
        clear hnd hpc
        by_cases hgt : (20 * root + d) * d ≤ 100 * rest + p
        · have HT := Lib.hid (nextD_take hgt)
          have HG := Lib.hid hgt
          have f1 : 0 ≤ (20 * (root : Int) + d) * d := by rw [HPC.out]; omega
          have f2 : (20 * (root : Int) + d) * d ≤ 18000000081 := by rw [HPC.out]; omega
          have f3 : (20 * (root : Int) + d) * d ≤ 100 * rest + p := by rw [HPC.out]; omega
          clear hgt
          obtain ⟨e1, e2, e3⟩ := rootAt_succI HZ.out HR1.out HR2.out (HND.out.trans HT.out) HG.out
          have E1 := Lib.hid e1
          have E2 := Lib.hid e2
          have E3 := Lib.hid e3
          clear e1 e2 e3
          go_wp2_with (at_builtin; refine app3 rfl _ _ rfl rfl (hacc.alloc _) rfl (reads_new _ _ _ 3 [100 * (rest : Int) + p, (d : Int), 100 * (rest : Int) + p - (20 * (root : Int) + d) * d] rfl rfl) (by omega) ?_; intro A2 c2 w2 hacc2 _)
          go_roundw
          case rel => exact ⟨k + 1, _, _, _, by go_num, by omega, rfl, by rw [E2.out], by rw [E3.out], by rw [E1.out]; exact hacc2⟩
          case measure => simp [intOf]; omega
        · obtain ⟨d', rfl⟩ : ∃ d', d = d' + 1 := ⟨d - 1, by
            rcases Nat.eq_zero_or_pos d with h0 | h0
            · subst h0; simp at hgt
            · omega⟩
          have HT := Lib.hid (nextD_down hgt)
          have f1 : 0 ≤ (20 * (root : Int) + (d' + 1 : Nat)) * (d' + 1 : Nat) := by rw [HPC.out]; omega
          have f2 : (20 * (root : Int) + (d' + 1 : Nat)) * (d' + 1 : Nat) ≤ 18000000081 := by rw [HPC.out]; omega
          have f3 : 100 * (rest : Int) + p < (20 * (root : Int) + (d' + 1 : Nat)) * (d' + 1 : Nat) := by rw [HPC.out]; omega
          generalize hdd : ((d' + 1 : Nat) : Int) = D at *
          have HDD := Lib.hid hdd
          have D1 : 1 ≤ D := by omega
          have D2 : D ≤ 9 := by omega
          clear hgt hdd hpb
          go_wp2_with fail
          go_round
          case rel => exact ⟨d', by rw [← HDD.out]; go_num, by omega, HND.out.trans HT.out⟩
          case measure => simp [intOf]; omega
    · have hk' : k = L := by omega
      subst hk'
      go_wp2_with fail
      go_ret2
      exact ⟨A', k, c', by rw [HSQ.out, HL.out]; rfl, by rw [HST.out, HL.out]; exact hacc.since h1.ext⟩
end Go.Proofs.Ytiephmkokkjbaaa
