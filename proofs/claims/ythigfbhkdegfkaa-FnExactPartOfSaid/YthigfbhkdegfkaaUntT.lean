/- The law's mark for a text; units marked. No condition. -/
import Derived.Test.YthigfbhkdegfkaaUntM
import Derived.Test.YthigfbhkdegfkaaNum
namespace Go.Proofs.Ythigfbhkdegfkaa
open Go.RowKit

theorem pow10_big {k : Nat} {n : Int} (h : (10 : Int) ^ k ≤ n) (hn : n ≤ 9999999999) : k ≤ 9 := by
  rcases Nat.lt_or_ge k 10 with h1 | h1
  · omega
  · have e : (10 : Int) ^ k = 10 ^ 10 * 10 ^ (k - 10) := by rw [← Int.pow_add]; congr 1; omega
    have p : (1 : Int) ≤ 10 ^ (k - 10) := Int.pow_pos (by omega)
    rw [e] at h
    have : (10 : Int) ^ 10 = 10000000000 := by decide
    rw [this] at h
    omega
set_option maxHeartbeats 2000000 in
theorem markText_any (n : Int) (w : World) (h0 : 1 ≤ n) (h1 : n ≤ 9999999999) :
    Calls Try.prog 48 #[.int .i64 n] w fun e w' => ∃ s : ByteArray, e = .returned (.string s) ∧ Below w.heap.size w w' := by
  go_enter Try.func48, Try.ntmps48
  go_wp2
  go_loopw [0, 3] (fun a t wr => ∃ (k : Int) (s : ByteArray), a = .int .i64 k ∧ 0 ≤ k ∧ k ≤ n ∧ t = .string s ∧ (k * 10 ^ s.size ≤ n ∧ s.size ≤ 10) ∧ Below w.heap.size w wr) (fun a _ _ => (intOf a).toNat)
  case atStart => exact ⟨n, ⟨#[]⟩, rfl, by omega, by omega, rfl, ⟨by show n * 10 ^ 0 ≤ n; omega, by show 0 ≤ 10; omega⟩, Below.refl _ _⟩
  case round =>
    obtain ⟨k, s, rfl, k0, k1, rfl, ⟨hp, hs10⟩, hb⟩ := hrel
    have HB := Lib.hid hb
    clear hb
    have m0 : 0 ≤ k % 10 := by omega
    have m1 : k % 10 ≤ 9 := by omega
    have hg := digB_size (k % 10)
    have kc : (convert 39 9 (.slice (some ⟨wr.heap.size, 0, none⟩) 1 1)).run Try.prog (wr.alloc (.cells #[.int .u8 (48 + k % 10)] 5)) = .ok (.string (digB (k % 10))) (wr.alloc (.cells #[.int .u8 (48 + k % 10)] 5)) :=
      run_convert_bytes_back (wr.alloc (.cells #[.int .u8 (48 + k % 10)] 5)) 39 9 5 ⟨wr.heap.size, 0, none⟩ 1 [digC (k % 10).toNat] Try.underlying39 Try.underlying5 Try.underlying9 (fun j hj => by
        obtain rfl : j = 0 := by simpa using hj
        rw [Addr.add_lit, Nat.add_zero, World.cell?_alloc_new]
        show some (Value.int .u8 (48 + k % 10)) = some (Value.int .u8 ((digC (k % 10).toNat).toNat : Int))
        rw [digC_nat m0 m1])
    by_cases hk : 0 < k
    · have hs9 : s.size ≤ 9 := by
        refine pow10_big (n := n) ?_ h1
        have p : (0 : Int) ≤ 10 ^ s.size := Int.le_of_lt (Int.pow_pos (by omega))
        have := Int.mul_le_mul_of_nonneg_right (show (1 : Int) ≤ k by omega) p
        omega
      have hnx : k / 10 * 10 ^ (s.size + 1) ≤ n := by
        have p : (0 : Int) ≤ 10 ^ s.size := Int.le_of_lt (Int.pow_pos (by omega))
        have h2 := Int.mul_le_mul_of_nonneg_right (show k / 10 * 10 ≤ k by omega) p
        have e : k / 10 * 10 ^ (s.size + 1) = k / 10 * 10 * 10 ^ s.size := by rw [Int.pow_succ, Int.mul_comm (10 ^ s.size) 10, Int.mul_assoc]
        omega
      have HP := Lib.hid hnx
      clear hp hnx
      generalize digB (k % 10) = g at kc hg
      have hsz : (g ++ s).size = s.size + 1 := by rw [ByteArray.size_append]; omega
      go_wp2
      go_roundw
      case rel => exact ⟨k / 10, g ++ s, by go_num, by omega, by omega, rfl, ⟨by rw [hsz]; exact HP.out, by omega⟩, ext_alloc HB.out _⟩
      case measure => simp [intOf]; omega
    · clear hp
      go_wp2
      go_ret
      exact ⟨⟨_, rfl⟩, HB.out⟩
set_option maxHeartbeats 4000000 in
theorem markUnitS_any (A : Option Addr) (n c base : Nat) (us : List Unt) (w : World) (h : w.ownsRow base 52 2 (.slice A n c) n (untF us)) (hn : n ≤ 1048576) :
    Calls Try.prog 13 #[.slice A n c, .int .i64 1] w fun e w' => e = .returned (.int .i64 (1 + (n * 2 : Nat))) ∧ (∃ vs, w'.ownsRow base 52 2 (.slice A n c) n vs) ∧ w.grownBy w' (Value.slice A n c).ownBlock := by
  have H := Lib.hid h
  clear h
  go_enter Try.func13, Try.ntmps13
  go_wp2
  go_loopw [1, 5] (fun t i wr => ∃ (j : Nat) (vs : List Value), i = .int .i64 j ∧ j ≤ n ∧ t = .int .i64 (1 + ((j * 2 : Nat) : Int)) ∧ wr.ownsRow base 52 2 (.slice A n c) n vs ∧ w.grownBy wr (Value.slice A n c).ownBlock) (fun _ i _ => n - (intOf i).toNat)
  case atStart => exact ⟨0, _, rfl, by omega, by simp, H.out, World.grownBy.refl _ _⟩
  case round =>
    obtain ⟨wq, rfl⟩ : ∃ wq : World, wq = wr := ⟨_, rfl⟩
    obtain ⟨j, vs, rfl, hj, rfl, hown, hg⟩ := hrel
    by_cases hlt : j < n
    · obtain ⟨g, cap, hv, _, hgl⟩ := hown.form (by omega)
      have hA : A = some ⟨g, 0, none⟩ := by injection hv
      subst hA
      clear hv
      have HO := Lib.hid hown
      have HG := Lib.hid hg
      have j0 : (0 : Int) ≤ j := by omega
      have j1 : (j : Int) < n := by omega
      have HM := Lib.hid (markText_any (1 + ((j * 2 : Nat) : Int)) wq (by omega) (by omega))
      clear hown hg
      go_wp2_with fail
      refine HM.out.mono ?_
      rintro e w2 ⟨s, rfl, hb2⟩
      have HO2 := Lib.hid (own_below HO.out hb2)
      have HG2 := Lib.hid (grownBy_trans HG.out (below_any hb2 _))
      have hl : vs.length = n * 2 := HO.out.1
      obtain ⟨z0, e0⟩ : ∃ z, vs[j * 2]? = some z := ⟨_, List.getElem?_eq_getElem (by omega)⟩
      obtain ⟨z1, e1⟩ : ∃ z, vs[j * 2 + 1]? = some z := ⟨_, List.getElem?_eq_getElem (by omega)⟩
      have hc0 := HO2.out.cellAt (j * 2) (by omega)
      rw [e0] at hc0
      have hc1 := HO2.out.cellAt (j * 2 + 1) (by omega)
      rw [e1] at hc1
      have hf0 := HO2.out.frozenAt (j * 2)
      have hf1 := HO2.out.frozenAt (j * 2 + 1)
      have s0 := HO2.out.stored (j * 2) (.string s)
      have s1 := s0.1.stored (j * 2 + 1) (.int .i64 (1 + ((j * 2 : Nat) : Int) + 1))
      have HS := Lib.hid s1.1
      have HG3 := Lib.hid (grownBy_trans HG2.out (grownBy_trans s0.2 s1.2))
      clear hb2 s0 s1 e0 e1 hl
      go_wp2_with fail
      go_roundw
      case rel => exact ⟨j + 1, _, by go_num, by omega, by go_num, by simpa using HS.out, by simpa using HG3.out⟩
      case measure => simp [intOf]; omega
    · have HO := Lib.hid hown
      have HG := Lib.hid hg
      clear hown hg
      have hj' : j = n := by omega
      subst hj'
      go_wp2
      go_ret
      exact ⟨rfl, ⟨_, HO.out⟩, HG.out⟩
end Go.Proofs.Ythigfbhkdegfkaa
