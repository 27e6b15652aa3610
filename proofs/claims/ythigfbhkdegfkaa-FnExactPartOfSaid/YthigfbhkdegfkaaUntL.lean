/- The laws' helpers on units and amounts: sizes, copies. No condition. -/
import Derived.Test.YthigfbhkdegfkaaPof
namespace Go.Proofs.Ythigfbhkdegfkaa
open Go.RowKit

set_option maxHeartbeats 1000000 in
theorem szUnit_any (x : Unt) (hx : x.nm.size ≤ maxLen) (L : Int) (h0 : 0 ≤ L) (h1 : L ≤ 1048576) (w : World) :
    Calls Try.prog 35 #[x.val, .int .i64 L] w fun e w' => e = .returned (.int .i64 (if (x.nm.size : Int) ≤ L then L - (x.nm.size : Int) else -1)) ∧ Below w.heap.size w w' := by
  unfold maxLen at hx
  obtain ⟨nm, sz⟩ := x
  simp only at hx ⊢
  by_cases h : (nm.size : Int) ≤ L
  · rw [if_pos h]
    go_enter Try.func35, Try.ntmps35
    go_wp2_with fail
    go_ret
    exact ⟨rfl, ext_alloc (Below.refl _ _) _⟩
  · rw [if_neg h]
    go_enter Try.func35, Try.ntmps35
    go_wp2_with fail
    go_ret
    exact ⟨rfl, ext_alloc (Below.refl _ _) _⟩
set_option maxHeartbeats 2000000 in
theorem szUnitS_any (A : Option Addr) (n c B : Nat) (us : List Unt) (w : World) (h : Reads w B 2 A n (untF us)) (hB : B ≤ w.heap.size) (hn : n ≤ maxLen) (hnm : ∀ x ∈ us, x.nm.size ≤ maxLen) :
    Calls Try.prog 5 #[.slice A n c, .int .i64 1048576] w fun e w' => ∃ r : Int, e = .returned (.int .i64 r) ∧ (0 ≤ r → r ≤ 1048576 ∧ n ≤ 1048576 ∧ ∀ x ∈ us, x.nm.size ≤ 1048576) ∧ -1 ≤ r ∧ Below w.heap.size w w' := by
  have hl := h.untLen
  have H := Lib.hid h
  have HL := Lib.hid hl
  have HNM := Lib.hid hnm
  unfold maxLen at hn
  clear h hl hnm
  by_cases hbig : n ≤ 1048576
  · go_enter Try.func5, Try.ntmps5
    go_wp2_with fail
    go_loopw [1, 5] (fun q i wr => ∃ (j : Nat) (r : Int), i = .int .i64 (j : Int) ∧ j ≤ n ∧ q = .int .i64 r ∧ (0 ≤ r ∧ r ≤ 1048576) ∧ (∀ i x, i < j → us[i]? = some x → x.nm.size ≤ 1048576) ∧ Below w.heap.size w wr) (fun _ i _ => n - (intOf i).toNat)
    case atStart => exact ⟨0, 1048576 - (n : Int), rfl, by omega, rfl, by omega, fun i x hi => by omega, Below.refl _ _⟩
    case round =>
      obtain ⟨wq, rfl⟩ : ∃ wq : World, wq = wr := ⟨_, rfl⟩
      obtain ⟨j, r, rfl, hj, rfl, ⟨r0, r1⟩, hall, hb⟩ := hrel
      have HA := Lib.hid hall
      have HB := Lib.hid hb
      have RQ := Lib.hid (H.out.below (hb.mono hB))
      have j0 : (0 : Int) ≤ j := by omega
      clear hall hb
      by_cases hlt : j < n
      · have j1 : (j : Int) < n := by omega
        obtain ⟨b, o, x, hAx, hx, hc0, hc1⟩ := RQ.out.unt hlt
        subst hAx
        have HX := Lib.hid hx
        have HS := Lib.hid (szUnit_any x (HNM.out x (List.mem_of_getElem? hx)) r r0 r1)
        clear hx
        by_cases hle : (x.nm.size : Int) ≤ r
        · rw [if_pos hle] at HS
          have q0 : 0 ≤ r - (x.nm.size : Int) := by omega
          have q1 : r - (x.nm.size : Int) ≤ 1048576 := by omega
          go_wp2_with fail
          refine (HS.out _).mono ?_
          rintro e w2 ⟨rfl, hb2⟩
          have HB2 := Lib.hid (ext_trans HB.out hb2)
          have hxs : x.nm.size ≤ 1048576 := by omega
          generalize r - (x.nm.size : Int) = r2 at q0 q1 ⊢
          clear hb2
          go_wp2_with fail
          go_roundw
          case rel => exact ⟨j + 1, r2, by go_num, by omega, rfl, ⟨q0, q1⟩, fun i y hi hy => by
            rcases Nat.lt_or_ge i j with h | h
            · exact HA.out i y h hy
            · obtain rfl : i = j := by omega
              rw [HX.out] at hy; injection hy with hy; subst hy; exact hxs, HB2.out⟩
          case measure => simp [intOf]; omega
        · rw [if_neg hle] at HS
          go_wp2_with fail
          refine (HS.out _).mono ?_
          rintro e w2 ⟨rfl, hb2⟩
          have HB2 := Lib.hid (ext_trans HB.out hb2)
          clear hb2
          go_wp2_with fail
          go_ret
          exact ⟨-1, rfl, fun h => by omega, by omega, HB2.out⟩
      · have HE := Lib.hid (show ∀ x ∈ us, x.nm.size ≤ 1048576 from fun x hx => by
          obtain ⟨i, hi⟩ := List.mem_iff_getElem?.1 hx
          exact HA.out i x (by have := (List.getElem?_eq_some_iff.1 hi).1; have := HL.out; omega) hi)
        go_wp2_with fail
        go_ret
        exact ⟨r, rfl, fun _ => ⟨r1, hbig, HE.out⟩, by omega, HB.out⟩
  · go_enter Try.func5, Try.ntmps5
    go_wp2_with fail
    go_ret
    exact ⟨-1, rfl, fun h => by omega, by omega, Below.refl _ _⟩
set_option maxHeartbeats 1000000 in
theorem szIntS_any (A : Option Addr) (n c : Nat) (hn : n ≤ maxLen) (L : Int) (h0 : 0 ≤ L) (h1 : L ≤ 1048576) (w : World) :
    Calls Try.prog 36 #[.slice A n c, .int .i64 L] w fun e w' => e = .returned (.int .i64 (if (n : Int) ≤ L then L - (n : Int) else -1)) ∧ w = w' := by
  unfold maxLen at hn
  by_cases h : (n : Int) ≤ L
  · rw [if_pos h]
    go_enter Try.func36, Try.ntmps36
    go_wp2_with fail
    go_ret
    exact ⟨rfl, rfl⟩
  · rw [if_neg h]
    go_enter Try.func36, Try.ntmps36
    go_wp2_with fail
    go_ret
    exact ⟨rfl, rfl⟩
set_option maxHeartbeats 1000000 in
theorem szAmount_any (A : Option Addr) (n c : Nat) (hn : n ≤ maxLen) (L : Int) (h0 : 0 ≤ L) (h1 : L ≤ 1048576) (w : World) :
    Calls Try.prog 6 #[.agg #[.slice A n c], .int .i64 L] w fun e w' => e = .returned (.int .i64 (if (n : Int) ≤ L then L - (n : Int) else -1)) ∧ Below w.heap.size w w' := by
  have HS := Lib.hid (szIntS_any A n c hn L h0 h1)
  by_cases h : (n : Int) ≤ L
  · rw [if_pos h] at HS ⊢
    go_enter Try.func6, Try.ntmps6
    go_wp2_with fail
    refine (HS.out _).mono ?_
    rintro e w' ⟨rfl, rfl⟩
    go_wp2_with fail
    go_ret
    exact ⟨rfl, ext_alloc (Below.refl _ _) _⟩
  · rw [if_neg h] at HS ⊢
    go_enter Try.func6, Try.ntmps6
    go_wp2_with fail
    refine (HS.out _).mono ?_
    rintro e w' ⟨rfl, rfl⟩
    go_wp2_with fail
    go_ret
    exact ⟨rfl, ext_alloc (Below.refl _ _) _⟩
end Go.Proofs.Ythigfbhkdegfkaa
