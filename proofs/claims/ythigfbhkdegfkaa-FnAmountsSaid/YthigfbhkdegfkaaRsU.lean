/- The law's own tests: too long a code, rows of numbers, amounts. No condition. -/
import Derived.Test.YthigfbhkdegfkaaCurL
import Derived.Test.YthigfbhkdegfkaaAmt
namespace Go.Proofs.Ythigfbhkdegfkaa
open Go.RowKit

def bigR (n : Nat) : Bool := decide ((65536 : Int) < n)
set_option maxHeartbeats 400000 in
theorem rBig_any (A : Option Addr) (n c : Nat) (w : World) :
    Calls Try.prog 16 #[.slice A n c] w fun e w' => e = .returned (.bool (bigR n)) ∧ w = w' := by
  go_enter Try.func16, Try.ntmps16
  go_wp2
  go_ret
  exact ⟨rfl, rfl⟩
set_option maxHeartbeats 1000000 in
theorem rInts_any (A1 A2 : Option Addr) (n1 n2 c1 c2 B1 B2 : Nat) (xs ys : List Int) (w : World) (h1 : Reads w B1 1 A1 n1 (xs.map (Value.int .i64))) (h2 : Reads w B2 1 A2 n2 (ys.map (Value.int .i64))) (hn1 : n1 ≤ maxLen) (hn2 : n2 ≤ maxLen) :
    Calls Try.prog 55 #[.slice A1 n1 c1, .slice A2 n2 c2] w fun e w' => e = .returned (.bool (eqB xs ys)) ∧ ∃ m, w' = w.drewN m := by
  unfold maxLen at hn1 hn2
  have l1 := h1.len
  have l2 := h2.len
  have H1 := Lib.hid h1
  have H2 := Lib.hid h2
  have L1 := Lib.hid l1
  have L2 := Lib.hid l2
  clear h1 h2 l1 l2
  by_cases hne : n1 = n2
  · subst hne
    go_enter Try.func55, Try.ntmps55
    go_wp2
    go_loopw [5] (fun i wr => ∃ k m : Nat, i = .int .i64 k ∧ k ≤ n1 ∧ xs.take k = ys.take k ∧ wr = w.drewN m) (fun i _ => n1 - (intOf i).toNat)
    case atStart => exact ⟨0, 0, rfl, by omega, rfl, rfl⟩
    case round =>
      obtain ⟨k, m, rfl, hk, hh, rfl⟩ := hrel
      have HH := Lib.hid hh
      clear hh
      by_cases hlt : k < n1
      · obtain ⟨b, o, x, rfl, hx, hcell⟩ := H1.out.int hlt
        obtain ⟨b', o', y, rfl, hy, hcell'⟩ := H2.out.int hlt
        have HX := Lib.hid hx
        have HY := Lib.hid hy
        clear hx hy
        have hlt' : (k : Int) < n1 := by omega
        have hk0 : (0 : Int) ≤ k := by omega
        cases he : (x == y)
        · go_wp2
          go_quiet (fail)
          go_wp2
          go_ret
          exact ⟨by rw [eq_miss HX.out HY.out he]; rfl, _, World.drewN_drewN _ _ _⟩
        · go_wp2
          go_quiet (fail)
          go_wp2
          go_roundw
          case rel => exact ⟨k + 1, _, by go_num, by omega, eq_step HX.out HY.out HH.out he, rfl⟩
          case measure => simp [intOf]; omega
      · go_wp2
        go_ret
        have hf : eqB xs ys = true := by
          have := HH.out
          rw [List.take_of_length_le (by have := L1.out; omega), List.take_of_length_le (by have := L2.out; omega)] at this
          rw [this]; exact eqB_self _
        exact ⟨by rw [hf]; rfl, _, rfl⟩
  · have hne' : ((n1 : Int) == (n2 : Int)) = false := by simp; omega
    go_enter Try.func55, Try.ntmps55
    go_wp2
    go_ret
    have hf : eqB xs ys = false := by
      unfold eqB
      rw [beq_eq_false_iff_ne]
      intro h
      have := L1.out
      have := L2.out
      rw [h] at *
      omega
    exact ⟨by rw [hf]; rfl, 0, rfl⟩
set_option maxHeartbeats 1000000 in
theorem rAmount_same (A1 A2 : Option Addr) (n c1 c2 B1 B2 : Nat) (zs : List Int) (w : World) (h1 : Reads w B1 1 A1 n (zs.map (Value.int .i64))) (h2 : Reads w B2 1 A2 n (zs.map (Value.int .i64))) (hB1 : B1 ≤ w.heap.size) (hB2 : B2 ≤ w.heap.size) (hn : n ≤ maxLen) :
    Calls Try.prog 20 #[.agg #[.slice A1 n c1], .agg #[.slice A2 n c2]] w fun e w' => e = .returned (.bool true) ∧ Below w.heap.size w w' := by
  have hb := ext_alloc (ext_alloc (Below.refl w.heap.size w) (.cells #[.slice A1 n c1] 28)) (.cells #[.slice A2 n c2] 28)
  have hq := rInts_any A1 A2 n n c1 c2 B1 B2 zs zs _ (h1.below (hb.mono hB1)) (h2.below (hb.mono hB2)) hn hn
  rw [eqB_self] at hq
  have HB := Lib.hid hb
  have HQ := Lib.hid hq
  clear h1 h2 hb hq
  go_enter Try.func20, Try.ntmps20
  go_wp2_with fail
  refine (HQ.out).mono ?_
  rintro e w' ⟨rfl, m, hw'⟩
  have HB' := Lib.hid (show Below w.heap.size w w' by rw [hw']; exact ext_drewN HB.out _)
  clear hw'
  go_wp2_with fail
  go_ret
  exact ⟨rfl, HB'.out⟩
end Go.Proofs.Ythigfbhkdegfkaa
