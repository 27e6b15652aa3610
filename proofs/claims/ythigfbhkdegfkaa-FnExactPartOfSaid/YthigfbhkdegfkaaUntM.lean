/- The laws' helpers on units and amounts: equal, marked, held. No condition. -/
import Derived.Test.YthigfbhkdegfkaaUntE
import Derived.StillTailTactics
namespace Go.Proofs.Ythigfbhkdegfkaa
open Go.RowKit

set_option maxHeartbeats 1000000 in
theorem eqUnit_same (x : Unt) (w : World) :
    Calls Try.prog 47 #[x.val, x.val] w fun e w' => e = .returned (.bool true) ∧ Below w.heap.size w w' := by
  obtain ⟨nm, sz⟩ := x
  have e1 : (nm.toList == nm.toList) = true := by simp
  have e2 : (sz != sz) = false := by simp
  go_enter Try.func47, Try.ntmps47
  go_wp2
  go_ret
  refine ⟨rfl, ?_⟩
  repeat (first | exact Below.refl _ _ | refine Below.alloc ?_ (by first | omega | (simp; done) | (simp; omega)) _)
set_option maxHeartbeats 2000000 in
theorem eqUnitS_same (A1 A2 : Option Addr) (n c1 c2 B1 B2 : Nat) (us : List Unt) (w : World) (h1 : Reads w B1 2 A1 n (untF us)) (h2 : Reads w B2 2 A2 n (untF us)) (hB1 : B1 ≤ w.heap.size) (hB2 : B2 ≤ w.heap.size) (hn : n ≤ 1048576) :
    Calls Try.prog 12 #[.slice A1 n c1, .slice A2 n c2] w fun e w' => e = .returned (.bool true) ∧ Below w.heap.size w w' := by
  have H1 := Lib.hid h1
  have H2 := Lib.hid h2
  clear h1 h2
  go_enter Try.func12, Try.ntmps12
  go_wp2
  go_loopw [5] (fun i wr => ∃ j : Nat, i = .int .i64 j ∧ j ≤ n ∧ Below w.heap.size w wr) (fun i _ => n - (intOf i).toNat)
  case atStart => exact ⟨0, rfl, by omega, Below.refl _ _⟩
  case round =>
    obtain ⟨wq, rfl⟩ : ∃ wq : World, wq = wr := ⟨_, rfl⟩
    obtain ⟨j, rfl, hj, hb⟩ := hrel
    have HB := Lib.hid hb
    have R1 := Lib.hid (H1.out.below (hb.mono hB1))
    have R2 := Lib.hid (H2.out.below (hb.mono hB2))
    clear hb
    by_cases hlt : j < n
    · have hj1 : (j : Int) < n := by omega
      have hj0 : (0 : Int) ≤ j := by omega
      obtain ⟨b, o, x, hA, hx, hc0, hc1⟩ := R1.out.unt hlt
      obtain ⟨b2, o2, y, hA2, hy, hd0, hd1⟩ := R2.out.unt hlt
      rw [hx] at hy
      injection hy with hy
      subst hA hA2 hy
      clear hx
      go_wp2
      go_still_tail 8, (by kernel_rfl)
      go_wp2_with (go_at_call 47; refine (eqUnit_same x _).mono ?_; rintro e w' ⟨rfl, hb'⟩)
      go_roundw
      case rel => exact ⟨j + 1, by go_num, by omega, ext_trans (ext_drew HB.out) hb'⟩
      case measure => simp [intOf]; omega
    · go_wp2
      go_ret
      exact ⟨rfl, HB.out⟩
set_option maxHeartbeats 1000000 in
theorem eqAmount_same (A1 A2 : Option Addr) (n c1 c2 B1 B2 : Nat) (zs : List Int) (w : World) (h1 : Reads w B1 1 A1 n (zs.map (Value.int .i64))) (h2 : Reads w B2 1 A2 n (zs.map (Value.int .i64))) (hB1 : B1 ≤ w.heap.size) (hB2 : B2 ≤ w.heap.size) (hn : n ≤ maxLen) :
    Calls Try.prog 11 #[.agg #[.slice A1 n c1], .agg #[.slice A2 n c2]] w fun e w' => e = .returned (.bool true) ∧ Below w.heap.size w w' := by
  have hb := ext_alloc (ext_alloc (Below.refl w.heap.size w) (.cells #[.slice A1 n c1] 28)) (.cells #[.slice A2 n c2] 28)
  have hq := eqIntS_any A1 A2 n n c1 c2 B1 B2 zs zs _ (h1.below (hb.mono hB1)) (h2.below (hb.mono hB2)) hn hn
  rw [eqB_self] at hq
  have HB := Lib.hid hb
  have HQ := Lib.hid hq
  clear h1 h2 hb hq
  go_enter Try.func11, Try.ntmps11
  go_wp2_with fail
  refine (HQ.out).mono ?_
  rintro e w' ⟨rfl, m, hw'⟩
  have HB' := Lib.hid (show Below w.heap.size w w' by rw [hw']; exact ext_drewN HB.out _)
  clear hw'
  go_wp2_with fail
  go_ret
  exact ⟨rfl, HB'.out⟩
set_option maxHeartbeats 2000000 in
theorem markAmount_any (A : Option Addr) (n c base : Nat) (zs : List Int) (k : Int) (w : World) (h : w.ownsRow base 3 1 (.slice A n c) n (zs.map (Value.int .i64))) (hn : n ≤ 1048577) (hk0 : 0 ≤ k) (hk : k ≤ 1152921504606846976) :
    Calls Try.prog 14 #[.agg #[.slice A n c], .int .i64 k] w fun e w' => e = .returned (.int .i64 (k + (n : Int))) ∧ w'.ownsRow base 3 1 (.slice A n c) n ((marks k n).map (Value.int .i64)) ∧ w.grownBy w' (Value.slice A n c).ownBlock := by
  have hb := ext_alloc (Below.refl w.heap.size w) (.cells #[.slice A n c] 28)
  have HB := Lib.hid hb
  have HM := Lib.hid (markIntS_any A n c base zs k _ (h.alloc (.cells #[.slice A n c] 28)) (by omega) (by omega) (by omega))
  clear hb h
  go_enter Try.func14, Try.ntmps14
  go_wp2_with fail
  refine HM.out.mono ?_
  rintro e w2 ⟨rfl, ho, hg⟩
  have HO := Lib.hid ho
  have HG := Lib.hid (grownBy_trans (below_any HB.out _) hg)
  clear ho hg
  go_wp2_with fail
  go_ret
  exact ⟨rfl, HO.out, HG.out⟩
set_option maxHeartbeats 2000000 in
theorem heldAmount_any (A : Option Addr) (n c B : Nat) (k : Int) (w : World) (h : Reads w B 1 A n ((marks k n).map (Value.int .i64))) (hB : B ≤ w.heap.size) (hn : n ≤ 1048577) (hk0 : 0 ≤ k) (hk : k ≤ 1152921504606846976) :
    Calls Try.prog 15 #[.agg #[.slice A n c], .int .i64 k] w fun e w' => e = .returned (.int .i64 (k + (n : Int))) ∧ Below w.heap.size w w' := by
  have hb := ext_alloc (Below.refl w.heap.size w) (.cells #[.slice A n c] 28)
  have HB := Lib.hid hb
  have HM := Lib.hid (heldIntS_any A n c B k _ (h.below (hb.mono hB)) (by omega) (by omega) (by omega))
  have h0 : 0 ≤ k + (n : Int) := by omega
  clear hb h
  go_enter Try.func15, Try.ntmps15
  go_wp2_with fail
  refine HM.out.mono ?_
  rintro e w2 ⟨rfl, rfl⟩
  go_wp2_with fail
  go_ret
  exact ⟨rfl, HB.out⟩
end Go.Proofs.Ythigfbhkdegfkaa
