/- The law on debtors. No condition. -/
import Derived.Test.YtbjmpllnkkfgfaaDeb2
namespace Go.Proofs.Ytbjmpllnkkfgfaa
open Go.RowKit

set_option maxHeartbeats 4000000 in
theorem FnExactDebtors_any (A : Option Addr) (n c : Nat) (zs : List Int) (price : Int) (_ : (Lit.int .i64 price).wf = true) (w : World) (h : Reads w w.heap.size 5 A n (zs.map (Value.int .i64)) ∧ n ≤ maxLen) :
    Calls Try.prog 11 #[.slice A n c, .int .i64 price] w fun e w' => e = .returned (.bool true) ∧ Below w.heap.size w w' := by
  obtain ⟨h, hm⟩ := h
  obtain ⟨xs, rfl, hl⟩ := acctF_of n zs (by simpa using h.1)
  have H := Lib.hid h
  clear h
  by_cases hn : n ≤ 1048576
  · have hzl : (debtL price xs).length ≤ 1048576 := by have := debtL_len price xs; omega
    clear hl
    have hS := fun (A : Option Addr) (n c B : Nat) (w : World) h hB hn => sDebtors_any A n c B xs price w h hB hn
    have hI := fun (A : Option Addr) (n c B : Nat) (w : World) h hB hn => iDebtors_any A n c B xs price w h hB hn
    generalize debtL price xs = zs at hS hI hzl
    generalize debtOk price xs = ok at hS hI
    have HS := Lib.hid hS
    have HI := Lib.hid hI
    have he := eqB_self zs
    clear hS hI
    go_enter Try.func11, Try.ntmps11
    go_wp2_with fail
    refine (szAccountS_any A n c hm _).mono ?_
    rintro e w' ⟨rfl, rfl⟩
    rw [if_pos hn]
    go_wp2_with fail
    refine (toAccountS_any A n c _ xs _ H.out (Nat.le_refl _) hn).mono ?_
    rintro e w1 ⟨A1, n1, c1, rfl, a1⟩
    have z1 := a1.reads.acctLen
    have z0 := H.out.acctLen
    obtain rfl : n1 = n := by omega
    have R1 := Lib.hid (H.out.below a1.ext)
    have E1 := Lib.hid a1.ext
    go_wp2_with fail
    refine (HS.out A1 n1 c1 _ _ a1.reads (Nat.le_refl _) hn).mono ?_
    rintro e w2 ⟨A0, n0, c0, rfl, h0⟩
    have R2 := Lib.hid (R1.out.below (h0.ext.mono E1.out.size))
    have E2 := Lib.hid (ext_trans E1.out h0.ext)
    have H0 := Lib.hid h0.reads
    have L0 : n0 ≤ 1048576 := by have := h0.len; omega
    clear a1 z1 h0
    go_wp2_with fail
    refine (toAccountS_any A n1 c _ xs _ R2.out E2.out.size hn).mono ?_
    rintro e w3 ⟨A3, n3, c3, rfl, a3⟩
    have z3 := a3.reads.acctLen
    obtain rfl : n3 = n1 := by omega
    have R3 := Lib.hid (R2.out.below (a3.ext.mono E2.out.size))
    have E3 := Lib.hid (ext_trans E2.out a3.ext)
    have H3 := Lib.hid (H0.out.below a3.ext)
    have O3 := Lib.hid a3
    have S23 : w2.heap.size ≤ w3.heap.size := a3.ext.size
    clear a3 z3
    go_wp2_with fail
    refine (HI.out A3 n3 c3 _ _ O3.out.reads (Nat.le_refl _) hn).mono ?_
    rintro e w4 ⟨A4, n4, c4, rfl, h4⟩
    have R4 := Lib.hid (R3.out.below (h4.ext.mono E3.out.size))
    have E4 := Lib.hid (ext_trans E3.out h4.ext)
    have H4 := Lib.hid (H3.out.below (h4.ext.mono S23))
    have O4 := Lib.hid (O3.out.later h4.ext)
    have G4 := Lib.hid h4
    have L4 : n4 ≤ 1048576 := by have := h4.len; omega
    have S34 : w3.heap.size ≤ w4.heap.size := h4.ext.size
    clear h4
    go_wp2_with fail
    refine (eqIntS_any A4 A0 n4 n0 c4 c0 _ _ zs zs _ G4.out.reads H4.out (by unfold maxLen; omega) (by unfold maxLen; omega)).mono ?_
    rintro e w' ⟨rfl, m4, rfl⟩
    go_wp2_with fail
    refine (toAccountS_any A n3 c _ xs _ (R4.out.drewN m4) E4.out.size hn).mono ?_
    rintro e w5 ⟨A5, n5, c5, rfl, a5⟩
    have z5 := a5.reads.acctLen
    obtain rfl : n5 = n3 := by omega
    have B45 := Lib.hid (ext_trans (below_drewN (B := w4.heap.size) w4 m4) a5.ext)
    go_wp2_with fail
    refine (eqAccountS_any A3 A5 n5 n5 c3 c5 _ _ xs xs _ (O4.out.reads.below B45.out) a5.reads B45.out.size (Nat.le_refl _) (by unfold maxLen; omega) (by unfold maxLen; omega)).mono ?_
    rintro e w6 ⟨rfl, hb6⟩
    rw [decide_eq_true (rfl : xs = xs)]
    have B46 := Lib.hid (ext_trans B45.out hb6)
    have R6 := Lib.hid (R4.out.below (B46.out.mono E4.out.size))
    have E6 := Lib.hid (ext_trans E4.out B46.out)
    have H6 := Lib.hid (H4.out.below (B46.out.mono (Nat.le_trans S23 S34)))
    have O6 := Lib.hid (O4.out.later B46.out)
    have G6 := Lib.hid (G4.out.later B46.out)
    have S46 : w4.heap.size ≤ w6.heap.size := B46.out.size
    clear hb6 a5 z5
    go_wp2_with fail
    refine (markAccountS_any A3 n5 c3 _ _ 1 _ O6.out.own (by omega) (by omega) (by omega)).mono ?_
    rintro e w7 ⟨rfl, _, hg7⟩
    have hrow3 : ∀ g, (Value.slice A3 n5 c3).ownBlock = some g → w2.heap.size ≤ g ∧ g < w3.heap.size := fun g hg => O3.out.own.lt g hg
    have hne4 : (Value.slice A4 n4 c4).ownBlock = none ∨ (Value.slice A4 n4 c4).ownBlock ≠ (Value.slice A3 n5 c3).ownBlock := by
      cases hv : (Value.slice A4 n4 c4).ownBlock with
      | none => exact .inl rfl
      | some g => exact .inr (fun e => by have h1 := (G4.out.own.lt g hv).1; have h2 := (hrow3 g e.symm).2; omega)
    have S26 : w2.heap.size ≤ w6.heap.size := by omega
    have H7 := Lib.hid (H6.out.grown hg7 S26 (fun g hg => (hrow3 g hg).1))
    have G7 := Lib.hid (G6.out.own.kept hg7 hne4)
    have E7 := Lib.hid (ext_grown E6.out hg7 (fun g hg => Nat.le_trans E2.out.size (hrow3 g hg).1))
    have S67 : w6.heap.size ≤ w7.heap.size := hg7.size
    have hk1 : (0 : Int) ≤ 1 + ((n5 * 5 : Nat) : Int) := by omega
    clear hg7 hne4
    go_wp2_with fail
    refine (eqIntS_any A4 A0 n4 n0 c4 c0 _ _ zs zs _ (Reads.of_own G7.out) H7.out (by unfold maxLen; omega) (by unfold maxLen; omega)).mono ?_
    rintro e w' ⟨rfl, m7, rfl⟩
    go_wp2_with fail
    refine (markIntS_any A4 n4 c4 w3.heap.size zs 1 _ (ownsRow_drewN G7.out m7) (by omega) (by omega) (by omega)).mono ?_
    rintro e w8 ⟨rfl, hm8, hg8⟩
    have hrow4 : ∀ g, (Value.slice A4 n4 c4).ownBlock = some g → w3.heap.size ≤ g := fun g hg => (G4.out.own.lt g hg).1
    have H8 := Lib.hid ((H7.out.drewN m7).grown hg8 (Nat.le_trans S26 S67) (fun g hg => Nat.le_trans S23 (hrow4 g hg)))
    have E8 := Lib.hid (ext_grown (ext_drewN E7.out m7) hg8 (fun g hg => Nat.le_trans E3.out.size (hrow4 g hg)))
    have G8 := Lib.hid hm8
    have S78 : w7.heap.size ≤ w8.heap.size := hg8.size
    have R8 := Lib.hid (H.out.below E8.out)
    clear hm8 hg8
    go_wp2_with fail
    refine (heldIntS_any A4 n4 c4 _ 1 _ (Reads.of_own G8.out) (by omega) (by omega) (by omega)).mono ?_
    rintro e w' ⟨rfl, rfl⟩
    go_wp2_with fail
    refine (toAccountS_any A n5 c _ xs _ R8.out E8.out.size hn).mono ?_
    rintro e w9 ⟨A9, n9, c9, rfl, a9⟩
    have z9 := a9.reads.acctLen
    obtain rfl : n9 = n5 := by omega
    have B89 := Lib.hid a9.ext
    go_wp2_with fail
    refine (HI.out A9 n9 c9 _ _ a9.reads (Nat.le_refl _) hn).mono ?_
    rintro e w10 ⟨A10, n10, c10, rfl, h10⟩
    have B8 := Lib.hid (ext_trans B89.out h10.ext)
    have H10 := Lib.hid (H8.out.below (B8.out.mono (by omega)))
    have G10 := Lib.hid (own_below G8.out B8.out)
    have E10 := Lib.hid (ext_trans E8.out B8.out)
    have L10 : n10 ≤ 1048576 := by have := h10.len; omega
    go_wp2_with fail
    refine (eqIntS_any A10 A0 n10 n0 c10 c0 _ _ zs zs _ h10.reads H10.out (by unfold maxLen; omega) (by unfold maxLen; omega)).mono ?_
    rintro e w' ⟨rfl, m10, rfl⟩
    go_wp2_with fail
    refine (heldIntS_any A4 n4 c4 _ 1 _ ((Reads.of_own G10.out).drewN m10) (by omega) (by omega) (by omega)).mono ?_
    rintro e w' ⟨rfl, rfl⟩
    go_wp2_with fail
    go_ret
    exact ⟨rfl, ext_drewN E10.out m10⟩
  · go_enter Try.func11, Try.ntmps11
    go_wp2_with fail
    refine (szAccountS_any A n c hm _).mono ?_
    rintro e w' ⟨rfl, rfl⟩
    rw [if_neg hn]
    go_wp2_with fail
    go_ret
    exact ⟨rfl, Below.refl _ _⟩
end Go.Proofs.Ytbjmpllnkkfgfaa
