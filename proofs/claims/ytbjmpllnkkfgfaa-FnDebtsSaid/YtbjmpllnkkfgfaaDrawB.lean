/- The draw of a booking. No condition. -/
import Derived.Test.YtbjmpllnkkfgfaaDrawA
import Derived.Test.YtbjmpllnkkfgfaaAccs2
namespace Go.Proofs.Ytbjmpllnkkfgfaa
open Go.RowKit

set_option maxRecDepth 100000 in
set_option maxHeartbeats 4000000 in
theorem DrawBookLesson_any (A : Option Addr) (n c B : Nat) (w : World) (h : CodeOk w B A n) (hB : B ≤ w.heap.size) :
    Calls Try.prog 52 #[.slice A n c] w fun e w' => ∃ (A' : Option Addr) (n' c' : Nat) (xs : List Acct) (x0 x1 : Int), e = .returned (.tuple #[.slice A' n' c', .int .i64 x0, .int .i64 x1]) ∧ Drawn w w' 5 A' n' c' (acctF xs) ∧ n' ≤ 13 := by
  have H0 := Lib.hid (cur_new (c := c) h hB)
  clear h
  go_enter Try.func52, Try.ntmps52
  go_wp2_with fail
  refine (accountsD_any w.heap.size 0 (by omega) _ (by simp) H0.out).mono ?_
  rintro e w1 ⟨A', n', c', xs, rfl, ha, hn', hc, hg⟩
  have H1 := Lib.hid hc
  have HA1 := Lib.hid ha
  have G1 := Lib.hid hg
  clear ha hc hg
  by_cases hz : 0 < n'
  · have hz1 : (0 : Int) < n' := by omega
    have hz2 : decide ((0 : Int) < n') = true := by simp; omega
    go_wp2_with fail
    refine (one_any w.heap.size 400 (by omega) 3 (by omega) _ H1.out).mono ?_
    rintro e w2 ⟨b, rfl, hc, hg⟩
    have H2 := Lib.hid hc
    have HA2 := Lib.hid (HA1.out.kept hg)
    have G2 := Lib.hid (grownBy_trans G1.out hg)
    clear hc hg
    cases b
    · go_wp2_with fail
      refine (payerD_any w.heap.size 402 (by omega) _ n' c' xs _ HA2.out hn' H2.out).mono ?_
      rintro e w3 ⟨x0, rfl, hc, hg⟩
      have H3 := Lib.hid hc
      have HA3 := Lib.hid (HA2.out.kept hg)
      have G3 := Lib.hid (grownBy_trans G2.out hg)
      clear hc hg
      go_wp2_with fail
      have hl := lit_ints w3 3 #[.int .i64 (0), .int .i64 (9), .int .i64 (12), .int .i64 (1200), .int .i64 (-1), .int .i64 (1201)] 6 (by rfl) (by decide)
      have hlt := H3.out.lt
      refine (pick_any w.heap.size 406 (by omega) 24 (by omega) _ (H3.out.alloc _)).mono ?_
      rintro e w4 ⟨q, rfl, q0, q1, hc, hg⟩
      have HL := Lib.hid (fun j (hj : j < 6) => by
        obtain ⟨z, hz⟩ := hl j hj
        exact (⟨z, (World.cell?_of_block (hg.block w3.heap.size (by simp) (by intro e; injection e with e; omega))).trans hz⟩ : ∃ z, w4.cell? ⟨w3.heap.size, j, none⟩ = some (.int .i64 z)))
      have H4 := Lib.hid hc
      have HA4 := Lib.hid ((HA3.out.alloc _).kept hg)
      have G4 := Lib.hid (grownBy_trans G3.out (grownBy_alloc_trans hg))
      obtain ⟨Q, hQ⟩ : ∃ Q : Nat, q / 11 = (Q : Int) := ⟨(q / 11).toNat, by omega⟩
      have hQ2 : Q ≤ 2 := by omega
      clear hl hc hg
      go_wp2_with fail
      refine (amongB_any w.heap.size 408 (by omega) _ _ _ _ H4.out (by omega) (fun j hj => HL.out j (by omega)) (by omega) (by omega)).mono ?_
      rintro e w5 ⟨x1, rfl, hc, hg⟩
      have H5 := Lib.hid hc
      have HA5 := Lib.hid (HA4.out.kept hg)
      have G5 := Lib.hid (grownBy_trans G4.out hg)
      clear hc hg HL hlt hQ hQ2 q0 q1
      go_wp2_with fail
      go_ret3
      exact ⟨_, _, _, xs, x0, x1, rfl, drawn_of HA5.out G5.out, hn'⟩
    · go_wp2_with fail
      refine (pick_any w.heap.size 402 (by omega) (n' : Int) (by omega) _ H2.out).mono ?_
      rintro e w3 ⟨x, rfl, x0, x1, hc, hg⟩
      have HA3 := Lib.hid (HA2.out.kept hg)
      have G3 := Lib.hid (grownBy_trans G2.out hg)
      obtain ⟨X, rfl⟩ := Int.eq_ofNat_of_zero_le x0
      have hX : X < n' := by omega
      obtain ⟨b, o, x, hAx, hx, hc0, hc1, hc2, hc3, hc4⟩ := HA3.out.reads.acct hX
      subst hAx
      have X1 : (X : Int) < n' := by omega
      obtain ⟨y0, y1, y2, y3, y4⟩ := box_cells w3 25 x
      clear hc hg hx
      go_wp2_with fail
      go_quiet (fail)
      go_wp2_with fail
      go_ret3
      exact ⟨_, _, _, xs, _, _, rfl, drawn_of ((HA3.out.alloc _).kept (grownBy_drewN (World.grownBy.refl _ _) _)) (grownBy_drewN (grownBy_alloc_ G3.out _) _), hn'⟩
  · have hz1 : ¬ (0 : Int) < n' := by omega
    have hz2 : decide ((0 : Int) < n') = false := by simp; omega
    go_wp2_with fail
    refine (payerD_any w.heap.size 400 (by omega) _ n' c' xs _ HA1.out hn' H1.out).mono ?_
    rintro e w2 ⟨x0, rfl, hc, hg⟩
    have H2 := Lib.hid hc
    have HA2 := Lib.hid (HA1.out.kept hg)
    have G2 := Lib.hid (grownBy_trans G1.out hg)
    clear hc hg
    go_wp2_with fail
    have hl := lit_ints w2 3 #[.int .i64 (0), .int .i64 (9), .int .i64 (12), .int .i64 (1200), .int .i64 (-1), .int .i64 (1201)] 6 (by rfl) (by decide)
    have hlt := H2.out.lt
    refine (pick_any w.heap.size 404 (by omega) 24 (by omega) _ (H2.out.alloc _)).mono ?_
    rintro e w3 ⟨q, rfl, q0, q1, hc, hg⟩
    have HL := Lib.hid (fun j (hj : j < 6) => by
      obtain ⟨z, hz⟩ := hl j hj
      exact (⟨z, (World.cell?_of_block (hg.block w2.heap.size (by simp) (by intro e; injection e with e; omega))).trans hz⟩ : ∃ z, w3.cell? ⟨w2.heap.size, j, none⟩ = some (.int .i64 z)))
    have H3 := Lib.hid hc
    have HA3 := Lib.hid ((HA2.out.alloc _).kept hg)
    have G3 := Lib.hid (grownBy_trans G2.out (grownBy_alloc_trans hg))
    obtain ⟨Q, hQ⟩ : ∃ Q : Nat, q / 11 = (Q : Int) := ⟨(q / 11).toNat, by omega⟩
    have hQ2 : Q ≤ 2 := by omega
    clear hl hc hg
    go_wp2_with fail
    refine (amongB_any w.heap.size 406 (by omega) _ _ _ _ H3.out (by omega) (fun j hj => HL.out j (by omega)) (by omega) (by omega)).mono ?_
    rintro e w4 ⟨x1, rfl, hc, hg⟩
    have H4 := Lib.hid hc
    have HA4 := Lib.hid (HA3.out.kept hg)
    have G4 := Lib.hid (grownBy_trans G3.out hg)
    clear hc hg HL hlt hQ hQ2 q0 q1
    go_wp2_with fail
    go_ret3
    exact ⟨_, _, _, xs, x0, x1, rfl, drawn_of HA4.out G4.out, hn'⟩
end Go.Proofs.Ytbjmpllnkkfgfaa
