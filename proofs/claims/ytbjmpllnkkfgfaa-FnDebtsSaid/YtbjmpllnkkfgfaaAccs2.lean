/- Are these accounts? The program. No condition. -/
import Derived.Test.YtbjmpllnkkfgfaaAccs
namespace Go.Proofs.Ytbjmpllnkkfgfaa
open Go.RowKit

/-- The cells of a box made for an account. -/
theorem box_cells (w : World) (T : TypeId) (x : Acct) : (w.alloc (Obj.cells #[.int .i64 x.p, .int .i64 x.m, .int .i64 x.l, .int .i64 x.s, .int .i64 x.d] T)).cell? ⟨w.heap.size, 0, none⟩ = some (.int .i64 x.p) ∧ (w.alloc (Obj.cells #[.int .i64 x.p, .int .i64 x.m, .int .i64 x.l, .int .i64 x.s, .int .i64 x.d] T)).cell? ⟨w.heap.size, 1, none⟩ = some (.int .i64 x.m) ∧ (w.alloc (Obj.cells #[.int .i64 x.p, .int .i64 x.m, .int .i64 x.l, .int .i64 x.s, .int .i64 x.d] T)).cell? ⟨w.heap.size, 2, none⟩ = some (.int .i64 x.l) ∧ (w.alloc (Obj.cells #[.int .i64 x.p, .int .i64 x.m, .int .i64 x.l, .int .i64 x.s, .int .i64 x.d] T)).cell? ⟨w.heap.size, 3, none⟩ = some (.int .i64 x.s) ∧ (w.alloc (Obj.cells #[.int .i64 x.p, .int .i64 x.m, .int .i64 x.l, .int .i64 x.s, .int .i64 x.d] T)).cell? ⟨w.heap.size, 4, none⟩ = some (.int .i64 x.d) := by
  refine ⟨?_, ?_, ?_, ?_, ?_⟩ <;> go_simp

set_option maxHeartbeats 4000000 in
theorem iAreAccounts_any (A : Option Addr) (n c B : Nat) (xs : List Acct) (w : World) (h : Reads w B 5 A n ((acctF xs).map (Value.int .i64))) (hB : B ≤ w.heap.size) (hn : n ≤ 1048576) :
    Calls Try.prog 23 #[.slice A n c] w fun e w' => e = .returned (.bool (accsB xs)) ∧ Below w.heap.size w w' := by
  have hl := h.acctLen
  have H := Lib.hid h
  have HL := Lib.hid hl
  clear h hl
  by_cases h10 : n ≤ 10
  · go_enter Try.func23, Try.ntmps23
    go_wp2
    go_loopw [10] (fun i wr => ∃ j : Nat, i = .int .i64 j ∧ j ≤ n ∧ (∀ i, i < j → accAt xs i = true) ∧ Below w.heap.size w wr) (fun i _ => n - (intOf i).toNat)
    case atStart => exact ⟨0, rfl, by omega, fun i hi => by omega, Below.refl _ _⟩
    case round =>
      obtain ⟨j, rfl, hj, hh, hb⟩ := hrel
      by_cases hlt : j < n
      · have R := Lib.hid (H.out.below (hb.mono hB))
        have hj1 : (j : Int) < n := by omega
        have hj0 : (0 : Int) ≤ j := by omega
        have HH := Lib.hid hh
        have HB := Lib.hid hb
        clear hh hb
        obtain ⟨b, o, x, hAx, hx, hc0, hc1, hc2, hc3, hc4⟩ := R.out.acct hlt
        subst hAx
        have HX := Lib.hid hx
        clear hx
        cases hxo : x.ok
        · have hxo' : accB x.p x.m x.l x.s x.d = false := hxo
          go_wp2
          obtain ⟨W1, hW1⟩ : ∃ W1, W1 = wr.alloc (Obj.cells #[.int .i64 x.p, .int .i64 x.m, .int .i64 x.l, .int .i64 x.s, .int .i64 x.d] 25) := ⟨_, rfl⟩
          rw [← hW1]
          have hBW : Below wr.heap.size wr W1 := hW1 ▸ ext_alloc (Below.refl _ _) _
          have hbx := box_cells wr 25 x
          rw [← hW1] at hbx
          obtain ⟨hb0, hb1, hb2, hb3, hb4⟩ := hbx
          clear hW1
          have hself : Below wr.heap.size wr W1.drew := ext_drew hBW
          refine wp_region_held_drew (S := (fun w' => w'.cell? ⟨wr.heap.size, 0, none⟩ = some (.int .i64 x.p) ∧ w'.cell? ⟨wr.heap.size, 1, none⟩ = some (.int .i64 x.m) ∧ w'.cell? ⟨wr.heap.size, 2, none⟩ = some (.int .i64 x.l) ∧ w'.cell? ⟨wr.heap.size, 3, none⟩ = some (.int .i64 x.s) ∧ w'.cell? ⟨wr.heap.size, 4, none⟩ = some (.int .i64 x.d) ∧ Below wr.heap.size wr w')) (by kernel_rfl) ?_ (fun hHeld => ?_)
          · (try dsimp only); (first | (go_keep; done) | ((try go_split_ands); (repeat' apply And.intro); all_goals first | exact ext_drew (Below.refl _ _) | exact below_cell (by assumption) (by assumption) | (refine ext_trans ?_ (by assumption); assumption) | assumption))
          refine wpAnyH_takeD (i := 0) (v := ?_) 15 rfl rfl (by kernel_rfl) (by kernel_rfl) (by kernel_rfl) (fun _ _ _ _ _ h => h) (by rfl) (by assumption) ?_ ?_
          rotate_left; focus (intro w hSw; (try dsimp only at hSw); go_simp; try (with_reducible rfl))
          try simp only [Act.put, List.setIfInBounds_toArray, List.set_cons_zero, List.set_cons_succ]
          refine wpAnyH_ready (rs := [1]) (by kernel_rfl) (by simp) ?_
          refine AllReadyH.cons rfl (fun K hK => ?_) AllReadyH.nil
          go_simp; (go_at_call 17; refine (iIsAccount_v _ _ _ _ _ hxo' _).mono ?_; rintro e w' ⟨rfl, hb'⟩); (try dsimp only)
          refine hK.out _ _ ?_ (fun hHeld => ?_)
          focus ((try dsimp only); (first | (go_keep; done) | ((try go_split_ands); (repeat' apply And.intro); all_goals first | exact ext_drew (Below.refl _ _) | exact below_cell (by assumption) (by assumption) | (refine ext_trans ?_ (by assumption); assumption) | assumption)))
          clear hK K; try simp only [Act.put, List.setIfInBounds_toArray, List.set_cons_zero, List.set_cons_succ]
          refine wpAnyH_takeD (i := 2) (v := ?_) 17 rfl rfl (by kernel_rfl) (by kernel_rfl) (by kernel_rfl) (fun _ _ _ _ _ h => h) (by rfl) (by assumption) ?_ ?_
          rotate_left; focus (intro w hSw; (try dsimp only at hSw); go_simp; try (with_reducible rfl))
          try simp only [Act.put, List.setIfInBounds_toArray, List.set_cons_zero, List.set_cons_succ]
          refine wpAnyH_takeD (i := 3) (v := ?_) 18 rfl rfl (by kernel_rfl) (by kernel_rfl) (by kernel_rfl) (fun _ _ _ _ _ h => h) (by rfl) (by assumption) ?_ ?_
          rotate_left; focus (intro w hSw; (try dsimp only at hSw); go_simp; try (with_reducible rfl))
          try simp only [Act.put, List.setIfInBounds_toArray, List.set_cons_zero, List.set_cons_succ]
          refine wpAnyH_skipsTo (by kernel_rfl) (fun _ _ _ _ _ h => h) (by assumption) [4, 5, 6, 7, 8, 9, 10, 11, 12, 13, 14, 15] [19, 20, 21, 22, 23, 24, 25, 26, 27, 28, 29, 30] 1 (by kernel_rfl) (by kernel_rfl) ?_
          try simp only [skipAct_nil, skipAct_cons, Act.put, List.setIfInBounds_toArray, List.set_cons_zero, List.set_cons_succ]
          refine wpAnyH_takeD (i := 16) (v := ?_) 31 rfl rfl (by kernel_rfl) (by kernel_rfl) (by kernel_rfl) (fun _ _ _ _ _ h => h) (by rfl) (by assumption) ?_ ?_
          rotate_left; focus (intro w hSw; (try dsimp only at hSw); go_simp; try (with_reducible rfl))
          try simp only [Act.put, List.setIfInBounds_toArray, List.set_cons_zero, List.set_cons_succ]
          refine wpAnyH_done (by kernel_rfl) ?_ _
          have HBB := Lib.hid (ext_trans HB.out hHeld.2.2.2.2.2)
          clear hHeld hb'
          go_wp2
          go_ret
          exact ⟨by rw [show accsB xs = false from by unfold accsB; rw [accsGo_miss (by rw [HL.out]; exact hlt) (accAt_bad HX.out hxo)]; rfl]; rfl, HBB.out⟩
        · have hxo' : accB x.p x.m x.l x.s x.d = true := hxo
          rcases Nat.eq_zero_or_pos j with h0 | h0
          · have hjz4 : decide (0 < j) = false := by simp; omega
            have H0 := Lib.hid h0
            clear h0
            go_wp2
            obtain ⟨W1, hW1⟩ : ∃ W1, W1 = wr.alloc (Obj.cells #[.int .i64 x.p, .int .i64 x.m, .int .i64 x.l, .int .i64 x.s, .int .i64 x.d] 25) := ⟨_, rfl⟩
            rw [← hW1]
            have hBW : Below wr.heap.size wr W1 := hW1 ▸ ext_alloc (Below.refl _ _) _
            have hbx := box_cells wr 25 x
            rw [← hW1] at hbx
            obtain ⟨hb0, hb1, hb2, hb3, hb4⟩ := hbx
            clear hW1
            have hself : Below wr.heap.size wr W1.drew := ext_drew hBW
            refine wp_region_held_drew (S := (fun w' => w'.cell? ⟨wr.heap.size, 0, none⟩ = some (.int .i64 x.p) ∧ w'.cell? ⟨wr.heap.size, 1, none⟩ = some (.int .i64 x.m) ∧ w'.cell? ⟨wr.heap.size, 2, none⟩ = some (.int .i64 x.l) ∧ w'.cell? ⟨wr.heap.size, 3, none⟩ = some (.int .i64 x.s) ∧ w'.cell? ⟨wr.heap.size, 4, none⟩ = some (.int .i64 x.d) ∧ Below wr.heap.size wr w')) (by kernel_rfl) ?_ (fun hHeld => ?_)
            · (try dsimp only); (first | (go_keep; done) | ((try go_split_ands); (repeat' apply And.intro); all_goals first | exact ext_drew (Below.refl _ _) | exact below_cell (by assumption) (by assumption) | (refine ext_trans ?_ (by assumption); assumption) | assumption))
            refine wpAnyH_takeD (i := 0) (v := ?_) 15 rfl rfl (by kernel_rfl) (by kernel_rfl) (by kernel_rfl) (fun _ _ _ _ _ h => h) (by rfl) (by assumption) ?_ ?_
            rotate_left; focus (intro w hSw; (try dsimp only at hSw); go_simp; try (with_reducible rfl))
            try simp only [Act.put, List.setIfInBounds_toArray, List.set_cons_zero, List.set_cons_succ]
            refine wpAnyH_ready (rs := [1]) (by kernel_rfl) (by simp) ?_
            refine AllReadyH.cons rfl (fun K hK => ?_) AllReadyH.nil
            go_simp; (go_at_call 17; refine (iIsAccount_v _ _ _ _ _ hxo' _).mono ?_; rintro e w' ⟨rfl, hb'⟩); (try dsimp only)
            refine hK.out _ _ ?_ (fun hHeld => ?_)
            focus ((try dsimp only); (first | (go_keep; done) | ((try go_split_ands); (repeat' apply And.intro); all_goals first | exact ext_drew (Below.refl _ _) | exact below_cell (by assumption) (by assumption) | (refine ext_trans ?_ (by assumption); assumption) | assumption)))
            clear hK K; try simp only [Act.put, List.setIfInBounds_toArray, List.set_cons_zero, List.set_cons_succ]
            refine wpAnyH_takeD (i := 2) (v := ?_) 17 rfl rfl (by kernel_rfl) (by kernel_rfl) (by kernel_rfl) (fun _ _ _ _ _ h => h) (by rfl) (by assumption) ?_ ?_
            rotate_left; focus (intro w hSw; (try dsimp only at hSw); go_simp; try (with_reducible rfl))
            try simp only [Act.put, List.setIfInBounds_toArray, List.set_cons_zero, List.set_cons_succ]
            refine wpAnyH_takeD (i := 3) (v := ?_) 18 rfl rfl (by kernel_rfl) (by kernel_rfl) (by kernel_rfl) (fun _ _ _ _ _ h => h) (by rfl) (by assumption) ?_ ?_
            rotate_left; focus (intro w hSw; (try dsimp only at hSw); go_simp; try (with_reducible rfl))
            try simp only [Act.put, List.setIfInBounds_toArray, List.set_cons_zero, List.set_cons_succ]
            refine wpAnyH_takeD (i := 4) (v := ?_) 19 rfl rfl (by kernel_rfl) (by kernel_rfl) (by kernel_rfl) (fun _ _ _ _ _ h => h) (by rfl) (by assumption) ?_ ?_
            rotate_left; focus (intro w hSw; (try dsimp only at hSw); go_simp; try (with_reducible rfl))
            try simp only [Act.put, List.setIfInBounds_toArray, List.set_cons_zero, List.set_cons_succ]
            refine wpAnyH_takeD (i := 5) (v := ?_) 20 rfl rfl (by kernel_rfl) (by kernel_rfl) (by kernel_rfl) (fun _ _ _ _ _ h => h) (by rfl) (by assumption) ?_ ?_
            rotate_left; focus (intro w hSw; (try dsimp only at hSw); go_simp; try (with_reducible rfl))
            try simp only [Act.put, List.setIfInBounds_toArray, List.set_cons_zero, List.set_cons_succ]
            refine wpAnyH_takeD (i := 6) (v := ?_) 21 rfl rfl (by kernel_rfl) (by kernel_rfl) (by kernel_rfl) (fun _ _ _ _ _ h => h) (by rfl) (by assumption) ?_ ?_
            rotate_left; focus (intro w hSw; (try dsimp only at hSw); go_simp; try (with_reducible rfl))
            try simp only [Act.put, List.setIfInBounds_toArray, List.set_cons_zero, List.set_cons_succ]
            refine wpAnyH_skipsTo (by kernel_rfl) (fun _ _ _ _ _ h => h) (by assumption) [7, 8, 9, 10, 11, 12, 13, 14] [22, 23, 24, 25, 26, 27, 28, 29] 2 (by kernel_rfl) (by kernel_rfl) ?_
            try simp only [skipAct_nil, skipAct_cons, Act.put, List.setIfInBounds_toArray, List.set_cons_zero, List.set_cons_succ]
            refine wpAnyH_takeD (i := 15) (v := ?_) 30 rfl rfl (by kernel_rfl) (by kernel_rfl) (by kernel_rfl) (fun _ _ _ _ _ h => h) (by rfl) (by assumption) ?_ ?_
            rotate_left; focus (intro w hSw; (try dsimp only at hSw); go_simp; try (with_reducible rfl))
            try simp only [Act.put, List.setIfInBounds_toArray, List.set_cons_zero, List.set_cons_succ]
            refine wpAnyH_takeD (i := 16) (v := ?_) 31 rfl rfl (by kernel_rfl) (by kernel_rfl) (by kernel_rfl) (fun _ _ _ _ _ h => h) (by rfl) (by assumption) ?_ ?_
            rotate_left; focus (intro w hSw; (try dsimp only at hSw); go_simp; try (with_reducible rfl))
            try simp only [Act.put, List.setIfInBounds_toArray, List.set_cons_zero, List.set_cons_succ]
            refine wpAnyH_done (by kernel_rfl) ?_ _
            have HBB := Lib.hid (ext_trans HB.out hHeld.2.2.2.2.2)
            clear hHeld hb'
            go_wp2
            go_roundw
            case rel =>
              refine ⟨j + 1, by go_num, by omega, fun i hi => ?_, HBB.out⟩
              rcases Nat.lt_or_ge i j with h | h
              · exact HH.out i h
              · have h00 := H0.out
                have : i = 0 := by omega
                subst this
                have : j = 0 := H0.out
                subst this
                rw [accAt_zero HX.out]; exact hxo
            case measure => simp [intOf]; omega
          · obtain ⟨k, hk⟩ : ∃ k, j = k + 1 := ⟨j - 1, by omega⟩
            have hkn : k < n := by omega
            have hjz3 : decide ((0 : Int) < (j : Int)) = true := by simp; omega
            have hk0 : (0 : Int) ≤ k := by omega
            have hk1 : (k : Int) < n := by omega
            have hkw2 : IntKind.i64.wrap (k : Int) = (k : Int) := IntWalk.i64_in _ ⟨by omega, by omega⟩
            have hkw' : (j : Int) - 1 = (k : Int) := by omega
            obtain ⟨b2, o2, y, hAy, hy, hd0, hd1, hd2, hd3, hd4⟩ := R.out.acct hkn
            injection hAy with hAy
            injection hAy with e1 e2
            subst e1 e2
            have HY := Lib.hid hy
            clear hy
            have HK := Lib.hid hk
            clear hk
            cases hbf : befB y.p y.m x.p x.m
            · go_wp2
              obtain ⟨W1, hW1⟩ : ∃ W1, W1 = wr.alloc (Obj.cells #[.int .i64 x.p, .int .i64 x.m, .int .i64 x.l, .int .i64 x.s, .int .i64 x.d] 25) := ⟨_, rfl⟩
              rw [← hW1]
              have hBW : Below wr.heap.size wr W1 := hW1 ▸ ext_alloc (Below.refl _ _) _
              have hbx := box_cells wr 25 x
              rw [← hW1] at hbx
              obtain ⟨hb0, hb1, hb2, hb3, hb4⟩ := hbx
              clear hW1
              have hself : Below wr.heap.size wr W1.drew := ext_drew hBW
              have hd0 := below_cell hBW hd0
              have hd1 := below_cell hBW hd1
              have hd2 := below_cell hBW hd2
              have hd3 := below_cell hBW hd3
              have hd4 := below_cell hBW hd4
              refine wp_region_held_drew (S := (fun w' => w'.cell? ⟨wr.heap.size, 0, none⟩ = some (.int .i64 x.p) ∧ w'.cell? ⟨wr.heap.size, 1, none⟩ = some (.int .i64 x.m) ∧ w'.cell? ⟨wr.heap.size, 2, none⟩ = some (.int .i64 x.l) ∧ w'.cell? ⟨wr.heap.size, 3, none⟩ = some (.int .i64 x.s) ∧ w'.cell? ⟨wr.heap.size, 4, none⟩ = some (.int .i64 x.d) ∧ w'.cell? ⟨b, o + k * 5, none⟩ = some (.int .i64 y.p) ∧ w'.cell? ⟨b, o + k * 5 + 1, none⟩ = some (.int .i64 y.m) ∧ w'.cell? ⟨b, o + k * 5 + 2, none⟩ = some (.int .i64 y.l) ∧ w'.cell? ⟨b, o + k * 5 + 3, none⟩ = some (.int .i64 y.s) ∧ w'.cell? ⟨b, o + k * 5 + 4, none⟩ = some (.int .i64 y.d) ∧ Below wr.heap.size wr w')) (by kernel_rfl) ?_ (fun hHeld => ?_)
              · (try dsimp only); (first | (go_keep; done) | ((try go_split_ands); (repeat' apply And.intro); all_goals first | exact ext_drew (Below.refl _ _) | exact below_cell (by assumption) (by assumption) | (refine ext_trans ?_ (by assumption); assumption) | assumption))
              refine wpAnyH_takeD (i := 0) (v := ?_) 15 rfl rfl (by kernel_rfl) (by kernel_rfl) (by kernel_rfl) (fun _ _ _ _ _ h => h) (by rfl) (by assumption) ?_ ?_
              rotate_left; focus (intro w hSw; (try dsimp only at hSw); go_simp; try (with_reducible rfl))
              try simp only [Act.put, List.setIfInBounds_toArray, List.set_cons_zero, List.set_cons_succ]
              refine wpAnyH_ready (rs := [1]) (by kernel_rfl) (by simp) ?_
              refine AllReadyH.cons rfl (fun K hK => ?_) AllReadyH.nil
              go_simp; (go_at_call 17; refine (iIsAccount_v _ _ _ _ _ hxo' _).mono ?_; rintro e w' ⟨rfl, hb'⟩); (try dsimp only)
              refine hK.out _ _ ?_ (fun hHeld => ?_)
              focus ((try dsimp only); (first | (go_keep; done) | ((try go_split_ands); (repeat' apply And.intro); all_goals first | exact ext_drew (Below.refl _ _) | exact below_cell (by assumption) (by assumption) | (refine ext_trans ?_ (by assumption); assumption) | assumption)))
              clear hK K; try simp only [Act.put, List.setIfInBounds_toArray, List.set_cons_zero, List.set_cons_succ]
              refine wpAnyH_takeD (i := 2) (v := ?_) 17 rfl rfl (by kernel_rfl) (by kernel_rfl) (by kernel_rfl) (fun _ _ _ _ _ h => h) (by rfl) (by assumption) ?_ ?_
              rotate_left; focus (intro w hSw; (try dsimp only at hSw); go_simp; try (with_reducible rfl))
              try simp only [Act.put, List.setIfInBounds_toArray, List.set_cons_zero, List.set_cons_succ]
              refine wpAnyH_takeD (i := 3) (v := ?_) 18 rfl rfl (by kernel_rfl) (by kernel_rfl) (by kernel_rfl) (fun _ _ _ _ _ h => h) (by rfl) (by assumption) ?_ ?_
              rotate_left; focus (intro w hSw; (try dsimp only at hSw); go_simp; try (with_reducible rfl))
              try simp only [Act.put, List.setIfInBounds_toArray, List.set_cons_zero, List.set_cons_succ]
              refine wpAnyH_takeD (i := 4) (v := ?_) 19 rfl rfl (by kernel_rfl) (by kernel_rfl) (by kernel_rfl) (fun _ _ _ _ _ h => h) (by rfl) (by assumption) ?_ ?_
              rotate_left; focus (intro w hSw; (try dsimp only at hSw); go_simp; try (with_reducible rfl))
              try simp only [Act.put, List.setIfInBounds_toArray, List.set_cons_zero, List.set_cons_succ]
              refine wpAnyH_takeD (i := 5) (v := ?_) 20 rfl rfl (by kernel_rfl) (by kernel_rfl) (by kernel_rfl) (fun _ _ _ _ _ h => h) (by rfl) (by assumption) ?_ ?_
              rotate_left; focus (intro w hSw; (try dsimp only at hSw); go_simp; try (with_reducible rfl))
              try simp only [Act.put, List.setIfInBounds_toArray, List.set_cons_zero, List.set_cons_succ]
              refine wpAnyH_takeD (i := 6) (v := ?_) 21 rfl rfl (by kernel_rfl) (by kernel_rfl) (by kernel_rfl) (fun _ _ _ _ _ h => h) (by rfl) (by assumption) ?_ ?_
              rotate_left; focus (intro w hSw; (try dsimp only at hSw); go_simp; try (with_reducible rfl))
              try simp only [Act.put, List.setIfInBounds_toArray, List.set_cons_zero, List.set_cons_succ]
              refine wpAnyH_takeD (i := 7) (v := ?_) 22 rfl rfl (by kernel_rfl) (by kernel_rfl) (by kernel_rfl) (fun _ _ _ _ _ h => h) (by rfl) (by assumption) ?_ ?_
              rotate_left; focus (intro w hSw; (try dsimp only at hSw); go_simp; try (with_reducible rfl))
              try simp only [Act.put, List.setIfInBounds_toArray, List.set_cons_zero, List.set_cons_succ]
              refine wpAnyH_takeD (i := 8) (v := ?_) 23 rfl rfl (by kernel_rfl) (by kernel_rfl) (by kernel_rfl) (fun _ _ _ _ _ h => h) (by rfl) (by assumption) ?_ ?_
              rotate_left; focus (intro w hSw; (try dsimp only at hSw); go_simp; try (with_reducible rfl))
              try simp only [Act.put, List.setIfInBounds_toArray, List.set_cons_zero, List.set_cons_succ]
              refine wpAnyH_takeD (i := 9) (v := ?_) 24 rfl rfl (by kernel_rfl) (by kernel_rfl) (by kernel_rfl) (fun _ _ _ _ _ h => h) (by rfl) (by assumption) ?_ ?_
              rotate_left; focus (intro w hSw; (try dsimp only at hSw); go_simp; try (with_reducible rfl))
              try simp only [Act.put, List.setIfInBounds_toArray, List.set_cons_zero, List.set_cons_succ]
              refine wpAnyH_takeD (i := 10) (v := ?_) 25 rfl rfl (by kernel_rfl) (by kernel_rfl) (by kernel_rfl) (fun _ _ _ _ _ h => h) (by rfl) (by assumption) ?_ ?_
              rotate_left; focus (intro w hSw; (try dsimp only at hSw); go_simp; try (with_reducible rfl))
              try simp only [Act.put, List.setIfInBounds_toArray, List.set_cons_zero, List.set_cons_succ]
              refine wpAnyH_takeD (i := 11) (v := ?_) 26 rfl rfl (by kernel_rfl) (by kernel_rfl) (by kernel_rfl) (fun _ _ _ _ _ h => h) (by rfl) (by assumption) ?_ ?_
              rotate_left; focus (intro w hSw; (try dsimp only at hSw); go_simp; try (with_reducible rfl))
              try simp only [Act.put, List.setIfInBounds_toArray, List.set_cons_zero, List.set_cons_succ]
              refine wpAnyH_takeD (i := 12) (v := ?_) 27 rfl rfl (by kernel_rfl) (by kernel_rfl) (by kernel_rfl) (fun _ _ _ _ _ h => h) (by rfl) (by assumption) ?_ ?_
              rotate_left; focus (intro w hSw; (try dsimp only at hSw); go_simp; try (with_reducible rfl))
              try simp only [Act.put, List.setIfInBounds_toArray, List.set_cons_zero, List.set_cons_succ]
              refine wpAnyH_ready (rs := [13]) (by kernel_rfl) (by simp) ?_
              refine AllReadyH.cons rfl (fun K hK => ?_) AllReadyH.nil
              go_simp; (go_at_call 70; refine (accountBefore_v y x hbf _).mono ?_; rintro e w'' ⟨rfl, hb''⟩); (try dsimp only)
              refine hK.out _ _ ?_ (fun hHeld => ?_)
              focus ((try dsimp only); (first | (go_keep; done) | ((try go_split_ands); (repeat' apply And.intro); all_goals first | exact ext_drew (Below.refl _ _) | exact below_cell (by assumption) (by assumption) | (refine ext_trans ?_ (by assumption); assumption) | assumption)))
              clear hK K; try simp only [Act.put, List.setIfInBounds_toArray, List.set_cons_zero, List.set_cons_succ]
              refine wpAnyH_takeD (i := 14) (v := ?_) 29 rfl rfl (by kernel_rfl) (by kernel_rfl) (by kernel_rfl) (fun _ _ _ _ _ h => h) (by rfl) (by assumption) ?_ ?_
              rotate_left; focus (intro w hSw; (try dsimp only at hSw); go_simp; try (with_reducible rfl))
              try simp only [Act.put, List.setIfInBounds_toArray, List.set_cons_zero, List.set_cons_succ]
              refine wpAnyH_takeD (i := 15) (v := ?_) 30 rfl rfl (by kernel_rfl) (by kernel_rfl) (by kernel_rfl) (fun _ _ _ _ _ h => h) (by rfl) (by assumption) ?_ ?_
              rotate_left; focus (intro w hSw; (try dsimp only at hSw); go_simp; try (with_reducible rfl))
              try simp only [Act.put, List.setIfInBounds_toArray, List.set_cons_zero, List.set_cons_succ]
              refine wpAnyH_takeD (i := 16) (v := ?_) 31 rfl rfl (by kernel_rfl) (by kernel_rfl) (by kernel_rfl) (fun _ _ _ _ _ h => h) (by rfl) (by assumption) ?_ ?_
              rotate_left; focus (intro w hSw; (try dsimp only at hSw); go_simp; try (with_reducible rfl))
              try simp only [Act.put, List.setIfInBounds_toArray, List.set_cons_zero, List.set_cons_succ]
              refine wpAnyH_done (by kernel_rfl) ?_ _
              have HBB := Lib.hid (ext_trans HB.out hHeld.2.2.2.2.2.2.2.2.2.2)
              clear hHeld hb' hb''
              go_wp2
              go_ret
              refine ⟨?_, HBB.out⟩
              rw [show accsB xs = false from ?_]
              · rfl
              · unfold accsB
                have := HK.out
                rw [accsGo_miss (by rw [HL.out]; exact hlt) (by rw [accAt_at h0 HX.out (by rw [this]; exact HY.out), hbf, hxo]; rfl)]; rfl
            · go_wp2
              obtain ⟨W1, hW1⟩ : ∃ W1, W1 = wr.alloc (Obj.cells #[.int .i64 x.p, .int .i64 x.m, .int .i64 x.l, .int .i64 x.s, .int .i64 x.d] 25) := ⟨_, rfl⟩
              rw [← hW1]
              have hBW : Below wr.heap.size wr W1 := hW1 ▸ ext_alloc (Below.refl _ _) _
              have hbx := box_cells wr 25 x
              rw [← hW1] at hbx
              obtain ⟨hb0, hb1, hb2, hb3, hb4⟩ := hbx
              clear hW1
              have hself : Below wr.heap.size wr W1.drew := ext_drew hBW
              have hd0 := below_cell hBW hd0
              have hd1 := below_cell hBW hd1
              have hd2 := below_cell hBW hd2
              have hd3 := below_cell hBW hd3
              have hd4 := below_cell hBW hd4
              refine wp_region_held_drew (S := (fun w' => w'.cell? ⟨wr.heap.size, 0, none⟩ = some (.int .i64 x.p) ∧ w'.cell? ⟨wr.heap.size, 1, none⟩ = some (.int .i64 x.m) ∧ w'.cell? ⟨wr.heap.size, 2, none⟩ = some (.int .i64 x.l) ∧ w'.cell? ⟨wr.heap.size, 3, none⟩ = some (.int .i64 x.s) ∧ w'.cell? ⟨wr.heap.size, 4, none⟩ = some (.int .i64 x.d) ∧ w'.cell? ⟨b, o + k * 5, none⟩ = some (.int .i64 y.p) ∧ w'.cell? ⟨b, o + k * 5 + 1, none⟩ = some (.int .i64 y.m) ∧ w'.cell? ⟨b, o + k * 5 + 2, none⟩ = some (.int .i64 y.l) ∧ w'.cell? ⟨b, o + k * 5 + 3, none⟩ = some (.int .i64 y.s) ∧ w'.cell? ⟨b, o + k * 5 + 4, none⟩ = some (.int .i64 y.d) ∧ Below wr.heap.size wr w')) (by kernel_rfl) ?_ (fun hHeld => ?_)
              · (try dsimp only); (first | (go_keep; done) | ((try go_split_ands); (repeat' apply And.intro); all_goals first | exact ext_drew (Below.refl _ _) | exact below_cell (by assumption) (by assumption) | (refine ext_trans ?_ (by assumption); assumption) | assumption))
              refine wpAnyH_takeD (i := 0) (v := ?_) 15 rfl rfl (by kernel_rfl) (by kernel_rfl) (by kernel_rfl) (fun _ _ _ _ _ h => h) (by rfl) (by assumption) ?_ ?_
              rotate_left; focus (intro w hSw; (try dsimp only at hSw); go_simp; try (with_reducible rfl))
              try simp only [Act.put, List.setIfInBounds_toArray, List.set_cons_zero, List.set_cons_succ]
              refine wpAnyH_ready (rs := [1]) (by kernel_rfl) (by simp) ?_
              refine AllReadyH.cons rfl (fun K hK => ?_) AllReadyH.nil
              go_simp; (go_at_call 17; refine (iIsAccount_v _ _ _ _ _ hxo' _).mono ?_; rintro e w' ⟨rfl, hb'⟩); (try dsimp only)
              refine hK.out _ _ ?_ (fun hHeld => ?_)
              focus ((try dsimp only); (first | (go_keep; done) | ((try go_split_ands); (repeat' apply And.intro); all_goals first | exact ext_drew (Below.refl _ _) | exact below_cell (by assumption) (by assumption) | (refine ext_trans ?_ (by assumption); assumption) | assumption)))
              clear hK K; try simp only [Act.put, List.setIfInBounds_toArray, List.set_cons_zero, List.set_cons_succ]
              refine wpAnyH_takeD (i := 2) (v := ?_) 17 rfl rfl (by kernel_rfl) (by kernel_rfl) (by kernel_rfl) (fun _ _ _ _ _ h => h) (by rfl) (by assumption) ?_ ?_
              rotate_left; focus (intro w hSw; (try dsimp only at hSw); go_simp; try (with_reducible rfl))
              try simp only [Act.put, List.setIfInBounds_toArray, List.set_cons_zero, List.set_cons_succ]
              refine wpAnyH_takeD (i := 3) (v := ?_) 18 rfl rfl (by kernel_rfl) (by kernel_rfl) (by kernel_rfl) (fun _ _ _ _ _ h => h) (by rfl) (by assumption) ?_ ?_
              rotate_left; focus (intro w hSw; (try dsimp only at hSw); go_simp; try (with_reducible rfl))
              try simp only [Act.put, List.setIfInBounds_toArray, List.set_cons_zero, List.set_cons_succ]
              refine wpAnyH_takeD (i := 4) (v := ?_) 19 rfl rfl (by kernel_rfl) (by kernel_rfl) (by kernel_rfl) (fun _ _ _ _ _ h => h) (by rfl) (by assumption) ?_ ?_
              rotate_left; focus (intro w hSw; (try dsimp only at hSw); go_simp; try (with_reducible rfl))
              try simp only [Act.put, List.setIfInBounds_toArray, List.set_cons_zero, List.set_cons_succ]
              refine wpAnyH_takeD (i := 5) (v := ?_) 20 rfl rfl (by kernel_rfl) (by kernel_rfl) (by kernel_rfl) (fun _ _ _ _ _ h => h) (by rfl) (by assumption) ?_ ?_
              rotate_left; focus (intro w hSw; (try dsimp only at hSw); go_simp; try (with_reducible rfl))
              try simp only [Act.put, List.setIfInBounds_toArray, List.set_cons_zero, List.set_cons_succ]
              refine wpAnyH_takeD (i := 6) (v := ?_) 21 rfl rfl (by kernel_rfl) (by kernel_rfl) (by kernel_rfl) (fun _ _ _ _ _ h => h) (by rfl) (by assumption) ?_ ?_
              rotate_left; focus (intro w hSw; (try dsimp only at hSw); go_simp; try (with_reducible rfl))
              try simp only [Act.put, List.setIfInBounds_toArray, List.set_cons_zero, List.set_cons_succ]
              refine wpAnyH_takeD (i := 7) (v := ?_) 22 rfl rfl (by kernel_rfl) (by kernel_rfl) (by kernel_rfl) (fun _ _ _ _ _ h => h) (by rfl) (by assumption) ?_ ?_
              rotate_left; focus (intro w hSw; (try dsimp only at hSw); go_simp; try (with_reducible rfl))
              try simp only [Act.put, List.setIfInBounds_toArray, List.set_cons_zero, List.set_cons_succ]
              refine wpAnyH_takeD (i := 8) (v := ?_) 23 rfl rfl (by kernel_rfl) (by kernel_rfl) (by kernel_rfl) (fun _ _ _ _ _ h => h) (by rfl) (by assumption) ?_ ?_
              rotate_left; focus (intro w hSw; (try dsimp only at hSw); go_simp; try (with_reducible rfl))
              try simp only [Act.put, List.setIfInBounds_toArray, List.set_cons_zero, List.set_cons_succ]
              refine wpAnyH_takeD (i := 9) (v := ?_) 24 rfl rfl (by kernel_rfl) (by kernel_rfl) (by kernel_rfl) (fun _ _ _ _ _ h => h) (by rfl) (by assumption) ?_ ?_
              rotate_left; focus (intro w hSw; (try dsimp only at hSw); go_simp; try (with_reducible rfl))
              try simp only [Act.put, List.setIfInBounds_toArray, List.set_cons_zero, List.set_cons_succ]
              refine wpAnyH_takeD (i := 10) (v := ?_) 25 rfl rfl (by kernel_rfl) (by kernel_rfl) (by kernel_rfl) (fun _ _ _ _ _ h => h) (by rfl) (by assumption) ?_ ?_
              rotate_left; focus (intro w hSw; (try dsimp only at hSw); go_simp; try (with_reducible rfl))
              try simp only [Act.put, List.setIfInBounds_toArray, List.set_cons_zero, List.set_cons_succ]
              refine wpAnyH_takeD (i := 11) (v := ?_) 26 rfl rfl (by kernel_rfl) (by kernel_rfl) (by kernel_rfl) (fun _ _ _ _ _ h => h) (by rfl) (by assumption) ?_ ?_
              rotate_left; focus (intro w hSw; (try dsimp only at hSw); go_simp; try (with_reducible rfl))
              try simp only [Act.put, List.setIfInBounds_toArray, List.set_cons_zero, List.set_cons_succ]
              refine wpAnyH_takeD (i := 12) (v := ?_) 27 rfl rfl (by kernel_rfl) (by kernel_rfl) (by kernel_rfl) (fun _ _ _ _ _ h => h) (by rfl) (by assumption) ?_ ?_
              rotate_left; focus (intro w hSw; (try dsimp only at hSw); go_simp; try (with_reducible rfl))
              try simp only [Act.put, List.setIfInBounds_toArray, List.set_cons_zero, List.set_cons_succ]
              refine wpAnyH_ready (rs := [13]) (by kernel_rfl) (by simp) ?_
              refine AllReadyH.cons rfl (fun K hK => ?_) AllReadyH.nil
              go_simp; (go_at_call 70; refine (accountBefore_v y x hbf _).mono ?_; rintro e w'' ⟨rfl, hb''⟩); (try dsimp only)
              refine hK.out _ _ ?_ (fun hHeld => ?_)
              focus ((try dsimp only); (first | (go_keep; done) | ((try go_split_ands); (repeat' apply And.intro); all_goals first | exact ext_drew (Below.refl _ _) | exact below_cell (by assumption) (by assumption) | (refine ext_trans ?_ (by assumption); assumption) | assumption)))
              clear hK K; try simp only [Act.put, List.setIfInBounds_toArray, List.set_cons_zero, List.set_cons_succ]
              refine wpAnyH_takeD (i := 14) (v := ?_) 29 rfl rfl (by kernel_rfl) (by kernel_rfl) (by kernel_rfl) (fun _ _ _ _ _ h => h) (by rfl) (by assumption) ?_ ?_
              rotate_left; focus (intro w hSw; (try dsimp only at hSw); go_simp; try (with_reducible rfl))
              try simp only [Act.put, List.setIfInBounds_toArray, List.set_cons_zero, List.set_cons_succ]
              refine wpAnyH_takeD (i := 15) (v := ?_) 30 rfl rfl (by kernel_rfl) (by kernel_rfl) (by kernel_rfl) (fun _ _ _ _ _ h => h) (by rfl) (by assumption) ?_ ?_
              rotate_left; focus (intro w hSw; (try dsimp only at hSw); go_simp; try (with_reducible rfl))
              try simp only [Act.put, List.setIfInBounds_toArray, List.set_cons_zero, List.set_cons_succ]
              refine wpAnyH_takeD (i := 16) (v := ?_) 31 rfl rfl (by kernel_rfl) (by kernel_rfl) (by kernel_rfl) (fun _ _ _ _ _ h => h) (by rfl) (by assumption) ?_ ?_
              rotate_left; focus (intro w hSw; (try dsimp only at hSw); go_simp; try (with_reducible rfl))
              try simp only [Act.put, List.setIfInBounds_toArray, List.set_cons_zero, List.set_cons_succ]
              refine wpAnyH_done (by kernel_rfl) ?_ _
              have HBB := Lib.hid (ext_trans HB.out hHeld.2.2.2.2.2.2.2.2.2.2)
              clear hHeld hb' hb''
              go_wp2
              go_roundw
              case rel =>
                refine ⟨j + 1, by go_num, by omega, fun i hi => ?_, HBB.out⟩
                rcases Nat.lt_or_ge i j with h | h
                · exact HH.out i h
                · have : i = j := by omega
                  subst this
                  have := HK.out
                  rw [accAt_at h0 HX.out (by rw [this]; exact HY.out), hbf, hxo]; rfl
              case measure => simp [intOf]; omega
      · have HH := Lib.hid hh
        clear hh
        go_wp2
        go_ret
        refine ⟨?_, hb⟩
        rw [show accsB xs = true from ?_]
        · rfl
        · unfold accsB
          rw [accsGo_all (fun i hi => HH.out i (by have := HL.out; omega)), HL.out, Bool.true_and]
          exact decide_eq_true h10
  · go_enter Try.func23, Try.ntmps23
    go_wp2
    go_ret
    refine ⟨?_, Below.refl _ _⟩
    rw [show accsB xs = false from ?_]
    · rfl
    · unfold accsB
      rw [HL.out, decide_eq_false h10, Bool.and_false]
set_option maxHeartbeats 400000 in
theorem sAreAccounts_any (A : Option Addr) (n c B : Nat) (xs : List Acct) (w : World) (h : Reads w B 5 A n ((acctF xs).map (Value.int .i64))) (hB : B ≤ w.heap.size) (hn : n ≤ 1048576) :
    Calls Try.prog 21 #[.slice A n c] w fun e w' => e = .returned (.bool (accsB xs)) ∧ Below w.heap.size w w' := by
  have H := Lib.hid h
  clear h
  go_enter Try.func21, Try.ntmps21
  go_wp2_with fail
  refine (l14Good_any A n c B xs _ H.out hB hn).mono ?_
  rintro e w1 ⟨rfl, hb⟩
  go_wp2
  go_ret
  exact ⟨rfl, hb⟩
set_option maxHeartbeats 1000000 in
theorem FnExactAreAccounts_any (A : Option Addr) (n c : Nat) (zs : List Int) (w : World) (h : Reads w w.heap.size 5 A n (zs.map (Value.int .i64)) ∧ n ≤ maxLen) :
    Calls Try.prog 5 #[.slice A n c] w fun e w' => e = .returned (.bool true) ∧ Below w.heap.size w w' := by
  obtain ⟨h, hm⟩ := h
  obtain ⟨xs, rfl, hl⟩ := acctF_of n zs (by simpa using h.1)
  have H := Lib.hid h
  clear h hl
  by_cases hn : n ≤ 1048576
  · go_enter Try.func5, Try.ntmps5
    go_wp2_with fail
    refine (szAccountS_any A n c hm _).mono ?_
    rintro e w' ⟨rfl, rfl⟩
    rw [if_pos hn]
    go_wp2_with fail
    refine (toAccountS_any A n c _ xs _ H.out (Nat.le_refl _) hn).mono ?_
    rintro e w1 ⟨A1, n1, c1, rfl, a1⟩
    have z1 := a1.reads.acctLen
    have z0 := H.out.acctLen
    obtain rfl : n1 = n := by omega
    have R1 := Lib.hid (H.out.below a1.ext)
    go_wp2_with fail
    refine (sAreAccounts_any A1 n1 c1 _ xs _ a1.reads (Nat.le_refl _) hn).mono ?_
    rintro e w2 ⟨rfl, hb2⟩
    have R2 := Lib.hid (R1.out.below (hb2.mono a1.ext.size))
    have e2 := ext_trans a1.ext hb2
    go_wp2_with fail
    refine (toAccountS_any A n1 c _ xs _ R2.out e2.size hn).mono ?_
    rintro e w3 ⟨A3, n3, c3, rfl, a3⟩
    have z3 := a3.reads.acctLen
    obtain rfl : n3 = n1 := by omega
    have R3 := Lib.hid (R2.out.below (a3.ext.mono e2.size))
    have e3 := ext_trans e2 a3.ext
    go_wp2_with fail
    refine (iAreAccounts_any A3 n3 c3 _ xs _ a3.reads (Nat.le_refl _) hn).mono ?_
    rintro e w4 ⟨rfl, hb4⟩
    have R4 := Lib.hid (R3.out.below (hb4.mono e3.size))
    have e4 := ext_trans e3 hb4
    have a3' := a3.later hb4
    go_wp2_with fail
    refine (toAccountS_any A n3 c _ xs _ R4.out e4.size hn).mono ?_
    rintro e w5 ⟨A5, n5, c5, rfl, a5⟩
    have z5 := a5.reads.acctLen
    obtain rfl : n5 = n3 := by omega
    have e5 := ext_trans e4 a5.ext
    go_wp2_with fail
    refine (eqAccountS_any A3 A5 n5 n5 c3 c5 _ _ xs xs _ (a3'.reads.below a5.ext) a5.reads a5.ext.size (Nat.le_refl _) (by unfold maxLen; omega) (by unfold maxLen; omega)).mono ?_
    rintro e w6 ⟨rfl, hb6⟩
    rw [decide_eq_true (rfl : xs = xs)]
    go_wp2_with fail
    go_ret
    exact ⟨rfl, ext_trans e5 hb6⟩
  · go_enter Try.func5, Try.ntmps5
    go_wp2_with fail
    refine (szAccountS_any A n c hm _).mono ?_
    rintro e w' ⟨rfl, rfl⟩
    rw [if_neg hn]
    go_wp2_with fail
    go_ret
    exact ⟨rfl, Below.refl _ _⟩
end Go.Proofs.Ytbjmpllnkkfgfaa
