/- Do two lessons clash? The index of a lesson. Is a time free? No condition. -/
import Derived.Test.YtnndhgeddfghcaaLess
namespace Go.Proofs.Ytnndhgeddfghcaa
open Go.RowKit

def endV (x : Lesn) : Int := wrap64 (x.b + x.m)
def meetB (x y : Lesn) : Bool := ((x.d == y.d) && decide (x.b < endV y)) && decide (y.b < endV x)
def clB (x y : Lesn) : Bool := meetB x y && (((x.c == y.c) || (x.t == y.t)) || (x.r == y.r))
set_option maxHeartbeats 1000000 in
theorem end_w (x : Lesn) (w : World) :
    Calls Try.prog 70 #[.agg #[.int .i64 x.i, .int .i64 x.c, .int .i64 x.t, .int .i64 x.r, .int .i64 x.d, .int .i64 x.b, .int .i64 x.m]] w fun e w' => e = .returned (.int .i64 (endV x)) ∧ Below w.heap.size w w' := by
  go_enter Try.func70, Try.ntmps70
  go_wp2
  go_ret
  exact ⟨rfl, by repeat (first | exact Below.refl _ _ | refine Below.alloc ?_ (by first | omega | (simp; done) | (simp; omega)) _ | refine Below.setCell ?_ (by first | omega | (simp; done) | (simp; omega)) _)⟩
theorem end_v (x : Lesn) {v : Int} (hv : endV x = v) (w : World) :
    Calls Try.prog 70 #[.agg #[.int .i64 x.i, .int .i64 x.c, .int .i64 x.t, .int .i64 x.r, .int .i64 x.d, .int .i64 x.b, .int .i64 x.m]] w fun e w' => e = .returned (.int .i64 v) ∧ Below w.heap.size w w' := hv ▸ end_w x w
set_option maxHeartbeats 2000000 in
theorem l11Meet_any (x y : Lesn) (w : World) :
    Calls Try.prog 83 #[.agg #[.int .i64 x.i, .int .i64 x.c, .int .i64 x.t, .int .i64 x.r, .int .i64 x.d, .int .i64 x.b, .int .i64 x.m], .agg #[.int .i64 y.i, .int .i64 y.c, .int .i64 y.t, .int .i64 y.r, .int .i64 y.d, .int .i64 y.b, .int .i64 y.m]] w fun e w' => e = .returned (.bool (meetB x y)) ∧ Below w.heap.size w w' := by
  go_enter Try.func83, Try.ntmps83
  go_wp2
  all_goals
    go_ret
    refine ⟨by first | (simp [meetB, endV, *]; done) | (simp [meetB, endV, *]; exact decide_eq_decide.2 Iff.rfl) | (simp [meetB, endV, *]; intro h; exact absurd (of_decide_eq_true h) (by omega)), ?_⟩
    repeat (first | exact Below.refl _ _ | refine Below.alloc ?_ (by first | omega | (simp; done) | (simp; omega)) _ | refine Below.setCell ?_ (by first | omega | (simp; done) | (simp; omega)) _)
set_option maxHeartbeats 4000000 in
theorem meets_any (x y : Lesn) (w : World) :
    Calls Try.prog 84 #[.agg #[.int .i64 x.i, .int .i64 x.c, .int .i64 x.t, .int .i64 x.r, .int .i64 x.d, .int .i64 x.b, .int .i64 x.m], .agg #[.int .i64 y.i, .int .i64 y.c, .int .i64 y.t, .int .i64 y.r, .int .i64 y.d, .int .i64 y.b, .int .i64 y.m]] w fun e w' => e = .returned (.bool (meetB x y)) ∧ Below w.heap.size w w' := by
  obtain ⟨e1, he1⟩ : ∃ e, endV y = e := ⟨_, rfl⟩
  obtain ⟨e2, he2⟩ : ∃ e, endV x = e := ⟨_, rfl⟩
  cases hd : (x.d == y.d)
  · have HV := Lib.hid (show meetB x y = false by simp only [meetB, hd, Bool.false_and])
    go_enter Try.func84, Try.ntmps84
    go_wp2
    obtain ⟨W1, hW1⟩ : ∃ W1, W1 = (w.alloc (Obj.cells #[.int .i64 x.i, .int .i64 x.c, .int .i64 x.t, .int .i64 x.r, .int .i64 x.d, .int .i64 x.b, .int .i64 x.m] 25)).alloc (Obj.cells #[.int .i64 y.i, .int .i64 y.c, .int .i64 y.t, .int .i64 y.r, .int .i64 y.d, .int .i64 y.b, .int .i64 y.m] 25) := ⟨_, rfl⟩
    rw [← hW1]
    have hBW : Below w.heap.size w W1 := hW1 ▸ ext_alloc (ext_alloc (Below.refl _ _) _) _
    obtain ⟨x0, x1, x2, x3, x4, x5, x6⟩ := box_cellsL w 25 x
    have hA : ∀ o v, (w.alloc (Obj.cells #[.int .i64 x.i, .int .i64 x.c, .int .i64 x.t, .int .i64 x.r, .int .i64 x.d, .int .i64 x.b, .int .i64 x.m] 25)).cell? ⟨w.heap.size, o, none⟩ = some v → W1.cell? ⟨w.heap.size, o, none⟩ = some v := fun o v h => by rw [hW1]; exact (World.cell?_alloc_lt _ _ _ (by simp)).trans h
    have k0 := hA _ _ x0
    have k1 := hA _ _ x1
    have k2 := hA _ _ x2
    have k3 := hA _ _ x3
    have k4 := hA _ _ x4
    have k5 := hA _ _ x5
    have k6 := hA _ _ x6
    obtain ⟨y0, y1, y2, y3, y4, y5, y6⟩ := box_cellsL (w.alloc (Obj.cells #[.int .i64 x.i, .int .i64 x.c, .int .i64 x.t, .int .i64 x.r, .int .i64 x.d, .int .i64 x.b, .int .i64 x.m] 25)) 25 y
    rw [← hW1] at y0 y1 y2 y3 y4 y5 y6
    simp only [World.size_alloc] at y0 y1 y2 y3 y4 y5 y6
    clear hA hW1 x0 x1 x2 x3 x4 x5 x6
    have hself : Below W1.heap.size W1 W1.drew := ext_drew (Below.refl _ _)
    refine wp_region_held_drew (S := (fun w' => w'.cell? ⟨w.heap.size, 0, none⟩ = some (.int .i64 x.i) ∧ w'.cell? ⟨w.heap.size, 1, none⟩ = some (.int .i64 x.c) ∧ w'.cell? ⟨w.heap.size, 2, none⟩ = some (.int .i64 x.t) ∧ w'.cell? ⟨w.heap.size, 3, none⟩ = some (.int .i64 x.r) ∧ w'.cell? ⟨w.heap.size, 4, none⟩ = some (.int .i64 x.d) ∧ w'.cell? ⟨w.heap.size, 5, none⟩ = some (.int .i64 x.b) ∧ w'.cell? ⟨w.heap.size, 6, none⟩ = some (.int .i64 x.m) ∧ w'.cell? ⟨w.heap.size + 1, 0, none⟩ = some (.int .i64 y.i) ∧ w'.cell? ⟨w.heap.size + 1, 1, none⟩ = some (.int .i64 y.c) ∧ w'.cell? ⟨w.heap.size + 1, 2, none⟩ = some (.int .i64 y.t) ∧ w'.cell? ⟨w.heap.size + 1, 3, none⟩ = some (.int .i64 y.r) ∧ w'.cell? ⟨w.heap.size + 1, 4, none⟩ = some (.int .i64 y.d) ∧ w'.cell? ⟨w.heap.size + 1, 5, none⟩ = some (.int .i64 y.b) ∧ w'.cell? ⟨w.heap.size + 1, 6, none⟩ = some (.int .i64 y.m) ∧ Below W1.heap.size W1 w')) (by kernel_rfl) ?_ (fun hHeld => ?_)
    · (try dsimp only); (first | (go_keep; done) | ((try go_split_ands); (repeat' apply And.intro); all_goals first | exact ext_drew (Below.refl _ _) | exact below_cell (by assumption) (by assumption) | (refine ext_trans ?_ (by assumption); assumption) | assumption))
    refine wpAnyH_takeD (i := 0) (v := ?_) 5 rfl rfl (by kernel_rfl) (by kernel_rfl) (by kernel_rfl) (fun _ _ _ _ _ h => h) (by rfl) (by assumption) ?_ ?_
    rotate_left; focus (intro w hSw; (try dsimp only at hSw); go_simp; try (with_reducible rfl))
    try simp only [Act.put, List.setIfInBounds_toArray, List.set_cons_zero, List.set_cons_succ]
    refine wpAnyH_takeD (i := 1) (v := ?_) 6 rfl rfl (by kernel_rfl) (by kernel_rfl) (by kernel_rfl) (fun _ _ _ _ _ h => h) (by rfl) (by assumption) ?_ ?_
    rotate_left; focus (intro w hSw; (try dsimp only at hSw); go_simp; try (with_reducible rfl))
    try simp only [Act.put, List.setIfInBounds_toArray, List.set_cons_zero, List.set_cons_succ]
    refine wpAnyH_takeD (i := 2) (v := ?_) 7 rfl rfl (by kernel_rfl) (by kernel_rfl) (by kernel_rfl) (fun _ _ _ _ _ h => h) (by rfl) (by assumption) ?_ ?_
    rotate_left; focus (intro w hSw; (try dsimp only at hSw); go_simp; try (with_reducible rfl))
    try simp only [Act.put, List.setIfInBounds_toArray, List.set_cons_zero, List.set_cons_succ]
    refine wpAnyH_takeD (i := 3) (v := ?_) 8 rfl rfl (by kernel_rfl) (by kernel_rfl) (by kernel_rfl) (fun _ _ _ _ _ h => h) (by rfl) (by assumption) ?_ ?_
    rotate_left; focus (intro w hSw; (try dsimp only at hSw); go_simp; try (with_reducible rfl))
    try simp only [Act.put, List.setIfInBounds_toArray, List.set_cons_zero, List.set_cons_succ]
    refine wpAnyH_takeD (i := 4) (v := ?_) 9 rfl rfl (by kernel_rfl) (by kernel_rfl) (by kernel_rfl) (fun _ _ _ _ _ h => h) (by rfl) (by assumption) ?_ ?_
    rotate_left; focus (intro w hSw; (try dsimp only at hSw); go_simp; try (with_reducible rfl))
    try simp only [Act.put, List.setIfInBounds_toArray, List.set_cons_zero, List.set_cons_succ]
    refine wpAnyH_takeD (i := 5) (v := ?_) 10 rfl rfl (by kernel_rfl) (by kernel_rfl) (by kernel_rfl) (fun _ _ _ _ _ h => h) (by rfl) (by assumption) ?_ ?_
    rotate_left; focus (intro w hSw; (try dsimp only at hSw); go_simp; try (with_reducible rfl))
    try simp only [Act.put, List.setIfInBounds_toArray, List.set_cons_zero, List.set_cons_succ]
    refine wpAnyH_skipsTo (by kernel_rfl) (fun _ _ _ _ _ h => h) (by assumption) [6, 7, 8, 9, 10] [11, 12, 13, 14, 15] 9 (by kernel_rfl) (by kernel_rfl) ?_
    try simp only [skipAct_nil, skipAct_cons, Act.put, List.setIfInBounds_toArray, List.set_cons_zero, List.set_cons_succ]
    refine wpAnyH_takeD (i := 11) (v := ?_) 16 rfl rfl (by kernel_rfl) (by kernel_rfl) (by kernel_rfl) (fun _ _ _ _ _ h => h) (by rfl) (by assumption) ?_ ?_
    rotate_left; focus (intro w hSw; (try dsimp only at hSw); go_simp; try (with_reducible rfl))
    try simp only [Act.put, List.setIfInBounds_toArray, List.set_cons_zero, List.set_cons_succ]
    refine wpAnyH_takeD (i := 12) (v := ?_) 17 rfl rfl (by kernel_rfl) (by kernel_rfl) (by kernel_rfl) (fun _ _ _ _ _ h => h) (by rfl) (by assumption) ?_ ?_
    rotate_left; focus (intro w hSw; (try dsimp only at hSw); go_simp; try (with_reducible rfl))
    try simp only [Act.put, List.setIfInBounds_toArray, List.set_cons_zero, List.set_cons_succ]
    refine wpAnyH_skipsTo (by kernel_rfl) (fun _ _ _ _ _ h => h) (by assumption) [13, 14, 15, 16, 17] [18, 19, 20, 21, 22] 2 (by kernel_rfl) (by kernel_rfl) ?_
    try simp only [skipAct_nil, skipAct_cons, Act.put, List.setIfInBounds_toArray, List.set_cons_zero, List.set_cons_succ]
    refine wpAnyH_takeD (i := 18) (v := ?_) 23 rfl rfl (by kernel_rfl) (by kernel_rfl) (by kernel_rfl) (fun _ _ _ _ _ h => h) (by rfl) (by assumption) ?_ ?_
    rotate_left; focus (intro w hSw; (try dsimp only at hSw); go_simp; try (with_reducible rfl))
    try simp only [Act.put, List.setIfInBounds_toArray, List.set_cons_zero, List.set_cons_succ]
    refine wpAnyH_takeD (i := 19) (v := ?_) 4 rfl rfl (by kernel_rfl) (by kernel_rfl) (by kernel_rfl) (fun _ _ _ _ _ h => h) (by rfl) (by assumption) ?_ ?_
    rotate_left; focus (intro w hSw; (try dsimp only at hSw); go_simp; try (with_reducible rfl))
    try simp only [Act.put, List.setIfInBounds_toArray, List.set_cons_zero, List.set_cons_succ]
    refine wpAnyH_done (by kernel_rfl) ?_ _
    have HBB := Lib.hid (ext_trans hBW hHeld.2.2.2.2.2.2.2.2.2.2.2.2.2.2)
    clear hHeld
    go_wp2
    go_ret
    exact ⟨by rw [HV.out]; rfl, HBB.out⟩
  · cases h1 : decide (x.b < e1)
    · have HV := Lib.hid (show meetB x y = false by simp only [meetB, hd, he1, h1, Bool.true_and, Bool.false_and])
      go_enter Try.func84, Try.ntmps84
      go_wp2
      obtain ⟨W1, hW1⟩ : ∃ W1, W1 = (w.alloc (Obj.cells #[.int .i64 x.i, .int .i64 x.c, .int .i64 x.t, .int .i64 x.r, .int .i64 x.d, .int .i64 x.b, .int .i64 x.m] 25)).alloc (Obj.cells #[.int .i64 y.i, .int .i64 y.c, .int .i64 y.t, .int .i64 y.r, .int .i64 y.d, .int .i64 y.b, .int .i64 y.m] 25) := ⟨_, rfl⟩
      rw [← hW1]
      have hBW : Below w.heap.size w W1 := hW1 ▸ ext_alloc (ext_alloc (Below.refl _ _) _) _
      obtain ⟨x0, x1, x2, x3, x4, x5, x6⟩ := box_cellsL w 25 x
      have hA : ∀ o v, (w.alloc (Obj.cells #[.int .i64 x.i, .int .i64 x.c, .int .i64 x.t, .int .i64 x.r, .int .i64 x.d, .int .i64 x.b, .int .i64 x.m] 25)).cell? ⟨w.heap.size, o, none⟩ = some v → W1.cell? ⟨w.heap.size, o, none⟩ = some v := fun o v h => by rw [hW1]; exact (World.cell?_alloc_lt _ _ _ (by simp)).trans h
      have k0 := hA _ _ x0
      have k1 := hA _ _ x1
      have k2 := hA _ _ x2
      have k3 := hA _ _ x3
      have k4 := hA _ _ x4
      have k5 := hA _ _ x5
      have k6 := hA _ _ x6
      obtain ⟨y0, y1, y2, y3, y4, y5, y6⟩ := box_cellsL (w.alloc (Obj.cells #[.int .i64 x.i, .int .i64 x.c, .int .i64 x.t, .int .i64 x.r, .int .i64 x.d, .int .i64 x.b, .int .i64 x.m] 25)) 25 y
      rw [← hW1] at y0 y1 y2 y3 y4 y5 y6
      simp only [World.size_alloc] at y0 y1 y2 y3 y4 y5 y6
      clear hA hW1 x0 x1 x2 x3 x4 x5 x6
      have hself : Below W1.heap.size W1 W1.drew := ext_drew (Below.refl _ _)
      refine wp_region_held_drew (S := (fun w' => w'.cell? ⟨w.heap.size, 0, none⟩ = some (.int .i64 x.i) ∧ w'.cell? ⟨w.heap.size, 1, none⟩ = some (.int .i64 x.c) ∧ w'.cell? ⟨w.heap.size, 2, none⟩ = some (.int .i64 x.t) ∧ w'.cell? ⟨w.heap.size, 3, none⟩ = some (.int .i64 x.r) ∧ w'.cell? ⟨w.heap.size, 4, none⟩ = some (.int .i64 x.d) ∧ w'.cell? ⟨w.heap.size, 5, none⟩ = some (.int .i64 x.b) ∧ w'.cell? ⟨w.heap.size, 6, none⟩ = some (.int .i64 x.m) ∧ w'.cell? ⟨w.heap.size + 1, 0, none⟩ = some (.int .i64 y.i) ∧ w'.cell? ⟨w.heap.size + 1, 1, none⟩ = some (.int .i64 y.c) ∧ w'.cell? ⟨w.heap.size + 1, 2, none⟩ = some (.int .i64 y.t) ∧ w'.cell? ⟨w.heap.size + 1, 3, none⟩ = some (.int .i64 y.r) ∧ w'.cell? ⟨w.heap.size + 1, 4, none⟩ = some (.int .i64 y.d) ∧ w'.cell? ⟨w.heap.size + 1, 5, none⟩ = some (.int .i64 y.b) ∧ w'.cell? ⟨w.heap.size + 1, 6, none⟩ = some (.int .i64 y.m) ∧ Below W1.heap.size W1 w')) (by kernel_rfl) ?_ (fun hHeld => ?_)
      · (try dsimp only); (first | (go_keep; done) | ((try go_split_ands); (repeat' apply And.intro); all_goals first | exact ext_drew (Below.refl _ _) | exact below_cell (by assumption) (by assumption) | (refine ext_trans ?_ (by assumption); assumption) | assumption))
      refine wpAnyH_takeD (i := 0) (v := ?_) 5 rfl rfl (by kernel_rfl) (by kernel_rfl) (by kernel_rfl) (fun _ _ _ _ _ h => h) (by rfl) (by assumption) ?_ ?_
      rotate_left; focus (intro w hSw; (try dsimp only at hSw); go_simp; try (with_reducible rfl))
      try simp only [Act.put, List.setIfInBounds_toArray, List.set_cons_zero, List.set_cons_succ]
      refine wpAnyH_takeD (i := 1) (v := ?_) 6 rfl rfl (by kernel_rfl) (by kernel_rfl) (by kernel_rfl) (fun _ _ _ _ _ h => h) (by rfl) (by assumption) ?_ ?_
      rotate_left; focus (intro w hSw; (try dsimp only at hSw); go_simp; try (with_reducible rfl))
      try simp only [Act.put, List.setIfInBounds_toArray, List.set_cons_zero, List.set_cons_succ]
      refine wpAnyH_takeD (i := 2) (v := ?_) 7 rfl rfl (by kernel_rfl) (by kernel_rfl) (by kernel_rfl) (fun _ _ _ _ _ h => h) (by rfl) (by assumption) ?_ ?_
      rotate_left; focus (intro w hSw; (try dsimp only at hSw); go_simp; try (with_reducible rfl))
      try simp only [Act.put, List.setIfInBounds_toArray, List.set_cons_zero, List.set_cons_succ]
      refine wpAnyH_takeD (i := 3) (v := ?_) 8 rfl rfl (by kernel_rfl) (by kernel_rfl) (by kernel_rfl) (fun _ _ _ _ _ h => h) (by rfl) (by assumption) ?_ ?_
      rotate_left; focus (intro w hSw; (try dsimp only at hSw); go_simp; try (with_reducible rfl))
      try simp only [Act.put, List.setIfInBounds_toArray, List.set_cons_zero, List.set_cons_succ]
      refine wpAnyH_takeD (i := 4) (v := ?_) 9 rfl rfl (by kernel_rfl) (by kernel_rfl) (by kernel_rfl) (fun _ _ _ _ _ h => h) (by rfl) (by assumption) ?_ ?_
      rotate_left; focus (intro w hSw; (try dsimp only at hSw); go_simp; try (with_reducible rfl))
      try simp only [Act.put, List.setIfInBounds_toArray, List.set_cons_zero, List.set_cons_succ]
      refine wpAnyH_takeD (i := 5) (v := ?_) 10 rfl rfl (by kernel_rfl) (by kernel_rfl) (by kernel_rfl) (fun _ _ _ _ _ h => h) (by rfl) (by assumption) ?_ ?_
      rotate_left; focus (intro w hSw; (try dsimp only at hSw); go_simp; try (with_reducible rfl))
      try simp only [Act.put, List.setIfInBounds_toArray, List.set_cons_zero, List.set_cons_succ]
      refine wpAnyH_takeD (i := 6) (v := ?_) 11 rfl rfl (by kernel_rfl) (by kernel_rfl) (by kernel_rfl) (fun _ _ _ _ _ h => h) (by rfl) (by assumption) ?_ ?_
      rotate_left; focus (intro w hSw; (try dsimp only at hSw); go_simp; try (with_reducible rfl))
      try simp only [Act.put, List.setIfInBounds_toArray, List.set_cons_zero, List.set_cons_succ]
      refine wpAnyH_takeD (i := 7) (v := ?_) 12 rfl rfl (by kernel_rfl) (by kernel_rfl) (by kernel_rfl) (fun _ _ _ _ _ h => h) (by rfl) (by assumption) ?_ ?_
      rotate_left; focus (intro w hSw; (try dsimp only at hSw); go_simp; try (with_reducible rfl))
      try simp only [Act.put, List.setIfInBounds_toArray, List.set_cons_zero, List.set_cons_succ]
      refine wpAnyH_takeD (i := 8) (v := ?_) 13 rfl rfl (by kernel_rfl) (by kernel_rfl) (by kernel_rfl) (fun _ _ _ _ _ h => h) (by rfl) (by assumption) ?_ ?_
      rotate_left; focus (intro w hSw; (try dsimp only at hSw); go_simp; try (with_reducible rfl))
      try simp only [Act.put, List.setIfInBounds_toArray, List.set_cons_zero, List.set_cons_succ]
      refine wpAnyH_ready (rs := [9]) (by kernel_rfl) (by simp) ?_
      refine AllReadyH.cons rfl (fun K hK => ?_) AllReadyH.nil
      go_simp; (go_at_call 70; refine (end_v y he1 _).mono ?_; rintro e w' ⟨rfl, hb'⟩); (try dsimp only)
      refine hK.out _ _ ?_ (fun hHeld => ?_)
      focus ((try dsimp only); (first | (go_keep; done) | ((try go_split_ands); (repeat' apply And.intro); all_goals first | exact ext_drew (Below.refl _ _) | exact below_cell (by assumption) (by assumption) | (refine ext_trans ?_ (by assumption); assumption) | assumption)))
      clear hK K; try simp only [Act.put, List.setIfInBounds_toArray, List.set_cons_zero, List.set_cons_succ]
      refine wpAnyH_takeD (i := 10) (v := ?_) 15 rfl rfl (by kernel_rfl) (by kernel_rfl) (by kernel_rfl) (fun _ _ _ _ _ h => h) (by rfl) (by assumption) ?_ ?_
      rotate_left; focus (intro w hSw; (try dsimp only at hSw); go_simp; try (with_reducible rfl))
      try simp only [Act.put, List.setIfInBounds_toArray, List.set_cons_zero, List.set_cons_succ]
      refine wpAnyH_takeD (i := 11) (v := ?_) 16 rfl rfl (by kernel_rfl) (by kernel_rfl) (by kernel_rfl) (fun _ _ _ _ _ h => h) (by rfl) (by assumption) ?_ ?_
      rotate_left; focus (intro w hSw; (try dsimp only at hSw); go_simp; try (with_reducible rfl))
      try simp only [Act.put, List.setIfInBounds_toArray, List.set_cons_zero, List.set_cons_succ]
      refine wpAnyH_takeD (i := 12) (v := ?_) 17 rfl rfl (by kernel_rfl) (by kernel_rfl) (by kernel_rfl) (fun _ _ _ _ _ h => h) (by rfl) (by assumption) ?_ ?_
      rotate_left; focus (intro w hSw; (try dsimp only at hSw); go_simp; try (with_reducible rfl))
      try simp only [Act.put, List.setIfInBounds_toArray, List.set_cons_zero, List.set_cons_succ]
      refine wpAnyH_skipsTo (by kernel_rfl) (fun _ _ _ _ _ h => h) (by assumption) [13, 14, 15, 16, 17] [18, 19, 20, 21, 22] 2 (by kernel_rfl) (by kernel_rfl) ?_
      try simp only [skipAct_nil, skipAct_cons, Act.put, List.setIfInBounds_toArray, List.set_cons_zero, List.set_cons_succ]
      refine wpAnyH_takeD (i := 18) (v := ?_) 23 rfl rfl (by kernel_rfl) (by kernel_rfl) (by kernel_rfl) (fun _ _ _ _ _ h => h) (by rfl) (by assumption) ?_ ?_
      rotate_left; focus (intro w hSw; (try dsimp only at hSw); go_simp; try (with_reducible rfl))
      try simp only [Act.put, List.setIfInBounds_toArray, List.set_cons_zero, List.set_cons_succ]
      refine wpAnyH_takeD (i := 19) (v := ?_) 4 rfl rfl (by kernel_rfl) (by kernel_rfl) (by kernel_rfl) (fun _ _ _ _ _ h => h) (by rfl) (by assumption) ?_ ?_
      rotate_left; focus (intro w hSw; (try dsimp only at hSw); go_simp; try (with_reducible rfl))
      try simp only [Act.put, List.setIfInBounds_toArray, List.set_cons_zero, List.set_cons_succ]
      refine wpAnyH_done (by kernel_rfl) ?_ _
      have HBB := Lib.hid (ext_trans hBW hHeld.2.2.2.2.2.2.2.2.2.2.2.2.2.2)
      clear hHeld hb'
      go_wp2
      go_ret
      exact ⟨by rw [HV.out]; rfl, HBB.out⟩
    · have HV := Lib.hid (show meetB x y = decide (y.b < e2) by simp only [meetB, hd, he1, he2, h1, Bool.true_and])
      go_enter Try.func84, Try.ntmps84
      go_wp2
      obtain ⟨W1, hW1⟩ : ∃ W1, W1 = (w.alloc (Obj.cells #[.int .i64 x.i, .int .i64 x.c, .int .i64 x.t, .int .i64 x.r, .int .i64 x.d, .int .i64 x.b, .int .i64 x.m] 25)).alloc (Obj.cells #[.int .i64 y.i, .int .i64 y.c, .int .i64 y.t, .int .i64 y.r, .int .i64 y.d, .int .i64 y.b, .int .i64 y.m] 25) := ⟨_, rfl⟩
      rw [← hW1]
      have hBW : Below w.heap.size w W1 := hW1 ▸ ext_alloc (ext_alloc (Below.refl _ _) _) _
      obtain ⟨x0, x1, x2, x3, x4, x5, x6⟩ := box_cellsL w 25 x
      have hA : ∀ o v, (w.alloc (Obj.cells #[.int .i64 x.i, .int .i64 x.c, .int .i64 x.t, .int .i64 x.r, .int .i64 x.d, .int .i64 x.b, .int .i64 x.m] 25)).cell? ⟨w.heap.size, o, none⟩ = some v → W1.cell? ⟨w.heap.size, o, none⟩ = some v := fun o v h => by rw [hW1]; exact (World.cell?_alloc_lt _ _ _ (by simp)).trans h
      have k0 := hA _ _ x0
      have k1 := hA _ _ x1
      have k2 := hA _ _ x2
      have k3 := hA _ _ x3
      have k4 := hA _ _ x4
      have k5 := hA _ _ x5
      have k6 := hA _ _ x6
      obtain ⟨y0, y1, y2, y3, y4, y5, y6⟩ := box_cellsL (w.alloc (Obj.cells #[.int .i64 x.i, .int .i64 x.c, .int .i64 x.t, .int .i64 x.r, .int .i64 x.d, .int .i64 x.b, .int .i64 x.m] 25)) 25 y
      rw [← hW1] at y0 y1 y2 y3 y4 y5 y6
      simp only [World.size_alloc] at y0 y1 y2 y3 y4 y5 y6
      clear hA hW1 x0 x1 x2 x3 x4 x5 x6
      have hself : Below W1.heap.size W1 W1.drew := ext_drew (Below.refl _ _)
      refine wp_region_held_drew (S := (fun w' => w'.cell? ⟨w.heap.size, 0, none⟩ = some (.int .i64 x.i) ∧ w'.cell? ⟨w.heap.size, 1, none⟩ = some (.int .i64 x.c) ∧ w'.cell? ⟨w.heap.size, 2, none⟩ = some (.int .i64 x.t) ∧ w'.cell? ⟨w.heap.size, 3, none⟩ = some (.int .i64 x.r) ∧ w'.cell? ⟨w.heap.size, 4, none⟩ = some (.int .i64 x.d) ∧ w'.cell? ⟨w.heap.size, 5, none⟩ = some (.int .i64 x.b) ∧ w'.cell? ⟨w.heap.size, 6, none⟩ = some (.int .i64 x.m) ∧ w'.cell? ⟨w.heap.size + 1, 0, none⟩ = some (.int .i64 y.i) ∧ w'.cell? ⟨w.heap.size + 1, 1, none⟩ = some (.int .i64 y.c) ∧ w'.cell? ⟨w.heap.size + 1, 2, none⟩ = some (.int .i64 y.t) ∧ w'.cell? ⟨w.heap.size + 1, 3, none⟩ = some (.int .i64 y.r) ∧ w'.cell? ⟨w.heap.size + 1, 4, none⟩ = some (.int .i64 y.d) ∧ w'.cell? ⟨w.heap.size + 1, 5, none⟩ = some (.int .i64 y.b) ∧ w'.cell? ⟨w.heap.size + 1, 6, none⟩ = some (.int .i64 y.m) ∧ Below W1.heap.size W1 w')) (by kernel_rfl) ?_ (fun hHeld => ?_)
      · (try dsimp only); (first | (go_keep; done) | ((try go_split_ands); (repeat' apply And.intro); all_goals first | exact ext_drew (Below.refl _ _) | exact below_cell (by assumption) (by assumption) | (refine ext_trans ?_ (by assumption); assumption) | assumption))
      refine wpAnyH_takeD (i := 0) (v := ?_) 5 rfl rfl (by kernel_rfl) (by kernel_rfl) (by kernel_rfl) (fun _ _ _ _ _ h => h) (by rfl) (by assumption) ?_ ?_
      rotate_left; focus (intro w hSw; (try dsimp only at hSw); go_simp; try (with_reducible rfl))
      try simp only [Act.put, List.setIfInBounds_toArray, List.set_cons_zero, List.set_cons_succ]
      refine wpAnyH_takeD (i := 1) (v := ?_) 6 rfl rfl (by kernel_rfl) (by kernel_rfl) (by kernel_rfl) (fun _ _ _ _ _ h => h) (by rfl) (by assumption) ?_ ?_
      rotate_left; focus (intro w hSw; (try dsimp only at hSw); go_simp; try (with_reducible rfl))
      try simp only [Act.put, List.setIfInBounds_toArray, List.set_cons_zero, List.set_cons_succ]
      refine wpAnyH_takeD (i := 2) (v := ?_) 7 rfl rfl (by kernel_rfl) (by kernel_rfl) (by kernel_rfl) (fun _ _ _ _ _ h => h) (by rfl) (by assumption) ?_ ?_
      rotate_left; focus (intro w hSw; (try dsimp only at hSw); go_simp; try (with_reducible rfl))
      try simp only [Act.put, List.setIfInBounds_toArray, List.set_cons_zero, List.set_cons_succ]
      refine wpAnyH_takeD (i := 3) (v := ?_) 8 rfl rfl (by kernel_rfl) (by kernel_rfl) (by kernel_rfl) (fun _ _ _ _ _ h => h) (by rfl) (by assumption) ?_ ?_
      rotate_left; focus (intro w hSw; (try dsimp only at hSw); go_simp; try (with_reducible rfl))
      try simp only [Act.put, List.setIfInBounds_toArray, List.set_cons_zero, List.set_cons_succ]
      refine wpAnyH_takeD (i := 4) (v := ?_) 9 rfl rfl (by kernel_rfl) (by kernel_rfl) (by kernel_rfl) (fun _ _ _ _ _ h => h) (by rfl) (by assumption) ?_ ?_
      rotate_left; focus (intro w hSw; (try dsimp only at hSw); go_simp; try (with_reducible rfl))
      try simp only [Act.put, List.setIfInBounds_toArray, List.set_cons_zero, List.set_cons_succ]
      refine wpAnyH_takeD (i := 5) (v := ?_) 10 rfl rfl (by kernel_rfl) (by kernel_rfl) (by kernel_rfl) (fun _ _ _ _ _ h => h) (by rfl) (by assumption) ?_ ?_
      rotate_left; focus (intro w hSw; (try dsimp only at hSw); go_simp; try (with_reducible rfl))
      try simp only [Act.put, List.setIfInBounds_toArray, List.set_cons_zero, List.set_cons_succ]
      refine wpAnyH_takeD (i := 6) (v := ?_) 11 rfl rfl (by kernel_rfl) (by kernel_rfl) (by kernel_rfl) (fun _ _ _ _ _ h => h) (by rfl) (by assumption) ?_ ?_
      rotate_left; focus (intro w hSw; (try dsimp only at hSw); go_simp; try (with_reducible rfl))
      try simp only [Act.put, List.setIfInBounds_toArray, List.set_cons_zero, List.set_cons_succ]
      refine wpAnyH_takeD (i := 7) (v := ?_) 12 rfl rfl (by kernel_rfl) (by kernel_rfl) (by kernel_rfl) (fun _ _ _ _ _ h => h) (by rfl) (by assumption) ?_ ?_
      rotate_left; focus (intro w hSw; (try dsimp only at hSw); go_simp; try (with_reducible rfl))
      try simp only [Act.put, List.setIfInBounds_toArray, List.set_cons_zero, List.set_cons_succ]
      refine wpAnyH_takeD (i := 8) (v := ?_) 13 rfl rfl (by kernel_rfl) (by kernel_rfl) (by kernel_rfl) (fun _ _ _ _ _ h => h) (by rfl) (by assumption) ?_ ?_
      rotate_left; focus (intro w hSw; (try dsimp only at hSw); go_simp; try (with_reducible rfl))
      try simp only [Act.put, List.setIfInBounds_toArray, List.set_cons_zero, List.set_cons_succ]
      refine wpAnyH_ready (rs := [9]) (by kernel_rfl) (by simp) ?_
      refine AllReadyH.cons rfl (fun K hK => ?_) AllReadyH.nil
      go_simp; (go_at_call 70; refine (end_v y he1 _).mono ?_; rintro e w' ⟨rfl, hb'⟩); (try dsimp only)
      refine hK.out _ _ ?_ (fun hHeld => ?_)
      focus ((try dsimp only); (first | (go_keep; done) | ((try go_split_ands); (repeat' apply And.intro); all_goals first | exact ext_drew (Below.refl _ _) | exact below_cell (by assumption) (by assumption) | (refine ext_trans ?_ (by assumption); assumption) | assumption)))
      clear hK K; try simp only [Act.put, List.setIfInBounds_toArray, List.set_cons_zero, List.set_cons_succ]
      refine wpAnyH_takeD (i := 10) (v := ?_) 15 rfl rfl (by kernel_rfl) (by kernel_rfl) (by kernel_rfl) (fun _ _ _ _ _ h => h) (by rfl) (by assumption) ?_ ?_
      rotate_left; focus (intro w hSw; (try dsimp only at hSw); go_simp; try (with_reducible rfl))
      try simp only [Act.put, List.setIfInBounds_toArray, List.set_cons_zero, List.set_cons_succ]
      refine wpAnyH_takeD (i := 11) (v := ?_) 16 rfl rfl (by kernel_rfl) (by kernel_rfl) (by kernel_rfl) (fun _ _ _ _ _ h => h) (by rfl) (by assumption) ?_ ?_
      rotate_left; focus (intro w hSw; (try dsimp only at hSw); go_simp; try (with_reducible rfl))
      try simp only [Act.put, List.setIfInBounds_toArray, List.set_cons_zero, List.set_cons_succ]
      refine wpAnyH_takeD (i := 12) (v := ?_) 17 rfl rfl (by kernel_rfl) (by kernel_rfl) (by kernel_rfl) (fun _ _ _ _ _ h => h) (by rfl) (by assumption) ?_ ?_
      rotate_left; focus (intro w hSw; (try dsimp only at hSw); go_simp; try (with_reducible rfl))
      try simp only [Act.put, List.setIfInBounds_toArray, List.set_cons_zero, List.set_cons_succ]
      refine wpAnyH_takeD (i := 13) (v := ?_) 18 rfl rfl (by kernel_rfl) (by kernel_rfl) (by kernel_rfl) (fun _ _ _ _ _ h => h) (by rfl) (by assumption) ?_ ?_
      rotate_left; focus (intro w hSw; (try dsimp only at hSw); go_simp; try (with_reducible rfl))
      try simp only [Act.put, List.setIfInBounds_toArray, List.set_cons_zero, List.set_cons_succ]
      refine wpAnyH_takeD (i := 14) (v := ?_) 19 rfl rfl (by kernel_rfl) (by kernel_rfl) (by kernel_rfl) (fun _ _ _ _ _ h => h) (by rfl) (by assumption) ?_ ?_
      rotate_left; focus (intro w hSw; (try dsimp only at hSw); go_simp; try (with_reducible rfl))
      try simp only [Act.put, List.setIfInBounds_toArray, List.set_cons_zero, List.set_cons_succ]
      refine wpAnyH_takeD (i := 15) (v := ?_) 20 rfl rfl (by kernel_rfl) (by kernel_rfl) (by kernel_rfl) (fun _ _ _ _ _ h => h) (by rfl) (by assumption) ?_ ?_
      rotate_left; focus (intro w hSw; (try dsimp only at hSw); go_simp; try (with_reducible rfl))
      try simp only [Act.put, List.setIfInBounds_toArray, List.set_cons_zero, List.set_cons_succ]
      refine wpAnyH_ready (rs := [16]) (by kernel_rfl) (by simp) ?_
      refine AllReadyH.cons rfl (fun K hK => ?_) AllReadyH.nil
      go_simp; (go_at_call 70; refine (end_v x he2 _).mono ?_; rintro e w'' ⟨rfl, hb''⟩); (try dsimp only)
      refine hK.out _ _ ?_ (fun hHeld => ?_)
      focus ((try dsimp only); (first | (go_keep; done) | ((try go_split_ands); (repeat' apply And.intro); all_goals first | exact ext_drew (Below.refl _ _) | exact below_cell (by assumption) (by assumption) | (refine ext_trans ?_ (by assumption); assumption) | assumption)))
      clear hK K; try simp only [Act.put, List.setIfInBounds_toArray, List.set_cons_zero, List.set_cons_succ]
      refine wpAnyH_takeD (i := 17) (v := ?_) 22 rfl rfl (by kernel_rfl) (by kernel_rfl) (by kernel_rfl) (fun _ _ _ _ _ h => h) (by rfl) (by assumption) ?_ ?_
      rotate_left; focus (intro w hSw; (try dsimp only at hSw); go_simp; try (with_reducible rfl))
      try simp only [Act.put, List.setIfInBounds_toArray, List.set_cons_zero, List.set_cons_succ]
      refine wpAnyH_takeD (i := 18) (v := ?_) 23 rfl rfl (by kernel_rfl) (by kernel_rfl) (by kernel_rfl) (fun _ _ _ _ _ h => h) (by rfl) (by assumption) ?_ ?_
      rotate_left; focus (intro w hSw; (try dsimp only at hSw); go_simp; try (with_reducible rfl))
      try simp only [Act.put, List.setIfInBounds_toArray, List.set_cons_zero, List.set_cons_succ]
      refine wpAnyH_takeD (i := 19) (v := ?_) 4 rfl rfl (by kernel_rfl) (by kernel_rfl) (by kernel_rfl) (fun _ _ _ _ _ h => h) (by rfl) (by assumption) ?_ ?_
      rotate_left; focus (intro w hSw; (try dsimp only at hSw); go_simp; try (with_reducible rfl))
      try simp only [Act.put, List.setIfInBounds_toArray, List.set_cons_zero, List.set_cons_succ]
      refine wpAnyH_done (by kernel_rfl) ?_ _
      have HBB := Lib.hid (ext_trans hBW hHeld.2.2.2.2.2.2.2.2.2.2.2.2.2.2)
      clear hHeld hb' hb''
      go_wp2
      go_ret
      exact ⟨by rw [HV.out]; rfl, HBB.out⟩
set_option maxHeartbeats 4000000 in
theorem l11Clash_any (x y : Lesn) (w : World) :
    Calls Try.prog 85 #[.agg #[.int .i64 x.i, .int .i64 x.c, .int .i64 x.t, .int .i64 x.r, .int .i64 x.d, .int .i64 x.b, .int .i64 x.m], .agg #[.int .i64 y.i, .int .i64 y.c, .int .i64 y.t, .int .i64 y.r, .int .i64 y.d, .int .i64 y.b, .int .i64 y.m]] w fun e w' => e = .returned (.bool (clB x y)) ∧ Below w.heap.size w w' := by
  cases hm : meetB x y
  · go_enter Try.func85, Try.ntmps85
    go_wp2_with fail
    refine (l11Meet_any x y _).mono ?_
    rintro e w1 ⟨rfl, hb1⟩
    rw [hm]
    go_wp2
    go_ret
    exact ⟨by simp [clB, hm], ext_trans (ext_alloc (ext_alloc (Below.refl _ _) _) _) hb1⟩
  · go_enter Try.func85, Try.ntmps85
    go_wp2_with fail
    refine (l11Meet_any x y _).mono ?_
    rintro e w1 ⟨rfl, hb1⟩
    rw [hm]
    obtain ⟨x0, x1, x2, x3, x4, x5, x6⟩ := box_cellsL w 25 x
    have hA : ∀ o v, (w.alloc (Obj.cells #[.int .i64 x.i, .int .i64 x.c, .int .i64 x.t, .int .i64 x.r, .int .i64 x.d, .int .i64 x.b, .int .i64 x.m] 25)).cell? ⟨w.heap.size, o, none⟩ = some v → w1.cell? ⟨w.heap.size, o, none⟩ = some v := fun o v h => below_cell hb1 ((World.cell?_alloc_lt _ _ _ (by simp)).trans h)
    have k1 := hA _ _ x1
    have k2 := hA _ _ x2
    have k3 := hA _ _ x3
    obtain ⟨y0, y1, y2, y3, y4, y5, y6⟩ := box_cellsL (w.alloc (Obj.cells #[.int .i64 x.i, .int .i64 x.c, .int .i64 x.t, .int .i64 x.r, .int .i64 x.d, .int .i64 x.b, .int .i64 x.m] 25)) 25 y
    have l1 := below_cell hb1 y1
    have l2 := below_cell hb1 y2
    have l3 := below_cell hb1 y3
    simp only [World.size_alloc] at l1 l2 l3
    have HB := Lib.hid (ext_trans (ext_alloc (ext_alloc (Below.refl w.heap.size w) _) _) hb1)
    clear hA hb1 x0 x1 x2 x3 x4 x5 x6 y0 y1 y2 y3 y4 y5 y6
    go_wp2
    all_goals
      go_ret
      exact ⟨by simp [clB, *], HB.out⟩
theorem l11Clash_v (x y : Lesn) {v : Bool} (hv : clB x y = v) (w : World) :
    Calls Try.prog 85 #[.agg #[.int .i64 x.i, .int .i64 x.c, .int .i64 x.t, .int .i64 x.r, .int .i64 x.d, .int .i64 x.b, .int .i64 x.m], .agg #[.int .i64 y.i, .int .i64 y.c, .int .i64 y.t, .int .i64 y.r, .int .i64 y.d, .int .i64 y.b, .int .i64 y.m]] w fun e w' => e = .returned (.bool v) ∧ Below w.heap.size w w' := hv ▸ l11Clash_any x y w
set_option maxHeartbeats 4000000 in
theorem clashes_any (x y : Lesn) (w : World) :
    Calls Try.prog 86 #[.agg #[.int .i64 x.i, .int .i64 x.c, .int .i64 x.t, .int .i64 x.r, .int .i64 x.d, .int .i64 x.b, .int .i64 x.m], .agg #[.int .i64 y.i, .int .i64 y.c, .int .i64 y.t, .int .i64 y.r, .int .i64 y.d, .int .i64 y.b, .int .i64 y.m]] w fun e w' => e = .returned (.bool (clB x y)) ∧ Below w.heap.size w w' := by
  cases hm : meetB x y
  · go_enter Try.func86, Try.ntmps86
    go_wp2_with fail
    refine (meets_any x y _).mono ?_
    rintro e w1 ⟨rfl, hb1⟩
    rw [hm]
    go_wp2
    go_ret
    exact ⟨by simp [clB, hm], ext_trans (ext_alloc (ext_alloc (Below.refl _ _) _) _) hb1⟩
  · go_enter Try.func86, Try.ntmps86
    go_wp2_with fail
    refine (meets_any x y _).mono ?_
    rintro e w1 ⟨rfl, hb1⟩
    rw [hm]
    obtain ⟨x0, x1, x2, x3, x4, x5, x6⟩ := box_cellsL w 25 x
    have hA : ∀ o v, (w.alloc (Obj.cells #[.int .i64 x.i, .int .i64 x.c, .int .i64 x.t, .int .i64 x.r, .int .i64 x.d, .int .i64 x.b, .int .i64 x.m] 25)).cell? ⟨w.heap.size, o, none⟩ = some v → w1.cell? ⟨w.heap.size, o, none⟩ = some v := fun o v h => below_cell hb1 ((World.cell?_alloc_lt _ _ _ (by simp)).trans h)
    have k1 := hA _ _ x1
    have k2 := hA _ _ x2
    have k3 := hA _ _ x3
    obtain ⟨y0, y1, y2, y3, y4, y5, y6⟩ := box_cellsL (w.alloc (Obj.cells #[.int .i64 x.i, .int .i64 x.c, .int .i64 x.t, .int .i64 x.r, .int .i64 x.d, .int .i64 x.b, .int .i64 x.m] 25)) 25 y
    have l1 := below_cell hb1 y1
    have l2 := below_cell hb1 y2
    have l3 := below_cell hb1 y3
    simp only [World.size_alloc] at l1 l2 l3
    have HB := Lib.hid (ext_trans (ext_alloc (ext_alloc (Below.refl w.heap.size w) _) _) hb1)
    clear hA hb1 x0 x1 x2 x3 x4 x5 x6 y0 y1 y2 y3 y4 y5 y6
    go_wp2
    all_goals
      go_ret
      exact ⟨by simp [clB, *], HB.out⟩
theorem clashes_v (x y : Lesn) {v : Bool} (hv : clB x y = v) (w : World) :
    Calls Try.prog 86 #[.agg #[.int .i64 x.i, .int .i64 x.c, .int .i64 x.t, .int .i64 x.r, .int .i64 x.d, .int .i64 x.b, .int .i64 x.m], .agg #[.int .i64 y.i, .int .i64 y.c, .int .i64 y.t, .int .i64 y.r, .int .i64 y.d, .int .i64 y.b, .int .i64 y.m]] w fun e w' => e = .returned (.bool v) ∧ Below w.heap.size w w' := hv ▸ clashes_any x y w

def findN (id : Int) : List Lesn → Nat
  | [] => 0
  | x :: xs => if x.i = id then 0 else findN id xs + 1
theorem findN_le (id : Int) : ∀ xs, findN id xs ≤ xs.length
  | [] => by simp [findN]
  | x :: xs => by
    have := findN_le id xs
    rw [findN, List.length_cons]
    split <;> omega
theorem findN_hit {id : Int} : ∀ {xs : List Lesn} {k : Nat} {x : Lesn}, xs[k]? = some x → x.i = id → (∀ (i : Nat) (y : Lesn), i < k → xs[i]? = some y → y.i ≠ id) → findN id xs = k
  | [], k, x, hx, _, _ => by simp at hx
  | y :: xs, 0, x, hx, hi, _ => by
    obtain rfl : y = x := by simpa using hx
    rw [findN, if_pos hi]
  | y :: xs, k + 1, x, hx, hi, hn => by
    rw [findN, if_neg (hn 0 y (by omega) rfl), findN_hit (by simpa using hx) hi (fun i z h hz => hn (i + 1) z (by omega) (by simpa using hz))]
theorem findN_end {id : Int} : ∀ {xs : List Lesn}, (∀ (i : Nat) (y : Lesn), xs[i]? = some y → y.i ≠ id) → findN id xs = xs.length
  | [], _ => rfl
  | y :: xs, hn => by rw [findN, if_neg (hn 0 y rfl), findN_end (fun i z hz => hn (i + 1) z (by simpa using hz)), List.length_cons]
def findV (id : Int) (xs : List Lesn) : Int := if findN id xs < xs.length then (findN id xs : Int) else -1
set_option maxHeartbeats 1000000 in
theorem l11Find_any (A : Option Addr) (n c B : Nat) (xs : List Lesn) (id : Int) (w : World) (h : Reads w B 7 A n ((lesnF xs).map (Value.int .i64))) (hB : B ≤ w.heap.size) (hn : n ≤ 1048576) :
    Calls Try.prog 77 #[.slice A n c, .int .i64 id] w fun e w' => e = .returned (.int .i64 (findV id xs)) ∧ Below w.heap.size w w' := by
  have hl := h.lesnLen
  have H := Lib.hid h
  have HL := Lib.hid hl
  clear h hl
  go_enter Try.func77, Try.ntmps77
  go_wp2
  go_loopw [5] (fun i wr => ∃ k : Nat, i = .int .i64 k ∧ k ≤ n ∧ (∀ i y, i < k → xs[i]? = some y → y.i ≠ id) ∧ Below w.heap.size w wr) (fun i _ => n - (intOf i).toNat)
  case atStart => exact ⟨0, rfl, by omega, fun i y hi => by omega, Below.refl _ _⟩
  case round =>
    obtain ⟨k, rfl, hk, hh, hb⟩ := hrel
    have HH := Lib.hid hh
    have HB := Lib.hid hb
    clear hh hb
    by_cases hlt : k < n
    · obtain ⟨b, o, x, hAx, hx, hc0, hc1, hc2, hc3, hc4, hc5, hc6⟩ := (H.out.below (HB.out.mono hB)).lesn hlt
      subst hAx
      have HX := Lib.hid hx
      clear hx
      by_cases hp : x.i = id
      · have HV := Lib.hid (show findV id xs = (k : Int) by unfold findV; rw [findN_hit HX.out hp HH.out, if_pos (by rw [HL.out]; exact hlt)])
        have hpb : (x.i == id) = true := by simp [hp]
        clear hp
        go_wp2
        go_ret
        exact ⟨by rw [HV.out]; rfl, HB.out⟩
      · have HN := Lib.hid hp
        have hpb : (x.i == id) = false := by simp [hp]
        clear hp
        go_wp2
        go_roundw
        case rel => exact ⟨k + 1, by go_num, by omega, fun i y hi hy => by
          rcases Nat.lt_or_ge i k with h | h
          · exact HH.out i y h hy
          · obtain rfl : i = k := by omega
            rw [HX.out] at hy; injection hy with hy; rw [← hy]; exact HN.out, HB.out⟩
        case measure => simp [intOf]; omega
    · have HV := Lib.hid (show findV id xs = -1 by
        unfold findV
        rw [findN_end (fun i y hy => HH.out i y (by have := (List.getElem?_eq_some_iff.1 hy).1; have := HL.out; omega) hy), if_neg (by omega)])
      go_wp2
      go_ret
      exact ⟨by rw [HV.out]; rfl, HB.out⟩
set_option maxHeartbeats 1000000 in
theorem lessonAt_any (A : Option Addr) (n c B : Nat) (xs : List Lesn) (id : Int) (w : World) (h : Reads w B 7 A n ((lesnF xs).map (Value.int .i64))) (hB : B ≤ w.heap.size) (hn : n ≤ 1048576) :
    Calls Try.prog 79 #[.slice A n c, .int .i64 id] w fun e w' => e = .returned (.int .i64 (findV id xs)) ∧ Below w.heap.size w w' := by
  have hl := h.lesnLen
  have H := Lib.hid h
  have HL := Lib.hid hl
  clear h hl
  go_enter Try.func79, Try.ntmps79
  go_wp2
  go_loopw [9] (fun i wr => ∃ k : Nat, i = .int .i64 k ∧ k ≤ n ∧ (∀ i y, i < k → xs[i]? = some y → y.i ≠ id) ∧ Below w.heap.size w wr) (fun i _ => n - (intOf i).toNat)
  case atStart => exact ⟨0, rfl, by omega, fun i y hi => by omega, Below.refl _ _⟩
  case round =>
    obtain ⟨k, rfl, hk, hh, hb⟩ := hrel
    have HH := Lib.hid hh
    have HB := Lib.hid hb
    clear hh hb
    by_cases hlt : k < n
    · obtain ⟨b, o, x, hAx, hx, hc0, hc1, hc2, hc3, hc4, hc5, hc6⟩ := (H.out.below (HB.out.mono hB)).lesn hlt
      subst hAx
      have HX := Lib.hid hx
      clear hx
      by_cases hp : x.i = id
      · have HV := Lib.hid (show findV id xs = (k : Int) by unfold findV; rw [findN_hit HX.out hp HH.out, if_pos (by rw [HL.out]; exact hlt)])
        have hpb : (x.i == id) = true := by simp [hp]
        clear hp
        go_wp2
        go_ret
        exact ⟨by rw [HV.out]; rfl, ext_alloc HB.out _⟩
      · have HN := Lib.hid hp
        have hpb : (x.i == id) = false := by simp [hp]
        clear hp
        go_wp2
        go_roundw
        case rel => exact ⟨k + 1, by go_num, by omega, fun i y hi hy => by
          rcases Nat.lt_or_ge i k with h | h
          · exact HH.out i y h hy
          · obtain rfl : i = k := by omega
            rw [HX.out] at hy; injection hy with hy; rw [← hy]; exact HN.out, ext_alloc HB.out _⟩
        case measure => simp [intOf]; omega
    · have HV := Lib.hid (show findV id xs = -1 by
        unfold findV
        rw [findN_end (fun i y hy => HH.out i y (by have := (List.getElem?_eq_some_iff.1 hy).1; have := HL.out; omega) hy), if_neg (by omega)])
      go_wp2
      go_ret
      exact ⟨by rw [HV.out]; rfl, HB.out⟩
end Go.Proofs.Ytnndhgeddfghcaa
