/- The draw of ConvertTo. No condition. -/
import Derived.Test.YthigfbhkdegfkaaDrawX
namespace Go.Proofs.Ythigfbhkdegfkaa
open Go.RowKit

/-- Numbers that can be read at block b. -/
structure LI (X : World) (b n : Nat) : Prop where
  out : ∀ j, j < n → ∃ z, X.cell? ⟨b, j, none⟩ = some (.int .i64 z)
theorem LI.new (X : World) (cs : Array Value) (n : Nat) (hi : cs.toList.all isInt = true) (hn : n ≤ cs.size) : LI (X.alloc (.cells cs 3)) X.heap.size n := ⟨lit_ints X 3 cs n hi hn⟩
theorem LI.later {X Y : World} {b n : Nat} (h : LI X b n) (hb : Below X.heap.size X Y) : LI Y b n := ⟨fun j hj => by
  obtain ⟨z, hz⟩ := h.out j hj
  exact ⟨z, below_cell hb hz⟩⟩
theorem LI.kept {X Y : World} {b n g : Nat} (h : LI X b n) (hg : X.grownBy Y (some g)) (hne : b ≠ g) : LI Y b n := ⟨fun j hj => by
  obtain ⟨z, hz⟩ := h.out j hj
  exact ⟨z, (World.cell?_of_block (hg.block b (World.block_lt_of_cell? _ _ hz) (by intro e; injection e with e; exact hne e))).trans hz⟩⟩
/-- What the draw keeps while it walks. -/
structure DC (w1 X : World) (g tt b3 b9 : Nat) (A : Option Addr) (n c : Nat) (us : List Unt) (D : Option Addr) (m k : Nat) (zs : List Int) : Prop where
  cur : CurOk X g tt
  gr : w1.grownBy X (some g)
  r1 : RowR X (g + 1) 2 A n c (untF us)
  r2 : RowR X (g + 1) 1 D m k (zs.map (Value.int .i64))
  k3 : Blk X b3 28 #[.slice none 0 0]
  k9 : Blk X b9 28 #[.slice D m k]
  n3 : b3 < g
  n9 : g < b9
section
variable {w w1 X Y : World} {g tt tt' b3 b9 n c m k : Nat} {A D : Option Addr} {us : List Unt} {zs : List Int}
theorem DC.later (h : DC w1 X g tt b3 b9 A n c us D m k zs) (hb : Below X.heap.size X Y) : DC w1 Y g tt b3 b9 A n c us D m k zs := ⟨h.cur.below hb, grownBy_any_row h.gr hb, h.r1.later hb, h.r2.later hb, h.k3.below hb h.k3.lt, h.k9.below hb h.k9.lt, h.n3, h.n9⟩
theorem DC.kept (h : DC w1 X g tt b3 b9 A n c us D m k zs) (hg : X.grownBy Y (some g)) (hc : CurOk Y g tt') : DC w1 Y g tt' b3 b9 A n c us D m k zs := by
  have n3 := h.n3
  have n9 := h.n9
  exact ⟨hc, grownBy_trans h.gr hg, h.r1.kept hg (by omega), h.r2.kept hg (by omega), h.k3.grown hg (by intro e; injection e with e; omega), h.k9.grown hg (by intro e; injection e with e; omega), n3, n9⟩
theorem DC.done (h : DC w1 X g tt w.heap.size b9 A n c us D m k zs) {A3 : Option Addr} {n3 c3 : Nat} {vs : List Unt} (r3 : RowR X (g + 1) 2 A3 n3 c3 (untF vs)) (hb1 : Below w.heap.size w w1) (_ : w.heap.size ≤ g) :
    Blk (X.setCell ⟨w.heap.size, 0, none⟩ (.slice D m k)) w.heap.size 28 #[.slice D m k] ∧ Blk (X.setCell ⟨w.heap.size, 0, none⟩ (.slice D m k)) b9 28 #[.slice D m k] ∧ RowR (X.setCell ⟨w.heap.size, 0, none⟩ (.slice D m k)) (g + 1) 2 A n c (untF us) ∧ RowR (X.setCell ⟨w.heap.size, 0, none⟩ (.slice D m k)) (g + 1) 1 D m k (zs.map (Value.int .i64)) ∧ RowR (X.setCell ⟨w.heap.size, 0, none⟩ (.slice D m k)) (g + 1) 2 A3 n3 c3 (untF vs) ∧ Below w.heap.size w (X.setCell ⟨w.heap.size, 0, none⟩ (.slice D m k)) := by
  have n3 := h.n3
  have n9 := h.n9
  refine ⟨h.k3.set_ 0 (.slice D m k), h.k9.far (p := ⟨w.heap.size, 0, none⟩) (by dsimp only; omega) _, h.r1.set (p := ⟨w.heap.size, 0, none⟩) (by dsimp only; omega) _, h.r2.set (p := ⟨w.heap.size, 0, none⟩) (by dsimp only; omega) _, r3.set (p := ⟨w.heap.size, 0, none⟩) (by dsimp only; omega) _, ?_⟩
  exact ext_set (ext_grown hb1 h.gr (fun q e => by injection e with e; omega)) (p := ⟨w.heap.size, 0, none⟩) (Nat.le_refl _) _
end
set_option maxRecDepth 100000 in
set_option maxHeartbeats 64000000 in
theorem DrawConvertTo_any (A : Option Addr) (n c B : Nat) (w : World) (h : CodeOk w B A n) (hB : B ≤ w.heap.size) :
    Calls Try.prog 26 #[.slice A n c] w fun e w' => ∃ (A' : Option Addr) (n' c' : Nat) (us : List Unt) (D : Option Addr) (m k : Nat) (zs : List Int) (A3 : Option Addr) (n3 c3 : Nat) (vs : List Unt) (p q : Int), e = .returned (.tuple #[.slice A' n' c', .agg #[.slice D m k], .slice A3 n3 c3, .int .i64 p, .int .i64 q]) ∧ DrU w' w.heap.size A' n' c' us ∧ DrA w' w.heap.size D m k zs ∧ DrU w' w.heap.size A3 n3 c3 vs ∧ Below w.heap.size w w' := by
  have hb0 := ext_alloc (Below.refl w.heap.size w) (.cells #[.slice none 0 0] 28)
  have hk3 := (Blk.new w 28 #[.slice none 0 0]).alloc (.cells #[.slice A n c, .int .i64 0, .int .u64 0] 75)
  have hcur := cur_new (c := c) (h.below (hb0.mono hB)) (Nat.le_trans hB hb0.size)
  rw [show (w.alloc (.cells #[.slice none 0 0] 28)).heap.size = w.heap.size + 1 by simp] at hcur
  have hb1 := ext_alloc hb0 (.cells #[.slice A n c, .int .i64 0, .int .u64 0] 75)
  generalize hw1 : (w.alloc (.cells #[.slice none 0 0] 28)).alloc (.cells #[.slice A n c, .int .i64 0, .int .u64 0] 75) = w1 at hk3 hcur hb1
  have K31 := Lib.hid hk3
  have H1 := Lib.hid hcur
  have B1 := Lib.hid hb1
  have HW := Lib.hid hw1
  have hg1 := hcur.lt
  clear h hcur hb1 hw1 hb0 hk3
  go_enter Try.func26, Try.ntmps26
  go_wp2_with fail
  rw [HW.out]
  refine (system7_any (w.heap.size + 1) 0 (by omega) w1 H1.out).mono ?_
  rintro e w2 ⟨A', n', c', us, rfl, r1, hn', hnm, hc, hg⟩
  have H2 := Lib.hid hc
  have R1 := Lib.hid r1
  have G2 := Lib.hid hg
  have HNM := Lib.hid hnm
  have K32 := Lib.hid (K31.out.grown hg (by intro e; injection e with e; omega))
  clear hc r1 hg hnm
  go_wp2_with fail
  refine (amount7_any (w.heap.size + 1) (0 + 100) (by omega) A' n' c' hn' w2 H2.out).mono ?_
  rintro e w3 ⟨D, m, k, zs, rfl, r2, hm, hc, hg⟩
  have H3 := Lib.hid hc
  have R2 := Lib.hid r2
  have R13 := Lib.hid (R1.out.kept hg (by omega))
  have hg2 := G2.out.size
  have G3 := Lib.hid (grownBy_trans G2.out hg)
  have k3 := K32.out.grown hg (by intro e; injection e with e; omega)
  have K33 := Lib.hid k3
  clear hc r2 hg k3
  have hw1 : w.heap.size < w.heap.size + 1 := Nat.lt_succ_self _
  have hb1 := B1.out
  have hba := ext_alloc (Below.refl w3.heap.size w3) (.cells #[.slice D m k] 28)
  have D4 := Lib.hid (show DC w1 (w3.alloc (.cells #[.slice D m k] 28)) (w.heap.size + 1) (0 + 100 + 100) w.heap.size w3.heap.size A' n' c' us D m k zs from
    ⟨H3.out.below hba, grownBy_any_row G3.out hba, (R13.out.weak (by omega)).later hba, (R2.out.weak (by omega)).later hba, K33.out.below hba K33.out.lt, Blk.new w3 28 #[.slice D m k], hw1, H3.out.lt⟩)
  generalize hw4 : w3.alloc (.cells #[.slice D m k] 28) = w4 at D4
  have HW4 := Lib.hid hw4
  clear hw4 hba H1 H2 H3 K31 K32 K33 R1 R2 R13 G2 G3 HW hg2
  go_wp2_with fail
  rw [HW4.out]
  go_cut [2, 4, 5, 6] from 18 to 37 (fun s2 s4 s5 s6 wx => ∃ (A3 : Option Addr) (n3 c3 : Nat) (vs : List Unt) (p q : Int), s2 = .slice A' n' c' ∧ s4 = .slice A3 n3 c3 ∧ s5 = .int .i64 p ∧ s6 = .int .i64 q ∧ Blk wx w.heap.size 28 #[.slice D m k] ∧ RowR wx (w.heap.size + 1 + 1) 2 A' n' c' (untF us) ∧ RowR wx (w.heap.size + 1 + 1) 1 D m k (zs.map (Value.int .i64)) ∧ RowR wx (w.heap.size + 1 + 1) 2 A3 n3 c3 (untF vs) ∧ n3 ≤ 8 ∧ (∀ x ∈ vs, x.nm.size ≤ 20) ∧ Below w.heap.size w wx)
  case first =>
    have bX0 : Below w4.heap.size w4 w4.drew := ext_drew (Below.refl _ _)
    refine wp_region_held_drew (S := (fun W => W.cell? ⟨w3.heap.size, 0, none⟩ = some (.slice D m k))) (by kernel_rfl) ?_ (fun hHeld => ?_)
    · (try dsimp only); exact D4.out.k9.cell 0
    obtain ⟨X, hX⟩ : ∃ X, X = World.drew w4 := ⟨_, rfl⟩
    rw [← hX]
    try rw [← hX] at hHeld
    rw [← hX] at bX0
    have bX := bX0
    clear hX bX0
    have d := D4.out.later bX
    clear bX
    refine wpAnyH_takeD (i := 0) (v := ?_) 18 rfl rfl (by kernel_rfl) (by kernel_rfl) (by kernel_rfl) (fun _ _ _ _ _ h => h) (by rfl) (by assumption) ?_ ?_
    rotate_left; focus (intro w hSw; (try dsimp only at hSw); go_simp; try (with_reducible rfl))
    (try simp only [Act.put]); (try simp only [List.setIfInBounds_toArray]); (try simp only [List.set_cons_succ]); (try simp only [List.set_cons_zero])
    refine wpAnyH_takeD (i := 1) (v := ?_) 19 rfl rfl (by kernel_rfl) (by kernel_rfl) (by kernel_rfl) (fun _ _ _ _ _ h => h) (by rfl) (by assumption) ?_ ?_
    rotate_left; focus (intro w hSw; (try dsimp only at hSw); go_simp; try (with_reducible rfl))
    (try simp only [Act.put]); (try simp only [List.setIfInBounds_toArray]); (try simp only [List.set_cons_succ]); (try simp only [List.set_cons_zero])
    refine wpAnyH_takeD (i := 2) (v := ?_) 20 rfl rfl (by kernel_rfl) (by kernel_rfl) (by kernel_rfl) (fun _ _ _ _ _ h => h) (by rfl) (by assumption) ?_ ?_
    rotate_left; focus (intro w hSw; (try dsimp only at hSw); go_simp; try (with_reducible rfl))
    (try simp only [Act.put]); (try simp only [List.setIfInBounds_toArray]); (try simp only [List.set_cons_succ]); (try simp only [List.set_cons_zero])
    refine wpAnyH_takeD (i := 4) (v := ?_) 22 rfl rfl (by kernel_rfl) (by kernel_rfl) (by kernel_rfl) (fun _ _ _ _ _ h => h) (by rfl) (by assumption) ?_ ?_
    rotate_left; focus (intro w hSw; (try dsimp only at hSw); go_simp; try (with_reducible rfl))
    (try simp only [Act.put]); (try simp only [List.setIfInBounds_toArray]); (try simp only [List.set_cons_succ]); (try simp only [List.set_cons_zero])
    refine wpAnyH_takeD (i := 6) (v := ?_) 24 rfl rfl (by kernel_rfl) (by kernel_rfl) (by kernel_rfl) (fun _ _ _ _ _ h => h) (by rfl) (by assumption) ?_ ?_
    rotate_left; focus (intro w hSw; (try dsimp only at hSw); go_simp; try (with_reducible rfl))
    (try simp only [Act.put]); (try simp only [List.setIfInBounds_toArray]); (try simp only [List.set_cons_succ]); (try simp only [List.set_cons_zero])
    refine wpAnyH_takeD (i := 12) (v := ?_) 30 rfl rfl (by kernel_rfl) (by kernel_rfl) (by kernel_rfl) (fun _ _ _ _ _ h => h) (by rfl) (by assumption) ?_ ?_
    rotate_left; focus (intro w hSw; (try dsimp only at hSw); go_simp; try (with_reducible rfl))
    (try simp only [Act.put]); (try simp only [List.setIfInBounds_toArray]); (try simp only [List.set_cons_succ]); (try simp only [List.set_cons_zero])
    refine wpAnyH_takeD (i := 14) (v := ?_) 32 rfl rfl (by kernel_rfl) (by kernel_rfl) (by kernel_rfl) (fun _ _ _ _ _ h => h) (by rfl) (by assumption) ?_ ?_
    rotate_left; focus (intro w hSw; (try dsimp only at hSw); go_simp; try (with_reducible rfl))
    (try simp only [Act.put]); (try simp only [List.setIfInBounds_toArray]); (try simp only [List.set_cons_succ]); (try simp only [List.set_cons_zero])
    refine wpAnyH_ready (rs := [3, 5, 13]) (by kernel_rfl) (by simp) ?_
    refine AllReadyH.cons rfl (fun K hK => ?_) (AllReadyH.cons rfl (fun K hK => ?_) (AllReadyH.cons rfl (fun K hK => ?_) AllReadyH.nil))
    ·have hlX := d.cur.lt
     go_simp; (go_at_call 51; refine (system7_any (w.heap.size + 1) (0 + 100 + 100) (by omega) X d.cur).mono ?_; rintro e X1 ⟨A3, n3, c3, vs, rfl, r3, hn3, hnm3, hc, hg⟩); (try dsimp only)
     have r3 := r3.weak (show w.heap.size + 1 + 1 ≤ _ by omega)
     have d := d.kept hg hc
     clear hg hc hlX
     refine hK.out _ _ (by exact d.k9.cell 0) (fun hHeld => ?_)
     clear hK K; (try simp only [Act.put]); (try simp only [List.setIfInBounds_toArray]); (try simp only [List.set_cons_succ]); (try simp only [List.set_cons_zero])
     refine wpAnyH_ready (rs := [5, 7, 13]) (by kernel_rfl) (by simp) ?_
     refine AllReadyH.cons rfl (fun K hK => ?_) (AllReadyH.cons rfl (fun K hK => ?_) (AllReadyH.cons rfl (fun K hK => ?_) AllReadyH.nil))
     ·have hlX := d.cur.lt
      go_simp
      obtain ⟨X2, hX2⟩ : ∃ X2, X2 = World.alloc X1 (Obj.cells #[.int .i64 1, .int .i64 3, .int .i64 127, .int .i64 10000, .int .i64 0, .int .i64 10001] 3) := ⟨_, rfl⟩
      rw [← hX2]
      have hbe : Below X1.heap.size X1 X2 := hX2 ▸ ext_alloc (Below.refl _ _) _
      have d := d.later hbe
      have r3 := r3.later hbe
      have l5 := LI.new X1 #[.int .i64 1, .int .i64 3, .int .i64 127, .int .i64 10000, .int .i64 0, .int .i64 10001] 6 rfl (by decide)
      rw [← hX2] at l5
      have ne5 : X1.heap.size ≠ w.heap.size + 1 := by have := hlX; omega
      clear hX2 hbe
      clear hlX
      refine hK.out _ _ (by exact d.k9.cell 0) (fun hHeld => ?_)
      clear hK K; (try simp only [Act.put]); (try simp only [List.setIfInBounds_toArray]); (try simp only [List.set_cons_succ]); (try simp only [List.set_cons_zero])
      refine wpAnyH_ready (rs := [7, 13]) (by kernel_rfl) (by simp) ?_
      refine AllReadyH.cons rfl (fun K hK => ?_) (AllReadyH.cons rfl (fun K hK => ?_) AllReadyH.nil)
      ·go_simp; (go_at_call 54; refine (pick_any (w.heap.size + 1) (0 + 100 + 100 + 100) (by omega) 24 (by omega) X2 d.cur).mono ?_; rintro e X3 ⟨q5, rfl, q0, q1, hc, hg⟩); (try dsimp only)
       have l5 := l5.kept hg ne5
       have r3 := r3.kept hg (by omega)
       have d := d.kept hg hc
       obtain ⟨Q5, hQ5⟩ : ∃ Q : Nat, q5 / 11 = (Q : Int) := ⟨(q5 / 11).toNat, by omega⟩
       have bQ5 : Q5 ≤ 2 := by omega
       have wQ5 : IntKind.i64.wrap (q5.tdiv 11) = (Q5 : Int) := by rw [wquo q0 (by omega) (by omega)]; exact hQ5
       have sQ5 : IntKind.i64.wrap (4 + (Q5 : Int)) = 4 + (Q5 : Int) := IntWalk.i64_in _ ⟨by omega, by omega⟩
       have tQ5 : (4 + (Q5 : Int)).toNat = 4 + Q5 := by omega
       have uQ5 : (0 : Int) ≤ 4 + (Q5 : Int) := by omega
       have yQ5 : 4 + (Q5 : Int) ≤ 6 := by omega
       clear hg hc q1 q0 hQ5
       refine hK.out _ _ (by exact d.k9.cell 0) (fun hHeld => ?_)
       clear hK K; (try simp only [Act.put]); (try simp only [List.setIfInBounds_toArray]); (try simp only [List.set_cons_succ]); (try simp only [List.set_cons_zero])
       refine wpAnyH_takeD (i := 8) (v := ?_) 26 rfl rfl (by kernel_rfl) (by kernel_rfl) (by kernel_rfl) (fun _ _ _ _ _ h => h) (by rfl) (by assumption) ?_ ?_
       rotate_left; focus (intro w hSw; (try dsimp only at hSw); go_simp; try (with_reducible rfl))
       (try simp only [Act.put]); (try simp only [List.setIfInBounds_toArray]); (try simp only [List.set_cons_succ]); (try simp only [List.set_cons_zero])
       refine wpAnyH_takeD (i := 9) (v := ?_) 27 rfl rfl (by kernel_rfl) (by kernel_rfl) (by kernel_rfl) (fun _ _ _ _ _ h => h) (by rfl) (by assumption) ?_ ?_
       rotate_left; focus (intro w hSw; (try dsimp only at hSw); go_simp; try (with_reducible rfl))
       (try simp only [Act.put]); (try simp only [List.setIfInBounds_toArray]); (try simp only [List.set_cons_succ]); (try simp only [List.set_cons_zero])
       refine wpAnyH_takeD (i := 10) (v := ?_) 28 rfl rfl (by kernel_rfl) (by kernel_rfl) (by kernel_rfl) (fun _ _ _ _ _ h => h) (by rfl) (by assumption) ?_ ?_
       rotate_left; focus (intro w hSw; (try dsimp only at hSw); go_simp; try (with_reducible rfl))
       (try simp only [Act.put]); (try simp only [List.setIfInBounds_toArray]); (try simp only [List.set_cons_succ]); (try simp only [List.set_cons_zero])
       refine wpAnyH_ready (rs := [11, 13]) (by kernel_rfl) (by simp) ?_
       refine AllReadyH.cons rfl (fun K hK => ?_) (AllReadyH.cons rfl (fun K hK => ?_) AllReadyH.nil)
       ·go_simp; (go_at_call 53; refine (amongB_any (w.heap.size + 1) (0 + 100 + 100 + 100 + 2) (by omega) _ (4 + Q5) 6 X3 d.cur ne5 (fun j hj => l5.out j (by omega)) (by omega) (by omega)).mono ?_; rintro e X4 ⟨p, rfl, hc, hg⟩); (try dsimp only)
        have l5 := l5.kept hg ne5
        have r3 := r3.kept hg (by omega)
        have d := d.kept hg hc
        clear hg hc
        refine hK.out _ _ (by exact d.k9.cell 0) (fun hHeld => ?_)
        clear hK K; (try simp only [Act.put]); (try simp only [List.setIfInBounds_toArray]); (try simp only [List.set_cons_succ]); (try simp only [List.set_cons_zero])
        refine wpAnyH_ready (rs := [13, 15]) (by kernel_rfl) (by simp) ?_
        refine AllReadyH.cons rfl (fun K hK => ?_) (AllReadyH.cons rfl (fun K hK => ?_) AllReadyH.nil)
        ·have hlX := d.cur.lt
         go_simp
         obtain ⟨X5, hX5⟩ : ∃ X5, X5 = World.alloc X4 (Obj.cells #[.int .i64 1, .int .i64 2, .int .i64 5000, .int .i64 10000, .int .i64 0, .int .i64 10001] 3) := ⟨_, rfl⟩
         rw [← hX5]
         have hbe : Below X4.heap.size X4 X5 := hX5 ▸ ext_alloc (Below.refl _ _) _
         have d := d.later hbe
         have l5 := l5.later hbe
         have r3 := r3.later hbe
         have l13 := LI.new X4 #[.int .i64 1, .int .i64 2, .int .i64 5000, .int .i64 10000, .int .i64 0, .int .i64 10001] 6 rfl (by decide)
         rw [← hX5] at l13
         have ne13 : X4.heap.size ≠ w.heap.size + 1 := by have := hlX; omega
         clear hX5 hbe
         clear hlX
         refine hK.out _ _ (by exact d.k9.cell 0) (fun hHeld => ?_)
         clear hK K; (try simp only [Act.put]); (try simp only [List.setIfInBounds_toArray]); (try simp only [List.set_cons_succ]); (try simp only [List.set_cons_zero])
         refine wpAnyH_ready (rs := [15]) (by kernel_rfl) (by simp) ?_
         refine AllReadyH.cons rfl (fun K hK => ?_) AllReadyH.nil
         go_simp; (go_at_call 54; refine (pick_any (w.heap.size + 1) (0 + 100 + 100 + 100 + 2 + 2) (by omega) 24 (by omega) X5 d.cur).mono ?_; rintro e X6 ⟨q13, rfl, q0, q1, hc, hg⟩); (try dsimp only)
         have l5 := l5.kept hg ne5
         have l13 := l13.kept hg ne13
         have r3 := r3.kept hg (by omega)
         have d := d.kept hg hc
         obtain ⟨Q13, hQ13⟩ : ∃ Q : Nat, q13 / 11 = (Q : Int) := ⟨(q13 / 11).toNat, by omega⟩
         have bQ13 : Q13 ≤ 2 := by omega
         have wQ13 : IntKind.i64.wrap (q13.tdiv 11) = (Q13 : Int) := by rw [wquo q0 (by omega) (by omega)]; exact hQ13
         have sQ13 : IntKind.i64.wrap (4 + (Q13 : Int)) = 4 + (Q13 : Int) := IntWalk.i64_in _ ⟨by omega, by omega⟩
         have tQ13 : (4 + (Q13 : Int)).toNat = 4 + Q13 := by omega
         have uQ13 : (0 : Int) ≤ 4 + (Q13 : Int) := by omega
         have yQ13 : 4 + (Q13 : Int) ≤ 6 := by omega
         clear hg hc q1 q0 hQ13
         refine hK.out _ _ (by exact d.k9.cell 0) (fun hHeld => ?_)
         clear hK K; (try simp only [Act.put]); (try simp only [List.setIfInBounds_toArray]); (try simp only [List.set_cons_succ]); (try simp only [List.set_cons_zero])
         refine wpAnyH_takeD (i := 16) (v := ?_) 34 rfl rfl (by kernel_rfl) (by kernel_rfl) (by kernel_rfl) (fun _ _ _ _ _ h => h) (by rfl) (by assumption) ?_ ?_
         rotate_left; focus (intro w hSw; (try dsimp only at hSw); go_simp; try (with_reducible rfl))
         (try simp only [Act.put]); (try simp only [List.setIfInBounds_toArray]); (try simp only [List.set_cons_succ]); (try simp only [List.set_cons_zero])
         refine wpAnyH_takeD (i := 17) (v := ?_) 35 rfl rfl (by kernel_rfl) (by kernel_rfl) (by kernel_rfl) (fun _ _ _ _ _ h => h) (by rfl) (by assumption) ?_ ?_
         rotate_left; focus (intro w hSw; (try dsimp only at hSw); go_simp; try (with_reducible rfl))
         (try simp only [Act.put]); (try simp only [List.setIfInBounds_toArray]); (try simp only [List.set_cons_succ]); (try simp only [List.set_cons_zero])
         refine wpAnyH_takeD (i := 18) (v := ?_) 36 rfl rfl (by kernel_rfl) (by kernel_rfl) (by kernel_rfl) (fun _ _ _ _ _ h => h) (by rfl) (by assumption) ?_ ?_
         rotate_left; focus (intro w hSw; (try dsimp only at hSw); go_simp; try (with_reducible rfl))
         (try simp only [Act.put]); (try simp only [List.setIfInBounds_toArray]); (try simp only [List.set_cons_succ]); (try simp only [List.set_cons_zero])
         refine wpAnyH_ready (rs := [19]) (by kernel_rfl) (by simp) ?_
         refine AllReadyH.cons rfl (fun K hK => ?_) AllReadyH.nil
         go_simp; (go_at_call 53; refine (amongB_any (w.heap.size + 1) (0 + 100 + 100 + 100 + 2 + 2 + 2) (by omega) _ (4 + Q13) 6 X6 d.cur ne13 (fun j hj => l13.out j (by omega)) (by omega) (by omega)).mono ?_; rintro e X7 ⟨q, rfl, hc, hg⟩); (try dsimp only)
         have l5 := l5.kept hg ne5
         have l13 := l13.kept hg ne13
         have r3 := r3.kept hg (by omega)
         have d := d.kept hg hc
         clear hg hc
         refine hK.out _ _ (by exact d.k9.cell 0) (fun hHeld => ?_)
         clear hK K; (try simp only [Act.put]); (try simp only [List.setIfInBounds_toArray]); (try simp only [List.set_cons_succ]); (try simp only [List.set_cons_zero])
         refine wpAnyH_takeD (i := 20) (v := ?_) 2 rfl rfl (by kernel_rfl) (by kernel_rfl) (by kernel_rfl) (fun _ _ _ _ _ h => h) (by rfl) (by assumption) ?_ ?_
         rotate_left; focus (intro w hSw; (try dsimp only at hSw); go_simp; try (with_reducible rfl))
         (try simp only [Act.put]); (try simp only [List.setIfInBounds_toArray]); (try simp only [List.set_cons_succ]); (try simp only [List.set_cons_zero])
         refine wpAnyH_ready (rs := [21]) (by kernel_rfl) (by simp) ?_
         refine AllReadyH.cons rfl (fun K hK => ?_) AllReadyH.nil
         have v3 := d.k3.cell 0
         have f3 := d.k3.frozen 0
         simp only [List.getElem?_toArray, List.getElem?_cons_zero] at v3
         go_simp
         clear v3 f3
         obtain ⟨k3, k9, r1, r2, r3, hb⟩ := d.done r3 hb1 (Nat.le_of_lt hw1)
         generalize World.setCell X7 ⟨w.heap.size, 0, none⟩ (.slice D m k) = X8 at k3 k9 r1 r2 r3 hb ⊢
         refine hK.out _ _ (by exact k9.cell 0) (fun hHeld => ?_)
         clear hK K; (try simp only [Act.put]); (try simp only [List.setIfInBounds_toArray]); (try simp only [List.set_cons_succ]); (try simp only [List.set_cons_zero])
         refine wpAnyH_takeD (i := 22) (v := ?_) 4 rfl rfl (by kernel_rfl) (by kernel_rfl) (by kernel_rfl) (fun _ _ _ _ _ h => h) (by rfl) (by assumption) ?_ ?_
         rotate_left; focus (intro w hSw; (try dsimp only at hSw); go_simp; try (with_reducible rfl))
         (try simp only [Act.put]); (try simp only [List.setIfInBounds_toArray]); (try simp only [List.set_cons_succ]); (try simp only [List.set_cons_zero])
         refine wpAnyH_takeD (i := 23) (v := ?_) 5 rfl rfl (by kernel_rfl) (by kernel_rfl) (by kernel_rfl) (fun _ _ _ _ _ h => h) (by rfl) (by assumption) ?_ ?_
         rotate_left; focus (intro w hSw; (try dsimp only at hSw); go_simp; try (with_reducible rfl))
         (try simp only [Act.put]); (try simp only [List.setIfInBounds_toArray]); (try simp only [List.set_cons_succ]); (try simp only [List.set_cons_zero])
         refine wpAnyH_takeD (i := 24) (v := ?_) 6 rfl rfl (by kernel_rfl) (by kernel_rfl) (by kernel_rfl) (fun _ _ _ _ _ h => h) (by rfl) (by assumption) ?_ ?_
         rotate_left; focus (intro w hSw; (try dsimp only at hSw); go_simp; try (with_reducible rfl))
         (try simp only [Act.put]); (try simp only [List.setIfInBounds_toArray]); (try simp only [List.set_cons_succ]); (try simp only [List.set_cons_zero])
         refine wpAnyH_done (by kernel_rfl) ?_ _
         clear hHeld
         try go_wp2_with fail
         go_meet
         exact ⟨A3, n3, c3, vs, p, q, rfl, rfl, rfl, rfl, k3, r1, r2, r3, hn3, hnm3, hb⟩
        ·go_simp; (go_at_call 54; refine (pick_any (w.heap.size + 1) (0 + 100 + 100 + 100 + 2 + 2) (by omega) 24 (by omega) X4 d.cur).mono ?_; rintro e X9 ⟨q13, rfl, q0, q1, hc, hg⟩); (try dsimp only)
         have l5 := l5.kept hg ne5
         have r3 := r3.kept hg (by omega)
         have d := d.kept hg hc
         obtain ⟨Q13, hQ13⟩ : ∃ Q : Nat, q13 / 11 = (Q : Int) := ⟨(q13 / 11).toNat, by omega⟩
         have bQ13 : Q13 ≤ 2 := by omega
         have wQ13 : IntKind.i64.wrap (q13.tdiv 11) = (Q13 : Int) := by rw [wquo q0 (by omega) (by omega)]; exact hQ13
         have sQ13 : IntKind.i64.wrap (4 + (Q13 : Int)) = 4 + (Q13 : Int) := IntWalk.i64_in _ ⟨by omega, by omega⟩
         have tQ13 : (4 + (Q13 : Int)).toNat = 4 + Q13 := by omega
         have uQ13 : (0 : Int) ≤ 4 + (Q13 : Int) := by omega
         have yQ13 : 4 + (Q13 : Int) ≤ 6 := by omega
         clear hg hc q1 q0 hQ13
         refine hK.out _ _ (by exact d.k9.cell 0) (fun hHeld => ?_)
         clear hK K; (try simp only [Act.put]); (try simp only [List.setIfInBounds_toArray]); (try simp only [List.set_cons_succ]); (try simp only [List.set_cons_zero])
         refine wpAnyH_takeD (i := 16) (v := ?_) 34 rfl rfl (by kernel_rfl) (by kernel_rfl) (by kernel_rfl) (fun _ _ _ _ _ h => h) (by rfl) (by assumption) ?_ ?_
         rotate_left; focus (intro w hSw; (try dsimp only at hSw); go_simp; try (with_reducible rfl))
         (try simp only [Act.put]); (try simp only [List.setIfInBounds_toArray]); (try simp only [List.set_cons_succ]); (try simp only [List.set_cons_zero])
         refine wpAnyH_takeD (i := 17) (v := ?_) 35 rfl rfl (by kernel_rfl) (by kernel_rfl) (by kernel_rfl) (fun _ _ _ _ _ h => h) (by rfl) (by assumption) ?_ ?_
         rotate_left; focus (intro w hSw; (try dsimp only at hSw); go_simp; try (with_reducible rfl))
         (try simp only [Act.put]); (try simp only [List.setIfInBounds_toArray]); (try simp only [List.set_cons_succ]); (try simp only [List.set_cons_zero])
         refine wpAnyH_ready (rs := [13]) (by kernel_rfl) (by simp) ?_
         refine AllReadyH.cons rfl (fun K hK => ?_) AllReadyH.nil
         have hlX := d.cur.lt
         go_simp
         obtain ⟨X10, hX10⟩ : ∃ X10, X10 = World.alloc X9 (Obj.cells #[.int .i64 1, .int .i64 2, .int .i64 5000, .int .i64 10000, .int .i64 0, .int .i64 10001] 3) := ⟨_, rfl⟩
         rw [← hX10]
         have hbe : Below X9.heap.size X9 X10 := hX10 ▸ ext_alloc (Below.refl _ _) _
         have d := d.later hbe
         have l5 := l5.later hbe
         have r3 := r3.later hbe
         have l13 := LI.new X9 #[.int .i64 1, .int .i64 2, .int .i64 5000, .int .i64 10000, .int .i64 0, .int .i64 10001] 6 rfl (by decide)
         rw [← hX10] at l13
         have ne13 : X9.heap.size ≠ w.heap.size + 1 := by have := hlX; omega
         clear hX10 hbe
         clear hlX
         refine hK.out _ _ (by exact d.k9.cell 0) (fun hHeld => ?_)
         clear hK K; (try simp only [Act.put]); (try simp only [List.setIfInBounds_toArray]); (try simp only [List.set_cons_succ]); (try simp only [List.set_cons_zero])
         refine wpAnyH_takeD (i := 18) (v := ?_) 36 rfl rfl (by kernel_rfl) (by kernel_rfl) (by kernel_rfl) (fun _ _ _ _ _ h => h) (by rfl) (by assumption) ?_ ?_
         rotate_left; focus (intro w hSw; (try dsimp only at hSw); go_simp; try (with_reducible rfl))
         (try simp only [Act.put]); (try simp only [List.setIfInBounds_toArray]); (try simp only [List.set_cons_succ]); (try simp only [List.set_cons_zero])
         refine wpAnyH_ready (rs := [19]) (by kernel_rfl) (by simp) ?_
         refine AllReadyH.cons rfl (fun K hK => ?_) AllReadyH.nil
         go_simp; (go_at_call 53; refine (amongB_any (w.heap.size + 1) (0 + 100 + 100 + 100 + 2 + 2 + 2) (by omega) _ (4 + Q13) 6 X10 d.cur ne13 (fun j hj => l13.out j (by omega)) (by omega) (by omega)).mono ?_; rintro e X11 ⟨q, rfl, hc, hg⟩); (try dsimp only)
         have l5 := l5.kept hg ne5
         have l13 := l13.kept hg ne13
         have r3 := r3.kept hg (by omega)
         have d := d.kept hg hc
         clear hg hc
         refine hK.out _ _ (by exact d.k9.cell 0) (fun hHeld => ?_)
         clear hK K; (try simp only [Act.put]); (try simp only [List.setIfInBounds_toArray]); (try simp only [List.set_cons_succ]); (try simp only [List.set_cons_zero])
         refine wpAnyH_takeD (i := 20) (v := ?_) 2 rfl rfl (by kernel_rfl) (by kernel_rfl) (by kernel_rfl) (fun _ _ _ _ _ h => h) (by rfl) (by assumption) ?_ ?_
         rotate_left; focus (intro w hSw; (try dsimp only at hSw); go_simp; try (with_reducible rfl))
         (try simp only [Act.put]); (try simp only [List.setIfInBounds_toArray]); (try simp only [List.set_cons_succ]); (try simp only [List.set_cons_zero])
         refine wpAnyH_ready (rs := [21]) (by kernel_rfl) (by simp) ?_
         refine AllReadyH.cons rfl (fun K hK => ?_) AllReadyH.nil
         have v3 := d.k3.cell 0
         have f3 := d.k3.frozen 0
         simp only [List.getElem?_toArray, List.getElem?_cons_zero] at v3
         go_simp
         clear v3 f3
         obtain ⟨k3, k9, r1, r2, r3, hb⟩ := d.done r3 hb1 (Nat.le_of_lt hw1)
         generalize World.setCell X11 ⟨w.heap.size, 0, none⟩ (.slice D m k) = X12 at k3 k9 r1 r2 r3 hb ⊢
         refine hK.out _ _ (by exact k9.cell 0) (fun hHeld => ?_)
         clear hK K; (try simp only [Act.put]); (try simp only [List.setIfInBounds_toArray]); (try simp only [List.set_cons_succ]); (try simp only [List.set_cons_zero])
         refine wpAnyH_takeD (i := 22) (v := ?_) 4 rfl rfl (by kernel_rfl) (by kernel_rfl) (by kernel_rfl) (fun _ _ _ _ _ h => h) (by rfl) (by assumption) ?_ ?_
         rotate_left; focus (intro w hSw; (try dsimp only at hSw); go_simp; try (with_reducible rfl))
         (try simp only [Act.put]); (try simp only [List.setIfInBounds_toArray]); (try simp only [List.set_cons_succ]); (try simp only [List.set_cons_zero])
         refine wpAnyH_takeD (i := 23) (v := ?_) 5 rfl rfl (by kernel_rfl) (by kernel_rfl) (by kernel_rfl) (fun _ _ _ _ _ h => h) (by rfl) (by assumption) ?_ ?_
         rotate_left; focus (intro w hSw; (try dsimp only at hSw); go_simp; try (with_reducible rfl))
         (try simp only [Act.put]); (try simp only [List.setIfInBounds_toArray]); (try simp only [List.set_cons_succ]); (try simp only [List.set_cons_zero])
         refine wpAnyH_takeD (i := 24) (v := ?_) 6 rfl rfl (by kernel_rfl) (by kernel_rfl) (by kernel_rfl) (fun _ _ _ _ _ h => h) (by rfl) (by assumption) ?_ ?_
         rotate_left; focus (intro w hSw; (try dsimp only at hSw); go_simp; try (with_reducible rfl))
         (try simp only [Act.put]); (try simp only [List.setIfInBounds_toArray]); (try simp only [List.set_cons_succ]); (try simp only [List.set_cons_zero])
         refine wpAnyH_done (by kernel_rfl) ?_ _
         clear hHeld
         try go_wp2_with fail
         go_meet
         exact ⟨A3, n3, c3, vs, p, q, rfl, rfl, rfl, rfl, k3, r1, r2, r3, hn3, hnm3, hb⟩
       ·have hlX := d.cur.lt
        go_simp
        obtain ⟨X13, hX13⟩ : ∃ X13, X13 = World.alloc X3 (Obj.cells #[.int .i64 1, .int .i64 2, .int .i64 5000, .int .i64 10000, .int .i64 0, .int .i64 10001] 3) := ⟨_, rfl⟩
        rw [← hX13]
        have hbe : Below X3.heap.size X3 X13 := hX13 ▸ ext_alloc (Below.refl _ _) _
        have d := d.later hbe
        have l5 := l5.later hbe
        have r3 := r3.later hbe
        have l13 := LI.new X3 #[.int .i64 1, .int .i64 2, .int .i64 5000, .int .i64 10000, .int .i64 0, .int .i64 10001] 6 rfl (by decide)
        rw [← hX13] at l13
        have ne13 : X3.heap.size ≠ w.heap.size + 1 := by have := hlX; omega
        clear hX13 hbe
        clear hlX
        refine hK.out _ _ (by exact d.k9.cell 0) (fun hHeld => ?_)
        clear hK K; (try simp only [Act.put]); (try simp only [List.setIfInBounds_toArray]); (try simp only [List.set_cons_succ]); (try simp only [List.set_cons_zero])
        refine wpAnyH_ready (rs := [11]) (by kernel_rfl) (by simp) ?_
        refine AllReadyH.cons rfl (fun K hK => ?_) AllReadyH.nil
        go_simp; (go_at_call 53; refine (amongB_any (w.heap.size + 1) (0 + 100 + 100 + 100 + 2) (by omega) _ (4 + Q5) 6 X13 d.cur ne5 (fun j hj => l5.out j (by omega)) (by omega) (by omega)).mono ?_; rintro e X14 ⟨p, rfl, hc, hg⟩); (try dsimp only)
        have l5 := l5.kept hg ne5
        have l13 := l13.kept hg ne13
        have r3 := r3.kept hg (by omega)
        have d := d.kept hg hc
        clear hg hc
        refine hK.out _ _ (by exact d.k9.cell 0) (fun hHeld => ?_)
        clear hK K; (try simp only [Act.put]); (try simp only [List.setIfInBounds_toArray]); (try simp only [List.set_cons_succ]); (try simp only [List.set_cons_zero])
        refine wpAnyH_ready (rs := [15]) (by kernel_rfl) (by simp) ?_
        refine AllReadyH.cons rfl (fun K hK => ?_) AllReadyH.nil
        go_simp; (go_at_call 54; refine (pick_any (w.heap.size + 1) (0 + 100 + 100 + 100 + 2 + 2) (by omega) 24 (by omega) X14 d.cur).mono ?_; rintro e X15 ⟨q13, rfl, q0, q1, hc, hg⟩); (try dsimp only)
        have l5 := l5.kept hg ne5
        have l13 := l13.kept hg ne13
        have r3 := r3.kept hg (by omega)
        have d := d.kept hg hc
        obtain ⟨Q13, hQ13⟩ : ∃ Q : Nat, q13 / 11 = (Q : Int) := ⟨(q13 / 11).toNat, by omega⟩
        have bQ13 : Q13 ≤ 2 := by omega
        have wQ13 : IntKind.i64.wrap (q13.tdiv 11) = (Q13 : Int) := by rw [wquo q0 (by omega) (by omega)]; exact hQ13
        have sQ13 : IntKind.i64.wrap (4 + (Q13 : Int)) = 4 + (Q13 : Int) := IntWalk.i64_in _ ⟨by omega, by omega⟩
        have tQ13 : (4 + (Q13 : Int)).toNat = 4 + Q13 := by omega
        have uQ13 : (0 : Int) ≤ 4 + (Q13 : Int) := by omega
        have yQ13 : 4 + (Q13 : Int) ≤ 6 := by omega
        clear hg hc q1 q0 hQ13
        refine hK.out _ _ (by exact d.k9.cell 0) (fun hHeld => ?_)
        clear hK K; (try simp only [Act.put]); (try simp only [List.setIfInBounds_toArray]); (try simp only [List.set_cons_succ]); (try simp only [List.set_cons_zero])
        refine wpAnyH_takeD (i := 16) (v := ?_) 34 rfl rfl (by kernel_rfl) (by kernel_rfl) (by kernel_rfl) (fun _ _ _ _ _ h => h) (by rfl) (by assumption) ?_ ?_
        rotate_left; focus (intro w hSw; (try dsimp only at hSw); go_simp; try (with_reducible rfl))
        (try simp only [Act.put]); (try simp only [List.setIfInBounds_toArray]); (try simp only [List.set_cons_succ]); (try simp only [List.set_cons_zero])
        refine wpAnyH_takeD (i := 17) (v := ?_) 35 rfl rfl (by kernel_rfl) (by kernel_rfl) (by kernel_rfl) (fun _ _ _ _ _ h => h) (by rfl) (by assumption) ?_ ?_
        rotate_left; focus (intro w hSw; (try dsimp only at hSw); go_simp; try (with_reducible rfl))
        (try simp only [Act.put]); (try simp only [List.setIfInBounds_toArray]); (try simp only [List.set_cons_succ]); (try simp only [List.set_cons_zero])
        refine wpAnyH_takeD (i := 18) (v := ?_) 36 rfl rfl (by kernel_rfl) (by kernel_rfl) (by kernel_rfl) (fun _ _ _ _ _ h => h) (by rfl) (by assumption) ?_ ?_
        rotate_left; focus (intro w hSw; (try dsimp only at hSw); go_simp; try (with_reducible rfl))
        (try simp only [Act.put]); (try simp only [List.setIfInBounds_toArray]); (try simp only [List.set_cons_succ]); (try simp only [List.set_cons_zero])
        refine wpAnyH_ready (rs := [19]) (by kernel_rfl) (by simp) ?_
        refine AllReadyH.cons rfl (fun K hK => ?_) AllReadyH.nil
        go_simp; (go_at_call 53; refine (amongB_any (w.heap.size + 1) (0 + 100 + 100 + 100 + 2 + 2 + 2) (by omega) _ (4 + Q13) 6 X15 d.cur ne13 (fun j hj => l13.out j (by omega)) (by omega) (by omega)).mono ?_; rintro e X16 ⟨q, rfl, hc, hg⟩); (try dsimp only)
        have l5 := l5.kept hg ne5
        have l13 := l13.kept hg ne13
        have r3 := r3.kept hg (by omega)
        have d := d.kept hg hc
        clear hg hc
        refine hK.out _ _ (by exact d.k9.cell 0) (fun hHeld => ?_)
        clear hK K; (try simp only [Act.put]); (try simp only [List.setIfInBounds_toArray]); (try simp only [List.set_cons_succ]); (try simp only [List.set_cons_zero])
        refine wpAnyH_takeD (i := 20) (v := ?_) 2 rfl rfl (by kernel_rfl) (by kernel_rfl) (by kernel_rfl) (fun _ _ _ _ _ h => h) (by rfl) (by assumption) ?_ ?_
        rotate_left; focus (intro w hSw; (try dsimp only at hSw); go_simp; try (with_reducible rfl))
        (try simp only [Act.put]); (try simp only [List.setIfInBounds_toArray]); (try simp only [List.set_cons_succ]); (try simp only [List.set_cons_zero])
        refine wpAnyH_ready (rs := [21]) (by kernel_rfl) (by simp) ?_
        refine AllReadyH.cons rfl (fun K hK => ?_) AllReadyH.nil
        have v3 := d.k3.cell 0
        have f3 := d.k3.frozen 0
        simp only [List.getElem?_toArray, List.getElem?_cons_zero] at v3
        go_simp
        clear v3 f3
        obtain ⟨k3, k9, r1, r2, r3, hb⟩ := d.done r3 hb1 (Nat.le_of_lt hw1)
        generalize World.setCell X16 ⟨w.heap.size, 0, none⟩ (.slice D m k) = X17 at k3 k9 r1 r2 r3 hb ⊢
        refine hK.out _ _ (by exact k9.cell 0) (fun hHeld => ?_)
        clear hK K; (try simp only [Act.put]); (try simp only [List.setIfInBounds_toArray]); (try simp only [List.set_cons_succ]); (try simp only [List.set_cons_zero])
        refine wpAnyH_takeD (i := 22) (v := ?_) 4 rfl rfl (by kernel_rfl) (by kernel_rfl) (by kernel_rfl) (fun _ _ _ _ _ h => h) (by rfl) (by assumption) ?_ ?_
        rotate_left; focus (intro w hSw; (try dsimp only at hSw); go_simp; try (with_reducible rfl))
        (try simp only [Act.put]); (try simp only [List.setIfInBounds_toArray]); (try simp only [List.set_cons_succ]); (try simp only [List.set_cons_zero])
        refine wpAnyH_takeD (i := 23) (v := ?_) 5 rfl rfl (by kernel_rfl) (by kernel_rfl) (by kernel_rfl) (fun _ _ _ _ _ h => h) (by rfl) (by assumption) ?_ ?_
        rotate_left; focus (intro w hSw; (try dsimp only at hSw); go_simp; try (with_reducible rfl))
        (try simp only [Act.put]); (try simp only [List.setIfInBounds_toArray]); (try simp only [List.set_cons_succ]); (try simp only [List.set_cons_zero])
        refine wpAnyH_takeD (i := 24) (v := ?_) 6 rfl rfl (by kernel_rfl) (by kernel_rfl) (by kernel_rfl) (fun _ _ _ _ _ h => h) (by rfl) (by assumption) ?_ ?_
        rotate_left; focus (intro w hSw; (try dsimp only at hSw); go_simp; try (with_reducible rfl))
        (try simp only [Act.put]); (try simp only [List.setIfInBounds_toArray]); (try simp only [List.set_cons_succ]); (try simp only [List.set_cons_zero])
        refine wpAnyH_done (by kernel_rfl) ?_ _
        clear hHeld
        try go_wp2_with fail
        go_meet
        exact ⟨A3, n3, c3, vs, p, q, rfl, rfl, rfl, rfl, k3, r1, r2, r3, hn3, hnm3, hb⟩
      ·have hlX := d.cur.lt
       go_simp
       obtain ⟨X18, hX18⟩ : ∃ X18, X18 = World.alloc X2 (Obj.cells #[.int .i64 1, .int .i64 2, .int .i64 5000, .int .i64 10000, .int .i64 0, .int .i64 10001] 3) := ⟨_, rfl⟩
       rw [← hX18]
       have hbe : Below X2.heap.size X2 X18 := hX18 ▸ ext_alloc (Below.refl _ _) _
       have d := d.later hbe
       have l5 := l5.later hbe
       have r3 := r3.later hbe
       have l13 := LI.new X2 #[.int .i64 1, .int .i64 2, .int .i64 5000, .int .i64 10000, .int .i64 0, .int .i64 10001] 6 rfl (by decide)
       rw [← hX18] at l13
       have ne13 : X2.heap.size ≠ w.heap.size + 1 := by have := hlX; omega
       clear hX18 hbe
       clear hlX
       refine hK.out _ _ (by exact d.k9.cell 0) (fun hHeld => ?_)
       clear hK K; (try simp only [Act.put]); (try simp only [List.setIfInBounds_toArray]); (try simp only [List.set_cons_succ]); (try simp only [List.set_cons_zero])
       refine wpAnyH_ready (rs := [7]) (by kernel_rfl) (by simp) ?_
       refine AllReadyH.cons rfl (fun K hK => ?_) AllReadyH.nil
       go_simp; (go_at_call 54; refine (pick_any (w.heap.size + 1) (0 + 100 + 100 + 100) (by omega) 24 (by omega) X18 d.cur).mono ?_; rintro e X19 ⟨q5, rfl, q0, q1, hc, hg⟩); (try dsimp only)
       have l5 := l5.kept hg ne5
       have l13 := l13.kept hg ne13
       have r3 := r3.kept hg (by omega)
       have d := d.kept hg hc
       obtain ⟨Q5, hQ5⟩ : ∃ Q : Nat, q5 / 11 = (Q : Int) := ⟨(q5 / 11).toNat, by omega⟩
       have bQ5 : Q5 ≤ 2 := by omega
       have wQ5 : IntKind.i64.wrap (q5.tdiv 11) = (Q5 : Int) := by rw [wquo q0 (by omega) (by omega)]; exact hQ5
       have sQ5 : IntKind.i64.wrap (4 + (Q5 : Int)) = 4 + (Q5 : Int) := IntWalk.i64_in _ ⟨by omega, by omega⟩
       have tQ5 : (4 + (Q5 : Int)).toNat = 4 + Q5 := by omega
       have uQ5 : (0 : Int) ≤ 4 + (Q5 : Int) := by omega
       have yQ5 : 4 + (Q5 : Int) ≤ 6 := by omega
       clear hg hc q1 q0 hQ5
       refine hK.out _ _ (by exact d.k9.cell 0) (fun hHeld => ?_)
       clear hK K; (try simp only [Act.put]); (try simp only [List.setIfInBounds_toArray]); (try simp only [List.set_cons_succ]); (try simp only [List.set_cons_zero])
       refine wpAnyH_takeD (i := 8) (v := ?_) 26 rfl rfl (by kernel_rfl) (by kernel_rfl) (by kernel_rfl) (fun _ _ _ _ _ h => h) (by rfl) (by assumption) ?_ ?_
       rotate_left; focus (intro w hSw; (try dsimp only at hSw); go_simp; try (with_reducible rfl))
       (try simp only [Act.put]); (try simp only [List.setIfInBounds_toArray]); (try simp only [List.set_cons_succ]); (try simp only [List.set_cons_zero])
       refine wpAnyH_takeD (i := 9) (v := ?_) 27 rfl rfl (by kernel_rfl) (by kernel_rfl) (by kernel_rfl) (fun _ _ _ _ _ h => h) (by rfl) (by assumption) ?_ ?_
       rotate_left; focus (intro w hSw; (try dsimp only at hSw); go_simp; try (with_reducible rfl))
       (try simp only [Act.put]); (try simp only [List.setIfInBounds_toArray]); (try simp only [List.set_cons_succ]); (try simp only [List.set_cons_zero])
       refine wpAnyH_takeD (i := 10) (v := ?_) 28 rfl rfl (by kernel_rfl) (by kernel_rfl) (by kernel_rfl) (fun _ _ _ _ _ h => h) (by rfl) (by assumption) ?_ ?_
       rotate_left; focus (intro w hSw; (try dsimp only at hSw); go_simp; try (with_reducible rfl))
       (try simp only [Act.put]); (try simp only [List.setIfInBounds_toArray]); (try simp only [List.set_cons_succ]); (try simp only [List.set_cons_zero])
       refine wpAnyH_ready (rs := [11]) (by kernel_rfl) (by simp) ?_
       refine AllReadyH.cons rfl (fun K hK => ?_) AllReadyH.nil
       go_simp; (go_at_call 53; refine (amongB_any (w.heap.size + 1) (0 + 100 + 100 + 100 + 2) (by omega) _ (4 + Q5) 6 X19 d.cur ne5 (fun j hj => l5.out j (by omega)) (by omega) (by omega)).mono ?_; rintro e X20 ⟨p, rfl, hc, hg⟩); (try dsimp only)
       have l5 := l5.kept hg ne5
       have l13 := l13.kept hg ne13
       have r3 := r3.kept hg (by omega)
       have d := d.kept hg hc
       clear hg hc
       refine hK.out _ _ (by exact d.k9.cell 0) (fun hHeld => ?_)
       clear hK K; (try simp only [Act.put]); (try simp only [List.setIfInBounds_toArray]); (try simp only [List.set_cons_succ]); (try simp only [List.set_cons_zero])
       refine wpAnyH_ready (rs := [15]) (by kernel_rfl) (by simp) ?_
       refine AllReadyH.cons rfl (fun K hK => ?_) AllReadyH.nil
       go_simp; (go_at_call 54; refine (pick_any (w.heap.size + 1) (0 + 100 + 100 + 100 + 2 + 2) (by omega) 24 (by omega) X20 d.cur).mono ?_; rintro e X21 ⟨q13, rfl, q0, q1, hc, hg⟩); (try dsimp only)
       have l5 := l5.kept hg ne5
       have l13 := l13.kept hg ne13
       have r3 := r3.kept hg (by omega)
       have d := d.kept hg hc
       obtain ⟨Q13, hQ13⟩ : ∃ Q : Nat, q13 / 11 = (Q : Int) := ⟨(q13 / 11).toNat, by omega⟩
       have bQ13 : Q13 ≤ 2 := by omega
       have wQ13 : IntKind.i64.wrap (q13.tdiv 11) = (Q13 : Int) := by rw [wquo q0 (by omega) (by omega)]; exact hQ13
       have sQ13 : IntKind.i64.wrap (4 + (Q13 : Int)) = 4 + (Q13 : Int) := IntWalk.i64_in _ ⟨by omega, by omega⟩
       have tQ13 : (4 + (Q13 : Int)).toNat = 4 + Q13 := by omega
       have uQ13 : (0 : Int) ≤ 4 + (Q13 : Int) := by omega
       have yQ13 : 4 + (Q13 : Int) ≤ 6 := by omega
       clear hg hc q1 q0 hQ13
       refine hK.out _ _ (by exact d.k9.cell 0) (fun hHeld => ?_)
       clear hK K; (try simp only [Act.put]); (try simp only [List.setIfInBounds_toArray]); (try simp only [List.set_cons_succ]); (try simp only [List.set_cons_zero])
       refine wpAnyH_takeD (i := 16) (v := ?_) 34 rfl rfl (by kernel_rfl) (by kernel_rfl) (by kernel_rfl) (fun _ _ _ _ _ h => h) (by rfl) (by assumption) ?_ ?_
       rotate_left; focus (intro w hSw; (try dsimp only at hSw); go_simp; try (with_reducible rfl))
       (try simp only [Act.put]); (try simp only [List.setIfInBounds_toArray]); (try simp only [List.set_cons_succ]); (try simp only [List.set_cons_zero])
       refine wpAnyH_takeD (i := 17) (v := ?_) 35 rfl rfl (by kernel_rfl) (by kernel_rfl) (by kernel_rfl) (fun _ _ _ _ _ h => h) (by rfl) (by assumption) ?_ ?_
       rotate_left; focus (intro w hSw; (try dsimp only at hSw); go_simp; try (with_reducible rfl))
       (try simp only [Act.put]); (try simp only [List.setIfInBounds_toArray]); (try simp only [List.set_cons_succ]); (try simp only [List.set_cons_zero])
       refine wpAnyH_takeD (i := 18) (v := ?_) 36 rfl rfl (by kernel_rfl) (by kernel_rfl) (by kernel_rfl) (fun _ _ _ _ _ h => h) (by rfl) (by assumption) ?_ ?_
       rotate_left; focus (intro w hSw; (try dsimp only at hSw); go_simp; try (with_reducible rfl))
       (try simp only [Act.put]); (try simp only [List.setIfInBounds_toArray]); (try simp only [List.set_cons_succ]); (try simp only [List.set_cons_zero])
       refine wpAnyH_ready (rs := [19]) (by kernel_rfl) (by simp) ?_
       refine AllReadyH.cons rfl (fun K hK => ?_) AllReadyH.nil
       go_simp; (go_at_call 53; refine (amongB_any (w.heap.size + 1) (0 + 100 + 100 + 100 + 2 + 2 + 2) (by omega) _ (4 + Q13) 6 X21 d.cur ne13 (fun j hj => l13.out j (by omega)) (by omega) (by omega)).mono ?_; rintro e X22 ⟨q, rfl, hc, hg⟩); (try dsimp only)
       have l5 := l5.kept hg ne5
       have l13 := l13.kept hg ne13
       have r3 := r3.kept hg (by omega)
       have d := d.kept hg hc
       clear hg hc
       refine hK.out _ _ (by exact d.k9.cell 0) (fun hHeld => ?_)
       clear hK K; (try simp only [Act.put]); (try simp only [List.setIfInBounds_toArray]); (try simp only [List.set_cons_succ]); (try simp only [List.set_cons_zero])
       refine wpAnyH_takeD (i := 20) (v := ?_) 2 rfl rfl (by kernel_rfl) (by kernel_rfl) (by kernel_rfl) (fun _ _ _ _ _ h => h) (by rfl) (by assumption) ?_ ?_
       rotate_left; focus (intro w hSw; (try dsimp only at hSw); go_simp; try (with_reducible rfl))
       (try simp only [Act.put]); (try simp only [List.setIfInBounds_toArray]); (try simp only [List.set_cons_succ]); (try simp only [List.set_cons_zero])
       refine wpAnyH_ready (rs := [21]) (by kernel_rfl) (by simp) ?_
       refine AllReadyH.cons rfl (fun K hK => ?_) AllReadyH.nil
       have v3 := d.k3.cell 0
       have f3 := d.k3.frozen 0
       simp only [List.getElem?_toArray, List.getElem?_cons_zero] at v3
       go_simp
       clear v3 f3
       obtain ⟨k3, k9, r1, r2, r3, hb⟩ := d.done r3 hb1 (Nat.le_of_lt hw1)
       generalize World.setCell X22 ⟨w.heap.size, 0, none⟩ (.slice D m k) = X23 at k3 k9 r1 r2 r3 hb ⊢
       refine hK.out _ _ (by exact k9.cell 0) (fun hHeld => ?_)
       clear hK K; (try simp only [Act.put]); (try simp only [List.setIfInBounds_toArray]); (try simp only [List.set_cons_succ]); (try simp only [List.set_cons_zero])
       refine wpAnyH_takeD (i := 22) (v := ?_) 4 rfl rfl (by kernel_rfl) (by kernel_rfl) (by kernel_rfl) (fun _ _ _ _ _ h => h) (by rfl) (by assumption) ?_ ?_
       rotate_left; focus (intro w hSw; (try dsimp only at hSw); go_simp; try (with_reducible rfl))
       (try simp only [Act.put]); (try simp only [List.setIfInBounds_toArray]); (try simp only [List.set_cons_succ]); (try simp only [List.set_cons_zero])
       refine wpAnyH_takeD (i := 23) (v := ?_) 5 rfl rfl (by kernel_rfl) (by kernel_rfl) (by kernel_rfl) (fun _ _ _ _ _ h => h) (by rfl) (by assumption) ?_ ?_
       rotate_left; focus (intro w hSw; (try dsimp only at hSw); go_simp; try (with_reducible rfl))
       (try simp only [Act.put]); (try simp only [List.setIfInBounds_toArray]); (try simp only [List.set_cons_succ]); (try simp only [List.set_cons_zero])
       refine wpAnyH_takeD (i := 24) (v := ?_) 6 rfl rfl (by kernel_rfl) (by kernel_rfl) (by kernel_rfl) (fun _ _ _ _ _ h => h) (by rfl) (by assumption) ?_ ?_
       rotate_left; focus (intro w hSw; (try dsimp only at hSw); go_simp; try (with_reducible rfl))
       (try simp only [Act.put]); (try simp only [List.setIfInBounds_toArray]); (try simp only [List.set_cons_succ]); (try simp only [List.set_cons_zero])
       refine wpAnyH_done (by kernel_rfl) ?_ _
       clear hHeld
       try go_wp2_with fail
       go_meet
       exact ⟨A3, n3, c3, vs, p, q, rfl, rfl, rfl, rfl, k3, r1, r2, r3, hn3, hnm3, hb⟩
     ·go_simp; (go_at_call 54; refine (pick_any (w.heap.size + 1) (0 + 100 + 100 + 100) (by omega) 24 (by omega) X1 d.cur).mono ?_; rintro e X24 ⟨q5, rfl, q0, q1, hc, hg⟩); (try dsimp only)
      have r3 := r3.kept hg (by omega)
      have d := d.kept hg hc
      obtain ⟨Q5, hQ5⟩ : ∃ Q : Nat, q5 / 11 = (Q : Int) := ⟨(q5 / 11).toNat, by omega⟩
      have bQ5 : Q5 ≤ 2 := by omega
      have wQ5 : IntKind.i64.wrap (q5.tdiv 11) = (Q5 : Int) := by rw [wquo q0 (by omega) (by omega)]; exact hQ5
      have sQ5 : IntKind.i64.wrap (4 + (Q5 : Int)) = 4 + (Q5 : Int) := IntWalk.i64_in _ ⟨by omega, by omega⟩
      have tQ5 : (4 + (Q5 : Int)).toNat = 4 + Q5 := by omega
      have uQ5 : (0 : Int) ≤ 4 + (Q5 : Int) := by omega
      have yQ5 : 4 + (Q5 : Int) ≤ 6 := by omega
      clear hg hc q1 q0 hQ5
      refine hK.out _ _ (by exact d.k9.cell 0) (fun hHeld => ?_)
      clear hK K; (try simp only [Act.put]); (try simp only [List.setIfInBounds_toArray]); (try simp only [List.set_cons_succ]); (try simp only [List.set_cons_zero])
      refine wpAnyH_takeD (i := 8) (v := ?_) 26 rfl rfl (by kernel_rfl) (by kernel_rfl) (by kernel_rfl) (fun _ _ _ _ _ h => h) (by rfl) (by assumption) ?_ ?_
      rotate_left; focus (intro w hSw; (try dsimp only at hSw); go_simp; try (with_reducible rfl))
      (try simp only [Act.put]); (try simp only [List.setIfInBounds_toArray]); (try simp only [List.set_cons_succ]); (try simp only [List.set_cons_zero])
      refine wpAnyH_takeD (i := 9) (v := ?_) 27 rfl rfl (by kernel_rfl) (by kernel_rfl) (by kernel_rfl) (fun _ _ _ _ _ h => h) (by rfl) (by assumption) ?_ ?_
      rotate_left; focus (intro w hSw; (try dsimp only at hSw); go_simp; try (with_reducible rfl))
      (try simp only [Act.put]); (try simp only [List.setIfInBounds_toArray]); (try simp only [List.set_cons_succ]); (try simp only [List.set_cons_zero])
      refine wpAnyH_ready (rs := [5, 13]) (by kernel_rfl) (by simp) ?_
      refine AllReadyH.cons rfl (fun K hK => ?_) (AllReadyH.cons rfl (fun K hK => ?_) AllReadyH.nil)
      ·have hlX := d.cur.lt
       go_simp
       obtain ⟨X25, hX25⟩ : ∃ X25, X25 = World.alloc X24 (Obj.cells #[.int .i64 1, .int .i64 3, .int .i64 127, .int .i64 10000, .int .i64 0, .int .i64 10001] 3) := ⟨_, rfl⟩
       rw [← hX25]
       have hbe : Below X24.heap.size X24 X25 := hX25 ▸ ext_alloc (Below.refl _ _) _
       have d := d.later hbe
       have r3 := r3.later hbe
       have l5 := LI.new X24 #[.int .i64 1, .int .i64 3, .int .i64 127, .int .i64 10000, .int .i64 0, .int .i64 10001] 6 rfl (by decide)
       rw [← hX25] at l5
       have ne5 : X24.heap.size ≠ w.heap.size + 1 := by have := hlX; omega
       clear hX25 hbe
       clear hlX
       refine hK.out _ _ (by exact d.k9.cell 0) (fun hHeld => ?_)
       clear hK K; (try simp only [Act.put]); (try simp only [List.setIfInBounds_toArray]); (try simp only [List.set_cons_succ]); (try simp only [List.set_cons_zero])
       refine wpAnyH_takeD (i := 10) (v := ?_) 28 rfl rfl (by kernel_rfl) (by kernel_rfl) (by kernel_rfl) (fun _ _ _ _ _ h => h) (by rfl) (by assumption) ?_ ?_
       rotate_left; focus (intro w hSw; (try dsimp only at hSw); go_simp; try (with_reducible rfl))
       (try simp only [Act.put]); (try simp only [List.setIfInBounds_toArray]); (try simp only [List.set_cons_succ]); (try simp only [List.set_cons_zero])
       refine wpAnyH_ready (rs := [11, 13]) (by kernel_rfl) (by simp) ?_
       refine AllReadyH.cons rfl (fun K hK => ?_) (AllReadyH.cons rfl (fun K hK => ?_) AllReadyH.nil)
       ·go_simp; (go_at_call 53; refine (amongB_any (w.heap.size + 1) (0 + 100 + 100 + 100 + 2) (by omega) _ (4 + Q5) 6 X25 d.cur ne5 (fun j hj => l5.out j (by omega)) (by omega) (by omega)).mono ?_; rintro e X26 ⟨p, rfl, hc, hg⟩); (try dsimp only)
        have l5 := l5.kept hg ne5
        have r3 := r3.kept hg (by omega)
        have d := d.kept hg hc
        clear hg hc
        refine hK.out _ _ (by exact d.k9.cell 0) (fun hHeld => ?_)
        clear hK K; (try simp only [Act.put]); (try simp only [List.setIfInBounds_toArray]); (try simp only [List.set_cons_succ]); (try simp only [List.set_cons_zero])
        refine wpAnyH_ready (rs := [13, 15]) (by kernel_rfl) (by simp) ?_
        refine AllReadyH.cons rfl (fun K hK => ?_) (AllReadyH.cons rfl (fun K hK => ?_) AllReadyH.nil)
        ·have hlX := d.cur.lt
         go_simp
         obtain ⟨X27, hX27⟩ : ∃ X27, X27 = World.alloc X26 (Obj.cells #[.int .i64 1, .int .i64 2, .int .i64 5000, .int .i64 10000, .int .i64 0, .int .i64 10001] 3) := ⟨_, rfl⟩
         rw [← hX27]
         have hbe : Below X26.heap.size X26 X27 := hX27 ▸ ext_alloc (Below.refl _ _) _
         have d := d.later hbe
         have l5 := l5.later hbe
         have r3 := r3.later hbe
         have l13 := LI.new X26 #[.int .i64 1, .int .i64 2, .int .i64 5000, .int .i64 10000, .int .i64 0, .int .i64 10001] 6 rfl (by decide)
         rw [← hX27] at l13
         have ne13 : X26.heap.size ≠ w.heap.size + 1 := by have := hlX; omega
         clear hX27 hbe
         clear hlX
         refine hK.out _ _ (by exact d.k9.cell 0) (fun hHeld => ?_)
         clear hK K; (try simp only [Act.put]); (try simp only [List.setIfInBounds_toArray]); (try simp only [List.set_cons_succ]); (try simp only [List.set_cons_zero])
         refine wpAnyH_ready (rs := [15]) (by kernel_rfl) (by simp) ?_
         refine AllReadyH.cons rfl (fun K hK => ?_) AllReadyH.nil
         go_simp; (go_at_call 54; refine (pick_any (w.heap.size + 1) (0 + 100 + 100 + 100 + 2 + 2) (by omega) 24 (by omega) X27 d.cur).mono ?_; rintro e X28 ⟨q13, rfl, q0, q1, hc, hg⟩); (try dsimp only)
         have l5 := l5.kept hg ne5
         have l13 := l13.kept hg ne13
         have r3 := r3.kept hg (by omega)
         have d := d.kept hg hc
         obtain ⟨Q13, hQ13⟩ : ∃ Q : Nat, q13 / 11 = (Q : Int) := ⟨(q13 / 11).toNat, by omega⟩
         have bQ13 : Q13 ≤ 2 := by omega
         have wQ13 : IntKind.i64.wrap (q13.tdiv 11) = (Q13 : Int) := by rw [wquo q0 (by omega) (by omega)]; exact hQ13
         have sQ13 : IntKind.i64.wrap (4 + (Q13 : Int)) = 4 + (Q13 : Int) := IntWalk.i64_in _ ⟨by omega, by omega⟩
         have tQ13 : (4 + (Q13 : Int)).toNat = 4 + Q13 := by omega
         have uQ13 : (0 : Int) ≤ 4 + (Q13 : Int) := by omega
         have yQ13 : 4 + (Q13 : Int) ≤ 6 := by omega
         clear hg hc q1 q0 hQ13
         refine hK.out _ _ (by exact d.k9.cell 0) (fun hHeld => ?_)
         clear hK K; (try simp only [Act.put]); (try simp only [List.setIfInBounds_toArray]); (try simp only [List.set_cons_succ]); (try simp only [List.set_cons_zero])
         refine wpAnyH_takeD (i := 16) (v := ?_) 34 rfl rfl (by kernel_rfl) (by kernel_rfl) (by kernel_rfl) (fun _ _ _ _ _ h => h) (by rfl) (by assumption) ?_ ?_
         rotate_left; focus (intro w hSw; (try dsimp only at hSw); go_simp; try (with_reducible rfl))
         (try simp only [Act.put]); (try simp only [List.setIfInBounds_toArray]); (try simp only [List.set_cons_succ]); (try simp only [List.set_cons_zero])
         refine wpAnyH_takeD (i := 17) (v := ?_) 35 rfl rfl (by kernel_rfl) (by kernel_rfl) (by kernel_rfl) (fun _ _ _ _ _ h => h) (by rfl) (by assumption) ?_ ?_
         rotate_left; focus (intro w hSw; (try dsimp only at hSw); go_simp; try (with_reducible rfl))
         (try simp only [Act.put]); (try simp only [List.setIfInBounds_toArray]); (try simp only [List.set_cons_succ]); (try simp only [List.set_cons_zero])
         refine wpAnyH_takeD (i := 18) (v := ?_) 36 rfl rfl (by kernel_rfl) (by kernel_rfl) (by kernel_rfl) (fun _ _ _ _ _ h => h) (by rfl) (by assumption) ?_ ?_
         rotate_left; focus (intro w hSw; (try dsimp only at hSw); go_simp; try (with_reducible rfl))
         (try simp only [Act.put]); (try simp only [List.setIfInBounds_toArray]); (try simp only [List.set_cons_succ]); (try simp only [List.set_cons_zero])
         refine wpAnyH_ready (rs := [19]) (by kernel_rfl) (by simp) ?_
         refine AllReadyH.cons rfl (fun K hK => ?_) AllReadyH.nil
         go_simp; (go_at_call 53; refine (amongB_any (w.heap.size + 1) (0 + 100 + 100 + 100 + 2 + 2 + 2) (by omega) _ (4 + Q13) 6 X28 d.cur ne13 (fun j hj => l13.out j (by omega)) (by omega) (by omega)).mono ?_; rintro e X29 ⟨q, rfl, hc, hg⟩); (try dsimp only)
         have l5 := l5.kept hg ne5
         have l13 := l13.kept hg ne13
         have r3 := r3.kept hg (by omega)
         have d := d.kept hg hc
         clear hg hc
         refine hK.out _ _ (by exact d.k9.cell 0) (fun hHeld => ?_)
         clear hK K; (try simp only [Act.put]); (try simp only [List.setIfInBounds_toArray]); (try simp only [List.set_cons_succ]); (try simp only [List.set_cons_zero])
         refine wpAnyH_takeD (i := 20) (v := ?_) 2 rfl rfl (by kernel_rfl) (by kernel_rfl) (by kernel_rfl) (fun _ _ _ _ _ h => h) (by rfl) (by assumption) ?_ ?_
         rotate_left; focus (intro w hSw; (try dsimp only at hSw); go_simp; try (with_reducible rfl))
         (try simp only [Act.put]); (try simp only [List.setIfInBounds_toArray]); (try simp only [List.set_cons_succ]); (try simp only [List.set_cons_zero])
         refine wpAnyH_ready (rs := [21]) (by kernel_rfl) (by simp) ?_
         refine AllReadyH.cons rfl (fun K hK => ?_) AllReadyH.nil
         have v3 := d.k3.cell 0
         have f3 := d.k3.frozen 0
         simp only [List.getElem?_toArray, List.getElem?_cons_zero] at v3
         go_simp
         clear v3 f3
         obtain ⟨k3, k9, r1, r2, r3, hb⟩ := d.done r3 hb1 (Nat.le_of_lt hw1)
         generalize World.setCell X29 ⟨w.heap.size, 0, none⟩ (.slice D m k) = X30 at k3 k9 r1 r2 r3 hb ⊢
         refine hK.out _ _ (by exact k9.cell 0) (fun hHeld => ?_)
         clear hK K; (try simp only [Act.put]); (try simp only [List.setIfInBounds_toArray]); (try simp only [List.set_cons_succ]); (try simp only [List.set_cons_zero])
         refine wpAnyH_takeD (i := 22) (v := ?_) 4 rfl rfl (by kernel_rfl) (by kernel_rfl) (by kernel_rfl) (fun _ _ _ _ _ h => h) (by rfl) (by assumption) ?_ ?_
         rotate_left; focus (intro w hSw; (try dsimp only at hSw); go_simp; try (with_reducible rfl))
         (try simp only [Act.put]); (try simp only [List.setIfInBounds_toArray]); (try simp only [List.set_cons_succ]); (try simp only [List.set_cons_zero])
         refine wpAnyH_takeD (i := 23) (v := ?_) 5 rfl rfl (by kernel_rfl) (by kernel_rfl) (by kernel_rfl) (fun _ _ _ _ _ h => h) (by rfl) (by assumption) ?_ ?_
         rotate_left; focus (intro w hSw; (try dsimp only at hSw); go_simp; try (with_reducible rfl))
         (try simp only [Act.put]); (try simp only [List.setIfInBounds_toArray]); (try simp only [List.set_cons_succ]); (try simp only [List.set_cons_zero])
         refine wpAnyH_takeD (i := 24) (v := ?_) 6 rfl rfl (by kernel_rfl) (by kernel_rfl) (by kernel_rfl) (fun _ _ _ _ _ h => h) (by rfl) (by assumption) ?_ ?_
         rotate_left; focus (intro w hSw; (try dsimp only at hSw); go_simp; try (with_reducible rfl))
         (try simp only [Act.put]); (try simp only [List.setIfInBounds_toArray]); (try simp only [List.set_cons_succ]); (try simp only [List.set_cons_zero])
         refine wpAnyH_done (by kernel_rfl) ?_ _
         clear hHeld
         try go_wp2_with fail
         go_meet
         exact ⟨A3, n3, c3, vs, p, q, rfl, rfl, rfl, rfl, k3, r1, r2, r3, hn3, hnm3, hb⟩
        ·go_simp; (go_at_call 54; refine (pick_any (w.heap.size + 1) (0 + 100 + 100 + 100 + 2 + 2) (by omega) 24 (by omega) X26 d.cur).mono ?_; rintro e X31 ⟨q13, rfl, q0, q1, hc, hg⟩); (try dsimp only)
         have l5 := l5.kept hg ne5
         have r3 := r3.kept hg (by omega)
         have d := d.kept hg hc
         obtain ⟨Q13, hQ13⟩ : ∃ Q : Nat, q13 / 11 = (Q : Int) := ⟨(q13 / 11).toNat, by omega⟩
         have bQ13 : Q13 ≤ 2 := by omega
         have wQ13 : IntKind.i64.wrap (q13.tdiv 11) = (Q13 : Int) := by rw [wquo q0 (by omega) (by omega)]; exact hQ13
         have sQ13 : IntKind.i64.wrap (4 + (Q13 : Int)) = 4 + (Q13 : Int) := IntWalk.i64_in _ ⟨by omega, by omega⟩
         have tQ13 : (4 + (Q13 : Int)).toNat = 4 + Q13 := by omega
         have uQ13 : (0 : Int) ≤ 4 + (Q13 : Int) := by omega
         have yQ13 : 4 + (Q13 : Int) ≤ 6 := by omega
         clear hg hc q1 q0 hQ13
         refine hK.out _ _ (by exact d.k9.cell 0) (fun hHeld => ?_)
         clear hK K; (try simp only [Act.put]); (try simp only [List.setIfInBounds_toArray]); (try simp only [List.set_cons_succ]); (try simp only [List.set_cons_zero])
         refine wpAnyH_takeD (i := 16) (v := ?_) 34 rfl rfl (by kernel_rfl) (by kernel_rfl) (by kernel_rfl) (fun _ _ _ _ _ h => h) (by rfl) (by assumption) ?_ ?_
         rotate_left; focus (intro w hSw; (try dsimp only at hSw); go_simp; try (with_reducible rfl))
         (try simp only [Act.put]); (try simp only [List.setIfInBounds_toArray]); (try simp only [List.set_cons_succ]); (try simp only [List.set_cons_zero])
         refine wpAnyH_takeD (i := 17) (v := ?_) 35 rfl rfl (by kernel_rfl) (by kernel_rfl) (by kernel_rfl) (fun _ _ _ _ _ h => h) (by rfl) (by assumption) ?_ ?_
         rotate_left; focus (intro w hSw; (try dsimp only at hSw); go_simp; try (with_reducible rfl))
         (try simp only [Act.put]); (try simp only [List.setIfInBounds_toArray]); (try simp only [List.set_cons_succ]); (try simp only [List.set_cons_zero])
         refine wpAnyH_ready (rs := [13]) (by kernel_rfl) (by simp) ?_
         refine AllReadyH.cons rfl (fun K hK => ?_) AllReadyH.nil
         have hlX := d.cur.lt
         go_simp
         obtain ⟨X32, hX32⟩ : ∃ X32, X32 = World.alloc X31 (Obj.cells #[.int .i64 1, .int .i64 2, .int .i64 5000, .int .i64 10000, .int .i64 0, .int .i64 10001] 3) := ⟨_, rfl⟩
         rw [← hX32]
         have hbe : Below X31.heap.size X31 X32 := hX32 ▸ ext_alloc (Below.refl _ _) _
         have d := d.later hbe
         have l5 := l5.later hbe
         have r3 := r3.later hbe
         have l13 := LI.new X31 #[.int .i64 1, .int .i64 2, .int .i64 5000, .int .i64 10000, .int .i64 0, .int .i64 10001] 6 rfl (by decide)
         rw [← hX32] at l13
         have ne13 : X31.heap.size ≠ w.heap.size + 1 := by have := hlX; omega
         clear hX32 hbe
         clear hlX
         refine hK.out _ _ (by exact d.k9.cell 0) (fun hHeld => ?_)
         clear hK K; (try simp only [Act.put]); (try simp only [List.setIfInBounds_toArray]); (try simp only [List.set_cons_succ]); (try simp only [List.set_cons_zero])
         refine wpAnyH_takeD (i := 18) (v := ?_) 36 rfl rfl (by kernel_rfl) (by kernel_rfl) (by kernel_rfl) (fun _ _ _ _ _ h => h) (by rfl) (by assumption) ?_ ?_
         rotate_left; focus (intro w hSw; (try dsimp only at hSw); go_simp; try (with_reducible rfl))
         (try simp only [Act.put]); (try simp only [List.setIfInBounds_toArray]); (try simp only [List.set_cons_succ]); (try simp only [List.set_cons_zero])
         refine wpAnyH_ready (rs := [19]) (by kernel_rfl) (by simp) ?_
         refine AllReadyH.cons rfl (fun K hK => ?_) AllReadyH.nil
         go_simp; (go_at_call 53; refine (amongB_any (w.heap.size + 1) (0 + 100 + 100 + 100 + 2 + 2 + 2) (by omega) _ (4 + Q13) 6 X32 d.cur ne13 (fun j hj => l13.out j (by omega)) (by omega) (by omega)).mono ?_; rintro e X33 ⟨q, rfl, hc, hg⟩); (try dsimp only)
         have l5 := l5.kept hg ne5
         have l13 := l13.kept hg ne13
         have r3 := r3.kept hg (by omega)
         have d := d.kept hg hc
         clear hg hc
         refine hK.out _ _ (by exact d.k9.cell 0) (fun hHeld => ?_)
         clear hK K; (try simp only [Act.put]); (try simp only [List.setIfInBounds_toArray]); (try simp only [List.set_cons_succ]); (try simp only [List.set_cons_zero])
         refine wpAnyH_takeD (i := 20) (v := ?_) 2 rfl rfl (by kernel_rfl) (by kernel_rfl) (by kernel_rfl) (fun _ _ _ _ _ h => h) (by rfl) (by assumption) ?_ ?_
         rotate_left; focus (intro w hSw; (try dsimp only at hSw); go_simp; try (with_reducible rfl))
         (try simp only [Act.put]); (try simp only [List.setIfInBounds_toArray]); (try simp only [List.set_cons_succ]); (try simp only [List.set_cons_zero])
         refine wpAnyH_ready (rs := [21]) (by kernel_rfl) (by simp) ?_
         refine AllReadyH.cons rfl (fun K hK => ?_) AllReadyH.nil
         have v3 := d.k3.cell 0
         have f3 := d.k3.frozen 0
         simp only [List.getElem?_toArray, List.getElem?_cons_zero] at v3
         go_simp
         clear v3 f3
         obtain ⟨k3, k9, r1, r2, r3, hb⟩ := d.done r3 hb1 (Nat.le_of_lt hw1)
         generalize World.setCell X33 ⟨w.heap.size, 0, none⟩ (.slice D m k) = X34 at k3 k9 r1 r2 r3 hb ⊢
         refine hK.out _ _ (by exact k9.cell 0) (fun hHeld => ?_)
         clear hK K; (try simp only [Act.put]); (try simp only [List.setIfInBounds_toArray]); (try simp only [List.set_cons_succ]); (try simp only [List.set_cons_zero])
         refine wpAnyH_takeD (i := 22) (v := ?_) 4 rfl rfl (by kernel_rfl) (by kernel_rfl) (by kernel_rfl) (fun _ _ _ _ _ h => h) (by rfl) (by assumption) ?_ ?_
         rotate_left; focus (intro w hSw; (try dsimp only at hSw); go_simp; try (with_reducible rfl))
         (try simp only [Act.put]); (try simp only [List.setIfInBounds_toArray]); (try simp only [List.set_cons_succ]); (try simp only [List.set_cons_zero])
         refine wpAnyH_takeD (i := 23) (v := ?_) 5 rfl rfl (by kernel_rfl) (by kernel_rfl) (by kernel_rfl) (fun _ _ _ _ _ h => h) (by rfl) (by assumption) ?_ ?_
         rotate_left; focus (intro w hSw; (try dsimp only at hSw); go_simp; try (with_reducible rfl))
         (try simp only [Act.put]); (try simp only [List.setIfInBounds_toArray]); (try simp only [List.set_cons_succ]); (try simp only [List.set_cons_zero])
         refine wpAnyH_takeD (i := 24) (v := ?_) 6 rfl rfl (by kernel_rfl) (by kernel_rfl) (by kernel_rfl) (fun _ _ _ _ _ h => h) (by rfl) (by assumption) ?_ ?_
         rotate_left; focus (intro w hSw; (try dsimp only at hSw); go_simp; try (with_reducible rfl))
         (try simp only [Act.put]); (try simp only [List.setIfInBounds_toArray]); (try simp only [List.set_cons_succ]); (try simp only [List.set_cons_zero])
         refine wpAnyH_done (by kernel_rfl) ?_ _
         clear hHeld
         try go_wp2_with fail
         go_meet
         exact ⟨A3, n3, c3, vs, p, q, rfl, rfl, rfl, rfl, k3, r1, r2, r3, hn3, hnm3, hb⟩
       ·have hlX := d.cur.lt
        go_simp
        obtain ⟨X35, hX35⟩ : ∃ X35, X35 = World.alloc X25 (Obj.cells #[.int .i64 1, .int .i64 2, .int .i64 5000, .int .i64 10000, .int .i64 0, .int .i64 10001] 3) := ⟨_, rfl⟩
        rw [← hX35]
        have hbe : Below X25.heap.size X25 X35 := hX35 ▸ ext_alloc (Below.refl _ _) _
        have d := d.later hbe
        have l5 := l5.later hbe
        have r3 := r3.later hbe
        have l13 := LI.new X25 #[.int .i64 1, .int .i64 2, .int .i64 5000, .int .i64 10000, .int .i64 0, .int .i64 10001] 6 rfl (by decide)
        rw [← hX35] at l13
        have ne13 : X25.heap.size ≠ w.heap.size + 1 := by have := hlX; omega
        clear hX35 hbe
        clear hlX
        refine hK.out _ _ (by exact d.k9.cell 0) (fun hHeld => ?_)
        clear hK K; (try simp only [Act.put]); (try simp only [List.setIfInBounds_toArray]); (try simp only [List.set_cons_succ]); (try simp only [List.set_cons_zero])
        refine wpAnyH_ready (rs := [11]) (by kernel_rfl) (by simp) ?_
        refine AllReadyH.cons rfl (fun K hK => ?_) AllReadyH.nil
        go_simp; (go_at_call 53; refine (amongB_any (w.heap.size + 1) (0 + 100 + 100 + 100 + 2) (by omega) _ (4 + Q5) 6 X35 d.cur ne5 (fun j hj => l5.out j (by omega)) (by omega) (by omega)).mono ?_; rintro e X36 ⟨p, rfl, hc, hg⟩); (try dsimp only)
        have l5 := l5.kept hg ne5
        have l13 := l13.kept hg ne13
        have r3 := r3.kept hg (by omega)
        have d := d.kept hg hc
        clear hg hc
        refine hK.out _ _ (by exact d.k9.cell 0) (fun hHeld => ?_)
        clear hK K; (try simp only [Act.put]); (try simp only [List.setIfInBounds_toArray]); (try simp only [List.set_cons_succ]); (try simp only [List.set_cons_zero])
        refine wpAnyH_ready (rs := [15]) (by kernel_rfl) (by simp) ?_
        refine AllReadyH.cons rfl (fun K hK => ?_) AllReadyH.nil
        go_simp; (go_at_call 54; refine (pick_any (w.heap.size + 1) (0 + 100 + 100 + 100 + 2 + 2) (by omega) 24 (by omega) X36 d.cur).mono ?_; rintro e X37 ⟨q13, rfl, q0, q1, hc, hg⟩); (try dsimp only)
        have l5 := l5.kept hg ne5
        have l13 := l13.kept hg ne13
        have r3 := r3.kept hg (by omega)
        have d := d.kept hg hc
        obtain ⟨Q13, hQ13⟩ : ∃ Q : Nat, q13 / 11 = (Q : Int) := ⟨(q13 / 11).toNat, by omega⟩
        have bQ13 : Q13 ≤ 2 := by omega
        have wQ13 : IntKind.i64.wrap (q13.tdiv 11) = (Q13 : Int) := by rw [wquo q0 (by omega) (by omega)]; exact hQ13
        have sQ13 : IntKind.i64.wrap (4 + (Q13 : Int)) = 4 + (Q13 : Int) := IntWalk.i64_in _ ⟨by omega, by omega⟩
        have tQ13 : (4 + (Q13 : Int)).toNat = 4 + Q13 := by omega
        have uQ13 : (0 : Int) ≤ 4 + (Q13 : Int) := by omega
        have yQ13 : 4 + (Q13 : Int) ≤ 6 := by omega
        clear hg hc q1 q0 hQ13
        refine hK.out _ _ (by exact d.k9.cell 0) (fun hHeld => ?_)
        clear hK K; (try simp only [Act.put]); (try simp only [List.setIfInBounds_toArray]); (try simp only [List.set_cons_succ]); (try simp only [List.set_cons_zero])
        refine wpAnyH_takeD (i := 16) (v := ?_) 34 rfl rfl (by kernel_rfl) (by kernel_rfl) (by kernel_rfl) (fun _ _ _ _ _ h => h) (by rfl) (by assumption) ?_ ?_
        rotate_left; focus (intro w hSw; (try dsimp only at hSw); go_simp; try (with_reducible rfl))
        (try simp only [Act.put]); (try simp only [List.setIfInBounds_toArray]); (try simp only [List.set_cons_succ]); (try simp only [List.set_cons_zero])
        refine wpAnyH_takeD (i := 17) (v := ?_) 35 rfl rfl (by kernel_rfl) (by kernel_rfl) (by kernel_rfl) (fun _ _ _ _ _ h => h) (by rfl) (by assumption) ?_ ?_
        rotate_left; focus (intro w hSw; (try dsimp only at hSw); go_simp; try (with_reducible rfl))
        (try simp only [Act.put]); (try simp only [List.setIfInBounds_toArray]); (try simp only [List.set_cons_succ]); (try simp only [List.set_cons_zero])
        refine wpAnyH_takeD (i := 18) (v := ?_) 36 rfl rfl (by kernel_rfl) (by kernel_rfl) (by kernel_rfl) (fun _ _ _ _ _ h => h) (by rfl) (by assumption) ?_ ?_
        rotate_left; focus (intro w hSw; (try dsimp only at hSw); go_simp; try (with_reducible rfl))
        (try simp only [Act.put]); (try simp only [List.setIfInBounds_toArray]); (try simp only [List.set_cons_succ]); (try simp only [List.set_cons_zero])
        refine wpAnyH_ready (rs := [19]) (by kernel_rfl) (by simp) ?_
        refine AllReadyH.cons rfl (fun K hK => ?_) AllReadyH.nil
        go_simp; (go_at_call 53; refine (amongB_any (w.heap.size + 1) (0 + 100 + 100 + 100 + 2 + 2 + 2) (by omega) _ (4 + Q13) 6 X37 d.cur ne13 (fun j hj => l13.out j (by omega)) (by omega) (by omega)).mono ?_; rintro e X38 ⟨q, rfl, hc, hg⟩); (try dsimp only)
        have l5 := l5.kept hg ne5
        have l13 := l13.kept hg ne13
        have r3 := r3.kept hg (by omega)
        have d := d.kept hg hc
        clear hg hc
        refine hK.out _ _ (by exact d.k9.cell 0) (fun hHeld => ?_)
        clear hK K; (try simp only [Act.put]); (try simp only [List.setIfInBounds_toArray]); (try simp only [List.set_cons_succ]); (try simp only [List.set_cons_zero])
        refine wpAnyH_takeD (i := 20) (v := ?_) 2 rfl rfl (by kernel_rfl) (by kernel_rfl) (by kernel_rfl) (fun _ _ _ _ _ h => h) (by rfl) (by assumption) ?_ ?_
        rotate_left; focus (intro w hSw; (try dsimp only at hSw); go_simp; try (with_reducible rfl))
        (try simp only [Act.put]); (try simp only [List.setIfInBounds_toArray]); (try simp only [List.set_cons_succ]); (try simp only [List.set_cons_zero])
        refine wpAnyH_ready (rs := [21]) (by kernel_rfl) (by simp) ?_
        refine AllReadyH.cons rfl (fun K hK => ?_) AllReadyH.nil
        have v3 := d.k3.cell 0
        have f3 := d.k3.frozen 0
        simp only [List.getElem?_toArray, List.getElem?_cons_zero] at v3
        go_simp
        clear v3 f3
        obtain ⟨k3, k9, r1, r2, r3, hb⟩ := d.done r3 hb1 (Nat.le_of_lt hw1)
        generalize World.setCell X38 ⟨w.heap.size, 0, none⟩ (.slice D m k) = X39 at k3 k9 r1 r2 r3 hb ⊢
        refine hK.out _ _ (by exact k9.cell 0) (fun hHeld => ?_)
        clear hK K; (try simp only [Act.put]); (try simp only [List.setIfInBounds_toArray]); (try simp only [List.set_cons_succ]); (try simp only [List.set_cons_zero])
        refine wpAnyH_takeD (i := 22) (v := ?_) 4 rfl rfl (by kernel_rfl) (by kernel_rfl) (by kernel_rfl) (fun _ _ _ _ _ h => h) (by rfl) (by assumption) ?_ ?_
        rotate_left; focus (intro w hSw; (try dsimp only at hSw); go_simp; try (with_reducible rfl))
        (try simp only [Act.put]); (try simp only [List.setIfInBounds_toArray]); (try simp only [List.set_cons_succ]); (try simp only [List.set_cons_zero])
        refine wpAnyH_takeD (i := 23) (v := ?_) 5 rfl rfl (by kernel_rfl) (by kernel_rfl) (by kernel_rfl) (fun _ _ _ _ _ h => h) (by rfl) (by assumption) ?_ ?_
        rotate_left; focus (intro w hSw; (try dsimp only at hSw); go_simp; try (with_reducible rfl))
        (try simp only [Act.put]); (try simp only [List.setIfInBounds_toArray]); (try simp only [List.set_cons_succ]); (try simp only [List.set_cons_zero])
        refine wpAnyH_takeD (i := 24) (v := ?_) 6 rfl rfl (by kernel_rfl) (by kernel_rfl) (by kernel_rfl) (fun _ _ _ _ _ h => h) (by rfl) (by assumption) ?_ ?_
        rotate_left; focus (intro w hSw; (try dsimp only at hSw); go_simp; try (with_reducible rfl))
        (try simp only [Act.put]); (try simp only [List.setIfInBounds_toArray]); (try simp only [List.set_cons_succ]); (try simp only [List.set_cons_zero])
        refine wpAnyH_done (by kernel_rfl) ?_ _
        clear hHeld
        try go_wp2_with fail
        go_meet
        exact ⟨A3, n3, c3, vs, p, q, rfl, rfl, rfl, rfl, k3, r1, r2, r3, hn3, hnm3, hb⟩
      ·have hlX := d.cur.lt
       go_simp
       obtain ⟨X40, hX40⟩ : ∃ X40, X40 = World.alloc X24 (Obj.cells #[.int .i64 1, .int .i64 2, .int .i64 5000, .int .i64 10000, .int .i64 0, .int .i64 10001] 3) := ⟨_, rfl⟩
       rw [← hX40]
       have hbe : Below X24.heap.size X24 X40 := hX40 ▸ ext_alloc (Below.refl _ _) _
       have d := d.later hbe
       have r3 := r3.later hbe
       have l13 := LI.new X24 #[.int .i64 1, .int .i64 2, .int .i64 5000, .int .i64 10000, .int .i64 0, .int .i64 10001] 6 rfl (by decide)
       rw [← hX40] at l13
       have ne13 : X24.heap.size ≠ w.heap.size + 1 := by have := hlX; omega
       clear hX40 hbe
       clear hlX
       refine hK.out _ _ (by exact d.k9.cell 0) (fun hHeld => ?_)
       clear hK K; (try simp only [Act.put]); (try simp only [List.setIfInBounds_toArray]); (try simp only [List.set_cons_succ]); (try simp only [List.set_cons_zero])
       refine wpAnyH_ready (rs := [5]) (by kernel_rfl) (by simp) ?_
       refine AllReadyH.cons rfl (fun K hK => ?_) AllReadyH.nil
       have hlX := d.cur.lt
       go_simp
       obtain ⟨X41, hX41⟩ : ∃ X41, X41 = World.alloc X40 (Obj.cells #[.int .i64 1, .int .i64 3, .int .i64 127, .int .i64 10000, .int .i64 0, .int .i64 10001] 3) := ⟨_, rfl⟩
       rw [← hX41]
       have hbe : Below X40.heap.size X40 X41 := hX41 ▸ ext_alloc (Below.refl _ _) _
       have d := d.later hbe
       have l13 := l13.later hbe
       have r3 := r3.later hbe
       have l5 := LI.new X40 #[.int .i64 1, .int .i64 3, .int .i64 127, .int .i64 10000, .int .i64 0, .int .i64 10001] 6 rfl (by decide)
       rw [← hX41] at l5
       have ne5 : X40.heap.size ≠ w.heap.size + 1 := by have := hlX; omega
       clear hX41 hbe
       clear hlX
       refine hK.out _ _ (by exact d.k9.cell 0) (fun hHeld => ?_)
       clear hK K; (try simp only [Act.put]); (try simp only [List.setIfInBounds_toArray]); (try simp only [List.set_cons_succ]); (try simp only [List.set_cons_zero])
       refine wpAnyH_takeD (i := 10) (v := ?_) 28 rfl rfl (by kernel_rfl) (by kernel_rfl) (by kernel_rfl) (fun _ _ _ _ _ h => h) (by rfl) (by assumption) ?_ ?_
       rotate_left; focus (intro w hSw; (try dsimp only at hSw); go_simp; try (with_reducible rfl))
       (try simp only [Act.put]); (try simp only [List.setIfInBounds_toArray]); (try simp only [List.set_cons_succ]); (try simp only [List.set_cons_zero])
       refine wpAnyH_ready (rs := [11]) (by kernel_rfl) (by simp) ?_
       refine AllReadyH.cons rfl (fun K hK => ?_) AllReadyH.nil
       go_simp; (go_at_call 53; refine (amongB_any (w.heap.size + 1) (0 + 100 + 100 + 100 + 2) (by omega) _ (4 + Q5) 6 X41 d.cur ne5 (fun j hj => l5.out j (by omega)) (by omega) (by omega)).mono ?_; rintro e X42 ⟨p, rfl, hc, hg⟩); (try dsimp only)
       have l5 := l5.kept hg ne5
       have l13 := l13.kept hg ne13
       have r3 := r3.kept hg (by omega)
       have d := d.kept hg hc
       clear hg hc
       refine hK.out _ _ (by exact d.k9.cell 0) (fun hHeld => ?_)
       clear hK K; (try simp only [Act.put]); (try simp only [List.setIfInBounds_toArray]); (try simp only [List.set_cons_succ]); (try simp only [List.set_cons_zero])
       refine wpAnyH_ready (rs := [15]) (by kernel_rfl) (by simp) ?_
       refine AllReadyH.cons rfl (fun K hK => ?_) AllReadyH.nil
       go_simp; (go_at_call 54; refine (pick_any (w.heap.size + 1) (0 + 100 + 100 + 100 + 2 + 2) (by omega) 24 (by omega) X42 d.cur).mono ?_; rintro e X43 ⟨q13, rfl, q0, q1, hc, hg⟩); (try dsimp only)
       have l5 := l5.kept hg ne5
       have l13 := l13.kept hg ne13
       have r3 := r3.kept hg (by omega)
       have d := d.kept hg hc
       obtain ⟨Q13, hQ13⟩ : ∃ Q : Nat, q13 / 11 = (Q : Int) := ⟨(q13 / 11).toNat, by omega⟩
       have bQ13 : Q13 ≤ 2 := by omega
       have wQ13 : IntKind.i64.wrap (q13.tdiv 11) = (Q13 : Int) := by rw [wquo q0 (by omega) (by omega)]; exact hQ13
       have sQ13 : IntKind.i64.wrap (4 + (Q13 : Int)) = 4 + (Q13 : Int) := IntWalk.i64_in _ ⟨by omega, by omega⟩
       have tQ13 : (4 + (Q13 : Int)).toNat = 4 + Q13 := by omega
       have uQ13 : (0 : Int) ≤ 4 + (Q13 : Int) := by omega
       have yQ13 : 4 + (Q13 : Int) ≤ 6 := by omega
       clear hg hc q1 q0 hQ13
       refine hK.out _ _ (by exact d.k9.cell 0) (fun hHeld => ?_)
       clear hK K; (try simp only [Act.put]); (try simp only [List.setIfInBounds_toArray]); (try simp only [List.set_cons_succ]); (try simp only [List.set_cons_zero])
       refine wpAnyH_takeD (i := 16) (v := ?_) 34 rfl rfl (by kernel_rfl) (by kernel_rfl) (by kernel_rfl) (fun _ _ _ _ _ h => h) (by rfl) (by assumption) ?_ ?_
       rotate_left; focus (intro w hSw; (try dsimp only at hSw); go_simp; try (with_reducible rfl))
       (try simp only [Act.put]); (try simp only [List.setIfInBounds_toArray]); (try simp only [List.set_cons_succ]); (try simp only [List.set_cons_zero])
       refine wpAnyH_takeD (i := 17) (v := ?_) 35 rfl rfl (by kernel_rfl) (by kernel_rfl) (by kernel_rfl) (fun _ _ _ _ _ h => h) (by rfl) (by assumption) ?_ ?_
       rotate_left; focus (intro w hSw; (try dsimp only at hSw); go_simp; try (with_reducible rfl))
       (try simp only [Act.put]); (try simp only [List.setIfInBounds_toArray]); (try simp only [List.set_cons_succ]); (try simp only [List.set_cons_zero])
       refine wpAnyH_takeD (i := 18) (v := ?_) 36 rfl rfl (by kernel_rfl) (by kernel_rfl) (by kernel_rfl) (fun _ _ _ _ _ h => h) (by rfl) (by assumption) ?_ ?_
       rotate_left; focus (intro w hSw; (try dsimp only at hSw); go_simp; try (with_reducible rfl))
       (try simp only [Act.put]); (try simp only [List.setIfInBounds_toArray]); (try simp only [List.set_cons_succ]); (try simp only [List.set_cons_zero])
       refine wpAnyH_ready (rs := [19]) (by kernel_rfl) (by simp) ?_
       refine AllReadyH.cons rfl (fun K hK => ?_) AllReadyH.nil
       go_simp; (go_at_call 53; refine (amongB_any (w.heap.size + 1) (0 + 100 + 100 + 100 + 2 + 2 + 2) (by omega) _ (4 + Q13) 6 X43 d.cur ne13 (fun j hj => l13.out j (by omega)) (by omega) (by omega)).mono ?_; rintro e X44 ⟨q, rfl, hc, hg⟩); (try dsimp only)
       have l5 := l5.kept hg ne5
       have l13 := l13.kept hg ne13
       have r3 := r3.kept hg (by omega)
       have d := d.kept hg hc
       clear hg hc
       refine hK.out _ _ (by exact d.k9.cell 0) (fun hHeld => ?_)
       clear hK K; (try simp only [Act.put]); (try simp only [List.setIfInBounds_toArray]); (try simp only [List.set_cons_succ]); (try simp only [List.set_cons_zero])
       refine wpAnyH_takeD (i := 20) (v := ?_) 2 rfl rfl (by kernel_rfl) (by kernel_rfl) (by kernel_rfl) (fun _ _ _ _ _ h => h) (by rfl) (by assumption) ?_ ?_
       rotate_left; focus (intro w hSw; (try dsimp only at hSw); go_simp; try (with_reducible rfl))
       (try simp only [Act.put]); (try simp only [List.setIfInBounds_toArray]); (try simp only [List.set_cons_succ]); (try simp only [List.set_cons_zero])
       refine wpAnyH_ready (rs := [21]) (by kernel_rfl) (by simp) ?_
       refine AllReadyH.cons rfl (fun K hK => ?_) AllReadyH.nil
       have v3 := d.k3.cell 0
       have f3 := d.k3.frozen 0
       simp only [List.getElem?_toArray, List.getElem?_cons_zero] at v3
       go_simp
       clear v3 f3
       obtain ⟨k3, k9, r1, r2, r3, hb⟩ := d.done r3 hb1 (Nat.le_of_lt hw1)
       generalize World.setCell X44 ⟨w.heap.size, 0, none⟩ (.slice D m k) = X45 at k3 k9 r1 r2 r3 hb ⊢
       refine hK.out _ _ (by exact k9.cell 0) (fun hHeld => ?_)
       clear hK K; (try simp only [Act.put]); (try simp only [List.setIfInBounds_toArray]); (try simp only [List.set_cons_succ]); (try simp only [List.set_cons_zero])
       refine wpAnyH_takeD (i := 22) (v := ?_) 4 rfl rfl (by kernel_rfl) (by kernel_rfl) (by kernel_rfl) (fun _ _ _ _ _ h => h) (by rfl) (by assumption) ?_ ?_
       rotate_left; focus (intro w hSw; (try dsimp only at hSw); go_simp; try (with_reducible rfl))
       (try simp only [Act.put]); (try simp only [List.setIfInBounds_toArray]); (try simp only [List.set_cons_succ]); (try simp only [List.set_cons_zero])
       refine wpAnyH_takeD (i := 23) (v := ?_) 5 rfl rfl (by kernel_rfl) (by kernel_rfl) (by kernel_rfl) (fun _ _ _ _ _ h => h) (by rfl) (by assumption) ?_ ?_
       rotate_left; focus (intro w hSw; (try dsimp only at hSw); go_simp; try (with_reducible rfl))
       (try simp only [Act.put]); (try simp only [List.setIfInBounds_toArray]); (try simp only [List.set_cons_succ]); (try simp only [List.set_cons_zero])
       refine wpAnyH_takeD (i := 24) (v := ?_) 6 rfl rfl (by kernel_rfl) (by kernel_rfl) (by kernel_rfl) (fun _ _ _ _ _ h => h) (by rfl) (by assumption) ?_ ?_
       rotate_left; focus (intro w hSw; (try dsimp only at hSw); go_simp; try (with_reducible rfl))
       (try simp only [Act.put]); (try simp only [List.setIfInBounds_toArray]); (try simp only [List.set_cons_succ]); (try simp only [List.set_cons_zero])
       refine wpAnyH_done (by kernel_rfl) ?_ _
       clear hHeld
       try go_wp2_with fail
       go_meet
       exact ⟨A3, n3, c3, vs, p, q, rfl, rfl, rfl, rfl, k3, r1, r2, r3, hn3, hnm3, hb⟩
     ·have hlX := d.cur.lt
      go_simp
      obtain ⟨X46, hX46⟩ : ∃ X46, X46 = World.alloc X1 (Obj.cells #[.int .i64 1, .int .i64 2, .int .i64 5000, .int .i64 10000, .int .i64 0, .int .i64 10001] 3) := ⟨_, rfl⟩
      rw [← hX46]
      have hbe : Below X1.heap.size X1 X46 := hX46 ▸ ext_alloc (Below.refl _ _) _
      have d := d.later hbe
      have r3 := r3.later hbe
      have l13 := LI.new X1 #[.int .i64 1, .int .i64 2, .int .i64 5000, .int .i64 10000, .int .i64 0, .int .i64 10001] 6 rfl (by decide)
      rw [← hX46] at l13
      have ne13 : X1.heap.size ≠ w.heap.size + 1 := by have := hlX; omega
      clear hX46 hbe
      clear hlX
      refine hK.out _ _ (by exact d.k9.cell 0) (fun hHeld => ?_)
      clear hK K; (try simp only [Act.put]); (try simp only [List.setIfInBounds_toArray]); (try simp only [List.set_cons_succ]); (try simp only [List.set_cons_zero])
      refine wpAnyH_ready (rs := [5, 7]) (by kernel_rfl) (by simp) ?_
      refine AllReadyH.cons rfl (fun K hK => ?_) (AllReadyH.cons rfl (fun K hK => ?_) AllReadyH.nil)
      ·have hlX := d.cur.lt
       go_simp
       obtain ⟨X47, hX47⟩ : ∃ X47, X47 = World.alloc X46 (Obj.cells #[.int .i64 1, .int .i64 3, .int .i64 127, .int .i64 10000, .int .i64 0, .int .i64 10001] 3) := ⟨_, rfl⟩
       rw [← hX47]
       have hbe : Below X46.heap.size X46 X47 := hX47 ▸ ext_alloc (Below.refl _ _) _
       have d := d.later hbe
       have l13 := l13.later hbe
       have r3 := r3.later hbe
       have l5 := LI.new X46 #[.int .i64 1, .int .i64 3, .int .i64 127, .int .i64 10000, .int .i64 0, .int .i64 10001] 6 rfl (by decide)
       rw [← hX47] at l5
       have ne5 : X46.heap.size ≠ w.heap.size + 1 := by have := hlX; omega
       clear hX47 hbe
       clear hlX
       refine hK.out _ _ (by exact d.k9.cell 0) (fun hHeld => ?_)
       clear hK K; (try simp only [Act.put]); (try simp only [List.setIfInBounds_toArray]); (try simp only [List.set_cons_succ]); (try simp only [List.set_cons_zero])
       refine wpAnyH_ready (rs := [7]) (by kernel_rfl) (by simp) ?_
       refine AllReadyH.cons rfl (fun K hK => ?_) AllReadyH.nil
       go_simp; (go_at_call 54; refine (pick_any (w.heap.size + 1) (0 + 100 + 100 + 100) (by omega) 24 (by omega) X47 d.cur).mono ?_; rintro e X48 ⟨q5, rfl, q0, q1, hc, hg⟩); (try dsimp only)
       have l5 := l5.kept hg ne5
       have l13 := l13.kept hg ne13
       have r3 := r3.kept hg (by omega)
       have d := d.kept hg hc
       obtain ⟨Q5, hQ5⟩ : ∃ Q : Nat, q5 / 11 = (Q : Int) := ⟨(q5 / 11).toNat, by omega⟩
       have bQ5 : Q5 ≤ 2 := by omega
       have wQ5 : IntKind.i64.wrap (q5.tdiv 11) = (Q5 : Int) := by rw [wquo q0 (by omega) (by omega)]; exact hQ5
       have sQ5 : IntKind.i64.wrap (4 + (Q5 : Int)) = 4 + (Q5 : Int) := IntWalk.i64_in _ ⟨by omega, by omega⟩
       have tQ5 : (4 + (Q5 : Int)).toNat = 4 + Q5 := by omega
       have uQ5 : (0 : Int) ≤ 4 + (Q5 : Int) := by omega
       have yQ5 : 4 + (Q5 : Int) ≤ 6 := by omega
       clear hg hc q1 q0 hQ5
       refine hK.out _ _ (by exact d.k9.cell 0) (fun hHeld => ?_)
       clear hK K; (try simp only [Act.put]); (try simp only [List.setIfInBounds_toArray]); (try simp only [List.set_cons_succ]); (try simp only [List.set_cons_zero])
       refine wpAnyH_takeD (i := 8) (v := ?_) 26 rfl rfl (by kernel_rfl) (by kernel_rfl) (by kernel_rfl) (fun _ _ _ _ _ h => h) (by rfl) (by assumption) ?_ ?_
       rotate_left; focus (intro w hSw; (try dsimp only at hSw); go_simp; try (with_reducible rfl))
       (try simp only [Act.put]); (try simp only [List.setIfInBounds_toArray]); (try simp only [List.set_cons_succ]); (try simp only [List.set_cons_zero])
       refine wpAnyH_takeD (i := 9) (v := ?_) 27 rfl rfl (by kernel_rfl) (by kernel_rfl) (by kernel_rfl) (fun _ _ _ _ _ h => h) (by rfl) (by assumption) ?_ ?_
       rotate_left; focus (intro w hSw; (try dsimp only at hSw); go_simp; try (with_reducible rfl))
       (try simp only [Act.put]); (try simp only [List.setIfInBounds_toArray]); (try simp only [List.set_cons_succ]); (try simp only [List.set_cons_zero])
       refine wpAnyH_takeD (i := 10) (v := ?_) 28 rfl rfl (by kernel_rfl) (by kernel_rfl) (by kernel_rfl) (fun _ _ _ _ _ h => h) (by rfl) (by assumption) ?_ ?_
       rotate_left; focus (intro w hSw; (try dsimp only at hSw); go_simp; try (with_reducible rfl))
       (try simp only [Act.put]); (try simp only [List.setIfInBounds_toArray]); (try simp only [List.set_cons_succ]); (try simp only [List.set_cons_zero])
       refine wpAnyH_ready (rs := [11]) (by kernel_rfl) (by simp) ?_
       refine AllReadyH.cons rfl (fun K hK => ?_) AllReadyH.nil
       go_simp; (go_at_call 53; refine (amongB_any (w.heap.size + 1) (0 + 100 + 100 + 100 + 2) (by omega) _ (4 + Q5) 6 X48 d.cur ne5 (fun j hj => l5.out j (by omega)) (by omega) (by omega)).mono ?_; rintro e X49 ⟨p, rfl, hc, hg⟩); (try dsimp only)
       have l5 := l5.kept hg ne5
       have l13 := l13.kept hg ne13
       have r3 := r3.kept hg (by omega)
       have d := d.kept hg hc
       clear hg hc
       refine hK.out _ _ (by exact d.k9.cell 0) (fun hHeld => ?_)
       clear hK K; (try simp only [Act.put]); (try simp only [List.setIfInBounds_toArray]); (try simp only [List.set_cons_succ]); (try simp only [List.set_cons_zero])
       refine wpAnyH_ready (rs := [15]) (by kernel_rfl) (by simp) ?_
       refine AllReadyH.cons rfl (fun K hK => ?_) AllReadyH.nil
       go_simp; (go_at_call 54; refine (pick_any (w.heap.size + 1) (0 + 100 + 100 + 100 + 2 + 2) (by omega) 24 (by omega) X49 d.cur).mono ?_; rintro e X50 ⟨q13, rfl, q0, q1, hc, hg⟩); (try dsimp only)
       have l5 := l5.kept hg ne5
       have l13 := l13.kept hg ne13
       have r3 := r3.kept hg (by omega)
       have d := d.kept hg hc
       obtain ⟨Q13, hQ13⟩ : ∃ Q : Nat, q13 / 11 = (Q : Int) := ⟨(q13 / 11).toNat, by omega⟩
       have bQ13 : Q13 ≤ 2 := by omega
       have wQ13 : IntKind.i64.wrap (q13.tdiv 11) = (Q13 : Int) := by rw [wquo q0 (by omega) (by omega)]; exact hQ13
       have sQ13 : IntKind.i64.wrap (4 + (Q13 : Int)) = 4 + (Q13 : Int) := IntWalk.i64_in _ ⟨by omega, by omega⟩
       have tQ13 : (4 + (Q13 : Int)).toNat = 4 + Q13 := by omega
       have uQ13 : (0 : Int) ≤ 4 + (Q13 : Int) := by omega
       have yQ13 : 4 + (Q13 : Int) ≤ 6 := by omega
       clear hg hc q1 q0 hQ13
       refine hK.out _ _ (by exact d.k9.cell 0) (fun hHeld => ?_)
       clear hK K; (try simp only [Act.put]); (try simp only [List.setIfInBounds_toArray]); (try simp only [List.set_cons_succ]); (try simp only [List.set_cons_zero])
       refine wpAnyH_takeD (i := 16) (v := ?_) 34 rfl rfl (by kernel_rfl) (by kernel_rfl) (by kernel_rfl) (fun _ _ _ _ _ h => h) (by rfl) (by assumption) ?_ ?_
       rotate_left; focus (intro w hSw; (try dsimp only at hSw); go_simp; try (with_reducible rfl))
       (try simp only [Act.put]); (try simp only [List.setIfInBounds_toArray]); (try simp only [List.set_cons_succ]); (try simp only [List.set_cons_zero])
       refine wpAnyH_takeD (i := 17) (v := ?_) 35 rfl rfl (by kernel_rfl) (by kernel_rfl) (by kernel_rfl) (fun _ _ _ _ _ h => h) (by rfl) (by assumption) ?_ ?_
       rotate_left; focus (intro w hSw; (try dsimp only at hSw); go_simp; try (with_reducible rfl))
       (try simp only [Act.put]); (try simp only [List.setIfInBounds_toArray]); (try simp only [List.set_cons_succ]); (try simp only [List.set_cons_zero])
       refine wpAnyH_takeD (i := 18) (v := ?_) 36 rfl rfl (by kernel_rfl) (by kernel_rfl) (by kernel_rfl) (fun _ _ _ _ _ h => h) (by rfl) (by assumption) ?_ ?_
       rotate_left; focus (intro w hSw; (try dsimp only at hSw); go_simp; try (with_reducible rfl))
       (try simp only [Act.put]); (try simp only [List.setIfInBounds_toArray]); (try simp only [List.set_cons_succ]); (try simp only [List.set_cons_zero])
       refine wpAnyH_ready (rs := [19]) (by kernel_rfl) (by simp) ?_
       refine AllReadyH.cons rfl (fun K hK => ?_) AllReadyH.nil
       go_simp; (go_at_call 53; refine (amongB_any (w.heap.size + 1) (0 + 100 + 100 + 100 + 2 + 2 + 2) (by omega) _ (4 + Q13) 6 X50 d.cur ne13 (fun j hj => l13.out j (by omega)) (by omega) (by omega)).mono ?_; rintro e X51 ⟨q, rfl, hc, hg⟩); (try dsimp only)
       have l5 := l5.kept hg ne5
       have l13 := l13.kept hg ne13
       have r3 := r3.kept hg (by omega)
       have d := d.kept hg hc
       clear hg hc
       refine hK.out _ _ (by exact d.k9.cell 0) (fun hHeld => ?_)
       clear hK K; (try simp only [Act.put]); (try simp only [List.setIfInBounds_toArray]); (try simp only [List.set_cons_succ]); (try simp only [List.set_cons_zero])
       refine wpAnyH_takeD (i := 20) (v := ?_) 2 rfl rfl (by kernel_rfl) (by kernel_rfl) (by kernel_rfl) (fun _ _ _ _ _ h => h) (by rfl) (by assumption) ?_ ?_
       rotate_left; focus (intro w hSw; (try dsimp only at hSw); go_simp; try (with_reducible rfl))
       (try simp only [Act.put]); (try simp only [List.setIfInBounds_toArray]); (try simp only [List.set_cons_succ]); (try simp only [List.set_cons_zero])
       refine wpAnyH_ready (rs := [21]) (by kernel_rfl) (by simp) ?_
       refine AllReadyH.cons rfl (fun K hK => ?_) AllReadyH.nil
       have v3 := d.k3.cell 0
       have f3 := d.k3.frozen 0
       simp only [List.getElem?_toArray, List.getElem?_cons_zero] at v3
       go_simp
       clear v3 f3
       obtain ⟨k3, k9, r1, r2, r3, hb⟩ := d.done r3 hb1 (Nat.le_of_lt hw1)
       generalize World.setCell X51 ⟨w.heap.size, 0, none⟩ (.slice D m k) = X52 at k3 k9 r1 r2 r3 hb ⊢
       refine hK.out _ _ (by exact k9.cell 0) (fun hHeld => ?_)
       clear hK K; (try simp only [Act.put]); (try simp only [List.setIfInBounds_toArray]); (try simp only [List.set_cons_succ]); (try simp only [List.set_cons_zero])
       refine wpAnyH_takeD (i := 22) (v := ?_) 4 rfl rfl (by kernel_rfl) (by kernel_rfl) (by kernel_rfl) (fun _ _ _ _ _ h => h) (by rfl) (by assumption) ?_ ?_
       rotate_left; focus (intro w hSw; (try dsimp only at hSw); go_simp; try (with_reducible rfl))
       (try simp only [Act.put]); (try simp only [List.setIfInBounds_toArray]); (try simp only [List.set_cons_succ]); (try simp only [List.set_cons_zero])
       refine wpAnyH_takeD (i := 23) (v := ?_) 5 rfl rfl (by kernel_rfl) (by kernel_rfl) (by kernel_rfl) (fun _ _ _ _ _ h => h) (by rfl) (by assumption) ?_ ?_
       rotate_left; focus (intro w hSw; (try dsimp only at hSw); go_simp; try (with_reducible rfl))
       (try simp only [Act.put]); (try simp only [List.setIfInBounds_toArray]); (try simp only [List.set_cons_succ]); (try simp only [List.set_cons_zero])
       refine wpAnyH_takeD (i := 24) (v := ?_) 6 rfl rfl (by kernel_rfl) (by kernel_rfl) (by kernel_rfl) (fun _ _ _ _ _ h => h) (by rfl) (by assumption) ?_ ?_
       rotate_left; focus (intro w hSw; (try dsimp only at hSw); go_simp; try (with_reducible rfl))
       (try simp only [Act.put]); (try simp only [List.setIfInBounds_toArray]); (try simp only [List.set_cons_succ]); (try simp only [List.set_cons_zero])
       refine wpAnyH_done (by kernel_rfl) ?_ _
       clear hHeld
       try go_wp2_with fail
       go_meet
       exact ⟨A3, n3, c3, vs, p, q, rfl, rfl, rfl, rfl, k3, r1, r2, r3, hn3, hnm3, hb⟩
      ·go_simp; (go_at_call 54; refine (pick_any (w.heap.size + 1) (0 + 100 + 100 + 100) (by omega) 24 (by omega) X46 d.cur).mono ?_; rintro e X53 ⟨q5, rfl, q0, q1, hc, hg⟩); (try dsimp only)
       have l13 := l13.kept hg ne13
       have r3 := r3.kept hg (by omega)
       have d := d.kept hg hc
       obtain ⟨Q5, hQ5⟩ : ∃ Q : Nat, q5 / 11 = (Q : Int) := ⟨(q5 / 11).toNat, by omega⟩
       have bQ5 : Q5 ≤ 2 := by omega
       have wQ5 : IntKind.i64.wrap (q5.tdiv 11) = (Q5 : Int) := by rw [wquo q0 (by omega) (by omega)]; exact hQ5
       have sQ5 : IntKind.i64.wrap (4 + (Q5 : Int)) = 4 + (Q5 : Int) := IntWalk.i64_in _ ⟨by omega, by omega⟩
       have tQ5 : (4 + (Q5 : Int)).toNat = 4 + Q5 := by omega
       have uQ5 : (0 : Int) ≤ 4 + (Q5 : Int) := by omega
       have yQ5 : 4 + (Q5 : Int) ≤ 6 := by omega
       clear hg hc q1 q0 hQ5
       refine hK.out _ _ (by exact d.k9.cell 0) (fun hHeld => ?_)
       clear hK K; (try simp only [Act.put]); (try simp only [List.setIfInBounds_toArray]); (try simp only [List.set_cons_succ]); (try simp only [List.set_cons_zero])
       refine wpAnyH_takeD (i := 8) (v := ?_) 26 rfl rfl (by kernel_rfl) (by kernel_rfl) (by kernel_rfl) (fun _ _ _ _ _ h => h) (by rfl) (by assumption) ?_ ?_
       rotate_left; focus (intro w hSw; (try dsimp only at hSw); go_simp; try (with_reducible rfl))
       (try simp only [Act.put]); (try simp only [List.setIfInBounds_toArray]); (try simp only [List.set_cons_succ]); (try simp only [List.set_cons_zero])
       refine wpAnyH_takeD (i := 9) (v := ?_) 27 rfl rfl (by kernel_rfl) (by kernel_rfl) (by kernel_rfl) (fun _ _ _ _ _ h => h) (by rfl) (by assumption) ?_ ?_
       rotate_left; focus (intro w hSw; (try dsimp only at hSw); go_simp; try (with_reducible rfl))
       (try simp only [Act.put]); (try simp only [List.setIfInBounds_toArray]); (try simp only [List.set_cons_succ]); (try simp only [List.set_cons_zero])
       refine wpAnyH_ready (rs := [5]) (by kernel_rfl) (by simp) ?_
       refine AllReadyH.cons rfl (fun K hK => ?_) AllReadyH.nil
       have hlX := d.cur.lt
       go_simp
       obtain ⟨X54, hX54⟩ : ∃ X54, X54 = World.alloc X53 (Obj.cells #[.int .i64 1, .int .i64 3, .int .i64 127, .int .i64 10000, .int .i64 0, .int .i64 10001] 3) := ⟨_, rfl⟩
       rw [← hX54]
       have hbe : Below X53.heap.size X53 X54 := hX54 ▸ ext_alloc (Below.refl _ _) _
       have d := d.later hbe
       have l13 := l13.later hbe
       have r3 := r3.later hbe
       have l5 := LI.new X53 #[.int .i64 1, .int .i64 3, .int .i64 127, .int .i64 10000, .int .i64 0, .int .i64 10001] 6 rfl (by decide)
       rw [← hX54] at l5
       have ne5 : X53.heap.size ≠ w.heap.size + 1 := by have := hlX; omega
       clear hX54 hbe
       clear hlX
       refine hK.out _ _ (by exact d.k9.cell 0) (fun hHeld => ?_)
       clear hK K; (try simp only [Act.put]); (try simp only [List.setIfInBounds_toArray]); (try simp only [List.set_cons_succ]); (try simp only [List.set_cons_zero])
       refine wpAnyH_takeD (i := 10) (v := ?_) 28 rfl rfl (by kernel_rfl) (by kernel_rfl) (by kernel_rfl) (fun _ _ _ _ _ h => h) (by rfl) (by assumption) ?_ ?_
       rotate_left; focus (intro w hSw; (try dsimp only at hSw); go_simp; try (with_reducible rfl))
       (try simp only [Act.put]); (try simp only [List.setIfInBounds_toArray]); (try simp only [List.set_cons_succ]); (try simp only [List.set_cons_zero])
       refine wpAnyH_ready (rs := [11]) (by kernel_rfl) (by simp) ?_
       refine AllReadyH.cons rfl (fun K hK => ?_) AllReadyH.nil
       go_simp; (go_at_call 53; refine (amongB_any (w.heap.size + 1) (0 + 100 + 100 + 100 + 2) (by omega) _ (4 + Q5) 6 X54 d.cur ne5 (fun j hj => l5.out j (by omega)) (by omega) (by omega)).mono ?_; rintro e X55 ⟨p, rfl, hc, hg⟩); (try dsimp only)
       have l5 := l5.kept hg ne5
       have l13 := l13.kept hg ne13
       have r3 := r3.kept hg (by omega)
       have d := d.kept hg hc
       clear hg hc
       refine hK.out _ _ (by exact d.k9.cell 0) (fun hHeld => ?_)
       clear hK K; (try simp only [Act.put]); (try simp only [List.setIfInBounds_toArray]); (try simp only [List.set_cons_succ]); (try simp only [List.set_cons_zero])
       refine wpAnyH_ready (rs := [15]) (by kernel_rfl) (by simp) ?_
       refine AllReadyH.cons rfl (fun K hK => ?_) AllReadyH.nil
       go_simp; (go_at_call 54; refine (pick_any (w.heap.size + 1) (0 + 100 + 100 + 100 + 2 + 2) (by omega) 24 (by omega) X55 d.cur).mono ?_; rintro e X56 ⟨q13, rfl, q0, q1, hc, hg⟩); (try dsimp only)
       have l5 := l5.kept hg ne5
       have l13 := l13.kept hg ne13
       have r3 := r3.kept hg (by omega)
       have d := d.kept hg hc
       obtain ⟨Q13, hQ13⟩ : ∃ Q : Nat, q13 / 11 = (Q : Int) := ⟨(q13 / 11).toNat, by omega⟩
       have bQ13 : Q13 ≤ 2 := by omega
       have wQ13 : IntKind.i64.wrap (q13.tdiv 11) = (Q13 : Int) := by rw [wquo q0 (by omega) (by omega)]; exact hQ13
       have sQ13 : IntKind.i64.wrap (4 + (Q13 : Int)) = 4 + (Q13 : Int) := IntWalk.i64_in _ ⟨by omega, by omega⟩
       have tQ13 : (4 + (Q13 : Int)).toNat = 4 + Q13 := by omega
       have uQ13 : (0 : Int) ≤ 4 + (Q13 : Int) := by omega
       have yQ13 : 4 + (Q13 : Int) ≤ 6 := by omega
       clear hg hc q1 q0 hQ13
       refine hK.out _ _ (by exact d.k9.cell 0) (fun hHeld => ?_)
       clear hK K; (try simp only [Act.put]); (try simp only [List.setIfInBounds_toArray]); (try simp only [List.set_cons_succ]); (try simp only [List.set_cons_zero])
       refine wpAnyH_takeD (i := 16) (v := ?_) 34 rfl rfl (by kernel_rfl) (by kernel_rfl) (by kernel_rfl) (fun _ _ _ _ _ h => h) (by rfl) (by assumption) ?_ ?_
       rotate_left; focus (intro w hSw; (try dsimp only at hSw); go_simp; try (with_reducible rfl))
       (try simp only [Act.put]); (try simp only [List.setIfInBounds_toArray]); (try simp only [List.set_cons_succ]); (try simp only [List.set_cons_zero])
       refine wpAnyH_takeD (i := 17) (v := ?_) 35 rfl rfl (by kernel_rfl) (by kernel_rfl) (by kernel_rfl) (fun _ _ _ _ _ h => h) (by rfl) (by assumption) ?_ ?_
       rotate_left; focus (intro w hSw; (try dsimp only at hSw); go_simp; try (with_reducible rfl))
       (try simp only [Act.put]); (try simp only [List.setIfInBounds_toArray]); (try simp only [List.set_cons_succ]); (try simp only [List.set_cons_zero])
       refine wpAnyH_takeD (i := 18) (v := ?_) 36 rfl rfl (by kernel_rfl) (by kernel_rfl) (by kernel_rfl) (fun _ _ _ _ _ h => h) (by rfl) (by assumption) ?_ ?_
       rotate_left; focus (intro w hSw; (try dsimp only at hSw); go_simp; try (with_reducible rfl))
       (try simp only [Act.put]); (try simp only [List.setIfInBounds_toArray]); (try simp only [List.set_cons_succ]); (try simp only [List.set_cons_zero])
       refine wpAnyH_ready (rs := [19]) (by kernel_rfl) (by simp) ?_
       refine AllReadyH.cons rfl (fun K hK => ?_) AllReadyH.nil
       go_simp; (go_at_call 53; refine (amongB_any (w.heap.size + 1) (0 + 100 + 100 + 100 + 2 + 2 + 2) (by omega) _ (4 + Q13) 6 X56 d.cur ne13 (fun j hj => l13.out j (by omega)) (by omega) (by omega)).mono ?_; rintro e X57 ⟨q, rfl, hc, hg⟩); (try dsimp only)
       have l5 := l5.kept hg ne5
       have l13 := l13.kept hg ne13
       have r3 := r3.kept hg (by omega)
       have d := d.kept hg hc
       clear hg hc
       refine hK.out _ _ (by exact d.k9.cell 0) (fun hHeld => ?_)
       clear hK K; (try simp only [Act.put]); (try simp only [List.setIfInBounds_toArray]); (try simp only [List.set_cons_succ]); (try simp only [List.set_cons_zero])
       refine wpAnyH_takeD (i := 20) (v := ?_) 2 rfl rfl (by kernel_rfl) (by kernel_rfl) (by kernel_rfl) (fun _ _ _ _ _ h => h) (by rfl) (by assumption) ?_ ?_
       rotate_left; focus (intro w hSw; (try dsimp only at hSw); go_simp; try (with_reducible rfl))
       (try simp only [Act.put]); (try simp only [List.setIfInBounds_toArray]); (try simp only [List.set_cons_succ]); (try simp only [List.set_cons_zero])
       refine wpAnyH_ready (rs := [21]) (by kernel_rfl) (by simp) ?_
       refine AllReadyH.cons rfl (fun K hK => ?_) AllReadyH.nil
       have v3 := d.k3.cell 0
       have f3 := d.k3.frozen 0
       simp only [List.getElem?_toArray, List.getElem?_cons_zero] at v3
       go_simp
       clear v3 f3
       obtain ⟨k3, k9, r1, r2, r3, hb⟩ := d.done r3 hb1 (Nat.le_of_lt hw1)
       generalize World.setCell X57 ⟨w.heap.size, 0, none⟩ (.slice D m k) = X58 at k3 k9 r1 r2 r3 hb ⊢
       refine hK.out _ _ (by exact k9.cell 0) (fun hHeld => ?_)
       clear hK K; (try simp only [Act.put]); (try simp only [List.setIfInBounds_toArray]); (try simp only [List.set_cons_succ]); (try simp only [List.set_cons_zero])
       refine wpAnyH_takeD (i := 22) (v := ?_) 4 rfl rfl (by kernel_rfl) (by kernel_rfl) (by kernel_rfl) (fun _ _ _ _ _ h => h) (by rfl) (by assumption) ?_ ?_
       rotate_left; focus (intro w hSw; (try dsimp only at hSw); go_simp; try (with_reducible rfl))
       (try simp only [Act.put]); (try simp only [List.setIfInBounds_toArray]); (try simp only [List.set_cons_succ]); (try simp only [List.set_cons_zero])
       refine wpAnyH_takeD (i := 23) (v := ?_) 5 rfl rfl (by kernel_rfl) (by kernel_rfl) (by kernel_rfl) (fun _ _ _ _ _ h => h) (by rfl) (by assumption) ?_ ?_
       rotate_left; focus (intro w hSw; (try dsimp only at hSw); go_simp; try (with_reducible rfl))
       (try simp only [Act.put]); (try simp only [List.setIfInBounds_toArray]); (try simp only [List.set_cons_succ]); (try simp only [List.set_cons_zero])
       refine wpAnyH_takeD (i := 24) (v := ?_) 6 rfl rfl (by kernel_rfl) (by kernel_rfl) (by kernel_rfl) (fun _ _ _ _ _ h => h) (by rfl) (by assumption) ?_ ?_
       rotate_left; focus (intro w hSw; (try dsimp only at hSw); go_simp; try (with_reducible rfl))
       (try simp only [Act.put]); (try simp only [List.setIfInBounds_toArray]); (try simp only [List.set_cons_succ]); (try simp only [List.set_cons_zero])
       refine wpAnyH_done (by kernel_rfl) ?_ _
       clear hHeld
       try go_wp2_with fail
       go_meet
       exact ⟨A3, n3, c3, vs, p, q, rfl, rfl, rfl, rfl, k3, r1, r2, r3, hn3, hnm3, hb⟩
    ·have hlX := d.cur.lt
     go_simp
     obtain ⟨X59, hX59⟩ : ∃ X59, X59 = World.alloc X (Obj.cells #[.int .i64 1, .int .i64 3, .int .i64 127, .int .i64 10000, .int .i64 0, .int .i64 10001] 3) := ⟨_, rfl⟩
     rw [← hX59]
     have hbe : Below X.heap.size X X59 := hX59 ▸ ext_alloc (Below.refl _ _) _
     have d := d.later hbe
     have l5 := LI.new X #[.int .i64 1, .int .i64 3, .int .i64 127, .int .i64 10000, .int .i64 0, .int .i64 10001] 6 rfl (by decide)
     rw [← hX59] at l5
     have ne5 : X.heap.size ≠ w.heap.size + 1 := by have := hlX; omega
     clear hX59 hbe
     clear hlX
     refine hK.out _ _ (by exact d.k9.cell 0) (fun hHeld => ?_)
     clear hK K; (try simp only [Act.put]); (try simp only [List.setIfInBounds_toArray]); (try simp only [List.set_cons_succ]); (try simp only [List.set_cons_zero])
     refine wpAnyH_ready (rs := [3, 13]) (by kernel_rfl) (by simp) ?_
     refine AllReadyH.cons rfl (fun K hK => ?_) (AllReadyH.cons rfl (fun K hK => ?_) AllReadyH.nil)
     ·have hlX := d.cur.lt
      go_simp; (go_at_call 51; refine (system7_any (w.heap.size + 1) (0 + 100 + 100) (by omega) X59 d.cur).mono ?_; rintro e X60 ⟨A3, n3, c3, vs, rfl, r3, hn3, hnm3, hc, hg⟩); (try dsimp only)
      have l5 := l5.kept hg ne5
      have r3 := r3.weak (show w.heap.size + 1 + 1 ≤ _ by omega)
      have d := d.kept hg hc
      clear hg hc hlX
      refine hK.out _ _ (by exact d.k9.cell 0) (fun hHeld => ?_)
      clear hK K; (try simp only [Act.put]); (try simp only [List.setIfInBounds_toArray]); (try simp only [List.set_cons_succ]); (try simp only [List.set_cons_zero])
      refine wpAnyH_ready (rs := [7, 13]) (by kernel_rfl) (by simp) ?_
      refine AllReadyH.cons rfl (fun K hK => ?_) (AllReadyH.cons rfl (fun K hK => ?_) AllReadyH.nil)
      ·go_simp; (go_at_call 54; refine (pick_any (w.heap.size + 1) (0 + 100 + 100 + 100) (by omega) 24 (by omega) X60 d.cur).mono ?_; rintro e X61 ⟨q5, rfl, q0, q1, hc, hg⟩); (try dsimp only)
       have l5 := l5.kept hg ne5
       have r3 := r3.kept hg (by omega)
       have d := d.kept hg hc
       obtain ⟨Q5, hQ5⟩ : ∃ Q : Nat, q5 / 11 = (Q : Int) := ⟨(q5 / 11).toNat, by omega⟩
       have bQ5 : Q5 ≤ 2 := by omega
       have wQ5 : IntKind.i64.wrap (q5.tdiv 11) = (Q5 : Int) := by rw [wquo q0 (by omega) (by omega)]; exact hQ5
       have sQ5 : IntKind.i64.wrap (4 + (Q5 : Int)) = 4 + (Q5 : Int) := IntWalk.i64_in _ ⟨by omega, by omega⟩
       have tQ5 : (4 + (Q5 : Int)).toNat = 4 + Q5 := by omega
       have uQ5 : (0 : Int) ≤ 4 + (Q5 : Int) := by omega
       have yQ5 : 4 + (Q5 : Int) ≤ 6 := by omega
       clear hg hc q1 q0 hQ5
       refine hK.out _ _ (by exact d.k9.cell 0) (fun hHeld => ?_)
       clear hK K; (try simp only [Act.put]); (try simp only [List.setIfInBounds_toArray]); (try simp only [List.set_cons_succ]); (try simp only [List.set_cons_zero])
       refine wpAnyH_takeD (i := 8) (v := ?_) 26 rfl rfl (by kernel_rfl) (by kernel_rfl) (by kernel_rfl) (fun _ _ _ _ _ h => h) (by rfl) (by assumption) ?_ ?_
       rotate_left; focus (intro w hSw; (try dsimp only at hSw); go_simp; try (with_reducible rfl))
       (try simp only [Act.put]); (try simp only [List.setIfInBounds_toArray]); (try simp only [List.set_cons_succ]); (try simp only [List.set_cons_zero])
       refine wpAnyH_takeD (i := 9) (v := ?_) 27 rfl rfl (by kernel_rfl) (by kernel_rfl) (by kernel_rfl) (fun _ _ _ _ _ h => h) (by rfl) (by assumption) ?_ ?_
       rotate_left; focus (intro w hSw; (try dsimp only at hSw); go_simp; try (with_reducible rfl))
       (try simp only [Act.put]); (try simp only [List.setIfInBounds_toArray]); (try simp only [List.set_cons_succ]); (try simp only [List.set_cons_zero])
       refine wpAnyH_takeD (i := 10) (v := ?_) 28 rfl rfl (by kernel_rfl) (by kernel_rfl) (by kernel_rfl) (fun _ _ _ _ _ h => h) (by rfl) (by assumption) ?_ ?_
       rotate_left; focus (intro w hSw; (try dsimp only at hSw); go_simp; try (with_reducible rfl))
       (try simp only [Act.put]); (try simp only [List.setIfInBounds_toArray]); (try simp only [List.set_cons_succ]); (try simp only [List.set_cons_zero])
       refine wpAnyH_ready (rs := [11, 13]) (by kernel_rfl) (by simp) ?_
       refine AllReadyH.cons rfl (fun K hK => ?_) (AllReadyH.cons rfl (fun K hK => ?_) AllReadyH.nil)
       ·go_simp; (go_at_call 53; refine (amongB_any (w.heap.size + 1) (0 + 100 + 100 + 100 + 2) (by omega) _ (4 + Q5) 6 X61 d.cur ne5 (fun j hj => l5.out j (by omega)) (by omega) (by omega)).mono ?_; rintro e X62 ⟨p, rfl, hc, hg⟩); (try dsimp only)
        have l5 := l5.kept hg ne5
        have r3 := r3.kept hg (by omega)
        have d := d.kept hg hc
        clear hg hc
        refine hK.out _ _ (by exact d.k9.cell 0) (fun hHeld => ?_)
        clear hK K; (try simp only [Act.put]); (try simp only [List.setIfInBounds_toArray]); (try simp only [List.set_cons_succ]); (try simp only [List.set_cons_zero])
        refine wpAnyH_ready (rs := [13, 15]) (by kernel_rfl) (by simp) ?_
        refine AllReadyH.cons rfl (fun K hK => ?_) (AllReadyH.cons rfl (fun K hK => ?_) AllReadyH.nil)
        ·have hlX := d.cur.lt
         go_simp
         obtain ⟨X63, hX63⟩ : ∃ X63, X63 = World.alloc X62 (Obj.cells #[.int .i64 1, .int .i64 2, .int .i64 5000, .int .i64 10000, .int .i64 0, .int .i64 10001] 3) := ⟨_, rfl⟩
         rw [← hX63]
         have hbe : Below X62.heap.size X62 X63 := hX63 ▸ ext_alloc (Below.refl _ _) _
         have d := d.later hbe
         have l5 := l5.later hbe
         have r3 := r3.later hbe
         have l13 := LI.new X62 #[.int .i64 1, .int .i64 2, .int .i64 5000, .int .i64 10000, .int .i64 0, .int .i64 10001] 6 rfl (by decide)
         rw [← hX63] at l13
         have ne13 : X62.heap.size ≠ w.heap.size + 1 := by have := hlX; omega
         clear hX63 hbe
         clear hlX
         refine hK.out _ _ (by exact d.k9.cell 0) (fun hHeld => ?_)
         clear hK K; (try simp only [Act.put]); (try simp only [List.setIfInBounds_toArray]); (try simp only [List.set_cons_succ]); (try simp only [List.set_cons_zero])
         refine wpAnyH_ready (rs := [15]) (by kernel_rfl) (by simp) ?_
         refine AllReadyH.cons rfl (fun K hK => ?_) AllReadyH.nil
         go_simp; (go_at_call 54; refine (pick_any (w.heap.size + 1) (0 + 100 + 100 + 100 + 2 + 2) (by omega) 24 (by omega) X63 d.cur).mono ?_; rintro e X64 ⟨q13, rfl, q0, q1, hc, hg⟩); (try dsimp only)
         have l5 := l5.kept hg ne5
         have l13 := l13.kept hg ne13
         have r3 := r3.kept hg (by omega)
         have d := d.kept hg hc
         obtain ⟨Q13, hQ13⟩ : ∃ Q : Nat, q13 / 11 = (Q : Int) := ⟨(q13 / 11).toNat, by omega⟩
         have bQ13 : Q13 ≤ 2 := by omega
         have wQ13 : IntKind.i64.wrap (q13.tdiv 11) = (Q13 : Int) := by rw [wquo q0 (by omega) (by omega)]; exact hQ13
         have sQ13 : IntKind.i64.wrap (4 + (Q13 : Int)) = 4 + (Q13 : Int) := IntWalk.i64_in _ ⟨by omega, by omega⟩
         have tQ13 : (4 + (Q13 : Int)).toNat = 4 + Q13 := by omega
         have uQ13 : (0 : Int) ≤ 4 + (Q13 : Int) := by omega
         have yQ13 : 4 + (Q13 : Int) ≤ 6 := by omega
         clear hg hc q1 q0 hQ13
         refine hK.out _ _ (by exact d.k9.cell 0) (fun hHeld => ?_)
         clear hK K; (try simp only [Act.put]); (try simp only [List.setIfInBounds_toArray]); (try simp only [List.set_cons_succ]); (try simp only [List.set_cons_zero])
         refine wpAnyH_takeD (i := 16) (v := ?_) 34 rfl rfl (by kernel_rfl) (by kernel_rfl) (by kernel_rfl) (fun _ _ _ _ _ h => h) (by rfl) (by assumption) ?_ ?_
         rotate_left; focus (intro w hSw; (try dsimp only at hSw); go_simp; try (with_reducible rfl))
         (try simp only [Act.put]); (try simp only [List.setIfInBounds_toArray]); (try simp only [List.set_cons_succ]); (try simp only [List.set_cons_zero])
         refine wpAnyH_takeD (i := 17) (v := ?_) 35 rfl rfl (by kernel_rfl) (by kernel_rfl) (by kernel_rfl) (fun _ _ _ _ _ h => h) (by rfl) (by assumption) ?_ ?_
         rotate_left; focus (intro w hSw; (try dsimp only at hSw); go_simp; try (with_reducible rfl))
         (try simp only [Act.put]); (try simp only [List.setIfInBounds_toArray]); (try simp only [List.set_cons_succ]); (try simp only [List.set_cons_zero])
         refine wpAnyH_takeD (i := 18) (v := ?_) 36 rfl rfl (by kernel_rfl) (by kernel_rfl) (by kernel_rfl) (fun _ _ _ _ _ h => h) (by rfl) (by assumption) ?_ ?_
         rotate_left; focus (intro w hSw; (try dsimp only at hSw); go_simp; try (with_reducible rfl))
         (try simp only [Act.put]); (try simp only [List.setIfInBounds_toArray]); (try simp only [List.set_cons_succ]); (try simp only [List.set_cons_zero])
         refine wpAnyH_ready (rs := [19]) (by kernel_rfl) (by simp) ?_
         refine AllReadyH.cons rfl (fun K hK => ?_) AllReadyH.nil
         go_simp; (go_at_call 53; refine (amongB_any (w.heap.size + 1) (0 + 100 + 100 + 100 + 2 + 2 + 2) (by omega) _ (4 + Q13) 6 X64 d.cur ne13 (fun j hj => l13.out j (by omega)) (by omega) (by omega)).mono ?_; rintro e X65 ⟨q, rfl, hc, hg⟩); (try dsimp only)
         have l5 := l5.kept hg ne5
         have l13 := l13.kept hg ne13
         have r3 := r3.kept hg (by omega)
         have d := d.kept hg hc
         clear hg hc
         refine hK.out _ _ (by exact d.k9.cell 0) (fun hHeld => ?_)
         clear hK K; (try simp only [Act.put]); (try simp only [List.setIfInBounds_toArray]); (try simp only [List.set_cons_succ]); (try simp only [List.set_cons_zero])
         refine wpAnyH_takeD (i := 20) (v := ?_) 2 rfl rfl (by kernel_rfl) (by kernel_rfl) (by kernel_rfl) (fun _ _ _ _ _ h => h) (by rfl) (by assumption) ?_ ?_
         rotate_left; focus (intro w hSw; (try dsimp only at hSw); go_simp; try (with_reducible rfl))
         (try simp only [Act.put]); (try simp only [List.setIfInBounds_toArray]); (try simp only [List.set_cons_succ]); (try simp only [List.set_cons_zero])
         refine wpAnyH_ready (rs := [21]) (by kernel_rfl) (by simp) ?_
         refine AllReadyH.cons rfl (fun K hK => ?_) AllReadyH.nil
         have v3 := d.k3.cell 0
         have f3 := d.k3.frozen 0
         simp only [List.getElem?_toArray, List.getElem?_cons_zero] at v3
         go_simp
         clear v3 f3
         obtain ⟨k3, k9, r1, r2, r3, hb⟩ := d.done r3 hb1 (Nat.le_of_lt hw1)
         generalize World.setCell X65 ⟨w.heap.size, 0, none⟩ (.slice D m k) = X66 at k3 k9 r1 r2 r3 hb ⊢
         refine hK.out _ _ (by exact k9.cell 0) (fun hHeld => ?_)
         clear hK K; (try simp only [Act.put]); (try simp only [List.setIfInBounds_toArray]); (try simp only [List.set_cons_succ]); (try simp only [List.set_cons_zero])
         refine wpAnyH_takeD (i := 22) (v := ?_) 4 rfl rfl (by kernel_rfl) (by kernel_rfl) (by kernel_rfl) (fun _ _ _ _ _ h => h) (by rfl) (by assumption) ?_ ?_
         rotate_left; focus (intro w hSw; (try dsimp only at hSw); go_simp; try (with_reducible rfl))
         (try simp only [Act.put]); (try simp only [List.setIfInBounds_toArray]); (try simp only [List.set_cons_succ]); (try simp only [List.set_cons_zero])
         refine wpAnyH_takeD (i := 23) (v := ?_) 5 rfl rfl (by kernel_rfl) (by kernel_rfl) (by kernel_rfl) (fun _ _ _ _ _ h => h) (by rfl) (by assumption) ?_ ?_
         rotate_left; focus (intro w hSw; (try dsimp only at hSw); go_simp; try (with_reducible rfl))
         (try simp only [Act.put]); (try simp only [List.setIfInBounds_toArray]); (try simp only [List.set_cons_succ]); (try simp only [List.set_cons_zero])
         refine wpAnyH_takeD (i := 24) (v := ?_) 6 rfl rfl (by kernel_rfl) (by kernel_rfl) (by kernel_rfl) (fun _ _ _ _ _ h => h) (by rfl) (by assumption) ?_ ?_
         rotate_left; focus (intro w hSw; (try dsimp only at hSw); go_simp; try (with_reducible rfl))
         (try simp only [Act.put]); (try simp only [List.setIfInBounds_toArray]); (try simp only [List.set_cons_succ]); (try simp only [List.set_cons_zero])
         refine wpAnyH_done (by kernel_rfl) ?_ _
         clear hHeld
         try go_wp2_with fail
         go_meet
         exact ⟨A3, n3, c3, vs, p, q, rfl, rfl, rfl, rfl, k3, r1, r2, r3, hn3, hnm3, hb⟩
        ·go_simp; (go_at_call 54; refine (pick_any (w.heap.size + 1) (0 + 100 + 100 + 100 + 2 + 2) (by omega) 24 (by omega) X62 d.cur).mono ?_; rintro e X67 ⟨q13, rfl, q0, q1, hc, hg⟩); (try dsimp only)
         have l5 := l5.kept hg ne5
         have r3 := r3.kept hg (by omega)
         have d := d.kept hg hc
         obtain ⟨Q13, hQ13⟩ : ∃ Q : Nat, q13 / 11 = (Q : Int) := ⟨(q13 / 11).toNat, by omega⟩
         have bQ13 : Q13 ≤ 2 := by omega
         have wQ13 : IntKind.i64.wrap (q13.tdiv 11) = (Q13 : Int) := by rw [wquo q0 (by omega) (by omega)]; exact hQ13
         have sQ13 : IntKind.i64.wrap (4 + (Q13 : Int)) = 4 + (Q13 : Int) := IntWalk.i64_in _ ⟨by omega, by omega⟩
         have tQ13 : (4 + (Q13 : Int)).toNat = 4 + Q13 := by omega
         have uQ13 : (0 : Int) ≤ 4 + (Q13 : Int) := by omega
         have yQ13 : 4 + (Q13 : Int) ≤ 6 := by omega
         clear hg hc q1 q0 hQ13
         refine hK.out _ _ (by exact d.k9.cell 0) (fun hHeld => ?_)
         clear hK K; (try simp only [Act.put]); (try simp only [List.setIfInBounds_toArray]); (try simp only [List.set_cons_succ]); (try simp only [List.set_cons_zero])
         refine wpAnyH_takeD (i := 16) (v := ?_) 34 rfl rfl (by kernel_rfl) (by kernel_rfl) (by kernel_rfl) (fun _ _ _ _ _ h => h) (by rfl) (by assumption) ?_ ?_
         rotate_left; focus (intro w hSw; (try dsimp only at hSw); go_simp; try (with_reducible rfl))
         (try simp only [Act.put]); (try simp only [List.setIfInBounds_toArray]); (try simp only [List.set_cons_succ]); (try simp only [List.set_cons_zero])
         refine wpAnyH_takeD (i := 17) (v := ?_) 35 rfl rfl (by kernel_rfl) (by kernel_rfl) (by kernel_rfl) (fun _ _ _ _ _ h => h) (by rfl) (by assumption) ?_ ?_
         rotate_left; focus (intro w hSw; (try dsimp only at hSw); go_simp; try (with_reducible rfl))
         (try simp only [Act.put]); (try simp only [List.setIfInBounds_toArray]); (try simp only [List.set_cons_succ]); (try simp only [List.set_cons_zero])
         refine wpAnyH_ready (rs := [13]) (by kernel_rfl) (by simp) ?_
         refine AllReadyH.cons rfl (fun K hK => ?_) AllReadyH.nil
         have hlX := d.cur.lt
         go_simp
         obtain ⟨X68, hX68⟩ : ∃ X68, X68 = World.alloc X67 (Obj.cells #[.int .i64 1, .int .i64 2, .int .i64 5000, .int .i64 10000, .int .i64 0, .int .i64 10001] 3) := ⟨_, rfl⟩
         rw [← hX68]
         have hbe : Below X67.heap.size X67 X68 := hX68 ▸ ext_alloc (Below.refl _ _) _
         have d := d.later hbe
         have l5 := l5.later hbe
         have r3 := r3.later hbe
         have l13 := LI.new X67 #[.int .i64 1, .int .i64 2, .int .i64 5000, .int .i64 10000, .int .i64 0, .int .i64 10001] 6 rfl (by decide)
         rw [← hX68] at l13
         have ne13 : X67.heap.size ≠ w.heap.size + 1 := by have := hlX; omega
         clear hX68 hbe
         clear hlX
         refine hK.out _ _ (by exact d.k9.cell 0) (fun hHeld => ?_)
         clear hK K; (try simp only [Act.put]); (try simp only [List.setIfInBounds_toArray]); (try simp only [List.set_cons_succ]); (try simp only [List.set_cons_zero])
         refine wpAnyH_takeD (i := 18) (v := ?_) 36 rfl rfl (by kernel_rfl) (by kernel_rfl) (by kernel_rfl) (fun _ _ _ _ _ h => h) (by rfl) (by assumption) ?_ ?_
         rotate_left; focus (intro w hSw; (try dsimp only at hSw); go_simp; try (with_reducible rfl))
         (try simp only [Act.put]); (try simp only [List.setIfInBounds_toArray]); (try simp only [List.set_cons_succ]); (try simp only [List.set_cons_zero])
         refine wpAnyH_ready (rs := [19]) (by kernel_rfl) (by simp) ?_
         refine AllReadyH.cons rfl (fun K hK => ?_) AllReadyH.nil
         go_simp; (go_at_call 53; refine (amongB_any (w.heap.size + 1) (0 + 100 + 100 + 100 + 2 + 2 + 2) (by omega) _ (4 + Q13) 6 X68 d.cur ne13 (fun j hj => l13.out j (by omega)) (by omega) (by omega)).mono ?_; rintro e X69 ⟨q, rfl, hc, hg⟩); (try dsimp only)
         have l5 := l5.kept hg ne5
         have l13 := l13.kept hg ne13
         have r3 := r3.kept hg (by omega)
         have d := d.kept hg hc
         clear hg hc
         refine hK.out _ _ (by exact d.k9.cell 0) (fun hHeld => ?_)
         clear hK K; (try simp only [Act.put]); (try simp only [List.setIfInBounds_toArray]); (try simp only [List.set_cons_succ]); (try simp only [List.set_cons_zero])
         refine wpAnyH_takeD (i := 20) (v := ?_) 2 rfl rfl (by kernel_rfl) (by kernel_rfl) (by kernel_rfl) (fun _ _ _ _ _ h => h) (by rfl) (by assumption) ?_ ?_
         rotate_left; focus (intro w hSw; (try dsimp only at hSw); go_simp; try (with_reducible rfl))
         (try simp only [Act.put]); (try simp only [List.setIfInBounds_toArray]); (try simp only [List.set_cons_succ]); (try simp only [List.set_cons_zero])
         refine wpAnyH_ready (rs := [21]) (by kernel_rfl) (by simp) ?_
         refine AllReadyH.cons rfl (fun K hK => ?_) AllReadyH.nil
         have v3 := d.k3.cell 0
         have f3 := d.k3.frozen 0
         simp only [List.getElem?_toArray, List.getElem?_cons_zero] at v3
         go_simp
         clear v3 f3
         obtain ⟨k3, k9, r1, r2, r3, hb⟩ := d.done r3 hb1 (Nat.le_of_lt hw1)
         generalize World.setCell X69 ⟨w.heap.size, 0, none⟩ (.slice D m k) = X70 at k3 k9 r1 r2 r3 hb ⊢
         refine hK.out _ _ (by exact k9.cell 0) (fun hHeld => ?_)
         clear hK K; (try simp only [Act.put]); (try simp only [List.setIfInBounds_toArray]); (try simp only [List.set_cons_succ]); (try simp only [List.set_cons_zero])
         refine wpAnyH_takeD (i := 22) (v := ?_) 4 rfl rfl (by kernel_rfl) (by kernel_rfl) (by kernel_rfl) (fun _ _ _ _ _ h => h) (by rfl) (by assumption) ?_ ?_
         rotate_left; focus (intro w hSw; (try dsimp only at hSw); go_simp; try (with_reducible rfl))
         (try simp only [Act.put]); (try simp only [List.setIfInBounds_toArray]); (try simp only [List.set_cons_succ]); (try simp only [List.set_cons_zero])
         refine wpAnyH_takeD (i := 23) (v := ?_) 5 rfl rfl (by kernel_rfl) (by kernel_rfl) (by kernel_rfl) (fun _ _ _ _ _ h => h) (by rfl) (by assumption) ?_ ?_
         rotate_left; focus (intro w hSw; (try dsimp only at hSw); go_simp; try (with_reducible rfl))
         (try simp only [Act.put]); (try simp only [List.setIfInBounds_toArray]); (try simp only [List.set_cons_succ]); (try simp only [List.set_cons_zero])
         refine wpAnyH_takeD (i := 24) (v := ?_) 6 rfl rfl (by kernel_rfl) (by kernel_rfl) (by kernel_rfl) (fun _ _ _ _ _ h => h) (by rfl) (by assumption) ?_ ?_
         rotate_left; focus (intro w hSw; (try dsimp only at hSw); go_simp; try (with_reducible rfl))
         (try simp only [Act.put]); (try simp only [List.setIfInBounds_toArray]); (try simp only [List.set_cons_succ]); (try simp only [List.set_cons_zero])
         refine wpAnyH_done (by kernel_rfl) ?_ _
         clear hHeld
         try go_wp2_with fail
         go_meet
         exact ⟨A3, n3, c3, vs, p, q, rfl, rfl, rfl, rfl, k3, r1, r2, r3, hn3, hnm3, hb⟩
       ·have hlX := d.cur.lt
        go_simp
        obtain ⟨X71, hX71⟩ : ∃ X71, X71 = World.alloc X61 (Obj.cells #[.int .i64 1, .int .i64 2, .int .i64 5000, .int .i64 10000, .int .i64 0, .int .i64 10001] 3) := ⟨_, rfl⟩
        rw [← hX71]
        have hbe : Below X61.heap.size X61 X71 := hX71 ▸ ext_alloc (Below.refl _ _) _
        have d := d.later hbe
        have l5 := l5.later hbe
        have r3 := r3.later hbe
        have l13 := LI.new X61 #[.int .i64 1, .int .i64 2, .int .i64 5000, .int .i64 10000, .int .i64 0, .int .i64 10001] 6 rfl (by decide)
        rw [← hX71] at l13
        have ne13 : X61.heap.size ≠ w.heap.size + 1 := by have := hlX; omega
        clear hX71 hbe
        clear hlX
        refine hK.out _ _ (by exact d.k9.cell 0) (fun hHeld => ?_)
        clear hK K; (try simp only [Act.put]); (try simp only [List.setIfInBounds_toArray]); (try simp only [List.set_cons_succ]); (try simp only [List.set_cons_zero])
        refine wpAnyH_ready (rs := [11]) (by kernel_rfl) (by simp) ?_
        refine AllReadyH.cons rfl (fun K hK => ?_) AllReadyH.nil
        go_simp; (go_at_call 53; refine (amongB_any (w.heap.size + 1) (0 + 100 + 100 + 100 + 2) (by omega) _ (4 + Q5) 6 X71 d.cur ne5 (fun j hj => l5.out j (by omega)) (by omega) (by omega)).mono ?_; rintro e X72 ⟨p, rfl, hc, hg⟩); (try dsimp only)
        have l5 := l5.kept hg ne5
        have l13 := l13.kept hg ne13
        have r3 := r3.kept hg (by omega)
        have d := d.kept hg hc
        clear hg hc
        refine hK.out _ _ (by exact d.k9.cell 0) (fun hHeld => ?_)
        clear hK K; (try simp only [Act.put]); (try simp only [List.setIfInBounds_toArray]); (try simp only [List.set_cons_succ]); (try simp only [List.set_cons_zero])
        refine wpAnyH_ready (rs := [15]) (by kernel_rfl) (by simp) ?_
        refine AllReadyH.cons rfl (fun K hK => ?_) AllReadyH.nil
        go_simp; (go_at_call 54; refine (pick_any (w.heap.size + 1) (0 + 100 + 100 + 100 + 2 + 2) (by omega) 24 (by omega) X72 d.cur).mono ?_; rintro e X73 ⟨q13, rfl, q0, q1, hc, hg⟩); (try dsimp only)
        have l5 := l5.kept hg ne5
        have l13 := l13.kept hg ne13
        have r3 := r3.kept hg (by omega)
        have d := d.kept hg hc
        obtain ⟨Q13, hQ13⟩ : ∃ Q : Nat, q13 / 11 = (Q : Int) := ⟨(q13 / 11).toNat, by omega⟩
        have bQ13 : Q13 ≤ 2 := by omega
        have wQ13 : IntKind.i64.wrap (q13.tdiv 11) = (Q13 : Int) := by rw [wquo q0 (by omega) (by omega)]; exact hQ13
        have sQ13 : IntKind.i64.wrap (4 + (Q13 : Int)) = 4 + (Q13 : Int) := IntWalk.i64_in _ ⟨by omega, by omega⟩
        have tQ13 : (4 + (Q13 : Int)).toNat = 4 + Q13 := by omega
        have uQ13 : (0 : Int) ≤ 4 + (Q13 : Int) := by omega
        have yQ13 : 4 + (Q13 : Int) ≤ 6 := by omega
        clear hg hc q1 q0 hQ13
        refine hK.out _ _ (by exact d.k9.cell 0) (fun hHeld => ?_)
        clear hK K; (try simp only [Act.put]); (try simp only [List.setIfInBounds_toArray]); (try simp only [List.set_cons_succ]); (try simp only [List.set_cons_zero])
        refine wpAnyH_takeD (i := 16) (v := ?_) 34 rfl rfl (by kernel_rfl) (by kernel_rfl) (by kernel_rfl) (fun _ _ _ _ _ h => h) (by rfl) (by assumption) ?_ ?_
        rotate_left; focus (intro w hSw; (try dsimp only at hSw); go_simp; try (with_reducible rfl))
        (try simp only [Act.put]); (try simp only [List.setIfInBounds_toArray]); (try simp only [List.set_cons_succ]); (try simp only [List.set_cons_zero])
        refine wpAnyH_takeD (i := 17) (v := ?_) 35 rfl rfl (by kernel_rfl) (by kernel_rfl) (by kernel_rfl) (fun _ _ _ _ _ h => h) (by rfl) (by assumption) ?_ ?_
        rotate_left; focus (intro w hSw; (try dsimp only at hSw); go_simp; try (with_reducible rfl))
        (try simp only [Act.put]); (try simp only [List.setIfInBounds_toArray]); (try simp only [List.set_cons_succ]); (try simp only [List.set_cons_zero])
        refine wpAnyH_takeD (i := 18) (v := ?_) 36 rfl rfl (by kernel_rfl) (by kernel_rfl) (by kernel_rfl) (fun _ _ _ _ _ h => h) (by rfl) (by assumption) ?_ ?_
        rotate_left; focus (intro w hSw; (try dsimp only at hSw); go_simp; try (with_reducible rfl))
        (try simp only [Act.put]); (try simp only [List.setIfInBounds_toArray]); (try simp only [List.set_cons_succ]); (try simp only [List.set_cons_zero])
        refine wpAnyH_ready (rs := [19]) (by kernel_rfl) (by simp) ?_
        refine AllReadyH.cons rfl (fun K hK => ?_) AllReadyH.nil
        go_simp; (go_at_call 53; refine (amongB_any (w.heap.size + 1) (0 + 100 + 100 + 100 + 2 + 2 + 2) (by omega) _ (4 + Q13) 6 X73 d.cur ne13 (fun j hj => l13.out j (by omega)) (by omega) (by omega)).mono ?_; rintro e X74 ⟨q, rfl, hc, hg⟩); (try dsimp only)
        have l5 := l5.kept hg ne5
        have l13 := l13.kept hg ne13
        have r3 := r3.kept hg (by omega)
        have d := d.kept hg hc
        clear hg hc
        refine hK.out _ _ (by exact d.k9.cell 0) (fun hHeld => ?_)
        clear hK K; (try simp only [Act.put]); (try simp only [List.setIfInBounds_toArray]); (try simp only [List.set_cons_succ]); (try simp only [List.set_cons_zero])
        refine wpAnyH_takeD (i := 20) (v := ?_) 2 rfl rfl (by kernel_rfl) (by kernel_rfl) (by kernel_rfl) (fun _ _ _ _ _ h => h) (by rfl) (by assumption) ?_ ?_
        rotate_left; focus (intro w hSw; (try dsimp only at hSw); go_simp; try (with_reducible rfl))
        (try simp only [Act.put]); (try simp only [List.setIfInBounds_toArray]); (try simp only [List.set_cons_succ]); (try simp only [List.set_cons_zero])
        refine wpAnyH_ready (rs := [21]) (by kernel_rfl) (by simp) ?_
        refine AllReadyH.cons rfl (fun K hK => ?_) AllReadyH.nil
        have v3 := d.k3.cell 0
        have f3 := d.k3.frozen 0
        simp only [List.getElem?_toArray, List.getElem?_cons_zero] at v3
        go_simp
        clear v3 f3
        obtain ⟨k3, k9, r1, r2, r3, hb⟩ := d.done r3 hb1 (Nat.le_of_lt hw1)
        generalize World.setCell X74 ⟨w.heap.size, 0, none⟩ (.slice D m k) = X75 at k3 k9 r1 r2 r3 hb ⊢
        refine hK.out _ _ (by exact k9.cell 0) (fun hHeld => ?_)
        clear hK K; (try simp only [Act.put]); (try simp only [List.setIfInBounds_toArray]); (try simp only [List.set_cons_succ]); (try simp only [List.set_cons_zero])
        refine wpAnyH_takeD (i := 22) (v := ?_) 4 rfl rfl (by kernel_rfl) (by kernel_rfl) (by kernel_rfl) (fun _ _ _ _ _ h => h) (by rfl) (by assumption) ?_ ?_
        rotate_left; focus (intro w hSw; (try dsimp only at hSw); go_simp; try (with_reducible rfl))
        (try simp only [Act.put]); (try simp only [List.setIfInBounds_toArray]); (try simp only [List.set_cons_succ]); (try simp only [List.set_cons_zero])
        refine wpAnyH_takeD (i := 23) (v := ?_) 5 rfl rfl (by kernel_rfl) (by kernel_rfl) (by kernel_rfl) (fun _ _ _ _ _ h => h) (by rfl) (by assumption) ?_ ?_
        rotate_left; focus (intro w hSw; (try dsimp only at hSw); go_simp; try (with_reducible rfl))
        (try simp only [Act.put]); (try simp only [List.setIfInBounds_toArray]); (try simp only [List.set_cons_succ]); (try simp only [List.set_cons_zero])
        refine wpAnyH_takeD (i := 24) (v := ?_) 6 rfl rfl (by kernel_rfl) (by kernel_rfl) (by kernel_rfl) (fun _ _ _ _ _ h => h) (by rfl) (by assumption) ?_ ?_
        rotate_left; focus (intro w hSw; (try dsimp only at hSw); go_simp; try (with_reducible rfl))
        (try simp only [Act.put]); (try simp only [List.setIfInBounds_toArray]); (try simp only [List.set_cons_succ]); (try simp only [List.set_cons_zero])
        refine wpAnyH_done (by kernel_rfl) ?_ _
        clear hHeld
        try go_wp2_with fail
        go_meet
        exact ⟨A3, n3, c3, vs, p, q, rfl, rfl, rfl, rfl, k3, r1, r2, r3, hn3, hnm3, hb⟩
      ·have hlX := d.cur.lt
       go_simp
       obtain ⟨X76, hX76⟩ : ∃ X76, X76 = World.alloc X60 (Obj.cells #[.int .i64 1, .int .i64 2, .int .i64 5000, .int .i64 10000, .int .i64 0, .int .i64 10001] 3) := ⟨_, rfl⟩
       rw [← hX76]
       have hbe : Below X60.heap.size X60 X76 := hX76 ▸ ext_alloc (Below.refl _ _) _
       have d := d.later hbe
       have l5 := l5.later hbe
       have r3 := r3.later hbe
       have l13 := LI.new X60 #[.int .i64 1, .int .i64 2, .int .i64 5000, .int .i64 10000, .int .i64 0, .int .i64 10001] 6 rfl (by decide)
       rw [← hX76] at l13
       have ne13 : X60.heap.size ≠ w.heap.size + 1 := by have := hlX; omega
       clear hX76 hbe
       clear hlX
       refine hK.out _ _ (by exact d.k9.cell 0) (fun hHeld => ?_)
       clear hK K; (try simp only [Act.put]); (try simp only [List.setIfInBounds_toArray]); (try simp only [List.set_cons_succ]); (try simp only [List.set_cons_zero])
       refine wpAnyH_ready (rs := [7]) (by kernel_rfl) (by simp) ?_
       refine AllReadyH.cons rfl (fun K hK => ?_) AllReadyH.nil
       go_simp; (go_at_call 54; refine (pick_any (w.heap.size + 1) (0 + 100 + 100 + 100) (by omega) 24 (by omega) X76 d.cur).mono ?_; rintro e X77 ⟨q5, rfl, q0, q1, hc, hg⟩); (try dsimp only)
       have l5 := l5.kept hg ne5
       have l13 := l13.kept hg ne13
       have r3 := r3.kept hg (by omega)
       have d := d.kept hg hc
       obtain ⟨Q5, hQ5⟩ : ∃ Q : Nat, q5 / 11 = (Q : Int) := ⟨(q5 / 11).toNat, by omega⟩
       have bQ5 : Q5 ≤ 2 := by omega
       have wQ5 : IntKind.i64.wrap (q5.tdiv 11) = (Q5 : Int) := by rw [wquo q0 (by omega) (by omega)]; exact hQ5
       have sQ5 : IntKind.i64.wrap (4 + (Q5 : Int)) = 4 + (Q5 : Int) := IntWalk.i64_in _ ⟨by omega, by omega⟩
       have tQ5 : (4 + (Q5 : Int)).toNat = 4 + Q5 := by omega
       have uQ5 : (0 : Int) ≤ 4 + (Q5 : Int) := by omega
       have yQ5 : 4 + (Q5 : Int) ≤ 6 := by omega
       clear hg hc q1 q0 hQ5
       refine hK.out _ _ (by exact d.k9.cell 0) (fun hHeld => ?_)
       clear hK K; (try simp only [Act.put]); (try simp only [List.setIfInBounds_toArray]); (try simp only [List.set_cons_succ]); (try simp only [List.set_cons_zero])
       refine wpAnyH_takeD (i := 8) (v := ?_) 26 rfl rfl (by kernel_rfl) (by kernel_rfl) (by kernel_rfl) (fun _ _ _ _ _ h => h) (by rfl) (by assumption) ?_ ?_
       rotate_left; focus (intro w hSw; (try dsimp only at hSw); go_simp; try (with_reducible rfl))
       (try simp only [Act.put]); (try simp only [List.setIfInBounds_toArray]); (try simp only [List.set_cons_succ]); (try simp only [List.set_cons_zero])
       refine wpAnyH_takeD (i := 9) (v := ?_) 27 rfl rfl (by kernel_rfl) (by kernel_rfl) (by kernel_rfl) (fun _ _ _ _ _ h => h) (by rfl) (by assumption) ?_ ?_
       rotate_left; focus (intro w hSw; (try dsimp only at hSw); go_simp; try (with_reducible rfl))
       (try simp only [Act.put]); (try simp only [List.setIfInBounds_toArray]); (try simp only [List.set_cons_succ]); (try simp only [List.set_cons_zero])
       refine wpAnyH_takeD (i := 10) (v := ?_) 28 rfl rfl (by kernel_rfl) (by kernel_rfl) (by kernel_rfl) (fun _ _ _ _ _ h => h) (by rfl) (by assumption) ?_ ?_
       rotate_left; focus (intro w hSw; (try dsimp only at hSw); go_simp; try (with_reducible rfl))
       (try simp only [Act.put]); (try simp only [List.setIfInBounds_toArray]); (try simp only [List.set_cons_succ]); (try simp only [List.set_cons_zero])
       refine wpAnyH_ready (rs := [11]) (by kernel_rfl) (by simp) ?_
       refine AllReadyH.cons rfl (fun K hK => ?_) AllReadyH.nil
       go_simp; (go_at_call 53; refine (amongB_any (w.heap.size + 1) (0 + 100 + 100 + 100 + 2) (by omega) _ (4 + Q5) 6 X77 d.cur ne5 (fun j hj => l5.out j (by omega)) (by omega) (by omega)).mono ?_; rintro e X78 ⟨p, rfl, hc, hg⟩); (try dsimp only)
       have l5 := l5.kept hg ne5
       have l13 := l13.kept hg ne13
       have r3 := r3.kept hg (by omega)
       have d := d.kept hg hc
       clear hg hc
       refine hK.out _ _ (by exact d.k9.cell 0) (fun hHeld => ?_)
       clear hK K; (try simp only [Act.put]); (try simp only [List.setIfInBounds_toArray]); (try simp only [List.set_cons_succ]); (try simp only [List.set_cons_zero])
       refine wpAnyH_ready (rs := [15]) (by kernel_rfl) (by simp) ?_
       refine AllReadyH.cons rfl (fun K hK => ?_) AllReadyH.nil
       go_simp; (go_at_call 54; refine (pick_any (w.heap.size + 1) (0 + 100 + 100 + 100 + 2 + 2) (by omega) 24 (by omega) X78 d.cur).mono ?_; rintro e X79 ⟨q13, rfl, q0, q1, hc, hg⟩); (try dsimp only)
       have l5 := l5.kept hg ne5
       have l13 := l13.kept hg ne13
       have r3 := r3.kept hg (by omega)
       have d := d.kept hg hc
       obtain ⟨Q13, hQ13⟩ : ∃ Q : Nat, q13 / 11 = (Q : Int) := ⟨(q13 / 11).toNat, by omega⟩
       have bQ13 : Q13 ≤ 2 := by omega
       have wQ13 : IntKind.i64.wrap (q13.tdiv 11) = (Q13 : Int) := by rw [wquo q0 (by omega) (by omega)]; exact hQ13
       have sQ13 : IntKind.i64.wrap (4 + (Q13 : Int)) = 4 + (Q13 : Int) := IntWalk.i64_in _ ⟨by omega, by omega⟩
       have tQ13 : (4 + (Q13 : Int)).toNat = 4 + Q13 := by omega
       have uQ13 : (0 : Int) ≤ 4 + (Q13 : Int) := by omega
       have yQ13 : 4 + (Q13 : Int) ≤ 6 := by omega
       clear hg hc q1 q0 hQ13
       refine hK.out _ _ (by exact d.k9.cell 0) (fun hHeld => ?_)
       clear hK K; (try simp only [Act.put]); (try simp only [List.setIfInBounds_toArray]); (try simp only [List.set_cons_succ]); (try simp only [List.set_cons_zero])
       refine wpAnyH_takeD (i := 16) (v := ?_) 34 rfl rfl (by kernel_rfl) (by kernel_rfl) (by kernel_rfl) (fun _ _ _ _ _ h => h) (by rfl) (by assumption) ?_ ?_
       rotate_left; focus (intro w hSw; (try dsimp only at hSw); go_simp; try (with_reducible rfl))
       (try simp only [Act.put]); (try simp only [List.setIfInBounds_toArray]); (try simp only [List.set_cons_succ]); (try simp only [List.set_cons_zero])
       refine wpAnyH_takeD (i := 17) (v := ?_) 35 rfl rfl (by kernel_rfl) (by kernel_rfl) (by kernel_rfl) (fun _ _ _ _ _ h => h) (by rfl) (by assumption) ?_ ?_
       rotate_left; focus (intro w hSw; (try dsimp only at hSw); go_simp; try (with_reducible rfl))
       (try simp only [Act.put]); (try simp only [List.setIfInBounds_toArray]); (try simp only [List.set_cons_succ]); (try simp only [List.set_cons_zero])
       refine wpAnyH_takeD (i := 18) (v := ?_) 36 rfl rfl (by kernel_rfl) (by kernel_rfl) (by kernel_rfl) (fun _ _ _ _ _ h => h) (by rfl) (by assumption) ?_ ?_
       rotate_left; focus (intro w hSw; (try dsimp only at hSw); go_simp; try (with_reducible rfl))
       (try simp only [Act.put]); (try simp only [List.setIfInBounds_toArray]); (try simp only [List.set_cons_succ]); (try simp only [List.set_cons_zero])
       refine wpAnyH_ready (rs := [19]) (by kernel_rfl) (by simp) ?_
       refine AllReadyH.cons rfl (fun K hK => ?_) AllReadyH.nil
       go_simp; (go_at_call 53; refine (amongB_any (w.heap.size + 1) (0 + 100 + 100 + 100 + 2 + 2 + 2) (by omega) _ (4 + Q13) 6 X79 d.cur ne13 (fun j hj => l13.out j (by omega)) (by omega) (by omega)).mono ?_; rintro e X80 ⟨q, rfl, hc, hg⟩); (try dsimp only)
       have l5 := l5.kept hg ne5
       have l13 := l13.kept hg ne13
       have r3 := r3.kept hg (by omega)
       have d := d.kept hg hc
       clear hg hc
       refine hK.out _ _ (by exact d.k9.cell 0) (fun hHeld => ?_)
       clear hK K; (try simp only [Act.put]); (try simp only [List.setIfInBounds_toArray]); (try simp only [List.set_cons_succ]); (try simp only [List.set_cons_zero])
       refine wpAnyH_takeD (i := 20) (v := ?_) 2 rfl rfl (by kernel_rfl) (by kernel_rfl) (by kernel_rfl) (fun _ _ _ _ _ h => h) (by rfl) (by assumption) ?_ ?_
       rotate_left; focus (intro w hSw; (try dsimp only at hSw); go_simp; try (with_reducible rfl))
       (try simp only [Act.put]); (try simp only [List.setIfInBounds_toArray]); (try simp only [List.set_cons_succ]); (try simp only [List.set_cons_zero])
       refine wpAnyH_ready (rs := [21]) (by kernel_rfl) (by simp) ?_
       refine AllReadyH.cons rfl (fun K hK => ?_) AllReadyH.nil
       have v3 := d.k3.cell 0
       have f3 := d.k3.frozen 0
       simp only [List.getElem?_toArray, List.getElem?_cons_zero] at v3
       go_simp
       clear v3 f3
       obtain ⟨k3, k9, r1, r2, r3, hb⟩ := d.done r3 hb1 (Nat.le_of_lt hw1)
       generalize World.setCell X80 ⟨w.heap.size, 0, none⟩ (.slice D m k) = X81 at k3 k9 r1 r2 r3 hb ⊢
       refine hK.out _ _ (by exact k9.cell 0) (fun hHeld => ?_)
       clear hK K; (try simp only [Act.put]); (try simp only [List.setIfInBounds_toArray]); (try simp only [List.set_cons_succ]); (try simp only [List.set_cons_zero])
       refine wpAnyH_takeD (i := 22) (v := ?_) 4 rfl rfl (by kernel_rfl) (by kernel_rfl) (by kernel_rfl) (fun _ _ _ _ _ h => h) (by rfl) (by assumption) ?_ ?_
       rotate_left; focus (intro w hSw; (try dsimp only at hSw); go_simp; try (with_reducible rfl))
       (try simp only [Act.put]); (try simp only [List.setIfInBounds_toArray]); (try simp only [List.set_cons_succ]); (try simp only [List.set_cons_zero])
       refine wpAnyH_takeD (i := 23) (v := ?_) 5 rfl rfl (by kernel_rfl) (by kernel_rfl) (by kernel_rfl) (fun _ _ _ _ _ h => h) (by rfl) (by assumption) ?_ ?_
       rotate_left; focus (intro w hSw; (try dsimp only at hSw); go_simp; try (with_reducible rfl))
       (try simp only [Act.put]); (try simp only [List.setIfInBounds_toArray]); (try simp only [List.set_cons_succ]); (try simp only [List.set_cons_zero])
       refine wpAnyH_takeD (i := 24) (v := ?_) 6 rfl rfl (by kernel_rfl) (by kernel_rfl) (by kernel_rfl) (fun _ _ _ _ _ h => h) (by rfl) (by assumption) ?_ ?_
       rotate_left; focus (intro w hSw; (try dsimp only at hSw); go_simp; try (with_reducible rfl))
       (try simp only [Act.put]); (try simp only [List.setIfInBounds_toArray]); (try simp only [List.set_cons_succ]); (try simp only [List.set_cons_zero])
       refine wpAnyH_done (by kernel_rfl) ?_ _
       clear hHeld
       try go_wp2_with fail
       go_meet
       exact ⟨A3, n3, c3, vs, p, q, rfl, rfl, rfl, rfl, k3, r1, r2, r3, hn3, hnm3, hb⟩
     ·have hlX := d.cur.lt
      go_simp
      obtain ⟨X82, hX82⟩ : ∃ X82, X82 = World.alloc X59 (Obj.cells #[.int .i64 1, .int .i64 2, .int .i64 5000, .int .i64 10000, .int .i64 0, .int .i64 10001] 3) := ⟨_, rfl⟩
      rw [← hX82]
      have hbe : Below X59.heap.size X59 X82 := hX82 ▸ ext_alloc (Below.refl _ _) _
      have d := d.later hbe
      have l5 := l5.later hbe
      have l13 := LI.new X59 #[.int .i64 1, .int .i64 2, .int .i64 5000, .int .i64 10000, .int .i64 0, .int .i64 10001] 6 rfl (by decide)
      rw [← hX82] at l13
      have ne13 : X59.heap.size ≠ w.heap.size + 1 := by have := hlX; omega
      clear hX82 hbe
      clear hlX
      refine hK.out _ _ (by exact d.k9.cell 0) (fun hHeld => ?_)
      clear hK K; (try simp only [Act.put]); (try simp only [List.setIfInBounds_toArray]); (try simp only [List.set_cons_succ]); (try simp only [List.set_cons_zero])
      refine wpAnyH_ready (rs := [3]) (by kernel_rfl) (by simp) ?_
      refine AllReadyH.cons rfl (fun K hK => ?_) AllReadyH.nil
      have hlX := d.cur.lt
      go_simp; (go_at_call 51; refine (system7_any (w.heap.size + 1) (0 + 100 + 100) (by omega) X82 d.cur).mono ?_; rintro e X83 ⟨A3, n3, c3, vs, rfl, r3, hn3, hnm3, hc, hg⟩); (try dsimp only)
      have l5 := l5.kept hg ne5
      have l13 := l13.kept hg ne13
      have r3 := r3.weak (show w.heap.size + 1 + 1 ≤ _ by omega)
      have d := d.kept hg hc
      clear hg hc hlX
      refine hK.out _ _ (by exact d.k9.cell 0) (fun hHeld => ?_)
      clear hK K; (try simp only [Act.put]); (try simp only [List.setIfInBounds_toArray]); (try simp only [List.set_cons_succ]); (try simp only [List.set_cons_zero])
      refine wpAnyH_ready (rs := [7]) (by kernel_rfl) (by simp) ?_
      refine AllReadyH.cons rfl (fun K hK => ?_) AllReadyH.nil
      go_simp; (go_at_call 54; refine (pick_any (w.heap.size + 1) (0 + 100 + 100 + 100) (by omega) 24 (by omega) X83 d.cur).mono ?_; rintro e X84 ⟨q5, rfl, q0, q1, hc, hg⟩); (try dsimp only)
      have l5 := l5.kept hg ne5
      have l13 := l13.kept hg ne13
      have r3 := r3.kept hg (by omega)
      have d := d.kept hg hc
      obtain ⟨Q5, hQ5⟩ : ∃ Q : Nat, q5 / 11 = (Q : Int) := ⟨(q5 / 11).toNat, by omega⟩
      have bQ5 : Q5 ≤ 2 := by omega
      have wQ5 : IntKind.i64.wrap (q5.tdiv 11) = (Q5 : Int) := by rw [wquo q0 (by omega) (by omega)]; exact hQ5
      have sQ5 : IntKind.i64.wrap (4 + (Q5 : Int)) = 4 + (Q5 : Int) := IntWalk.i64_in _ ⟨by omega, by omega⟩
      have tQ5 : (4 + (Q5 : Int)).toNat = 4 + Q5 := by omega
      have uQ5 : (0 : Int) ≤ 4 + (Q5 : Int) := by omega
      have yQ5 : 4 + (Q5 : Int) ≤ 6 := by omega
      clear hg hc q1 q0 hQ5
      refine hK.out _ _ (by exact d.k9.cell 0) (fun hHeld => ?_)
      clear hK K; (try simp only [Act.put]); (try simp only [List.setIfInBounds_toArray]); (try simp only [List.set_cons_succ]); (try simp only [List.set_cons_zero])
      refine wpAnyH_takeD (i := 8) (v := ?_) 26 rfl rfl (by kernel_rfl) (by kernel_rfl) (by kernel_rfl) (fun _ _ _ _ _ h => h) (by rfl) (by assumption) ?_ ?_
      rotate_left; focus (intro w hSw; (try dsimp only at hSw); go_simp; try (with_reducible rfl))
      (try simp only [Act.put]); (try simp only [List.setIfInBounds_toArray]); (try simp only [List.set_cons_succ]); (try simp only [List.set_cons_zero])
      refine wpAnyH_takeD (i := 9) (v := ?_) 27 rfl rfl (by kernel_rfl) (by kernel_rfl) (by kernel_rfl) (fun _ _ _ _ _ h => h) (by rfl) (by assumption) ?_ ?_
      rotate_left; focus (intro w hSw; (try dsimp only at hSw); go_simp; try (with_reducible rfl))
      (try simp only [Act.put]); (try simp only [List.setIfInBounds_toArray]); (try simp only [List.set_cons_succ]); (try simp only [List.set_cons_zero])
      refine wpAnyH_takeD (i := 10) (v := ?_) 28 rfl rfl (by kernel_rfl) (by kernel_rfl) (by kernel_rfl) (fun _ _ _ _ _ h => h) (by rfl) (by assumption) ?_ ?_
      rotate_left; focus (intro w hSw; (try dsimp only at hSw); go_simp; try (with_reducible rfl))
      (try simp only [Act.put]); (try simp only [List.setIfInBounds_toArray]); (try simp only [List.set_cons_succ]); (try simp only [List.set_cons_zero])
      refine wpAnyH_ready (rs := [11]) (by kernel_rfl) (by simp) ?_
      refine AllReadyH.cons rfl (fun K hK => ?_) AllReadyH.nil
      go_simp; (go_at_call 53; refine (amongB_any (w.heap.size + 1) (0 + 100 + 100 + 100 + 2) (by omega) _ (4 + Q5) 6 X84 d.cur ne5 (fun j hj => l5.out j (by omega)) (by omega) (by omega)).mono ?_; rintro e X85 ⟨p, rfl, hc, hg⟩); (try dsimp only)
      have l5 := l5.kept hg ne5
      have l13 := l13.kept hg ne13
      have r3 := r3.kept hg (by omega)
      have d := d.kept hg hc
      clear hg hc
      refine hK.out _ _ (by exact d.k9.cell 0) (fun hHeld => ?_)
      clear hK K; (try simp only [Act.put]); (try simp only [List.setIfInBounds_toArray]); (try simp only [List.set_cons_succ]); (try simp only [List.set_cons_zero])
      refine wpAnyH_ready (rs := [15]) (by kernel_rfl) (by simp) ?_
      refine AllReadyH.cons rfl (fun K hK => ?_) AllReadyH.nil
      go_simp; (go_at_call 54; refine (pick_any (w.heap.size + 1) (0 + 100 + 100 + 100 + 2 + 2) (by omega) 24 (by omega) X85 d.cur).mono ?_; rintro e X86 ⟨q13, rfl, q0, q1, hc, hg⟩); (try dsimp only)
      have l5 := l5.kept hg ne5
      have l13 := l13.kept hg ne13
      have r3 := r3.kept hg (by omega)
      have d := d.kept hg hc
      obtain ⟨Q13, hQ13⟩ : ∃ Q : Nat, q13 / 11 = (Q : Int) := ⟨(q13 / 11).toNat, by omega⟩
      have bQ13 : Q13 ≤ 2 := by omega
      have wQ13 : IntKind.i64.wrap (q13.tdiv 11) = (Q13 : Int) := by rw [wquo q0 (by omega) (by omega)]; exact hQ13
      have sQ13 : IntKind.i64.wrap (4 + (Q13 : Int)) = 4 + (Q13 : Int) := IntWalk.i64_in _ ⟨by omega, by omega⟩
      have tQ13 : (4 + (Q13 : Int)).toNat = 4 + Q13 := by omega
      have uQ13 : (0 : Int) ≤ 4 + (Q13 : Int) := by omega
      have yQ13 : 4 + (Q13 : Int) ≤ 6 := by omega
      clear hg hc q1 q0 hQ13
      refine hK.out _ _ (by exact d.k9.cell 0) (fun hHeld => ?_)
      clear hK K; (try simp only [Act.put]); (try simp only [List.setIfInBounds_toArray]); (try simp only [List.set_cons_succ]); (try simp only [List.set_cons_zero])
      refine wpAnyH_takeD (i := 16) (v := ?_) 34 rfl rfl (by kernel_rfl) (by kernel_rfl) (by kernel_rfl) (fun _ _ _ _ _ h => h) (by rfl) (by assumption) ?_ ?_
      rotate_left; focus (intro w hSw; (try dsimp only at hSw); go_simp; try (with_reducible rfl))
      (try simp only [Act.put]); (try simp only [List.setIfInBounds_toArray]); (try simp only [List.set_cons_succ]); (try simp only [List.set_cons_zero])
      refine wpAnyH_takeD (i := 17) (v := ?_) 35 rfl rfl (by kernel_rfl) (by kernel_rfl) (by kernel_rfl) (fun _ _ _ _ _ h => h) (by rfl) (by assumption) ?_ ?_
      rotate_left; focus (intro w hSw; (try dsimp only at hSw); go_simp; try (with_reducible rfl))
      (try simp only [Act.put]); (try simp only [List.setIfInBounds_toArray]); (try simp only [List.set_cons_succ]); (try simp only [List.set_cons_zero])
      refine wpAnyH_takeD (i := 18) (v := ?_) 36 rfl rfl (by kernel_rfl) (by kernel_rfl) (by kernel_rfl) (fun _ _ _ _ _ h => h) (by rfl) (by assumption) ?_ ?_
      rotate_left; focus (intro w hSw; (try dsimp only at hSw); go_simp; try (with_reducible rfl))
      (try simp only [Act.put]); (try simp only [List.setIfInBounds_toArray]); (try simp only [List.set_cons_succ]); (try simp only [List.set_cons_zero])
      refine wpAnyH_ready (rs := [19]) (by kernel_rfl) (by simp) ?_
      refine AllReadyH.cons rfl (fun K hK => ?_) AllReadyH.nil
      go_simp; (go_at_call 53; refine (amongB_any (w.heap.size + 1) (0 + 100 + 100 + 100 + 2 + 2 + 2) (by omega) _ (4 + Q13) 6 X86 d.cur ne13 (fun j hj => l13.out j (by omega)) (by omega) (by omega)).mono ?_; rintro e X87 ⟨q, rfl, hc, hg⟩); (try dsimp only)
      have l5 := l5.kept hg ne5
      have l13 := l13.kept hg ne13
      have r3 := r3.kept hg (by omega)
      have d := d.kept hg hc
      clear hg hc
      refine hK.out _ _ (by exact d.k9.cell 0) (fun hHeld => ?_)
      clear hK K; (try simp only [Act.put]); (try simp only [List.setIfInBounds_toArray]); (try simp only [List.set_cons_succ]); (try simp only [List.set_cons_zero])
      refine wpAnyH_takeD (i := 20) (v := ?_) 2 rfl rfl (by kernel_rfl) (by kernel_rfl) (by kernel_rfl) (fun _ _ _ _ _ h => h) (by rfl) (by assumption) ?_ ?_
      rotate_left; focus (intro w hSw; (try dsimp only at hSw); go_simp; try (with_reducible rfl))
      (try simp only [Act.put]); (try simp only [List.setIfInBounds_toArray]); (try simp only [List.set_cons_succ]); (try simp only [List.set_cons_zero])
      refine wpAnyH_ready (rs := [21]) (by kernel_rfl) (by simp) ?_
      refine AllReadyH.cons rfl (fun K hK => ?_) AllReadyH.nil
      have v3 := d.k3.cell 0
      have f3 := d.k3.frozen 0
      simp only [List.getElem?_toArray, List.getElem?_cons_zero] at v3
      go_simp
      clear v3 f3
      obtain ⟨k3, k9, r1, r2, r3, hb⟩ := d.done r3 hb1 (Nat.le_of_lt hw1)
      generalize World.setCell X87 ⟨w.heap.size, 0, none⟩ (.slice D m k) = X88 at k3 k9 r1 r2 r3 hb ⊢
      refine hK.out _ _ (by exact k9.cell 0) (fun hHeld => ?_)
      clear hK K; (try simp only [Act.put]); (try simp only [List.setIfInBounds_toArray]); (try simp only [List.set_cons_succ]); (try simp only [List.set_cons_zero])
      refine wpAnyH_takeD (i := 22) (v := ?_) 4 rfl rfl (by kernel_rfl) (by kernel_rfl) (by kernel_rfl) (fun _ _ _ _ _ h => h) (by rfl) (by assumption) ?_ ?_
      rotate_left; focus (intro w hSw; (try dsimp only at hSw); go_simp; try (with_reducible rfl))
      (try simp only [Act.put]); (try simp only [List.setIfInBounds_toArray]); (try simp only [List.set_cons_succ]); (try simp only [List.set_cons_zero])
      refine wpAnyH_takeD (i := 23) (v := ?_) 5 rfl rfl (by kernel_rfl) (by kernel_rfl) (by kernel_rfl) (fun _ _ _ _ _ h => h) (by rfl) (by assumption) ?_ ?_
      rotate_left; focus (intro w hSw; (try dsimp only at hSw); go_simp; try (with_reducible rfl))
      (try simp only [Act.put]); (try simp only [List.setIfInBounds_toArray]); (try simp only [List.set_cons_succ]); (try simp only [List.set_cons_zero])
      refine wpAnyH_takeD (i := 24) (v := ?_) 6 rfl rfl (by kernel_rfl) (by kernel_rfl) (by kernel_rfl) (fun _ _ _ _ _ h => h) (by rfl) (by assumption) ?_ ?_
      rotate_left; focus (intro w hSw; (try dsimp only at hSw); go_simp; try (with_reducible rfl))
      (try simp only [Act.put]); (try simp only [List.setIfInBounds_toArray]); (try simp only [List.set_cons_succ]); (try simp only [List.set_cons_zero])
      refine wpAnyH_done (by kernel_rfl) ?_ _
      clear hHeld
      try go_wp2_with fail
      go_meet
      exact ⟨A3, n3, c3, vs, p, q, rfl, rfl, rfl, rfl, k3, r1, r2, r3, hn3, hnm3, hb⟩
    ·have hlX := d.cur.lt
     go_simp
     obtain ⟨X89, hX89⟩ : ∃ X89, X89 = World.alloc X (Obj.cells #[.int .i64 1, .int .i64 2, .int .i64 5000, .int .i64 10000, .int .i64 0, .int .i64 10001] 3) := ⟨_, rfl⟩
     rw [← hX89]
     have hbe : Below X.heap.size X X89 := hX89 ▸ ext_alloc (Below.refl _ _) _
     have d := d.later hbe
     have l13 := LI.new X #[.int .i64 1, .int .i64 2, .int .i64 5000, .int .i64 10000, .int .i64 0, .int .i64 10001] 6 rfl (by decide)
     rw [← hX89] at l13
     have ne13 : X.heap.size ≠ w.heap.size + 1 := by have := hlX; omega
     clear hX89 hbe
     clear hlX
     refine hK.out _ _ (by exact d.k9.cell 0) (fun hHeld => ?_)
     clear hK K; (try simp only [Act.put]); (try simp only [List.setIfInBounds_toArray]); (try simp only [List.set_cons_succ]); (try simp only [List.set_cons_zero])
     refine wpAnyH_ready (rs := [3, 5]) (by kernel_rfl) (by simp) ?_
     refine AllReadyH.cons rfl (fun K hK => ?_) (AllReadyH.cons rfl (fun K hK => ?_) AllReadyH.nil)
     ·have hlX := d.cur.lt
      go_simp; (go_at_call 51; refine (system7_any (w.heap.size + 1) (0 + 100 + 100) (by omega) X89 d.cur).mono ?_; rintro e X90 ⟨A3, n3, c3, vs, rfl, r3, hn3, hnm3, hc, hg⟩); (try dsimp only)
      have l13 := l13.kept hg ne13
      have r3 := r3.weak (show w.heap.size + 1 + 1 ≤ _ by omega)
      have d := d.kept hg hc
      clear hg hc hlX
      refine hK.out _ _ (by exact d.k9.cell 0) (fun hHeld => ?_)
      clear hK K; (try simp only [Act.put]); (try simp only [List.setIfInBounds_toArray]); (try simp only [List.set_cons_succ]); (try simp only [List.set_cons_zero])
      refine wpAnyH_ready (rs := [5, 7]) (by kernel_rfl) (by simp) ?_
      refine AllReadyH.cons rfl (fun K hK => ?_) (AllReadyH.cons rfl (fun K hK => ?_) AllReadyH.nil)
      ·have hlX := d.cur.lt
       go_simp
       obtain ⟨X91, hX91⟩ : ∃ X91, X91 = World.alloc X90 (Obj.cells #[.int .i64 1, .int .i64 3, .int .i64 127, .int .i64 10000, .int .i64 0, .int .i64 10001] 3) := ⟨_, rfl⟩
       rw [← hX91]
       have hbe : Below X90.heap.size X90 X91 := hX91 ▸ ext_alloc (Below.refl _ _) _
       have d := d.later hbe
       have l13 := l13.later hbe
       have r3 := r3.later hbe
       have l5 := LI.new X90 #[.int .i64 1, .int .i64 3, .int .i64 127, .int .i64 10000, .int .i64 0, .int .i64 10001] 6 rfl (by decide)
       rw [← hX91] at l5
       have ne5 : X90.heap.size ≠ w.heap.size + 1 := by have := hlX; omega
       clear hX91 hbe
       clear hlX
       refine hK.out _ _ (by exact d.k9.cell 0) (fun hHeld => ?_)
       clear hK K; (try simp only [Act.put]); (try simp only [List.setIfInBounds_toArray]); (try simp only [List.set_cons_succ]); (try simp only [List.set_cons_zero])
       refine wpAnyH_ready (rs := [7]) (by kernel_rfl) (by simp) ?_
       refine AllReadyH.cons rfl (fun K hK => ?_) AllReadyH.nil
       go_simp; (go_at_call 54; refine (pick_any (w.heap.size + 1) (0 + 100 + 100 + 100) (by omega) 24 (by omega) X91 d.cur).mono ?_; rintro e X92 ⟨q5, rfl, q0, q1, hc, hg⟩); (try dsimp only)
       have l5 := l5.kept hg ne5
       have l13 := l13.kept hg ne13
       have r3 := r3.kept hg (by omega)
       have d := d.kept hg hc
       obtain ⟨Q5, hQ5⟩ : ∃ Q : Nat, q5 / 11 = (Q : Int) := ⟨(q5 / 11).toNat, by omega⟩
       have bQ5 : Q5 ≤ 2 := by omega
       have wQ5 : IntKind.i64.wrap (q5.tdiv 11) = (Q5 : Int) := by rw [wquo q0 (by omega) (by omega)]; exact hQ5
       have sQ5 : IntKind.i64.wrap (4 + (Q5 : Int)) = 4 + (Q5 : Int) := IntWalk.i64_in _ ⟨by omega, by omega⟩
       have tQ5 : (4 + (Q5 : Int)).toNat = 4 + Q5 := by omega
       have uQ5 : (0 : Int) ≤ 4 + (Q5 : Int) := by omega
       have yQ5 : 4 + (Q5 : Int) ≤ 6 := by omega
       clear hg hc q1 q0 hQ5
       refine hK.out _ _ (by exact d.k9.cell 0) (fun hHeld => ?_)
       clear hK K; (try simp only [Act.put]); (try simp only [List.setIfInBounds_toArray]); (try simp only [List.set_cons_succ]); (try simp only [List.set_cons_zero])
       refine wpAnyH_takeD (i := 8) (v := ?_) 26 rfl rfl (by kernel_rfl) (by kernel_rfl) (by kernel_rfl) (fun _ _ _ _ _ h => h) (by rfl) (by assumption) ?_ ?_
       rotate_left; focus (intro w hSw; (try dsimp only at hSw); go_simp; try (with_reducible rfl))
       (try simp only [Act.put]); (try simp only [List.setIfInBounds_toArray]); (try simp only [List.set_cons_succ]); (try simp only [List.set_cons_zero])
       refine wpAnyH_takeD (i := 9) (v := ?_) 27 rfl rfl (by kernel_rfl) (by kernel_rfl) (by kernel_rfl) (fun _ _ _ _ _ h => h) (by rfl) (by assumption) ?_ ?_
       rotate_left; focus (intro w hSw; (try dsimp only at hSw); go_simp; try (with_reducible rfl))
       (try simp only [Act.put]); (try simp only [List.setIfInBounds_toArray]); (try simp only [List.set_cons_succ]); (try simp only [List.set_cons_zero])
       refine wpAnyH_takeD (i := 10) (v := ?_) 28 rfl rfl (by kernel_rfl) (by kernel_rfl) (by kernel_rfl) (fun _ _ _ _ _ h => h) (by rfl) (by assumption) ?_ ?_
       rotate_left; focus (intro w hSw; (try dsimp only at hSw); go_simp; try (with_reducible rfl))
       (try simp only [Act.put]); (try simp only [List.setIfInBounds_toArray]); (try simp only [List.set_cons_succ]); (try simp only [List.set_cons_zero])
       refine wpAnyH_ready (rs := [11]) (by kernel_rfl) (by simp) ?_
       refine AllReadyH.cons rfl (fun K hK => ?_) AllReadyH.nil
       go_simp; (go_at_call 53; refine (amongB_any (w.heap.size + 1) (0 + 100 + 100 + 100 + 2) (by omega) _ (4 + Q5) 6 X92 d.cur ne5 (fun j hj => l5.out j (by omega)) (by omega) (by omega)).mono ?_; rintro e X93 ⟨p, rfl, hc, hg⟩); (try dsimp only)
       have l5 := l5.kept hg ne5
       have l13 := l13.kept hg ne13
       have r3 := r3.kept hg (by omega)
       have d := d.kept hg hc
       clear hg hc
       refine hK.out _ _ (by exact d.k9.cell 0) (fun hHeld => ?_)
       clear hK K; (try simp only [Act.put]); (try simp only [List.setIfInBounds_toArray]); (try simp only [List.set_cons_succ]); (try simp only [List.set_cons_zero])
       refine wpAnyH_ready (rs := [15]) (by kernel_rfl) (by simp) ?_
       refine AllReadyH.cons rfl (fun K hK => ?_) AllReadyH.nil
       go_simp; (go_at_call 54; refine (pick_any (w.heap.size + 1) (0 + 100 + 100 + 100 + 2 + 2) (by omega) 24 (by omega) X93 d.cur).mono ?_; rintro e X94 ⟨q13, rfl, q0, q1, hc, hg⟩); (try dsimp only)
       have l5 := l5.kept hg ne5
       have l13 := l13.kept hg ne13
       have r3 := r3.kept hg (by omega)
       have d := d.kept hg hc
       obtain ⟨Q13, hQ13⟩ : ∃ Q : Nat, q13 / 11 = (Q : Int) := ⟨(q13 / 11).toNat, by omega⟩
       have bQ13 : Q13 ≤ 2 := by omega
       have wQ13 : IntKind.i64.wrap (q13.tdiv 11) = (Q13 : Int) := by rw [wquo q0 (by omega) (by omega)]; exact hQ13
       have sQ13 : IntKind.i64.wrap (4 + (Q13 : Int)) = 4 + (Q13 : Int) := IntWalk.i64_in _ ⟨by omega, by omega⟩
       have tQ13 : (4 + (Q13 : Int)).toNat = 4 + Q13 := by omega
       have uQ13 : (0 : Int) ≤ 4 + (Q13 : Int) := by omega
       have yQ13 : 4 + (Q13 : Int) ≤ 6 := by omega
       clear hg hc q1 q0 hQ13
       refine hK.out _ _ (by exact d.k9.cell 0) (fun hHeld => ?_)
       clear hK K; (try simp only [Act.put]); (try simp only [List.setIfInBounds_toArray]); (try simp only [List.set_cons_succ]); (try simp only [List.set_cons_zero])
       refine wpAnyH_takeD (i := 16) (v := ?_) 34 rfl rfl (by kernel_rfl) (by kernel_rfl) (by kernel_rfl) (fun _ _ _ _ _ h => h) (by rfl) (by assumption) ?_ ?_
       rotate_left; focus (intro w hSw; (try dsimp only at hSw); go_simp; try (with_reducible rfl))
       (try simp only [Act.put]); (try simp only [List.setIfInBounds_toArray]); (try simp only [List.set_cons_succ]); (try simp only [List.set_cons_zero])
       refine wpAnyH_takeD (i := 17) (v := ?_) 35 rfl rfl (by kernel_rfl) (by kernel_rfl) (by kernel_rfl) (fun _ _ _ _ _ h => h) (by rfl) (by assumption) ?_ ?_
       rotate_left; focus (intro w hSw; (try dsimp only at hSw); go_simp; try (with_reducible rfl))
       (try simp only [Act.put]); (try simp only [List.setIfInBounds_toArray]); (try simp only [List.set_cons_succ]); (try simp only [List.set_cons_zero])
       refine wpAnyH_takeD (i := 18) (v := ?_) 36 rfl rfl (by kernel_rfl) (by kernel_rfl) (by kernel_rfl) (fun _ _ _ _ _ h => h) (by rfl) (by assumption) ?_ ?_
       rotate_left; focus (intro w hSw; (try dsimp only at hSw); go_simp; try (with_reducible rfl))
       (try simp only [Act.put]); (try simp only [List.setIfInBounds_toArray]); (try simp only [List.set_cons_succ]); (try simp only [List.set_cons_zero])
       refine wpAnyH_ready (rs := [19]) (by kernel_rfl) (by simp) ?_
       refine AllReadyH.cons rfl (fun K hK => ?_) AllReadyH.nil
       go_simp; (go_at_call 53; refine (amongB_any (w.heap.size + 1) (0 + 100 + 100 + 100 + 2 + 2 + 2) (by omega) _ (4 + Q13) 6 X94 d.cur ne13 (fun j hj => l13.out j (by omega)) (by omega) (by omega)).mono ?_; rintro e X95 ⟨q, rfl, hc, hg⟩); (try dsimp only)
       have l5 := l5.kept hg ne5
       have l13 := l13.kept hg ne13
       have r3 := r3.kept hg (by omega)
       have d := d.kept hg hc
       clear hg hc
       refine hK.out _ _ (by exact d.k9.cell 0) (fun hHeld => ?_)
       clear hK K; (try simp only [Act.put]); (try simp only [List.setIfInBounds_toArray]); (try simp only [List.set_cons_succ]); (try simp only [List.set_cons_zero])
       refine wpAnyH_takeD (i := 20) (v := ?_) 2 rfl rfl (by kernel_rfl) (by kernel_rfl) (by kernel_rfl) (fun _ _ _ _ _ h => h) (by rfl) (by assumption) ?_ ?_
       rotate_left; focus (intro w hSw; (try dsimp only at hSw); go_simp; try (with_reducible rfl))
       (try simp only [Act.put]); (try simp only [List.setIfInBounds_toArray]); (try simp only [List.set_cons_succ]); (try simp only [List.set_cons_zero])
       refine wpAnyH_ready (rs := [21]) (by kernel_rfl) (by simp) ?_
       refine AllReadyH.cons rfl (fun K hK => ?_) AllReadyH.nil
       have v3 := d.k3.cell 0
       have f3 := d.k3.frozen 0
       simp only [List.getElem?_toArray, List.getElem?_cons_zero] at v3
       go_simp
       clear v3 f3
       obtain ⟨k3, k9, r1, r2, r3, hb⟩ := d.done r3 hb1 (Nat.le_of_lt hw1)
       generalize World.setCell X95 ⟨w.heap.size, 0, none⟩ (.slice D m k) = X96 at k3 k9 r1 r2 r3 hb ⊢
       refine hK.out _ _ (by exact k9.cell 0) (fun hHeld => ?_)
       clear hK K; (try simp only [Act.put]); (try simp only [List.setIfInBounds_toArray]); (try simp only [List.set_cons_succ]); (try simp only [List.set_cons_zero])
       refine wpAnyH_takeD (i := 22) (v := ?_) 4 rfl rfl (by kernel_rfl) (by kernel_rfl) (by kernel_rfl) (fun _ _ _ _ _ h => h) (by rfl) (by assumption) ?_ ?_
       rotate_left; focus (intro w hSw; (try dsimp only at hSw); go_simp; try (with_reducible rfl))
       (try simp only [Act.put]); (try simp only [List.setIfInBounds_toArray]); (try simp only [List.set_cons_succ]); (try simp only [List.set_cons_zero])
       refine wpAnyH_takeD (i := 23) (v := ?_) 5 rfl rfl (by kernel_rfl) (by kernel_rfl) (by kernel_rfl) (fun _ _ _ _ _ h => h) (by rfl) (by assumption) ?_ ?_
       rotate_left; focus (intro w hSw; (try dsimp only at hSw); go_simp; try (with_reducible rfl))
       (try simp only [Act.put]); (try simp only [List.setIfInBounds_toArray]); (try simp only [List.set_cons_succ]); (try simp only [List.set_cons_zero])
       refine wpAnyH_takeD (i := 24) (v := ?_) 6 rfl rfl (by kernel_rfl) (by kernel_rfl) (by kernel_rfl) (fun _ _ _ _ _ h => h) (by rfl) (by assumption) ?_ ?_
       rotate_left; focus (intro w hSw; (try dsimp only at hSw); go_simp; try (with_reducible rfl))
       (try simp only [Act.put]); (try simp only [List.setIfInBounds_toArray]); (try simp only [List.set_cons_succ]); (try simp only [List.set_cons_zero])
       refine wpAnyH_done (by kernel_rfl) ?_ _
       clear hHeld
       try go_wp2_with fail
       go_meet
       exact ⟨A3, n3, c3, vs, p, q, rfl, rfl, rfl, rfl, k3, r1, r2, r3, hn3, hnm3, hb⟩
      ·go_simp; (go_at_call 54; refine (pick_any (w.heap.size + 1) (0 + 100 + 100 + 100) (by omega) 24 (by omega) X90 d.cur).mono ?_; rintro e X97 ⟨q5, rfl, q0, q1, hc, hg⟩); (try dsimp only)
       have l13 := l13.kept hg ne13
       have r3 := r3.kept hg (by omega)
       have d := d.kept hg hc
       obtain ⟨Q5, hQ5⟩ : ∃ Q : Nat, q5 / 11 = (Q : Int) := ⟨(q5 / 11).toNat, by omega⟩
       have bQ5 : Q5 ≤ 2 := by omega
       have wQ5 : IntKind.i64.wrap (q5.tdiv 11) = (Q5 : Int) := by rw [wquo q0 (by omega) (by omega)]; exact hQ5
       have sQ5 : IntKind.i64.wrap (4 + (Q5 : Int)) = 4 + (Q5 : Int) := IntWalk.i64_in _ ⟨by omega, by omega⟩
       have tQ5 : (4 + (Q5 : Int)).toNat = 4 + Q5 := by omega
       have uQ5 : (0 : Int) ≤ 4 + (Q5 : Int) := by omega
       have yQ5 : 4 + (Q5 : Int) ≤ 6 := by omega
       clear hg hc q1 q0 hQ5
       refine hK.out _ _ (by exact d.k9.cell 0) (fun hHeld => ?_)
       clear hK K; (try simp only [Act.put]); (try simp only [List.setIfInBounds_toArray]); (try simp only [List.set_cons_succ]); (try simp only [List.set_cons_zero])
       refine wpAnyH_takeD (i := 8) (v := ?_) 26 rfl rfl (by kernel_rfl) (by kernel_rfl) (by kernel_rfl) (fun _ _ _ _ _ h => h) (by rfl) (by assumption) ?_ ?_
       rotate_left; focus (intro w hSw; (try dsimp only at hSw); go_simp; try (with_reducible rfl))
       (try simp only [Act.put]); (try simp only [List.setIfInBounds_toArray]); (try simp only [List.set_cons_succ]); (try simp only [List.set_cons_zero])
       refine wpAnyH_takeD (i := 9) (v := ?_) 27 rfl rfl (by kernel_rfl) (by kernel_rfl) (by kernel_rfl) (fun _ _ _ _ _ h => h) (by rfl) (by assumption) ?_ ?_
       rotate_left; focus (intro w hSw; (try dsimp only at hSw); go_simp; try (with_reducible rfl))
       (try simp only [Act.put]); (try simp only [List.setIfInBounds_toArray]); (try simp only [List.set_cons_succ]); (try simp only [List.set_cons_zero])
       refine wpAnyH_ready (rs := [5]) (by kernel_rfl) (by simp) ?_
       refine AllReadyH.cons rfl (fun K hK => ?_) AllReadyH.nil
       have hlX := d.cur.lt
       go_simp
       obtain ⟨X98, hX98⟩ : ∃ X98, X98 = World.alloc X97 (Obj.cells #[.int .i64 1, .int .i64 3, .int .i64 127, .int .i64 10000, .int .i64 0, .int .i64 10001] 3) := ⟨_, rfl⟩
       rw [← hX98]
       have hbe : Below X97.heap.size X97 X98 := hX98 ▸ ext_alloc (Below.refl _ _) _
       have d := d.later hbe
       have l13 := l13.later hbe
       have r3 := r3.later hbe
       have l5 := LI.new X97 #[.int .i64 1, .int .i64 3, .int .i64 127, .int .i64 10000, .int .i64 0, .int .i64 10001] 6 rfl (by decide)
       rw [← hX98] at l5
       have ne5 : X97.heap.size ≠ w.heap.size + 1 := by have := hlX; omega
       clear hX98 hbe
       clear hlX
       refine hK.out _ _ (by exact d.k9.cell 0) (fun hHeld => ?_)
       clear hK K; (try simp only [Act.put]); (try simp only [List.setIfInBounds_toArray]); (try simp only [List.set_cons_succ]); (try simp only [List.set_cons_zero])
       refine wpAnyH_takeD (i := 10) (v := ?_) 28 rfl rfl (by kernel_rfl) (by kernel_rfl) (by kernel_rfl) (fun _ _ _ _ _ h => h) (by rfl) (by assumption) ?_ ?_
       rotate_left; focus (intro w hSw; (try dsimp only at hSw); go_simp; try (with_reducible rfl))
       (try simp only [Act.put]); (try simp only [List.setIfInBounds_toArray]); (try simp only [List.set_cons_succ]); (try simp only [List.set_cons_zero])
       refine wpAnyH_ready (rs := [11]) (by kernel_rfl) (by simp) ?_
       refine AllReadyH.cons rfl (fun K hK => ?_) AllReadyH.nil
       go_simp; (go_at_call 53; refine (amongB_any (w.heap.size + 1) (0 + 100 + 100 + 100 + 2) (by omega) _ (4 + Q5) 6 X98 d.cur ne5 (fun j hj => l5.out j (by omega)) (by omega) (by omega)).mono ?_; rintro e X99 ⟨p, rfl, hc, hg⟩); (try dsimp only)
       have l5 := l5.kept hg ne5
       have l13 := l13.kept hg ne13
       have r3 := r3.kept hg (by omega)
       have d := d.kept hg hc
       clear hg hc
       refine hK.out _ _ (by exact d.k9.cell 0) (fun hHeld => ?_)
       clear hK K; (try simp only [Act.put]); (try simp only [List.setIfInBounds_toArray]); (try simp only [List.set_cons_succ]); (try simp only [List.set_cons_zero])
       refine wpAnyH_ready (rs := [15]) (by kernel_rfl) (by simp) ?_
       refine AllReadyH.cons rfl (fun K hK => ?_) AllReadyH.nil
       go_simp; (go_at_call 54; refine (pick_any (w.heap.size + 1) (0 + 100 + 100 + 100 + 2 + 2) (by omega) 24 (by omega) X99 d.cur).mono ?_; rintro e X100 ⟨q13, rfl, q0, q1, hc, hg⟩); (try dsimp only)
       have l5 := l5.kept hg ne5
       have l13 := l13.kept hg ne13
       have r3 := r3.kept hg (by omega)
       have d := d.kept hg hc
       obtain ⟨Q13, hQ13⟩ : ∃ Q : Nat, q13 / 11 = (Q : Int) := ⟨(q13 / 11).toNat, by omega⟩
       have bQ13 : Q13 ≤ 2 := by omega
       have wQ13 : IntKind.i64.wrap (q13.tdiv 11) = (Q13 : Int) := by rw [wquo q0 (by omega) (by omega)]; exact hQ13
       have sQ13 : IntKind.i64.wrap (4 + (Q13 : Int)) = 4 + (Q13 : Int) := IntWalk.i64_in _ ⟨by omega, by omega⟩
       have tQ13 : (4 + (Q13 : Int)).toNat = 4 + Q13 := by omega
       have uQ13 : (0 : Int) ≤ 4 + (Q13 : Int) := by omega
       have yQ13 : 4 + (Q13 : Int) ≤ 6 := by omega
       clear hg hc q1 q0 hQ13
       refine hK.out _ _ (by exact d.k9.cell 0) (fun hHeld => ?_)
       clear hK K; (try simp only [Act.put]); (try simp only [List.setIfInBounds_toArray]); (try simp only [List.set_cons_succ]); (try simp only [List.set_cons_zero])
       refine wpAnyH_takeD (i := 16) (v := ?_) 34 rfl rfl (by kernel_rfl) (by kernel_rfl) (by kernel_rfl) (fun _ _ _ _ _ h => h) (by rfl) (by assumption) ?_ ?_
       rotate_left; focus (intro w hSw; (try dsimp only at hSw); go_simp; try (with_reducible rfl))
       (try simp only [Act.put]); (try simp only [List.setIfInBounds_toArray]); (try simp only [List.set_cons_succ]); (try simp only [List.set_cons_zero])
       refine wpAnyH_takeD (i := 17) (v := ?_) 35 rfl rfl (by kernel_rfl) (by kernel_rfl) (by kernel_rfl) (fun _ _ _ _ _ h => h) (by rfl) (by assumption) ?_ ?_
       rotate_left; focus (intro w hSw; (try dsimp only at hSw); go_simp; try (with_reducible rfl))
       (try simp only [Act.put]); (try simp only [List.setIfInBounds_toArray]); (try simp only [List.set_cons_succ]); (try simp only [List.set_cons_zero])
       refine wpAnyH_takeD (i := 18) (v := ?_) 36 rfl rfl (by kernel_rfl) (by kernel_rfl) (by kernel_rfl) (fun _ _ _ _ _ h => h) (by rfl) (by assumption) ?_ ?_
       rotate_left; focus (intro w hSw; (try dsimp only at hSw); go_simp; try (with_reducible rfl))
       (try simp only [Act.put]); (try simp only [List.setIfInBounds_toArray]); (try simp only [List.set_cons_succ]); (try simp only [List.set_cons_zero])
       refine wpAnyH_ready (rs := [19]) (by kernel_rfl) (by simp) ?_
       refine AllReadyH.cons rfl (fun K hK => ?_) AllReadyH.nil
       go_simp; (go_at_call 53; refine (amongB_any (w.heap.size + 1) (0 + 100 + 100 + 100 + 2 + 2 + 2) (by omega) _ (4 + Q13) 6 X100 d.cur ne13 (fun j hj => l13.out j (by omega)) (by omega) (by omega)).mono ?_; rintro e X101 ⟨q, rfl, hc, hg⟩); (try dsimp only)
       have l5 := l5.kept hg ne5
       have l13 := l13.kept hg ne13
       have r3 := r3.kept hg (by omega)
       have d := d.kept hg hc
       clear hg hc
       refine hK.out _ _ (by exact d.k9.cell 0) (fun hHeld => ?_)
       clear hK K; (try simp only [Act.put]); (try simp only [List.setIfInBounds_toArray]); (try simp only [List.set_cons_succ]); (try simp only [List.set_cons_zero])
       refine wpAnyH_takeD (i := 20) (v := ?_) 2 rfl rfl (by kernel_rfl) (by kernel_rfl) (by kernel_rfl) (fun _ _ _ _ _ h => h) (by rfl) (by assumption) ?_ ?_
       rotate_left; focus (intro w hSw; (try dsimp only at hSw); go_simp; try (with_reducible rfl))
       (try simp only [Act.put]); (try simp only [List.setIfInBounds_toArray]); (try simp only [List.set_cons_succ]); (try simp only [List.set_cons_zero])
       refine wpAnyH_ready (rs := [21]) (by kernel_rfl) (by simp) ?_
       refine AllReadyH.cons rfl (fun K hK => ?_) AllReadyH.nil
       have v3 := d.k3.cell 0
       have f3 := d.k3.frozen 0
       simp only [List.getElem?_toArray, List.getElem?_cons_zero] at v3
       go_simp
       clear v3 f3
       obtain ⟨k3, k9, r1, r2, r3, hb⟩ := d.done r3 hb1 (Nat.le_of_lt hw1)
       generalize World.setCell X101 ⟨w.heap.size, 0, none⟩ (.slice D m k) = X102 at k3 k9 r1 r2 r3 hb ⊢
       refine hK.out _ _ (by exact k9.cell 0) (fun hHeld => ?_)
       clear hK K; (try simp only [Act.put]); (try simp only [List.setIfInBounds_toArray]); (try simp only [List.set_cons_succ]); (try simp only [List.set_cons_zero])
       refine wpAnyH_takeD (i := 22) (v := ?_) 4 rfl rfl (by kernel_rfl) (by kernel_rfl) (by kernel_rfl) (fun _ _ _ _ _ h => h) (by rfl) (by assumption) ?_ ?_
       rotate_left; focus (intro w hSw; (try dsimp only at hSw); go_simp; try (with_reducible rfl))
       (try simp only [Act.put]); (try simp only [List.setIfInBounds_toArray]); (try simp only [List.set_cons_succ]); (try simp only [List.set_cons_zero])
       refine wpAnyH_takeD (i := 23) (v := ?_) 5 rfl rfl (by kernel_rfl) (by kernel_rfl) (by kernel_rfl) (fun _ _ _ _ _ h => h) (by rfl) (by assumption) ?_ ?_
       rotate_left; focus (intro w hSw; (try dsimp only at hSw); go_simp; try (with_reducible rfl))
       (try simp only [Act.put]); (try simp only [List.setIfInBounds_toArray]); (try simp only [List.set_cons_succ]); (try simp only [List.set_cons_zero])
       refine wpAnyH_takeD (i := 24) (v := ?_) 6 rfl rfl (by kernel_rfl) (by kernel_rfl) (by kernel_rfl) (fun _ _ _ _ _ h => h) (by rfl) (by assumption) ?_ ?_
       rotate_left; focus (intro w hSw; (try dsimp only at hSw); go_simp; try (with_reducible rfl))
       (try simp only [Act.put]); (try simp only [List.setIfInBounds_toArray]); (try simp only [List.set_cons_succ]); (try simp only [List.set_cons_zero])
       refine wpAnyH_done (by kernel_rfl) ?_ _
       clear hHeld
       try go_wp2_with fail
       go_meet
       exact ⟨A3, n3, c3, vs, p, q, rfl, rfl, rfl, rfl, k3, r1, r2, r3, hn3, hnm3, hb⟩
     ·have hlX := d.cur.lt
      go_simp
      obtain ⟨X103, hX103⟩ : ∃ X103, X103 = World.alloc X89 (Obj.cells #[.int .i64 1, .int .i64 3, .int .i64 127, .int .i64 10000, .int .i64 0, .int .i64 10001] 3) := ⟨_, rfl⟩
      rw [← hX103]
      have hbe : Below X89.heap.size X89 X103 := hX103 ▸ ext_alloc (Below.refl _ _) _
      have d := d.later hbe
      have l13 := l13.later hbe
      have l5 := LI.new X89 #[.int .i64 1, .int .i64 3, .int .i64 127, .int .i64 10000, .int .i64 0, .int .i64 10001] 6 rfl (by decide)
      rw [← hX103] at l5
      have ne5 : X89.heap.size ≠ w.heap.size + 1 := by have := hlX; omega
      clear hX103 hbe
      clear hlX
      refine hK.out _ _ (by exact d.k9.cell 0) (fun hHeld => ?_)
      clear hK K; (try simp only [Act.put]); (try simp only [List.setIfInBounds_toArray]); (try simp only [List.set_cons_succ]); (try simp only [List.set_cons_zero])
      refine wpAnyH_ready (rs := [3]) (by kernel_rfl) (by simp) ?_
      refine AllReadyH.cons rfl (fun K hK => ?_) AllReadyH.nil
      have hlX := d.cur.lt
      go_simp; (go_at_call 51; refine (system7_any (w.heap.size + 1) (0 + 100 + 100) (by omega) X103 d.cur).mono ?_; rintro e X104 ⟨A3, n3, c3, vs, rfl, r3, hn3, hnm3, hc, hg⟩); (try dsimp only)
      have l5 := l5.kept hg ne5
      have l13 := l13.kept hg ne13
      have r3 := r3.weak (show w.heap.size + 1 + 1 ≤ _ by omega)
      have d := d.kept hg hc
      clear hg hc hlX
      refine hK.out _ _ (by exact d.k9.cell 0) (fun hHeld => ?_)
      clear hK K; (try simp only [Act.put]); (try simp only [List.setIfInBounds_toArray]); (try simp only [List.set_cons_succ]); (try simp only [List.set_cons_zero])
      refine wpAnyH_ready (rs := [7]) (by kernel_rfl) (by simp) ?_
      refine AllReadyH.cons rfl (fun K hK => ?_) AllReadyH.nil
      go_simp; (go_at_call 54; refine (pick_any (w.heap.size + 1) (0 + 100 + 100 + 100) (by omega) 24 (by omega) X104 d.cur).mono ?_; rintro e X105 ⟨q5, rfl, q0, q1, hc, hg⟩); (try dsimp only)
      have l5 := l5.kept hg ne5
      have l13 := l13.kept hg ne13
      have r3 := r3.kept hg (by omega)
      have d := d.kept hg hc
      obtain ⟨Q5, hQ5⟩ : ∃ Q : Nat, q5 / 11 = (Q : Int) := ⟨(q5 / 11).toNat, by omega⟩
      have bQ5 : Q5 ≤ 2 := by omega
      have wQ5 : IntKind.i64.wrap (q5.tdiv 11) = (Q5 : Int) := by rw [wquo q0 (by omega) (by omega)]; exact hQ5
      have sQ5 : IntKind.i64.wrap (4 + (Q5 : Int)) = 4 + (Q5 : Int) := IntWalk.i64_in _ ⟨by omega, by omega⟩
      have tQ5 : (4 + (Q5 : Int)).toNat = 4 + Q5 := by omega
      have uQ5 : (0 : Int) ≤ 4 + (Q5 : Int) := by omega
      have yQ5 : 4 + (Q5 : Int) ≤ 6 := by omega
      clear hg hc q1 q0 hQ5
      refine hK.out _ _ (by exact d.k9.cell 0) (fun hHeld => ?_)
      clear hK K; (try simp only [Act.put]); (try simp only [List.setIfInBounds_toArray]); (try simp only [List.set_cons_succ]); (try simp only [List.set_cons_zero])
      refine wpAnyH_takeD (i := 8) (v := ?_) 26 rfl rfl (by kernel_rfl) (by kernel_rfl) (by kernel_rfl) (fun _ _ _ _ _ h => h) (by rfl) (by assumption) ?_ ?_
      rotate_left; focus (intro w hSw; (try dsimp only at hSw); go_simp; try (with_reducible rfl))
      (try simp only [Act.put]); (try simp only [List.setIfInBounds_toArray]); (try simp only [List.set_cons_succ]); (try simp only [List.set_cons_zero])
      refine wpAnyH_takeD (i := 9) (v := ?_) 27 rfl rfl (by kernel_rfl) (by kernel_rfl) (by kernel_rfl) (fun _ _ _ _ _ h => h) (by rfl) (by assumption) ?_ ?_
      rotate_left; focus (intro w hSw; (try dsimp only at hSw); go_simp; try (with_reducible rfl))
      (try simp only [Act.put]); (try simp only [List.setIfInBounds_toArray]); (try simp only [List.set_cons_succ]); (try simp only [List.set_cons_zero])
      refine wpAnyH_takeD (i := 10) (v := ?_) 28 rfl rfl (by kernel_rfl) (by kernel_rfl) (by kernel_rfl) (fun _ _ _ _ _ h => h) (by rfl) (by assumption) ?_ ?_
      rotate_left; focus (intro w hSw; (try dsimp only at hSw); go_simp; try (with_reducible rfl))
      (try simp only [Act.put]); (try simp only [List.setIfInBounds_toArray]); (try simp only [List.set_cons_succ]); (try simp only [List.set_cons_zero])
      refine wpAnyH_ready (rs := [11]) (by kernel_rfl) (by simp) ?_
      refine AllReadyH.cons rfl (fun K hK => ?_) AllReadyH.nil
      go_simp; (go_at_call 53; refine (amongB_any (w.heap.size + 1) (0 + 100 + 100 + 100 + 2) (by omega) _ (4 + Q5) 6 X105 d.cur ne5 (fun j hj => l5.out j (by omega)) (by omega) (by omega)).mono ?_; rintro e X106 ⟨p, rfl, hc, hg⟩); (try dsimp only)
      have l5 := l5.kept hg ne5
      have l13 := l13.kept hg ne13
      have r3 := r3.kept hg (by omega)
      have d := d.kept hg hc
      clear hg hc
      refine hK.out _ _ (by exact d.k9.cell 0) (fun hHeld => ?_)
      clear hK K; (try simp only [Act.put]); (try simp only [List.setIfInBounds_toArray]); (try simp only [List.set_cons_succ]); (try simp only [List.set_cons_zero])
      refine wpAnyH_ready (rs := [15]) (by kernel_rfl) (by simp) ?_
      refine AllReadyH.cons rfl (fun K hK => ?_) AllReadyH.nil
      go_simp; (go_at_call 54; refine (pick_any (w.heap.size + 1) (0 + 100 + 100 + 100 + 2 + 2) (by omega) 24 (by omega) X106 d.cur).mono ?_; rintro e X107 ⟨q13, rfl, q0, q1, hc, hg⟩); (try dsimp only)
      have l5 := l5.kept hg ne5
      have l13 := l13.kept hg ne13
      have r3 := r3.kept hg (by omega)
      have d := d.kept hg hc
      obtain ⟨Q13, hQ13⟩ : ∃ Q : Nat, q13 / 11 = (Q : Int) := ⟨(q13 / 11).toNat, by omega⟩
      have bQ13 : Q13 ≤ 2 := by omega
      have wQ13 : IntKind.i64.wrap (q13.tdiv 11) = (Q13 : Int) := by rw [wquo q0 (by omega) (by omega)]; exact hQ13
      have sQ13 : IntKind.i64.wrap (4 + (Q13 : Int)) = 4 + (Q13 : Int) := IntWalk.i64_in _ ⟨by omega, by omega⟩
      have tQ13 : (4 + (Q13 : Int)).toNat = 4 + Q13 := by omega
      have uQ13 : (0 : Int) ≤ 4 + (Q13 : Int) := by omega
      have yQ13 : 4 + (Q13 : Int) ≤ 6 := by omega
      clear hg hc q1 q0 hQ13
      refine hK.out _ _ (by exact d.k9.cell 0) (fun hHeld => ?_)
      clear hK K; (try simp only [Act.put]); (try simp only [List.setIfInBounds_toArray]); (try simp only [List.set_cons_succ]); (try simp only [List.set_cons_zero])
      refine wpAnyH_takeD (i := 16) (v := ?_) 34 rfl rfl (by kernel_rfl) (by kernel_rfl) (by kernel_rfl) (fun _ _ _ _ _ h => h) (by rfl) (by assumption) ?_ ?_
      rotate_left; focus (intro w hSw; (try dsimp only at hSw); go_simp; try (with_reducible rfl))
      (try simp only [Act.put]); (try simp only [List.setIfInBounds_toArray]); (try simp only [List.set_cons_succ]); (try simp only [List.set_cons_zero])
      refine wpAnyH_takeD (i := 17) (v := ?_) 35 rfl rfl (by kernel_rfl) (by kernel_rfl) (by kernel_rfl) (fun _ _ _ _ _ h => h) (by rfl) (by assumption) ?_ ?_
      rotate_left; focus (intro w hSw; (try dsimp only at hSw); go_simp; try (with_reducible rfl))
      (try simp only [Act.put]); (try simp only [List.setIfInBounds_toArray]); (try simp only [List.set_cons_succ]); (try simp only [List.set_cons_zero])
      refine wpAnyH_takeD (i := 18) (v := ?_) 36 rfl rfl (by kernel_rfl) (by kernel_rfl) (by kernel_rfl) (fun _ _ _ _ _ h => h) (by rfl) (by assumption) ?_ ?_
      rotate_left; focus (intro w hSw; (try dsimp only at hSw); go_simp; try (with_reducible rfl))
      (try simp only [Act.put]); (try simp only [List.setIfInBounds_toArray]); (try simp only [List.set_cons_succ]); (try simp only [List.set_cons_zero])
      refine wpAnyH_ready (rs := [19]) (by kernel_rfl) (by simp) ?_
      refine AllReadyH.cons rfl (fun K hK => ?_) AllReadyH.nil
      go_simp; (go_at_call 53; refine (amongB_any (w.heap.size + 1) (0 + 100 + 100 + 100 + 2 + 2 + 2) (by omega) _ (4 + Q13) 6 X107 d.cur ne13 (fun j hj => l13.out j (by omega)) (by omega) (by omega)).mono ?_; rintro e X108 ⟨q, rfl, hc, hg⟩); (try dsimp only)
      have l5 := l5.kept hg ne5
      have l13 := l13.kept hg ne13
      have r3 := r3.kept hg (by omega)
      have d := d.kept hg hc
      clear hg hc
      refine hK.out _ _ (by exact d.k9.cell 0) (fun hHeld => ?_)
      clear hK K; (try simp only [Act.put]); (try simp only [List.setIfInBounds_toArray]); (try simp only [List.set_cons_succ]); (try simp only [List.set_cons_zero])
      refine wpAnyH_takeD (i := 20) (v := ?_) 2 rfl rfl (by kernel_rfl) (by kernel_rfl) (by kernel_rfl) (fun _ _ _ _ _ h => h) (by rfl) (by assumption) ?_ ?_
      rotate_left; focus (intro w hSw; (try dsimp only at hSw); go_simp; try (with_reducible rfl))
      (try simp only [Act.put]); (try simp only [List.setIfInBounds_toArray]); (try simp only [List.set_cons_succ]); (try simp only [List.set_cons_zero])
      refine wpAnyH_ready (rs := [21]) (by kernel_rfl) (by simp) ?_
      refine AllReadyH.cons rfl (fun K hK => ?_) AllReadyH.nil
      have v3 := d.k3.cell 0
      have f3 := d.k3.frozen 0
      simp only [List.getElem?_toArray, List.getElem?_cons_zero] at v3
      go_simp
      clear v3 f3
      obtain ⟨k3, k9, r1, r2, r3, hb⟩ := d.done r3 hb1 (Nat.le_of_lt hw1)
      generalize World.setCell X108 ⟨w.heap.size, 0, none⟩ (.slice D m k) = X109 at k3 k9 r1 r2 r3 hb ⊢
      refine hK.out _ _ (by exact k9.cell 0) (fun hHeld => ?_)
      clear hK K; (try simp only [Act.put]); (try simp only [List.setIfInBounds_toArray]); (try simp only [List.set_cons_succ]); (try simp only [List.set_cons_zero])
      refine wpAnyH_takeD (i := 22) (v := ?_) 4 rfl rfl (by kernel_rfl) (by kernel_rfl) (by kernel_rfl) (fun _ _ _ _ _ h => h) (by rfl) (by assumption) ?_ ?_
      rotate_left; focus (intro w hSw; (try dsimp only at hSw); go_simp; try (with_reducible rfl))
      (try simp only [Act.put]); (try simp only [List.setIfInBounds_toArray]); (try simp only [List.set_cons_succ]); (try simp only [List.set_cons_zero])
      refine wpAnyH_takeD (i := 23) (v := ?_) 5 rfl rfl (by kernel_rfl) (by kernel_rfl) (by kernel_rfl) (fun _ _ _ _ _ h => h) (by rfl) (by assumption) ?_ ?_
      rotate_left; focus (intro w hSw; (try dsimp only at hSw); go_simp; try (with_reducible rfl))
      (try simp only [Act.put]); (try simp only [List.setIfInBounds_toArray]); (try simp only [List.set_cons_succ]); (try simp only [List.set_cons_zero])
      refine wpAnyH_takeD (i := 24) (v := ?_) 6 rfl rfl (by kernel_rfl) (by kernel_rfl) (by kernel_rfl) (fun _ _ _ _ _ h => h) (by rfl) (by assumption) ?_ ?_
      rotate_left; focus (intro w hSw; (try dsimp only at hSw); go_simp; try (with_reducible rfl))
      (try simp only [Act.put]); (try simp only [List.setIfInBounds_toArray]); (try simp only [List.set_cons_succ]); (try simp only [List.set_cons_zero])
      refine wpAnyH_done (by kernel_rfl) ?_ _
      clear hHeld
      try go_wp2_with fail
      go_meet
      exact ⟨A3, n3, c3, vs, p, q, rfl, rfl, rfl, rfl, k3, r1, r2, r3, hn3, hnm3, hb⟩
  case rest =>
    obtain ⟨A3, n3, c3, vs, p, q, rfl, rfl, rfl, rfl, k3, r1, r2, r3, hn3, hnm3, hb⟩ := hcut
    have rz := k3.cell 0
    simp only [List.getElem?_toArray, List.getElem?_cons_zero] at rz
    have Q1 := Lib.hid r1
    have Q2 := Lib.hid r2
    have Q3 := Lib.hid r3
    have HB := Lib.hid hb
    have HN3 := Lib.hid hnm3
    clear k3 r1 r2 r3 hb hnm3
    go_wp2_with fail
    refine bodyPost_ret (v := .tuple #[.slice A' n' c', .agg #[.slice D m k], .slice A3 n3 c3, .int .i64 p, .int .i64 q]) (by simp [results, Try.results26, go_sem, rz]) rfl ?_
    exact ⟨A', n', c', us, D, m, k, zs, A3, n3, c3, vs, p, q, rfl, DrU.of Q1.out hn' HNM.out (by omega), DrA.of Q2.out hm (by omega), DrU.of Q3.out hn3 HN3.out (by omega), HB.out⟩
end Go.Proofs.Ythigfbhkdegfkaa
