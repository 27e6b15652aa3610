/- The draws of chapter 7: amounts. No condition. -/
import Derived.Test.YthigfbhkdegfkaaDrawU
namespace Go.Proofs.Ythigfbhkdegfkaa
open Go.RowKit

theorem AccW.accI {w : World} {b E k n c : Nat} {A : Option Addr} {zs : List Int} (h : AccW w b E k A n c (zs.map (Value.int .i64))) : ∃ w0 : World, w0.heap.size = b ∧ Acc w0 w E k A n c zs := by
  obtain ⟨w0, hs, ha⟩ := h.acc
  exact ⟨w0, hs, ha.own, ha.ext⟩
theorem AccW.ofI {w0 w : World} {b E k n c : Nat} {A : Option Addr} {zs : List Int} (h : Acc w0 w E k A n c zs) (hs : w0.heap.size = b) : AccW w b E k A n c (zs.map (Value.int .i64)) := ⟨hs ▸ h.own, by have := h.ext.size; omega⟩
set_option maxRecDepth 100000 in
set_option maxHeartbeats 16000000 in
theorem amount7_any (g t : Nat) (ht : t ≤ 1000000) (A : Option Addr) (n c : Nat) (hn : n ≤ 8) (w : World) (h : CurOk w g t) :
    Calls Try.prog 52 #[.pointer (some ⟨g, 0, none⟩), .slice A n c] w fun e w' => ∃ (D : Option Addr) (m k : Nat) (zs : List Int), e = .returned (.agg #[.slice D m k]) ∧ RowR w' w.heap.size 1 D m k (zs.map (Value.int .i64)) ∧ m ≤ 9 ∧ CurOk w' g (t + 100) ∧ w.grownBy w' (some g) := by
  have hgw := h.lt
  have hc := (h.alloc (.cells #[.slice none 0 0] 28)).alloc (.cells #[.slice none 0 0] 28)
  have hk4 := (Blk.new w 28 #[.slice none 0 0]).alloc (.cells #[.slice none 0 0] 28)
  have hk5 := Blk.new (w.alloc (.cells #[.slice none 0 0] 28)) 28 #[.slice none 0 0]
  rw [show (w.alloc (.cells #[.slice none 0 0] 28)).heap.size = w.heap.size + 1 by simp] at hk5
  have hg := grownBy_any_row (World.grownBy.refl w (some g)) (ext_alloc (ext_alloc (Below.refl w.heap.size w) (.cells #[.slice none 0 0] 28)) (.cells #[.slice none 0 0] 28))
  generalize hw1 : (w.alloc (.cells #[.slice none 0 0] 28)).alloc (.cells #[.slice none 0 0] 28) = w1 at hc hk4 hk5 hg
  have H1 := Lib.hid hc
  have K41 := Lib.hid hk4
  have K51 := Lib.hid hk5
  have G1 := Lib.hid hg
  have HW := Lib.hid hw1
  clear h hc hk4 hk5 hg hw1
  go_enter Try.func52, Try.ntmps52
  go_wp2_with fail
  rw [HW.out]
  go_loopw [6] (fun i wr => ∃ (j k : Nat) (D : Option Addr) (zs : List Int) (t' : Nat), i = .int .i64 (j : Int) ∧ j ≤ n ∧ AccW wr w.heap.size 3 1 D j k (zs.map (Value.int .i64)) ∧ Blk wr (w.heap.size + 1) 28 #[.slice D j k] ∧ Blk wr w.heap.size 28 #[.slice none 0 0] ∧ CurOk wr g t' ∧ t' ≤ t + 2 * j ∧ w.grownBy wr (some g)) (fun i _ => n - (intOf i).toNat)
  case atStart => exact ⟨0, 0, none, [], t, rfl, by omega, ⟨World.ownsRow_nil _ _ _ _, G1.out.size⟩, K51.out, K41.out, H1.out, by omega, G1.out⟩
  case round =>
    obtain ⟨wq, rfl⟩ : ∃ wq : World, wq = wr := ⟨_, rfl⟩
    obtain ⟨j, k, D, zs, t', rfl, hj, ha, h5, h4, hc, ht', hg⟩ := hrel
    have HA := Lib.hid ha
    have K5 := Lib.hid h5
    have K4 := Lib.hid h4
    have HC := Lib.hid hc
    have HG := Lib.hid hg
    have j0 : (0 : Int) ≤ j := by omega
    have hwl := hg.size
    clear ha h5 h4 hc hg
    by_cases hlt : j < n
    · have j1 : (j : Int) < n := by omega
      go_wp2_with fail
      ·
        have bX0 : Below wq.heap.size wq wq.drew := ext_drew (Below.refl _ _)
        refine wp_region_held_drew (S := fun _ => True) (by kernel_rfl) ?_ (fun hHeld => ?_)
        · (try dsimp only); first | done | exact trivial
        obtain ⟨X, hX⟩ : ∃ X, X = World.drew wq := ⟨_, rfl⟩
        rw [← hX]
        try rw [← hX] at hHeld
        rw [← hX] at bX0
        have bX := bX0
        clear hX bX0
        have aX := HA.out.later bX
        have k5 := K5.out.below bX K5.out.lt
        have k4 := K4.out.below bX K4.out.lt
        have cX := HC.out.below bX
        have gX := grownBy_any_row HG.out bX
        clear bX
        refine wpAnyH_takeD (i := 0) (v := ?_) 14 rfl rfl (by kernel_rfl) (by kernel_rfl) (by kernel_rfl) (fun _ _ _ _ _ h => h) (by rfl) (by assumption) ?_ ?_
        rotate_left; focus (intro w hSw; (try dsimp only at hSw); go_simp; try (with_reducible rfl))
        (try simp only [Act.put]); (try simp only [List.setIfInBounds_toArray]); (try simp only [List.set_cons_succ]); (try simp only [List.set_cons_zero])
        refine wpAnyH_takeD (i := 2) (v := ?_) 16 rfl rfl (by kernel_rfl) (by kernel_rfl) (by kernel_rfl) (fun _ _ _ _ _ h => h) (by rfl) (by assumption) ?_ ?_
        rotate_left; focus (intro w hSw; (try dsimp only at hSw); go_simp; try (with_reducible rfl))
        (try simp only [Act.put]); (try simp only [List.setIfInBounds_toArray]); (try simp only [List.set_cons_succ]); (try simp only [List.set_cons_zero])
        refine wpAnyH_ready (rs := [1, 3]) (by kernel_rfl) (by simp) ?_
        refine AllReadyH.cons rfl (fun K hK => ?_) (AllReadyH.cons rfl (fun K hK => ?_) AllReadyH.nil)
        ·have v5 := k5.cell 0
         simp only [List.getElem?_toArray, List.getElem?_cons_zero] at v5
         go_simp
         clear v5
         refine hK.out _ _ (by exact trivial) (fun hHeld => ?_)
         clear hK K; (try simp only [Act.put]); (try simp only [List.setIfInBounds_toArray]); (try simp only [List.set_cons_succ]); (try simp only [List.set_cons_zero])
         refine wpAnyH_ready (rs := [3]) (by kernel_rfl) (by simp) ?_
         refine AllReadyH.cons rfl (fun K hK => ?_) AllReadyH.nil
         have hgX := cX.lt
         go_simp
         obtain ⟨X2, hX2⟩ : ∃ X2, X2 = World.alloc X (Obj.cells #[.int .i64 0, .int .i64 0, .int .i64 1, .int .i64 5, .int .i64 11, .int .i64 12, .int .i64 99, .int .i64 9999] 3) := ⟨_, rfl⟩
         rw [← hX2]
         have hbe : Below X.heap.size X X2 := hX2 ▸ ext_alloc (Below.refl _ _) _
         have aX := aX.later hbe
         have k5 := k5.below hbe k5.lt
         have k4 := k4.below hbe k4.lt
         have cX := cX.below hbe
         have gX := grownBy_any_row gX hbe
         have hli := lit_ints X 3 #[.int .i64 0, .int .i64 0, .int .i64 1, .int .i64 5, .int .i64 11, .int .i64 12, .int .i64 99, .int .i64 9999] 8 rfl (by decide)
         rw [← hX2] at hli
         have hne : X.heap.size ≠ g := by have := hgX; omega
         clear hX2 hbe
         clear hgX
         refine hK.out _ _ (by exact trivial) (fun hHeld => ?_)
         clear hK K; (try simp only [Act.put]); (try simp only [List.setIfInBounds_toArray]); (try simp only [List.set_cons_succ]); (try simp only [List.set_cons_zero])
         refine wpAnyH_ready (rs := [4]) (by kernel_rfl) (by simp) ?_
         refine AllReadyH.cons rfl (fun K hK => ?_) AllReadyH.nil
         go_simp; (go_at_call 53; refine (amongB_any g t' (by omega) _ 8 8 X2 cX hne hli (by omega) (by omega)).mono ?_; rintro e X3 ⟨z, rfl, cX, hg2⟩); (try dsimp only)
         have aX := aX.kept hg2 hgw
         have k5 := k5.grown hg2 (by intro e; injection e with e; omega)
         have k4 := k4.grown hg2 (by intro e; injection e with e; omega)
         have gX := grownBy_trans gX hg2
         clear hg2 hli hne
         refine hK.out _ _ (by exact trivial) (fun hHeld => ?_)
         clear hK K; (try simp only [Act.put]); (try simp only [List.setIfInBounds_toArray]); (try simp only [List.set_cons_succ]); (try simp only [List.set_cons_zero])
         refine wpAnyH_ready (rs := [5]) (by kernel_rfl) (by simp) ?_
         refine AllReadyH.cons rfl (fun K hK => ?_) AllReadyH.nil
         go_simp
         obtain ⟨X4, hX4⟩ : ∃ X4, X4 = World.alloc X3 (Obj.cells #[.int .i64 z] 3) := ⟨_, rfl⟩
         rw [← hX4]
         have hbe : Below X3.heap.size X3 X4 := hX4 ▸ ext_alloc (Below.refl _ _) _
         have aX := aX.later hbe
         have k5 := k5.below hbe k5.lt
         have k4 := k4.below hbe k4.lt
         have cX := cX.below hbe
         have gX := grownBy_any_row gX hbe
         have rX := reads_new X3 #[.int .i64 z] 3 1 [z] rfl rfl
         rw [← hX4] at rX
         clear hX4 hbe
         refine hK.out _ _ (by exact trivial) (fun hHeld => ?_)
         clear hK K; (try simp only [Act.put]); (try simp only [List.setIfInBounds_toArray]); (try simp only [List.set_cons_succ]); (try simp only [List.set_cons_zero])
         refine wpAnyH_ready (rs := [6]) (by kernel_rfl) (by simp) ?_
         refine AllReadyH.cons rfl (fun K hK => ?_) AllReadyH.nil
         obtain ⟨w00, hs00, acc⟩ := aX.accI
         refine appI_b_step rfl (.tmp 15) (.tmp 19) rfl rfl acc rfl rX (by omega) ?_
         intro D2 k2 X5 a2 p2
         obtain ⟨cX, gX⟩ := push_cur cX gX hgw p2 aX.low
         have k5 := k5.pushed p2 (own_ne_blk aX.own k5 (by decide))
         have k4 := k4.pushed p2 (own_ne_blk aX.own k4 (by decide))
         have aX := AccW.ofI a2 hs00
         clear a2 p2 acc hs00 rX
         refine hK.out _ _ (by exact trivial) (fun hHeld => ?_)
         clear hK K; (try simp only [Act.put]); (try simp only [List.setIfInBounds_toArray]); (try simp only [List.set_cons_succ]); (try simp only [List.set_cons_zero])
         refine wpAnyH_takeD (i := 7) (v := ?_) 21 rfl rfl (by kernel_rfl) (by kernel_rfl) (by kernel_rfl) (fun _ _ _ _ _ h => h) (by rfl) (by assumption) ?_ ?_
         rotate_left; focus (intro w hSw; (try dsimp only at hSw); go_simp; try (with_reducible rfl))
         (try simp only [Act.put]); (try simp only [List.setIfInBounds_toArray]); (try simp only [List.set_cons_succ]); (try simp only [List.set_cons_zero])
         refine wpAnyH_ready (rs := [8]) (by kernel_rfl) (by simp) ?_
         refine AllReadyH.cons rfl (fun K hK => ?_) AllReadyH.nil
         have v5 := k5.cell 0
         have f5 := k5.frozen 0
         simp only [List.getElem?_toArray, List.getElem?_cons_zero] at v5
         go_simp
         clear v5 f5
         have aX := aX.far (w.heap.size + 1) 0 (own_ne_blk aX.own k5 (by decide)) (.slice D2 (j + 1) k2)
         have k5 := k5.set_ 0 (.slice D2 (j + 1) k2)
         have k4 := k4.far (p := ⟨w.heap.size + 1, 0, none⟩) (by dsimp only; omega) (.slice D2 (j + 1) k2)
         have cX := cX.set (p := ⟨w.heap.size + 1, 0, none⟩) (by dsimp only; omega) (.slice D2 (j + 1) k2)
         have gX := grownBy_set gX (p := ⟨w.heap.size + 1, 0, none⟩) (by dsimp only; omega) (.slice D2 (j + 1) k2)
         simp only [List.setIfInBounds_toArray, List.set_cons_zero] at k5
         generalize World.setCell X5 ⟨w.heap.size + 1, 0, none⟩ (.slice D2 (j + 1) k2) = X6 at aX k5 k4 cX gX ⊢
         refine hK.out _ _ (by exact trivial) (fun hHeld => ?_)
         clear hK K; (try simp only [Act.put]); (try simp only [List.setIfInBounds_toArray]); (try simp only [List.set_cons_succ]); (try simp only [List.set_cons_zero])
         refine wpAnyH_done (by kernel_rfl) ?_ _
         clear hHeld
         go_wp2_with fail
         go_roundw
         case rel => exact ⟨j + 1, k2, D2, zs ++ [z], _, by go_num, by omega, aX, k5, k4, cX, by omega, gX⟩
         case measure => simp [intOf]; omega
        ·have hgX := cX.lt
         go_simp
         obtain ⟨X7, hX7⟩ : ∃ X7, X7 = World.alloc X (Obj.cells #[.int .i64 0, .int .i64 0, .int .i64 1, .int .i64 5, .int .i64 11, .int .i64 12, .int .i64 99, .int .i64 9999] 3) := ⟨_, rfl⟩
         rw [← hX7]
         have hbe : Below X.heap.size X X7 := hX7 ▸ ext_alloc (Below.refl _ _) _
         have aX := aX.later hbe
         have k5 := k5.below hbe k5.lt
         have k4 := k4.below hbe k4.lt
         have cX := cX.below hbe
         have gX := grownBy_any_row gX hbe
         have hli := lit_ints X 3 #[.int .i64 0, .int .i64 0, .int .i64 1, .int .i64 5, .int .i64 11, .int .i64 12, .int .i64 99, .int .i64 9999] 8 rfl (by decide)
         rw [← hX7] at hli
         have hne : X.heap.size ≠ g := by have := hgX; omega
         clear hX7 hbe
         clear hgX
         refine hK.out _ _ (by exact trivial) (fun hHeld => ?_)
         clear hK K; (try simp only [Act.put]); (try simp only [List.setIfInBounds_toArray]); (try simp only [List.set_cons_succ]); (try simp only [List.set_cons_zero])
         refine wpAnyH_ready (rs := [1, 4]) (by kernel_rfl) (by simp) ?_
         refine AllReadyH.cons rfl (fun K hK => ?_) (AllReadyH.cons rfl (fun K hK => ?_) AllReadyH.nil)
         ·have v5 := k5.cell 0
          simp only [List.getElem?_toArray, List.getElem?_cons_zero] at v5
          go_simp
          clear v5
          refine hK.out _ _ (by exact trivial) (fun hHeld => ?_)
          clear hK K; (try simp only [Act.put]); (try simp only [List.setIfInBounds_toArray]); (try simp only [List.set_cons_succ]); (try simp only [List.set_cons_zero])
          refine wpAnyH_ready (rs := [4]) (by kernel_rfl) (by simp) ?_
          refine AllReadyH.cons rfl (fun K hK => ?_) AllReadyH.nil
          go_simp; (go_at_call 53; refine (amongB_any g t' (by omega) _ 8 8 X7 cX hne hli (by omega) (by omega)).mono ?_; rintro e X9 ⟨z, rfl, cX, hg2⟩); (try dsimp only)
          have aX := aX.kept hg2 hgw
          have k5 := k5.grown hg2 (by intro e; injection e with e; omega)
          have k4 := k4.grown hg2 (by intro e; injection e with e; omega)
          have gX := grownBy_trans gX hg2
          clear hg2 hli hne
          refine hK.out _ _ (by exact trivial) (fun hHeld => ?_)
          clear hK K; (try simp only [Act.put]); (try simp only [List.setIfInBounds_toArray]); (try simp only [List.set_cons_succ]); (try simp only [List.set_cons_zero])
          refine wpAnyH_ready (rs := [5]) (by kernel_rfl) (by simp) ?_
          refine AllReadyH.cons rfl (fun K hK => ?_) AllReadyH.nil
          go_simp
          obtain ⟨X10, hX10⟩ : ∃ X10, X10 = World.alloc X9 (Obj.cells #[.int .i64 z] 3) := ⟨_, rfl⟩
          rw [← hX10]
          have hbe : Below X9.heap.size X9 X10 := hX10 ▸ ext_alloc (Below.refl _ _) _
          have aX := aX.later hbe
          have k5 := k5.below hbe k5.lt
          have k4 := k4.below hbe k4.lt
          have cX := cX.below hbe
          have gX := grownBy_any_row gX hbe
          have rX := reads_new X9 #[.int .i64 z] 3 1 [z] rfl rfl
          rw [← hX10] at rX
          clear hX10 hbe
          refine hK.out _ _ (by exact trivial) (fun hHeld => ?_)
          clear hK K; (try simp only [Act.put]); (try simp only [List.setIfInBounds_toArray]); (try simp only [List.set_cons_succ]); (try simp only [List.set_cons_zero])
          refine wpAnyH_ready (rs := [6]) (by kernel_rfl) (by simp) ?_
          refine AllReadyH.cons rfl (fun K hK => ?_) AllReadyH.nil
          obtain ⟨w00, hs00, acc⟩ := aX.accI
          refine appI_b_step rfl (.tmp 15) (.tmp 19) rfl rfl acc rfl rX (by omega) ?_
          intro D2 k2 X11 a2 p2
          obtain ⟨cX, gX⟩ := push_cur cX gX hgw p2 aX.low
          have k5 := k5.pushed p2 (own_ne_blk aX.own k5 (by decide))
          have k4 := k4.pushed p2 (own_ne_blk aX.own k4 (by decide))
          have aX := AccW.ofI a2 hs00
          clear a2 p2 acc hs00 rX
          refine hK.out _ _ (by exact trivial) (fun hHeld => ?_)
          clear hK K; (try simp only [Act.put]); (try simp only [List.setIfInBounds_toArray]); (try simp only [List.set_cons_succ]); (try simp only [List.set_cons_zero])
          refine wpAnyH_takeD (i := 7) (v := ?_) 21 rfl rfl (by kernel_rfl) (by kernel_rfl) (by kernel_rfl) (fun _ _ _ _ _ h => h) (by rfl) (by assumption) ?_ ?_
          rotate_left; focus (intro w hSw; (try dsimp only at hSw); go_simp; try (with_reducible rfl))
          (try simp only [Act.put]); (try simp only [List.setIfInBounds_toArray]); (try simp only [List.set_cons_succ]); (try simp only [List.set_cons_zero])
          refine wpAnyH_ready (rs := [8]) (by kernel_rfl) (by simp) ?_
          refine AllReadyH.cons rfl (fun K hK => ?_) AllReadyH.nil
          have v5 := k5.cell 0
          have f5 := k5.frozen 0
          simp only [List.getElem?_toArray, List.getElem?_cons_zero] at v5
          go_simp
          clear v5 f5
          have aX := aX.far (w.heap.size + 1) 0 (own_ne_blk aX.own k5 (by decide)) (.slice D2 (j + 1) k2)
          have k5 := k5.set_ 0 (.slice D2 (j + 1) k2)
          have k4 := k4.far (p := ⟨w.heap.size + 1, 0, none⟩) (by dsimp only; omega) (.slice D2 (j + 1) k2)
          have cX := cX.set (p := ⟨w.heap.size + 1, 0, none⟩) (by dsimp only; omega) (.slice D2 (j + 1) k2)
          have gX := grownBy_set gX (p := ⟨w.heap.size + 1, 0, none⟩) (by dsimp only; omega) (.slice D2 (j + 1) k2)
          simp only [List.setIfInBounds_toArray, List.set_cons_zero] at k5
          generalize World.setCell X11 ⟨w.heap.size + 1, 0, none⟩ (.slice D2 (j + 1) k2) = X12 at aX k5 k4 cX gX ⊢
          refine hK.out _ _ (by exact trivial) (fun hHeld => ?_)
          clear hK K; (try simp only [Act.put]); (try simp only [List.setIfInBounds_toArray]); (try simp only [List.set_cons_succ]); (try simp only [List.set_cons_zero])
          refine wpAnyH_done (by kernel_rfl) ?_ _
          clear hHeld
          go_wp2_with fail
          go_roundw
          case rel => exact ⟨j + 1, k2, D2, zs ++ [z], _, by go_num, by omega, aX, k5, k4, cX, by omega, gX⟩
          case measure => simp [intOf]; omega
         ·go_simp; (go_at_call 53; refine (amongB_any g t' (by omega) _ 8 8 X7 cX hne hli (by omega) (by omega)).mono ?_; rintro e X13 ⟨z, rfl, cX, hg2⟩); (try dsimp only)
          have aX := aX.kept hg2 hgw
          have k5 := k5.grown hg2 (by intro e; injection e with e; omega)
          have k4 := k4.grown hg2 (by intro e; injection e with e; omega)
          have gX := grownBy_trans gX hg2
          clear hg2 hli hne
          refine hK.out _ _ (by exact trivial) (fun hHeld => ?_)
          clear hK K; (try simp only [Act.put]); (try simp only [List.setIfInBounds_toArray]); (try simp only [List.set_cons_succ]); (try simp only [List.set_cons_zero])
          refine wpAnyH_ready (rs := [1, 5]) (by kernel_rfl) (by simp) ?_
          refine AllReadyH.cons rfl (fun K hK => ?_) (AllReadyH.cons rfl (fun K hK => ?_) AllReadyH.nil)
          ·have v5 := k5.cell 0
           simp only [List.getElem?_toArray, List.getElem?_cons_zero] at v5
           go_simp
           clear v5
           refine hK.out _ _ (by exact trivial) (fun hHeld => ?_)
           clear hK K; (try simp only [Act.put]); (try simp only [List.setIfInBounds_toArray]); (try simp only [List.set_cons_succ]); (try simp only [List.set_cons_zero])
           refine wpAnyH_ready (rs := [5]) (by kernel_rfl) (by simp) ?_
           refine AllReadyH.cons rfl (fun K hK => ?_) AllReadyH.nil
           go_simp
           obtain ⟨X15, hX15⟩ : ∃ X15, X15 = World.alloc X13 (Obj.cells #[.int .i64 z] 3) := ⟨_, rfl⟩
           rw [← hX15]
           have hbe : Below X13.heap.size X13 X15 := hX15 ▸ ext_alloc (Below.refl _ _) _
           have aX := aX.later hbe
           have k5 := k5.below hbe k5.lt
           have k4 := k4.below hbe k4.lt
           have cX := cX.below hbe
           have gX := grownBy_any_row gX hbe
           have rX := reads_new X13 #[.int .i64 z] 3 1 [z] rfl rfl
           rw [← hX15] at rX
           clear hX15 hbe
           refine hK.out _ _ (by exact trivial) (fun hHeld => ?_)
           clear hK K; (try simp only [Act.put]); (try simp only [List.setIfInBounds_toArray]); (try simp only [List.set_cons_succ]); (try simp only [List.set_cons_zero])
           refine wpAnyH_ready (rs := [6]) (by kernel_rfl) (by simp) ?_
           refine AllReadyH.cons rfl (fun K hK => ?_) AllReadyH.nil
           obtain ⟨w00, hs00, acc⟩ := aX.accI
           refine appI_b_step rfl (.tmp 15) (.tmp 19) rfl rfl acc rfl rX (by omega) ?_
           intro D2 k2 X16 a2 p2
           obtain ⟨cX, gX⟩ := push_cur cX gX hgw p2 aX.low
           have k5 := k5.pushed p2 (own_ne_blk aX.own k5 (by decide))
           have k4 := k4.pushed p2 (own_ne_blk aX.own k4 (by decide))
           have aX := AccW.ofI a2 hs00
           clear a2 p2 acc hs00 rX
           refine hK.out _ _ (by exact trivial) (fun hHeld => ?_)
           clear hK K; (try simp only [Act.put]); (try simp only [List.setIfInBounds_toArray]); (try simp only [List.set_cons_succ]); (try simp only [List.set_cons_zero])
           refine wpAnyH_takeD (i := 7) (v := ?_) 21 rfl rfl (by kernel_rfl) (by kernel_rfl) (by kernel_rfl) (fun _ _ _ _ _ h => h) (by rfl) (by assumption) ?_ ?_
           rotate_left; focus (intro w hSw; (try dsimp only at hSw); go_simp; try (with_reducible rfl))
           (try simp only [Act.put]); (try simp only [List.setIfInBounds_toArray]); (try simp only [List.set_cons_succ]); (try simp only [List.set_cons_zero])
           refine wpAnyH_ready (rs := [8]) (by kernel_rfl) (by simp) ?_
           refine AllReadyH.cons rfl (fun K hK => ?_) AllReadyH.nil
           have v5 := k5.cell 0
           have f5 := k5.frozen 0
           simp only [List.getElem?_toArray, List.getElem?_cons_zero] at v5
           go_simp
           clear v5 f5
           have aX := aX.far (w.heap.size + 1) 0 (own_ne_blk aX.own k5 (by decide)) (.slice D2 (j + 1) k2)
           have k5 := k5.set_ 0 (.slice D2 (j + 1) k2)
           have k4 := k4.far (p := ⟨w.heap.size + 1, 0, none⟩) (by dsimp only; omega) (.slice D2 (j + 1) k2)
           have cX := cX.set (p := ⟨w.heap.size + 1, 0, none⟩) (by dsimp only; omega) (.slice D2 (j + 1) k2)
           have gX := grownBy_set gX (p := ⟨w.heap.size + 1, 0, none⟩) (by dsimp only; omega) (.slice D2 (j + 1) k2)
           simp only [List.setIfInBounds_toArray, List.set_cons_zero] at k5
           generalize World.setCell X16 ⟨w.heap.size + 1, 0, none⟩ (.slice D2 (j + 1) k2) = X17 at aX k5 k4 cX gX ⊢
           refine hK.out _ _ (by exact trivial) (fun hHeld => ?_)
           clear hK K; (try simp only [Act.put]); (try simp only [List.setIfInBounds_toArray]); (try simp only [List.set_cons_succ]); (try simp only [List.set_cons_zero])
           refine wpAnyH_done (by kernel_rfl) ?_ _
           clear hHeld
           go_wp2_with fail
           go_roundw
           case rel => exact ⟨j + 1, k2, D2, zs ++ [z], _, by go_num, by omega, aX, k5, k4, cX, by omega, gX⟩
           case measure => simp [intOf]; omega
          ·go_simp
           obtain ⟨X18, hX18⟩ : ∃ X18, X18 = World.alloc X13 (Obj.cells #[.int .i64 z] 3) := ⟨_, rfl⟩
           rw [← hX18]
           have hbe : Below X13.heap.size X13 X18 := hX18 ▸ ext_alloc (Below.refl _ _) _
           have aX := aX.later hbe
           have k5 := k5.below hbe k5.lt
           have k4 := k4.below hbe k4.lt
           have cX := cX.below hbe
           have gX := grownBy_any_row gX hbe
           have rX := reads_new X13 #[.int .i64 z] 3 1 [z] rfl rfl
           rw [← hX18] at rX
           clear hX18 hbe
           refine hK.out _ _ (by exact trivial) (fun hHeld => ?_)
           clear hK K; (try simp only [Act.put]); (try simp only [List.setIfInBounds_toArray]); (try simp only [List.set_cons_succ]); (try simp only [List.set_cons_zero])
           refine wpAnyH_ready (rs := [1]) (by kernel_rfl) (by simp) ?_
           refine AllReadyH.cons rfl (fun K hK => ?_) AllReadyH.nil
           have v5 := k5.cell 0
           simp only [List.getElem?_toArray, List.getElem?_cons_zero] at v5
           go_simp
           clear v5
           refine hK.out _ _ (by exact trivial) (fun hHeld => ?_)
           clear hK K; (try simp only [Act.put]); (try simp only [List.setIfInBounds_toArray]); (try simp only [List.set_cons_succ]); (try simp only [List.set_cons_zero])
           refine wpAnyH_ready (rs := [6]) (by kernel_rfl) (by simp) ?_
           refine AllReadyH.cons rfl (fun K hK => ?_) AllReadyH.nil
           obtain ⟨w00, hs00, acc⟩ := aX.accI
           refine appI_b_step rfl (.tmp 15) (.tmp 19) rfl rfl acc rfl rX (by omega) ?_
           intro D2 k2 X20 a2 p2
           obtain ⟨cX, gX⟩ := push_cur cX gX hgw p2 aX.low
           have k5 := k5.pushed p2 (own_ne_blk aX.own k5 (by decide))
           have k4 := k4.pushed p2 (own_ne_blk aX.own k4 (by decide))
           have aX := AccW.ofI a2 hs00
           clear a2 p2 acc hs00 rX
           refine hK.out _ _ (by exact trivial) (fun hHeld => ?_)
           clear hK K; (try simp only [Act.put]); (try simp only [List.setIfInBounds_toArray]); (try simp only [List.set_cons_succ]); (try simp only [List.set_cons_zero])
           refine wpAnyH_takeD (i := 7) (v := ?_) 21 rfl rfl (by kernel_rfl) (by kernel_rfl) (by kernel_rfl) (fun _ _ _ _ _ h => h) (by rfl) (by assumption) ?_ ?_
           rotate_left; focus (intro w hSw; (try dsimp only at hSw); go_simp; try (with_reducible rfl))
           (try simp only [Act.put]); (try simp only [List.setIfInBounds_toArray]); (try simp only [List.set_cons_succ]); (try simp only [List.set_cons_zero])
           refine wpAnyH_ready (rs := [8]) (by kernel_rfl) (by simp) ?_
           refine AllReadyH.cons rfl (fun K hK => ?_) AllReadyH.nil
           have v5 := k5.cell 0
           have f5 := k5.frozen 0
           simp only [List.getElem?_toArray, List.getElem?_cons_zero] at v5
           go_simp
           clear v5 f5
           have aX := aX.far (w.heap.size + 1) 0 (own_ne_blk aX.own k5 (by decide)) (.slice D2 (j + 1) k2)
           have k5 := k5.set_ 0 (.slice D2 (j + 1) k2)
           have k4 := k4.far (p := ⟨w.heap.size + 1, 0, none⟩) (by dsimp only; omega) (.slice D2 (j + 1) k2)
           have cX := cX.set (p := ⟨w.heap.size + 1, 0, none⟩) (by dsimp only; omega) (.slice D2 (j + 1) k2)
           have gX := grownBy_set gX (p := ⟨w.heap.size + 1, 0, none⟩) (by dsimp only; omega) (.slice D2 (j + 1) k2)
           simp only [List.setIfInBounds_toArray, List.set_cons_zero] at k5
           generalize World.setCell X20 ⟨w.heap.size + 1, 0, none⟩ (.slice D2 (j + 1) k2) = X21 at aX k5 k4 cX gX ⊢
           refine hK.out _ _ (by exact trivial) (fun hHeld => ?_)
           clear hK K; (try simp only [Act.put]); (try simp only [List.setIfInBounds_toArray]); (try simp only [List.set_cons_succ]); (try simp only [List.set_cons_zero])
           refine wpAnyH_done (by kernel_rfl) ?_ _
           clear hHeld
           go_wp2_with fail
           go_roundw
           case rel => exact ⟨j + 1, k2, D2, zs ++ [z], _, by go_num, by omega, aX, k5, k4, cX, by omega, gX⟩
           case measure => simp [intOf]; omega
    · obtain rfl : j = n := by omega
      go_wp2_with fail
      refine (pick_any g t' (by omega) 50 (by omega) _ HC.out).mono ?_
      rintro e w2 ⟨q, rfl, q0, q1, hc, hg⟩
      have HA2 := Lib.hid (HA.out.kept hg hgw)
      have K52 := Lib.hid (K5.out.grown hg (by intro e; injection e with e; omega))
      have K42 := Lib.hid (K4.out.grown hg (by intro e; injection e with e; omega))
      have HC2 := Lib.hid hc
      have HG2 := Lib.hid (grownBy_trans HG.out hg)
      have v5 := K52.out.cell 0
      have f5 := K52.out.frozen 0
      simp only [List.getElem?_toArray, List.getElem?_cons_zero] at v5
      clear hc hg
      by_cases hq0 : q = 0
      · subst hq0
        have hA := HA2.out.alloc (.cells #[.int .i64 1] 3)
        have h5 := K52.out.alloc (.cells #[.int .i64 1] 3)
        have h4 := K42.out.alloc (.cells #[.int .i64 1] 3)
        have hc := HC2.out.alloc (.cells #[.int .i64 1] 3)
        have hg := grownBy_any_row HG2.out (ext_alloc (Below.refl _ _) (.cells #[.int .i64 1] 3))
        obtain ⟨w00, hs00, acc⟩ := hA.accI
        have HAC := Lib.hid acc
        have HS0 := Lib.hid hs00
        have HA3 := Lib.hid hA
        have K53 := Lib.hid h5
        have K43 := Lib.hid h4
        have HC3 := Lib.hid hc
        have HG3 := Lib.hid hg
        clear acc hs00 hA h5 h4 hc hg
        go_wp2_with (at_builtin; refine appI_b rfl _ _ rfl rfl HAC.out rfl (reads_new _ _ _ 1 [1] rfl rfl) (by omega) ?_; intro D2 k2 w3 a2 p2; have hf5 := (K53.out.pushed p2 (own_ne_blk HA3.out.own K53.out (by decide))).frozen 0; have hv5 := (K53.out.pushed p2 (own_ne_blk HA3.out.own K53.out (by decide))).cell 0; have K44 := Lib.hid (K43.out.pushed p2 (own_ne_blk HA3.out.own K43.out (by decide))); have K54 := Lib.hid (K53.out.pushed p2 (own_ne_blk HA3.out.own K53.out (by decide))); simp only [List.getElem?_toArray, List.getElem?_cons_zero] at hv5; have hv4 := K44.out.cell 0; have hf4 := K44.out.frozen 0; simp only [List.getElem?_toArray, List.getElem?_cons_zero] at hv4; have CG := Lib.hid (push_cur HC3.out HG3.out hgw p2 HA3.out.low); have HA4 := Lib.hid (AccW.ofI a2 HS0.out); clear a2 p2)
        have k5 := K54.out
        have k4 := K44.out
        have aX := HA4.out
        have cX := CG.out.1
        have gX := CG.out.2
        have aX := aX.far (w.heap.size + 1) 0 (own_ne_blk aX.own k5 (by decide)) (.slice D2 (j + 1) k2)
        have k4 := k4.far (p := ⟨w.heap.size + 1, 0, none⟩) (by dsimp only; omega) (.slice D2 (j + 1) k2)
        have cX := cX.set (p := ⟨w.heap.size + 1, 0, none⟩) (by dsimp only; omega) (.slice D2 (j + 1) k2)
        have gX := grownBy_set gX (p := ⟨w.heap.size + 1, 0, none⟩) (by dsimp only; omega) (.slice D2 (j + 1) k2)
        generalize World.setCell w3 ⟨w.heap.size + 1, 0, none⟩ (.slice D2 (j + 1) k2) = W4 at aX k4 cX gX ⊢
        have HA9 := Lib.hid aX
        have HC9 := Lib.hid cX
        have HG9 := Lib.hid gX
        have K49 := Lib.hid k4
        have hA := HA9.out.far w.heap.size 0 (own_ne_blk HA9.out.own K49.out (by decide)) (.slice D2 (j + 1) k2)
        have hk4 := K49.out.set_ 0 (.slice D2 (j + 1) k2)
        have hc := HC9.out.set (p := ⟨w.heap.size, 0, none⟩) hgw (.slice D2 (j + 1) k2)
        have hg := grownBy_set HG9.out (p := ⟨w.heap.size, 0, none⟩) (Nat.le_refl _) (.slice D2 (j + 1) k2)
        simp only [List.setIfInBounds_toArray, List.set_cons_zero] at hk4
        generalize World.setCell W4 ⟨w.heap.size, 0, none⟩ (.slice D2 (j + 1) k2) = WZ at hA hk4 hc hg ⊢
        have rz := hk4.cell 0
        simp only [List.getElem?_toArray, List.getElem?_cons_zero] at rz
        refine bodyPost_ret (v := .agg #[.slice D2 (j + 1) k2]) (by simp [results, Try.results52, go_sem, rz]) rfl ?_
        first | exact ⟨_, _, _, (zs ++ [1]), rfl, RowR.of hA, by omega, hc.up (by omega), hg⟩ | exact ⟨_, _, _, rfl, ⟨(zs ++ [1]), RowR.of hA⟩, by omega, hc.up (by omega), hg⟩
      have m0 : (q == 0) = false := beq_eq_false_iff_ne.2 hq0
      clear hq0
      by_cases hq1 : q = 1
      · subst hq1
        by_cases hn0 : 0 < j
        · have hn1 : (0 : Int) < j := by omega
          obtain ⟨r0, _, hv, _, _⟩ := HA2.out.own.form (by omega)
          have hA : D = some ⟨r0, 0, none⟩ := by injection hv
          subst hA
          clear hv
          go_wp2_with fail
          ·
            have bX0 : Below w2.heap.size w2 w2.drew := ext_drew (Below.refl _ _)
            refine wp_region_held_drew (S := fun _ => True) (by kernel_rfl) ?_ (fun hHeld => ?_)
            · (try dsimp only); first | done | exact trivial
            obtain ⟨X, hX⟩ : ∃ X, X = World.drew w2 := ⟨_, rfl⟩
            rw [← hX]
            try rw [← hX] at hHeld
            rw [← hX] at bX0
            have bX := bX0
            clear hX bX0
            have aX := HA2.out.later bX
            have k5 := K52.out.below bX K52.out.lt
            have k4 := K42.out.below bX K42.out.lt
            have cX := HC2.out.below bX
            have gX := grownBy_any_row HG2.out bX
            clear bX
            refine wpAnyH_takeD (i := 0) (v := ?_) 37 rfl rfl (by kernel_rfl) (by kernel_rfl) (by kernel_rfl) (fun _ _ _ _ _ h => h) (by rfl) (by assumption) ?_ ?_
            rotate_left; focus (intro w hSw; (try dsimp only at hSw); go_simp; try (with_reducible rfl))
            (try simp only [Act.put]); (try simp only [List.setIfInBounds_toArray]); (try simp only [List.set_cons_succ]); (try simp only [List.set_cons_zero])
            refine wpAnyH_takeD (i := 2) (v := ?_) 39 rfl rfl (by kernel_rfl) (by kernel_rfl) (by kernel_rfl) (fun _ _ _ _ _ h => h) (by rfl) (by assumption) ?_ ?_
            rotate_left; focus (intro w hSw; (try dsimp only at hSw); go_simp; try (with_reducible rfl))
            (try simp only [Act.put]); (try simp only [List.setIfInBounds_toArray]); (try simp only [List.set_cons_succ]); (try simp only [List.set_cons_zero])
            refine wpAnyH_ready (rs := [1, 3]) (by kernel_rfl) (by simp) ?_
            refine AllReadyH.cons rfl (fun K hK => ?_) (AllReadyH.cons rfl (fun K hK => ?_) AllReadyH.nil)
            ·have v5 := k5.cell 0
             simp only [List.getElem?_toArray, List.getElem?_cons_zero] at v5
             go_simp
             clear v5
             refine hK.out _ _ (by exact trivial) (fun hHeld => ?_)
             clear hK K; (try simp only [Act.put]); (try simp only [List.setIfInBounds_toArray]); (try simp only [List.set_cons_succ]); (try simp only [List.set_cons_zero])
             refine wpAnyH_ready (rs := [3]) (by kernel_rfl) (by simp) ?_
             refine AllReadyH.cons rfl (fun K hK => ?_) AllReadyH.nil
             have hgX := cX.lt
             go_simp
             obtain ⟨X2, hX2⟩ : ∃ X2, X2 = World.alloc X (Obj.cells #[.int .i64 (-1), .int .i64 10000] 3) := ⟨_, rfl⟩
             rw [← hX2]
             have hbe : Below X.heap.size X X2 := hX2 ▸ ext_alloc (Below.refl _ _) _
             have aX := aX.later hbe
             have k5 := k5.below hbe k5.lt
             have k4 := k4.below hbe k4.lt
             have cX := cX.below hbe
             have gX := grownBy_any_row gX hbe
             have hli := lit_ints X 3 #[.int .i64 (-1), .int .i64 10000] 2 rfl (by decide)
             rw [← hX2] at hli
             have hne : X.heap.size ≠ g := by have := hgX; omega
             clear hX2 hbe
             clear hgX
             refine hK.out _ _ (by exact trivial) (fun hHeld => ?_)
             clear hK K; (try simp only [Act.put]); (try simp only [List.setIfInBounds_toArray]); (try simp only [List.set_cons_succ]); (try simp only [List.set_cons_zero])
             refine wpAnyH_ready (rs := [4]) (by kernel_rfl) (by simp) ?_
             refine AllReadyH.cons rfl (fun K hK => ?_) AllReadyH.nil
             go_simp; (go_at_call 53; refine (amongB_any g (t' + 2) (by omega) _ 2 2 X2 cX hne hli (by omega) (by omega)).mono ?_; rintro e X3 ⟨z, rfl, cX, hg2⟩); (try dsimp only)
             have aX := aX.kept hg2 hgw
             have k5 := k5.grown hg2 (by intro e; injection e with e; omega)
             have k4 := k4.grown hg2 (by intro e; injection e with e; omega)
             have gX := grownBy_trans gX hg2
             clear hg2 hli hne
             refine hK.out _ _ (by exact trivial) (fun hHeld => ?_)
             clear hK K; (try simp only [Act.put]); (try simp only [List.setIfInBounds_toArray]); (try simp only [List.set_cons_succ]); (try simp only [List.set_cons_zero])
             refine wpAnyH_takeD (i := 5) (v := ?_) 42 rfl rfl (by kernel_rfl) (by kernel_rfl) (by kernel_rfl) (fun _ _ _ _ _ h => h) (by rfl) (by assumption) ?_ ?_
             rotate_left; focus (intro w hSw; (try dsimp only at hSw); go_simp; try (with_reducible rfl))
             (try simp only [Act.put]); (try simp only [List.setIfInBounds_toArray]); (try simp only [List.set_cons_succ]); (try simp only [List.set_cons_zero])
             refine wpAnyH_ready (rs := [6]) (by kernel_rfl) (by simp) ?_
             refine AllReadyH.cons rfl (fun K hK => ?_) AllReadyH.nil
             obtain ⟨r, _, hv, hr1, _⟩ := aX.own.form (by omega)
             have hA : (some (⟨r0, 0, none⟩ : Addr)) = some ⟨r, 0, none⟩ := by injection hv
             injection hA with hA
             injection hA with hA
             subst hA
             clear hv
             obtain ⟨u0, e0⟩ : ∃ u, (zs.map (Value.int .i64))[0]? = some u := ⟨_, List.getElem?_eq_getElem (by have := aX.own.1; omega)⟩
             have v0 := aX.own.cellAt 0 (by omega)
             rw [e0] at v0
             have f0 := aX.own.frozenAt 0
             go_simp
             clear v0 f0 e0
             have hlo := aX.low _ rfl
             dsimp only at hlo
             have nk4 := (own_ne_blk aX.own k4 (by decide)) _ rfl
             have hwl := aX.lt
             have s0 := (aX.own.stored 0 (.int .i64 z)).1
             have k4 := k4.far (p := ⟨r0, 0, none⟩) (Ne.symm nk4) (.int .i64 z)
             have k5 := k5.far (p := ⟨r0, 0, none⟩) (Ne.symm ((own_ne_blk aX.own k5 (by decide)) _ rfl)) (.int .i64 z)
             have cX := cX.set (p := ⟨r0, 0, none⟩) (by dsimp only; omega) (.int .i64 z)
             have gX := grownBy_set gX (p := ⟨r0, 0, none⟩) hlo (.int .i64 z)
             rw [show ((zs.map (Value.int .i64)).set 0 (.int .i64 z)) = (zs.set 0 z).map (Value.int .i64) by rw [List.map_set]] at s0
             have hsz : w.heap.size ≤ (World.setCell X3 ⟨r0, 0, none⟩ (.int .i64 z)).heap.size := by simpa [World.setCell] using hwl
             generalize World.setCell X3 ⟨r0, 0, none⟩ (.int .i64 z) = X4 at s0 k4 k5 cX gX hsz ⊢
             have aX : AccW _ _ _ _ _ _ _ _ := ⟨s0, hsz⟩
             clear s0 hsz hwl nk4 hlo u0
             refine hK.out _ _ (by exact trivial) (fun hHeld => ?_)
             clear hK K; (try simp only [Act.put]); (try simp only [List.setIfInBounds_toArray]); (try simp only [List.set_cons_succ]); (try simp only [List.set_cons_zero])
             refine wpAnyH_done (by kernel_rfl) ?_ _
             clear hHeld
             have v5 := k5.cell 0
             have v4 := k4.cell 0
             have f4 := k4.frozen 0
             simp only [List.getElem?_toArray, List.getElem?_cons_zero] at v4 v5
             have HA9 := Lib.hid aX
             have HC9 := Lib.hid cX
             have HG9 := Lib.hid gX
             have K49 := Lib.hid k4
             clear aX cX gX k4 k5
             go_wp2_with fail
             have hA := HA9.out.far w.heap.size 0 (own_ne_blk HA9.out.own K49.out (by decide)) (.slice (some ⟨r0, 0, none⟩) j k)
             have hk4 := K49.out.set_ 0 (.slice (some ⟨r0, 0, none⟩) j k)
             have hc := HC9.out.set (p := ⟨w.heap.size, 0, none⟩) hgw (.slice (some ⟨r0, 0, none⟩) j k)
             have hg := grownBy_set HG9.out (p := ⟨w.heap.size, 0, none⟩) (Nat.le_refl _) (.slice (some ⟨r0, 0, none⟩) j k)
             simp only [List.setIfInBounds_toArray, List.set_cons_zero] at hk4
             generalize World.setCell X4 ⟨w.heap.size, 0, none⟩ (.slice (some ⟨r0, 0, none⟩) j k) = WZ at hA hk4 hc hg ⊢
             have rz := hk4.cell 0
             simp only [List.getElem?_toArray, List.getElem?_cons_zero] at rz
             refine bodyPost_ret (v := .agg #[.slice (some ⟨r0, 0, none⟩) j k]) (by simp [results, Try.results52, go_sem, rz]) rfl ?_
             first | exact ⟨_, _, _, (zs.set 0 z), rfl, RowR.of hA, by omega, hc.up (by omega), hg⟩ | exact ⟨_, _, _, rfl, ⟨(zs.set 0 z), RowR.of hA⟩, by omega, hc.up (by omega), hg⟩
            ·have hgX := cX.lt
             go_simp
             obtain ⟨X5, hX5⟩ : ∃ X5, X5 = World.alloc X (Obj.cells #[.int .i64 (-1), .int .i64 10000] 3) := ⟨_, rfl⟩
             rw [← hX5]
             have hbe : Below X.heap.size X X5 := hX5 ▸ ext_alloc (Below.refl _ _) _
             have aX := aX.later hbe
             have k5 := k5.below hbe k5.lt
             have k4 := k4.below hbe k4.lt
             have cX := cX.below hbe
             have gX := grownBy_any_row gX hbe
             have hli := lit_ints X 3 #[.int .i64 (-1), .int .i64 10000] 2 rfl (by decide)
             rw [← hX5] at hli
             have hne : X.heap.size ≠ g := by have := hgX; omega
             clear hX5 hbe
             clear hgX
             refine hK.out _ _ (by exact trivial) (fun hHeld => ?_)
             clear hK K; (try simp only [Act.put]); (try simp only [List.setIfInBounds_toArray]); (try simp only [List.set_cons_succ]); (try simp only [List.set_cons_zero])
             refine wpAnyH_ready (rs := [1, 4]) (by kernel_rfl) (by simp) ?_
             refine AllReadyH.cons rfl (fun K hK => ?_) (AllReadyH.cons rfl (fun K hK => ?_) AllReadyH.nil)
             ·have v5 := k5.cell 0
              simp only [List.getElem?_toArray, List.getElem?_cons_zero] at v5
              go_simp
              clear v5
              refine hK.out _ _ (by exact trivial) (fun hHeld => ?_)
              clear hK K; (try simp only [Act.put]); (try simp only [List.setIfInBounds_toArray]); (try simp only [List.set_cons_succ]); (try simp only [List.set_cons_zero])
              refine wpAnyH_ready (rs := [4]) (by kernel_rfl) (by simp) ?_
              refine AllReadyH.cons rfl (fun K hK => ?_) AllReadyH.nil
              go_simp; (go_at_call 53; refine (amongB_any g (t' + 2) (by omega) _ 2 2 X5 cX hne hli (by omega) (by omega)).mono ?_; rintro e X7 ⟨z, rfl, cX, hg2⟩); (try dsimp only)
              have aX := aX.kept hg2 hgw
              have k5 := k5.grown hg2 (by intro e; injection e with e; omega)
              have k4 := k4.grown hg2 (by intro e; injection e with e; omega)
              have gX := grownBy_trans gX hg2
              clear hg2 hli hne
              refine hK.out _ _ (by exact trivial) (fun hHeld => ?_)
              clear hK K; (try simp only [Act.put]); (try simp only [List.setIfInBounds_toArray]); (try simp only [List.set_cons_succ]); (try simp only [List.set_cons_zero])
              refine wpAnyH_takeD (i := 5) (v := ?_) 42 rfl rfl (by kernel_rfl) (by kernel_rfl) (by kernel_rfl) (fun _ _ _ _ _ h => h) (by rfl) (by assumption) ?_ ?_
              rotate_left; focus (intro w hSw; (try dsimp only at hSw); go_simp; try (with_reducible rfl))
              (try simp only [Act.put]); (try simp only [List.setIfInBounds_toArray]); (try simp only [List.set_cons_succ]); (try simp only [List.set_cons_zero])
              refine wpAnyH_ready (rs := [6]) (by kernel_rfl) (by simp) ?_
              refine AllReadyH.cons rfl (fun K hK => ?_) AllReadyH.nil
              obtain ⟨r, _, hv, hr1, _⟩ := aX.own.form (by omega)
              have hA : (some (⟨r0, 0, none⟩ : Addr)) = some ⟨r, 0, none⟩ := by injection hv
              injection hA with hA
              injection hA with hA
              subst hA
              clear hv
              obtain ⟨u0, e0⟩ : ∃ u, (zs.map (Value.int .i64))[0]? = some u := ⟨_, List.getElem?_eq_getElem (by have := aX.own.1; omega)⟩
              have v0 := aX.own.cellAt 0 (by omega)
              rw [e0] at v0
              have f0 := aX.own.frozenAt 0
              go_simp
              clear v0 f0 e0
              have hlo := aX.low _ rfl
              dsimp only at hlo
              have nk4 := (own_ne_blk aX.own k4 (by decide)) _ rfl
              have hwl := aX.lt
              have s0 := (aX.own.stored 0 (.int .i64 z)).1
              have k4 := k4.far (p := ⟨r0, 0, none⟩) (Ne.symm nk4) (.int .i64 z)
              have k5 := k5.far (p := ⟨r0, 0, none⟩) (Ne.symm ((own_ne_blk aX.own k5 (by decide)) _ rfl)) (.int .i64 z)
              have cX := cX.set (p := ⟨r0, 0, none⟩) (by dsimp only; omega) (.int .i64 z)
              have gX := grownBy_set gX (p := ⟨r0, 0, none⟩) hlo (.int .i64 z)
              rw [show ((zs.map (Value.int .i64)).set 0 (.int .i64 z)) = (zs.set 0 z).map (Value.int .i64) by rw [List.map_set]] at s0
              have hsz : w.heap.size ≤ (World.setCell X7 ⟨r0, 0, none⟩ (.int .i64 z)).heap.size := by simpa [World.setCell] using hwl
              generalize World.setCell X7 ⟨r0, 0, none⟩ (.int .i64 z) = X8 at s0 k4 k5 cX gX hsz ⊢
              have aX : AccW _ _ _ _ _ _ _ _ := ⟨s0, hsz⟩
              clear s0 hsz hwl nk4 hlo u0
              refine hK.out _ _ (by exact trivial) (fun hHeld => ?_)
              clear hK K; (try simp only [Act.put]); (try simp only [List.setIfInBounds_toArray]); (try simp only [List.set_cons_succ]); (try simp only [List.set_cons_zero])
              refine wpAnyH_done (by kernel_rfl) ?_ _
              clear hHeld
              have v5 := k5.cell 0
              have v4 := k4.cell 0
              have f4 := k4.frozen 0
              simp only [List.getElem?_toArray, List.getElem?_cons_zero] at v4 v5
              have HA9 := Lib.hid aX
              have HC9 := Lib.hid cX
              have HG9 := Lib.hid gX
              have K49 := Lib.hid k4
              clear aX cX gX k4 k5
              go_wp2_with fail
              have hA := HA9.out.far w.heap.size 0 (own_ne_blk HA9.out.own K49.out (by decide)) (.slice (some ⟨r0, 0, none⟩) j k)
              have hk4 := K49.out.set_ 0 (.slice (some ⟨r0, 0, none⟩) j k)
              have hc := HC9.out.set (p := ⟨w.heap.size, 0, none⟩) hgw (.slice (some ⟨r0, 0, none⟩) j k)
              have hg := grownBy_set HG9.out (p := ⟨w.heap.size, 0, none⟩) (Nat.le_refl _) (.slice (some ⟨r0, 0, none⟩) j k)
              simp only [List.setIfInBounds_toArray, List.set_cons_zero] at hk4
              generalize World.setCell X8 ⟨w.heap.size, 0, none⟩ (.slice (some ⟨r0, 0, none⟩) j k) = WZ at hA hk4 hc hg ⊢
              have rz := hk4.cell 0
              simp only [List.getElem?_toArray, List.getElem?_cons_zero] at rz
              refine bodyPost_ret (v := .agg #[.slice (some ⟨r0, 0, none⟩) j k]) (by simp [results, Try.results52, go_sem, rz]) rfl ?_
              first | exact ⟨_, _, _, (zs.set 0 z), rfl, RowR.of hA, by omega, hc.up (by omega), hg⟩ | exact ⟨_, _, _, rfl, ⟨(zs.set 0 z), RowR.of hA⟩, by omega, hc.up (by omega), hg⟩
             ·go_simp; (go_at_call 53; refine (amongB_any g (t' + 2) (by omega) _ 2 2 X5 cX hne hli (by omega) (by omega)).mono ?_; rintro e X9 ⟨z, rfl, cX, hg2⟩); (try dsimp only)
              have aX := aX.kept hg2 hgw
              have k5 := k5.grown hg2 (by intro e; injection e with e; omega)
              have k4 := k4.grown hg2 (by intro e; injection e with e; omega)
              have gX := grownBy_trans gX hg2
              clear hg2 hli hne
              refine hK.out _ _ (by exact trivial) (fun hHeld => ?_)
              clear hK K; (try simp only [Act.put]); (try simp only [List.setIfInBounds_toArray]); (try simp only [List.set_cons_succ]); (try simp only [List.set_cons_zero])
              refine wpAnyH_ready (rs := [1]) (by kernel_rfl) (by simp) ?_
              refine AllReadyH.cons rfl (fun K hK => ?_) AllReadyH.nil
              have v5 := k5.cell 0
              simp only [List.getElem?_toArray, List.getElem?_cons_zero] at v5
              go_simp
              clear v5
              refine hK.out _ _ (by exact trivial) (fun hHeld => ?_)
              clear hK K; (try simp only [Act.put]); (try simp only [List.setIfInBounds_toArray]); (try simp only [List.set_cons_succ]); (try simp only [List.set_cons_zero])
              refine wpAnyH_takeD (i := 5) (v := ?_) 42 rfl rfl (by kernel_rfl) (by kernel_rfl) (by kernel_rfl) (fun _ _ _ _ _ h => h) (by rfl) (by assumption) ?_ ?_
              rotate_left; focus (intro w hSw; (try dsimp only at hSw); go_simp; try (with_reducible rfl))
              (try simp only [Act.put]); (try simp only [List.setIfInBounds_toArray]); (try simp only [List.set_cons_succ]); (try simp only [List.set_cons_zero])
              refine wpAnyH_ready (rs := [6]) (by kernel_rfl) (by simp) ?_
              refine AllReadyH.cons rfl (fun K hK => ?_) AllReadyH.nil
              obtain ⟨r, _, hv, hr1, _⟩ := aX.own.form (by omega)
              have hA : (some (⟨r0, 0, none⟩ : Addr)) = some ⟨r, 0, none⟩ := by injection hv
              injection hA with hA
              injection hA with hA
              subst hA
              clear hv
              obtain ⟨u0, e0⟩ : ∃ u, (zs.map (Value.int .i64))[0]? = some u := ⟨_, List.getElem?_eq_getElem (by have := aX.own.1; omega)⟩
              have v0 := aX.own.cellAt 0 (by omega)
              rw [e0] at v0
              have f0 := aX.own.frozenAt 0
              go_simp
              clear v0 f0 e0
              have hlo := aX.low _ rfl
              dsimp only at hlo
              have nk4 := (own_ne_blk aX.own k4 (by decide)) _ rfl
              have hwl := aX.lt
              have s0 := (aX.own.stored 0 (.int .i64 z)).1
              have k4 := k4.far (p := ⟨r0, 0, none⟩) (Ne.symm nk4) (.int .i64 z)
              have k5 := k5.far (p := ⟨r0, 0, none⟩) (Ne.symm ((own_ne_blk aX.own k5 (by decide)) _ rfl)) (.int .i64 z)
              have cX := cX.set (p := ⟨r0, 0, none⟩) (by dsimp only; omega) (.int .i64 z)
              have gX := grownBy_set gX (p := ⟨r0, 0, none⟩) hlo (.int .i64 z)
              rw [show ((zs.map (Value.int .i64)).set 0 (.int .i64 z)) = (zs.set 0 z).map (Value.int .i64) by rw [List.map_set]] at s0
              have hsz : w.heap.size ≤ (World.setCell X9 ⟨r0, 0, none⟩ (.int .i64 z)).heap.size := by simpa [World.setCell] using hwl
              generalize World.setCell X9 ⟨r0, 0, none⟩ (.int .i64 z) = X11 at s0 k4 k5 cX gX hsz ⊢
              have aX : AccW _ _ _ _ _ _ _ _ := ⟨s0, hsz⟩
              clear s0 hsz hwl nk4 hlo u0
              refine hK.out _ _ (by exact trivial) (fun hHeld => ?_)
              clear hK K; (try simp only [Act.put]); (try simp only [List.setIfInBounds_toArray]); (try simp only [List.set_cons_succ]); (try simp only [List.set_cons_zero])
              refine wpAnyH_done (by kernel_rfl) ?_ _
              clear hHeld
              have v5 := k5.cell 0
              have v4 := k4.cell 0
              have f4 := k4.frozen 0
              simp only [List.getElem?_toArray, List.getElem?_cons_zero] at v4 v5
              have HA9 := Lib.hid aX
              have HC9 := Lib.hid cX
              have HG9 := Lib.hid gX
              have K49 := Lib.hid k4
              clear aX cX gX k4 k5
              go_wp2_with fail
              have hA := HA9.out.far w.heap.size 0 (own_ne_blk HA9.out.own K49.out (by decide)) (.slice (some ⟨r0, 0, none⟩) j k)
              have hk4 := K49.out.set_ 0 (.slice (some ⟨r0, 0, none⟩) j k)
              have hc := HC9.out.set (p := ⟨w.heap.size, 0, none⟩) hgw (.slice (some ⟨r0, 0, none⟩) j k)
              have hg := grownBy_set HG9.out (p := ⟨w.heap.size, 0, none⟩) (Nat.le_refl _) (.slice (some ⟨r0, 0, none⟩) j k)
              simp only [List.setIfInBounds_toArray, List.set_cons_zero] at hk4
              generalize World.setCell X11 ⟨w.heap.size, 0, none⟩ (.slice (some ⟨r0, 0, none⟩) j k) = WZ at hA hk4 hc hg ⊢
              have rz := hk4.cell 0
              simp only [List.getElem?_toArray, List.getElem?_cons_zero] at rz
              refine bodyPost_ret (v := .agg #[.slice (some ⟨r0, 0, none⟩) j k]) (by simp [results, Try.results52, go_sem, rz]) rfl ?_
              first | exact ⟨_, _, _, (zs.set 0 z), rfl, RowR.of hA, by omega, hc.up (by omega), hg⟩ | exact ⟨_, _, _, rfl, ⟨(zs.set 0 z), RowR.of hA⟩, by omega, hc.up (by omega), hg⟩
        · have hn1 : ¬ (0 : Int) < j := by omega
          have aX := HA2.out
          have k5 := K52.out
          have k4 := K42.out
          have cX := HC2.out
          have gX := HG2.out
          clear v5 f5
          have v5 := k5.cell 0
          have v4 := k4.cell 0
          have f4 := k4.frozen 0
          simp only [List.getElem?_toArray, List.getElem?_cons_zero] at v4 v5
          have HA9 := Lib.hid aX
          have HC9 := Lib.hid cX
          have HG9 := Lib.hid gX
          have K49 := Lib.hid k4
          clear aX cX gX k4 k5
          go_wp2_with fail
          have hA := HA9.out.far w.heap.size 0 (own_ne_blk HA9.out.own K49.out (by decide)) (.slice D j k)
          have hk4 := K49.out.set_ 0 (.slice D j k)
          have hc := HC9.out.set (p := ⟨w.heap.size, 0, none⟩) hgw (.slice D j k)
          have hg := grownBy_set HG9.out (p := ⟨w.heap.size, 0, none⟩) (Nat.le_refl _) (.slice D j k)
          simp only [List.setIfInBounds_toArray, List.set_cons_zero] at hk4
          generalize World.setCell w2 ⟨w.heap.size, 0, none⟩ (.slice D j k) = WZ at hA hk4 hc hg ⊢
          have rz := hk4.cell 0
          simp only [List.getElem?_toArray, List.getElem?_cons_zero] at rz
          refine bodyPost_ret (v := .agg #[.slice D j k]) (by simp [results, Try.results52, go_sem, rz]) rfl ?_
          first | exact ⟨_, _, _, zs, rfl, RowR.of hA, by omega, hc.up (by omega), hg⟩ | exact ⟨_, _, _, rfl, ⟨zs, RowR.of hA⟩, by omega, hc.up (by omega), hg⟩
      have m1 : (q == 1) = false := beq_eq_false_iff_ne.2 hq1
      clear hq1
      have aX := HA2.out
      have k5 := K52.out
      have k4 := K42.out
      have cX := HC2.out
      have gX := HG2.out
      clear v5 f5
      have v5 := k5.cell 0
      have v4 := k4.cell 0
      have f4 := k4.frozen 0
      simp only [List.getElem?_toArray, List.getElem?_cons_zero] at v4 v5
      have HA9 := Lib.hid aX
      have HC9 := Lib.hid cX
      have HG9 := Lib.hid gX
      have K49 := Lib.hid k4
      clear aX cX gX k4 k5
      go_wp2_with fail
      have hA := HA9.out.far w.heap.size 0 (own_ne_blk HA9.out.own K49.out (by decide)) (.slice D j k)
      have hk4 := K49.out.set_ 0 (.slice D j k)
      have hc := HC9.out.set (p := ⟨w.heap.size, 0, none⟩) hgw (.slice D j k)
      have hg := grownBy_set HG9.out (p := ⟨w.heap.size, 0, none⟩) (Nat.le_refl _) (.slice D j k)
      simp only [List.setIfInBounds_toArray, List.set_cons_zero] at hk4
      generalize World.setCell w2 ⟨w.heap.size, 0, none⟩ (.slice D j k) = WZ at hA hk4 hc hg ⊢
      have rz := hk4.cell 0
      simp only [List.getElem?_toArray, List.getElem?_cons_zero] at rz
      refine bodyPost_ret (v := .agg #[.slice D j k]) (by simp [results, Try.results52, go_sem, rz]) rfl ?_
      first | exact ⟨_, _, _, zs, rfl, RowR.of hA, by omega, hc.up (by omega), hg⟩ | exact ⟨_, _, _, rfl, ⟨zs, RowR.of hA⟩, by omega, hc.up (by omega), hg⟩
end Go.Proofs.Ythigfbhkdegfkaa
