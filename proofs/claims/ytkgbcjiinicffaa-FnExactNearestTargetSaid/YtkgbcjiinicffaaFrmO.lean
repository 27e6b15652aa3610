/- A frame copied: the copy's rods are its own; a frame marked, a frame held. No condition. -/
import Derived.Test.YtkgbcjiinicffaaImp
namespace Go.Proofs.Ytkgbcjiinicffaa
open Go.RowKit

set_option maxRecDepth 100000 in
set_option maxHeartbeats 2000000 in
theorem toFrame_own (u l : Int) (A : Option Addr) (n c B : Nat) (xs : List Rod) (w : World) (h : Reads w B 2 A n ((rodF xs).map (Value.int .i64))) (hB : B ≤ w.heap.size) (hn : n ≤ 1048576) :
    Calls Try.prog 16 #[.agg #[.int .i64 u, .int .i64 l, .slice A n c]] w fun e w' => ∃ (A' : Option Addr) (c' : Nat), e = .returned (.agg #[.int .i64 u, .int .i64 l, .slice A' n c']) ∧ Acc w w' 47 2 A' n c' (rodF xs) := by
  have H := Lib.hid h
  have hl := h.rodLen
  clear h
  have hz1 : (w.alloc (.cells #[.int .i64 u, .int .i64 l, .slice A n c] 29)).heap.size = w.heap.size + 1 := by simp
  have hz2 : ((w.alloc (.cells #[.int .i64 u, .int .i64 l, .slice A n c] 29)).alloc (.cells #[.int .i64 0, .int .i64 0, .slice none 0 0] 33)).heap.size = w.heap.size + 1 + 1 := by simp
  have hb := ext_alloc (ext_alloc (ext_alloc (Below.refl w.heap.size w) (.cells #[.int .i64 u, .int .i64 l, .slice A n c] 29)) (.cells #[.int .i64 0, .int .i64 0, .slice none 0 0] 33)) (.cells #[.int .i64 u, .int .i64 l, .slice none 0 0] 33)
  have hB2 := (Blk.new (w.alloc (.cells #[.int .i64 u, .int .i64 l, .slice A n c] 29)) 33 #[.int .i64 0, .int .i64 0, .slice none 0 0]).alloc (.cells #[.int .i64 u, .int .i64 l, .slice none 0 0] 33)
  have hB3 := Blk.new ((w.alloc (.cells #[.int .i64 u, .int .i64 l, .slice A n c] 29)).alloc (.cells #[.int .i64 0, .int .i64 0, .slice none 0 0] 33)) 33 #[.int .i64 u, .int .i64 l, .slice none 0 0]
  rw [hz1] at hB2
  rw [hz2] at hB3
  generalize hw3 : ((w.alloc (.cells #[.int .i64 u, .int .i64 l, .slice A n c] 29)).alloc (.cells #[.int .i64 0, .int .i64 0, .slice none 0 0] 33)).alloc (.cells #[.int .i64 u, .int .i64 l, .slice none 0 0] 33) = w3 at hb hB2 hB3
  have HB := Lib.hid hb
  have HB2 := Lib.hid hB2
  have HB3 := Lib.hid hB3
  have HW := Lib.hid hw3
  clear hz1 hz2 hb hB2 hB3 hw3
  go_enter Try.func16, Try.ntmps16
  go_wp2_with fail
  rw [HW.out]
  refine (toIntA2S_any A n c B xs _ (H.out.below (HB.out.mono hB)) (Nat.le_trans hB HB.out.size) hn).mono ?_
  rintro e w4 ⟨A', n', c', rfl, hacc⟩
  have hl' := hacc.reads.rodLen
  obtain rfl : n' = n := by omega
  have hl3 := HB3.out.lt
  have HB2 := Lib.hid (HB2.out.below hacc.ext HB2.out.lt)
  have HB3 := Lib.hid (HB3.out.below hacc.ext HB3.out.lt)
  have HA := Lib.hid hacc
  have c30 := HB3.out.cell 0
  have c31 := HB3.out.cell 1
  have c32 := HB3.out.cell 2
  have f32 := HB3.out.frozen 2
  have c20 := HB2.out.cell 0
  have c21 := HB2.out.cell 1
  have c22 := HB2.out.cell 2
  have f20 := HB2.out.frozen 0
  have f21 := HB2.out.frozen 1
  have f22 := HB2.out.frozen 2
  simp only [List.getElem?_toArray, List.getElem?_cons_zero, List.getElem?_cons_succ] at c30 c31 c32 c20 c21 c22
  clear hacc
  go_wp2_with fail
  have hBZ := (((HB2.out.far (p := ⟨w.heap.size + 1 + 1, 2, none⟩) (show w.heap.size + 1 ≠ w.heap.size + 1 + 1 by omega) (.slice A' n' c')).set_ 0 (.int .i64 u)).set_ 1 (.int .i64 l)).set_ 2 (.slice A' n' c')
  have hOZ := own_farSet (own_farSet (own_farSet (own_farSet HA.out.own (p := ⟨w.heap.size + 1 + 1, 2, none⟩) (show w.heap.size + 1 + 1 < w3.heap.size by omega) (.slice A' n' c')) (p := ⟨w.heap.size + 1, 0, none⟩) (show w.heap.size + 1 < w3.heap.size by omega) (.int .i64 u)) (p := ⟨w.heap.size + 1, 1, none⟩) (show w.heap.size + 1 < w3.heap.size by omega) (.int .i64 l)) (p := ⟨w.heap.size + 1, 2, none⟩) (show w.heap.size + 1 < w3.heap.size by omega) (.slice A' n' c')
  have hGZ := ext_set (ext_set (ext_set (ext_set (ext_trans HB.out HA.out.ext) (p := ⟨w.heap.size + 1 + 1, 2, none⟩) (show w.heap.size ≤ w.heap.size + 1 + 1 by omega) (.slice A' n' c')) (p := ⟨w.heap.size + 1, 0, none⟩) (show w.heap.size ≤ w.heap.size + 1 by omega) (.int .i64 u)) (p := ⟨w.heap.size + 1, 1, none⟩) (show w.heap.size ≤ w.heap.size + 1 by omega) (.int .i64 l)) (p := ⟨w.heap.size + 1, 2, none⟩) (show w.heap.size ≤ w.heap.size + 1 by omega) (.slice A' n' c')
  generalize (((w4.setCell ⟨w.heap.size + 1 + 1, 2, none⟩ (.slice A' n' c')).setCell ⟨w.heap.size + 1, 0, none⟩ (.int .i64 u)).setCell ⟨w.heap.size + 1, 1, none⟩ (.int .i64 l)).setCell ⟨w.heap.size + 1, 2, none⟩ (.slice A' n' c') = WZ at hBZ hOZ hGZ ⊢
  have r0 := hBZ.cell 0
  have r1 := hBZ.cell 1
  have r2 := hBZ.cell 2
  simp only [List.setIfInBounds_toArray, List.set_cons_zero, List.set_cons_succ, List.getElem?_toArray, List.getElem?_cons_zero, List.getElem?_cons_succ] at r0 r1 r2
  refine bodyPost_ret (v := .agg #[.int .i64 u, .int .i64 l, .slice A' n' c']) ?_ rfl ?_
  · simp [results, Try.results16, go_sem, r0, r1, r2]
  exact ⟨_, _, rfl, ⟨⟨hOZ.1, by
    rcases hOZ.2 with h2 | ⟨g, cap, cur, hv, hg, r⟩
    · exact .inl h2
    · exact .inr ⟨g, cap, cur, hv, Nat.le_trans HB.out.size hg, r⟩⟩, hGZ⟩⟩
set_option maxHeartbeats 2000000 in
theorem markFrame_any (u l : Int) (A : Option Addr) (n c base : Nat) (zs : List Int) (w : World) (h : w.ownsRow base 47 2 (.slice A n c) n (zs.map (Value.int .i64))) (hn : n ≤ 1048576) :
    Calls Try.prog 25 #[.agg #[.int .i64 u, .int .i64 l, .slice A n c], .int .i64 1] w fun e w' => e = .returned (.int .i64 (1 + (n * 2 : Nat))) ∧ w'.ownsRow base 47 2 (.slice A n c) n ((marks 1 (n * 2)).map (Value.int .i64)) ∧ w.grownBy w' (Value.slice A n c).ownBlock := by
  have hb := ext_alloc (Below.refl w.heap.size w) (.cells #[.int .i64 u, .int .i64 l, .slice A n c] 33)
  have HB := Lib.hid hb
  have HM := Lib.hid (markIntA2S_any A n c base zs 1 _ (h.alloc (.cells #[.int .i64 u, .int .i64 l, .slice A n c] 33)) (by omega) (by omega) (by omega))
  clear hb h
  go_enter Try.func25, Try.ntmps25
  go_wp2_with fail
  refine HM.out.mono ?_
  rintro e w2 ⟨rfl, ho, hg⟩
  have HO := Lib.hid ho
  have HG := Lib.hid (grownBy_trans (below_any HB.out _) hg)
  clear ho hg
  go_wp2_with fail
  go_ret
  exact ⟨rfl, HO.out, HG.out⟩
set_option maxHeartbeats 2000000 in
theorem heldFrame_any (u l : Int) (A : Option Addr) (n c B : Nat) (w : World) (h : Reads w B 2 A n ((marks 1 (n * 2)).map (Value.int .i64))) (hB : B ≤ w.heap.size) (hn : n ≤ 1048576) :
    Calls Try.prog 26 #[.agg #[.int .i64 u, .int .i64 l, .slice A n c], .int .i64 1] w fun e w' => e = .returned (.int .i64 (1 + (n * 2 : Nat))) ∧ Below w.heap.size w w' := by
  have hb := ext_alloc (Below.refl w.heap.size w) (.cells #[.int .i64 u, .int .i64 l, .slice A n c] 33)
  have HB := Lib.hid hb
  have HM := Lib.hid (heldIntA2S_any A n c B 1 _ (h.below (hb.mono hB)) (by omega) (by omega) (by omega))
  have h0 : 0 ≤ (1 : Int) + (n * 2 : Nat) := by omega
  clear hb h
  go_enter Try.func26, Try.ntmps26
  go_wp2_with fail
  refine HM.out.mono ?_
  rintro e w2 ⟨rfl, rfl⟩
  go_wp2_with fail
  go_ret
  exact ⟨rfl, HB.out⟩
end Go.Proofs.Ytkgbcjiinicffaa
