/- The law FnExactPartOf: out of the two sides' contracts. No condition. -/
import Derived.Test.YthigfbhkdegfkaaNu
import Derived.Test.YthigfbhkdegfkaaHeld
import Derived.Deep.CutRange
namespace Go.Proofs.Ythigfbhkdegfkaa
open Go.RowKit

theorem own_cap {w : World} {base E k n c : Nat} {A : Option Addr} {vs : List Value} (h : w.ownsRow base E k (.slice A n c) n vs) : n ≤ c ∧ c ≤ maxLen := by
  rcases h.2 with ⟨h1, h2⟩ | ⟨g, cap, cur, hv, _, _, h1, h2, _⟩
  · injection h1 with _ h3 h4; subst h4; unfold maxLen; omega
  · injection hv with _ _ h3; subst h3; exact ⟨h1, h2⟩
theorem propL_len (us : List Unt) (v : Int) : (propL us v).length = us.length - 1 + 1 := by unfold propL; rw [List.length_append, propTo_len]; rfl
theorem partV_len (us : List Unt) (zs : List Int) (N : Int) : (partV us zs N).1.length ≤ 6 ∧ (partV us zs N).2.1.length ≤ 6 := by
  unfold partV
  split
  · rename_i h
    simp only [Bool.and_eq_true] at h
    have := (amt_in h.1).few
    split
    · simp only [propL_len]; omega
    · simp
  · simp
theorem leaf_cell {X : World} {g : Nat} {u : Value} {t : TypeId} (h : Blk X g t #[u]) : X.cell? ⟨g, 0, none⟩ = some u ∧ X.frozen? ⟨g, 0, none⟩ = false := ⟨h.cell 0, h.frozen 0⟩
theorem leaf_set {W X : World} {p1 p2 : Option Addr} {i1 k1 i2 k2 : Nat} {L1 L2 : List Int} {g g' : Nat} {u u' : Value} (a1 : Acc W X 3 1 p1 i1 k1 L1) (a2 : Acc W X 3 1 p2 i2 k2 L2) (h : Blk X g 28 #[u]) (h' : Blk X g' 28 #[u'])
    (hg : W.heap.size ≤ g) (hne : g' ≠ g) (b : Below W.heap.size W X) (v : Value) :
    Acc W (X.setCell ⟨g, 0, none⟩ v) 3 1 p1 i1 k1 L1 ∧ Acc W (X.setCell ⟨g, 0, none⟩ v) 3 1 p2 i2 k2 L2 ∧ Blk (X.setCell ⟨g, 0, none⟩ v) g 28 #[v] ∧ Blk (X.setCell ⟨g, 0, none⟩ v) g' 28 #[u'] ∧ Below W.heap.size W (X.setCell ⟨g, 0, none⟩ v) :=
  ⟨a1.setOther h (by decide) hg 0 v, a2.setOther h (by decide) hg 0 v, h.set_ 0 v, h'.far (p := ⟨g, 0, none⟩) hne v, ext_set b (p := ⟨g, 0, none⟩) hg v⟩
theorem lt_of_own {w : World} {base E k n c : Nat} {A : Option Addr} {vs : List Value} (h : w.ownsRow base E k (.slice A n c) n vs) : ∀ y, A = some y → y.block < w.heap.size := fun y hy => (h.lt y.block (by rw [ownBlock_slice, hy]; rfl)).2
theorem NU.rb {w X : World} {A D p1 p2 A1 D1 g1 g2 : Option Addr} {n m i1 i2 B0 c1 b0 d1 b1 k1 k2 bg : Nat} {us : List Unt} {zs u1 u2 xs y1 y2 : List Int} {bs : List (Nat × TypeId × Array Value)} {vs : List Value}
    (h : NU w X A n us D m zs bs p1 i1 u1 p2 i2 u2 B0 A1 c1 b0 vs D1 d1 b1 xs g1 k1 y1 g2 k2 y2 bg) : B0 ≤ X.heap.size := Nat.le_trans h.s1 (Nat.le_trans h.s2 (Nat.le_trans h.s3 h.s4))
set_option maxRecDepth 100000 in
set_option maxHeartbeats 64000000 in
theorem FnExactPartOf_any (A : Option Addr) (n c : Nat) (us : List Unt) (D : Option Addr) (m k : Nat) (zs : List Int) (N : Int) (_ : (Lit.int .i64 N).wf = true) (w : World)
    (h : Reads w w.heap.size 2 A n (untF us) ∧ n ≤ maxLen ∧ ∀ x ∈ us, x.nm.size ≤ maxLen) (h2 : Reads w w.heap.size 1 D m (zs.map (Value.int .i64)) ∧ m ≤ maxLen) :
    Calls Try.prog 3 #[.slice A n c, .agg #[.slice D m k], .int .i64 N] w fun e w' => e = .returned (.bool true) ∧ Below w.heap.size w w' := by
  obtain ⟨hr, hn, hnm⟩ := h
  obtain ⟨hr2, hm⟩ := h2
  have hb := ext_alloc (Below.refl w.heap.size w) (.cells #[.slice D m k] 25)
  have hk := Blk.new w 25 #[.slice D m k]
  have ra := hr.below hb
  have rd := hr2.below hb
  have hz := hb.size
  generalize hw1 : w.alloc (.cells #[.slice D m k] 25) = w1 at hb hk ra rd hz
  have HB := Lib.hid hb
  have HK := Lib.hid hk
  have HW := Lib.hid hw1
  have RA := Lib.hid ra
  have RD := Lib.hid rd
  have HS := Lib.hid (szUnitS_any A n c _ us w1 ra hz hn hnm)
  clear hb hk hw1 ra rd hr hr2
  go_enter Try.func3, Try.ntmps3
  go_wp2_with fail
  rw [HW.out]
  refine HS.out.mono ?_
  rintro e w2 ⟨r, rfl, hsz, hr1, hb2⟩
  have HK2 := Lib.hid (HK.out.below hb2 HK.out.lt)
  have HB2 := Lib.hid (ext_trans HB.out hb2)
  have RA2 := Lib.hid (RA.out.below (hb2.mono hz))
  have RD2 := Lib.hid (RD.out.below (hb2.mono hz))
  have HZ2 := Lib.hid (Nat.le_trans hz hb2.size)
  have HSZ := Lib.hid hsz
  have x0 := HK2.out.cell 0
  simp only [List.getElem?_toArray, List.getElem?_cons_zero] at x0
  clear hb2 hsz
  by_cases hneg : r < 0
  · go_wp2_with fail
    go_ret
    exact ⟨rfl, HB2.out⟩
  · obtain ⟨r2, n2, nm2⟩ := HSZ.out (by omega)
    have HA := Lib.hid (szAmount_any D m k hm r (by omega) r2)
    by_cases hle : (m : Int) ≤ r
    rotate_left
    · rw [if_neg hle] at HA
      go_wp2_with fail
      refine (HA.out _).mono ?_
      rintro e w3 ⟨rfl, hb3⟩
      go_wp2_with fail
      go_ret
      exact ⟨rfl, ext_trans HB2.out hb3⟩
    · rw [if_pos hle] at HA
      go_wp2_with fail
      refine (HA.out _).mono ?_
      rintro e w3 ⟨rfl, hb3⟩
      have hq : 0 ≤ r - (m : Int) := by omega
      have m2 : m ≤ 1048576 := by omega
      generalize r - (m : Int) = q at hq ⊢
      obtain ⟨hL1, hL2⟩ := partV_len us zs N
      have hS := fun (A : Option Addr) (c B : Nat) (D : Option Addr) (d B2 : Nat) (w : World) h hB h2 hB2 => sPartOf_any A n c B us D m d B2 zs N w h hB n2 nm2 h2 hB2 m2
      have hI := fun (A : Option Addr) (c B : Nat) (D : Option Addr) (d B2 : Nat) (w : World) h hB hc hc2 h2 hB2 => iPartOf_any A n c B us D m d B2 zs N w h hB n2 nm2 hc hc2 h2 hB2 m2
      generalize (partV us zs N).1 = L1 at hS hI hL1
      generalize (partV us zs N).2.1 = L2 at hS hI hL2
      generalize (partV us zs N).2.2 = ok at hS hI
      have CS := Lib.hid hS
      have CI := Lib.hid hI
      have HK3 := Lib.hid (HK2.out.below hb3 HK2.out.lt)
      have HB3 := Lib.hid (ext_trans HB2.out hb3)
      have RA3 := Lib.hid (RA2.out.below (hb3.mono HZ2.out))
      have RD3 := Lib.hid (RD2.out.below (hb3.mono HZ2.out))
      have HZ3 := Lib.hid (Nat.le_trans HZ2.out hb3.size)
      have c0 := HK3.out.cell 0
      simp only [List.getElem?_toArray, List.getElem?_cons_zero] at c0
      have C0 := Lib.hid c0
      clear c0 x0 hS hI hb3 HK HB HW RA RD HS HK2 HB2 RA2 RD2 HZ2 HSZ HA hz hr1 hneg r2 hle
      go_wp2_with fail
      go_cut [8, 9, 10] from 32 to 41 (fun s8 s9 s10 wx => ∃ (g1 g2 : Nat) (p1 : Option Addr) (i1 k1 : Nat) (p2 : Option Addr) (i2 k2 : Nat), s8 = .pointer (some ⟨g1, 0, none⟩) ∧ s9 = .pointer (some ⟨g2, 0, none⟩) ∧ s10 = .bool ok ∧ Blk wx g1 28 #[.slice p1 i1 k1] ∧ Blk wx g2 28 #[.slice p2 i2 k2] ∧ Acc w3 wx 3 1 p1 i1 k1 L1 ∧ Acc w3 wx 3 1 p2 i2 k2 L2)
      case first =>
        have bX0 : Below w3.heap.size w3 w3.drew := ext_drew (Below.refl _ _)
        refine wp_region_held_drew (S := fun W => W.cell? ⟨w.heap.size, 0, none⟩ = some (.slice D m k)) (by kernel_rfl) ?_ (fun hHeld => ?_)
        · (try dsimp only); exact below_cell bX0 C0.out
        obtain ⟨X, hX⟩ : ∃ X, X = World.drew w3 := ⟨_, rfl⟩
        rw [← hX]
        try rw [← hX] at hHeld
        rw [← hX] at bX0
        have bX := bX0
        clear hX bX0
        refine wpAnyH_takeD (i := 0) (v := ?_) 33 rfl rfl (by kernel_rfl) (by kernel_rfl) (by kernel_rfl) (fun _ _ _ _ _ h => h) (by rfl) (by assumption) ?_ ?_
        rotate_left; focus (intro w hSw; (try dsimp only at hSw); go_simp; try (with_reducible rfl))
        try simp only [Act.put, List.setIfInBounds_toArray, List.set_cons_succ, List.set_cons_zero]
        refine wpAnyH_takeD (i := 2) (v := ?_) 35 rfl rfl (by kernel_rfl) (by kernel_rfl) (by kernel_rfl) (fun _ _ _ _ _ h => h) (by rfl) (by assumption) ?_ ?_
        rotate_left; focus (intro w hSw; (try dsimp only at hSw); go_simp; try (with_reducible rfl))
        try simp only [Act.put, List.setIfInBounds_toArray, List.set_cons_succ, List.set_cons_zero]
        refine wpAnyH_takeD (i := 4) (v := ?_) 37 rfl rfl (by kernel_rfl) (by kernel_rfl) (by kernel_rfl) (fun _ _ _ _ _ h => h) (by rfl) (by assumption) ?_ ?_
        rotate_left; focus (intro w hSw; (try dsimp only at hSw); go_simp; try (with_reducible rfl))
        try simp only [Act.put, List.setIfInBounds_toArray, List.set_cons_succ, List.set_cons_zero]
        refine wpAnyH_ready (rs := [1, 10, 11]) (by kernel_rfl) (by simp) ?_
        refine AllReadyH.cons rfl (fun K hK => ?_) (AllReadyH.cons rfl (fun K hK => ?_) (AllReadyH.cons rfl (fun K hK => ?_) AllReadyH.nil))
        ·go_simp; (go_at_call 8; refine (toUnitS_any A n c _ us X (RA3.out.below (bX.mono HZ3.out)) (Nat.le_trans HZ3.out bX.size) n2).mono ?_; rintro e X1 ⟨A1, c1, rfl, u1⟩); (try dsimp only)
         have hbe := u1.ext
         have bX1 := ext_trans bX hbe
         clear hbe
         refine hK.out _ _ (by exact below_cell (by assumption) C0.out) (fun hHeld => ?_)
         clear hK K; try simp only [Act.put, List.setIfInBounds_toArray, List.set_cons_succ, List.set_cons_zero]
         refine wpAnyH_ready (rs := [3, 10, 11]) (by kernel_rfl) (by simp) ?_
         refine AllReadyH.cons rfl (fun K hK => ?_) (AllReadyH.cons rfl (fun K hK => ?_) (AllReadyH.cons rfl (fun K hK => ?_) AllReadyH.nil))
         ·go_simp; (go_at_call 9; refine (toAmount_any D m k _ zs X1 (RD3.out.below (bX1.mono HZ3.out)) (Nat.le_trans HZ3.out bX1.size) m2).mono ?_; rintro e X2 ⟨D1, d1, rfl, v1⟩); (try dsimp only)
          have hbe := v1.ext
          have bX2 := ext_trans bX1 hbe
          have u1 := u1.later hbe
          clear hbe
          refine hK.out _ _ (by exact below_cell (by assumption) C0.out) (fun hHeld => ?_)
          clear hK K; try simp only [Act.put, List.setIfInBounds_toArray, List.set_cons_succ, List.set_cons_zero]
          refine wpAnyH_ready (rs := [5, 10, 11]) (by kernel_rfl) (by simp) ?_
          refine AllReadyH.cons rfl (fun K hK => ?_) (AllReadyH.cons rfl (fun K hK => ?_) (AllReadyH.cons rfl (fun K hK => ?_) AllReadyH.nil))
          ·have hcc := own_cap u1.own
           go_simp; (go_at_call 7; refine (CS.out A1 c1 _ D1 d1 _ X2 u1.reads (Nat.le_refl _) v1.reads (Nat.le_refl _)).mono ?_; rintro e X3 ⟨p1, i1, k1, p2, i2, k2, rfl, q⟩); (try dsimp only)
           have hbe := q.one.ext
           have bX3 := ext_trans bX2 hbe
           have a1 := q.one.since bX2
           have a2 := q.two.since bX2
           clear hbe q u1 v1 hcc
           refine hK.out _ _ (by exact below_cell (by assumption) C0.out) (fun hHeld => ?_)
           clear hK K; try simp only [Act.put, List.setIfInBounds_toArray, List.set_cons_succ, List.set_cons_zero]
           refine wpAnyH_takeD (i := 6) (v := ?_) 32 rfl rfl (by kernel_rfl) (by kernel_rfl) (by kernel_rfl) (fun _ _ _ _ _ h => h) (by rfl) (by assumption) ?_ ?_
           rotate_left; focus (intro w hSw; (try dsimp only at hSw); go_simp; try (with_reducible rfl))
           try simp only [Act.put, List.setIfInBounds_toArray, List.set_cons_succ, List.set_cons_zero]
           refine wpAnyH_takeD (i := 7) (v := ?_) 39 rfl rfl (by kernel_rfl) (by kernel_rfl) (by kernel_rfl) (fun _ _ _ _ _ h => h) (by rfl) (by assumption) ?_ ?_
           rotate_left; focus (intro w hSw; (try dsimp only at hSw); go_simp; try (with_reducible rfl))
           try simp only [Act.put, List.setIfInBounds_toArray, List.set_cons_succ, List.set_cons_zero]
           refine wpAnyH_takeD (i := 8) (v := ?_) 40 rfl rfl (by kernel_rfl) (by kernel_rfl) (by kernel_rfl) (fun _ _ _ _ _ h => h) (by rfl) (by assumption) ?_ ?_
           rotate_left; focus (intro w hSw; (try dsimp only at hSw); go_simp; try (with_reducible rfl))
           try simp only [Act.put, List.setIfInBounds_toArray, List.set_cons_succ, List.set_cons_zero]
           refine wpAnyH_takeD (i := 9) (v := ?_) 41 rfl rfl (by kernel_rfl) (by kernel_rfl) (by kernel_rfl) (fun _ _ _ _ _ h => h) (by rfl) (by assumption) ?_ ?_
           rotate_left; focus (intro w hSw; (try dsimp only at hSw); go_simp; try (with_reducible rfl))
           try simp only [Act.put, List.setIfInBounds_toArray, List.set_cons_succ, List.set_cons_zero]
           refine wpAnyH_ready (rs := [10, 11]) (by kernel_rfl) (by simp) ?_
           refine AllReadyH.cons rfl (fun K hK => ?_) (AllReadyH.cons rfl (fun K hK => ?_) AllReadyH.nil)
           ·go_simp
            obtain ⟨X4, hX4⟩ : ∃ X4, X4 = World.alloc X3 (Obj.cells #[.slice none 0 0] 28) := ⟨_, rfl⟩
            rw [← hX4]
            have hbe : Below X3.heap.size X3 X4 := hX4 ▸ ext_alloc (Below.refl _ _) _
            have bX4 := ext_trans bX3 hbe
            have a1 := a1.later hbe
            have a2 := a2.later hbe
            have k8 := Blk.new X3 28 #[.slice none 0 0]
            rw [← hX4] at k8
            have hgk8 : w3.heap.size ≤ X3.heap.size := bX3.size
            clear hX4 hbe
            refine hK.out _ _ (by exact below_cell (by assumption) C0.out) (fun hHeld => ?_)
            clear hK K; try simp only [Act.put, List.setIfInBounds_toArray, List.set_cons_succ, List.set_cons_zero]
            refine wpAnyH_ready (rs := [11]) (by kernel_rfl) (by simp) ?_
            refine AllReadyH.cons rfl (fun K hK => ?_) AllReadyH.nil
            go_simp
            obtain ⟨X5, hX5⟩ : ∃ X5, X5 = World.alloc X4 (Obj.cells #[.slice none 0 0] 28) := ⟨_, rfl⟩
            rw [← hX5]
            have hbe : Below X4.heap.size X4 X5 := hX5 ▸ ext_alloc (Below.refl _ _) _
            have bX5 := ext_trans bX4 hbe
            have hne : X3.heap.size ≠ X4.heap.size := Nat.ne_of_lt k8.lt
            have a1 := a1.later hbe
            have a2 := a2.later hbe
            have k8 := k8.below hbe k8.lt
            have k9 := Blk.new X4 28 #[.slice none 0 0]
            rw [← hX5] at k9
            have hgk9 : w3.heap.size ≤ X4.heap.size := bX4.size
            clear hX5 hbe
            refine hK.out _ _ (by exact below_cell (by assumption) C0.out) (fun hHeld => ?_)
            clear hK K; try simp only [Act.put, List.setIfInBounds_toArray, List.set_cons_succ, List.set_cons_zero]
            refine wpAnyH_ready (rs := [12]) (by kernel_rfl) (by simp) ?_
            refine AllReadyH.cons rfl (fun K hK => ?_) AllReadyH.nil
            obtain ⟨v0, f0⟩ := leaf_cell k8
            go_simp
            clear v0 f0
            obtain ⟨a1, a2, k8, k9, bX6⟩ := leaf_set a1 a2 k8 k9 hgk8 (by first | exact hne | exact hne.symm) bX5 (.slice p1 i1 k1)
            generalize World.setCell X5 ⟨X3.heap.size, 0, none⟩ (.slice p1 i1 k1) = X6 at a1 a2 k8 k9 bX6 ⊢
            refine hK.out _ _ (by exact below_cell (by assumption) C0.out) (fun hHeld => ?_)
            clear hK K; try simp only [Act.put, List.setIfInBounds_toArray, List.set_cons_succ, List.set_cons_zero]
            refine wpAnyH_ready (rs := [13]) (by kernel_rfl) (by simp) ?_
            refine AllReadyH.cons rfl (fun K hK => ?_) AllReadyH.nil
            obtain ⟨v0, f0⟩ := leaf_cell k9
            go_simp
            clear v0 f0
            obtain ⟨a1, a2, k9, k8, bX7⟩ := leaf_set a1 a2 k9 k8 hgk9 (by first | exact hne | exact hne.symm) bX6 (.slice p2 i2 k2)
            generalize World.setCell X6 ⟨X4.heap.size, 0, none⟩ (.slice p2 i2 k2) = X7 at a1 a2 k8 k9 bX7 ⊢
            refine hK.out _ _ (by exact below_cell (by assumption) C0.out) (fun hHeld => ?_)
            clear hK K; try simp only [Act.put, List.setIfInBounds_toArray, List.set_cons_succ, List.set_cons_zero]
            refine wpAnyH_takeD (i := 14) (v := ?_) 10 rfl rfl (by kernel_rfl) (by kernel_rfl) (by kernel_rfl) (fun _ _ _ _ _ h => h) (by rfl) (by assumption) ?_ ?_
            rotate_left; focus (intro w hSw; (try dsimp only at hSw); go_simp; try (with_reducible rfl))
            try simp only [Act.put, List.setIfInBounds_toArray, List.set_cons_succ, List.set_cons_zero]
            refine wpAnyH_done (by kernel_rfl) ?_ _
            clear hHeld
            try go_wp2_with fail
            go_meet
            exact ⟨X3.heap.size, X4.heap.size, p1, i1, k1, p2, i2, k2, rfl, rfl, rfl, k8, k9, a1, a2⟩
           ·go_simp
            obtain ⟨X8, hX8⟩ : ∃ X8, X8 = World.alloc X3 (Obj.cells #[.slice none 0 0] 28) := ⟨_, rfl⟩
            rw [← hX8]
            have hbe : Below X3.heap.size X3 X8 := hX8 ▸ ext_alloc (Below.refl _ _) _
            have bX8 := ext_trans bX3 hbe
            have a1 := a1.later hbe
            have a2 := a2.later hbe
            have k9 := Blk.new X3 28 #[.slice none 0 0]
            rw [← hX8] at k9
            have hgk9 : w3.heap.size ≤ X3.heap.size := bX3.size
            clear hX8 hbe
            refine hK.out _ _ (by exact below_cell (by assumption) C0.out) (fun hHeld => ?_)
            clear hK K; try simp only [Act.put, List.setIfInBounds_toArray, List.set_cons_succ, List.set_cons_zero]
            refine wpAnyH_ready (rs := [10]) (by kernel_rfl) (by simp) ?_
            refine AllReadyH.cons rfl (fun K hK => ?_) AllReadyH.nil
            go_simp
            obtain ⟨X9, hX9⟩ : ∃ X9, X9 = World.alloc X8 (Obj.cells #[.slice none 0 0] 28) := ⟨_, rfl⟩
            rw [← hX9]
            have hbe : Below X8.heap.size X8 X9 := hX9 ▸ ext_alloc (Below.refl _ _) _
            have bX9 := ext_trans bX8 hbe
            have hne : X3.heap.size ≠ X8.heap.size := Nat.ne_of_lt k9.lt
            have a1 := a1.later hbe
            have a2 := a2.later hbe
            have k9 := k9.below hbe k9.lt
            have k8 := Blk.new X8 28 #[.slice none 0 0]
            rw [← hX9] at k8
            have hgk8 : w3.heap.size ≤ X8.heap.size := bX8.size
            clear hX9 hbe
            refine hK.out _ _ (by exact below_cell (by assumption) C0.out) (fun hHeld => ?_)
            clear hK K; try simp only [Act.put, List.setIfInBounds_toArray, List.set_cons_succ, List.set_cons_zero]
            refine wpAnyH_ready (rs := [12]) (by kernel_rfl) (by simp) ?_
            refine AllReadyH.cons rfl (fun K hK => ?_) AllReadyH.nil
            obtain ⟨v0, f0⟩ := leaf_cell k8
            go_simp
            clear v0 f0
            obtain ⟨a1, a2, k8, k9, bX10⟩ := leaf_set a1 a2 k8 k9 hgk8 (by first | exact hne | exact hne.symm) bX9 (.slice p1 i1 k1)
            generalize World.setCell X9 ⟨X8.heap.size, 0, none⟩ (.slice p1 i1 k1) = X10 at a1 a2 k8 k9 bX10 ⊢
            refine hK.out _ _ (by exact below_cell (by assumption) C0.out) (fun hHeld => ?_)
            clear hK K; try simp only [Act.put, List.setIfInBounds_toArray, List.set_cons_succ, List.set_cons_zero]
            refine wpAnyH_ready (rs := [13]) (by kernel_rfl) (by simp) ?_
            refine AllReadyH.cons rfl (fun K hK => ?_) AllReadyH.nil
            obtain ⟨v0, f0⟩ := leaf_cell k9
            go_simp
            clear v0 f0
            obtain ⟨a1, a2, k9, k8, bX11⟩ := leaf_set a1 a2 k9 k8 hgk9 (by first | exact hne | exact hne.symm) bX10 (.slice p2 i2 k2)
            generalize World.setCell X10 ⟨X3.heap.size, 0, none⟩ (.slice p2 i2 k2) = X11 at a1 a2 k8 k9 bX11 ⊢
            refine hK.out _ _ (by exact below_cell (by assumption) C0.out) (fun hHeld => ?_)
            clear hK K; try simp only [Act.put, List.setIfInBounds_toArray, List.set_cons_succ, List.set_cons_zero]
            refine wpAnyH_takeD (i := 14) (v := ?_) 10 rfl rfl (by kernel_rfl) (by kernel_rfl) (by kernel_rfl) (fun _ _ _ _ _ h => h) (by rfl) (by assumption) ?_ ?_
            rotate_left; focus (intro w hSw; (try dsimp only at hSw); go_simp; try (with_reducible rfl))
            try simp only [Act.put, List.setIfInBounds_toArray, List.set_cons_succ, List.set_cons_zero]
            refine wpAnyH_done (by kernel_rfl) ?_ _
            clear hHeld
            try go_wp2_with fail
            go_meet
            exact ⟨X8.heap.size, X3.heap.size, p1, i1, k1, p2, i2, k2, rfl, rfl, rfl, k8, k9, a1, a2⟩
          ·go_simp
           obtain ⟨X12, hX12⟩ : ∃ X12, X12 = World.alloc X2 (Obj.cells #[.slice none 0 0] 28) := ⟨_, rfl⟩
           rw [← hX12]
           have hbe : Below X2.heap.size X2 X12 := hX12 ▸ ext_alloc (Below.refl _ _) _
           have bX12 := ext_trans bX2 hbe
           have u1 := u1.later hbe
           have v1 := v1.later hbe
           have k8 := Blk.new X2 28 #[.slice none 0 0]
           rw [← hX12] at k8
           have hgk8 : w3.heap.size ≤ X2.heap.size := bX2.size
           clear hX12 hbe
           refine hK.out _ _ (by exact below_cell (by assumption) C0.out) (fun hHeld => ?_)
           clear hK K; try simp only [Act.put, List.setIfInBounds_toArray, List.set_cons_succ, List.set_cons_zero]
           refine wpAnyH_ready (rs := [5, 11]) (by kernel_rfl) (by simp) ?_
           refine AllReadyH.cons rfl (fun K hK => ?_) (AllReadyH.cons rfl (fun K hK => ?_) AllReadyH.nil)
           ·have hcc := own_cap u1.own
            go_simp; (go_at_call 7; refine (CS.out A1 c1 _ D1 d1 _ X12 u1.reads (Nat.le_refl _) v1.reads (Nat.le_refl _)).mono ?_; rintro e X13 ⟨p1, i1, k1, p2, i2, k2, rfl, q⟩); (try dsimp only)
            have hbe := q.one.ext
            have bX13 := ext_trans bX12 hbe
            have a1 := q.one.since bX12
            have a2 := q.two.since bX12
            have k8 := k8.below hbe k8.lt
            clear hbe q u1 v1 hcc
            refine hK.out _ _ (by exact below_cell (by assumption) C0.out) (fun hHeld => ?_)
            clear hK K; try simp only [Act.put, List.setIfInBounds_toArray, List.set_cons_succ, List.set_cons_zero]
            refine wpAnyH_takeD (i := 6) (v := ?_) 32 rfl rfl (by kernel_rfl) (by kernel_rfl) (by kernel_rfl) (fun _ _ _ _ _ h => h) (by rfl) (by assumption) ?_ ?_
            rotate_left; focus (intro w hSw; (try dsimp only at hSw); go_simp; try (with_reducible rfl))
            try simp only [Act.put, List.setIfInBounds_toArray, List.set_cons_succ, List.set_cons_zero]
            refine wpAnyH_takeD (i := 7) (v := ?_) 39 rfl rfl (by kernel_rfl) (by kernel_rfl) (by kernel_rfl) (fun _ _ _ _ _ h => h) (by rfl) (by assumption) ?_ ?_
            rotate_left; focus (intro w hSw; (try dsimp only at hSw); go_simp; try (with_reducible rfl))
            try simp only [Act.put, List.setIfInBounds_toArray, List.set_cons_succ, List.set_cons_zero]
            refine wpAnyH_takeD (i := 8) (v := ?_) 40 rfl rfl (by kernel_rfl) (by kernel_rfl) (by kernel_rfl) (fun _ _ _ _ _ h => h) (by rfl) (by assumption) ?_ ?_
            rotate_left; focus (intro w hSw; (try dsimp only at hSw); go_simp; try (with_reducible rfl))
            try simp only [Act.put, List.setIfInBounds_toArray, List.set_cons_succ, List.set_cons_zero]
            refine wpAnyH_takeD (i := 9) (v := ?_) 41 rfl rfl (by kernel_rfl) (by kernel_rfl) (by kernel_rfl) (fun _ _ _ _ _ h => h) (by rfl) (by assumption) ?_ ?_
            rotate_left; focus (intro w hSw; (try dsimp only at hSw); go_simp; try (with_reducible rfl))
            try simp only [Act.put, List.setIfInBounds_toArray, List.set_cons_succ, List.set_cons_zero]
            refine wpAnyH_ready (rs := [11]) (by kernel_rfl) (by simp) ?_
            refine AllReadyH.cons rfl (fun K hK => ?_) AllReadyH.nil
            go_simp
            obtain ⟨X14, hX14⟩ : ∃ X14, X14 = World.alloc X13 (Obj.cells #[.slice none 0 0] 28) := ⟨_, rfl⟩
            rw [← hX14]
            have hbe : Below X13.heap.size X13 X14 := hX14 ▸ ext_alloc (Below.refl _ _) _
            have bX14 := ext_trans bX13 hbe
            have hne : X2.heap.size ≠ X13.heap.size := Nat.ne_of_lt k8.lt
            have a1 := a1.later hbe
            have a2 := a2.later hbe
            have k8 := k8.below hbe k8.lt
            have k9 := Blk.new X13 28 #[.slice none 0 0]
            rw [← hX14] at k9
            have hgk9 : w3.heap.size ≤ X13.heap.size := bX13.size
            clear hX14 hbe
            refine hK.out _ _ (by exact below_cell (by assumption) C0.out) (fun hHeld => ?_)
            clear hK K; try simp only [Act.put, List.setIfInBounds_toArray, List.set_cons_succ, List.set_cons_zero]
            refine wpAnyH_ready (rs := [12]) (by kernel_rfl) (by simp) ?_
            refine AllReadyH.cons rfl (fun K hK => ?_) AllReadyH.nil
            obtain ⟨v0, f0⟩ := leaf_cell k8
            go_simp
            clear v0 f0
            obtain ⟨a1, a2, k8, k9, bX15⟩ := leaf_set a1 a2 k8 k9 hgk8 (by first | exact hne | exact hne.symm) bX14 (.slice p1 i1 k1)
            generalize World.setCell X14 ⟨X2.heap.size, 0, none⟩ (.slice p1 i1 k1) = X15 at a1 a2 k8 k9 bX15 ⊢
            refine hK.out _ _ (by exact below_cell (by assumption) C0.out) (fun hHeld => ?_)
            clear hK K; try simp only [Act.put, List.setIfInBounds_toArray, List.set_cons_succ, List.set_cons_zero]
            refine wpAnyH_ready (rs := [13]) (by kernel_rfl) (by simp) ?_
            refine AllReadyH.cons rfl (fun K hK => ?_) AllReadyH.nil
            obtain ⟨v0, f0⟩ := leaf_cell k9
            go_simp
            clear v0 f0
            obtain ⟨a1, a2, k9, k8, bX16⟩ := leaf_set a1 a2 k9 k8 hgk9 (by first | exact hne | exact hne.symm) bX15 (.slice p2 i2 k2)
            generalize World.setCell X15 ⟨X13.heap.size, 0, none⟩ (.slice p2 i2 k2) = X16 at a1 a2 k8 k9 bX16 ⊢
            refine hK.out _ _ (by exact below_cell (by assumption) C0.out) (fun hHeld => ?_)
            clear hK K; try simp only [Act.put, List.setIfInBounds_toArray, List.set_cons_succ, List.set_cons_zero]
            refine wpAnyH_takeD (i := 14) (v := ?_) 10 rfl rfl (by kernel_rfl) (by kernel_rfl) (by kernel_rfl) (fun _ _ _ _ _ h => h) (by rfl) (by assumption) ?_ ?_
            rotate_left; focus (intro w hSw; (try dsimp only at hSw); go_simp; try (with_reducible rfl))
            try simp only [Act.put, List.setIfInBounds_toArray, List.set_cons_succ, List.set_cons_zero]
            refine wpAnyH_done (by kernel_rfl) ?_ _
            clear hHeld
            try go_wp2_with fail
            go_meet
            exact ⟨X2.heap.size, X13.heap.size, p1, i1, k1, p2, i2, k2, rfl, rfl, rfl, k8, k9, a1, a2⟩
           ·go_simp
            obtain ⟨X17, hX17⟩ : ∃ X17, X17 = World.alloc X12 (Obj.cells #[.slice none 0 0] 28) := ⟨_, rfl⟩
            rw [← hX17]
            have hbe : Below X12.heap.size X12 X17 := hX17 ▸ ext_alloc (Below.refl _ _) _
            have bX17 := ext_trans bX12 hbe
            have hne : X2.heap.size ≠ X12.heap.size := Nat.ne_of_lt k8.lt
            have u1 := u1.later hbe
            have v1 := v1.later hbe
            have k8 := k8.below hbe k8.lt
            have k9 := Blk.new X12 28 #[.slice none 0 0]
            rw [← hX17] at k9
            have hgk9 : w3.heap.size ≤ X12.heap.size := bX12.size
            clear hX17 hbe
            refine hK.out _ _ (by exact below_cell (by assumption) C0.out) (fun hHeld => ?_)
            clear hK K; try simp only [Act.put, List.setIfInBounds_toArray, List.set_cons_succ, List.set_cons_zero]
            refine wpAnyH_ready (rs := [5]) (by kernel_rfl) (by simp) ?_
            refine AllReadyH.cons rfl (fun K hK => ?_) AllReadyH.nil
            have hcc := own_cap u1.own
            go_simp; (go_at_call 7; refine (CS.out A1 c1 _ D1 d1 _ X17 u1.reads (Nat.le_refl _) v1.reads (Nat.le_refl _)).mono ?_; rintro e X18 ⟨p1, i1, k1, p2, i2, k2, rfl, q⟩); (try dsimp only)
            have hbe := q.one.ext
            have bX18 := ext_trans bX17 hbe
            have a1 := q.one.since bX17
            have a2 := q.two.since bX17
            have k8 := k8.below hbe k8.lt
            have k9 := k9.below hbe k9.lt
            clear hbe q u1 v1 hcc
            refine hK.out _ _ (by exact below_cell (by assumption) C0.out) (fun hHeld => ?_)
            clear hK K; try simp only [Act.put, List.setIfInBounds_toArray, List.set_cons_succ, List.set_cons_zero]
            refine wpAnyH_takeD (i := 6) (v := ?_) 32 rfl rfl (by kernel_rfl) (by kernel_rfl) (by kernel_rfl) (fun _ _ _ _ _ h => h) (by rfl) (by assumption) ?_ ?_
            rotate_left; focus (intro w hSw; (try dsimp only at hSw); go_simp; try (with_reducible rfl))
            try simp only [Act.put, List.setIfInBounds_toArray, List.set_cons_succ, List.set_cons_zero]
            refine wpAnyH_takeD (i := 7) (v := ?_) 39 rfl rfl (by kernel_rfl) (by kernel_rfl) (by kernel_rfl) (fun _ _ _ _ _ h => h) (by rfl) (by assumption) ?_ ?_
            rotate_left; focus (intro w hSw; (try dsimp only at hSw); go_simp; try (with_reducible rfl))
            try simp only [Act.put, List.setIfInBounds_toArray, List.set_cons_succ, List.set_cons_zero]
            refine wpAnyH_takeD (i := 8) (v := ?_) 40 rfl rfl (by kernel_rfl) (by kernel_rfl) (by kernel_rfl) (fun _ _ _ _ _ h => h) (by rfl) (by assumption) ?_ ?_
            rotate_left; focus (intro w hSw; (try dsimp only at hSw); go_simp; try (with_reducible rfl))
            try simp only [Act.put, List.setIfInBounds_toArray, List.set_cons_succ, List.set_cons_zero]
            refine wpAnyH_takeD (i := 9) (v := ?_) 41 rfl rfl (by kernel_rfl) (by kernel_rfl) (by kernel_rfl) (fun _ _ _ _ _ h => h) (by rfl) (by assumption) ?_ ?_
            rotate_left; focus (intro w hSw; (try dsimp only at hSw); go_simp; try (with_reducible rfl))
            try simp only [Act.put, List.setIfInBounds_toArray, List.set_cons_succ, List.set_cons_zero]
            refine wpAnyH_ready (rs := [12]) (by kernel_rfl) (by simp) ?_
            refine AllReadyH.cons rfl (fun K hK => ?_) AllReadyH.nil
            obtain ⟨v0, f0⟩ := leaf_cell k8
            go_simp
            clear v0 f0
            obtain ⟨a1, a2, k8, k9, bX19⟩ := leaf_set a1 a2 k8 k9 hgk8 (by first | exact hne | exact hne.symm) bX18 (.slice p1 i1 k1)
            generalize World.setCell X18 ⟨X2.heap.size, 0, none⟩ (.slice p1 i1 k1) = X19 at a1 a2 k8 k9 bX19 ⊢
            refine hK.out _ _ (by exact below_cell (by assumption) C0.out) (fun hHeld => ?_)
            clear hK K; try simp only [Act.put, List.setIfInBounds_toArray, List.set_cons_succ, List.set_cons_zero]
            refine wpAnyH_ready (rs := [13]) (by kernel_rfl) (by simp) ?_
            refine AllReadyH.cons rfl (fun K hK => ?_) AllReadyH.nil
            obtain ⟨v0, f0⟩ := leaf_cell k9
            go_simp
            clear v0 f0
            obtain ⟨a1, a2, k9, k8, bX20⟩ := leaf_set a1 a2 k9 k8 hgk9 (by first | exact hne | exact hne.symm) bX19 (.slice p2 i2 k2)
            generalize World.setCell X19 ⟨X12.heap.size, 0, none⟩ (.slice p2 i2 k2) = X20 at a1 a2 k8 k9 bX20 ⊢
            refine hK.out _ _ (by exact below_cell (by assumption) C0.out) (fun hHeld => ?_)
            clear hK K; try simp only [Act.put, List.setIfInBounds_toArray, List.set_cons_succ, List.set_cons_zero]
            refine wpAnyH_takeD (i := 14) (v := ?_) 10 rfl rfl (by kernel_rfl) (by kernel_rfl) (by kernel_rfl) (fun _ _ _ _ _ h => h) (by rfl) (by assumption) ?_ ?_
            rotate_left; focus (intro w hSw; (try dsimp only at hSw); go_simp; try (with_reducible rfl))
            try simp only [Act.put, List.setIfInBounds_toArray, List.set_cons_succ, List.set_cons_zero]
            refine wpAnyH_done (by kernel_rfl) ?_ _
            clear hHeld
            try go_wp2_with fail
            go_meet
            exact ⟨X2.heap.size, X12.heap.size, p1, i1, k1, p2, i2, k2, rfl, rfl, rfl, k8, k9, a1, a2⟩
          ·go_simp
           obtain ⟨X21, hX21⟩ : ∃ X21, X21 = World.alloc X2 (Obj.cells #[.slice none 0 0] 28) := ⟨_, rfl⟩
           rw [← hX21]
           have hbe : Below X2.heap.size X2 X21 := hX21 ▸ ext_alloc (Below.refl _ _) _
           have bX21 := ext_trans bX2 hbe
           have u1 := u1.later hbe
           have v1 := v1.later hbe
           have k9 := Blk.new X2 28 #[.slice none 0 0]
           rw [← hX21] at k9
           have hgk9 : w3.heap.size ≤ X2.heap.size := bX2.size
           clear hX21 hbe
           refine hK.out _ _ (by exact below_cell (by assumption) C0.out) (fun hHeld => ?_)
           clear hK K; try simp only [Act.put, List.setIfInBounds_toArray, List.set_cons_succ, List.set_cons_zero]
           refine wpAnyH_ready (rs := [5, 10]) (by kernel_rfl) (by simp) ?_
           refine AllReadyH.cons rfl (fun K hK => ?_) (AllReadyH.cons rfl (fun K hK => ?_) AllReadyH.nil)
           ·have hcc := own_cap u1.own
            go_simp; (go_at_call 7; refine (CS.out A1 c1 _ D1 d1 _ X21 u1.reads (Nat.le_refl _) v1.reads (Nat.le_refl _)).mono ?_; rintro e X22 ⟨p1, i1, k1, p2, i2, k2, rfl, q⟩); (try dsimp only)
            have hbe := q.one.ext
            have bX22 := ext_trans bX21 hbe
            have a1 := q.one.since bX21
            have a2 := q.two.since bX21
            have k9 := k9.below hbe k9.lt
            clear hbe q u1 v1 hcc
            refine hK.out _ _ (by exact below_cell (by assumption) C0.out) (fun hHeld => ?_)
            clear hK K; try simp only [Act.put, List.setIfInBounds_toArray, List.set_cons_succ, List.set_cons_zero]
            refine wpAnyH_takeD (i := 6) (v := ?_) 32 rfl rfl (by kernel_rfl) (by kernel_rfl) (by kernel_rfl) (fun _ _ _ _ _ h => h) (by rfl) (by assumption) ?_ ?_
            rotate_left; focus (intro w hSw; (try dsimp only at hSw); go_simp; try (with_reducible rfl))
            try simp only [Act.put, List.setIfInBounds_toArray, List.set_cons_succ, List.set_cons_zero]
            refine wpAnyH_takeD (i := 7) (v := ?_) 39 rfl rfl (by kernel_rfl) (by kernel_rfl) (by kernel_rfl) (fun _ _ _ _ _ h => h) (by rfl) (by assumption) ?_ ?_
            rotate_left; focus (intro w hSw; (try dsimp only at hSw); go_simp; try (with_reducible rfl))
            try simp only [Act.put, List.setIfInBounds_toArray, List.set_cons_succ, List.set_cons_zero]
            refine wpAnyH_takeD (i := 8) (v := ?_) 40 rfl rfl (by kernel_rfl) (by kernel_rfl) (by kernel_rfl) (fun _ _ _ _ _ h => h) (by rfl) (by assumption) ?_ ?_
            rotate_left; focus (intro w hSw; (try dsimp only at hSw); go_simp; try (with_reducible rfl))
            try simp only [Act.put, List.setIfInBounds_toArray, List.set_cons_succ, List.set_cons_zero]
            refine wpAnyH_takeD (i := 9) (v := ?_) 41 rfl rfl (by kernel_rfl) (by kernel_rfl) (by kernel_rfl) (fun _ _ _ _ _ h => h) (by rfl) (by assumption) ?_ ?_
            rotate_left; focus (intro w hSw; (try dsimp only at hSw); go_simp; try (with_reducible rfl))
            try simp only [Act.put, List.setIfInBounds_toArray, List.set_cons_succ, List.set_cons_zero]
            refine wpAnyH_ready (rs := [10]) (by kernel_rfl) (by simp) ?_
            refine AllReadyH.cons rfl (fun K hK => ?_) AllReadyH.nil
            go_simp
            obtain ⟨X23, hX23⟩ : ∃ X23, X23 = World.alloc X22 (Obj.cells #[.slice none 0 0] 28) := ⟨_, rfl⟩
            rw [← hX23]
            have hbe : Below X22.heap.size X22 X23 := hX23 ▸ ext_alloc (Below.refl _ _) _
            have bX23 := ext_trans bX22 hbe
            have hne : X2.heap.size ≠ X22.heap.size := Nat.ne_of_lt k9.lt
            have a1 := a1.later hbe
            have a2 := a2.later hbe
            have k9 := k9.below hbe k9.lt
            have k8 := Blk.new X22 28 #[.slice none 0 0]
            rw [← hX23] at k8
            have hgk8 : w3.heap.size ≤ X22.heap.size := bX22.size
            clear hX23 hbe
            refine hK.out _ _ (by exact below_cell (by assumption) C0.out) (fun hHeld => ?_)
            clear hK K; try simp only [Act.put, List.setIfInBounds_toArray, List.set_cons_succ, List.set_cons_zero]
            refine wpAnyH_ready (rs := [12]) (by kernel_rfl) (by simp) ?_
            refine AllReadyH.cons rfl (fun K hK => ?_) AllReadyH.nil
            obtain ⟨v0, f0⟩ := leaf_cell k8
            go_simp
            clear v0 f0
            obtain ⟨a1, a2, k8, k9, bX24⟩ := leaf_set a1 a2 k8 k9 hgk8 (by first | exact hne | exact hne.symm) bX23 (.slice p1 i1 k1)
            generalize World.setCell X23 ⟨X22.heap.size, 0, none⟩ (.slice p1 i1 k1) = X24 at a1 a2 k8 k9 bX24 ⊢
            refine hK.out _ _ (by exact below_cell (by assumption) C0.out) (fun hHeld => ?_)
            clear hK K; try simp only [Act.put, List.setIfInBounds_toArray, List.set_cons_succ, List.set_cons_zero]
            refine wpAnyH_ready (rs := [13]) (by kernel_rfl) (by simp) ?_
            refine AllReadyH.cons rfl (fun K hK => ?_) AllReadyH.nil
            obtain ⟨v0, f0⟩ := leaf_cell k9
            go_simp
            clear v0 f0
            obtain ⟨a1, a2, k9, k8, bX25⟩ := leaf_set a1 a2 k9 k8 hgk9 (by first | exact hne | exact hne.symm) bX24 (.slice p2 i2 k2)
            generalize World.setCell X24 ⟨X2.heap.size, 0, none⟩ (.slice p2 i2 k2) = X25 at a1 a2 k8 k9 bX25 ⊢
            refine hK.out _ _ (by exact below_cell (by assumption) C0.out) (fun hHeld => ?_)
            clear hK K; try simp only [Act.put, List.setIfInBounds_toArray, List.set_cons_succ, List.set_cons_zero]
            refine wpAnyH_takeD (i := 14) (v := ?_) 10 rfl rfl (by kernel_rfl) (by kernel_rfl) (by kernel_rfl) (fun _ _ _ _ _ h => h) (by rfl) (by assumption) ?_ ?_
            rotate_left; focus (intro w hSw; (try dsimp only at hSw); go_simp; try (with_reducible rfl))
            try simp only [Act.put, List.setIfInBounds_toArray, List.set_cons_succ, List.set_cons_zero]
            refine wpAnyH_done (by kernel_rfl) ?_ _
            clear hHeld
            try go_wp2_with fail
            go_meet
            exact ⟨X22.heap.size, X2.heap.size, p1, i1, k1, p2, i2, k2, rfl, rfl, rfl, k8, k9, a1, a2⟩
           ·go_simp
            obtain ⟨X26, hX26⟩ : ∃ X26, X26 = World.alloc X21 (Obj.cells #[.slice none 0 0] 28) := ⟨_, rfl⟩
            rw [← hX26]
            have hbe : Below X21.heap.size X21 X26 := hX26 ▸ ext_alloc (Below.refl _ _) _
            have bX26 := ext_trans bX21 hbe
            have hne : X2.heap.size ≠ X21.heap.size := Nat.ne_of_lt k9.lt
            have u1 := u1.later hbe
            have v1 := v1.later hbe
            have k9 := k9.below hbe k9.lt
            have k8 := Blk.new X21 28 #[.slice none 0 0]
            rw [← hX26] at k8
            have hgk8 : w3.heap.size ≤ X21.heap.size := bX21.size
            clear hX26 hbe
            refine hK.out _ _ (by exact below_cell (by assumption) C0.out) (fun hHeld => ?_)
            clear hK K; try simp only [Act.put, List.setIfInBounds_toArray, List.set_cons_succ, List.set_cons_zero]
            refine wpAnyH_ready (rs := [5]) (by kernel_rfl) (by simp) ?_
            refine AllReadyH.cons rfl (fun K hK => ?_) AllReadyH.nil
            have hcc := own_cap u1.own
            go_simp; (go_at_call 7; refine (CS.out A1 c1 _ D1 d1 _ X26 u1.reads (Nat.le_refl _) v1.reads (Nat.le_refl _)).mono ?_; rintro e X27 ⟨p1, i1, k1, p2, i2, k2, rfl, q⟩); (try dsimp only)
            have hbe := q.one.ext
            have bX27 := ext_trans bX26 hbe
            have a1 := q.one.since bX26
            have a2 := q.two.since bX26
            have k8 := k8.below hbe k8.lt
            have k9 := k9.below hbe k9.lt
            clear hbe q u1 v1 hcc
            refine hK.out _ _ (by exact below_cell (by assumption) C0.out) (fun hHeld => ?_)
            clear hK K; try simp only [Act.put, List.setIfInBounds_toArray, List.set_cons_succ, List.set_cons_zero]
            refine wpAnyH_takeD (i := 6) (v := ?_) 32 rfl rfl (by kernel_rfl) (by kernel_rfl) (by kernel_rfl) (fun _ _ _ _ _ h => h) (by rfl) (by assumption) ?_ ?_
            rotate_left; focus (intro w hSw; (try dsimp only at hSw); go_simp; try (with_reducible rfl))
            try simp only [Act.put, List.setIfInBounds_toArray, List.set_cons_succ, List.set_cons_zero]
            refine wpAnyH_takeD (i := 7) (v := ?_) 39 rfl rfl (by kernel_rfl) (by kernel_rfl) (by kernel_rfl) (fun _ _ _ _ _ h => h) (by rfl) (by assumption) ?_ ?_
            rotate_left; focus (intro w hSw; (try dsimp only at hSw); go_simp; try (with_reducible rfl))
            try simp only [Act.put, List.setIfInBounds_toArray, List.set_cons_succ, List.set_cons_zero]
            refine wpAnyH_takeD (i := 8) (v := ?_) 40 rfl rfl (by kernel_rfl) (by kernel_rfl) (by kernel_rfl) (fun _ _ _ _ _ h => h) (by rfl) (by assumption) ?_ ?_
            rotate_left; focus (intro w hSw; (try dsimp only at hSw); go_simp; try (with_reducible rfl))
            try simp only [Act.put, List.setIfInBounds_toArray, List.set_cons_succ, List.set_cons_zero]
            refine wpAnyH_takeD (i := 9) (v := ?_) 41 rfl rfl (by kernel_rfl) (by kernel_rfl) (by kernel_rfl) (fun _ _ _ _ _ h => h) (by rfl) (by assumption) ?_ ?_
            rotate_left; focus (intro w hSw; (try dsimp only at hSw); go_simp; try (with_reducible rfl))
            try simp only [Act.put, List.setIfInBounds_toArray, List.set_cons_succ, List.set_cons_zero]
            refine wpAnyH_ready (rs := [12]) (by kernel_rfl) (by simp) ?_
            refine AllReadyH.cons rfl (fun K hK => ?_) AllReadyH.nil
            obtain ⟨v0, f0⟩ := leaf_cell k8
            go_simp
            clear v0 f0
            obtain ⟨a1, a2, k8, k9, bX28⟩ := leaf_set a1 a2 k8 k9 hgk8 (by first | exact hne | exact hne.symm) bX27 (.slice p1 i1 k1)
            generalize World.setCell X27 ⟨X21.heap.size, 0, none⟩ (.slice p1 i1 k1) = X28 at a1 a2 k8 k9 bX28 ⊢
            refine hK.out _ _ (by exact below_cell (by assumption) C0.out) (fun hHeld => ?_)
            clear hK K; try simp only [Act.put, List.setIfInBounds_toArray, List.set_cons_succ, List.set_cons_zero]
            refine wpAnyH_ready (rs := [13]) (by kernel_rfl) (by simp) ?_
            refine AllReadyH.cons rfl (fun K hK => ?_) AllReadyH.nil
            obtain ⟨v0, f0⟩ := leaf_cell k9
            go_simp
            clear v0 f0
            obtain ⟨a1, a2, k9, k8, bX29⟩ := leaf_set a1 a2 k9 k8 hgk9 (by first | exact hne | exact hne.symm) bX28 (.slice p2 i2 k2)
            generalize World.setCell X28 ⟨X2.heap.size, 0, none⟩ (.slice p2 i2 k2) = X29 at a1 a2 k8 k9 bX29 ⊢
            refine hK.out _ _ (by exact below_cell (by assumption) C0.out) (fun hHeld => ?_)
            clear hK K; try simp only [Act.put, List.setIfInBounds_toArray, List.set_cons_succ, List.set_cons_zero]
            refine wpAnyH_takeD (i := 14) (v := ?_) 10 rfl rfl (by kernel_rfl) (by kernel_rfl) (by kernel_rfl) (fun _ _ _ _ _ h => h) (by rfl) (by assumption) ?_ ?_
            rotate_left; focus (intro w hSw; (try dsimp only at hSw); go_simp; try (with_reducible rfl))
            try simp only [Act.put, List.setIfInBounds_toArray, List.set_cons_succ, List.set_cons_zero]
            refine wpAnyH_done (by kernel_rfl) ?_ _
            clear hHeld
            try go_wp2_with fail
            go_meet
            exact ⟨X21.heap.size, X2.heap.size, p1, i1, k1, p2, i2, k2, rfl, rfl, rfl, k8, k9, a1, a2⟩
         ·go_simp
          obtain ⟨X30, hX30⟩ : ∃ X30, X30 = World.alloc X1 (Obj.cells #[.slice none 0 0] 28) := ⟨_, rfl⟩
          rw [← hX30]
          have hbe : Below X1.heap.size X1 X30 := hX30 ▸ ext_alloc (Below.refl _ _) _
          have bX30 := ext_trans bX1 hbe
          have u1 := u1.later hbe
          have k8 := Blk.new X1 28 #[.slice none 0 0]
          rw [← hX30] at k8
          have hgk8 : w3.heap.size ≤ X1.heap.size := bX1.size
          clear hX30 hbe
          refine hK.out _ _ (by exact below_cell (by assumption) C0.out) (fun hHeld => ?_)
          clear hK K; try simp only [Act.put, List.setIfInBounds_toArray, List.set_cons_succ, List.set_cons_zero]
          refine wpAnyH_ready (rs := [3, 11]) (by kernel_rfl) (by simp) ?_
          refine AllReadyH.cons rfl (fun K hK => ?_) (AllReadyH.cons rfl (fun K hK => ?_) AllReadyH.nil)
          ·go_simp; (go_at_call 9; refine (toAmount_any D m k _ zs X30 (RD3.out.below (bX30.mono HZ3.out)) (Nat.le_trans HZ3.out bX30.size) m2).mono ?_; rintro e X31 ⟨D1, d1, rfl, v1⟩); (try dsimp only)
           have hbe := v1.ext
           have bX31 := ext_trans bX30 hbe
           have u1 := u1.later hbe
           have k8 := k8.below hbe k8.lt
           clear hbe
           refine hK.out _ _ (by exact below_cell (by assumption) C0.out) (fun hHeld => ?_)
           clear hK K; try simp only [Act.put, List.setIfInBounds_toArray, List.set_cons_succ, List.set_cons_zero]
           refine wpAnyH_ready (rs := [5, 11]) (by kernel_rfl) (by simp) ?_
           refine AllReadyH.cons rfl (fun K hK => ?_) (AllReadyH.cons rfl (fun K hK => ?_) AllReadyH.nil)
           ·have hcc := own_cap u1.own
            go_simp; (go_at_call 7; refine (CS.out A1 c1 _ D1 d1 _ X31 u1.reads (Nat.le_refl _) v1.reads (Nat.le_refl _)).mono ?_; rintro e X32 ⟨p1, i1, k1, p2, i2, k2, rfl, q⟩); (try dsimp only)
            have hbe := q.one.ext
            have bX32 := ext_trans bX31 hbe
            have a1 := q.one.since bX31
            have a2 := q.two.since bX31
            have k8 := k8.below hbe k8.lt
            clear hbe q u1 v1 hcc
            refine hK.out _ _ (by exact below_cell (by assumption) C0.out) (fun hHeld => ?_)
            clear hK K; try simp only [Act.put, List.setIfInBounds_toArray, List.set_cons_succ, List.set_cons_zero]
            refine wpAnyH_takeD (i := 6) (v := ?_) 32 rfl rfl (by kernel_rfl) (by kernel_rfl) (by kernel_rfl) (fun _ _ _ _ _ h => h) (by rfl) (by assumption) ?_ ?_
            rotate_left; focus (intro w hSw; (try dsimp only at hSw); go_simp; try (with_reducible rfl))
            try simp only [Act.put, List.setIfInBounds_toArray, List.set_cons_succ, List.set_cons_zero]
            refine wpAnyH_takeD (i := 7) (v := ?_) 39 rfl rfl (by kernel_rfl) (by kernel_rfl) (by kernel_rfl) (fun _ _ _ _ _ h => h) (by rfl) (by assumption) ?_ ?_
            rotate_left; focus (intro w hSw; (try dsimp only at hSw); go_simp; try (with_reducible rfl))
            try simp only [Act.put, List.setIfInBounds_toArray, List.set_cons_succ, List.set_cons_zero]
            refine wpAnyH_takeD (i := 8) (v := ?_) 40 rfl rfl (by kernel_rfl) (by kernel_rfl) (by kernel_rfl) (fun _ _ _ _ _ h => h) (by rfl) (by assumption) ?_ ?_
            rotate_left; focus (intro w hSw; (try dsimp only at hSw); go_simp; try (with_reducible rfl))
            try simp only [Act.put, List.setIfInBounds_toArray, List.set_cons_succ, List.set_cons_zero]
            refine wpAnyH_takeD (i := 9) (v := ?_) 41 rfl rfl (by kernel_rfl) (by kernel_rfl) (by kernel_rfl) (fun _ _ _ _ _ h => h) (by rfl) (by assumption) ?_ ?_
            rotate_left; focus (intro w hSw; (try dsimp only at hSw); go_simp; try (with_reducible rfl))
            try simp only [Act.put, List.setIfInBounds_toArray, List.set_cons_succ, List.set_cons_zero]
            refine wpAnyH_ready (rs := [11]) (by kernel_rfl) (by simp) ?_
            refine AllReadyH.cons rfl (fun K hK => ?_) AllReadyH.nil
            go_simp
            obtain ⟨X33, hX33⟩ : ∃ X33, X33 = World.alloc X32 (Obj.cells #[.slice none 0 0] 28) := ⟨_, rfl⟩
            rw [← hX33]
            have hbe : Below X32.heap.size X32 X33 := hX33 ▸ ext_alloc (Below.refl _ _) _
            have bX33 := ext_trans bX32 hbe
            have hne : X1.heap.size ≠ X32.heap.size := Nat.ne_of_lt k8.lt
            have a1 := a1.later hbe
            have a2 := a2.later hbe
            have k8 := k8.below hbe k8.lt
            have k9 := Blk.new X32 28 #[.slice none 0 0]
            rw [← hX33] at k9
            have hgk9 : w3.heap.size ≤ X32.heap.size := bX32.size
            clear hX33 hbe
            refine hK.out _ _ (by exact below_cell (by assumption) C0.out) (fun hHeld => ?_)
            clear hK K; try simp only [Act.put, List.setIfInBounds_toArray, List.set_cons_succ, List.set_cons_zero]
            refine wpAnyH_ready (rs := [12]) (by kernel_rfl) (by simp) ?_
            refine AllReadyH.cons rfl (fun K hK => ?_) AllReadyH.nil
            obtain ⟨v0, f0⟩ := leaf_cell k8
            go_simp
            clear v0 f0
            obtain ⟨a1, a2, k8, k9, bX34⟩ := leaf_set a1 a2 k8 k9 hgk8 (by first | exact hne | exact hne.symm) bX33 (.slice p1 i1 k1)
            generalize World.setCell X33 ⟨X1.heap.size, 0, none⟩ (.slice p1 i1 k1) = X34 at a1 a2 k8 k9 bX34 ⊢
            refine hK.out _ _ (by exact below_cell (by assumption) C0.out) (fun hHeld => ?_)
            clear hK K; try simp only [Act.put, List.setIfInBounds_toArray, List.set_cons_succ, List.set_cons_zero]
            refine wpAnyH_ready (rs := [13]) (by kernel_rfl) (by simp) ?_
            refine AllReadyH.cons rfl (fun K hK => ?_) AllReadyH.nil
            obtain ⟨v0, f0⟩ := leaf_cell k9
            go_simp
            clear v0 f0
            obtain ⟨a1, a2, k9, k8, bX35⟩ := leaf_set a1 a2 k9 k8 hgk9 (by first | exact hne | exact hne.symm) bX34 (.slice p2 i2 k2)
            generalize World.setCell X34 ⟨X32.heap.size, 0, none⟩ (.slice p2 i2 k2) = X35 at a1 a2 k8 k9 bX35 ⊢
            refine hK.out _ _ (by exact below_cell (by assumption) C0.out) (fun hHeld => ?_)
            clear hK K; try simp only [Act.put, List.setIfInBounds_toArray, List.set_cons_succ, List.set_cons_zero]
            refine wpAnyH_takeD (i := 14) (v := ?_) 10 rfl rfl (by kernel_rfl) (by kernel_rfl) (by kernel_rfl) (fun _ _ _ _ _ h => h) (by rfl) (by assumption) ?_ ?_
            rotate_left; focus (intro w hSw; (try dsimp only at hSw); go_simp; try (with_reducible rfl))
            try simp only [Act.put, List.setIfInBounds_toArray, List.set_cons_succ, List.set_cons_zero]
            refine wpAnyH_done (by kernel_rfl) ?_ _
            clear hHeld
            try go_wp2_with fail
            go_meet
            exact ⟨X1.heap.size, X32.heap.size, p1, i1, k1, p2, i2, k2, rfl, rfl, rfl, k8, k9, a1, a2⟩
           ·go_simp
            obtain ⟨X36, hX36⟩ : ∃ X36, X36 = World.alloc X31 (Obj.cells #[.slice none 0 0] 28) := ⟨_, rfl⟩
            rw [← hX36]
            have hbe : Below X31.heap.size X31 X36 := hX36 ▸ ext_alloc (Below.refl _ _) _
            have bX36 := ext_trans bX31 hbe
            have hne : X1.heap.size ≠ X31.heap.size := Nat.ne_of_lt k8.lt
            have u1 := u1.later hbe
            have v1 := v1.later hbe
            have k8 := k8.below hbe k8.lt
            have k9 := Blk.new X31 28 #[.slice none 0 0]
            rw [← hX36] at k9
            have hgk9 : w3.heap.size ≤ X31.heap.size := bX31.size
            clear hX36 hbe
            refine hK.out _ _ (by exact below_cell (by assumption) C0.out) (fun hHeld => ?_)
            clear hK K; try simp only [Act.put, List.setIfInBounds_toArray, List.set_cons_succ, List.set_cons_zero]
            refine wpAnyH_ready (rs := [5]) (by kernel_rfl) (by simp) ?_
            refine AllReadyH.cons rfl (fun K hK => ?_) AllReadyH.nil
            have hcc := own_cap u1.own
            go_simp; (go_at_call 7; refine (CS.out A1 c1 _ D1 d1 _ X36 u1.reads (Nat.le_refl _) v1.reads (Nat.le_refl _)).mono ?_; rintro e X37 ⟨p1, i1, k1, p2, i2, k2, rfl, q⟩); (try dsimp only)
            have hbe := q.one.ext
            have bX37 := ext_trans bX36 hbe
            have a1 := q.one.since bX36
            have a2 := q.two.since bX36
            have k8 := k8.below hbe k8.lt
            have k9 := k9.below hbe k9.lt
            clear hbe q u1 v1 hcc
            refine hK.out _ _ (by exact below_cell (by assumption) C0.out) (fun hHeld => ?_)
            clear hK K; try simp only [Act.put, List.setIfInBounds_toArray, List.set_cons_succ, List.set_cons_zero]
            refine wpAnyH_takeD (i := 6) (v := ?_) 32 rfl rfl (by kernel_rfl) (by kernel_rfl) (by kernel_rfl) (fun _ _ _ _ _ h => h) (by rfl) (by assumption) ?_ ?_
            rotate_left; focus (intro w hSw; (try dsimp only at hSw); go_simp; try (with_reducible rfl))
            try simp only [Act.put, List.setIfInBounds_toArray, List.set_cons_succ, List.set_cons_zero]
            refine wpAnyH_takeD (i := 7) (v := ?_) 39 rfl rfl (by kernel_rfl) (by kernel_rfl) (by kernel_rfl) (fun _ _ _ _ _ h => h) (by rfl) (by assumption) ?_ ?_
            rotate_left; focus (intro w hSw; (try dsimp only at hSw); go_simp; try (with_reducible rfl))
            try simp only [Act.put, List.setIfInBounds_toArray, List.set_cons_succ, List.set_cons_zero]
            refine wpAnyH_takeD (i := 8) (v := ?_) 40 rfl rfl (by kernel_rfl) (by kernel_rfl) (by kernel_rfl) (fun _ _ _ _ _ h => h) (by rfl) (by assumption) ?_ ?_
            rotate_left; focus (intro w hSw; (try dsimp only at hSw); go_simp; try (with_reducible rfl))
            try simp only [Act.put, List.setIfInBounds_toArray, List.set_cons_succ, List.set_cons_zero]
            refine wpAnyH_takeD (i := 9) (v := ?_) 41 rfl rfl (by kernel_rfl) (by kernel_rfl) (by kernel_rfl) (fun _ _ _ _ _ h => h) (by rfl) (by assumption) ?_ ?_
            rotate_left; focus (intro w hSw; (try dsimp only at hSw); go_simp; try (with_reducible rfl))
            try simp only [Act.put, List.setIfInBounds_toArray, List.set_cons_succ, List.set_cons_zero]
            refine wpAnyH_ready (rs := [12]) (by kernel_rfl) (by simp) ?_
            refine AllReadyH.cons rfl (fun K hK => ?_) AllReadyH.nil
            obtain ⟨v0, f0⟩ := leaf_cell k8
            go_simp
            clear v0 f0
            obtain ⟨a1, a2, k8, k9, bX38⟩ := leaf_set a1 a2 k8 k9 hgk8 (by first | exact hne | exact hne.symm) bX37 (.slice p1 i1 k1)
            generalize World.setCell X37 ⟨X1.heap.size, 0, none⟩ (.slice p1 i1 k1) = X38 at a1 a2 k8 k9 bX38 ⊢
            refine hK.out _ _ (by exact below_cell (by assumption) C0.out) (fun hHeld => ?_)
            clear hK K; try simp only [Act.put, List.setIfInBounds_toArray, List.set_cons_succ, List.set_cons_zero]
            refine wpAnyH_ready (rs := [13]) (by kernel_rfl) (by simp) ?_
            refine AllReadyH.cons rfl (fun K hK => ?_) AllReadyH.nil
            obtain ⟨v0, f0⟩ := leaf_cell k9
            go_simp
            clear v0 f0
            obtain ⟨a1, a2, k9, k8, bX39⟩ := leaf_set a1 a2 k9 k8 hgk9 (by first | exact hne | exact hne.symm) bX38 (.slice p2 i2 k2)
            generalize World.setCell X38 ⟨X31.heap.size, 0, none⟩ (.slice p2 i2 k2) = X39 at a1 a2 k8 k9 bX39 ⊢
            refine hK.out _ _ (by exact below_cell (by assumption) C0.out) (fun hHeld => ?_)
            clear hK K; try simp only [Act.put, List.setIfInBounds_toArray, List.set_cons_succ, List.set_cons_zero]
            refine wpAnyH_takeD (i := 14) (v := ?_) 10 rfl rfl (by kernel_rfl) (by kernel_rfl) (by kernel_rfl) (fun _ _ _ _ _ h => h) (by rfl) (by assumption) ?_ ?_
            rotate_left; focus (intro w hSw; (try dsimp only at hSw); go_simp; try (with_reducible rfl))
            try simp only [Act.put, List.setIfInBounds_toArray, List.set_cons_succ, List.set_cons_zero]
            refine wpAnyH_done (by kernel_rfl) ?_ _
            clear hHeld
            try go_wp2_with fail
            go_meet
            exact ⟨X1.heap.size, X31.heap.size, p1, i1, k1, p2, i2, k2, rfl, rfl, rfl, k8, k9, a1, a2⟩
          ·go_simp
           obtain ⟨X40, hX40⟩ : ∃ X40, X40 = World.alloc X30 (Obj.cells #[.slice none 0 0] 28) := ⟨_, rfl⟩
           rw [← hX40]
           have hbe : Below X30.heap.size X30 X40 := hX40 ▸ ext_alloc (Below.refl _ _) _
           have bX40 := ext_trans bX30 hbe
           have hne : X1.heap.size ≠ X30.heap.size := Nat.ne_of_lt k8.lt
           have u1 := u1.later hbe
           have k8 := k8.below hbe k8.lt
           have k9 := Blk.new X30 28 #[.slice none 0 0]
           rw [← hX40] at k9
           have hgk9 : w3.heap.size ≤ X30.heap.size := bX30.size
           clear hX40 hbe
           refine hK.out _ _ (by exact below_cell (by assumption) C0.out) (fun hHeld => ?_)
           clear hK K; try simp only [Act.put, List.setIfInBounds_toArray, List.set_cons_succ, List.set_cons_zero]
           refine wpAnyH_ready (rs := [3]) (by kernel_rfl) (by simp) ?_
           refine AllReadyH.cons rfl (fun K hK => ?_) AllReadyH.nil
           go_simp; (go_at_call 9; refine (toAmount_any D m k _ zs X40 (RD3.out.below (bX40.mono HZ3.out)) (Nat.le_trans HZ3.out bX40.size) m2).mono ?_; rintro e X41 ⟨D1, d1, rfl, v1⟩); (try dsimp only)
           have hbe := v1.ext
           have bX41 := ext_trans bX40 hbe
           have u1 := u1.later hbe
           have k8 := k8.below hbe k8.lt
           have k9 := k9.below hbe k9.lt
           clear hbe
           refine hK.out _ _ (by exact below_cell (by assumption) C0.out) (fun hHeld => ?_)
           clear hK K; try simp only [Act.put, List.setIfInBounds_toArray, List.set_cons_succ, List.set_cons_zero]
           refine wpAnyH_ready (rs := [5]) (by kernel_rfl) (by simp) ?_
           refine AllReadyH.cons rfl (fun K hK => ?_) AllReadyH.nil
           have hcc := own_cap u1.own
           go_simp; (go_at_call 7; refine (CS.out A1 c1 _ D1 d1 _ X41 u1.reads (Nat.le_refl _) v1.reads (Nat.le_refl _)).mono ?_; rintro e X42 ⟨p1, i1, k1, p2, i2, k2, rfl, q⟩); (try dsimp only)
           have hbe := q.one.ext
           have bX42 := ext_trans bX41 hbe
           have a1 := q.one.since bX41
           have a2 := q.two.since bX41
           have k8 := k8.below hbe k8.lt
           have k9 := k9.below hbe k9.lt
           clear hbe q u1 v1 hcc
           refine hK.out _ _ (by exact below_cell (by assumption) C0.out) (fun hHeld => ?_)
           clear hK K; try simp only [Act.put, List.setIfInBounds_toArray, List.set_cons_succ, List.set_cons_zero]
           refine wpAnyH_takeD (i := 6) (v := ?_) 32 rfl rfl (by kernel_rfl) (by kernel_rfl) (by kernel_rfl) (fun _ _ _ _ _ h => h) (by rfl) (by assumption) ?_ ?_
           rotate_left; focus (intro w hSw; (try dsimp only at hSw); go_simp; try (with_reducible rfl))
           try simp only [Act.put, List.setIfInBounds_toArray, List.set_cons_succ, List.set_cons_zero]
           refine wpAnyH_takeD (i := 7) (v := ?_) 39 rfl rfl (by kernel_rfl) (by kernel_rfl) (by kernel_rfl) (fun _ _ _ _ _ h => h) (by rfl) (by assumption) ?_ ?_
           rotate_left; focus (intro w hSw; (try dsimp only at hSw); go_simp; try (with_reducible rfl))
           try simp only [Act.put, List.setIfInBounds_toArray, List.set_cons_succ, List.set_cons_zero]
           refine wpAnyH_takeD (i := 8) (v := ?_) 40 rfl rfl (by kernel_rfl) (by kernel_rfl) (by kernel_rfl) (fun _ _ _ _ _ h => h) (by rfl) (by assumption) ?_ ?_
           rotate_left; focus (intro w hSw; (try dsimp only at hSw); go_simp; try (with_reducible rfl))
           try simp only [Act.put, List.setIfInBounds_toArray, List.set_cons_succ, List.set_cons_zero]
           refine wpAnyH_takeD (i := 9) (v := ?_) 41 rfl rfl (by kernel_rfl) (by kernel_rfl) (by kernel_rfl) (fun _ _ _ _ _ h => h) (by rfl) (by assumption) ?_ ?_
           rotate_left; focus (intro w hSw; (try dsimp only at hSw); go_simp; try (with_reducible rfl))
           try simp only [Act.put, List.setIfInBounds_toArray, List.set_cons_succ, List.set_cons_zero]
           refine wpAnyH_ready (rs := [12]) (by kernel_rfl) (by simp) ?_
           refine AllReadyH.cons rfl (fun K hK => ?_) AllReadyH.nil
           obtain ⟨v0, f0⟩ := leaf_cell k8
           go_simp
           clear v0 f0
           obtain ⟨a1, a2, k8, k9, bX43⟩ := leaf_set a1 a2 k8 k9 hgk8 (by first | exact hne | exact hne.symm) bX42 (.slice p1 i1 k1)
           generalize World.setCell X42 ⟨X1.heap.size, 0, none⟩ (.slice p1 i1 k1) = X43 at a1 a2 k8 k9 bX43 ⊢
           refine hK.out _ _ (by exact below_cell (by assumption) C0.out) (fun hHeld => ?_)
           clear hK K; try simp only [Act.put, List.setIfInBounds_toArray, List.set_cons_succ, List.set_cons_zero]
           refine wpAnyH_ready (rs := [13]) (by kernel_rfl) (by simp) ?_
           refine AllReadyH.cons rfl (fun K hK => ?_) AllReadyH.nil
           obtain ⟨v0, f0⟩ := leaf_cell k9
           go_simp
           clear v0 f0
           obtain ⟨a1, a2, k9, k8, bX44⟩ := leaf_set a1 a2 k9 k8 hgk9 (by first | exact hne | exact hne.symm) bX43 (.slice p2 i2 k2)
           generalize World.setCell X43 ⟨X30.heap.size, 0, none⟩ (.slice p2 i2 k2) = X44 at a1 a2 k8 k9 bX44 ⊢
           refine hK.out _ _ (by exact below_cell (by assumption) C0.out) (fun hHeld => ?_)
           clear hK K; try simp only [Act.put, List.setIfInBounds_toArray, List.set_cons_succ, List.set_cons_zero]
           refine wpAnyH_takeD (i := 14) (v := ?_) 10 rfl rfl (by kernel_rfl) (by kernel_rfl) (by kernel_rfl) (fun _ _ _ _ _ h => h) (by rfl) (by assumption) ?_ ?_
           rotate_left; focus (intro w hSw; (try dsimp only at hSw); go_simp; try (with_reducible rfl))
           try simp only [Act.put, List.setIfInBounds_toArray, List.set_cons_succ, List.set_cons_zero]
           refine wpAnyH_done (by kernel_rfl) ?_ _
           clear hHeld
           try go_wp2_with fail
           go_meet
           exact ⟨X1.heap.size, X30.heap.size, p1, i1, k1, p2, i2, k2, rfl, rfl, rfl, k8, k9, a1, a2⟩
         ·go_simp
          obtain ⟨X45, hX45⟩ : ∃ X45, X45 = World.alloc X1 (Obj.cells #[.slice none 0 0] 28) := ⟨_, rfl⟩
          rw [← hX45]
          have hbe : Below X1.heap.size X1 X45 := hX45 ▸ ext_alloc (Below.refl _ _) _
          have bX45 := ext_trans bX1 hbe
          have u1 := u1.later hbe
          have k9 := Blk.new X1 28 #[.slice none 0 0]
          rw [← hX45] at k9
          have hgk9 : w3.heap.size ≤ X1.heap.size := bX1.size
          clear hX45 hbe
          refine hK.out _ _ (by exact below_cell (by assumption) C0.out) (fun hHeld => ?_)
          clear hK K; try simp only [Act.put, List.setIfInBounds_toArray, List.set_cons_succ, List.set_cons_zero]
          refine wpAnyH_ready (rs := [3, 10]) (by kernel_rfl) (by simp) ?_
          refine AllReadyH.cons rfl (fun K hK => ?_) (AllReadyH.cons rfl (fun K hK => ?_) AllReadyH.nil)
          ·go_simp; (go_at_call 9; refine (toAmount_any D m k _ zs X45 (RD3.out.below (bX45.mono HZ3.out)) (Nat.le_trans HZ3.out bX45.size) m2).mono ?_; rintro e X46 ⟨D1, d1, rfl, v1⟩); (try dsimp only)
           have hbe := v1.ext
           have bX46 := ext_trans bX45 hbe
           have u1 := u1.later hbe
           have k9 := k9.below hbe k9.lt
           clear hbe
           refine hK.out _ _ (by exact below_cell (by assumption) C0.out) (fun hHeld => ?_)
           clear hK K; try simp only [Act.put, List.setIfInBounds_toArray, List.set_cons_succ, List.set_cons_zero]
           refine wpAnyH_ready (rs := [5, 10]) (by kernel_rfl) (by simp) ?_
           refine AllReadyH.cons rfl (fun K hK => ?_) (AllReadyH.cons rfl (fun K hK => ?_) AllReadyH.nil)
           ·have hcc := own_cap u1.own
            go_simp; (go_at_call 7; refine (CS.out A1 c1 _ D1 d1 _ X46 u1.reads (Nat.le_refl _) v1.reads (Nat.le_refl _)).mono ?_; rintro e X47 ⟨p1, i1, k1, p2, i2, k2, rfl, q⟩); (try dsimp only)
            have hbe := q.one.ext
            have bX47 := ext_trans bX46 hbe
            have a1 := q.one.since bX46
            have a2 := q.two.since bX46
            have k9 := k9.below hbe k9.lt
            clear hbe q u1 v1 hcc
            refine hK.out _ _ (by exact below_cell (by assumption) C0.out) (fun hHeld => ?_)
            clear hK K; try simp only [Act.put, List.setIfInBounds_toArray, List.set_cons_succ, List.set_cons_zero]
            refine wpAnyH_takeD (i := 6) (v := ?_) 32 rfl rfl (by kernel_rfl) (by kernel_rfl) (by kernel_rfl) (fun _ _ _ _ _ h => h) (by rfl) (by assumption) ?_ ?_
            rotate_left; focus (intro w hSw; (try dsimp only at hSw); go_simp; try (with_reducible rfl))
            try simp only [Act.put, List.setIfInBounds_toArray, List.set_cons_succ, List.set_cons_zero]
            refine wpAnyH_takeD (i := 7) (v := ?_) 39 rfl rfl (by kernel_rfl) (by kernel_rfl) (by kernel_rfl) (fun _ _ _ _ _ h => h) (by rfl) (by assumption) ?_ ?_
            rotate_left; focus (intro w hSw; (try dsimp only at hSw); go_simp; try (with_reducible rfl))
            try simp only [Act.put, List.setIfInBounds_toArray, List.set_cons_succ, List.set_cons_zero]
            refine wpAnyH_takeD (i := 8) (v := ?_) 40 rfl rfl (by kernel_rfl) (by kernel_rfl) (by kernel_rfl) (fun _ _ _ _ _ h => h) (by rfl) (by assumption) ?_ ?_
            rotate_left; focus (intro w hSw; (try dsimp only at hSw); go_simp; try (with_reducible rfl))
            try simp only [Act.put, List.setIfInBounds_toArray, List.set_cons_succ, List.set_cons_zero]
            refine wpAnyH_takeD (i := 9) (v := ?_) 41 rfl rfl (by kernel_rfl) (by kernel_rfl) (by kernel_rfl) (fun _ _ _ _ _ h => h) (by rfl) (by assumption) ?_ ?_
            rotate_left; focus (intro w hSw; (try dsimp only at hSw); go_simp; try (with_reducible rfl))
            try simp only [Act.put, List.setIfInBounds_toArray, List.set_cons_succ, List.set_cons_zero]
            refine wpAnyH_ready (rs := [10]) (by kernel_rfl) (by simp) ?_
            refine AllReadyH.cons rfl (fun K hK => ?_) AllReadyH.nil
            go_simp
            obtain ⟨X48, hX48⟩ : ∃ X48, X48 = World.alloc X47 (Obj.cells #[.slice none 0 0] 28) := ⟨_, rfl⟩
            rw [← hX48]
            have hbe : Below X47.heap.size X47 X48 := hX48 ▸ ext_alloc (Below.refl _ _) _
            have bX48 := ext_trans bX47 hbe
            have hne : X1.heap.size ≠ X47.heap.size := Nat.ne_of_lt k9.lt
            have a1 := a1.later hbe
            have a2 := a2.later hbe
            have k9 := k9.below hbe k9.lt
            have k8 := Blk.new X47 28 #[.slice none 0 0]
            rw [← hX48] at k8
            have hgk8 : w3.heap.size ≤ X47.heap.size := bX47.size
            clear hX48 hbe
            refine hK.out _ _ (by exact below_cell (by assumption) C0.out) (fun hHeld => ?_)
            clear hK K; try simp only [Act.put, List.setIfInBounds_toArray, List.set_cons_succ, List.set_cons_zero]
            refine wpAnyH_ready (rs := [12]) (by kernel_rfl) (by simp) ?_
            refine AllReadyH.cons rfl (fun K hK => ?_) AllReadyH.nil
            obtain ⟨v0, f0⟩ := leaf_cell k8
            go_simp
            clear v0 f0
            obtain ⟨a1, a2, k8, k9, bX49⟩ := leaf_set a1 a2 k8 k9 hgk8 (by first | exact hne | exact hne.symm) bX48 (.slice p1 i1 k1)
            generalize World.setCell X48 ⟨X47.heap.size, 0, none⟩ (.slice p1 i1 k1) = X49 at a1 a2 k8 k9 bX49 ⊢
            refine hK.out _ _ (by exact below_cell (by assumption) C0.out) (fun hHeld => ?_)
            clear hK K; try simp only [Act.put, List.setIfInBounds_toArray, List.set_cons_succ, List.set_cons_zero]
            refine wpAnyH_ready (rs := [13]) (by kernel_rfl) (by simp) ?_
            refine AllReadyH.cons rfl (fun K hK => ?_) AllReadyH.nil
            obtain ⟨v0, f0⟩ := leaf_cell k9
            go_simp
            clear v0 f0
            obtain ⟨a1, a2, k9, k8, bX50⟩ := leaf_set a1 a2 k9 k8 hgk9 (by first | exact hne | exact hne.symm) bX49 (.slice p2 i2 k2)
            generalize World.setCell X49 ⟨X1.heap.size, 0, none⟩ (.slice p2 i2 k2) = X50 at a1 a2 k8 k9 bX50 ⊢
            refine hK.out _ _ (by exact below_cell (by assumption) C0.out) (fun hHeld => ?_)
            clear hK K; try simp only [Act.put, List.setIfInBounds_toArray, List.set_cons_succ, List.set_cons_zero]
            refine wpAnyH_takeD (i := 14) (v := ?_) 10 rfl rfl (by kernel_rfl) (by kernel_rfl) (by kernel_rfl) (fun _ _ _ _ _ h => h) (by rfl) (by assumption) ?_ ?_
            rotate_left; focus (intro w hSw; (try dsimp only at hSw); go_simp; try (with_reducible rfl))
            try simp only [Act.put, List.setIfInBounds_toArray, List.set_cons_succ, List.set_cons_zero]
            refine wpAnyH_done (by kernel_rfl) ?_ _
            clear hHeld
            try go_wp2_with fail
            go_meet
            exact ⟨X47.heap.size, X1.heap.size, p1, i1, k1, p2, i2, k2, rfl, rfl, rfl, k8, k9, a1, a2⟩
           ·go_simp
            obtain ⟨X51, hX51⟩ : ∃ X51, X51 = World.alloc X46 (Obj.cells #[.slice none 0 0] 28) := ⟨_, rfl⟩
            rw [← hX51]
            have hbe : Below X46.heap.size X46 X51 := hX51 ▸ ext_alloc (Below.refl _ _) _
            have bX51 := ext_trans bX46 hbe
            have hne : X1.heap.size ≠ X46.heap.size := Nat.ne_of_lt k9.lt
            have u1 := u1.later hbe
            have v1 := v1.later hbe
            have k9 := k9.below hbe k9.lt
            have k8 := Blk.new X46 28 #[.slice none 0 0]
            rw [← hX51] at k8
            have hgk8 : w3.heap.size ≤ X46.heap.size := bX46.size
            clear hX51 hbe
            refine hK.out _ _ (by exact below_cell (by assumption) C0.out) (fun hHeld => ?_)
            clear hK K; try simp only [Act.put, List.setIfInBounds_toArray, List.set_cons_succ, List.set_cons_zero]
            refine wpAnyH_ready (rs := [5]) (by kernel_rfl) (by simp) ?_
            refine AllReadyH.cons rfl (fun K hK => ?_) AllReadyH.nil
            have hcc := own_cap u1.own
            go_simp; (go_at_call 7; refine (CS.out A1 c1 _ D1 d1 _ X51 u1.reads (Nat.le_refl _) v1.reads (Nat.le_refl _)).mono ?_; rintro e X52 ⟨p1, i1, k1, p2, i2, k2, rfl, q⟩); (try dsimp only)
            have hbe := q.one.ext
            have bX52 := ext_trans bX51 hbe
            have a1 := q.one.since bX51
            have a2 := q.two.since bX51
            have k8 := k8.below hbe k8.lt
            have k9 := k9.below hbe k9.lt
            clear hbe q u1 v1 hcc
            refine hK.out _ _ (by exact below_cell (by assumption) C0.out) (fun hHeld => ?_)
            clear hK K; try simp only [Act.put, List.setIfInBounds_toArray, List.set_cons_succ, List.set_cons_zero]
            refine wpAnyH_takeD (i := 6) (v := ?_) 32 rfl rfl (by kernel_rfl) (by kernel_rfl) (by kernel_rfl) (fun _ _ _ _ _ h => h) (by rfl) (by assumption) ?_ ?_
            rotate_left; focus (intro w hSw; (try dsimp only at hSw); go_simp; try (with_reducible rfl))
            try simp only [Act.put, List.setIfInBounds_toArray, List.set_cons_succ, List.set_cons_zero]
            refine wpAnyH_takeD (i := 7) (v := ?_) 39 rfl rfl (by kernel_rfl) (by kernel_rfl) (by kernel_rfl) (fun _ _ _ _ _ h => h) (by rfl) (by assumption) ?_ ?_
            rotate_left; focus (intro w hSw; (try dsimp only at hSw); go_simp; try (with_reducible rfl))
            try simp only [Act.put, List.setIfInBounds_toArray, List.set_cons_succ, List.set_cons_zero]
            refine wpAnyH_takeD (i := 8) (v := ?_) 40 rfl rfl (by kernel_rfl) (by kernel_rfl) (by kernel_rfl) (fun _ _ _ _ _ h => h) (by rfl) (by assumption) ?_ ?_
            rotate_left; focus (intro w hSw; (try dsimp only at hSw); go_simp; try (with_reducible rfl))
            try simp only [Act.put, List.setIfInBounds_toArray, List.set_cons_succ, List.set_cons_zero]
            refine wpAnyH_takeD (i := 9) (v := ?_) 41 rfl rfl (by kernel_rfl) (by kernel_rfl) (by kernel_rfl) (fun _ _ _ _ _ h => h) (by rfl) (by assumption) ?_ ?_
            rotate_left; focus (intro w hSw; (try dsimp only at hSw); go_simp; try (with_reducible rfl))
            try simp only [Act.put, List.setIfInBounds_toArray, List.set_cons_succ, List.set_cons_zero]
            refine wpAnyH_ready (rs := [12]) (by kernel_rfl) (by simp) ?_
            refine AllReadyH.cons rfl (fun K hK => ?_) AllReadyH.nil
            obtain ⟨v0, f0⟩ := leaf_cell k8
            go_simp
            clear v0 f0
            obtain ⟨a1, a2, k8, k9, bX53⟩ := leaf_set a1 a2 k8 k9 hgk8 (by first | exact hne | exact hne.symm) bX52 (.slice p1 i1 k1)
            generalize World.setCell X52 ⟨X46.heap.size, 0, none⟩ (.slice p1 i1 k1) = X53 at a1 a2 k8 k9 bX53 ⊢
            refine hK.out _ _ (by exact below_cell (by assumption) C0.out) (fun hHeld => ?_)
            clear hK K; try simp only [Act.put, List.setIfInBounds_toArray, List.set_cons_succ, List.set_cons_zero]
            refine wpAnyH_ready (rs := [13]) (by kernel_rfl) (by simp) ?_
            refine AllReadyH.cons rfl (fun K hK => ?_) AllReadyH.nil
            obtain ⟨v0, f0⟩ := leaf_cell k9
            go_simp
            clear v0 f0
            obtain ⟨a1, a2, k9, k8, bX54⟩ := leaf_set a1 a2 k9 k8 hgk9 (by first | exact hne | exact hne.symm) bX53 (.slice p2 i2 k2)
            generalize World.setCell X53 ⟨X1.heap.size, 0, none⟩ (.slice p2 i2 k2) = X54 at a1 a2 k8 k9 bX54 ⊢
            refine hK.out _ _ (by exact below_cell (by assumption) C0.out) (fun hHeld => ?_)
            clear hK K; try simp only [Act.put, List.setIfInBounds_toArray, List.set_cons_succ, List.set_cons_zero]
            refine wpAnyH_takeD (i := 14) (v := ?_) 10 rfl rfl (by kernel_rfl) (by kernel_rfl) (by kernel_rfl) (fun _ _ _ _ _ h => h) (by rfl) (by assumption) ?_ ?_
            rotate_left; focus (intro w hSw; (try dsimp only at hSw); go_simp; try (with_reducible rfl))
            try simp only [Act.put, List.setIfInBounds_toArray, List.set_cons_succ, List.set_cons_zero]
            refine wpAnyH_done (by kernel_rfl) ?_ _
            clear hHeld
            try go_wp2_with fail
            go_meet
            exact ⟨X46.heap.size, X1.heap.size, p1, i1, k1, p2, i2, k2, rfl, rfl, rfl, k8, k9, a1, a2⟩
          ·go_simp
           obtain ⟨X55, hX55⟩ : ∃ X55, X55 = World.alloc X45 (Obj.cells #[.slice none 0 0] 28) := ⟨_, rfl⟩
           rw [← hX55]
           have hbe : Below X45.heap.size X45 X55 := hX55 ▸ ext_alloc (Below.refl _ _) _
           have bX55 := ext_trans bX45 hbe
           have hne : X1.heap.size ≠ X45.heap.size := Nat.ne_of_lt k9.lt
           have u1 := u1.later hbe
           have k9 := k9.below hbe k9.lt
           have k8 := Blk.new X45 28 #[.slice none 0 0]
           rw [← hX55] at k8
           have hgk8 : w3.heap.size ≤ X45.heap.size := bX45.size
           clear hX55 hbe
           refine hK.out _ _ (by exact below_cell (by assumption) C0.out) (fun hHeld => ?_)
           clear hK K; try simp only [Act.put, List.setIfInBounds_toArray, List.set_cons_succ, List.set_cons_zero]
           refine wpAnyH_ready (rs := [3]) (by kernel_rfl) (by simp) ?_
           refine AllReadyH.cons rfl (fun K hK => ?_) AllReadyH.nil
           go_simp; (go_at_call 9; refine (toAmount_any D m k _ zs X55 (RD3.out.below (bX55.mono HZ3.out)) (Nat.le_trans HZ3.out bX55.size) m2).mono ?_; rintro e X56 ⟨D1, d1, rfl, v1⟩); (try dsimp only)
           have hbe := v1.ext
           have bX56 := ext_trans bX55 hbe
           have u1 := u1.later hbe
           have k8 := k8.below hbe k8.lt
           have k9 := k9.below hbe k9.lt
           clear hbe
           refine hK.out _ _ (by exact below_cell (by assumption) C0.out) (fun hHeld => ?_)
           clear hK K; try simp only [Act.put, List.setIfInBounds_toArray, List.set_cons_succ, List.set_cons_zero]
           refine wpAnyH_ready (rs := [5]) (by kernel_rfl) (by simp) ?_
           refine AllReadyH.cons rfl (fun K hK => ?_) AllReadyH.nil
           have hcc := own_cap u1.own
           go_simp; (go_at_call 7; refine (CS.out A1 c1 _ D1 d1 _ X56 u1.reads (Nat.le_refl _) v1.reads (Nat.le_refl _)).mono ?_; rintro e X57 ⟨p1, i1, k1, p2, i2, k2, rfl, q⟩); (try dsimp only)
           have hbe := q.one.ext
           have bX57 := ext_trans bX56 hbe
           have a1 := q.one.since bX56
           have a2 := q.two.since bX56
           have k8 := k8.below hbe k8.lt
           have k9 := k9.below hbe k9.lt
           clear hbe q u1 v1 hcc
           refine hK.out _ _ (by exact below_cell (by assumption) C0.out) (fun hHeld => ?_)
           clear hK K; try simp only [Act.put, List.setIfInBounds_toArray, List.set_cons_succ, List.set_cons_zero]
           refine wpAnyH_takeD (i := 6) (v := ?_) 32 rfl rfl (by kernel_rfl) (by kernel_rfl) (by kernel_rfl) (fun _ _ _ _ _ h => h) (by rfl) (by assumption) ?_ ?_
           rotate_left; focus (intro w hSw; (try dsimp only at hSw); go_simp; try (with_reducible rfl))
           try simp only [Act.put, List.setIfInBounds_toArray, List.set_cons_succ, List.set_cons_zero]
           refine wpAnyH_takeD (i := 7) (v := ?_) 39 rfl rfl (by kernel_rfl) (by kernel_rfl) (by kernel_rfl) (fun _ _ _ _ _ h => h) (by rfl) (by assumption) ?_ ?_
           rotate_left; focus (intro w hSw; (try dsimp only at hSw); go_simp; try (with_reducible rfl))
           try simp only [Act.put, List.setIfInBounds_toArray, List.set_cons_succ, List.set_cons_zero]
           refine wpAnyH_takeD (i := 8) (v := ?_) 40 rfl rfl (by kernel_rfl) (by kernel_rfl) (by kernel_rfl) (fun _ _ _ _ _ h => h) (by rfl) (by assumption) ?_ ?_
           rotate_left; focus (intro w hSw; (try dsimp only at hSw); go_simp; try (with_reducible rfl))
           try simp only [Act.put, List.setIfInBounds_toArray, List.set_cons_succ, List.set_cons_zero]
           refine wpAnyH_takeD (i := 9) (v := ?_) 41 rfl rfl (by kernel_rfl) (by kernel_rfl) (by kernel_rfl) (fun _ _ _ _ _ h => h) (by rfl) (by assumption) ?_ ?_
           rotate_left; focus (intro w hSw; (try dsimp only at hSw); go_simp; try (with_reducible rfl))
           try simp only [Act.put, List.setIfInBounds_toArray, List.set_cons_succ, List.set_cons_zero]
           refine wpAnyH_ready (rs := [12]) (by kernel_rfl) (by simp) ?_
           refine AllReadyH.cons rfl (fun K hK => ?_) AllReadyH.nil
           obtain ⟨v0, f0⟩ := leaf_cell k8
           go_simp
           clear v0 f0
           obtain ⟨a1, a2, k8, k9, bX58⟩ := leaf_set a1 a2 k8 k9 hgk8 (by first | exact hne | exact hne.symm) bX57 (.slice p1 i1 k1)
           generalize World.setCell X57 ⟨X45.heap.size, 0, none⟩ (.slice p1 i1 k1) = X58 at a1 a2 k8 k9 bX58 ⊢
           refine hK.out _ _ (by exact below_cell (by assumption) C0.out) (fun hHeld => ?_)
           clear hK K; try simp only [Act.put, List.setIfInBounds_toArray, List.set_cons_succ, List.set_cons_zero]
           refine wpAnyH_ready (rs := [13]) (by kernel_rfl) (by simp) ?_
           refine AllReadyH.cons rfl (fun K hK => ?_) AllReadyH.nil
           obtain ⟨v0, f0⟩ := leaf_cell k9
           go_simp
           clear v0 f0
           obtain ⟨a1, a2, k9, k8, bX59⟩ := leaf_set a1 a2 k9 k8 hgk9 (by first | exact hne | exact hne.symm) bX58 (.slice p2 i2 k2)
           generalize World.setCell X58 ⟨X1.heap.size, 0, none⟩ (.slice p2 i2 k2) = X59 at a1 a2 k8 k9 bX59 ⊢
           refine hK.out _ _ (by exact below_cell (by assumption) C0.out) (fun hHeld => ?_)
           clear hK K; try simp only [Act.put, List.setIfInBounds_toArray, List.set_cons_succ, List.set_cons_zero]
           refine wpAnyH_takeD (i := 14) (v := ?_) 10 rfl rfl (by kernel_rfl) (by kernel_rfl) (by kernel_rfl) (fun _ _ _ _ _ h => h) (by rfl) (by assumption) ?_ ?_
           rotate_left; focus (intro w hSw; (try dsimp only at hSw); go_simp; try (with_reducible rfl))
           try simp only [Act.put, List.setIfInBounds_toArray, List.set_cons_succ, List.set_cons_zero]
           refine wpAnyH_done (by kernel_rfl) ?_ _
           clear hHeld
           try go_wp2_with fail
           go_meet
           exact ⟨X45.heap.size, X1.heap.size, p1, i1, k1, p2, i2, k2, rfl, rfl, rfl, k8, k9, a1, a2⟩
        ·go_simp
         obtain ⟨X60, hX60⟩ : ∃ X60, X60 = World.alloc X (Obj.cells #[.slice none 0 0] 28) := ⟨_, rfl⟩
         rw [← hX60]
         have hbe : Below X.heap.size X X60 := hX60 ▸ ext_alloc (Below.refl _ _) _
         have bX60 := ext_trans bX hbe
         have k8 := Blk.new X 28 #[.slice none 0 0]
         rw [← hX60] at k8
         have hgk8 : w3.heap.size ≤ X.heap.size := bX.size
         clear hX60 hbe
         refine hK.out _ _ (by exact below_cell (by assumption) C0.out) (fun hHeld => ?_)
         clear hK K; try simp only [Act.put, List.setIfInBounds_toArray, List.set_cons_succ, List.set_cons_zero]
         refine wpAnyH_ready (rs := [1, 11]) (by kernel_rfl) (by simp) ?_
         refine AllReadyH.cons rfl (fun K hK => ?_) (AllReadyH.cons rfl (fun K hK => ?_) AllReadyH.nil)
         ·go_simp; (go_at_call 8; refine (toUnitS_any A n c _ us X60 (RA3.out.below (bX60.mono HZ3.out)) (Nat.le_trans HZ3.out bX60.size) n2).mono ?_; rintro e X61 ⟨A1, c1, rfl, u1⟩); (try dsimp only)
          have hbe := u1.ext
          have bX61 := ext_trans bX60 hbe
          have k8 := k8.below hbe k8.lt
          clear hbe
          refine hK.out _ _ (by exact below_cell (by assumption) C0.out) (fun hHeld => ?_)
          clear hK K; try simp only [Act.put, List.setIfInBounds_toArray, List.set_cons_succ, List.set_cons_zero]
          refine wpAnyH_ready (rs := [3, 11]) (by kernel_rfl) (by simp) ?_
          refine AllReadyH.cons rfl (fun K hK => ?_) (AllReadyH.cons rfl (fun K hK => ?_) AllReadyH.nil)
          ·go_simp; (go_at_call 9; refine (toAmount_any D m k _ zs X61 (RD3.out.below (bX61.mono HZ3.out)) (Nat.le_trans HZ3.out bX61.size) m2).mono ?_; rintro e X62 ⟨D1, d1, rfl, v1⟩); (try dsimp only)
           have hbe := v1.ext
           have bX62 := ext_trans bX61 hbe
           have u1 := u1.later hbe
           have k8 := k8.below hbe k8.lt
           clear hbe
           refine hK.out _ _ (by exact below_cell (by assumption) C0.out) (fun hHeld => ?_)
           clear hK K; try simp only [Act.put, List.setIfInBounds_toArray, List.set_cons_succ, List.set_cons_zero]
           refine wpAnyH_ready (rs := [5, 11]) (by kernel_rfl) (by simp) ?_
           refine AllReadyH.cons rfl (fun K hK => ?_) (AllReadyH.cons rfl (fun K hK => ?_) AllReadyH.nil)
           ·have hcc := own_cap u1.own
            go_simp; (go_at_call 7; refine (CS.out A1 c1 _ D1 d1 _ X62 u1.reads (Nat.le_refl _) v1.reads (Nat.le_refl _)).mono ?_; rintro e X63 ⟨p1, i1, k1, p2, i2, k2, rfl, q⟩); (try dsimp only)
            have hbe := q.one.ext
            have bX63 := ext_trans bX62 hbe
            have a1 := q.one.since bX62
            have a2 := q.two.since bX62
            have k8 := k8.below hbe k8.lt
            clear hbe q u1 v1 hcc
            refine hK.out _ _ (by exact below_cell (by assumption) C0.out) (fun hHeld => ?_)
            clear hK K; try simp only [Act.put, List.setIfInBounds_toArray, List.set_cons_succ, List.set_cons_zero]
            refine wpAnyH_takeD (i := 6) (v := ?_) 32 rfl rfl (by kernel_rfl) (by kernel_rfl) (by kernel_rfl) (fun _ _ _ _ _ h => h) (by rfl) (by assumption) ?_ ?_
            rotate_left; focus (intro w hSw; (try dsimp only at hSw); go_simp; try (with_reducible rfl))
            try simp only [Act.put, List.setIfInBounds_toArray, List.set_cons_succ, List.set_cons_zero]
            refine wpAnyH_takeD (i := 7) (v := ?_) 39 rfl rfl (by kernel_rfl) (by kernel_rfl) (by kernel_rfl) (fun _ _ _ _ _ h => h) (by rfl) (by assumption) ?_ ?_
            rotate_left; focus (intro w hSw; (try dsimp only at hSw); go_simp; try (with_reducible rfl))
            try simp only [Act.put, List.setIfInBounds_toArray, List.set_cons_succ, List.set_cons_zero]
            refine wpAnyH_takeD (i := 8) (v := ?_) 40 rfl rfl (by kernel_rfl) (by kernel_rfl) (by kernel_rfl) (fun _ _ _ _ _ h => h) (by rfl) (by assumption) ?_ ?_
            rotate_left; focus (intro w hSw; (try dsimp only at hSw); go_simp; try (with_reducible rfl))
            try simp only [Act.put, List.setIfInBounds_toArray, List.set_cons_succ, List.set_cons_zero]
            refine wpAnyH_takeD (i := 9) (v := ?_) 41 rfl rfl (by kernel_rfl) (by kernel_rfl) (by kernel_rfl) (fun _ _ _ _ _ h => h) (by rfl) (by assumption) ?_ ?_
            rotate_left; focus (intro w hSw; (try dsimp only at hSw); go_simp; try (with_reducible rfl))
            try simp only [Act.put, List.setIfInBounds_toArray, List.set_cons_succ, List.set_cons_zero]
            refine wpAnyH_ready (rs := [11]) (by kernel_rfl) (by simp) ?_
            refine AllReadyH.cons rfl (fun K hK => ?_) AllReadyH.nil
            go_simp
            obtain ⟨X64, hX64⟩ : ∃ X64, X64 = World.alloc X63 (Obj.cells #[.slice none 0 0] 28) := ⟨_, rfl⟩
            rw [← hX64]
            have hbe : Below X63.heap.size X63 X64 := hX64 ▸ ext_alloc (Below.refl _ _) _
            have bX64 := ext_trans bX63 hbe
            have hne : X.heap.size ≠ X63.heap.size := Nat.ne_of_lt k8.lt
            have a1 := a1.later hbe
            have a2 := a2.later hbe
            have k8 := k8.below hbe k8.lt
            have k9 := Blk.new X63 28 #[.slice none 0 0]
            rw [← hX64] at k9
            have hgk9 : w3.heap.size ≤ X63.heap.size := bX63.size
            clear hX64 hbe
            refine hK.out _ _ (by exact below_cell (by assumption) C0.out) (fun hHeld => ?_)
            clear hK K; try simp only [Act.put, List.setIfInBounds_toArray, List.set_cons_succ, List.set_cons_zero]
            refine wpAnyH_ready (rs := [12]) (by kernel_rfl) (by simp) ?_
            refine AllReadyH.cons rfl (fun K hK => ?_) AllReadyH.nil
            obtain ⟨v0, f0⟩ := leaf_cell k8
            go_simp
            clear v0 f0
            obtain ⟨a1, a2, k8, k9, bX65⟩ := leaf_set a1 a2 k8 k9 hgk8 (by first | exact hne | exact hne.symm) bX64 (.slice p1 i1 k1)
            generalize World.setCell X64 ⟨X.heap.size, 0, none⟩ (.slice p1 i1 k1) = X65 at a1 a2 k8 k9 bX65 ⊢
            refine hK.out _ _ (by exact below_cell (by assumption) C0.out) (fun hHeld => ?_)
            clear hK K; try simp only [Act.put, List.setIfInBounds_toArray, List.set_cons_succ, List.set_cons_zero]
            refine wpAnyH_ready (rs := [13]) (by kernel_rfl) (by simp) ?_
            refine AllReadyH.cons rfl (fun K hK => ?_) AllReadyH.nil
            obtain ⟨v0, f0⟩ := leaf_cell k9
            go_simp
            clear v0 f0
            obtain ⟨a1, a2, k9, k8, bX66⟩ := leaf_set a1 a2 k9 k8 hgk9 (by first | exact hne | exact hne.symm) bX65 (.slice p2 i2 k2)
            generalize World.setCell X65 ⟨X63.heap.size, 0, none⟩ (.slice p2 i2 k2) = X66 at a1 a2 k8 k9 bX66 ⊢
            refine hK.out _ _ (by exact below_cell (by assumption) C0.out) (fun hHeld => ?_)
            clear hK K; try simp only [Act.put, List.setIfInBounds_toArray, List.set_cons_succ, List.set_cons_zero]
            refine wpAnyH_takeD (i := 14) (v := ?_) 10 rfl rfl (by kernel_rfl) (by kernel_rfl) (by kernel_rfl) (fun _ _ _ _ _ h => h) (by rfl) (by assumption) ?_ ?_
            rotate_left; focus (intro w hSw; (try dsimp only at hSw); go_simp; try (with_reducible rfl))
            try simp only [Act.put, List.setIfInBounds_toArray, List.set_cons_succ, List.set_cons_zero]
            refine wpAnyH_done (by kernel_rfl) ?_ _
            clear hHeld
            try go_wp2_with fail
            go_meet
            exact ⟨X.heap.size, X63.heap.size, p1, i1, k1, p2, i2, k2, rfl, rfl, rfl, k8, k9, a1, a2⟩
           ·go_simp
            obtain ⟨X67, hX67⟩ : ∃ X67, X67 = World.alloc X62 (Obj.cells #[.slice none 0 0] 28) := ⟨_, rfl⟩
            rw [← hX67]
            have hbe : Below X62.heap.size X62 X67 := hX67 ▸ ext_alloc (Below.refl _ _) _
            have bX67 := ext_trans bX62 hbe
            have hne : X.heap.size ≠ X62.heap.size := Nat.ne_of_lt k8.lt
            have u1 := u1.later hbe
            have v1 := v1.later hbe
            have k8 := k8.below hbe k8.lt
            have k9 := Blk.new X62 28 #[.slice none 0 0]
            rw [← hX67] at k9
            have hgk9 : w3.heap.size ≤ X62.heap.size := bX62.size
            clear hX67 hbe
            refine hK.out _ _ (by exact below_cell (by assumption) C0.out) (fun hHeld => ?_)
            clear hK K; try simp only [Act.put, List.setIfInBounds_toArray, List.set_cons_succ, List.set_cons_zero]
            refine wpAnyH_ready (rs := [5]) (by kernel_rfl) (by simp) ?_
            refine AllReadyH.cons rfl (fun K hK => ?_) AllReadyH.nil
            have hcc := own_cap u1.own
            go_simp; (go_at_call 7; refine (CS.out A1 c1 _ D1 d1 _ X67 u1.reads (Nat.le_refl _) v1.reads (Nat.le_refl _)).mono ?_; rintro e X68 ⟨p1, i1, k1, p2, i2, k2, rfl, q⟩); (try dsimp only)
            have hbe := q.one.ext
            have bX68 := ext_trans bX67 hbe
            have a1 := q.one.since bX67
            have a2 := q.two.since bX67
            have k8 := k8.below hbe k8.lt
            have k9 := k9.below hbe k9.lt
            clear hbe q u1 v1 hcc
            refine hK.out _ _ (by exact below_cell (by assumption) C0.out) (fun hHeld => ?_)
            clear hK K; try simp only [Act.put, List.setIfInBounds_toArray, List.set_cons_succ, List.set_cons_zero]
            refine wpAnyH_takeD (i := 6) (v := ?_) 32 rfl rfl (by kernel_rfl) (by kernel_rfl) (by kernel_rfl) (fun _ _ _ _ _ h => h) (by rfl) (by assumption) ?_ ?_
            rotate_left; focus (intro w hSw; (try dsimp only at hSw); go_simp; try (with_reducible rfl))
            try simp only [Act.put, List.setIfInBounds_toArray, List.set_cons_succ, List.set_cons_zero]
            refine wpAnyH_takeD (i := 7) (v := ?_) 39 rfl rfl (by kernel_rfl) (by kernel_rfl) (by kernel_rfl) (fun _ _ _ _ _ h => h) (by rfl) (by assumption) ?_ ?_
            rotate_left; focus (intro w hSw; (try dsimp only at hSw); go_simp; try (with_reducible rfl))
            try simp only [Act.put, List.setIfInBounds_toArray, List.set_cons_succ, List.set_cons_zero]
            refine wpAnyH_takeD (i := 8) (v := ?_) 40 rfl rfl (by kernel_rfl) (by kernel_rfl) (by kernel_rfl) (fun _ _ _ _ _ h => h) (by rfl) (by assumption) ?_ ?_
            rotate_left; focus (intro w hSw; (try dsimp only at hSw); go_simp; try (with_reducible rfl))
            try simp only [Act.put, List.setIfInBounds_toArray, List.set_cons_succ, List.set_cons_zero]
            refine wpAnyH_takeD (i := 9) (v := ?_) 41 rfl rfl (by kernel_rfl) (by kernel_rfl) (by kernel_rfl) (fun _ _ _ _ _ h => h) (by rfl) (by assumption) ?_ ?_
            rotate_left; focus (intro w hSw; (try dsimp only at hSw); go_simp; try (with_reducible rfl))
            try simp only [Act.put, List.setIfInBounds_toArray, List.set_cons_succ, List.set_cons_zero]
            refine wpAnyH_ready (rs := [12]) (by kernel_rfl) (by simp) ?_
            refine AllReadyH.cons rfl (fun K hK => ?_) AllReadyH.nil
            obtain ⟨v0, f0⟩ := leaf_cell k8
            go_simp
            clear v0 f0
            obtain ⟨a1, a2, k8, k9, bX69⟩ := leaf_set a1 a2 k8 k9 hgk8 (by first | exact hne | exact hne.symm) bX68 (.slice p1 i1 k1)
            generalize World.setCell X68 ⟨X.heap.size, 0, none⟩ (.slice p1 i1 k1) = X69 at a1 a2 k8 k9 bX69 ⊢
            refine hK.out _ _ (by exact below_cell (by assumption) C0.out) (fun hHeld => ?_)
            clear hK K; try simp only [Act.put, List.setIfInBounds_toArray, List.set_cons_succ, List.set_cons_zero]
            refine wpAnyH_ready (rs := [13]) (by kernel_rfl) (by simp) ?_
            refine AllReadyH.cons rfl (fun K hK => ?_) AllReadyH.nil
            obtain ⟨v0, f0⟩ := leaf_cell k9
            go_simp
            clear v0 f0
            obtain ⟨a1, a2, k9, k8, bX70⟩ := leaf_set a1 a2 k9 k8 hgk9 (by first | exact hne | exact hne.symm) bX69 (.slice p2 i2 k2)
            generalize World.setCell X69 ⟨X62.heap.size, 0, none⟩ (.slice p2 i2 k2) = X70 at a1 a2 k8 k9 bX70 ⊢
            refine hK.out _ _ (by exact below_cell (by assumption) C0.out) (fun hHeld => ?_)
            clear hK K; try simp only [Act.put, List.setIfInBounds_toArray, List.set_cons_succ, List.set_cons_zero]
            refine wpAnyH_takeD (i := 14) (v := ?_) 10 rfl rfl (by kernel_rfl) (by kernel_rfl) (by kernel_rfl) (fun _ _ _ _ _ h => h) (by rfl) (by assumption) ?_ ?_
            rotate_left; focus (intro w hSw; (try dsimp only at hSw); go_simp; try (with_reducible rfl))
            try simp only [Act.put, List.setIfInBounds_toArray, List.set_cons_succ, List.set_cons_zero]
            refine wpAnyH_done (by kernel_rfl) ?_ _
            clear hHeld
            try go_wp2_with fail
            go_meet
            exact ⟨X.heap.size, X62.heap.size, p1, i1, k1, p2, i2, k2, rfl, rfl, rfl, k8, k9, a1, a2⟩
          ·go_simp
           obtain ⟨X71, hX71⟩ : ∃ X71, X71 = World.alloc X61 (Obj.cells #[.slice none 0 0] 28) := ⟨_, rfl⟩
           rw [← hX71]
           have hbe : Below X61.heap.size X61 X71 := hX71 ▸ ext_alloc (Below.refl _ _) _
           have bX71 := ext_trans bX61 hbe
           have hne : X.heap.size ≠ X61.heap.size := Nat.ne_of_lt k8.lt
           have u1 := u1.later hbe
           have k8 := k8.below hbe k8.lt
           have k9 := Blk.new X61 28 #[.slice none 0 0]
           rw [← hX71] at k9
           have hgk9 : w3.heap.size ≤ X61.heap.size := bX61.size
           clear hX71 hbe
           refine hK.out _ _ (by exact below_cell (by assumption) C0.out) (fun hHeld => ?_)
           clear hK K; try simp only [Act.put, List.setIfInBounds_toArray, List.set_cons_succ, List.set_cons_zero]
           refine wpAnyH_ready (rs := [3]) (by kernel_rfl) (by simp) ?_
           refine AllReadyH.cons rfl (fun K hK => ?_) AllReadyH.nil
           go_simp; (go_at_call 9; refine (toAmount_any D m k _ zs X71 (RD3.out.below (bX71.mono HZ3.out)) (Nat.le_trans HZ3.out bX71.size) m2).mono ?_; rintro e X72 ⟨D1, d1, rfl, v1⟩); (try dsimp only)
           have hbe := v1.ext
           have bX72 := ext_trans bX71 hbe
           have u1 := u1.later hbe
           have k8 := k8.below hbe k8.lt
           have k9 := k9.below hbe k9.lt
           clear hbe
           refine hK.out _ _ (by exact below_cell (by assumption) C0.out) (fun hHeld => ?_)
           clear hK K; try simp only [Act.put, List.setIfInBounds_toArray, List.set_cons_succ, List.set_cons_zero]
           refine wpAnyH_ready (rs := [5]) (by kernel_rfl) (by simp) ?_
           refine AllReadyH.cons rfl (fun K hK => ?_) AllReadyH.nil
           have hcc := own_cap u1.own
           go_simp; (go_at_call 7; refine (CS.out A1 c1 _ D1 d1 _ X72 u1.reads (Nat.le_refl _) v1.reads (Nat.le_refl _)).mono ?_; rintro e X73 ⟨p1, i1, k1, p2, i2, k2, rfl, q⟩); (try dsimp only)
           have hbe := q.one.ext
           have bX73 := ext_trans bX72 hbe
           have a1 := q.one.since bX72
           have a2 := q.two.since bX72
           have k8 := k8.below hbe k8.lt
           have k9 := k9.below hbe k9.lt
           clear hbe q u1 v1 hcc
           refine hK.out _ _ (by exact below_cell (by assumption) C0.out) (fun hHeld => ?_)
           clear hK K; try simp only [Act.put, List.setIfInBounds_toArray, List.set_cons_succ, List.set_cons_zero]
           refine wpAnyH_takeD (i := 6) (v := ?_) 32 rfl rfl (by kernel_rfl) (by kernel_rfl) (by kernel_rfl) (fun _ _ _ _ _ h => h) (by rfl) (by assumption) ?_ ?_
           rotate_left; focus (intro w hSw; (try dsimp only at hSw); go_simp; try (with_reducible rfl))
           try simp only [Act.put, List.setIfInBounds_toArray, List.set_cons_succ, List.set_cons_zero]
           refine wpAnyH_takeD (i := 7) (v := ?_) 39 rfl rfl (by kernel_rfl) (by kernel_rfl) (by kernel_rfl) (fun _ _ _ _ _ h => h) (by rfl) (by assumption) ?_ ?_
           rotate_left; focus (intro w hSw; (try dsimp only at hSw); go_simp; try (with_reducible rfl))
           try simp only [Act.put, List.setIfInBounds_toArray, List.set_cons_succ, List.set_cons_zero]
           refine wpAnyH_takeD (i := 8) (v := ?_) 40 rfl rfl (by kernel_rfl) (by kernel_rfl) (by kernel_rfl) (fun _ _ _ _ _ h => h) (by rfl) (by assumption) ?_ ?_
           rotate_left; focus (intro w hSw; (try dsimp only at hSw); go_simp; try (with_reducible rfl))
           try simp only [Act.put, List.setIfInBounds_toArray, List.set_cons_succ, List.set_cons_zero]
           refine wpAnyH_takeD (i := 9) (v := ?_) 41 rfl rfl (by kernel_rfl) (by kernel_rfl) (by kernel_rfl) (fun _ _ _ _ _ h => h) (by rfl) (by assumption) ?_ ?_
           rotate_left; focus (intro w hSw; (try dsimp only at hSw); go_simp; try (with_reducible rfl))
           try simp only [Act.put, List.setIfInBounds_toArray, List.set_cons_succ, List.set_cons_zero]
           refine wpAnyH_ready (rs := [12]) (by kernel_rfl) (by simp) ?_
           refine AllReadyH.cons rfl (fun K hK => ?_) AllReadyH.nil
           obtain ⟨v0, f0⟩ := leaf_cell k8
           go_simp
           clear v0 f0
           obtain ⟨a1, a2, k8, k9, bX74⟩ := leaf_set a1 a2 k8 k9 hgk8 (by first | exact hne | exact hne.symm) bX73 (.slice p1 i1 k1)
           generalize World.setCell X73 ⟨X.heap.size, 0, none⟩ (.slice p1 i1 k1) = X74 at a1 a2 k8 k9 bX74 ⊢
           refine hK.out _ _ (by exact below_cell (by assumption) C0.out) (fun hHeld => ?_)
           clear hK K; try simp only [Act.put, List.setIfInBounds_toArray, List.set_cons_succ, List.set_cons_zero]
           refine wpAnyH_ready (rs := [13]) (by kernel_rfl) (by simp) ?_
           refine AllReadyH.cons rfl (fun K hK => ?_) AllReadyH.nil
           obtain ⟨v0, f0⟩ := leaf_cell k9
           go_simp
           clear v0 f0
           obtain ⟨a1, a2, k9, k8, bX75⟩ := leaf_set a1 a2 k9 k8 hgk9 (by first | exact hne | exact hne.symm) bX74 (.slice p2 i2 k2)
           generalize World.setCell X74 ⟨X61.heap.size, 0, none⟩ (.slice p2 i2 k2) = X75 at a1 a2 k8 k9 bX75 ⊢
           refine hK.out _ _ (by exact below_cell (by assumption) C0.out) (fun hHeld => ?_)
           clear hK K; try simp only [Act.put, List.setIfInBounds_toArray, List.set_cons_succ, List.set_cons_zero]
           refine wpAnyH_takeD (i := 14) (v := ?_) 10 rfl rfl (by kernel_rfl) (by kernel_rfl) (by kernel_rfl) (fun _ _ _ _ _ h => h) (by rfl) (by assumption) ?_ ?_
           rotate_left; focus (intro w hSw; (try dsimp only at hSw); go_simp; try (with_reducible rfl))
           try simp only [Act.put, List.setIfInBounds_toArray, List.set_cons_succ, List.set_cons_zero]
           refine wpAnyH_done (by kernel_rfl) ?_ _
           clear hHeld
           try go_wp2_with fail
           go_meet
           exact ⟨X.heap.size, X61.heap.size, p1, i1, k1, p2, i2, k2, rfl, rfl, rfl, k8, k9, a1, a2⟩
         ·go_simp
          obtain ⟨X76, hX76⟩ : ∃ X76, X76 = World.alloc X60 (Obj.cells #[.slice none 0 0] 28) := ⟨_, rfl⟩
          rw [← hX76]
          have hbe : Below X60.heap.size X60 X76 := hX76 ▸ ext_alloc (Below.refl _ _) _
          have bX76 := ext_trans bX60 hbe
          have hne : X.heap.size ≠ X60.heap.size := Nat.ne_of_lt k8.lt
          have k8 := k8.below hbe k8.lt
          have k9 := Blk.new X60 28 #[.slice none 0 0]
          rw [← hX76] at k9
          have hgk9 : w3.heap.size ≤ X60.heap.size := bX60.size
          clear hX76 hbe
          refine hK.out _ _ (by exact below_cell (by assumption) C0.out) (fun hHeld => ?_)
          clear hK K; try simp only [Act.put, List.setIfInBounds_toArray, List.set_cons_succ, List.set_cons_zero]
          refine wpAnyH_ready (rs := [1]) (by kernel_rfl) (by simp) ?_
          refine AllReadyH.cons rfl (fun K hK => ?_) AllReadyH.nil
          go_simp; (go_at_call 8; refine (toUnitS_any A n c _ us X76 (RA3.out.below (bX76.mono HZ3.out)) (Nat.le_trans HZ3.out bX76.size) n2).mono ?_; rintro e X77 ⟨A1, c1, rfl, u1⟩); (try dsimp only)
          have hbe := u1.ext
          have bX77 := ext_trans bX76 hbe
          have k8 := k8.below hbe k8.lt
          have k9 := k9.below hbe k9.lt
          clear hbe
          refine hK.out _ _ (by exact below_cell (by assumption) C0.out) (fun hHeld => ?_)
          clear hK K; try simp only [Act.put, List.setIfInBounds_toArray, List.set_cons_succ, List.set_cons_zero]
          refine wpAnyH_ready (rs := [3]) (by kernel_rfl) (by simp) ?_
          refine AllReadyH.cons rfl (fun K hK => ?_) AllReadyH.nil
          go_simp; (go_at_call 9; refine (toAmount_any D m k _ zs X77 (RD3.out.below (bX77.mono HZ3.out)) (Nat.le_trans HZ3.out bX77.size) m2).mono ?_; rintro e X78 ⟨D1, d1, rfl, v1⟩); (try dsimp only)
          have hbe := v1.ext
          have bX78 := ext_trans bX77 hbe
          have u1 := u1.later hbe
          have k8 := k8.below hbe k8.lt
          have k9 := k9.below hbe k9.lt
          clear hbe
          refine hK.out _ _ (by exact below_cell (by assumption) C0.out) (fun hHeld => ?_)
          clear hK K; try simp only [Act.put, List.setIfInBounds_toArray, List.set_cons_succ, List.set_cons_zero]
          refine wpAnyH_ready (rs := [5]) (by kernel_rfl) (by simp) ?_
          refine AllReadyH.cons rfl (fun K hK => ?_) AllReadyH.nil
          have hcc := own_cap u1.own
          go_simp; (go_at_call 7; refine (CS.out A1 c1 _ D1 d1 _ X78 u1.reads (Nat.le_refl _) v1.reads (Nat.le_refl _)).mono ?_; rintro e X79 ⟨p1, i1, k1, p2, i2, k2, rfl, q⟩); (try dsimp only)
          have hbe := q.one.ext
          have bX79 := ext_trans bX78 hbe
          have a1 := q.one.since bX78
          have a2 := q.two.since bX78
          have k8 := k8.below hbe k8.lt
          have k9 := k9.below hbe k9.lt
          clear hbe q u1 v1 hcc
          refine hK.out _ _ (by exact below_cell (by assumption) C0.out) (fun hHeld => ?_)
          clear hK K; try simp only [Act.put, List.setIfInBounds_toArray, List.set_cons_succ, List.set_cons_zero]
          refine wpAnyH_takeD (i := 6) (v := ?_) 32 rfl rfl (by kernel_rfl) (by kernel_rfl) (by kernel_rfl) (fun _ _ _ _ _ h => h) (by rfl) (by assumption) ?_ ?_
          rotate_left; focus (intro w hSw; (try dsimp only at hSw); go_simp; try (with_reducible rfl))
          try simp only [Act.put, List.setIfInBounds_toArray, List.set_cons_succ, List.set_cons_zero]
          refine wpAnyH_takeD (i := 7) (v := ?_) 39 rfl rfl (by kernel_rfl) (by kernel_rfl) (by kernel_rfl) (fun _ _ _ _ _ h => h) (by rfl) (by assumption) ?_ ?_
          rotate_left; focus (intro w hSw; (try dsimp only at hSw); go_simp; try (with_reducible rfl))
          try simp only [Act.put, List.setIfInBounds_toArray, List.set_cons_succ, List.set_cons_zero]
          refine wpAnyH_takeD (i := 8) (v := ?_) 40 rfl rfl (by kernel_rfl) (by kernel_rfl) (by kernel_rfl) (fun _ _ _ _ _ h => h) (by rfl) (by assumption) ?_ ?_
          rotate_left; focus (intro w hSw; (try dsimp only at hSw); go_simp; try (with_reducible rfl))
          try simp only [Act.put, List.setIfInBounds_toArray, List.set_cons_succ, List.set_cons_zero]
          refine wpAnyH_takeD (i := 9) (v := ?_) 41 rfl rfl (by kernel_rfl) (by kernel_rfl) (by kernel_rfl) (fun _ _ _ _ _ h => h) (by rfl) (by assumption) ?_ ?_
          rotate_left; focus (intro w hSw; (try dsimp only at hSw); go_simp; try (with_reducible rfl))
          try simp only [Act.put, List.setIfInBounds_toArray, List.set_cons_succ, List.set_cons_zero]
          refine wpAnyH_ready (rs := [12]) (by kernel_rfl) (by simp) ?_
          refine AllReadyH.cons rfl (fun K hK => ?_) AllReadyH.nil
          obtain ⟨v0, f0⟩ := leaf_cell k8
          go_simp
          clear v0 f0
          obtain ⟨a1, a2, k8, k9, bX80⟩ := leaf_set a1 a2 k8 k9 hgk8 (by first | exact hne | exact hne.symm) bX79 (.slice p1 i1 k1)
          generalize World.setCell X79 ⟨X.heap.size, 0, none⟩ (.slice p1 i1 k1) = X80 at a1 a2 k8 k9 bX80 ⊢
          refine hK.out _ _ (by exact below_cell (by assumption) C0.out) (fun hHeld => ?_)
          clear hK K; try simp only [Act.put, List.setIfInBounds_toArray, List.set_cons_succ, List.set_cons_zero]
          refine wpAnyH_ready (rs := [13]) (by kernel_rfl) (by simp) ?_
          refine AllReadyH.cons rfl (fun K hK => ?_) AllReadyH.nil
          obtain ⟨v0, f0⟩ := leaf_cell k9
          go_simp
          clear v0 f0
          obtain ⟨a1, a2, k9, k8, bX81⟩ := leaf_set a1 a2 k9 k8 hgk9 (by first | exact hne | exact hne.symm) bX80 (.slice p2 i2 k2)
          generalize World.setCell X80 ⟨X60.heap.size, 0, none⟩ (.slice p2 i2 k2) = X81 at a1 a2 k8 k9 bX81 ⊢
          refine hK.out _ _ (by exact below_cell (by assumption) C0.out) (fun hHeld => ?_)
          clear hK K; try simp only [Act.put, List.setIfInBounds_toArray, List.set_cons_succ, List.set_cons_zero]
          refine wpAnyH_takeD (i := 14) (v := ?_) 10 rfl rfl (by kernel_rfl) (by kernel_rfl) (by kernel_rfl) (fun _ _ _ _ _ h => h) (by rfl) (by assumption) ?_ ?_
          rotate_left; focus (intro w hSw; (try dsimp only at hSw); go_simp; try (with_reducible rfl))
          try simp only [Act.put, List.setIfInBounds_toArray, List.set_cons_succ, List.set_cons_zero]
          refine wpAnyH_done (by kernel_rfl) ?_ _
          clear hHeld
          try go_wp2_with fail
          go_meet
          exact ⟨X.heap.size, X60.heap.size, p1, i1, k1, p2, i2, k2, rfl, rfl, rfl, k8, k9, a1, a2⟩
        ·go_simp
         obtain ⟨X82, hX82⟩ : ∃ X82, X82 = World.alloc X (Obj.cells #[.slice none 0 0] 28) := ⟨_, rfl⟩
         rw [← hX82]
         have hbe : Below X.heap.size X X82 := hX82 ▸ ext_alloc (Below.refl _ _) _
         have bX82 := ext_trans bX hbe
         have k9 := Blk.new X 28 #[.slice none 0 0]
         rw [← hX82] at k9
         have hgk9 : w3.heap.size ≤ X.heap.size := bX.size
         clear hX82 hbe
         refine hK.out _ _ (by exact below_cell (by assumption) C0.out) (fun hHeld => ?_)
         clear hK K; try simp only [Act.put, List.setIfInBounds_toArray, List.set_cons_succ, List.set_cons_zero]
         refine wpAnyH_ready (rs := [1, 10]) (by kernel_rfl) (by simp) ?_
         refine AllReadyH.cons rfl (fun K hK => ?_) (AllReadyH.cons rfl (fun K hK => ?_) AllReadyH.nil)
         ·go_simp; (go_at_call 8; refine (toUnitS_any A n c _ us X82 (RA3.out.below (bX82.mono HZ3.out)) (Nat.le_trans HZ3.out bX82.size) n2).mono ?_; rintro e X83 ⟨A1, c1, rfl, u1⟩); (try dsimp only)
          have hbe := u1.ext
          have bX83 := ext_trans bX82 hbe
          have k9 := k9.below hbe k9.lt
          clear hbe
          refine hK.out _ _ (by exact below_cell (by assumption) C0.out) (fun hHeld => ?_)
          clear hK K; try simp only [Act.put, List.setIfInBounds_toArray, List.set_cons_succ, List.set_cons_zero]
          refine wpAnyH_ready (rs := [3, 10]) (by kernel_rfl) (by simp) ?_
          refine AllReadyH.cons rfl (fun K hK => ?_) (AllReadyH.cons rfl (fun K hK => ?_) AllReadyH.nil)
          ·go_simp; (go_at_call 9; refine (toAmount_any D m k _ zs X83 (RD3.out.below (bX83.mono HZ3.out)) (Nat.le_trans HZ3.out bX83.size) m2).mono ?_; rintro e X84 ⟨D1, d1, rfl, v1⟩); (try dsimp only)
           have hbe := v1.ext
           have bX84 := ext_trans bX83 hbe
           have u1 := u1.later hbe
           have k9 := k9.below hbe k9.lt
           clear hbe
           refine hK.out _ _ (by exact below_cell (by assumption) C0.out) (fun hHeld => ?_)
           clear hK K; try simp only [Act.put, List.setIfInBounds_toArray, List.set_cons_succ, List.set_cons_zero]
           refine wpAnyH_ready (rs := [5, 10]) (by kernel_rfl) (by simp) ?_
           refine AllReadyH.cons rfl (fun K hK => ?_) (AllReadyH.cons rfl (fun K hK => ?_) AllReadyH.nil)
           ·have hcc := own_cap u1.own
            go_simp; (go_at_call 7; refine (CS.out A1 c1 _ D1 d1 _ X84 u1.reads (Nat.le_refl _) v1.reads (Nat.le_refl _)).mono ?_; rintro e X85 ⟨p1, i1, k1, p2, i2, k2, rfl, q⟩); (try dsimp only)
            have hbe := q.one.ext
            have bX85 := ext_trans bX84 hbe
            have a1 := q.one.since bX84
            have a2 := q.two.since bX84
            have k9 := k9.below hbe k9.lt
            clear hbe q u1 v1 hcc
            refine hK.out _ _ (by exact below_cell (by assumption) C0.out) (fun hHeld => ?_)
            clear hK K; try simp only [Act.put, List.setIfInBounds_toArray, List.set_cons_succ, List.set_cons_zero]
            refine wpAnyH_takeD (i := 6) (v := ?_) 32 rfl rfl (by kernel_rfl) (by kernel_rfl) (by kernel_rfl) (fun _ _ _ _ _ h => h) (by rfl) (by assumption) ?_ ?_
            rotate_left; focus (intro w hSw; (try dsimp only at hSw); go_simp; try (with_reducible rfl))
            try simp only [Act.put, List.setIfInBounds_toArray, List.set_cons_succ, List.set_cons_zero]
            refine wpAnyH_takeD (i := 7) (v := ?_) 39 rfl rfl (by kernel_rfl) (by kernel_rfl) (by kernel_rfl) (fun _ _ _ _ _ h => h) (by rfl) (by assumption) ?_ ?_
            rotate_left; focus (intro w hSw; (try dsimp only at hSw); go_simp; try (with_reducible rfl))
            try simp only [Act.put, List.setIfInBounds_toArray, List.set_cons_succ, List.set_cons_zero]
            refine wpAnyH_takeD (i := 8) (v := ?_) 40 rfl rfl (by kernel_rfl) (by kernel_rfl) (by kernel_rfl) (fun _ _ _ _ _ h => h) (by rfl) (by assumption) ?_ ?_
            rotate_left; focus (intro w hSw; (try dsimp only at hSw); go_simp; try (with_reducible rfl))
            try simp only [Act.put, List.setIfInBounds_toArray, List.set_cons_succ, List.set_cons_zero]
            refine wpAnyH_takeD (i := 9) (v := ?_) 41 rfl rfl (by kernel_rfl) (by kernel_rfl) (by kernel_rfl) (fun _ _ _ _ _ h => h) (by rfl) (by assumption) ?_ ?_
            rotate_left; focus (intro w hSw; (try dsimp only at hSw); go_simp; try (with_reducible rfl))
            try simp only [Act.put, List.setIfInBounds_toArray, List.set_cons_succ, List.set_cons_zero]
            refine wpAnyH_ready (rs := [10]) (by kernel_rfl) (by simp) ?_
            refine AllReadyH.cons rfl (fun K hK => ?_) AllReadyH.nil
            go_simp
            obtain ⟨X86, hX86⟩ : ∃ X86, X86 = World.alloc X85 (Obj.cells #[.slice none 0 0] 28) := ⟨_, rfl⟩
            rw [← hX86]
            have hbe : Below X85.heap.size X85 X86 := hX86 ▸ ext_alloc (Below.refl _ _) _
            have bX86 := ext_trans bX85 hbe
            have hne : X.heap.size ≠ X85.heap.size := Nat.ne_of_lt k9.lt
            have a1 := a1.later hbe
            have a2 := a2.later hbe
            have k9 := k9.below hbe k9.lt
            have k8 := Blk.new X85 28 #[.slice none 0 0]
            rw [← hX86] at k8
            have hgk8 : w3.heap.size ≤ X85.heap.size := bX85.size
            clear hX86 hbe
            refine hK.out _ _ (by exact below_cell (by assumption) C0.out) (fun hHeld => ?_)
            clear hK K; try simp only [Act.put, List.setIfInBounds_toArray, List.set_cons_succ, List.set_cons_zero]
            refine wpAnyH_ready (rs := [12]) (by kernel_rfl) (by simp) ?_
            refine AllReadyH.cons rfl (fun K hK => ?_) AllReadyH.nil
            obtain ⟨v0, f0⟩ := leaf_cell k8
            go_simp
            clear v0 f0
            obtain ⟨a1, a2, k8, k9, bX87⟩ := leaf_set a1 a2 k8 k9 hgk8 (by first | exact hne | exact hne.symm) bX86 (.slice p1 i1 k1)
            generalize World.setCell X86 ⟨X85.heap.size, 0, none⟩ (.slice p1 i1 k1) = X87 at a1 a2 k8 k9 bX87 ⊢
            refine hK.out _ _ (by exact below_cell (by assumption) C0.out) (fun hHeld => ?_)
            clear hK K; try simp only [Act.put, List.setIfInBounds_toArray, List.set_cons_succ, List.set_cons_zero]
            refine wpAnyH_ready (rs := [13]) (by kernel_rfl) (by simp) ?_
            refine AllReadyH.cons rfl (fun K hK => ?_) AllReadyH.nil
            obtain ⟨v0, f0⟩ := leaf_cell k9
            go_simp
            clear v0 f0
            obtain ⟨a1, a2, k9, k8, bX88⟩ := leaf_set a1 a2 k9 k8 hgk9 (by first | exact hne | exact hne.symm) bX87 (.slice p2 i2 k2)
            generalize World.setCell X87 ⟨X.heap.size, 0, none⟩ (.slice p2 i2 k2) = X88 at a1 a2 k8 k9 bX88 ⊢
            refine hK.out _ _ (by exact below_cell (by assumption) C0.out) (fun hHeld => ?_)
            clear hK K; try simp only [Act.put, List.setIfInBounds_toArray, List.set_cons_succ, List.set_cons_zero]
            refine wpAnyH_takeD (i := 14) (v := ?_) 10 rfl rfl (by kernel_rfl) (by kernel_rfl) (by kernel_rfl) (fun _ _ _ _ _ h => h) (by rfl) (by assumption) ?_ ?_
            rotate_left; focus (intro w hSw; (try dsimp only at hSw); go_simp; try (with_reducible rfl))
            try simp only [Act.put, List.setIfInBounds_toArray, List.set_cons_succ, List.set_cons_zero]
            refine wpAnyH_done (by kernel_rfl) ?_ _
            clear hHeld
            try go_wp2_with fail
            go_meet
            exact ⟨X85.heap.size, X.heap.size, p1, i1, k1, p2, i2, k2, rfl, rfl, rfl, k8, k9, a1, a2⟩
           ·go_simp
            obtain ⟨X89, hX89⟩ : ∃ X89, X89 = World.alloc X84 (Obj.cells #[.slice none 0 0] 28) := ⟨_, rfl⟩
            rw [← hX89]
            have hbe : Below X84.heap.size X84 X89 := hX89 ▸ ext_alloc (Below.refl _ _) _
            have bX89 := ext_trans bX84 hbe
            have hne : X.heap.size ≠ X84.heap.size := Nat.ne_of_lt k9.lt
            have u1 := u1.later hbe
            have v1 := v1.later hbe
            have k9 := k9.below hbe k9.lt
            have k8 := Blk.new X84 28 #[.slice none 0 0]
            rw [← hX89] at k8
            have hgk8 : w3.heap.size ≤ X84.heap.size := bX84.size
            clear hX89 hbe
            refine hK.out _ _ (by exact below_cell (by assumption) C0.out) (fun hHeld => ?_)
            clear hK K; try simp only [Act.put, List.setIfInBounds_toArray, List.set_cons_succ, List.set_cons_zero]
            refine wpAnyH_ready (rs := [5]) (by kernel_rfl) (by simp) ?_
            refine AllReadyH.cons rfl (fun K hK => ?_) AllReadyH.nil
            have hcc := own_cap u1.own
            go_simp; (go_at_call 7; refine (CS.out A1 c1 _ D1 d1 _ X89 u1.reads (Nat.le_refl _) v1.reads (Nat.le_refl _)).mono ?_; rintro e X90 ⟨p1, i1, k1, p2, i2, k2, rfl, q⟩); (try dsimp only)
            have hbe := q.one.ext
            have bX90 := ext_trans bX89 hbe
            have a1 := q.one.since bX89
            have a2 := q.two.since bX89
            have k8 := k8.below hbe k8.lt
            have k9 := k9.below hbe k9.lt
            clear hbe q u1 v1 hcc
            refine hK.out _ _ (by exact below_cell (by assumption) C0.out) (fun hHeld => ?_)
            clear hK K; try simp only [Act.put, List.setIfInBounds_toArray, List.set_cons_succ, List.set_cons_zero]
            refine wpAnyH_takeD (i := 6) (v := ?_) 32 rfl rfl (by kernel_rfl) (by kernel_rfl) (by kernel_rfl) (fun _ _ _ _ _ h => h) (by rfl) (by assumption) ?_ ?_
            rotate_left; focus (intro w hSw; (try dsimp only at hSw); go_simp; try (with_reducible rfl))
            try simp only [Act.put, List.setIfInBounds_toArray, List.set_cons_succ, List.set_cons_zero]
            refine wpAnyH_takeD (i := 7) (v := ?_) 39 rfl rfl (by kernel_rfl) (by kernel_rfl) (by kernel_rfl) (fun _ _ _ _ _ h => h) (by rfl) (by assumption) ?_ ?_
            rotate_left; focus (intro w hSw; (try dsimp only at hSw); go_simp; try (with_reducible rfl))
            try simp only [Act.put, List.setIfInBounds_toArray, List.set_cons_succ, List.set_cons_zero]
            refine wpAnyH_takeD (i := 8) (v := ?_) 40 rfl rfl (by kernel_rfl) (by kernel_rfl) (by kernel_rfl) (fun _ _ _ _ _ h => h) (by rfl) (by assumption) ?_ ?_
            rotate_left; focus (intro w hSw; (try dsimp only at hSw); go_simp; try (with_reducible rfl))
            try simp only [Act.put, List.setIfInBounds_toArray, List.set_cons_succ, List.set_cons_zero]
            refine wpAnyH_takeD (i := 9) (v := ?_) 41 rfl rfl (by kernel_rfl) (by kernel_rfl) (by kernel_rfl) (fun _ _ _ _ _ h => h) (by rfl) (by assumption) ?_ ?_
            rotate_left; focus (intro w hSw; (try dsimp only at hSw); go_simp; try (with_reducible rfl))
            try simp only [Act.put, List.setIfInBounds_toArray, List.set_cons_succ, List.set_cons_zero]
            refine wpAnyH_ready (rs := [12]) (by kernel_rfl) (by simp) ?_
            refine AllReadyH.cons rfl (fun K hK => ?_) AllReadyH.nil
            obtain ⟨v0, f0⟩ := leaf_cell k8
            go_simp
            clear v0 f0
            obtain ⟨a1, a2, k8, k9, bX91⟩ := leaf_set a1 a2 k8 k9 hgk8 (by first | exact hne | exact hne.symm) bX90 (.slice p1 i1 k1)
            generalize World.setCell X90 ⟨X84.heap.size, 0, none⟩ (.slice p1 i1 k1) = X91 at a1 a2 k8 k9 bX91 ⊢
            refine hK.out _ _ (by exact below_cell (by assumption) C0.out) (fun hHeld => ?_)
            clear hK K; try simp only [Act.put, List.setIfInBounds_toArray, List.set_cons_succ, List.set_cons_zero]
            refine wpAnyH_ready (rs := [13]) (by kernel_rfl) (by simp) ?_
            refine AllReadyH.cons rfl (fun K hK => ?_) AllReadyH.nil
            obtain ⟨v0, f0⟩ := leaf_cell k9
            go_simp
            clear v0 f0
            obtain ⟨a1, a2, k9, k8, bX92⟩ := leaf_set a1 a2 k9 k8 hgk9 (by first | exact hne | exact hne.symm) bX91 (.slice p2 i2 k2)
            generalize World.setCell X91 ⟨X.heap.size, 0, none⟩ (.slice p2 i2 k2) = X92 at a1 a2 k8 k9 bX92 ⊢
            refine hK.out _ _ (by exact below_cell (by assumption) C0.out) (fun hHeld => ?_)
            clear hK K; try simp only [Act.put, List.setIfInBounds_toArray, List.set_cons_succ, List.set_cons_zero]
            refine wpAnyH_takeD (i := 14) (v := ?_) 10 rfl rfl (by kernel_rfl) (by kernel_rfl) (by kernel_rfl) (fun _ _ _ _ _ h => h) (by rfl) (by assumption) ?_ ?_
            rotate_left; focus (intro w hSw; (try dsimp only at hSw); go_simp; try (with_reducible rfl))
            try simp only [Act.put, List.setIfInBounds_toArray, List.set_cons_succ, List.set_cons_zero]
            refine wpAnyH_done (by kernel_rfl) ?_ _
            clear hHeld
            try go_wp2_with fail
            go_meet
            exact ⟨X84.heap.size, X.heap.size, p1, i1, k1, p2, i2, k2, rfl, rfl, rfl, k8, k9, a1, a2⟩
          ·go_simp
           obtain ⟨X93, hX93⟩ : ∃ X93, X93 = World.alloc X83 (Obj.cells #[.slice none 0 0] 28) := ⟨_, rfl⟩
           rw [← hX93]
           have hbe : Below X83.heap.size X83 X93 := hX93 ▸ ext_alloc (Below.refl _ _) _
           have bX93 := ext_trans bX83 hbe
           have hne : X.heap.size ≠ X83.heap.size := Nat.ne_of_lt k9.lt
           have u1 := u1.later hbe
           have k9 := k9.below hbe k9.lt
           have k8 := Blk.new X83 28 #[.slice none 0 0]
           rw [← hX93] at k8
           have hgk8 : w3.heap.size ≤ X83.heap.size := bX83.size
           clear hX93 hbe
           refine hK.out _ _ (by exact below_cell (by assumption) C0.out) (fun hHeld => ?_)
           clear hK K; try simp only [Act.put, List.setIfInBounds_toArray, List.set_cons_succ, List.set_cons_zero]
           refine wpAnyH_ready (rs := [3]) (by kernel_rfl) (by simp) ?_
           refine AllReadyH.cons rfl (fun K hK => ?_) AllReadyH.nil
           go_simp; (go_at_call 9; refine (toAmount_any D m k _ zs X93 (RD3.out.below (bX93.mono HZ3.out)) (Nat.le_trans HZ3.out bX93.size) m2).mono ?_; rintro e X94 ⟨D1, d1, rfl, v1⟩); (try dsimp only)
           have hbe := v1.ext
           have bX94 := ext_trans bX93 hbe
           have u1 := u1.later hbe
           have k8 := k8.below hbe k8.lt
           have k9 := k9.below hbe k9.lt
           clear hbe
           refine hK.out _ _ (by exact below_cell (by assumption) C0.out) (fun hHeld => ?_)
           clear hK K; try simp only [Act.put, List.setIfInBounds_toArray, List.set_cons_succ, List.set_cons_zero]
           refine wpAnyH_ready (rs := [5]) (by kernel_rfl) (by simp) ?_
           refine AllReadyH.cons rfl (fun K hK => ?_) AllReadyH.nil
           have hcc := own_cap u1.own
           go_simp; (go_at_call 7; refine (CS.out A1 c1 _ D1 d1 _ X94 u1.reads (Nat.le_refl _) v1.reads (Nat.le_refl _)).mono ?_; rintro e X95 ⟨p1, i1, k1, p2, i2, k2, rfl, q⟩); (try dsimp only)
           have hbe := q.one.ext
           have bX95 := ext_trans bX94 hbe
           have a1 := q.one.since bX94
           have a2 := q.two.since bX94
           have k8 := k8.below hbe k8.lt
           have k9 := k9.below hbe k9.lt
           clear hbe q u1 v1 hcc
           refine hK.out _ _ (by exact below_cell (by assumption) C0.out) (fun hHeld => ?_)
           clear hK K; try simp only [Act.put, List.setIfInBounds_toArray, List.set_cons_succ, List.set_cons_zero]
           refine wpAnyH_takeD (i := 6) (v := ?_) 32 rfl rfl (by kernel_rfl) (by kernel_rfl) (by kernel_rfl) (fun _ _ _ _ _ h => h) (by rfl) (by assumption) ?_ ?_
           rotate_left; focus (intro w hSw; (try dsimp only at hSw); go_simp; try (with_reducible rfl))
           try simp only [Act.put, List.setIfInBounds_toArray, List.set_cons_succ, List.set_cons_zero]
           refine wpAnyH_takeD (i := 7) (v := ?_) 39 rfl rfl (by kernel_rfl) (by kernel_rfl) (by kernel_rfl) (fun _ _ _ _ _ h => h) (by rfl) (by assumption) ?_ ?_
           rotate_left; focus (intro w hSw; (try dsimp only at hSw); go_simp; try (with_reducible rfl))
           try simp only [Act.put, List.setIfInBounds_toArray, List.set_cons_succ, List.set_cons_zero]
           refine wpAnyH_takeD (i := 8) (v := ?_) 40 rfl rfl (by kernel_rfl) (by kernel_rfl) (by kernel_rfl) (fun _ _ _ _ _ h => h) (by rfl) (by assumption) ?_ ?_
           rotate_left; focus (intro w hSw; (try dsimp only at hSw); go_simp; try (with_reducible rfl))
           try simp only [Act.put, List.setIfInBounds_toArray, List.set_cons_succ, List.set_cons_zero]
           refine wpAnyH_takeD (i := 9) (v := ?_) 41 rfl rfl (by kernel_rfl) (by kernel_rfl) (by kernel_rfl) (fun _ _ _ _ _ h => h) (by rfl) (by assumption) ?_ ?_
           rotate_left; focus (intro w hSw; (try dsimp only at hSw); go_simp; try (with_reducible rfl))
           try simp only [Act.put, List.setIfInBounds_toArray, List.set_cons_succ, List.set_cons_zero]
           refine wpAnyH_ready (rs := [12]) (by kernel_rfl) (by simp) ?_
           refine AllReadyH.cons rfl (fun K hK => ?_) AllReadyH.nil
           obtain ⟨v0, f0⟩ := leaf_cell k8
           go_simp
           clear v0 f0
           obtain ⟨a1, a2, k8, k9, bX96⟩ := leaf_set a1 a2 k8 k9 hgk8 (by first | exact hne | exact hne.symm) bX95 (.slice p1 i1 k1)
           generalize World.setCell X95 ⟨X83.heap.size, 0, none⟩ (.slice p1 i1 k1) = X96 at a1 a2 k8 k9 bX96 ⊢
           refine hK.out _ _ (by exact below_cell (by assumption) C0.out) (fun hHeld => ?_)
           clear hK K; try simp only [Act.put, List.setIfInBounds_toArray, List.set_cons_succ, List.set_cons_zero]
           refine wpAnyH_ready (rs := [13]) (by kernel_rfl) (by simp) ?_
           refine AllReadyH.cons rfl (fun K hK => ?_) AllReadyH.nil
           obtain ⟨v0, f0⟩ := leaf_cell k9
           go_simp
           clear v0 f0
           obtain ⟨a1, a2, k9, k8, bX97⟩ := leaf_set a1 a2 k9 k8 hgk9 (by first | exact hne | exact hne.symm) bX96 (.slice p2 i2 k2)
           generalize World.setCell X96 ⟨X.heap.size, 0, none⟩ (.slice p2 i2 k2) = X97 at a1 a2 k8 k9 bX97 ⊢
           refine hK.out _ _ (by exact below_cell (by assumption) C0.out) (fun hHeld => ?_)
           clear hK K; try simp only [Act.put, List.setIfInBounds_toArray, List.set_cons_succ, List.set_cons_zero]
           refine wpAnyH_takeD (i := 14) (v := ?_) 10 rfl rfl (by kernel_rfl) (by kernel_rfl) (by kernel_rfl) (fun _ _ _ _ _ h => h) (by rfl) (by assumption) ?_ ?_
           rotate_left; focus (intro w hSw; (try dsimp only at hSw); go_simp; try (with_reducible rfl))
           try simp only [Act.put, List.setIfInBounds_toArray, List.set_cons_succ, List.set_cons_zero]
           refine wpAnyH_done (by kernel_rfl) ?_ _
           clear hHeld
           try go_wp2_with fail
           go_meet
           exact ⟨X83.heap.size, X.heap.size, p1, i1, k1, p2, i2, k2, rfl, rfl, rfl, k8, k9, a1, a2⟩
         ·go_simp
          obtain ⟨X98, hX98⟩ : ∃ X98, X98 = World.alloc X82 (Obj.cells #[.slice none 0 0] 28) := ⟨_, rfl⟩
          rw [← hX98]
          have hbe : Below X82.heap.size X82 X98 := hX98 ▸ ext_alloc (Below.refl _ _) _
          have bX98 := ext_trans bX82 hbe
          have hne : X.heap.size ≠ X82.heap.size := Nat.ne_of_lt k9.lt
          have k9 := k9.below hbe k9.lt
          have k8 := Blk.new X82 28 #[.slice none 0 0]
          rw [← hX98] at k8
          have hgk8 : w3.heap.size ≤ X82.heap.size := bX82.size
          clear hX98 hbe
          refine hK.out _ _ (by exact below_cell (by assumption) C0.out) (fun hHeld => ?_)
          clear hK K; try simp only [Act.put, List.setIfInBounds_toArray, List.set_cons_succ, List.set_cons_zero]
          refine wpAnyH_ready (rs := [1]) (by kernel_rfl) (by simp) ?_
          refine AllReadyH.cons rfl (fun K hK => ?_) AllReadyH.nil
          go_simp; (go_at_call 8; refine (toUnitS_any A n c _ us X98 (RA3.out.below (bX98.mono HZ3.out)) (Nat.le_trans HZ3.out bX98.size) n2).mono ?_; rintro e X99 ⟨A1, c1, rfl, u1⟩); (try dsimp only)
          have hbe := u1.ext
          have bX99 := ext_trans bX98 hbe
          have k8 := k8.below hbe k8.lt
          have k9 := k9.below hbe k9.lt
          clear hbe
          refine hK.out _ _ (by exact below_cell (by assumption) C0.out) (fun hHeld => ?_)
          clear hK K; try simp only [Act.put, List.setIfInBounds_toArray, List.set_cons_succ, List.set_cons_zero]
          refine wpAnyH_ready (rs := [3]) (by kernel_rfl) (by simp) ?_
          refine AllReadyH.cons rfl (fun K hK => ?_) AllReadyH.nil
          go_simp; (go_at_call 9; refine (toAmount_any D m k _ zs X99 (RD3.out.below (bX99.mono HZ3.out)) (Nat.le_trans HZ3.out bX99.size) m2).mono ?_; rintro e X100 ⟨D1, d1, rfl, v1⟩); (try dsimp only)
          have hbe := v1.ext
          have bX100 := ext_trans bX99 hbe
          have u1 := u1.later hbe
          have k8 := k8.below hbe k8.lt
          have k9 := k9.below hbe k9.lt
          clear hbe
          refine hK.out _ _ (by exact below_cell (by assumption) C0.out) (fun hHeld => ?_)
          clear hK K; try simp only [Act.put, List.setIfInBounds_toArray, List.set_cons_succ, List.set_cons_zero]
          refine wpAnyH_ready (rs := [5]) (by kernel_rfl) (by simp) ?_
          refine AllReadyH.cons rfl (fun K hK => ?_) AllReadyH.nil
          have hcc := own_cap u1.own
          go_simp; (go_at_call 7; refine (CS.out A1 c1 _ D1 d1 _ X100 u1.reads (Nat.le_refl _) v1.reads (Nat.le_refl _)).mono ?_; rintro e X101 ⟨p1, i1, k1, p2, i2, k2, rfl, q⟩); (try dsimp only)
          have hbe := q.one.ext
          have bX101 := ext_trans bX100 hbe
          have a1 := q.one.since bX100
          have a2 := q.two.since bX100
          have k8 := k8.below hbe k8.lt
          have k9 := k9.below hbe k9.lt
          clear hbe q u1 v1 hcc
          refine hK.out _ _ (by exact below_cell (by assumption) C0.out) (fun hHeld => ?_)
          clear hK K; try simp only [Act.put, List.setIfInBounds_toArray, List.set_cons_succ, List.set_cons_zero]
          refine wpAnyH_takeD (i := 6) (v := ?_) 32 rfl rfl (by kernel_rfl) (by kernel_rfl) (by kernel_rfl) (fun _ _ _ _ _ h => h) (by rfl) (by assumption) ?_ ?_
          rotate_left; focus (intro w hSw; (try dsimp only at hSw); go_simp; try (with_reducible rfl))
          try simp only [Act.put, List.setIfInBounds_toArray, List.set_cons_succ, List.set_cons_zero]
          refine wpAnyH_takeD (i := 7) (v := ?_) 39 rfl rfl (by kernel_rfl) (by kernel_rfl) (by kernel_rfl) (fun _ _ _ _ _ h => h) (by rfl) (by assumption) ?_ ?_
          rotate_left; focus (intro w hSw; (try dsimp only at hSw); go_simp; try (with_reducible rfl))
          try simp only [Act.put, List.setIfInBounds_toArray, List.set_cons_succ, List.set_cons_zero]
          refine wpAnyH_takeD (i := 8) (v := ?_) 40 rfl rfl (by kernel_rfl) (by kernel_rfl) (by kernel_rfl) (fun _ _ _ _ _ h => h) (by rfl) (by assumption) ?_ ?_
          rotate_left; focus (intro w hSw; (try dsimp only at hSw); go_simp; try (with_reducible rfl))
          try simp only [Act.put, List.setIfInBounds_toArray, List.set_cons_succ, List.set_cons_zero]
          refine wpAnyH_takeD (i := 9) (v := ?_) 41 rfl rfl (by kernel_rfl) (by kernel_rfl) (by kernel_rfl) (fun _ _ _ _ _ h => h) (by rfl) (by assumption) ?_ ?_
          rotate_left; focus (intro w hSw; (try dsimp only at hSw); go_simp; try (with_reducible rfl))
          try simp only [Act.put, List.setIfInBounds_toArray, List.set_cons_succ, List.set_cons_zero]
          refine wpAnyH_ready (rs := [12]) (by kernel_rfl) (by simp) ?_
          refine AllReadyH.cons rfl (fun K hK => ?_) AllReadyH.nil
          obtain ⟨v0, f0⟩ := leaf_cell k8
          go_simp
          clear v0 f0
          obtain ⟨a1, a2, k8, k9, bX102⟩ := leaf_set a1 a2 k8 k9 hgk8 (by first | exact hne | exact hne.symm) bX101 (.slice p1 i1 k1)
          generalize World.setCell X101 ⟨X82.heap.size, 0, none⟩ (.slice p1 i1 k1) = X102 at a1 a2 k8 k9 bX102 ⊢
          refine hK.out _ _ (by exact below_cell (by assumption) C0.out) (fun hHeld => ?_)
          clear hK K; try simp only [Act.put, List.setIfInBounds_toArray, List.set_cons_succ, List.set_cons_zero]
          refine wpAnyH_ready (rs := [13]) (by kernel_rfl) (by simp) ?_
          refine AllReadyH.cons rfl (fun K hK => ?_) AllReadyH.nil
          obtain ⟨v0, f0⟩ := leaf_cell k9
          go_simp
          clear v0 f0
          obtain ⟨a1, a2, k9, k8, bX103⟩ := leaf_set a1 a2 k9 k8 hgk9 (by first | exact hne | exact hne.symm) bX102 (.slice p2 i2 k2)
          generalize World.setCell X102 ⟨X.heap.size, 0, none⟩ (.slice p2 i2 k2) = X103 at a1 a2 k8 k9 bX103 ⊢
          refine hK.out _ _ (by exact below_cell (by assumption) C0.out) (fun hHeld => ?_)
          clear hK K; try simp only [Act.put, List.setIfInBounds_toArray, List.set_cons_succ, List.set_cons_zero]
          refine wpAnyH_takeD (i := 14) (v := ?_) 10 rfl rfl (by kernel_rfl) (by kernel_rfl) (by kernel_rfl) (fun _ _ _ _ _ h => h) (by rfl) (by assumption) ?_ ?_
          rotate_left; focus (intro w hSw; (try dsimp only at hSw); go_simp; try (with_reducible rfl))
          try simp only [Act.put, List.setIfInBounds_toArray, List.set_cons_succ, List.set_cons_zero]
          refine wpAnyH_done (by kernel_rfl) ?_ _
          clear hHeld
          try go_wp2_with fail
          go_meet
          exact ⟨X82.heap.size, X.heap.size, p1, i1, k1, p2, i2, k2, rfl, rfl, rfl, k8, k9, a1, a2⟩
      case rest =>
        obtain ⟨g1, g2, p1, i1, k1, p2, i2, k2, rfl, rfl, rfl, hk8, hk9, ha1, ha2⟩ := hcut
        have hb3 := ha1.ext
        have l1 := ha1.len
        have l2 := ha2.len
        have HK4 := Lib.hid (HK3.out.below hb3 HK3.out.lt)
        have HB4 := Lib.hid (ext_trans HB3.out hb3)
        have RA4 := Lib.hid (RA3.out.below (hb3.mono HZ3.out))
        have RD4 := Lib.hid (RD3.out.below (hb3.mono HZ3.out))
        have HZ4 := Lib.hid (Nat.le_trans HZ3.out hb3.size)
        have R1 := Lib.hid ha1.reads
        have R2 := Lib.hid ha2.reads
        have K8 := Lib.hid hk8
        have K9 := Lib.hid hk9
        clear ha1 ha2 hk8 hk9 hb3 HK3 HB3 RA3 RD3 HZ3 C0 CS
        go_wp2_with fail
        refine (toUnitS_any A n c _ us _ RA4.out HZ4.out n2).mono ?_
        rintro e w5 ⟨A1, c1, rfl, u1⟩
        have hb5 := u1.ext
        have HK5 := Lib.hid (HK4.out.below hb5 HK4.out.lt)
        have RD5 := Lib.hid (RD4.out.below (hb5.mono HZ4.out))
        have HZ5 := Lib.hid (Nat.le_trans HZ4.out hb5.size)
        have x0 := HK5.out.cell 0
        simp only [List.getElem?_toArray, List.getElem?_cons_zero] at x0
        have U1 := Lib.hid u1
        clear u1 hb5
        go_wp2_with fail
        refine (toAmount_any D m k _ zs _ RD5.out HZ5.out m2).mono ?_
        rintro e w6 ⟨D1, d1, rfl, v1⟩
        have hb6 := v1.ext
        have hba := ext_alloc (Below.refl w6.heap.size w6) (.cells #[.slice D1 m d1] 28)
        have hkb := Blk.new w6 28 #[.slice D1 m d1]
        have V1 := Lib.hid v1
        have hcc := own_cap U1.out.own
        generalize hw6a : w6.alloc (.cells #[.slice D1 m d1] 28) = w6a at hba hkb
        have HW6 := Lib.hid hw6a
        have U6 := Lib.hid ((U1.out.later hb6).later hba)
        have V6 := Lib.hid (v1.later hba)
        have KB := Lib.hid hkb
        have B46 := Lib.hid (ext_trans (ext_trans U1.out.ext hb6) hba)
        clear v1 hb6 hba hkb hw6a x0
        go_wp2_with fail
        rw [HW6.out]
        refine (CI.out A1 c1 _ D1 d1 _ w6a U6.out.reads (Nat.le_refl _) hcc.1 hcc.2 V6.out.reads (Nat.le_refl _)).mono ?_
        rintro e w7 ⟨q1, j1, e1, q2, j2, e2, rfl, q⟩
        have m1 := q.one.len
        have m2' := q.two.len
        obtain rfl : j1 = i1 := by omega
        obtain rfl : j2 = i2 := by omega
        have hi1 : j1 ≤ 6 := by omega
        have hi2 : j2 ≤ 6 := by omega
        have hb7 := q.one.ext
        have hba := ext_alloc (Below.refl w7.heap.size w7) (.cells #[.slice q1 j1 e1] 28)
        have hbb := ext_alloc hba (.cells #[.slice q2 j2 e2] 28)
        have k13 := (Blk.new w7 28 #[.slice q1 j1 e1]).alloc (.cells #[.slice q2 j2 e2] 28)
        have k14 := Blk.new (w7.alloc (.cells #[.slice q1 j1 e1] 28)) 28 #[.slice q2 j2 e2]
        rw [show (w7.alloc (.cells #[.slice q1 j1 e1] 28)).heap.size = w7.heap.size + 1 by simp] at k14
        generalize hw8 : (w7.alloc (.cells #[.slice q1 j1 e1] 28)).alloc (.cells #[.slice q2 j2 e2] 28) = w8 at hbb k13 k14
        have HW8 := Lib.hid hw8
        have hb8 := ext_trans hb7 hbb
        have B48 := ext_trans B46.out hb8
        have NU8 : NU w w8 A n us D m zs [(w7.heap.size + 1, 28, #[.slice q2 j2 e2]), (w7.heap.size, 28, #[.slice q1 j1 e1]), (w6.heap.size, 28, #[.slice D1 m d1]), (g2, 28, #[.slice p2 j2 k2]), (g1, 28, #[.slice p1 j1 k1]), (w.heap.size, 25, #[.slice D m k])] p1 j1 L1 p2 j2 L2 wc.heap.size A1 c1 wc.heap.size (untF us) D1 d1 w5.heap.size zs q1 e1 L1 q2 e2 L2 w6a.heap.size := by
          refine ⟨ext_trans HB4.out B48, RA4.out.below (B48.mono HZ4.out), RD4.out.below (B48.mono HZ4.out), fun g t cs hm => ?_, R1.out.below B48, R2.out.below B48, own_below U6.out.own hb8, own_below V6.out.own hb8, own_below q.one.own hbb, own_below q.two.own hbb, q.off, HB4.out.size, Nat.le_refl _, U1.out.ext.size, V6.out.ext.size, hb8.size, lt_of_own U1.out.own, lt_of_own V6.out.own⟩
          simp only [List.mem_cons, List.not_mem_nil, or_false, Prod.mk.injEq] at hm
          rcases hm with ⟨rfl, rfl, rfl⟩ | ⟨rfl, rfl, rfl⟩ | ⟨rfl, rfl, rfl⟩ | ⟨rfl, rfl, rfl⟩ | ⟨rfl, rfl, rfl⟩ | ⟨rfl, rfl, rfl⟩
          · exact ⟨k14, by decide, by decide⟩
          · exact ⟨k13, by decide, by decide⟩
          · exact ⟨KB.out.below hb8 KB.out.lt, by decide, by decide⟩
          · exact ⟨K9.out.below B48 K9.out.lt, by decide, by decide⟩
          · exact ⟨K8.out.below B48 K8.out.lt, by decide, by decide⟩
          · exact ⟨HK4.out.below B48 HK4.out.lt, by decide, by decide⟩
        have HN8 := Lib.hid NU8
        clear NU8 q m1 m2' l1 l2 hb7 hba hbb k13 k14 hw8 hb8 B48 HK4 HB4 RA4 RD4 HZ4 R1 R2 K8 K9 HK5 RD5 HZ5 U1 V1 U6 V6 KB B46
        have fk : (ok != ok) = false := by simp
        have x8 := (HN8.out.box g1 28 #[.slice p1 j1 k1] (by simp)).1.cell 0
        have x9 := (HN8.out.box g2 28 #[.slice p2 j2 k2] (by simp)).1.cell 0
        have x13 := (HN8.out.box w7.heap.size 28 #[.slice q1 j1 e1] (by simp)).1.cell 0
        have x14 := (HN8.out.box (w7.heap.size + 1) 28 #[.slice q2 j2 e2] (by simp)).1.cell 0
        simp only [List.getElem?_toArray, List.getElem?_cons_zero] at x8 x9 x13 x14
        have y8 : ((w7.alloc (.cells #[.slice q1 j1 e1] 28)).alloc (.cells #[.slice q2 j2 e2] 28)).cell? ⟨g1, 0, none⟩ = some (.slice p1 j1 k1) := by rw [HW8.out]; exact x8
        go_wp2_with fail
        rw [HW8.out]
        refine (eqAmount_same q1 p1 j1 e1 k1 _ _ L1 _ (Reads.of_own HN8.out.o1) HN8.out.r1 (Nat.le_refl _) (NU.rb HN8.out) (by unfold maxLen; omega)).mono ?_
        rintro e w9 ⟨rfl, hbe⟩
        have HN9 := Lib.hid (HN8.out.later hbe)
        clear x8 x9 x13 x14 hbe HW8 HW6 y8
        have x9 := (HN9.out.box g2 28 #[.slice p2 j2 k2] (by simp)).1.cell 0
        have x14 := (HN9.out.box (w7.heap.size + 1) 28 #[.slice q2 j2 e2] (by simp)).1.cell 0
        simp only [List.getElem?_toArray, List.getElem?_cons_zero] at x9 x14
        go_wp2_with fail
        refine (eqAmount_same q2 p2 j2 e2 k2 _ _ L2 _ (Reads.of_own HN9.out.o2) HN9.out.r2 (Nat.le_refl _) (NU.rb HN9.out) (by unfold maxLen; omega)).mono ?_
        rintro e w10 ⟨rfl, hbe⟩
        have HN10 := Lib.hid (HN9.out.later hbe)
        clear x9 x14 hbe
        go_wp2_with fail
        refine (toUnitS_any A n c _ us _ HN10.out.arg HN10.out.bel.size n2).mono ?_
        rintro e w11 ⟨A2, c2, rfl, u2⟩
        have HN11 := Lib.hid (HN10.out.later u2.ext)
        have U2 := Lib.hid u2.reads
        clear u2
        go_wp2_with fail
        refine (eqUnitS_same A1 A2 n c1 c2 _ _ us _ (Reads.of_own HN11.out.x0) U2.out (Nat.le_refl _) (Nat.le_refl _) n2).mono ?_
        rintro e w12 ⟨rfl, hbe⟩
        have HN12 := Lib.hid (HN11.out.later hbe)
        clear hbe U2
        have xA := (HN12.out.box w.heap.size 25 #[.slice D m k] (by simp)).1.cell 0
        have x12 := (HN12.out.box w6.heap.size 28 #[.slice D1 m d1] (by simp)).1.cell 0
        simp only [List.getElem?_toArray, List.getElem?_cons_zero] at xA x12
        have CA := Lib.hid xA
        have C12 := Lib.hid x12
        have bX : Below w12.heap.size w12 w12.drew := ext_drew (Below.refl _ _)
        clear xA x12
        go_wp2_with fail
        refine wp_region_held_drew (S := (fun W => W.cell? ⟨w.heap.size, 0, none⟩ = some (.slice D m k) ∧ W.cell? ⟨w6.heap.size, 0, none⟩ = some (.slice D1 m d1))) (by kernel_rfl) ?_ (fun hHeld => ?_)
        · (try dsimp only); exact ⟨below_cell (by assumption) CA.out, below_cell (by assumption) C12.out⟩
        refine wpAnyH_takeD (i := 0) (v := ?_) 74 rfl rfl (by kernel_rfl) (by kernel_rfl) (by kernel_rfl) (fun _ _ _ _ _ h => h) (by rfl) (by assumption) ?_ ?_
        rotate_left; focus (intro w hSw; (try dsimp only at hSw); go_simp; try (with_reducible rfl))
        try simp only [Act.put, List.setIfInBounds_toArray, List.set_cons_zero, List.set_cons_succ]
        refine wpAnyH_takeD (i := 1) (v := ?_) 75 rfl rfl (by kernel_rfl) (by kernel_rfl) (by kernel_rfl) (fun _ _ _ _ _ h => h) (by rfl) (by assumption) ?_ ?_
        rotate_left; focus (intro w hSw; (try dsimp only at hSw); go_simp; try (with_reducible rfl))
        try simp only [Act.put, List.setIfInBounds_toArray, List.set_cons_zero, List.set_cons_succ]
        refine wpAnyH_ready (rs := [2]) (by kernel_rfl) (by simp) ?_
        refine AllReadyH.cons rfl (fun K hK => ?_) AllReadyH.nil
        go_simp; (go_at_call 9; refine (toAmount_any D m k _ zs _ (HN12.out.amt.below (bX.mono HN12.out.bel.size)) (Nat.le_trans HN12.out.bel.size bX.size) m2).mono ?_; rintro e w13 ⟨D2, d2, rfl, v2⟩); have b13 := ext_trans bX v2.ext; (try dsimp only)
        refine hK.out _ _ ?_ (fun hHeld => ?_)
        focus ((try dsimp only); exact ⟨below_cell (by assumption) CA.out, below_cell (by assumption) C12.out⟩)
        clear hK K; try simp only [Act.put, List.setIfInBounds_toArray, List.set_cons_zero, List.set_cons_succ]
        refine wpAnyH_ready (rs := [3]) (by kernel_rfl) (by simp) ?_
        refine AllReadyH.cons rfl (fun K hK => ?_) AllReadyH.nil
        go_simp; (go_at_call 11; refine (eqAmount_same D1 D2 m d1 d2 _ _ zs _ (Reads.of_own (HN12.out.later b13).x1) v2.reads (Nat.le_refl _) (Nat.le_refl _) hm).mono ?_; rintro e w14 ⟨rfl, hb14⟩); have b14 := ext_trans b13 hb14; (try dsimp only)
        refine hK.out _ _ ?_ (fun hHeld => ?_)
        focus ((try dsimp only); exact ⟨below_cell (by assumption) CA.out, below_cell (by assumption) C12.out⟩)
        clear hK K; try simp only [Act.put, List.setIfInBounds_toArray, List.set_cons_zero, List.set_cons_succ]
        refine wpAnyH_takeD (i := 4) (v := ?_) 78 rfl rfl (by kernel_rfl) (by kernel_rfl) (by kernel_rfl) (fun _ _ _ _ _ h => h) (by rfl) (by assumption) ?_ ?_
        rotate_left; focus (intro w hSw; (try dsimp only at hSw); go_simp; try (with_reducible rfl))
        try simp only [Act.put, List.setIfInBounds_toArray, List.set_cons_zero, List.set_cons_succ]
        refine wpAnyH_done (by kernel_rfl) ?_ _
        clear hHeld
        have HN14 := Lib.hid (HN12.out.later b14)
        clear b13 b14 hb14 v2 bX CA C12
        go_wp2_with fail
        refine (markUnitS_any A1 n c1 _ us _ HN14.out.x0 n2).mono ?_
        rintro e w15 ⟨rfl, ⟨vs, ho⟩, hg⟩
        have HN15 := Lib.hid (HN14.out.markU hg ho)
        clear ho hg
        have x12 := (HN15.out.box w6.heap.size 28 #[.slice D1 m d1] (by simp)).1.cell 0
        simp only [List.getElem?_toArray, List.getElem?_cons_zero] at x12
        go_wp2_with fail
        refine (markAmount_any D1 m d1 _ zs _ _ HN15.out.x1 (by omega) (by omega) (by omega)).mono ?_
        rintro e w16 ⟨rfl, ho, hg⟩
        have HN16 := Lib.hid (HN15.out.markD hg ho)
        have e16 : ¬ ((1 : Int) + ((n * 2 : Nat) : Int) + (m : Int) < 0) := by omega
        have e16' : decide ((1 : Int) + ((n * 2 : Nat) : Int) + (m : Int) < 0) = false := by simp; omega
        clear x12 ho hg
        have x8 := (HN16.out.box g1 28 #[.slice p1 j1 k1] (by simp)).1.cell 0
        have x9 := (HN16.out.box g2 28 #[.slice p2 j2 k2] (by simp)).1.cell 0
        have x13 := (HN16.out.box w7.heap.size 28 #[.slice q1 j1 e1] (by simp)).1.cell 0
        have x14 := (HN16.out.box (w7.heap.size + 1) 28 #[.slice q2 j2 e2] (by simp)).1.cell 0
        simp only [List.getElem?_toArray, List.getElem?_cons_zero] at x8 x9 x13 x14
        go_wp2_with fail
        refine (eqAmount_same q1 p1 j1 e1 k1 _ _ L1 _ (Reads.of_own HN16.out.o1) HN16.out.r1 (Nat.le_refl _) (NU.rb HN16.out) (by unfold maxLen; omega)).mono ?_
        rintro e w17 ⟨rfl, hbe⟩
        have HN17 := Lib.hid (HN16.out.later hbe)
        clear x8 x9 x13 x14 hbe
        have x9 := (HN17.out.box g2 28 #[.slice p2 j2 k2] (by simp)).1.cell 0
        have x14 := (HN17.out.box (w7.heap.size + 1) 28 #[.slice q2 j2 e2] (by simp)).1.cell 0
        simp only [List.getElem?_toArray, List.getElem?_cons_zero] at x9 x14
        go_wp2_with fail
        refine (eqAmount_same q2 p2 j2 e2 k2 _ _ L2 _ (Reads.of_own HN17.out.o2) HN17.out.r2 (Nat.le_refl _) (NU.rb HN17.out) (by unfold maxLen; omega)).mono ?_
        rintro e w18 ⟨rfl, hbe⟩
        have HN18 := Lib.hid (HN17.out.later hbe)
        clear x9 x14 hbe e16 e16'
        have x13 := (HN18.out.box w7.heap.size 28 #[.slice q1 j1 e1] (by simp)).1.cell 0
        have x14 := (HN18.out.box (w7.heap.size + 1) 28 #[.slice q2 j2 e2] (by simp)).1.cell 0
        simp only [List.getElem?_toArray, List.getElem?_cons_zero] at x13 x14
        go_wp2_with fail
        refine (markAmount_any q1 j1 e1 _ L1 1 _ HN18.out.o1 (by omega) (by omega) (by omega)).mono ?_
        rintro e w19 ⟨rfl, ho, hg⟩
        have HN19 := Lib.hid (HN18.out.mark1 hg ho)
        clear x13 x14 ho hg
        have x14 := (HN19.out.box (w7.heap.size + 1) 28 #[.slice q2 j2 e2] (by simp)).1.cell 0
        simp only [List.getElem?_toArray, List.getElem?_cons_zero] at x14
        go_wp2_with fail
        refine (markAmount_any q2 j2 e2 _ L2 _ _ HN19.out.o2 (by omega) (by omega) (by omega)).mono ?_
        rintro e w20 ⟨rfl, ho, hg⟩
        have HN20 := Lib.hid (HN19.out.mark2 hg ho)
        clear x14 ho hg
        have x13 := (HN20.out.box w7.heap.size 28 #[.slice q1 j1 e1] (by simp)).1.cell 0
        have x14 := (HN20.out.box (w7.heap.size + 1) 28 #[.slice q2 j2 e2] (by simp)).1.cell 0
        simp only [List.getElem?_toArray, List.getElem?_cons_zero] at x13 x14
        go_wp2_with fail
        refine (heldAmount_any q1 j1 e1 _ 1 _ (Reads.of_own HN20.out.o1) (Nat.le_refl _) (by omega) (by omega) (by omega)).mono ?_
        rintro e w21 ⟨rfl, hbe⟩
        have HN21 := Lib.hid (HN20.out.later hbe)
        have e1' : ¬ ((1 : Int) + (j1 : Int) < 0) := by omega
        clear x13 x14 hbe
        have x14 := (HN21.out.box (w7.heap.size + 1) 28 #[.slice q2 j2 e2] (by simp)).1.cell 0
        simp only [List.getElem?_toArray, List.getElem?_cons_zero] at x14
        go_wp2_with fail
        refine (heldAmount_any q2 j2 e2 _ _ _ (Reads.of_own HN21.out.o2) (Nat.le_refl _) (by omega) (by omega) (by omega)).mono ?_
        rintro e w22 ⟨rfl, hbe⟩
        have HN22 := Lib.hid (HN21.out.later hbe)
        have e2' : ¬ ((1 : Int) + (j1 : Int) + (j2 : Int) < 0) := by omega
        have e3' : (((1 : Int) + (j1 : Int) + (j2 : Int)) != ((1 : Int) + (j1 : Int) + (j2 : Int))) = false := by simp
        clear x14 hbe

        have RA3 := Lib.hid HN22.out.arg
        have RD3 := Lib.hid HN22.out.amt
        have HZ3 := Lib.hid HN22.out.bel.size
        have cA := (HN22.out.box w.heap.size 25 #[.slice D m k] (by simp)).1.cell 0
        simp only [List.getElem?_toArray, List.getElem?_cons_zero] at cA
        have C0 := Lib.hid cA
        clear cA
        go_wp2_with fail
        clear e1' e2' e3'
        go_cut [19, 20, 21] from 123 to 132 (fun s8 s9 s10 wx => ∃ (g1 g2 : Nat) (p1 : Option Addr) (i1 k1 : Nat) (p2 : Option Addr) (i2 k2 : Nat), s8 = .pointer (some ⟨g1, 0, none⟩) ∧ s9 = .pointer (some ⟨g2, 0, none⟩) ∧ s10 = .bool ok ∧ Blk wx g1 28 #[.slice p1 i1 k1] ∧ Blk wx g2 28 #[.slice p2 i2 k2] ∧ Acc w22 wx 3 1 p1 i1 k1 L1 ∧ Acc w22 wx 3 1 p2 i2 k2 L2)
        case first =>
          have bX0 : Below w22.heap.size w22 w22.drew := ext_drew (Below.refl _ _)
          refine wp_region_held_drew (S := fun W => W.cell? ⟨w.heap.size, 0, none⟩ = some (.slice D m k)) (by kernel_rfl) ?_ (fun hHeld => ?_)
          · (try dsimp only); exact below_cell bX0 C0.out
          obtain ⟨X, hX⟩ : ∃ X, X = World.drew w22 := ⟨_, rfl⟩
          rw [← hX]
          try rw [← hX] at hHeld
          rw [← hX] at bX0
          have bX := bX0
          clear hX bX0
          refine wpAnyH_takeD (i := 0) (v := ?_) 124 rfl rfl (by kernel_rfl) (by kernel_rfl) (by kernel_rfl) (fun _ _ _ _ _ h => h) (by rfl) (by assumption) ?_ ?_
          rotate_left; focus (intro w hSw; (try dsimp only at hSw); go_simp; try (with_reducible rfl))
          try simp only [Act.put, List.setIfInBounds_toArray, List.set_cons_succ, List.set_cons_zero]
          refine wpAnyH_takeD (i := 2) (v := ?_) 126 rfl rfl (by kernel_rfl) (by kernel_rfl) (by kernel_rfl) (fun _ _ _ _ _ h => h) (by rfl) (by assumption) ?_ ?_
          rotate_left; focus (intro w hSw; (try dsimp only at hSw); go_simp; try (with_reducible rfl))
          try simp only [Act.put, List.setIfInBounds_toArray, List.set_cons_succ, List.set_cons_zero]
          refine wpAnyH_takeD (i := 4) (v := ?_) 128 rfl rfl (by kernel_rfl) (by kernel_rfl) (by kernel_rfl) (fun _ _ _ _ _ h => h) (by rfl) (by assumption) ?_ ?_
          rotate_left; focus (intro w hSw; (try dsimp only at hSw); go_simp; try (with_reducible rfl))
          try simp only [Act.put, List.setIfInBounds_toArray, List.set_cons_succ, List.set_cons_zero]
          refine wpAnyH_ready (rs := [1, 10, 11]) (by kernel_rfl) (by simp) ?_
          refine AllReadyH.cons rfl (fun K hK => ?_) (AllReadyH.cons rfl (fun K hK => ?_) (AllReadyH.cons rfl (fun K hK => ?_) AllReadyH.nil))
          ·go_simp; (go_at_call 8; refine (toUnitS_any A n c _ us X (RA3.out.below (bX.mono HZ3.out)) (Nat.le_trans HZ3.out bX.size) n2).mono ?_; rintro e X1 ⟨A1, c1, rfl, u1⟩); (try dsimp only)
           have hbe := u1.ext
           have bX1 := ext_trans bX hbe
           clear hbe
           refine hK.out _ _ (by exact below_cell (by assumption) C0.out) (fun hHeld => ?_)
           clear hK K; try simp only [Act.put, List.setIfInBounds_toArray, List.set_cons_succ, List.set_cons_zero]
           refine wpAnyH_ready (rs := [3, 10, 11]) (by kernel_rfl) (by simp) ?_
           refine AllReadyH.cons rfl (fun K hK => ?_) (AllReadyH.cons rfl (fun K hK => ?_) (AllReadyH.cons rfl (fun K hK => ?_) AllReadyH.nil))
           ·go_simp; (go_at_call 9; refine (toAmount_any D m k _ zs X1 (RD3.out.below (bX1.mono HZ3.out)) (Nat.le_trans HZ3.out bX1.size) m2).mono ?_; rintro e X2 ⟨D1, d1, rfl, v1⟩); (try dsimp only)
            have hbe := v1.ext
            have bX2 := ext_trans bX1 hbe
            have u1 := u1.later hbe
            clear hbe
            refine hK.out _ _ (by exact below_cell (by assumption) C0.out) (fun hHeld => ?_)
            clear hK K; try simp only [Act.put, List.setIfInBounds_toArray, List.set_cons_succ, List.set_cons_zero]
            refine wpAnyH_ready (rs := [5, 10, 11]) (by kernel_rfl) (by simp) ?_
            refine AllReadyH.cons rfl (fun K hK => ?_) (AllReadyH.cons rfl (fun K hK => ?_) (AllReadyH.cons rfl (fun K hK => ?_) AllReadyH.nil))
            ·have hcc := own_cap u1.own
             go_simp; (go_at_call 10; refine (CI.out A1 c1 _ D1 d1 _ X2 u1.reads (Nat.le_refl _) hcc.1 hcc.2 v1.reads (Nat.le_refl _)).mono ?_; rintro e X3 ⟨p1, i1, k1, p2, i2, k2, rfl, q⟩); (try dsimp only)
             have hbe := q.one.ext
             have bX3 := ext_trans bX2 hbe
             have a1 := q.one.since bX2
             have a2 := q.two.since bX2
             clear hbe q u1 v1 hcc
             refine hK.out _ _ (by exact below_cell (by assumption) C0.out) (fun hHeld => ?_)
             clear hK K; try simp only [Act.put, List.setIfInBounds_toArray, List.set_cons_succ, List.set_cons_zero]
             refine wpAnyH_takeD (i := 6) (v := ?_) 123 rfl rfl (by kernel_rfl) (by kernel_rfl) (by kernel_rfl) (fun _ _ _ _ _ h => h) (by rfl) (by assumption) ?_ ?_
             rotate_left; focus (intro w hSw; (try dsimp only at hSw); go_simp; try (with_reducible rfl))
             try simp only [Act.put, List.setIfInBounds_toArray, List.set_cons_succ, List.set_cons_zero]
             refine wpAnyH_takeD (i := 7) (v := ?_) 130 rfl rfl (by kernel_rfl) (by kernel_rfl) (by kernel_rfl) (fun _ _ _ _ _ h => h) (by rfl) (by assumption) ?_ ?_
             rotate_left; focus (intro w hSw; (try dsimp only at hSw); go_simp; try (with_reducible rfl))
             try simp only [Act.put, List.setIfInBounds_toArray, List.set_cons_succ, List.set_cons_zero]
             refine wpAnyH_takeD (i := 8) (v := ?_) 131 rfl rfl (by kernel_rfl) (by kernel_rfl) (by kernel_rfl) (fun _ _ _ _ _ h => h) (by rfl) (by assumption) ?_ ?_
             rotate_left; focus (intro w hSw; (try dsimp only at hSw); go_simp; try (with_reducible rfl))
             try simp only [Act.put, List.setIfInBounds_toArray, List.set_cons_succ, List.set_cons_zero]
             refine wpAnyH_takeD (i := 9) (v := ?_) 132 rfl rfl (by kernel_rfl) (by kernel_rfl) (by kernel_rfl) (fun _ _ _ _ _ h => h) (by rfl) (by assumption) ?_ ?_
             rotate_left; focus (intro w hSw; (try dsimp only at hSw); go_simp; try (with_reducible rfl))
             try simp only [Act.put, List.setIfInBounds_toArray, List.set_cons_succ, List.set_cons_zero]
             refine wpAnyH_ready (rs := [10, 11]) (by kernel_rfl) (by simp) ?_
             refine AllReadyH.cons rfl (fun K hK => ?_) (AllReadyH.cons rfl (fun K hK => ?_) AllReadyH.nil)
             ·go_simp
              obtain ⟨X4, hX4⟩ : ∃ X4, X4 = World.alloc X3 (Obj.cells #[.slice none 0 0] 28) := ⟨_, rfl⟩
              rw [← hX4]
              have hbe : Below X3.heap.size X3 X4 := hX4 ▸ ext_alloc (Below.refl _ _) _
              have bX4 := ext_trans bX3 hbe
              have a1 := a1.later hbe
              have a2 := a2.later hbe
              have k8 := Blk.new X3 28 #[.slice none 0 0]
              rw [← hX4] at k8
              have hgk8 : w22.heap.size ≤ X3.heap.size := bX3.size
              clear hX4 hbe
              refine hK.out _ _ (by exact below_cell (by assumption) C0.out) (fun hHeld => ?_)
              clear hK K; try simp only [Act.put, List.setIfInBounds_toArray, List.set_cons_succ, List.set_cons_zero]
              refine wpAnyH_ready (rs := [11]) (by kernel_rfl) (by simp) ?_
              refine AllReadyH.cons rfl (fun K hK => ?_) AllReadyH.nil
              go_simp
              obtain ⟨X5, hX5⟩ : ∃ X5, X5 = World.alloc X4 (Obj.cells #[.slice none 0 0] 28) := ⟨_, rfl⟩
              rw [← hX5]
              have hbe : Below X4.heap.size X4 X5 := hX5 ▸ ext_alloc (Below.refl _ _) _
              have bX5 := ext_trans bX4 hbe
              have hne : X3.heap.size ≠ X4.heap.size := Nat.ne_of_lt k8.lt
              have a1 := a1.later hbe
              have a2 := a2.later hbe
              have k8 := k8.below hbe k8.lt
              have k9 := Blk.new X4 28 #[.slice none 0 0]
              rw [← hX5] at k9
              have hgk9 : w22.heap.size ≤ X4.heap.size := bX4.size
              clear hX5 hbe
              refine hK.out _ _ (by exact below_cell (by assumption) C0.out) (fun hHeld => ?_)
              clear hK K; try simp only [Act.put, List.setIfInBounds_toArray, List.set_cons_succ, List.set_cons_zero]
              refine wpAnyH_ready (rs := [12]) (by kernel_rfl) (by simp) ?_
              refine AllReadyH.cons rfl (fun K hK => ?_) AllReadyH.nil
              obtain ⟨v0, f0⟩ := leaf_cell k8
              go_simp
              clear v0 f0
              obtain ⟨a1, a2, k8, k9, bX6⟩ := leaf_set a1 a2 k8 k9 hgk8 (by first | exact hne | exact hne.symm) bX5 (.slice p1 i1 k1)
              generalize World.setCell X5 ⟨X3.heap.size, 0, none⟩ (.slice p1 i1 k1) = X6 at a1 a2 k8 k9 bX6 ⊢
              refine hK.out _ _ (by exact below_cell (by assumption) C0.out) (fun hHeld => ?_)
              clear hK K; try simp only [Act.put, List.setIfInBounds_toArray, List.set_cons_succ, List.set_cons_zero]
              refine wpAnyH_ready (rs := [13]) (by kernel_rfl) (by simp) ?_
              refine AllReadyH.cons rfl (fun K hK => ?_) AllReadyH.nil
              obtain ⟨v0, f0⟩ := leaf_cell k9
              go_simp
              clear v0 f0
              obtain ⟨a1, a2, k9, k8, bX7⟩ := leaf_set a1 a2 k9 k8 hgk9 (by first | exact hne | exact hne.symm) bX6 (.slice p2 i2 k2)
              generalize World.setCell X6 ⟨X4.heap.size, 0, none⟩ (.slice p2 i2 k2) = X7 at a1 a2 k8 k9 bX7 ⊢
              refine hK.out _ _ (by exact below_cell (by assumption) C0.out) (fun hHeld => ?_)
              clear hK K; try simp only [Act.put, List.setIfInBounds_toArray, List.set_cons_succ, List.set_cons_zero]
              refine wpAnyH_takeD (i := 14) (v := ?_) 21 rfl rfl (by kernel_rfl) (by kernel_rfl) (by kernel_rfl) (fun _ _ _ _ _ h => h) (by rfl) (by assumption) ?_ ?_
              rotate_left; focus (intro w hSw; (try dsimp only at hSw); go_simp; try (with_reducible rfl))
              try simp only [Act.put, List.setIfInBounds_toArray, List.set_cons_succ, List.set_cons_zero]
              refine wpAnyH_done (by kernel_rfl) ?_ _
              clear hHeld
              try go_wp2_with fail
              go_meet
              exact ⟨X3.heap.size, X4.heap.size, p1, i1, k1, p2, i2, k2, rfl, rfl, rfl, k8, k9, a1, a2⟩
             ·go_simp
              obtain ⟨X8, hX8⟩ : ∃ X8, X8 = World.alloc X3 (Obj.cells #[.slice none 0 0] 28) := ⟨_, rfl⟩
              rw [← hX8]
              have hbe : Below X3.heap.size X3 X8 := hX8 ▸ ext_alloc (Below.refl _ _) _
              have bX8 := ext_trans bX3 hbe
              have a1 := a1.later hbe
              have a2 := a2.later hbe
              have k9 := Blk.new X3 28 #[.slice none 0 0]
              rw [← hX8] at k9
              have hgk9 : w22.heap.size ≤ X3.heap.size := bX3.size
              clear hX8 hbe
              refine hK.out _ _ (by exact below_cell (by assumption) C0.out) (fun hHeld => ?_)
              clear hK K; try simp only [Act.put, List.setIfInBounds_toArray, List.set_cons_succ, List.set_cons_zero]
              refine wpAnyH_ready (rs := [10]) (by kernel_rfl) (by simp) ?_
              refine AllReadyH.cons rfl (fun K hK => ?_) AllReadyH.nil
              go_simp
              obtain ⟨X9, hX9⟩ : ∃ X9, X9 = World.alloc X8 (Obj.cells #[.slice none 0 0] 28) := ⟨_, rfl⟩
              rw [← hX9]
              have hbe : Below X8.heap.size X8 X9 := hX9 ▸ ext_alloc (Below.refl _ _) _
              have bX9 := ext_trans bX8 hbe
              have hne : X3.heap.size ≠ X8.heap.size := Nat.ne_of_lt k9.lt
              have a1 := a1.later hbe
              have a2 := a2.later hbe
              have k9 := k9.below hbe k9.lt
              have k8 := Blk.new X8 28 #[.slice none 0 0]
              rw [← hX9] at k8
              have hgk8 : w22.heap.size ≤ X8.heap.size := bX8.size
              clear hX9 hbe
              refine hK.out _ _ (by exact below_cell (by assumption) C0.out) (fun hHeld => ?_)
              clear hK K; try simp only [Act.put, List.setIfInBounds_toArray, List.set_cons_succ, List.set_cons_zero]
              refine wpAnyH_ready (rs := [12]) (by kernel_rfl) (by simp) ?_
              refine AllReadyH.cons rfl (fun K hK => ?_) AllReadyH.nil
              obtain ⟨v0, f0⟩ := leaf_cell k8
              go_simp
              clear v0 f0
              obtain ⟨a1, a2, k8, k9, bX10⟩ := leaf_set a1 a2 k8 k9 hgk8 (by first | exact hne | exact hne.symm) bX9 (.slice p1 i1 k1)
              generalize World.setCell X9 ⟨X8.heap.size, 0, none⟩ (.slice p1 i1 k1) = X10 at a1 a2 k8 k9 bX10 ⊢
              refine hK.out _ _ (by exact below_cell (by assumption) C0.out) (fun hHeld => ?_)
              clear hK K; try simp only [Act.put, List.setIfInBounds_toArray, List.set_cons_succ, List.set_cons_zero]
              refine wpAnyH_ready (rs := [13]) (by kernel_rfl) (by simp) ?_
              refine AllReadyH.cons rfl (fun K hK => ?_) AllReadyH.nil
              obtain ⟨v0, f0⟩ := leaf_cell k9
              go_simp
              clear v0 f0
              obtain ⟨a1, a2, k9, k8, bX11⟩ := leaf_set a1 a2 k9 k8 hgk9 (by first | exact hne | exact hne.symm) bX10 (.slice p2 i2 k2)
              generalize World.setCell X10 ⟨X3.heap.size, 0, none⟩ (.slice p2 i2 k2) = X11 at a1 a2 k8 k9 bX11 ⊢
              refine hK.out _ _ (by exact below_cell (by assumption) C0.out) (fun hHeld => ?_)
              clear hK K; try simp only [Act.put, List.setIfInBounds_toArray, List.set_cons_succ, List.set_cons_zero]
              refine wpAnyH_takeD (i := 14) (v := ?_) 21 rfl rfl (by kernel_rfl) (by kernel_rfl) (by kernel_rfl) (fun _ _ _ _ _ h => h) (by rfl) (by assumption) ?_ ?_
              rotate_left; focus (intro w hSw; (try dsimp only at hSw); go_simp; try (with_reducible rfl))
              try simp only [Act.put, List.setIfInBounds_toArray, List.set_cons_succ, List.set_cons_zero]
              refine wpAnyH_done (by kernel_rfl) ?_ _
              clear hHeld
              try go_wp2_with fail
              go_meet
              exact ⟨X8.heap.size, X3.heap.size, p1, i1, k1, p2, i2, k2, rfl, rfl, rfl, k8, k9, a1, a2⟩
            ·go_simp
             obtain ⟨X12, hX12⟩ : ∃ X12, X12 = World.alloc X2 (Obj.cells #[.slice none 0 0] 28) := ⟨_, rfl⟩
             rw [← hX12]
             have hbe : Below X2.heap.size X2 X12 := hX12 ▸ ext_alloc (Below.refl _ _) _
             have bX12 := ext_trans bX2 hbe
             have u1 := u1.later hbe
             have v1 := v1.later hbe
             have k8 := Blk.new X2 28 #[.slice none 0 0]
             rw [← hX12] at k8
             have hgk8 : w22.heap.size ≤ X2.heap.size := bX2.size
             clear hX12 hbe
             refine hK.out _ _ (by exact below_cell (by assumption) C0.out) (fun hHeld => ?_)
             clear hK K; try simp only [Act.put, List.setIfInBounds_toArray, List.set_cons_succ, List.set_cons_zero]
             refine wpAnyH_ready (rs := [5, 11]) (by kernel_rfl) (by simp) ?_
             refine AllReadyH.cons rfl (fun K hK => ?_) (AllReadyH.cons rfl (fun K hK => ?_) AllReadyH.nil)
             ·have hcc := own_cap u1.own
              go_simp; (go_at_call 10; refine (CI.out A1 c1 _ D1 d1 _ X12 u1.reads (Nat.le_refl _) hcc.1 hcc.2 v1.reads (Nat.le_refl _)).mono ?_; rintro e X13 ⟨p1, i1, k1, p2, i2, k2, rfl, q⟩); (try dsimp only)
              have hbe := q.one.ext
              have bX13 := ext_trans bX12 hbe
              have a1 := q.one.since bX12
              have a2 := q.two.since bX12
              have k8 := k8.below hbe k8.lt
              clear hbe q u1 v1 hcc
              refine hK.out _ _ (by exact below_cell (by assumption) C0.out) (fun hHeld => ?_)
              clear hK K; try simp only [Act.put, List.setIfInBounds_toArray, List.set_cons_succ, List.set_cons_zero]
              refine wpAnyH_takeD (i := 6) (v := ?_) 123 rfl rfl (by kernel_rfl) (by kernel_rfl) (by kernel_rfl) (fun _ _ _ _ _ h => h) (by rfl) (by assumption) ?_ ?_
              rotate_left; focus (intro w hSw; (try dsimp only at hSw); go_simp; try (with_reducible rfl))
              try simp only [Act.put, List.setIfInBounds_toArray, List.set_cons_succ, List.set_cons_zero]
              refine wpAnyH_takeD (i := 7) (v := ?_) 130 rfl rfl (by kernel_rfl) (by kernel_rfl) (by kernel_rfl) (fun _ _ _ _ _ h => h) (by rfl) (by assumption) ?_ ?_
              rotate_left; focus (intro w hSw; (try dsimp only at hSw); go_simp; try (with_reducible rfl))
              try simp only [Act.put, List.setIfInBounds_toArray, List.set_cons_succ, List.set_cons_zero]
              refine wpAnyH_takeD (i := 8) (v := ?_) 131 rfl rfl (by kernel_rfl) (by kernel_rfl) (by kernel_rfl) (fun _ _ _ _ _ h => h) (by rfl) (by assumption) ?_ ?_
              rotate_left; focus (intro w hSw; (try dsimp only at hSw); go_simp; try (with_reducible rfl))
              try simp only [Act.put, List.setIfInBounds_toArray, List.set_cons_succ, List.set_cons_zero]
              refine wpAnyH_takeD (i := 9) (v := ?_) 132 rfl rfl (by kernel_rfl) (by kernel_rfl) (by kernel_rfl) (fun _ _ _ _ _ h => h) (by rfl) (by assumption) ?_ ?_
              rotate_left; focus (intro w hSw; (try dsimp only at hSw); go_simp; try (with_reducible rfl))
              try simp only [Act.put, List.setIfInBounds_toArray, List.set_cons_succ, List.set_cons_zero]
              refine wpAnyH_ready (rs := [11]) (by kernel_rfl) (by simp) ?_
              refine AllReadyH.cons rfl (fun K hK => ?_) AllReadyH.nil
              go_simp
              obtain ⟨X14, hX14⟩ : ∃ X14, X14 = World.alloc X13 (Obj.cells #[.slice none 0 0] 28) := ⟨_, rfl⟩
              rw [← hX14]
              have hbe : Below X13.heap.size X13 X14 := hX14 ▸ ext_alloc (Below.refl _ _) _
              have bX14 := ext_trans bX13 hbe
              have hne : X2.heap.size ≠ X13.heap.size := Nat.ne_of_lt k8.lt
              have a1 := a1.later hbe
              have a2 := a2.later hbe
              have k8 := k8.below hbe k8.lt
              have k9 := Blk.new X13 28 #[.slice none 0 0]
              rw [← hX14] at k9
              have hgk9 : w22.heap.size ≤ X13.heap.size := bX13.size
              clear hX14 hbe
              refine hK.out _ _ (by exact below_cell (by assumption) C0.out) (fun hHeld => ?_)
              clear hK K; try simp only [Act.put, List.setIfInBounds_toArray, List.set_cons_succ, List.set_cons_zero]
              refine wpAnyH_ready (rs := [12]) (by kernel_rfl) (by simp) ?_
              refine AllReadyH.cons rfl (fun K hK => ?_) AllReadyH.nil
              obtain ⟨v0, f0⟩ := leaf_cell k8
              go_simp
              clear v0 f0
              obtain ⟨a1, a2, k8, k9, bX15⟩ := leaf_set a1 a2 k8 k9 hgk8 (by first | exact hne | exact hne.symm) bX14 (.slice p1 i1 k1)
              generalize World.setCell X14 ⟨X2.heap.size, 0, none⟩ (.slice p1 i1 k1) = X15 at a1 a2 k8 k9 bX15 ⊢
              refine hK.out _ _ (by exact below_cell (by assumption) C0.out) (fun hHeld => ?_)
              clear hK K; try simp only [Act.put, List.setIfInBounds_toArray, List.set_cons_succ, List.set_cons_zero]
              refine wpAnyH_ready (rs := [13]) (by kernel_rfl) (by simp) ?_
              refine AllReadyH.cons rfl (fun K hK => ?_) AllReadyH.nil
              obtain ⟨v0, f0⟩ := leaf_cell k9
              go_simp
              clear v0 f0
              obtain ⟨a1, a2, k9, k8, bX16⟩ := leaf_set a1 a2 k9 k8 hgk9 (by first | exact hne | exact hne.symm) bX15 (.slice p2 i2 k2)
              generalize World.setCell X15 ⟨X13.heap.size, 0, none⟩ (.slice p2 i2 k2) = X16 at a1 a2 k8 k9 bX16 ⊢
              refine hK.out _ _ (by exact below_cell (by assumption) C0.out) (fun hHeld => ?_)
              clear hK K; try simp only [Act.put, List.setIfInBounds_toArray, List.set_cons_succ, List.set_cons_zero]
              refine wpAnyH_takeD (i := 14) (v := ?_) 21 rfl rfl (by kernel_rfl) (by kernel_rfl) (by kernel_rfl) (fun _ _ _ _ _ h => h) (by rfl) (by assumption) ?_ ?_
              rotate_left; focus (intro w hSw; (try dsimp only at hSw); go_simp; try (with_reducible rfl))
              try simp only [Act.put, List.setIfInBounds_toArray, List.set_cons_succ, List.set_cons_zero]
              refine wpAnyH_done (by kernel_rfl) ?_ _
              clear hHeld
              try go_wp2_with fail
              go_meet
              exact ⟨X2.heap.size, X13.heap.size, p1, i1, k1, p2, i2, k2, rfl, rfl, rfl, k8, k9, a1, a2⟩
             ·go_simp
              obtain ⟨X17, hX17⟩ : ∃ X17, X17 = World.alloc X12 (Obj.cells #[.slice none 0 0] 28) := ⟨_, rfl⟩
              rw [← hX17]
              have hbe : Below X12.heap.size X12 X17 := hX17 ▸ ext_alloc (Below.refl _ _) _
              have bX17 := ext_trans bX12 hbe
              have hne : X2.heap.size ≠ X12.heap.size := Nat.ne_of_lt k8.lt
              have u1 := u1.later hbe
              have v1 := v1.later hbe
              have k8 := k8.below hbe k8.lt
              have k9 := Blk.new X12 28 #[.slice none 0 0]
              rw [← hX17] at k9
              have hgk9 : w22.heap.size ≤ X12.heap.size := bX12.size
              clear hX17 hbe
              refine hK.out _ _ (by exact below_cell (by assumption) C0.out) (fun hHeld => ?_)
              clear hK K; try simp only [Act.put, List.setIfInBounds_toArray, List.set_cons_succ, List.set_cons_zero]
              refine wpAnyH_ready (rs := [5]) (by kernel_rfl) (by simp) ?_
              refine AllReadyH.cons rfl (fun K hK => ?_) AllReadyH.nil
              have hcc := own_cap u1.own
              go_simp; (go_at_call 10; refine (CI.out A1 c1 _ D1 d1 _ X17 u1.reads (Nat.le_refl _) hcc.1 hcc.2 v1.reads (Nat.le_refl _)).mono ?_; rintro e X18 ⟨p1, i1, k1, p2, i2, k2, rfl, q⟩); (try dsimp only)
              have hbe := q.one.ext
              have bX18 := ext_trans bX17 hbe
              have a1 := q.one.since bX17
              have a2 := q.two.since bX17
              have k8 := k8.below hbe k8.lt
              have k9 := k9.below hbe k9.lt
              clear hbe q u1 v1 hcc
              refine hK.out _ _ (by exact below_cell (by assumption) C0.out) (fun hHeld => ?_)
              clear hK K; try simp only [Act.put, List.setIfInBounds_toArray, List.set_cons_succ, List.set_cons_zero]
              refine wpAnyH_takeD (i := 6) (v := ?_) 123 rfl rfl (by kernel_rfl) (by kernel_rfl) (by kernel_rfl) (fun _ _ _ _ _ h => h) (by rfl) (by assumption) ?_ ?_
              rotate_left; focus (intro w hSw; (try dsimp only at hSw); go_simp; try (with_reducible rfl))
              try simp only [Act.put, List.setIfInBounds_toArray, List.set_cons_succ, List.set_cons_zero]
              refine wpAnyH_takeD (i := 7) (v := ?_) 130 rfl rfl (by kernel_rfl) (by kernel_rfl) (by kernel_rfl) (fun _ _ _ _ _ h => h) (by rfl) (by assumption) ?_ ?_
              rotate_left; focus (intro w hSw; (try dsimp only at hSw); go_simp; try (with_reducible rfl))
              try simp only [Act.put, List.setIfInBounds_toArray, List.set_cons_succ, List.set_cons_zero]
              refine wpAnyH_takeD (i := 8) (v := ?_) 131 rfl rfl (by kernel_rfl) (by kernel_rfl) (by kernel_rfl) (fun _ _ _ _ _ h => h) (by rfl) (by assumption) ?_ ?_
              rotate_left; focus (intro w hSw; (try dsimp only at hSw); go_simp; try (with_reducible rfl))
              try simp only [Act.put, List.setIfInBounds_toArray, List.set_cons_succ, List.set_cons_zero]
              refine wpAnyH_takeD (i := 9) (v := ?_) 132 rfl rfl (by kernel_rfl) (by kernel_rfl) (by kernel_rfl) (fun _ _ _ _ _ h => h) (by rfl) (by assumption) ?_ ?_
              rotate_left; focus (intro w hSw; (try dsimp only at hSw); go_simp; try (with_reducible rfl))
              try simp only [Act.put, List.setIfInBounds_toArray, List.set_cons_succ, List.set_cons_zero]
              refine wpAnyH_ready (rs := [12]) (by kernel_rfl) (by simp) ?_
              refine AllReadyH.cons rfl (fun K hK => ?_) AllReadyH.nil
              obtain ⟨v0, f0⟩ := leaf_cell k8
              go_simp
              clear v0 f0
              obtain ⟨a1, a2, k8, k9, bX19⟩ := leaf_set a1 a2 k8 k9 hgk8 (by first | exact hne | exact hne.symm) bX18 (.slice p1 i1 k1)
              generalize World.setCell X18 ⟨X2.heap.size, 0, none⟩ (.slice p1 i1 k1) = X19 at a1 a2 k8 k9 bX19 ⊢
              refine hK.out _ _ (by exact below_cell (by assumption) C0.out) (fun hHeld => ?_)
              clear hK K; try simp only [Act.put, List.setIfInBounds_toArray, List.set_cons_succ, List.set_cons_zero]
              refine wpAnyH_ready (rs := [13]) (by kernel_rfl) (by simp) ?_
              refine AllReadyH.cons rfl (fun K hK => ?_) AllReadyH.nil
              obtain ⟨v0, f0⟩ := leaf_cell k9
              go_simp
              clear v0 f0
              obtain ⟨a1, a2, k9, k8, bX20⟩ := leaf_set a1 a2 k9 k8 hgk9 (by first | exact hne | exact hne.symm) bX19 (.slice p2 i2 k2)
              generalize World.setCell X19 ⟨X12.heap.size, 0, none⟩ (.slice p2 i2 k2) = X20 at a1 a2 k8 k9 bX20 ⊢
              refine hK.out _ _ (by exact below_cell (by assumption) C0.out) (fun hHeld => ?_)
              clear hK K; try simp only [Act.put, List.setIfInBounds_toArray, List.set_cons_succ, List.set_cons_zero]
              refine wpAnyH_takeD (i := 14) (v := ?_) 21 rfl rfl (by kernel_rfl) (by kernel_rfl) (by kernel_rfl) (fun _ _ _ _ _ h => h) (by rfl) (by assumption) ?_ ?_
              rotate_left; focus (intro w hSw; (try dsimp only at hSw); go_simp; try (with_reducible rfl))
              try simp only [Act.put, List.setIfInBounds_toArray, List.set_cons_succ, List.set_cons_zero]
              refine wpAnyH_done (by kernel_rfl) ?_ _
              clear hHeld
              try go_wp2_with fail
              go_meet
              exact ⟨X2.heap.size, X12.heap.size, p1, i1, k1, p2, i2, k2, rfl, rfl, rfl, k8, k9, a1, a2⟩
            ·go_simp
             obtain ⟨X21, hX21⟩ : ∃ X21, X21 = World.alloc X2 (Obj.cells #[.slice none 0 0] 28) := ⟨_, rfl⟩
             rw [← hX21]
             have hbe : Below X2.heap.size X2 X21 := hX21 ▸ ext_alloc (Below.refl _ _) _
             have bX21 := ext_trans bX2 hbe
             have u1 := u1.later hbe
             have v1 := v1.later hbe
             have k9 := Blk.new X2 28 #[.slice none 0 0]
             rw [← hX21] at k9
             have hgk9 : w22.heap.size ≤ X2.heap.size := bX2.size
             clear hX21 hbe
             refine hK.out _ _ (by exact below_cell (by assumption) C0.out) (fun hHeld => ?_)
             clear hK K; try simp only [Act.put, List.setIfInBounds_toArray, List.set_cons_succ, List.set_cons_zero]
             refine wpAnyH_ready (rs := [5, 10]) (by kernel_rfl) (by simp) ?_
             refine AllReadyH.cons rfl (fun K hK => ?_) (AllReadyH.cons rfl (fun K hK => ?_) AllReadyH.nil)
             ·have hcc := own_cap u1.own
              go_simp; (go_at_call 10; refine (CI.out A1 c1 _ D1 d1 _ X21 u1.reads (Nat.le_refl _) hcc.1 hcc.2 v1.reads (Nat.le_refl _)).mono ?_; rintro e X22 ⟨p1, i1, k1, p2, i2, k2, rfl, q⟩); (try dsimp only)
              have hbe := q.one.ext
              have bX22 := ext_trans bX21 hbe
              have a1 := q.one.since bX21
              have a2 := q.two.since bX21
              have k9 := k9.below hbe k9.lt
              clear hbe q u1 v1 hcc
              refine hK.out _ _ (by exact below_cell (by assumption) C0.out) (fun hHeld => ?_)
              clear hK K; try simp only [Act.put, List.setIfInBounds_toArray, List.set_cons_succ, List.set_cons_zero]
              refine wpAnyH_takeD (i := 6) (v := ?_) 123 rfl rfl (by kernel_rfl) (by kernel_rfl) (by kernel_rfl) (fun _ _ _ _ _ h => h) (by rfl) (by assumption) ?_ ?_
              rotate_left; focus (intro w hSw; (try dsimp only at hSw); go_simp; try (with_reducible rfl))
              try simp only [Act.put, List.setIfInBounds_toArray, List.set_cons_succ, List.set_cons_zero]
              refine wpAnyH_takeD (i := 7) (v := ?_) 130 rfl rfl (by kernel_rfl) (by kernel_rfl) (by kernel_rfl) (fun _ _ _ _ _ h => h) (by rfl) (by assumption) ?_ ?_
              rotate_left; focus (intro w hSw; (try dsimp only at hSw); go_simp; try (with_reducible rfl))
              try simp only [Act.put, List.setIfInBounds_toArray, List.set_cons_succ, List.set_cons_zero]
              refine wpAnyH_takeD (i := 8) (v := ?_) 131 rfl rfl (by kernel_rfl) (by kernel_rfl) (by kernel_rfl) (fun _ _ _ _ _ h => h) (by rfl) (by assumption) ?_ ?_
              rotate_left; focus (intro w hSw; (try dsimp only at hSw); go_simp; try (with_reducible rfl))
              try simp only [Act.put, List.setIfInBounds_toArray, List.set_cons_succ, List.set_cons_zero]
              refine wpAnyH_takeD (i := 9) (v := ?_) 132 rfl rfl (by kernel_rfl) (by kernel_rfl) (by kernel_rfl) (fun _ _ _ _ _ h => h) (by rfl) (by assumption) ?_ ?_
              rotate_left; focus (intro w hSw; (try dsimp only at hSw); go_simp; try (with_reducible rfl))
              try simp only [Act.put, List.setIfInBounds_toArray, List.set_cons_succ, List.set_cons_zero]
              refine wpAnyH_ready (rs := [10]) (by kernel_rfl) (by simp) ?_
              refine AllReadyH.cons rfl (fun K hK => ?_) AllReadyH.nil
              go_simp
              obtain ⟨X23, hX23⟩ : ∃ X23, X23 = World.alloc X22 (Obj.cells #[.slice none 0 0] 28) := ⟨_, rfl⟩
              rw [← hX23]
              have hbe : Below X22.heap.size X22 X23 := hX23 ▸ ext_alloc (Below.refl _ _) _
              have bX23 := ext_trans bX22 hbe
              have hne : X2.heap.size ≠ X22.heap.size := Nat.ne_of_lt k9.lt
              have a1 := a1.later hbe
              have a2 := a2.later hbe
              have k9 := k9.below hbe k9.lt
              have k8 := Blk.new X22 28 #[.slice none 0 0]
              rw [← hX23] at k8
              have hgk8 : w22.heap.size ≤ X22.heap.size := bX22.size
              clear hX23 hbe
              refine hK.out _ _ (by exact below_cell (by assumption) C0.out) (fun hHeld => ?_)
              clear hK K; try simp only [Act.put, List.setIfInBounds_toArray, List.set_cons_succ, List.set_cons_zero]
              refine wpAnyH_ready (rs := [12]) (by kernel_rfl) (by simp) ?_
              refine AllReadyH.cons rfl (fun K hK => ?_) AllReadyH.nil
              obtain ⟨v0, f0⟩ := leaf_cell k8
              go_simp
              clear v0 f0
              obtain ⟨a1, a2, k8, k9, bX24⟩ := leaf_set a1 a2 k8 k9 hgk8 (by first | exact hne | exact hne.symm) bX23 (.slice p1 i1 k1)
              generalize World.setCell X23 ⟨X22.heap.size, 0, none⟩ (.slice p1 i1 k1) = X24 at a1 a2 k8 k9 bX24 ⊢
              refine hK.out _ _ (by exact below_cell (by assumption) C0.out) (fun hHeld => ?_)
              clear hK K; try simp only [Act.put, List.setIfInBounds_toArray, List.set_cons_succ, List.set_cons_zero]
              refine wpAnyH_ready (rs := [13]) (by kernel_rfl) (by simp) ?_
              refine AllReadyH.cons rfl (fun K hK => ?_) AllReadyH.nil
              obtain ⟨v0, f0⟩ := leaf_cell k9
              go_simp
              clear v0 f0
              obtain ⟨a1, a2, k9, k8, bX25⟩ := leaf_set a1 a2 k9 k8 hgk9 (by first | exact hne | exact hne.symm) bX24 (.slice p2 i2 k2)
              generalize World.setCell X24 ⟨X2.heap.size, 0, none⟩ (.slice p2 i2 k2) = X25 at a1 a2 k8 k9 bX25 ⊢
              refine hK.out _ _ (by exact below_cell (by assumption) C0.out) (fun hHeld => ?_)
              clear hK K; try simp only [Act.put, List.setIfInBounds_toArray, List.set_cons_succ, List.set_cons_zero]
              refine wpAnyH_takeD (i := 14) (v := ?_) 21 rfl rfl (by kernel_rfl) (by kernel_rfl) (by kernel_rfl) (fun _ _ _ _ _ h => h) (by rfl) (by assumption) ?_ ?_
              rotate_left; focus (intro w hSw; (try dsimp only at hSw); go_simp; try (with_reducible rfl))
              try simp only [Act.put, List.setIfInBounds_toArray, List.set_cons_succ, List.set_cons_zero]
              refine wpAnyH_done (by kernel_rfl) ?_ _
              clear hHeld
              try go_wp2_with fail
              go_meet
              exact ⟨X22.heap.size, X2.heap.size, p1, i1, k1, p2, i2, k2, rfl, rfl, rfl, k8, k9, a1, a2⟩
             ·go_simp
              obtain ⟨X26, hX26⟩ : ∃ X26, X26 = World.alloc X21 (Obj.cells #[.slice none 0 0] 28) := ⟨_, rfl⟩
              rw [← hX26]
              have hbe : Below X21.heap.size X21 X26 := hX26 ▸ ext_alloc (Below.refl _ _) _
              have bX26 := ext_trans bX21 hbe
              have hne : X2.heap.size ≠ X21.heap.size := Nat.ne_of_lt k9.lt
              have u1 := u1.later hbe
              have v1 := v1.later hbe
              have k9 := k9.below hbe k9.lt
              have k8 := Blk.new X21 28 #[.slice none 0 0]
              rw [← hX26] at k8
              have hgk8 : w22.heap.size ≤ X21.heap.size := bX21.size
              clear hX26 hbe
              refine hK.out _ _ (by exact below_cell (by assumption) C0.out) (fun hHeld => ?_)
              clear hK K; try simp only [Act.put, List.setIfInBounds_toArray, List.set_cons_succ, List.set_cons_zero]
              refine wpAnyH_ready (rs := [5]) (by kernel_rfl) (by simp) ?_
              refine AllReadyH.cons rfl (fun K hK => ?_) AllReadyH.nil
              have hcc := own_cap u1.own
              go_simp; (go_at_call 10; refine (CI.out A1 c1 _ D1 d1 _ X26 u1.reads (Nat.le_refl _) hcc.1 hcc.2 v1.reads (Nat.le_refl _)).mono ?_; rintro e X27 ⟨p1, i1, k1, p2, i2, k2, rfl, q⟩); (try dsimp only)
              have hbe := q.one.ext
              have bX27 := ext_trans bX26 hbe
              have a1 := q.one.since bX26
              have a2 := q.two.since bX26
              have k8 := k8.below hbe k8.lt
              have k9 := k9.below hbe k9.lt
              clear hbe q u1 v1 hcc
              refine hK.out _ _ (by exact below_cell (by assumption) C0.out) (fun hHeld => ?_)
              clear hK K; try simp only [Act.put, List.setIfInBounds_toArray, List.set_cons_succ, List.set_cons_zero]
              refine wpAnyH_takeD (i := 6) (v := ?_) 123 rfl rfl (by kernel_rfl) (by kernel_rfl) (by kernel_rfl) (fun _ _ _ _ _ h => h) (by rfl) (by assumption) ?_ ?_
              rotate_left; focus (intro w hSw; (try dsimp only at hSw); go_simp; try (with_reducible rfl))
              try simp only [Act.put, List.setIfInBounds_toArray, List.set_cons_succ, List.set_cons_zero]
              refine wpAnyH_takeD (i := 7) (v := ?_) 130 rfl rfl (by kernel_rfl) (by kernel_rfl) (by kernel_rfl) (fun _ _ _ _ _ h => h) (by rfl) (by assumption) ?_ ?_
              rotate_left; focus (intro w hSw; (try dsimp only at hSw); go_simp; try (with_reducible rfl))
              try simp only [Act.put, List.setIfInBounds_toArray, List.set_cons_succ, List.set_cons_zero]
              refine wpAnyH_takeD (i := 8) (v := ?_) 131 rfl rfl (by kernel_rfl) (by kernel_rfl) (by kernel_rfl) (fun _ _ _ _ _ h => h) (by rfl) (by assumption) ?_ ?_
              rotate_left; focus (intro w hSw; (try dsimp only at hSw); go_simp; try (with_reducible rfl))
              try simp only [Act.put, List.setIfInBounds_toArray, List.set_cons_succ, List.set_cons_zero]
              refine wpAnyH_takeD (i := 9) (v := ?_) 132 rfl rfl (by kernel_rfl) (by kernel_rfl) (by kernel_rfl) (fun _ _ _ _ _ h => h) (by rfl) (by assumption) ?_ ?_
              rotate_left; focus (intro w hSw; (try dsimp only at hSw); go_simp; try (with_reducible rfl))
              try simp only [Act.put, List.setIfInBounds_toArray, List.set_cons_succ, List.set_cons_zero]
              refine wpAnyH_ready (rs := [12]) (by kernel_rfl) (by simp) ?_
              refine AllReadyH.cons rfl (fun K hK => ?_) AllReadyH.nil
              obtain ⟨v0, f0⟩ := leaf_cell k8
              go_simp
              clear v0 f0
              obtain ⟨a1, a2, k8, k9, bX28⟩ := leaf_set a1 a2 k8 k9 hgk8 (by first | exact hne | exact hne.symm) bX27 (.slice p1 i1 k1)
              generalize World.setCell X27 ⟨X21.heap.size, 0, none⟩ (.slice p1 i1 k1) = X28 at a1 a2 k8 k9 bX28 ⊢
              refine hK.out _ _ (by exact below_cell (by assumption) C0.out) (fun hHeld => ?_)
              clear hK K; try simp only [Act.put, List.setIfInBounds_toArray, List.set_cons_succ, List.set_cons_zero]
              refine wpAnyH_ready (rs := [13]) (by kernel_rfl) (by simp) ?_
              refine AllReadyH.cons rfl (fun K hK => ?_) AllReadyH.nil
              obtain ⟨v0, f0⟩ := leaf_cell k9
              go_simp
              clear v0 f0
              obtain ⟨a1, a2, k9, k8, bX29⟩ := leaf_set a1 a2 k9 k8 hgk9 (by first | exact hne | exact hne.symm) bX28 (.slice p2 i2 k2)
              generalize World.setCell X28 ⟨X2.heap.size, 0, none⟩ (.slice p2 i2 k2) = X29 at a1 a2 k8 k9 bX29 ⊢
              refine hK.out _ _ (by exact below_cell (by assumption) C0.out) (fun hHeld => ?_)
              clear hK K; try simp only [Act.put, List.setIfInBounds_toArray, List.set_cons_succ, List.set_cons_zero]
              refine wpAnyH_takeD (i := 14) (v := ?_) 21 rfl rfl (by kernel_rfl) (by kernel_rfl) (by kernel_rfl) (fun _ _ _ _ _ h => h) (by rfl) (by assumption) ?_ ?_
              rotate_left; focus (intro w hSw; (try dsimp only at hSw); go_simp; try (with_reducible rfl))
              try simp only [Act.put, List.setIfInBounds_toArray, List.set_cons_succ, List.set_cons_zero]
              refine wpAnyH_done (by kernel_rfl) ?_ _
              clear hHeld
              try go_wp2_with fail
              go_meet
              exact ⟨X21.heap.size, X2.heap.size, p1, i1, k1, p2, i2, k2, rfl, rfl, rfl, k8, k9, a1, a2⟩
           ·go_simp
            obtain ⟨X30, hX30⟩ : ∃ X30, X30 = World.alloc X1 (Obj.cells #[.slice none 0 0] 28) := ⟨_, rfl⟩
            rw [← hX30]
            have hbe : Below X1.heap.size X1 X30 := hX30 ▸ ext_alloc (Below.refl _ _) _
            have bX30 := ext_trans bX1 hbe
            have u1 := u1.later hbe
            have k8 := Blk.new X1 28 #[.slice none 0 0]
            rw [← hX30] at k8
            have hgk8 : w22.heap.size ≤ X1.heap.size := bX1.size
            clear hX30 hbe
            refine hK.out _ _ (by exact below_cell (by assumption) C0.out) (fun hHeld => ?_)
            clear hK K; try simp only [Act.put, List.setIfInBounds_toArray, List.set_cons_succ, List.set_cons_zero]
            refine wpAnyH_ready (rs := [3, 11]) (by kernel_rfl) (by simp) ?_
            refine AllReadyH.cons rfl (fun K hK => ?_) (AllReadyH.cons rfl (fun K hK => ?_) AllReadyH.nil)
            ·go_simp; (go_at_call 9; refine (toAmount_any D m k _ zs X30 (RD3.out.below (bX30.mono HZ3.out)) (Nat.le_trans HZ3.out bX30.size) m2).mono ?_; rintro e X31 ⟨D1, d1, rfl, v1⟩); (try dsimp only)
             have hbe := v1.ext
             have bX31 := ext_trans bX30 hbe
             have u1 := u1.later hbe
             have k8 := k8.below hbe k8.lt
             clear hbe
             refine hK.out _ _ (by exact below_cell (by assumption) C0.out) (fun hHeld => ?_)
             clear hK K; try simp only [Act.put, List.setIfInBounds_toArray, List.set_cons_succ, List.set_cons_zero]
             refine wpAnyH_ready (rs := [5, 11]) (by kernel_rfl) (by simp) ?_
             refine AllReadyH.cons rfl (fun K hK => ?_) (AllReadyH.cons rfl (fun K hK => ?_) AllReadyH.nil)
             ·have hcc := own_cap u1.own
              go_simp; (go_at_call 10; refine (CI.out A1 c1 _ D1 d1 _ X31 u1.reads (Nat.le_refl _) hcc.1 hcc.2 v1.reads (Nat.le_refl _)).mono ?_; rintro e X32 ⟨p1, i1, k1, p2, i2, k2, rfl, q⟩); (try dsimp only)
              have hbe := q.one.ext
              have bX32 := ext_trans bX31 hbe
              have a1 := q.one.since bX31
              have a2 := q.two.since bX31
              have k8 := k8.below hbe k8.lt
              clear hbe q u1 v1 hcc
              refine hK.out _ _ (by exact below_cell (by assumption) C0.out) (fun hHeld => ?_)
              clear hK K; try simp only [Act.put, List.setIfInBounds_toArray, List.set_cons_succ, List.set_cons_zero]
              refine wpAnyH_takeD (i := 6) (v := ?_) 123 rfl rfl (by kernel_rfl) (by kernel_rfl) (by kernel_rfl) (fun _ _ _ _ _ h => h) (by rfl) (by assumption) ?_ ?_
              rotate_left; focus (intro w hSw; (try dsimp only at hSw); go_simp; try (with_reducible rfl))
              try simp only [Act.put, List.setIfInBounds_toArray, List.set_cons_succ, List.set_cons_zero]
              refine wpAnyH_takeD (i := 7) (v := ?_) 130 rfl rfl (by kernel_rfl) (by kernel_rfl) (by kernel_rfl) (fun _ _ _ _ _ h => h) (by rfl) (by assumption) ?_ ?_
              rotate_left; focus (intro w hSw; (try dsimp only at hSw); go_simp; try (with_reducible rfl))
              try simp only [Act.put, List.setIfInBounds_toArray, List.set_cons_succ, List.set_cons_zero]
              refine wpAnyH_takeD (i := 8) (v := ?_) 131 rfl rfl (by kernel_rfl) (by kernel_rfl) (by kernel_rfl) (fun _ _ _ _ _ h => h) (by rfl) (by assumption) ?_ ?_
              rotate_left; focus (intro w hSw; (try dsimp only at hSw); go_simp; try (with_reducible rfl))
              try simp only [Act.put, List.setIfInBounds_toArray, List.set_cons_succ, List.set_cons_zero]
              refine wpAnyH_takeD (i := 9) (v := ?_) 132 rfl rfl (by kernel_rfl) (by kernel_rfl) (by kernel_rfl) (fun _ _ _ _ _ h => h) (by rfl) (by assumption) ?_ ?_
              rotate_left; focus (intro w hSw; (try dsimp only at hSw); go_simp; try (with_reducible rfl))
              try simp only [Act.put, List.setIfInBounds_toArray, List.set_cons_succ, List.set_cons_zero]
              refine wpAnyH_ready (rs := [11]) (by kernel_rfl) (by simp) ?_
              refine AllReadyH.cons rfl (fun K hK => ?_) AllReadyH.nil
              go_simp
              obtain ⟨X33, hX33⟩ : ∃ X33, X33 = World.alloc X32 (Obj.cells #[.slice none 0 0] 28) := ⟨_, rfl⟩
              rw [← hX33]
              have hbe : Below X32.heap.size X32 X33 := hX33 ▸ ext_alloc (Below.refl _ _) _
              have bX33 := ext_trans bX32 hbe
              have hne : X1.heap.size ≠ X32.heap.size := Nat.ne_of_lt k8.lt
              have a1 := a1.later hbe
              have a2 := a2.later hbe
              have k8 := k8.below hbe k8.lt
              have k9 := Blk.new X32 28 #[.slice none 0 0]
              rw [← hX33] at k9
              have hgk9 : w22.heap.size ≤ X32.heap.size := bX32.size
              clear hX33 hbe
              refine hK.out _ _ (by exact below_cell (by assumption) C0.out) (fun hHeld => ?_)
              clear hK K; try simp only [Act.put, List.setIfInBounds_toArray, List.set_cons_succ, List.set_cons_zero]
              refine wpAnyH_ready (rs := [12]) (by kernel_rfl) (by simp) ?_
              refine AllReadyH.cons rfl (fun K hK => ?_) AllReadyH.nil
              obtain ⟨v0, f0⟩ := leaf_cell k8
              go_simp
              clear v0 f0
              obtain ⟨a1, a2, k8, k9, bX34⟩ := leaf_set a1 a2 k8 k9 hgk8 (by first | exact hne | exact hne.symm) bX33 (.slice p1 i1 k1)
              generalize World.setCell X33 ⟨X1.heap.size, 0, none⟩ (.slice p1 i1 k1) = X34 at a1 a2 k8 k9 bX34 ⊢
              refine hK.out _ _ (by exact below_cell (by assumption) C0.out) (fun hHeld => ?_)
              clear hK K; try simp only [Act.put, List.setIfInBounds_toArray, List.set_cons_succ, List.set_cons_zero]
              refine wpAnyH_ready (rs := [13]) (by kernel_rfl) (by simp) ?_
              refine AllReadyH.cons rfl (fun K hK => ?_) AllReadyH.nil
              obtain ⟨v0, f0⟩ := leaf_cell k9
              go_simp
              clear v0 f0
              obtain ⟨a1, a2, k9, k8, bX35⟩ := leaf_set a1 a2 k9 k8 hgk9 (by first | exact hne | exact hne.symm) bX34 (.slice p2 i2 k2)
              generalize World.setCell X34 ⟨X32.heap.size, 0, none⟩ (.slice p2 i2 k2) = X35 at a1 a2 k8 k9 bX35 ⊢
              refine hK.out _ _ (by exact below_cell (by assumption) C0.out) (fun hHeld => ?_)
              clear hK K; try simp only [Act.put, List.setIfInBounds_toArray, List.set_cons_succ, List.set_cons_zero]
              refine wpAnyH_takeD (i := 14) (v := ?_) 21 rfl rfl (by kernel_rfl) (by kernel_rfl) (by kernel_rfl) (fun _ _ _ _ _ h => h) (by rfl) (by assumption) ?_ ?_
              rotate_left; focus (intro w hSw; (try dsimp only at hSw); go_simp; try (with_reducible rfl))
              try simp only [Act.put, List.setIfInBounds_toArray, List.set_cons_succ, List.set_cons_zero]
              refine wpAnyH_done (by kernel_rfl) ?_ _
              clear hHeld
              try go_wp2_with fail
              go_meet
              exact ⟨X1.heap.size, X32.heap.size, p1, i1, k1, p2, i2, k2, rfl, rfl, rfl, k8, k9, a1, a2⟩
             ·go_simp
              obtain ⟨X36, hX36⟩ : ∃ X36, X36 = World.alloc X31 (Obj.cells #[.slice none 0 0] 28) := ⟨_, rfl⟩
              rw [← hX36]
              have hbe : Below X31.heap.size X31 X36 := hX36 ▸ ext_alloc (Below.refl _ _) _
              have bX36 := ext_trans bX31 hbe
              have hne : X1.heap.size ≠ X31.heap.size := Nat.ne_of_lt k8.lt
              have u1 := u1.later hbe
              have v1 := v1.later hbe
              have k8 := k8.below hbe k8.lt
              have k9 := Blk.new X31 28 #[.slice none 0 0]
              rw [← hX36] at k9
              have hgk9 : w22.heap.size ≤ X31.heap.size := bX31.size
              clear hX36 hbe
              refine hK.out _ _ (by exact below_cell (by assumption) C0.out) (fun hHeld => ?_)
              clear hK K; try simp only [Act.put, List.setIfInBounds_toArray, List.set_cons_succ, List.set_cons_zero]
              refine wpAnyH_ready (rs := [5]) (by kernel_rfl) (by simp) ?_
              refine AllReadyH.cons rfl (fun K hK => ?_) AllReadyH.nil
              have hcc := own_cap u1.own
              go_simp; (go_at_call 10; refine (CI.out A1 c1 _ D1 d1 _ X36 u1.reads (Nat.le_refl _) hcc.1 hcc.2 v1.reads (Nat.le_refl _)).mono ?_; rintro e X37 ⟨p1, i1, k1, p2, i2, k2, rfl, q⟩); (try dsimp only)
              have hbe := q.one.ext
              have bX37 := ext_trans bX36 hbe
              have a1 := q.one.since bX36
              have a2 := q.two.since bX36
              have k8 := k8.below hbe k8.lt
              have k9 := k9.below hbe k9.lt
              clear hbe q u1 v1 hcc
              refine hK.out _ _ (by exact below_cell (by assumption) C0.out) (fun hHeld => ?_)
              clear hK K; try simp only [Act.put, List.setIfInBounds_toArray, List.set_cons_succ, List.set_cons_zero]
              refine wpAnyH_takeD (i := 6) (v := ?_) 123 rfl rfl (by kernel_rfl) (by kernel_rfl) (by kernel_rfl) (fun _ _ _ _ _ h => h) (by rfl) (by assumption) ?_ ?_
              rotate_left; focus (intro w hSw; (try dsimp only at hSw); go_simp; try (with_reducible rfl))
              try simp only [Act.put, List.setIfInBounds_toArray, List.set_cons_succ, List.set_cons_zero]
              refine wpAnyH_takeD (i := 7) (v := ?_) 130 rfl rfl (by kernel_rfl) (by kernel_rfl) (by kernel_rfl) (fun _ _ _ _ _ h => h) (by rfl) (by assumption) ?_ ?_
              rotate_left; focus (intro w hSw; (try dsimp only at hSw); go_simp; try (with_reducible rfl))
              try simp only [Act.put, List.setIfInBounds_toArray, List.set_cons_succ, List.set_cons_zero]
              refine wpAnyH_takeD (i := 8) (v := ?_) 131 rfl rfl (by kernel_rfl) (by kernel_rfl) (by kernel_rfl) (fun _ _ _ _ _ h => h) (by rfl) (by assumption) ?_ ?_
              rotate_left; focus (intro w hSw; (try dsimp only at hSw); go_simp; try (with_reducible rfl))
              try simp only [Act.put, List.setIfInBounds_toArray, List.set_cons_succ, List.set_cons_zero]
              refine wpAnyH_takeD (i := 9) (v := ?_) 132 rfl rfl (by kernel_rfl) (by kernel_rfl) (by kernel_rfl) (fun _ _ _ _ _ h => h) (by rfl) (by assumption) ?_ ?_
              rotate_left; focus (intro w hSw; (try dsimp only at hSw); go_simp; try (with_reducible rfl))
              try simp only [Act.put, List.setIfInBounds_toArray, List.set_cons_succ, List.set_cons_zero]
              refine wpAnyH_ready (rs := [12]) (by kernel_rfl) (by simp) ?_
              refine AllReadyH.cons rfl (fun K hK => ?_) AllReadyH.nil
              obtain ⟨v0, f0⟩ := leaf_cell k8
              go_simp
              clear v0 f0
              obtain ⟨a1, a2, k8, k9, bX38⟩ := leaf_set a1 a2 k8 k9 hgk8 (by first | exact hne | exact hne.symm) bX37 (.slice p1 i1 k1)
              generalize World.setCell X37 ⟨X1.heap.size, 0, none⟩ (.slice p1 i1 k1) = X38 at a1 a2 k8 k9 bX38 ⊢
              refine hK.out _ _ (by exact below_cell (by assumption) C0.out) (fun hHeld => ?_)
              clear hK K; try simp only [Act.put, List.setIfInBounds_toArray, List.set_cons_succ, List.set_cons_zero]
              refine wpAnyH_ready (rs := [13]) (by kernel_rfl) (by simp) ?_
              refine AllReadyH.cons rfl (fun K hK => ?_) AllReadyH.nil
              obtain ⟨v0, f0⟩ := leaf_cell k9
              go_simp
              clear v0 f0
              obtain ⟨a1, a2, k9, k8, bX39⟩ := leaf_set a1 a2 k9 k8 hgk9 (by first | exact hne | exact hne.symm) bX38 (.slice p2 i2 k2)
              generalize World.setCell X38 ⟨X31.heap.size, 0, none⟩ (.slice p2 i2 k2) = X39 at a1 a2 k8 k9 bX39 ⊢
              refine hK.out _ _ (by exact below_cell (by assumption) C0.out) (fun hHeld => ?_)
              clear hK K; try simp only [Act.put, List.setIfInBounds_toArray, List.set_cons_succ, List.set_cons_zero]
              refine wpAnyH_takeD (i := 14) (v := ?_) 21 rfl rfl (by kernel_rfl) (by kernel_rfl) (by kernel_rfl) (fun _ _ _ _ _ h => h) (by rfl) (by assumption) ?_ ?_
              rotate_left; focus (intro w hSw; (try dsimp only at hSw); go_simp; try (with_reducible rfl))
              try simp only [Act.put, List.setIfInBounds_toArray, List.set_cons_succ, List.set_cons_zero]
              refine wpAnyH_done (by kernel_rfl) ?_ _
              clear hHeld
              try go_wp2_with fail
              go_meet
              exact ⟨X1.heap.size, X31.heap.size, p1, i1, k1, p2, i2, k2, rfl, rfl, rfl, k8, k9, a1, a2⟩
            ·go_simp
             obtain ⟨X40, hX40⟩ : ∃ X40, X40 = World.alloc X30 (Obj.cells #[.slice none 0 0] 28) := ⟨_, rfl⟩
             rw [← hX40]
             have hbe : Below X30.heap.size X30 X40 := hX40 ▸ ext_alloc (Below.refl _ _) _
             have bX40 := ext_trans bX30 hbe
             have hne : X1.heap.size ≠ X30.heap.size := Nat.ne_of_lt k8.lt
             have u1 := u1.later hbe
             have k8 := k8.below hbe k8.lt
             have k9 := Blk.new X30 28 #[.slice none 0 0]
             rw [← hX40] at k9
             have hgk9 : w22.heap.size ≤ X30.heap.size := bX30.size
             clear hX40 hbe
             refine hK.out _ _ (by exact below_cell (by assumption) C0.out) (fun hHeld => ?_)
             clear hK K; try simp only [Act.put, List.setIfInBounds_toArray, List.set_cons_succ, List.set_cons_zero]
             refine wpAnyH_ready (rs := [3]) (by kernel_rfl) (by simp) ?_
             refine AllReadyH.cons rfl (fun K hK => ?_) AllReadyH.nil
             go_simp; (go_at_call 9; refine (toAmount_any D m k _ zs X40 (RD3.out.below (bX40.mono HZ3.out)) (Nat.le_trans HZ3.out bX40.size) m2).mono ?_; rintro e X41 ⟨D1, d1, rfl, v1⟩); (try dsimp only)
             have hbe := v1.ext
             have bX41 := ext_trans bX40 hbe
             have u1 := u1.later hbe
             have k8 := k8.below hbe k8.lt
             have k9 := k9.below hbe k9.lt
             clear hbe
             refine hK.out _ _ (by exact below_cell (by assumption) C0.out) (fun hHeld => ?_)
             clear hK K; try simp only [Act.put, List.setIfInBounds_toArray, List.set_cons_succ, List.set_cons_zero]
             refine wpAnyH_ready (rs := [5]) (by kernel_rfl) (by simp) ?_
             refine AllReadyH.cons rfl (fun K hK => ?_) AllReadyH.nil
             have hcc := own_cap u1.own
             go_simp; (go_at_call 10; refine (CI.out A1 c1 _ D1 d1 _ X41 u1.reads (Nat.le_refl _) hcc.1 hcc.2 v1.reads (Nat.le_refl _)).mono ?_; rintro e X42 ⟨p1, i1, k1, p2, i2, k2, rfl, q⟩); (try dsimp only)
             have hbe := q.one.ext
             have bX42 := ext_trans bX41 hbe
             have a1 := q.one.since bX41
             have a2 := q.two.since bX41
             have k8 := k8.below hbe k8.lt
             have k9 := k9.below hbe k9.lt
             clear hbe q u1 v1 hcc
             refine hK.out _ _ (by exact below_cell (by assumption) C0.out) (fun hHeld => ?_)
             clear hK K; try simp only [Act.put, List.setIfInBounds_toArray, List.set_cons_succ, List.set_cons_zero]
             refine wpAnyH_takeD (i := 6) (v := ?_) 123 rfl rfl (by kernel_rfl) (by kernel_rfl) (by kernel_rfl) (fun _ _ _ _ _ h => h) (by rfl) (by assumption) ?_ ?_
             rotate_left; focus (intro w hSw; (try dsimp only at hSw); go_simp; try (with_reducible rfl))
             try simp only [Act.put, List.setIfInBounds_toArray, List.set_cons_succ, List.set_cons_zero]
             refine wpAnyH_takeD (i := 7) (v := ?_) 130 rfl rfl (by kernel_rfl) (by kernel_rfl) (by kernel_rfl) (fun _ _ _ _ _ h => h) (by rfl) (by assumption) ?_ ?_
             rotate_left; focus (intro w hSw; (try dsimp only at hSw); go_simp; try (with_reducible rfl))
             try simp only [Act.put, List.setIfInBounds_toArray, List.set_cons_succ, List.set_cons_zero]
             refine wpAnyH_takeD (i := 8) (v := ?_) 131 rfl rfl (by kernel_rfl) (by kernel_rfl) (by kernel_rfl) (fun _ _ _ _ _ h => h) (by rfl) (by assumption) ?_ ?_
             rotate_left; focus (intro w hSw; (try dsimp only at hSw); go_simp; try (with_reducible rfl))
             try simp only [Act.put, List.setIfInBounds_toArray, List.set_cons_succ, List.set_cons_zero]
             refine wpAnyH_takeD (i := 9) (v := ?_) 132 rfl rfl (by kernel_rfl) (by kernel_rfl) (by kernel_rfl) (fun _ _ _ _ _ h => h) (by rfl) (by assumption) ?_ ?_
             rotate_left; focus (intro w hSw; (try dsimp only at hSw); go_simp; try (with_reducible rfl))
             try simp only [Act.put, List.setIfInBounds_toArray, List.set_cons_succ, List.set_cons_zero]
             refine wpAnyH_ready (rs := [12]) (by kernel_rfl) (by simp) ?_
             refine AllReadyH.cons rfl (fun K hK => ?_) AllReadyH.nil
             obtain ⟨v0, f0⟩ := leaf_cell k8
             go_simp
             clear v0 f0
             obtain ⟨a1, a2, k8, k9, bX43⟩ := leaf_set a1 a2 k8 k9 hgk8 (by first | exact hne | exact hne.symm) bX42 (.slice p1 i1 k1)
             generalize World.setCell X42 ⟨X1.heap.size, 0, none⟩ (.slice p1 i1 k1) = X43 at a1 a2 k8 k9 bX43 ⊢
             refine hK.out _ _ (by exact below_cell (by assumption) C0.out) (fun hHeld => ?_)
             clear hK K; try simp only [Act.put, List.setIfInBounds_toArray, List.set_cons_succ, List.set_cons_zero]
             refine wpAnyH_ready (rs := [13]) (by kernel_rfl) (by simp) ?_
             refine AllReadyH.cons rfl (fun K hK => ?_) AllReadyH.nil
             obtain ⟨v0, f0⟩ := leaf_cell k9
             go_simp
             clear v0 f0
             obtain ⟨a1, a2, k9, k8, bX44⟩ := leaf_set a1 a2 k9 k8 hgk9 (by first | exact hne | exact hne.symm) bX43 (.slice p2 i2 k2)
             generalize World.setCell X43 ⟨X30.heap.size, 0, none⟩ (.slice p2 i2 k2) = X44 at a1 a2 k8 k9 bX44 ⊢
             refine hK.out _ _ (by exact below_cell (by assumption) C0.out) (fun hHeld => ?_)
             clear hK K; try simp only [Act.put, List.setIfInBounds_toArray, List.set_cons_succ, List.set_cons_zero]
             refine wpAnyH_takeD (i := 14) (v := ?_) 21 rfl rfl (by kernel_rfl) (by kernel_rfl) (by kernel_rfl) (fun _ _ _ _ _ h => h) (by rfl) (by assumption) ?_ ?_
             rotate_left; focus (intro w hSw; (try dsimp only at hSw); go_simp; try (with_reducible rfl))
             try simp only [Act.put, List.setIfInBounds_toArray, List.set_cons_succ, List.set_cons_zero]
             refine wpAnyH_done (by kernel_rfl) ?_ _
             clear hHeld
             try go_wp2_with fail
             go_meet
             exact ⟨X1.heap.size, X30.heap.size, p1, i1, k1, p2, i2, k2, rfl, rfl, rfl, k8, k9, a1, a2⟩
           ·go_simp
            obtain ⟨X45, hX45⟩ : ∃ X45, X45 = World.alloc X1 (Obj.cells #[.slice none 0 0] 28) := ⟨_, rfl⟩
            rw [← hX45]
            have hbe : Below X1.heap.size X1 X45 := hX45 ▸ ext_alloc (Below.refl _ _) _
            have bX45 := ext_trans bX1 hbe
            have u1 := u1.later hbe
            have k9 := Blk.new X1 28 #[.slice none 0 0]
            rw [← hX45] at k9
            have hgk9 : w22.heap.size ≤ X1.heap.size := bX1.size
            clear hX45 hbe
            refine hK.out _ _ (by exact below_cell (by assumption) C0.out) (fun hHeld => ?_)
            clear hK K; try simp only [Act.put, List.setIfInBounds_toArray, List.set_cons_succ, List.set_cons_zero]
            refine wpAnyH_ready (rs := [3, 10]) (by kernel_rfl) (by simp) ?_
            refine AllReadyH.cons rfl (fun K hK => ?_) (AllReadyH.cons rfl (fun K hK => ?_) AllReadyH.nil)
            ·go_simp; (go_at_call 9; refine (toAmount_any D m k _ zs X45 (RD3.out.below (bX45.mono HZ3.out)) (Nat.le_trans HZ3.out bX45.size) m2).mono ?_; rintro e X46 ⟨D1, d1, rfl, v1⟩); (try dsimp only)
             have hbe := v1.ext
             have bX46 := ext_trans bX45 hbe
             have u1 := u1.later hbe
             have k9 := k9.below hbe k9.lt
             clear hbe
             refine hK.out _ _ (by exact below_cell (by assumption) C0.out) (fun hHeld => ?_)
             clear hK K; try simp only [Act.put, List.setIfInBounds_toArray, List.set_cons_succ, List.set_cons_zero]
             refine wpAnyH_ready (rs := [5, 10]) (by kernel_rfl) (by simp) ?_
             refine AllReadyH.cons rfl (fun K hK => ?_) (AllReadyH.cons rfl (fun K hK => ?_) AllReadyH.nil)
             ·have hcc := own_cap u1.own
              go_simp; (go_at_call 10; refine (CI.out A1 c1 _ D1 d1 _ X46 u1.reads (Nat.le_refl _) hcc.1 hcc.2 v1.reads (Nat.le_refl _)).mono ?_; rintro e X47 ⟨p1, i1, k1, p2, i2, k2, rfl, q⟩); (try dsimp only)
              have hbe := q.one.ext
              have bX47 := ext_trans bX46 hbe
              have a1 := q.one.since bX46
              have a2 := q.two.since bX46
              have k9 := k9.below hbe k9.lt
              clear hbe q u1 v1 hcc
              refine hK.out _ _ (by exact below_cell (by assumption) C0.out) (fun hHeld => ?_)
              clear hK K; try simp only [Act.put, List.setIfInBounds_toArray, List.set_cons_succ, List.set_cons_zero]
              refine wpAnyH_takeD (i := 6) (v := ?_) 123 rfl rfl (by kernel_rfl) (by kernel_rfl) (by kernel_rfl) (fun _ _ _ _ _ h => h) (by rfl) (by assumption) ?_ ?_
              rotate_left; focus (intro w hSw; (try dsimp only at hSw); go_simp; try (with_reducible rfl))
              try simp only [Act.put, List.setIfInBounds_toArray, List.set_cons_succ, List.set_cons_zero]
              refine wpAnyH_takeD (i := 7) (v := ?_) 130 rfl rfl (by kernel_rfl) (by kernel_rfl) (by kernel_rfl) (fun _ _ _ _ _ h => h) (by rfl) (by assumption) ?_ ?_
              rotate_left; focus (intro w hSw; (try dsimp only at hSw); go_simp; try (with_reducible rfl))
              try simp only [Act.put, List.setIfInBounds_toArray, List.set_cons_succ, List.set_cons_zero]
              refine wpAnyH_takeD (i := 8) (v := ?_) 131 rfl rfl (by kernel_rfl) (by kernel_rfl) (by kernel_rfl) (fun _ _ _ _ _ h => h) (by rfl) (by assumption) ?_ ?_
              rotate_left; focus (intro w hSw; (try dsimp only at hSw); go_simp; try (with_reducible rfl))
              try simp only [Act.put, List.setIfInBounds_toArray, List.set_cons_succ, List.set_cons_zero]
              refine wpAnyH_takeD (i := 9) (v := ?_) 132 rfl rfl (by kernel_rfl) (by kernel_rfl) (by kernel_rfl) (fun _ _ _ _ _ h => h) (by rfl) (by assumption) ?_ ?_
              rotate_left; focus (intro w hSw; (try dsimp only at hSw); go_simp; try (with_reducible rfl))
              try simp only [Act.put, List.setIfInBounds_toArray, List.set_cons_succ, List.set_cons_zero]
              refine wpAnyH_ready (rs := [10]) (by kernel_rfl) (by simp) ?_
              refine AllReadyH.cons rfl (fun K hK => ?_) AllReadyH.nil
              go_simp
              obtain ⟨X48, hX48⟩ : ∃ X48, X48 = World.alloc X47 (Obj.cells #[.slice none 0 0] 28) := ⟨_, rfl⟩
              rw [← hX48]
              have hbe : Below X47.heap.size X47 X48 := hX48 ▸ ext_alloc (Below.refl _ _) _
              have bX48 := ext_trans bX47 hbe
              have hne : X1.heap.size ≠ X47.heap.size := Nat.ne_of_lt k9.lt
              have a1 := a1.later hbe
              have a2 := a2.later hbe
              have k9 := k9.below hbe k9.lt
              have k8 := Blk.new X47 28 #[.slice none 0 0]
              rw [← hX48] at k8
              have hgk8 : w22.heap.size ≤ X47.heap.size := bX47.size
              clear hX48 hbe
              refine hK.out _ _ (by exact below_cell (by assumption) C0.out) (fun hHeld => ?_)
              clear hK K; try simp only [Act.put, List.setIfInBounds_toArray, List.set_cons_succ, List.set_cons_zero]
              refine wpAnyH_ready (rs := [12]) (by kernel_rfl) (by simp) ?_
              refine AllReadyH.cons rfl (fun K hK => ?_) AllReadyH.nil
              obtain ⟨v0, f0⟩ := leaf_cell k8
              go_simp
              clear v0 f0
              obtain ⟨a1, a2, k8, k9, bX49⟩ := leaf_set a1 a2 k8 k9 hgk8 (by first | exact hne | exact hne.symm) bX48 (.slice p1 i1 k1)
              generalize World.setCell X48 ⟨X47.heap.size, 0, none⟩ (.slice p1 i1 k1) = X49 at a1 a2 k8 k9 bX49 ⊢
              refine hK.out _ _ (by exact below_cell (by assumption) C0.out) (fun hHeld => ?_)
              clear hK K; try simp only [Act.put, List.setIfInBounds_toArray, List.set_cons_succ, List.set_cons_zero]
              refine wpAnyH_ready (rs := [13]) (by kernel_rfl) (by simp) ?_
              refine AllReadyH.cons rfl (fun K hK => ?_) AllReadyH.nil
              obtain ⟨v0, f0⟩ := leaf_cell k9
              go_simp
              clear v0 f0
              obtain ⟨a1, a2, k9, k8, bX50⟩ := leaf_set a1 a2 k9 k8 hgk9 (by first | exact hne | exact hne.symm) bX49 (.slice p2 i2 k2)
              generalize World.setCell X49 ⟨X1.heap.size, 0, none⟩ (.slice p2 i2 k2) = X50 at a1 a2 k8 k9 bX50 ⊢
              refine hK.out _ _ (by exact below_cell (by assumption) C0.out) (fun hHeld => ?_)
              clear hK K; try simp only [Act.put, List.setIfInBounds_toArray, List.set_cons_succ, List.set_cons_zero]
              refine wpAnyH_takeD (i := 14) (v := ?_) 21 rfl rfl (by kernel_rfl) (by kernel_rfl) (by kernel_rfl) (fun _ _ _ _ _ h => h) (by rfl) (by assumption) ?_ ?_
              rotate_left; focus (intro w hSw; (try dsimp only at hSw); go_simp; try (with_reducible rfl))
              try simp only [Act.put, List.setIfInBounds_toArray, List.set_cons_succ, List.set_cons_zero]
              refine wpAnyH_done (by kernel_rfl) ?_ _
              clear hHeld
              try go_wp2_with fail
              go_meet
              exact ⟨X47.heap.size, X1.heap.size, p1, i1, k1, p2, i2, k2, rfl, rfl, rfl, k8, k9, a1, a2⟩
             ·go_simp
              obtain ⟨X51, hX51⟩ : ∃ X51, X51 = World.alloc X46 (Obj.cells #[.slice none 0 0] 28) := ⟨_, rfl⟩
              rw [← hX51]
              have hbe : Below X46.heap.size X46 X51 := hX51 ▸ ext_alloc (Below.refl _ _) _
              have bX51 := ext_trans bX46 hbe
              have hne : X1.heap.size ≠ X46.heap.size := Nat.ne_of_lt k9.lt
              have u1 := u1.later hbe
              have v1 := v1.later hbe
              have k9 := k9.below hbe k9.lt
              have k8 := Blk.new X46 28 #[.slice none 0 0]
              rw [← hX51] at k8
              have hgk8 : w22.heap.size ≤ X46.heap.size := bX46.size
              clear hX51 hbe
              refine hK.out _ _ (by exact below_cell (by assumption) C0.out) (fun hHeld => ?_)
              clear hK K; try simp only [Act.put, List.setIfInBounds_toArray, List.set_cons_succ, List.set_cons_zero]
              refine wpAnyH_ready (rs := [5]) (by kernel_rfl) (by simp) ?_
              refine AllReadyH.cons rfl (fun K hK => ?_) AllReadyH.nil
              have hcc := own_cap u1.own
              go_simp; (go_at_call 10; refine (CI.out A1 c1 _ D1 d1 _ X51 u1.reads (Nat.le_refl _) hcc.1 hcc.2 v1.reads (Nat.le_refl _)).mono ?_; rintro e X52 ⟨p1, i1, k1, p2, i2, k2, rfl, q⟩); (try dsimp only)
              have hbe := q.one.ext
              have bX52 := ext_trans bX51 hbe
              have a1 := q.one.since bX51
              have a2 := q.two.since bX51
              have k8 := k8.below hbe k8.lt
              have k9 := k9.below hbe k9.lt
              clear hbe q u1 v1 hcc
              refine hK.out _ _ (by exact below_cell (by assumption) C0.out) (fun hHeld => ?_)
              clear hK K; try simp only [Act.put, List.setIfInBounds_toArray, List.set_cons_succ, List.set_cons_zero]
              refine wpAnyH_takeD (i := 6) (v := ?_) 123 rfl rfl (by kernel_rfl) (by kernel_rfl) (by kernel_rfl) (fun _ _ _ _ _ h => h) (by rfl) (by assumption) ?_ ?_
              rotate_left; focus (intro w hSw; (try dsimp only at hSw); go_simp; try (with_reducible rfl))
              try simp only [Act.put, List.setIfInBounds_toArray, List.set_cons_succ, List.set_cons_zero]
              refine wpAnyH_takeD (i := 7) (v := ?_) 130 rfl rfl (by kernel_rfl) (by kernel_rfl) (by kernel_rfl) (fun _ _ _ _ _ h => h) (by rfl) (by assumption) ?_ ?_
              rotate_left; focus (intro w hSw; (try dsimp only at hSw); go_simp; try (with_reducible rfl))
              try simp only [Act.put, List.setIfInBounds_toArray, List.set_cons_succ, List.set_cons_zero]
              refine wpAnyH_takeD (i := 8) (v := ?_) 131 rfl rfl (by kernel_rfl) (by kernel_rfl) (by kernel_rfl) (fun _ _ _ _ _ h => h) (by rfl) (by assumption) ?_ ?_
              rotate_left; focus (intro w hSw; (try dsimp only at hSw); go_simp; try (with_reducible rfl))
              try simp only [Act.put, List.setIfInBounds_toArray, List.set_cons_succ, List.set_cons_zero]
              refine wpAnyH_takeD (i := 9) (v := ?_) 132 rfl rfl (by kernel_rfl) (by kernel_rfl) (by kernel_rfl) (fun _ _ _ _ _ h => h) (by rfl) (by assumption) ?_ ?_
              rotate_left; focus (intro w hSw; (try dsimp only at hSw); go_simp; try (with_reducible rfl))
              try simp only [Act.put, List.setIfInBounds_toArray, List.set_cons_succ, List.set_cons_zero]
              refine wpAnyH_ready (rs := [12]) (by kernel_rfl) (by simp) ?_
              refine AllReadyH.cons rfl (fun K hK => ?_) AllReadyH.nil
              obtain ⟨v0, f0⟩ := leaf_cell k8
              go_simp
              clear v0 f0
              obtain ⟨a1, a2, k8, k9, bX53⟩ := leaf_set a1 a2 k8 k9 hgk8 (by first | exact hne | exact hne.symm) bX52 (.slice p1 i1 k1)
              generalize World.setCell X52 ⟨X46.heap.size, 0, none⟩ (.slice p1 i1 k1) = X53 at a1 a2 k8 k9 bX53 ⊢
              refine hK.out _ _ (by exact below_cell (by assumption) C0.out) (fun hHeld => ?_)
              clear hK K; try simp only [Act.put, List.setIfInBounds_toArray, List.set_cons_succ, List.set_cons_zero]
              refine wpAnyH_ready (rs := [13]) (by kernel_rfl) (by simp) ?_
              refine AllReadyH.cons rfl (fun K hK => ?_) AllReadyH.nil
              obtain ⟨v0, f0⟩ := leaf_cell k9
              go_simp
              clear v0 f0
              obtain ⟨a1, a2, k9, k8, bX54⟩ := leaf_set a1 a2 k9 k8 hgk9 (by first | exact hne | exact hne.symm) bX53 (.slice p2 i2 k2)
              generalize World.setCell X53 ⟨X1.heap.size, 0, none⟩ (.slice p2 i2 k2) = X54 at a1 a2 k8 k9 bX54 ⊢
              refine hK.out _ _ (by exact below_cell (by assumption) C0.out) (fun hHeld => ?_)
              clear hK K; try simp only [Act.put, List.setIfInBounds_toArray, List.set_cons_succ, List.set_cons_zero]
              refine wpAnyH_takeD (i := 14) (v := ?_) 21 rfl rfl (by kernel_rfl) (by kernel_rfl) (by kernel_rfl) (fun _ _ _ _ _ h => h) (by rfl) (by assumption) ?_ ?_
              rotate_left; focus (intro w hSw; (try dsimp only at hSw); go_simp; try (with_reducible rfl))
              try simp only [Act.put, List.setIfInBounds_toArray, List.set_cons_succ, List.set_cons_zero]
              refine wpAnyH_done (by kernel_rfl) ?_ _
              clear hHeld
              try go_wp2_with fail
              go_meet
              exact ⟨X46.heap.size, X1.heap.size, p1, i1, k1, p2, i2, k2, rfl, rfl, rfl, k8, k9, a1, a2⟩
            ·go_simp
             obtain ⟨X55, hX55⟩ : ∃ X55, X55 = World.alloc X45 (Obj.cells #[.slice none 0 0] 28) := ⟨_, rfl⟩
             rw [← hX55]
             have hbe : Below X45.heap.size X45 X55 := hX55 ▸ ext_alloc (Below.refl _ _) _
             have bX55 := ext_trans bX45 hbe
             have hne : X1.heap.size ≠ X45.heap.size := Nat.ne_of_lt k9.lt
             have u1 := u1.later hbe
             have k9 := k9.below hbe k9.lt
             have k8 := Blk.new X45 28 #[.slice none 0 0]
             rw [← hX55] at k8
             have hgk8 : w22.heap.size ≤ X45.heap.size := bX45.size
             clear hX55 hbe
             refine hK.out _ _ (by exact below_cell (by assumption) C0.out) (fun hHeld => ?_)
             clear hK K; try simp only [Act.put, List.setIfInBounds_toArray, List.set_cons_succ, List.set_cons_zero]
             refine wpAnyH_ready (rs := [3]) (by kernel_rfl) (by simp) ?_
             refine AllReadyH.cons rfl (fun K hK => ?_) AllReadyH.nil
             go_simp; (go_at_call 9; refine (toAmount_any D m k _ zs X55 (RD3.out.below (bX55.mono HZ3.out)) (Nat.le_trans HZ3.out bX55.size) m2).mono ?_; rintro e X56 ⟨D1, d1, rfl, v1⟩); (try dsimp only)
             have hbe := v1.ext
             have bX56 := ext_trans bX55 hbe
             have u1 := u1.later hbe
             have k8 := k8.below hbe k8.lt
             have k9 := k9.below hbe k9.lt
             clear hbe
             refine hK.out _ _ (by exact below_cell (by assumption) C0.out) (fun hHeld => ?_)
             clear hK K; try simp only [Act.put, List.setIfInBounds_toArray, List.set_cons_succ, List.set_cons_zero]
             refine wpAnyH_ready (rs := [5]) (by kernel_rfl) (by simp) ?_
             refine AllReadyH.cons rfl (fun K hK => ?_) AllReadyH.nil
             have hcc := own_cap u1.own
             go_simp; (go_at_call 10; refine (CI.out A1 c1 _ D1 d1 _ X56 u1.reads (Nat.le_refl _) hcc.1 hcc.2 v1.reads (Nat.le_refl _)).mono ?_; rintro e X57 ⟨p1, i1, k1, p2, i2, k2, rfl, q⟩); (try dsimp only)
             have hbe := q.one.ext
             have bX57 := ext_trans bX56 hbe
             have a1 := q.one.since bX56
             have a2 := q.two.since bX56
             have k8 := k8.below hbe k8.lt
             have k9 := k9.below hbe k9.lt
             clear hbe q u1 v1 hcc
             refine hK.out _ _ (by exact below_cell (by assumption) C0.out) (fun hHeld => ?_)
             clear hK K; try simp only [Act.put, List.setIfInBounds_toArray, List.set_cons_succ, List.set_cons_zero]
             refine wpAnyH_takeD (i := 6) (v := ?_) 123 rfl rfl (by kernel_rfl) (by kernel_rfl) (by kernel_rfl) (fun _ _ _ _ _ h => h) (by rfl) (by assumption) ?_ ?_
             rotate_left; focus (intro w hSw; (try dsimp only at hSw); go_simp; try (with_reducible rfl))
             try simp only [Act.put, List.setIfInBounds_toArray, List.set_cons_succ, List.set_cons_zero]
             refine wpAnyH_takeD (i := 7) (v := ?_) 130 rfl rfl (by kernel_rfl) (by kernel_rfl) (by kernel_rfl) (fun _ _ _ _ _ h => h) (by rfl) (by assumption) ?_ ?_
             rotate_left; focus (intro w hSw; (try dsimp only at hSw); go_simp; try (with_reducible rfl))
             try simp only [Act.put, List.setIfInBounds_toArray, List.set_cons_succ, List.set_cons_zero]
             refine wpAnyH_takeD (i := 8) (v := ?_) 131 rfl rfl (by kernel_rfl) (by kernel_rfl) (by kernel_rfl) (fun _ _ _ _ _ h => h) (by rfl) (by assumption) ?_ ?_
             rotate_left; focus (intro w hSw; (try dsimp only at hSw); go_simp; try (with_reducible rfl))
             try simp only [Act.put, List.setIfInBounds_toArray, List.set_cons_succ, List.set_cons_zero]
             refine wpAnyH_takeD (i := 9) (v := ?_) 132 rfl rfl (by kernel_rfl) (by kernel_rfl) (by kernel_rfl) (fun _ _ _ _ _ h => h) (by rfl) (by assumption) ?_ ?_
             rotate_left; focus (intro w hSw; (try dsimp only at hSw); go_simp; try (with_reducible rfl))
             try simp only [Act.put, List.setIfInBounds_toArray, List.set_cons_succ, List.set_cons_zero]
             refine wpAnyH_ready (rs := [12]) (by kernel_rfl) (by simp) ?_
             refine AllReadyH.cons rfl (fun K hK => ?_) AllReadyH.nil
             obtain ⟨v0, f0⟩ := leaf_cell k8
             go_simp
             clear v0 f0
             obtain ⟨a1, a2, k8, k9, bX58⟩ := leaf_set a1 a2 k8 k9 hgk8 (by first | exact hne | exact hne.symm) bX57 (.slice p1 i1 k1)
             generalize World.setCell X57 ⟨X45.heap.size, 0, none⟩ (.slice p1 i1 k1) = X58 at a1 a2 k8 k9 bX58 ⊢
             refine hK.out _ _ (by exact below_cell (by assumption) C0.out) (fun hHeld => ?_)
             clear hK K; try simp only [Act.put, List.setIfInBounds_toArray, List.set_cons_succ, List.set_cons_zero]
             refine wpAnyH_ready (rs := [13]) (by kernel_rfl) (by simp) ?_
             refine AllReadyH.cons rfl (fun K hK => ?_) AllReadyH.nil
             obtain ⟨v0, f0⟩ := leaf_cell k9
             go_simp
             clear v0 f0
             obtain ⟨a1, a2, k9, k8, bX59⟩ := leaf_set a1 a2 k9 k8 hgk9 (by first | exact hne | exact hne.symm) bX58 (.slice p2 i2 k2)
             generalize World.setCell X58 ⟨X1.heap.size, 0, none⟩ (.slice p2 i2 k2) = X59 at a1 a2 k8 k9 bX59 ⊢
             refine hK.out _ _ (by exact below_cell (by assumption) C0.out) (fun hHeld => ?_)
             clear hK K; try simp only [Act.put, List.setIfInBounds_toArray, List.set_cons_succ, List.set_cons_zero]
             refine wpAnyH_takeD (i := 14) (v := ?_) 21 rfl rfl (by kernel_rfl) (by kernel_rfl) (by kernel_rfl) (fun _ _ _ _ _ h => h) (by rfl) (by assumption) ?_ ?_
             rotate_left; focus (intro w hSw; (try dsimp only at hSw); go_simp; try (with_reducible rfl))
             try simp only [Act.put, List.setIfInBounds_toArray, List.set_cons_succ, List.set_cons_zero]
             refine wpAnyH_done (by kernel_rfl) ?_ _
             clear hHeld
             try go_wp2_with fail
             go_meet
             exact ⟨X45.heap.size, X1.heap.size, p1, i1, k1, p2, i2, k2, rfl, rfl, rfl, k8, k9, a1, a2⟩
          ·go_simp
           obtain ⟨X60, hX60⟩ : ∃ X60, X60 = World.alloc X (Obj.cells #[.slice none 0 0] 28) := ⟨_, rfl⟩
           rw [← hX60]
           have hbe : Below X.heap.size X X60 := hX60 ▸ ext_alloc (Below.refl _ _) _
           have bX60 := ext_trans bX hbe
           have k8 := Blk.new X 28 #[.slice none 0 0]
           rw [← hX60] at k8
           have hgk8 : w22.heap.size ≤ X.heap.size := bX.size
           clear hX60 hbe
           refine hK.out _ _ (by exact below_cell (by assumption) C0.out) (fun hHeld => ?_)
           clear hK K; try simp only [Act.put, List.setIfInBounds_toArray, List.set_cons_succ, List.set_cons_zero]
           refine wpAnyH_ready (rs := [1, 11]) (by kernel_rfl) (by simp) ?_
           refine AllReadyH.cons rfl (fun K hK => ?_) (AllReadyH.cons rfl (fun K hK => ?_) AllReadyH.nil)
           ·go_simp; (go_at_call 8; refine (toUnitS_any A n c _ us X60 (RA3.out.below (bX60.mono HZ3.out)) (Nat.le_trans HZ3.out bX60.size) n2).mono ?_; rintro e X61 ⟨A1, c1, rfl, u1⟩); (try dsimp only)
            have hbe := u1.ext
            have bX61 := ext_trans bX60 hbe
            have k8 := k8.below hbe k8.lt
            clear hbe
            refine hK.out _ _ (by exact below_cell (by assumption) C0.out) (fun hHeld => ?_)
            clear hK K; try simp only [Act.put, List.setIfInBounds_toArray, List.set_cons_succ, List.set_cons_zero]
            refine wpAnyH_ready (rs := [3, 11]) (by kernel_rfl) (by simp) ?_
            refine AllReadyH.cons rfl (fun K hK => ?_) (AllReadyH.cons rfl (fun K hK => ?_) AllReadyH.nil)
            ·go_simp; (go_at_call 9; refine (toAmount_any D m k _ zs X61 (RD3.out.below (bX61.mono HZ3.out)) (Nat.le_trans HZ3.out bX61.size) m2).mono ?_; rintro e X62 ⟨D1, d1, rfl, v1⟩); (try dsimp only)
             have hbe := v1.ext
             have bX62 := ext_trans bX61 hbe
             have u1 := u1.later hbe
             have k8 := k8.below hbe k8.lt
             clear hbe
             refine hK.out _ _ (by exact below_cell (by assumption) C0.out) (fun hHeld => ?_)
             clear hK K; try simp only [Act.put, List.setIfInBounds_toArray, List.set_cons_succ, List.set_cons_zero]
             refine wpAnyH_ready (rs := [5, 11]) (by kernel_rfl) (by simp) ?_
             refine AllReadyH.cons rfl (fun K hK => ?_) (AllReadyH.cons rfl (fun K hK => ?_) AllReadyH.nil)
             ·have hcc := own_cap u1.own
              go_simp; (go_at_call 10; refine (CI.out A1 c1 _ D1 d1 _ X62 u1.reads (Nat.le_refl _) hcc.1 hcc.2 v1.reads (Nat.le_refl _)).mono ?_; rintro e X63 ⟨p1, i1, k1, p2, i2, k2, rfl, q⟩); (try dsimp only)
              have hbe := q.one.ext
              have bX63 := ext_trans bX62 hbe
              have a1 := q.one.since bX62
              have a2 := q.two.since bX62
              have k8 := k8.below hbe k8.lt
              clear hbe q u1 v1 hcc
              refine hK.out _ _ (by exact below_cell (by assumption) C0.out) (fun hHeld => ?_)
              clear hK K; try simp only [Act.put, List.setIfInBounds_toArray, List.set_cons_succ, List.set_cons_zero]
              refine wpAnyH_takeD (i := 6) (v := ?_) 123 rfl rfl (by kernel_rfl) (by kernel_rfl) (by kernel_rfl) (fun _ _ _ _ _ h => h) (by rfl) (by assumption) ?_ ?_
              rotate_left; focus (intro w hSw; (try dsimp only at hSw); go_simp; try (with_reducible rfl))
              try simp only [Act.put, List.setIfInBounds_toArray, List.set_cons_succ, List.set_cons_zero]
              refine wpAnyH_takeD (i := 7) (v := ?_) 130 rfl rfl (by kernel_rfl) (by kernel_rfl) (by kernel_rfl) (fun _ _ _ _ _ h => h) (by rfl) (by assumption) ?_ ?_
              rotate_left; focus (intro w hSw; (try dsimp only at hSw); go_simp; try (with_reducible rfl))
              try simp only [Act.put, List.setIfInBounds_toArray, List.set_cons_succ, List.set_cons_zero]
              refine wpAnyH_takeD (i := 8) (v := ?_) 131 rfl rfl (by kernel_rfl) (by kernel_rfl) (by kernel_rfl) (fun _ _ _ _ _ h => h) (by rfl) (by assumption) ?_ ?_
              rotate_left; focus (intro w hSw; (try dsimp only at hSw); go_simp; try (with_reducible rfl))
              try simp only [Act.put, List.setIfInBounds_toArray, List.set_cons_succ, List.set_cons_zero]
              refine wpAnyH_takeD (i := 9) (v := ?_) 132 rfl rfl (by kernel_rfl) (by kernel_rfl) (by kernel_rfl) (fun _ _ _ _ _ h => h) (by rfl) (by assumption) ?_ ?_
              rotate_left; focus (intro w hSw; (try dsimp only at hSw); go_simp; try (with_reducible rfl))
              try simp only [Act.put, List.setIfInBounds_toArray, List.set_cons_succ, List.set_cons_zero]
              refine wpAnyH_ready (rs := [11]) (by kernel_rfl) (by simp) ?_
              refine AllReadyH.cons rfl (fun K hK => ?_) AllReadyH.nil
              go_simp
              obtain ⟨X64, hX64⟩ : ∃ X64, X64 = World.alloc X63 (Obj.cells #[.slice none 0 0] 28) := ⟨_, rfl⟩
              rw [← hX64]
              have hbe : Below X63.heap.size X63 X64 := hX64 ▸ ext_alloc (Below.refl _ _) _
              have bX64 := ext_trans bX63 hbe
              have hne : X.heap.size ≠ X63.heap.size := Nat.ne_of_lt k8.lt
              have a1 := a1.later hbe
              have a2 := a2.later hbe
              have k8 := k8.below hbe k8.lt
              have k9 := Blk.new X63 28 #[.slice none 0 0]
              rw [← hX64] at k9
              have hgk9 : w22.heap.size ≤ X63.heap.size := bX63.size
              clear hX64 hbe
              refine hK.out _ _ (by exact below_cell (by assumption) C0.out) (fun hHeld => ?_)
              clear hK K; try simp only [Act.put, List.setIfInBounds_toArray, List.set_cons_succ, List.set_cons_zero]
              refine wpAnyH_ready (rs := [12]) (by kernel_rfl) (by simp) ?_
              refine AllReadyH.cons rfl (fun K hK => ?_) AllReadyH.nil
              obtain ⟨v0, f0⟩ := leaf_cell k8
              go_simp
              clear v0 f0
              obtain ⟨a1, a2, k8, k9, bX65⟩ := leaf_set a1 a2 k8 k9 hgk8 (by first | exact hne | exact hne.symm) bX64 (.slice p1 i1 k1)
              generalize World.setCell X64 ⟨X.heap.size, 0, none⟩ (.slice p1 i1 k1) = X65 at a1 a2 k8 k9 bX65 ⊢
              refine hK.out _ _ (by exact below_cell (by assumption) C0.out) (fun hHeld => ?_)
              clear hK K; try simp only [Act.put, List.setIfInBounds_toArray, List.set_cons_succ, List.set_cons_zero]
              refine wpAnyH_ready (rs := [13]) (by kernel_rfl) (by simp) ?_
              refine AllReadyH.cons rfl (fun K hK => ?_) AllReadyH.nil
              obtain ⟨v0, f0⟩ := leaf_cell k9
              go_simp
              clear v0 f0
              obtain ⟨a1, a2, k9, k8, bX66⟩ := leaf_set a1 a2 k9 k8 hgk9 (by first | exact hne | exact hne.symm) bX65 (.slice p2 i2 k2)
              generalize World.setCell X65 ⟨X63.heap.size, 0, none⟩ (.slice p2 i2 k2) = X66 at a1 a2 k8 k9 bX66 ⊢
              refine hK.out _ _ (by exact below_cell (by assumption) C0.out) (fun hHeld => ?_)
              clear hK K; try simp only [Act.put, List.setIfInBounds_toArray, List.set_cons_succ, List.set_cons_zero]
              refine wpAnyH_takeD (i := 14) (v := ?_) 21 rfl rfl (by kernel_rfl) (by kernel_rfl) (by kernel_rfl) (fun _ _ _ _ _ h => h) (by rfl) (by assumption) ?_ ?_
              rotate_left; focus (intro w hSw; (try dsimp only at hSw); go_simp; try (with_reducible rfl))
              try simp only [Act.put, List.setIfInBounds_toArray, List.set_cons_succ, List.set_cons_zero]
              refine wpAnyH_done (by kernel_rfl) ?_ _
              clear hHeld
              try go_wp2_with fail
              go_meet
              exact ⟨X.heap.size, X63.heap.size, p1, i1, k1, p2, i2, k2, rfl, rfl, rfl, k8, k9, a1, a2⟩
             ·go_simp
              obtain ⟨X67, hX67⟩ : ∃ X67, X67 = World.alloc X62 (Obj.cells #[.slice none 0 0] 28) := ⟨_, rfl⟩
              rw [← hX67]
              have hbe : Below X62.heap.size X62 X67 := hX67 ▸ ext_alloc (Below.refl _ _) _
              have bX67 := ext_trans bX62 hbe
              have hne : X.heap.size ≠ X62.heap.size := Nat.ne_of_lt k8.lt
              have u1 := u1.later hbe
              have v1 := v1.later hbe
              have k8 := k8.below hbe k8.lt
              have k9 := Blk.new X62 28 #[.slice none 0 0]
              rw [← hX67] at k9
              have hgk9 : w22.heap.size ≤ X62.heap.size := bX62.size
              clear hX67 hbe
              refine hK.out _ _ (by exact below_cell (by assumption) C0.out) (fun hHeld => ?_)
              clear hK K; try simp only [Act.put, List.setIfInBounds_toArray, List.set_cons_succ, List.set_cons_zero]
              refine wpAnyH_ready (rs := [5]) (by kernel_rfl) (by simp) ?_
              refine AllReadyH.cons rfl (fun K hK => ?_) AllReadyH.nil
              have hcc := own_cap u1.own
              go_simp; (go_at_call 10; refine (CI.out A1 c1 _ D1 d1 _ X67 u1.reads (Nat.le_refl _) hcc.1 hcc.2 v1.reads (Nat.le_refl _)).mono ?_; rintro e X68 ⟨p1, i1, k1, p2, i2, k2, rfl, q⟩); (try dsimp only)
              have hbe := q.one.ext
              have bX68 := ext_trans bX67 hbe
              have a1 := q.one.since bX67
              have a2 := q.two.since bX67
              have k8 := k8.below hbe k8.lt
              have k9 := k9.below hbe k9.lt
              clear hbe q u1 v1 hcc
              refine hK.out _ _ (by exact below_cell (by assumption) C0.out) (fun hHeld => ?_)
              clear hK K; try simp only [Act.put, List.setIfInBounds_toArray, List.set_cons_succ, List.set_cons_zero]
              refine wpAnyH_takeD (i := 6) (v := ?_) 123 rfl rfl (by kernel_rfl) (by kernel_rfl) (by kernel_rfl) (fun _ _ _ _ _ h => h) (by rfl) (by assumption) ?_ ?_
              rotate_left; focus (intro w hSw; (try dsimp only at hSw); go_simp; try (with_reducible rfl))
              try simp only [Act.put, List.setIfInBounds_toArray, List.set_cons_succ, List.set_cons_zero]
              refine wpAnyH_takeD (i := 7) (v := ?_) 130 rfl rfl (by kernel_rfl) (by kernel_rfl) (by kernel_rfl) (fun _ _ _ _ _ h => h) (by rfl) (by assumption) ?_ ?_
              rotate_left; focus (intro w hSw; (try dsimp only at hSw); go_simp; try (with_reducible rfl))
              try simp only [Act.put, List.setIfInBounds_toArray, List.set_cons_succ, List.set_cons_zero]
              refine wpAnyH_takeD (i := 8) (v := ?_) 131 rfl rfl (by kernel_rfl) (by kernel_rfl) (by kernel_rfl) (fun _ _ _ _ _ h => h) (by rfl) (by assumption) ?_ ?_
              rotate_left; focus (intro w hSw; (try dsimp only at hSw); go_simp; try (with_reducible rfl))
              try simp only [Act.put, List.setIfInBounds_toArray, List.set_cons_succ, List.set_cons_zero]
              refine wpAnyH_takeD (i := 9) (v := ?_) 132 rfl rfl (by kernel_rfl) (by kernel_rfl) (by kernel_rfl) (fun _ _ _ _ _ h => h) (by rfl) (by assumption) ?_ ?_
              rotate_left; focus (intro w hSw; (try dsimp only at hSw); go_simp; try (with_reducible rfl))
              try simp only [Act.put, List.setIfInBounds_toArray, List.set_cons_succ, List.set_cons_zero]
              refine wpAnyH_ready (rs := [12]) (by kernel_rfl) (by simp) ?_
              refine AllReadyH.cons rfl (fun K hK => ?_) AllReadyH.nil
              obtain ⟨v0, f0⟩ := leaf_cell k8
              go_simp
              clear v0 f0
              obtain ⟨a1, a2, k8, k9, bX69⟩ := leaf_set a1 a2 k8 k9 hgk8 (by first | exact hne | exact hne.symm) bX68 (.slice p1 i1 k1)
              generalize World.setCell X68 ⟨X.heap.size, 0, none⟩ (.slice p1 i1 k1) = X69 at a1 a2 k8 k9 bX69 ⊢
              refine hK.out _ _ (by exact below_cell (by assumption) C0.out) (fun hHeld => ?_)
              clear hK K; try simp only [Act.put, List.setIfInBounds_toArray, List.set_cons_succ, List.set_cons_zero]
              refine wpAnyH_ready (rs := [13]) (by kernel_rfl) (by simp) ?_
              refine AllReadyH.cons rfl (fun K hK => ?_) AllReadyH.nil
              obtain ⟨v0, f0⟩ := leaf_cell k9
              go_simp
              clear v0 f0
              obtain ⟨a1, a2, k9, k8, bX70⟩ := leaf_set a1 a2 k9 k8 hgk9 (by first | exact hne | exact hne.symm) bX69 (.slice p2 i2 k2)
              generalize World.setCell X69 ⟨X62.heap.size, 0, none⟩ (.slice p2 i2 k2) = X70 at a1 a2 k8 k9 bX70 ⊢
              refine hK.out _ _ (by exact below_cell (by assumption) C0.out) (fun hHeld => ?_)
              clear hK K; try simp only [Act.put, List.setIfInBounds_toArray, List.set_cons_succ, List.set_cons_zero]
              refine wpAnyH_takeD (i := 14) (v := ?_) 21 rfl rfl (by kernel_rfl) (by kernel_rfl) (by kernel_rfl) (fun _ _ _ _ _ h => h) (by rfl) (by assumption) ?_ ?_
              rotate_left; focus (intro w hSw; (try dsimp only at hSw); go_simp; try (with_reducible rfl))
              try simp only [Act.put, List.setIfInBounds_toArray, List.set_cons_succ, List.set_cons_zero]
              refine wpAnyH_done (by kernel_rfl) ?_ _
              clear hHeld
              try go_wp2_with fail
              go_meet
              exact ⟨X.heap.size, X62.heap.size, p1, i1, k1, p2, i2, k2, rfl, rfl, rfl, k8, k9, a1, a2⟩
            ·go_simp
             obtain ⟨X71, hX71⟩ : ∃ X71, X71 = World.alloc X61 (Obj.cells #[.slice none 0 0] 28) := ⟨_, rfl⟩
             rw [← hX71]
             have hbe : Below X61.heap.size X61 X71 := hX71 ▸ ext_alloc (Below.refl _ _) _
             have bX71 := ext_trans bX61 hbe
             have hne : X.heap.size ≠ X61.heap.size := Nat.ne_of_lt k8.lt
             have u1 := u1.later hbe
             have k8 := k8.below hbe k8.lt
             have k9 := Blk.new X61 28 #[.slice none 0 0]
             rw [← hX71] at k9
             have hgk9 : w22.heap.size ≤ X61.heap.size := bX61.size
             clear hX71 hbe
             refine hK.out _ _ (by exact below_cell (by assumption) C0.out) (fun hHeld => ?_)
             clear hK K; try simp only [Act.put, List.setIfInBounds_toArray, List.set_cons_succ, List.set_cons_zero]
             refine wpAnyH_ready (rs := [3]) (by kernel_rfl) (by simp) ?_
             refine AllReadyH.cons rfl (fun K hK => ?_) AllReadyH.nil
             go_simp; (go_at_call 9; refine (toAmount_any D m k _ zs X71 (RD3.out.below (bX71.mono HZ3.out)) (Nat.le_trans HZ3.out bX71.size) m2).mono ?_; rintro e X72 ⟨D1, d1, rfl, v1⟩); (try dsimp only)
             have hbe := v1.ext
             have bX72 := ext_trans bX71 hbe
             have u1 := u1.later hbe
             have k8 := k8.below hbe k8.lt
             have k9 := k9.below hbe k9.lt
             clear hbe
             refine hK.out _ _ (by exact below_cell (by assumption) C0.out) (fun hHeld => ?_)
             clear hK K; try simp only [Act.put, List.setIfInBounds_toArray, List.set_cons_succ, List.set_cons_zero]
             refine wpAnyH_ready (rs := [5]) (by kernel_rfl) (by simp) ?_
             refine AllReadyH.cons rfl (fun K hK => ?_) AllReadyH.nil
             have hcc := own_cap u1.own
             go_simp; (go_at_call 10; refine (CI.out A1 c1 _ D1 d1 _ X72 u1.reads (Nat.le_refl _) hcc.1 hcc.2 v1.reads (Nat.le_refl _)).mono ?_; rintro e X73 ⟨p1, i1, k1, p2, i2, k2, rfl, q⟩); (try dsimp only)
             have hbe := q.one.ext
             have bX73 := ext_trans bX72 hbe
             have a1 := q.one.since bX72
             have a2 := q.two.since bX72
             have k8 := k8.below hbe k8.lt
             have k9 := k9.below hbe k9.lt
             clear hbe q u1 v1 hcc
             refine hK.out _ _ (by exact below_cell (by assumption) C0.out) (fun hHeld => ?_)
             clear hK K; try simp only [Act.put, List.setIfInBounds_toArray, List.set_cons_succ, List.set_cons_zero]
             refine wpAnyH_takeD (i := 6) (v := ?_) 123 rfl rfl (by kernel_rfl) (by kernel_rfl) (by kernel_rfl) (fun _ _ _ _ _ h => h) (by rfl) (by assumption) ?_ ?_
             rotate_left; focus (intro w hSw; (try dsimp only at hSw); go_simp; try (with_reducible rfl))
             try simp only [Act.put, List.setIfInBounds_toArray, List.set_cons_succ, List.set_cons_zero]
             refine wpAnyH_takeD (i := 7) (v := ?_) 130 rfl rfl (by kernel_rfl) (by kernel_rfl) (by kernel_rfl) (fun _ _ _ _ _ h => h) (by rfl) (by assumption) ?_ ?_
             rotate_left; focus (intro w hSw; (try dsimp only at hSw); go_simp; try (with_reducible rfl))
             try simp only [Act.put, List.setIfInBounds_toArray, List.set_cons_succ, List.set_cons_zero]
             refine wpAnyH_takeD (i := 8) (v := ?_) 131 rfl rfl (by kernel_rfl) (by kernel_rfl) (by kernel_rfl) (fun _ _ _ _ _ h => h) (by rfl) (by assumption) ?_ ?_
             rotate_left; focus (intro w hSw; (try dsimp only at hSw); go_simp; try (with_reducible rfl))
             try simp only [Act.put, List.setIfInBounds_toArray, List.set_cons_succ, List.set_cons_zero]
             refine wpAnyH_takeD (i := 9) (v := ?_) 132 rfl rfl (by kernel_rfl) (by kernel_rfl) (by kernel_rfl) (fun _ _ _ _ _ h => h) (by rfl) (by assumption) ?_ ?_
             rotate_left; focus (intro w hSw; (try dsimp only at hSw); go_simp; try (with_reducible rfl))
             try simp only [Act.put, List.setIfInBounds_toArray, List.set_cons_succ, List.set_cons_zero]
             refine wpAnyH_ready (rs := [12]) (by kernel_rfl) (by simp) ?_
             refine AllReadyH.cons rfl (fun K hK => ?_) AllReadyH.nil
             obtain ⟨v0, f0⟩ := leaf_cell k8
             go_simp
             clear v0 f0
             obtain ⟨a1, a2, k8, k9, bX74⟩ := leaf_set a1 a2 k8 k9 hgk8 (by first | exact hne | exact hne.symm) bX73 (.slice p1 i1 k1)
             generalize World.setCell X73 ⟨X.heap.size, 0, none⟩ (.slice p1 i1 k1) = X74 at a1 a2 k8 k9 bX74 ⊢
             refine hK.out _ _ (by exact below_cell (by assumption) C0.out) (fun hHeld => ?_)
             clear hK K; try simp only [Act.put, List.setIfInBounds_toArray, List.set_cons_succ, List.set_cons_zero]
             refine wpAnyH_ready (rs := [13]) (by kernel_rfl) (by simp) ?_
             refine AllReadyH.cons rfl (fun K hK => ?_) AllReadyH.nil
             obtain ⟨v0, f0⟩ := leaf_cell k9
             go_simp
             clear v0 f0
             obtain ⟨a1, a2, k9, k8, bX75⟩ := leaf_set a1 a2 k9 k8 hgk9 (by first | exact hne | exact hne.symm) bX74 (.slice p2 i2 k2)
             generalize World.setCell X74 ⟨X61.heap.size, 0, none⟩ (.slice p2 i2 k2) = X75 at a1 a2 k8 k9 bX75 ⊢
             refine hK.out _ _ (by exact below_cell (by assumption) C0.out) (fun hHeld => ?_)
             clear hK K; try simp only [Act.put, List.setIfInBounds_toArray, List.set_cons_succ, List.set_cons_zero]
             refine wpAnyH_takeD (i := 14) (v := ?_) 21 rfl rfl (by kernel_rfl) (by kernel_rfl) (by kernel_rfl) (fun _ _ _ _ _ h => h) (by rfl) (by assumption) ?_ ?_
             rotate_left; focus (intro w hSw; (try dsimp only at hSw); go_simp; try (with_reducible rfl))
             try simp only [Act.put, List.setIfInBounds_toArray, List.set_cons_succ, List.set_cons_zero]
             refine wpAnyH_done (by kernel_rfl) ?_ _
             clear hHeld
             try go_wp2_with fail
             go_meet
             exact ⟨X.heap.size, X61.heap.size, p1, i1, k1, p2, i2, k2, rfl, rfl, rfl, k8, k9, a1, a2⟩
           ·go_simp
            obtain ⟨X76, hX76⟩ : ∃ X76, X76 = World.alloc X60 (Obj.cells #[.slice none 0 0] 28) := ⟨_, rfl⟩
            rw [← hX76]
            have hbe : Below X60.heap.size X60 X76 := hX76 ▸ ext_alloc (Below.refl _ _) _
            have bX76 := ext_trans bX60 hbe
            have hne : X.heap.size ≠ X60.heap.size := Nat.ne_of_lt k8.lt
            have k8 := k8.below hbe k8.lt
            have k9 := Blk.new X60 28 #[.slice none 0 0]
            rw [← hX76] at k9
            have hgk9 : w22.heap.size ≤ X60.heap.size := bX60.size
            clear hX76 hbe
            refine hK.out _ _ (by exact below_cell (by assumption) C0.out) (fun hHeld => ?_)
            clear hK K; try simp only [Act.put, List.setIfInBounds_toArray, List.set_cons_succ, List.set_cons_zero]
            refine wpAnyH_ready (rs := [1]) (by kernel_rfl) (by simp) ?_
            refine AllReadyH.cons rfl (fun K hK => ?_) AllReadyH.nil
            go_simp; (go_at_call 8; refine (toUnitS_any A n c _ us X76 (RA3.out.below (bX76.mono HZ3.out)) (Nat.le_trans HZ3.out bX76.size) n2).mono ?_; rintro e X77 ⟨A1, c1, rfl, u1⟩); (try dsimp only)
            have hbe := u1.ext
            have bX77 := ext_trans bX76 hbe
            have k8 := k8.below hbe k8.lt
            have k9 := k9.below hbe k9.lt
            clear hbe
            refine hK.out _ _ (by exact below_cell (by assumption) C0.out) (fun hHeld => ?_)
            clear hK K; try simp only [Act.put, List.setIfInBounds_toArray, List.set_cons_succ, List.set_cons_zero]
            refine wpAnyH_ready (rs := [3]) (by kernel_rfl) (by simp) ?_
            refine AllReadyH.cons rfl (fun K hK => ?_) AllReadyH.nil
            go_simp; (go_at_call 9; refine (toAmount_any D m k _ zs X77 (RD3.out.below (bX77.mono HZ3.out)) (Nat.le_trans HZ3.out bX77.size) m2).mono ?_; rintro e X78 ⟨D1, d1, rfl, v1⟩); (try dsimp only)
            have hbe := v1.ext
            have bX78 := ext_trans bX77 hbe
            have u1 := u1.later hbe
            have k8 := k8.below hbe k8.lt
            have k9 := k9.below hbe k9.lt
            clear hbe
            refine hK.out _ _ (by exact below_cell (by assumption) C0.out) (fun hHeld => ?_)
            clear hK K; try simp only [Act.put, List.setIfInBounds_toArray, List.set_cons_succ, List.set_cons_zero]
            refine wpAnyH_ready (rs := [5]) (by kernel_rfl) (by simp) ?_
            refine AllReadyH.cons rfl (fun K hK => ?_) AllReadyH.nil
            have hcc := own_cap u1.own
            go_simp; (go_at_call 10; refine (CI.out A1 c1 _ D1 d1 _ X78 u1.reads (Nat.le_refl _) hcc.1 hcc.2 v1.reads (Nat.le_refl _)).mono ?_; rintro e X79 ⟨p1, i1, k1, p2, i2, k2, rfl, q⟩); (try dsimp only)
            have hbe := q.one.ext
            have bX79 := ext_trans bX78 hbe
            have a1 := q.one.since bX78
            have a2 := q.two.since bX78
            have k8 := k8.below hbe k8.lt
            have k9 := k9.below hbe k9.lt
            clear hbe q u1 v1 hcc
            refine hK.out _ _ (by exact below_cell (by assumption) C0.out) (fun hHeld => ?_)
            clear hK K; try simp only [Act.put, List.setIfInBounds_toArray, List.set_cons_succ, List.set_cons_zero]
            refine wpAnyH_takeD (i := 6) (v := ?_) 123 rfl rfl (by kernel_rfl) (by kernel_rfl) (by kernel_rfl) (fun _ _ _ _ _ h => h) (by rfl) (by assumption) ?_ ?_
            rotate_left; focus (intro w hSw; (try dsimp only at hSw); go_simp; try (with_reducible rfl))
            try simp only [Act.put, List.setIfInBounds_toArray, List.set_cons_succ, List.set_cons_zero]
            refine wpAnyH_takeD (i := 7) (v := ?_) 130 rfl rfl (by kernel_rfl) (by kernel_rfl) (by kernel_rfl) (fun _ _ _ _ _ h => h) (by rfl) (by assumption) ?_ ?_
            rotate_left; focus (intro w hSw; (try dsimp only at hSw); go_simp; try (with_reducible rfl))
            try simp only [Act.put, List.setIfInBounds_toArray, List.set_cons_succ, List.set_cons_zero]
            refine wpAnyH_takeD (i := 8) (v := ?_) 131 rfl rfl (by kernel_rfl) (by kernel_rfl) (by kernel_rfl) (fun _ _ _ _ _ h => h) (by rfl) (by assumption) ?_ ?_
            rotate_left; focus (intro w hSw; (try dsimp only at hSw); go_simp; try (with_reducible rfl))
            try simp only [Act.put, List.setIfInBounds_toArray, List.set_cons_succ, List.set_cons_zero]
            refine wpAnyH_takeD (i := 9) (v := ?_) 132 rfl rfl (by kernel_rfl) (by kernel_rfl) (by kernel_rfl) (fun _ _ _ _ _ h => h) (by rfl) (by assumption) ?_ ?_
            rotate_left; focus (intro w hSw; (try dsimp only at hSw); go_simp; try (with_reducible rfl))
            try simp only [Act.put, List.setIfInBounds_toArray, List.set_cons_succ, List.set_cons_zero]
            refine wpAnyH_ready (rs := [12]) (by kernel_rfl) (by simp) ?_
            refine AllReadyH.cons rfl (fun K hK => ?_) AllReadyH.nil
            obtain ⟨v0, f0⟩ := leaf_cell k8
            go_simp
            clear v0 f0
            obtain ⟨a1, a2, k8, k9, bX80⟩ := leaf_set a1 a2 k8 k9 hgk8 (by first | exact hne | exact hne.symm) bX79 (.slice p1 i1 k1)
            generalize World.setCell X79 ⟨X.heap.size, 0, none⟩ (.slice p1 i1 k1) = X80 at a1 a2 k8 k9 bX80 ⊢
            refine hK.out _ _ (by exact below_cell (by assumption) C0.out) (fun hHeld => ?_)
            clear hK K; try simp only [Act.put, List.setIfInBounds_toArray, List.set_cons_succ, List.set_cons_zero]
            refine wpAnyH_ready (rs := [13]) (by kernel_rfl) (by simp) ?_
            refine AllReadyH.cons rfl (fun K hK => ?_) AllReadyH.nil
            obtain ⟨v0, f0⟩ := leaf_cell k9
            go_simp
            clear v0 f0
            obtain ⟨a1, a2, k9, k8, bX81⟩ := leaf_set a1 a2 k9 k8 hgk9 (by first | exact hne | exact hne.symm) bX80 (.slice p2 i2 k2)
            generalize World.setCell X80 ⟨X60.heap.size, 0, none⟩ (.slice p2 i2 k2) = X81 at a1 a2 k8 k9 bX81 ⊢
            refine hK.out _ _ (by exact below_cell (by assumption) C0.out) (fun hHeld => ?_)
            clear hK K; try simp only [Act.put, List.setIfInBounds_toArray, List.set_cons_succ, List.set_cons_zero]
            refine wpAnyH_takeD (i := 14) (v := ?_) 21 rfl rfl (by kernel_rfl) (by kernel_rfl) (by kernel_rfl) (fun _ _ _ _ _ h => h) (by rfl) (by assumption) ?_ ?_
            rotate_left; focus (intro w hSw; (try dsimp only at hSw); go_simp; try (with_reducible rfl))
            try simp only [Act.put, List.setIfInBounds_toArray, List.set_cons_succ, List.set_cons_zero]
            refine wpAnyH_done (by kernel_rfl) ?_ _
            clear hHeld
            try go_wp2_with fail
            go_meet
            exact ⟨X.heap.size, X60.heap.size, p1, i1, k1, p2, i2, k2, rfl, rfl, rfl, k8, k9, a1, a2⟩
          ·go_simp
           obtain ⟨X82, hX82⟩ : ∃ X82, X82 = World.alloc X (Obj.cells #[.slice none 0 0] 28) := ⟨_, rfl⟩
           rw [← hX82]
           have hbe : Below X.heap.size X X82 := hX82 ▸ ext_alloc (Below.refl _ _) _
           have bX82 := ext_trans bX hbe
           have k9 := Blk.new X 28 #[.slice none 0 0]
           rw [← hX82] at k9
           have hgk9 : w22.heap.size ≤ X.heap.size := bX.size
           clear hX82 hbe
           refine hK.out _ _ (by exact below_cell (by assumption) C0.out) (fun hHeld => ?_)
           clear hK K; try simp only [Act.put, List.setIfInBounds_toArray, List.set_cons_succ, List.set_cons_zero]
           refine wpAnyH_ready (rs := [1, 10]) (by kernel_rfl) (by simp) ?_
           refine AllReadyH.cons rfl (fun K hK => ?_) (AllReadyH.cons rfl (fun K hK => ?_) AllReadyH.nil)
           ·go_simp; (go_at_call 8; refine (toUnitS_any A n c _ us X82 (RA3.out.below (bX82.mono HZ3.out)) (Nat.le_trans HZ3.out bX82.size) n2).mono ?_; rintro e X83 ⟨A1, c1, rfl, u1⟩); (try dsimp only)
            have hbe := u1.ext
            have bX83 := ext_trans bX82 hbe
            have k9 := k9.below hbe k9.lt
            clear hbe
            refine hK.out _ _ (by exact below_cell (by assumption) C0.out) (fun hHeld => ?_)
            clear hK K; try simp only [Act.put, List.setIfInBounds_toArray, List.set_cons_succ, List.set_cons_zero]
            refine wpAnyH_ready (rs := [3, 10]) (by kernel_rfl) (by simp) ?_
            refine AllReadyH.cons rfl (fun K hK => ?_) (AllReadyH.cons rfl (fun K hK => ?_) AllReadyH.nil)
            ·go_simp; (go_at_call 9; refine (toAmount_any D m k _ zs X83 (RD3.out.below (bX83.mono HZ3.out)) (Nat.le_trans HZ3.out bX83.size) m2).mono ?_; rintro e X84 ⟨D1, d1, rfl, v1⟩); (try dsimp only)
             have hbe := v1.ext
             have bX84 := ext_trans bX83 hbe
             have u1 := u1.later hbe
             have k9 := k9.below hbe k9.lt
             clear hbe
             refine hK.out _ _ (by exact below_cell (by assumption) C0.out) (fun hHeld => ?_)
             clear hK K; try simp only [Act.put, List.setIfInBounds_toArray, List.set_cons_succ, List.set_cons_zero]
             refine wpAnyH_ready (rs := [5, 10]) (by kernel_rfl) (by simp) ?_
             refine AllReadyH.cons rfl (fun K hK => ?_) (AllReadyH.cons rfl (fun K hK => ?_) AllReadyH.nil)
             ·have hcc := own_cap u1.own
              go_simp; (go_at_call 10; refine (CI.out A1 c1 _ D1 d1 _ X84 u1.reads (Nat.le_refl _) hcc.1 hcc.2 v1.reads (Nat.le_refl _)).mono ?_; rintro e X85 ⟨p1, i1, k1, p2, i2, k2, rfl, q⟩); (try dsimp only)
              have hbe := q.one.ext
              have bX85 := ext_trans bX84 hbe
              have a1 := q.one.since bX84
              have a2 := q.two.since bX84
              have k9 := k9.below hbe k9.lt
              clear hbe q u1 v1 hcc
              refine hK.out _ _ (by exact below_cell (by assumption) C0.out) (fun hHeld => ?_)
              clear hK K; try simp only [Act.put, List.setIfInBounds_toArray, List.set_cons_succ, List.set_cons_zero]
              refine wpAnyH_takeD (i := 6) (v := ?_) 123 rfl rfl (by kernel_rfl) (by kernel_rfl) (by kernel_rfl) (fun _ _ _ _ _ h => h) (by rfl) (by assumption) ?_ ?_
              rotate_left; focus (intro w hSw; (try dsimp only at hSw); go_simp; try (with_reducible rfl))
              try simp only [Act.put, List.setIfInBounds_toArray, List.set_cons_succ, List.set_cons_zero]
              refine wpAnyH_takeD (i := 7) (v := ?_) 130 rfl rfl (by kernel_rfl) (by kernel_rfl) (by kernel_rfl) (fun _ _ _ _ _ h => h) (by rfl) (by assumption) ?_ ?_
              rotate_left; focus (intro w hSw; (try dsimp only at hSw); go_simp; try (with_reducible rfl))
              try simp only [Act.put, List.setIfInBounds_toArray, List.set_cons_succ, List.set_cons_zero]
              refine wpAnyH_takeD (i := 8) (v := ?_) 131 rfl rfl (by kernel_rfl) (by kernel_rfl) (by kernel_rfl) (fun _ _ _ _ _ h => h) (by rfl) (by assumption) ?_ ?_
              rotate_left; focus (intro w hSw; (try dsimp only at hSw); go_simp; try (with_reducible rfl))
              try simp only [Act.put, List.setIfInBounds_toArray, List.set_cons_succ, List.set_cons_zero]
              refine wpAnyH_takeD (i := 9) (v := ?_) 132 rfl rfl (by kernel_rfl) (by kernel_rfl) (by kernel_rfl) (fun _ _ _ _ _ h => h) (by rfl) (by assumption) ?_ ?_
              rotate_left; focus (intro w hSw; (try dsimp only at hSw); go_simp; try (with_reducible rfl))
              try simp only [Act.put, List.setIfInBounds_toArray, List.set_cons_succ, List.set_cons_zero]
              refine wpAnyH_ready (rs := [10]) (by kernel_rfl) (by simp) ?_
              refine AllReadyH.cons rfl (fun K hK => ?_) AllReadyH.nil
              go_simp
              obtain ⟨X86, hX86⟩ : ∃ X86, X86 = World.alloc X85 (Obj.cells #[.slice none 0 0] 28) := ⟨_, rfl⟩
              rw [← hX86]
              have hbe : Below X85.heap.size X85 X86 := hX86 ▸ ext_alloc (Below.refl _ _) _
              have bX86 := ext_trans bX85 hbe
              have hne : X.heap.size ≠ X85.heap.size := Nat.ne_of_lt k9.lt
              have a1 := a1.later hbe
              have a2 := a2.later hbe
              have k9 := k9.below hbe k9.lt
              have k8 := Blk.new X85 28 #[.slice none 0 0]
              rw [← hX86] at k8
              have hgk8 : w22.heap.size ≤ X85.heap.size := bX85.size
              clear hX86 hbe
              refine hK.out _ _ (by exact below_cell (by assumption) C0.out) (fun hHeld => ?_)
              clear hK K; try simp only [Act.put, List.setIfInBounds_toArray, List.set_cons_succ, List.set_cons_zero]
              refine wpAnyH_ready (rs := [12]) (by kernel_rfl) (by simp) ?_
              refine AllReadyH.cons rfl (fun K hK => ?_) AllReadyH.nil
              obtain ⟨v0, f0⟩ := leaf_cell k8
              go_simp
              clear v0 f0
              obtain ⟨a1, a2, k8, k9, bX87⟩ := leaf_set a1 a2 k8 k9 hgk8 (by first | exact hne | exact hne.symm) bX86 (.slice p1 i1 k1)
              generalize World.setCell X86 ⟨X85.heap.size, 0, none⟩ (.slice p1 i1 k1) = X87 at a1 a2 k8 k9 bX87 ⊢
              refine hK.out _ _ (by exact below_cell (by assumption) C0.out) (fun hHeld => ?_)
              clear hK K; try simp only [Act.put, List.setIfInBounds_toArray, List.set_cons_succ, List.set_cons_zero]
              refine wpAnyH_ready (rs := [13]) (by kernel_rfl) (by simp) ?_
              refine AllReadyH.cons rfl (fun K hK => ?_) AllReadyH.nil
              obtain ⟨v0, f0⟩ := leaf_cell k9
              go_simp
              clear v0 f0
              obtain ⟨a1, a2, k9, k8, bX88⟩ := leaf_set a1 a2 k9 k8 hgk9 (by first | exact hne | exact hne.symm) bX87 (.slice p2 i2 k2)
              generalize World.setCell X87 ⟨X.heap.size, 0, none⟩ (.slice p2 i2 k2) = X88 at a1 a2 k8 k9 bX88 ⊢
              refine hK.out _ _ (by exact below_cell (by assumption) C0.out) (fun hHeld => ?_)
              clear hK K; try simp only [Act.put, List.setIfInBounds_toArray, List.set_cons_succ, List.set_cons_zero]
              refine wpAnyH_takeD (i := 14) (v := ?_) 21 rfl rfl (by kernel_rfl) (by kernel_rfl) (by kernel_rfl) (fun _ _ _ _ _ h => h) (by rfl) (by assumption) ?_ ?_
              rotate_left; focus (intro w hSw; (try dsimp only at hSw); go_simp; try (with_reducible rfl))
              try simp only [Act.put, List.setIfInBounds_toArray, List.set_cons_succ, List.set_cons_zero]
              refine wpAnyH_done (by kernel_rfl) ?_ _
              clear hHeld
              try go_wp2_with fail
              go_meet
              exact ⟨X85.heap.size, X.heap.size, p1, i1, k1, p2, i2, k2, rfl, rfl, rfl, k8, k9, a1, a2⟩
             ·go_simp
              obtain ⟨X89, hX89⟩ : ∃ X89, X89 = World.alloc X84 (Obj.cells #[.slice none 0 0] 28) := ⟨_, rfl⟩
              rw [← hX89]
              have hbe : Below X84.heap.size X84 X89 := hX89 ▸ ext_alloc (Below.refl _ _) _
              have bX89 := ext_trans bX84 hbe
              have hne : X.heap.size ≠ X84.heap.size := Nat.ne_of_lt k9.lt
              have u1 := u1.later hbe
              have v1 := v1.later hbe
              have k9 := k9.below hbe k9.lt
              have k8 := Blk.new X84 28 #[.slice none 0 0]
              rw [← hX89] at k8
              have hgk8 : w22.heap.size ≤ X84.heap.size := bX84.size
              clear hX89 hbe
              refine hK.out _ _ (by exact below_cell (by assumption) C0.out) (fun hHeld => ?_)
              clear hK K; try simp only [Act.put, List.setIfInBounds_toArray, List.set_cons_succ, List.set_cons_zero]
              refine wpAnyH_ready (rs := [5]) (by kernel_rfl) (by simp) ?_
              refine AllReadyH.cons rfl (fun K hK => ?_) AllReadyH.nil
              have hcc := own_cap u1.own
              go_simp; (go_at_call 10; refine (CI.out A1 c1 _ D1 d1 _ X89 u1.reads (Nat.le_refl _) hcc.1 hcc.2 v1.reads (Nat.le_refl _)).mono ?_; rintro e X90 ⟨p1, i1, k1, p2, i2, k2, rfl, q⟩); (try dsimp only)
              have hbe := q.one.ext
              have bX90 := ext_trans bX89 hbe
              have a1 := q.one.since bX89
              have a2 := q.two.since bX89
              have k8 := k8.below hbe k8.lt
              have k9 := k9.below hbe k9.lt
              clear hbe q u1 v1 hcc
              refine hK.out _ _ (by exact below_cell (by assumption) C0.out) (fun hHeld => ?_)
              clear hK K; try simp only [Act.put, List.setIfInBounds_toArray, List.set_cons_succ, List.set_cons_zero]
              refine wpAnyH_takeD (i := 6) (v := ?_) 123 rfl rfl (by kernel_rfl) (by kernel_rfl) (by kernel_rfl) (fun _ _ _ _ _ h => h) (by rfl) (by assumption) ?_ ?_
              rotate_left; focus (intro w hSw; (try dsimp only at hSw); go_simp; try (with_reducible rfl))
              try simp only [Act.put, List.setIfInBounds_toArray, List.set_cons_succ, List.set_cons_zero]
              refine wpAnyH_takeD (i := 7) (v := ?_) 130 rfl rfl (by kernel_rfl) (by kernel_rfl) (by kernel_rfl) (fun _ _ _ _ _ h => h) (by rfl) (by assumption) ?_ ?_
              rotate_left; focus (intro w hSw; (try dsimp only at hSw); go_simp; try (with_reducible rfl))
              try simp only [Act.put, List.setIfInBounds_toArray, List.set_cons_succ, List.set_cons_zero]
              refine wpAnyH_takeD (i := 8) (v := ?_) 131 rfl rfl (by kernel_rfl) (by kernel_rfl) (by kernel_rfl) (fun _ _ _ _ _ h => h) (by rfl) (by assumption) ?_ ?_
              rotate_left; focus (intro w hSw; (try dsimp only at hSw); go_simp; try (with_reducible rfl))
              try simp only [Act.put, List.setIfInBounds_toArray, List.set_cons_succ, List.set_cons_zero]
              refine wpAnyH_takeD (i := 9) (v := ?_) 132 rfl rfl (by kernel_rfl) (by kernel_rfl) (by kernel_rfl) (fun _ _ _ _ _ h => h) (by rfl) (by assumption) ?_ ?_
              rotate_left; focus (intro w hSw; (try dsimp only at hSw); go_simp; try (with_reducible rfl))
              try simp only [Act.put, List.setIfInBounds_toArray, List.set_cons_succ, List.set_cons_zero]
              refine wpAnyH_ready (rs := [12]) (by kernel_rfl) (by simp) ?_
              refine AllReadyH.cons rfl (fun K hK => ?_) AllReadyH.nil
              obtain ⟨v0, f0⟩ := leaf_cell k8
              go_simp
              clear v0 f0
              obtain ⟨a1, a2, k8, k9, bX91⟩ := leaf_set a1 a2 k8 k9 hgk8 (by first | exact hne | exact hne.symm) bX90 (.slice p1 i1 k1)
              generalize World.setCell X90 ⟨X84.heap.size, 0, none⟩ (.slice p1 i1 k1) = X91 at a1 a2 k8 k9 bX91 ⊢
              refine hK.out _ _ (by exact below_cell (by assumption) C0.out) (fun hHeld => ?_)
              clear hK K; try simp only [Act.put, List.setIfInBounds_toArray, List.set_cons_succ, List.set_cons_zero]
              refine wpAnyH_ready (rs := [13]) (by kernel_rfl) (by simp) ?_
              refine AllReadyH.cons rfl (fun K hK => ?_) AllReadyH.nil
              obtain ⟨v0, f0⟩ := leaf_cell k9
              go_simp
              clear v0 f0
              obtain ⟨a1, a2, k9, k8, bX92⟩ := leaf_set a1 a2 k9 k8 hgk9 (by first | exact hne | exact hne.symm) bX91 (.slice p2 i2 k2)
              generalize World.setCell X91 ⟨X.heap.size, 0, none⟩ (.slice p2 i2 k2) = X92 at a1 a2 k8 k9 bX92 ⊢
              refine hK.out _ _ (by exact below_cell (by assumption) C0.out) (fun hHeld => ?_)
              clear hK K; try simp only [Act.put, List.setIfInBounds_toArray, List.set_cons_succ, List.set_cons_zero]
              refine wpAnyH_takeD (i := 14) (v := ?_) 21 rfl rfl (by kernel_rfl) (by kernel_rfl) (by kernel_rfl) (fun _ _ _ _ _ h => h) (by rfl) (by assumption) ?_ ?_
              rotate_left; focus (intro w hSw; (try dsimp only at hSw); go_simp; try (with_reducible rfl))
              try simp only [Act.put, List.setIfInBounds_toArray, List.set_cons_succ, List.set_cons_zero]
              refine wpAnyH_done (by kernel_rfl) ?_ _
              clear hHeld
              try go_wp2_with fail
              go_meet
              exact ⟨X84.heap.size, X.heap.size, p1, i1, k1, p2, i2, k2, rfl, rfl, rfl, k8, k9, a1, a2⟩
            ·go_simp
             obtain ⟨X93, hX93⟩ : ∃ X93, X93 = World.alloc X83 (Obj.cells #[.slice none 0 0] 28) := ⟨_, rfl⟩
             rw [← hX93]
             have hbe : Below X83.heap.size X83 X93 := hX93 ▸ ext_alloc (Below.refl _ _) _
             have bX93 := ext_trans bX83 hbe
             have hne : X.heap.size ≠ X83.heap.size := Nat.ne_of_lt k9.lt
             have u1 := u1.later hbe
             have k9 := k9.below hbe k9.lt
             have k8 := Blk.new X83 28 #[.slice none 0 0]
             rw [← hX93] at k8
             have hgk8 : w22.heap.size ≤ X83.heap.size := bX83.size
             clear hX93 hbe
             refine hK.out _ _ (by exact below_cell (by assumption) C0.out) (fun hHeld => ?_)
             clear hK K; try simp only [Act.put, List.setIfInBounds_toArray, List.set_cons_succ, List.set_cons_zero]
             refine wpAnyH_ready (rs := [3]) (by kernel_rfl) (by simp) ?_
             refine AllReadyH.cons rfl (fun K hK => ?_) AllReadyH.nil
             go_simp; (go_at_call 9; refine (toAmount_any D m k _ zs X93 (RD3.out.below (bX93.mono HZ3.out)) (Nat.le_trans HZ3.out bX93.size) m2).mono ?_; rintro e X94 ⟨D1, d1, rfl, v1⟩); (try dsimp only)
             have hbe := v1.ext
             have bX94 := ext_trans bX93 hbe
             have u1 := u1.later hbe
             have k8 := k8.below hbe k8.lt
             have k9 := k9.below hbe k9.lt
             clear hbe
             refine hK.out _ _ (by exact below_cell (by assumption) C0.out) (fun hHeld => ?_)
             clear hK K; try simp only [Act.put, List.setIfInBounds_toArray, List.set_cons_succ, List.set_cons_zero]
             refine wpAnyH_ready (rs := [5]) (by kernel_rfl) (by simp) ?_
             refine AllReadyH.cons rfl (fun K hK => ?_) AllReadyH.nil
             have hcc := own_cap u1.own
             go_simp; (go_at_call 10; refine (CI.out A1 c1 _ D1 d1 _ X94 u1.reads (Nat.le_refl _) hcc.1 hcc.2 v1.reads (Nat.le_refl _)).mono ?_; rintro e X95 ⟨p1, i1, k1, p2, i2, k2, rfl, q⟩); (try dsimp only)
             have hbe := q.one.ext
             have bX95 := ext_trans bX94 hbe
             have a1 := q.one.since bX94
             have a2 := q.two.since bX94
             have k8 := k8.below hbe k8.lt
             have k9 := k9.below hbe k9.lt
             clear hbe q u1 v1 hcc
             refine hK.out _ _ (by exact below_cell (by assumption) C0.out) (fun hHeld => ?_)
             clear hK K; try simp only [Act.put, List.setIfInBounds_toArray, List.set_cons_succ, List.set_cons_zero]
             refine wpAnyH_takeD (i := 6) (v := ?_) 123 rfl rfl (by kernel_rfl) (by kernel_rfl) (by kernel_rfl) (fun _ _ _ _ _ h => h) (by rfl) (by assumption) ?_ ?_
             rotate_left; focus (intro w hSw; (try dsimp only at hSw); go_simp; try (with_reducible rfl))
             try simp only [Act.put, List.setIfInBounds_toArray, List.set_cons_succ, List.set_cons_zero]
             refine wpAnyH_takeD (i := 7) (v := ?_) 130 rfl rfl (by kernel_rfl) (by kernel_rfl) (by kernel_rfl) (fun _ _ _ _ _ h => h) (by rfl) (by assumption) ?_ ?_
             rotate_left; focus (intro w hSw; (try dsimp only at hSw); go_simp; try (with_reducible rfl))
             try simp only [Act.put, List.setIfInBounds_toArray, List.set_cons_succ, List.set_cons_zero]
             refine wpAnyH_takeD (i := 8) (v := ?_) 131 rfl rfl (by kernel_rfl) (by kernel_rfl) (by kernel_rfl) (fun _ _ _ _ _ h => h) (by rfl) (by assumption) ?_ ?_
             rotate_left; focus (intro w hSw; (try dsimp only at hSw); go_simp; try (with_reducible rfl))
             try simp only [Act.put, List.setIfInBounds_toArray, List.set_cons_succ, List.set_cons_zero]
             refine wpAnyH_takeD (i := 9) (v := ?_) 132 rfl rfl (by kernel_rfl) (by kernel_rfl) (by kernel_rfl) (fun _ _ _ _ _ h => h) (by rfl) (by assumption) ?_ ?_
             rotate_left; focus (intro w hSw; (try dsimp only at hSw); go_simp; try (with_reducible rfl))
             try simp only [Act.put, List.setIfInBounds_toArray, List.set_cons_succ, List.set_cons_zero]
             refine wpAnyH_ready (rs := [12]) (by kernel_rfl) (by simp) ?_
             refine AllReadyH.cons rfl (fun K hK => ?_) AllReadyH.nil
             obtain ⟨v0, f0⟩ := leaf_cell k8
             go_simp
             clear v0 f0
             obtain ⟨a1, a2, k8, k9, bX96⟩ := leaf_set a1 a2 k8 k9 hgk8 (by first | exact hne | exact hne.symm) bX95 (.slice p1 i1 k1)
             generalize World.setCell X95 ⟨X83.heap.size, 0, none⟩ (.slice p1 i1 k1) = X96 at a1 a2 k8 k9 bX96 ⊢
             refine hK.out _ _ (by exact below_cell (by assumption) C0.out) (fun hHeld => ?_)
             clear hK K; try simp only [Act.put, List.setIfInBounds_toArray, List.set_cons_succ, List.set_cons_zero]
             refine wpAnyH_ready (rs := [13]) (by kernel_rfl) (by simp) ?_
             refine AllReadyH.cons rfl (fun K hK => ?_) AllReadyH.nil
             obtain ⟨v0, f0⟩ := leaf_cell k9
             go_simp
             clear v0 f0
             obtain ⟨a1, a2, k9, k8, bX97⟩ := leaf_set a1 a2 k9 k8 hgk9 (by first | exact hne | exact hne.symm) bX96 (.slice p2 i2 k2)
             generalize World.setCell X96 ⟨X.heap.size, 0, none⟩ (.slice p2 i2 k2) = X97 at a1 a2 k8 k9 bX97 ⊢
             refine hK.out _ _ (by exact below_cell (by assumption) C0.out) (fun hHeld => ?_)
             clear hK K; try simp only [Act.put, List.setIfInBounds_toArray, List.set_cons_succ, List.set_cons_zero]
             refine wpAnyH_takeD (i := 14) (v := ?_) 21 rfl rfl (by kernel_rfl) (by kernel_rfl) (by kernel_rfl) (fun _ _ _ _ _ h => h) (by rfl) (by assumption) ?_ ?_
             rotate_left; focus (intro w hSw; (try dsimp only at hSw); go_simp; try (with_reducible rfl))
             try simp only [Act.put, List.setIfInBounds_toArray, List.set_cons_succ, List.set_cons_zero]
             refine wpAnyH_done (by kernel_rfl) ?_ _
             clear hHeld
             try go_wp2_with fail
             go_meet
             exact ⟨X83.heap.size, X.heap.size, p1, i1, k1, p2, i2, k2, rfl, rfl, rfl, k8, k9, a1, a2⟩
           ·go_simp
            obtain ⟨X98, hX98⟩ : ∃ X98, X98 = World.alloc X82 (Obj.cells #[.slice none 0 0] 28) := ⟨_, rfl⟩
            rw [← hX98]
            have hbe : Below X82.heap.size X82 X98 := hX98 ▸ ext_alloc (Below.refl _ _) _
            have bX98 := ext_trans bX82 hbe
            have hne : X.heap.size ≠ X82.heap.size := Nat.ne_of_lt k9.lt
            have k9 := k9.below hbe k9.lt
            have k8 := Blk.new X82 28 #[.slice none 0 0]
            rw [← hX98] at k8
            have hgk8 : w22.heap.size ≤ X82.heap.size := bX82.size
            clear hX98 hbe
            refine hK.out _ _ (by exact below_cell (by assumption) C0.out) (fun hHeld => ?_)
            clear hK K; try simp only [Act.put, List.setIfInBounds_toArray, List.set_cons_succ, List.set_cons_zero]
            refine wpAnyH_ready (rs := [1]) (by kernel_rfl) (by simp) ?_
            refine AllReadyH.cons rfl (fun K hK => ?_) AllReadyH.nil
            go_simp; (go_at_call 8; refine (toUnitS_any A n c _ us X98 (RA3.out.below (bX98.mono HZ3.out)) (Nat.le_trans HZ3.out bX98.size) n2).mono ?_; rintro e X99 ⟨A1, c1, rfl, u1⟩); (try dsimp only)
            have hbe := u1.ext
            have bX99 := ext_trans bX98 hbe
            have k8 := k8.below hbe k8.lt
            have k9 := k9.below hbe k9.lt
            clear hbe
            refine hK.out _ _ (by exact below_cell (by assumption) C0.out) (fun hHeld => ?_)
            clear hK K; try simp only [Act.put, List.setIfInBounds_toArray, List.set_cons_succ, List.set_cons_zero]
            refine wpAnyH_ready (rs := [3]) (by kernel_rfl) (by simp) ?_
            refine AllReadyH.cons rfl (fun K hK => ?_) AllReadyH.nil
            go_simp; (go_at_call 9; refine (toAmount_any D m k _ zs X99 (RD3.out.below (bX99.mono HZ3.out)) (Nat.le_trans HZ3.out bX99.size) m2).mono ?_; rintro e X100 ⟨D1, d1, rfl, v1⟩); (try dsimp only)
            have hbe := v1.ext
            have bX100 := ext_trans bX99 hbe
            have u1 := u1.later hbe
            have k8 := k8.below hbe k8.lt
            have k9 := k9.below hbe k9.lt
            clear hbe
            refine hK.out _ _ (by exact below_cell (by assumption) C0.out) (fun hHeld => ?_)
            clear hK K; try simp only [Act.put, List.setIfInBounds_toArray, List.set_cons_succ, List.set_cons_zero]
            refine wpAnyH_ready (rs := [5]) (by kernel_rfl) (by simp) ?_
            refine AllReadyH.cons rfl (fun K hK => ?_) AllReadyH.nil
            have hcc := own_cap u1.own
            go_simp; (go_at_call 10; refine (CI.out A1 c1 _ D1 d1 _ X100 u1.reads (Nat.le_refl _) hcc.1 hcc.2 v1.reads (Nat.le_refl _)).mono ?_; rintro e X101 ⟨p1, i1, k1, p2, i2, k2, rfl, q⟩); (try dsimp only)
            have hbe := q.one.ext
            have bX101 := ext_trans bX100 hbe
            have a1 := q.one.since bX100
            have a2 := q.two.since bX100
            have k8 := k8.below hbe k8.lt
            have k9 := k9.below hbe k9.lt
            clear hbe q u1 v1 hcc
            refine hK.out _ _ (by exact below_cell (by assumption) C0.out) (fun hHeld => ?_)
            clear hK K; try simp only [Act.put, List.setIfInBounds_toArray, List.set_cons_succ, List.set_cons_zero]
            refine wpAnyH_takeD (i := 6) (v := ?_) 123 rfl rfl (by kernel_rfl) (by kernel_rfl) (by kernel_rfl) (fun _ _ _ _ _ h => h) (by rfl) (by assumption) ?_ ?_
            rotate_left; focus (intro w hSw; (try dsimp only at hSw); go_simp; try (with_reducible rfl))
            try simp only [Act.put, List.setIfInBounds_toArray, List.set_cons_succ, List.set_cons_zero]
            refine wpAnyH_takeD (i := 7) (v := ?_) 130 rfl rfl (by kernel_rfl) (by kernel_rfl) (by kernel_rfl) (fun _ _ _ _ _ h => h) (by rfl) (by assumption) ?_ ?_
            rotate_left; focus (intro w hSw; (try dsimp only at hSw); go_simp; try (with_reducible rfl))
            try simp only [Act.put, List.setIfInBounds_toArray, List.set_cons_succ, List.set_cons_zero]
            refine wpAnyH_takeD (i := 8) (v := ?_) 131 rfl rfl (by kernel_rfl) (by kernel_rfl) (by kernel_rfl) (fun _ _ _ _ _ h => h) (by rfl) (by assumption) ?_ ?_
            rotate_left; focus (intro w hSw; (try dsimp only at hSw); go_simp; try (with_reducible rfl))
            try simp only [Act.put, List.setIfInBounds_toArray, List.set_cons_succ, List.set_cons_zero]
            refine wpAnyH_takeD (i := 9) (v := ?_) 132 rfl rfl (by kernel_rfl) (by kernel_rfl) (by kernel_rfl) (fun _ _ _ _ _ h => h) (by rfl) (by assumption) ?_ ?_
            rotate_left; focus (intro w hSw; (try dsimp only at hSw); go_simp; try (with_reducible rfl))
            try simp only [Act.put, List.setIfInBounds_toArray, List.set_cons_succ, List.set_cons_zero]
            refine wpAnyH_ready (rs := [12]) (by kernel_rfl) (by simp) ?_
            refine AllReadyH.cons rfl (fun K hK => ?_) AllReadyH.nil
            obtain ⟨v0, f0⟩ := leaf_cell k8
            go_simp
            clear v0 f0
            obtain ⟨a1, a2, k8, k9, bX102⟩ := leaf_set a1 a2 k8 k9 hgk8 (by first | exact hne | exact hne.symm) bX101 (.slice p1 i1 k1)
            generalize World.setCell X101 ⟨X82.heap.size, 0, none⟩ (.slice p1 i1 k1) = X102 at a1 a2 k8 k9 bX102 ⊢
            refine hK.out _ _ (by exact below_cell (by assumption) C0.out) (fun hHeld => ?_)
            clear hK K; try simp only [Act.put, List.setIfInBounds_toArray, List.set_cons_succ, List.set_cons_zero]
            refine wpAnyH_ready (rs := [13]) (by kernel_rfl) (by simp) ?_
            refine AllReadyH.cons rfl (fun K hK => ?_) AllReadyH.nil
            obtain ⟨v0, f0⟩ := leaf_cell k9
            go_simp
            clear v0 f0
            obtain ⟨a1, a2, k9, k8, bX103⟩ := leaf_set a1 a2 k9 k8 hgk9 (by first | exact hne | exact hne.symm) bX102 (.slice p2 i2 k2)
            generalize World.setCell X102 ⟨X.heap.size, 0, none⟩ (.slice p2 i2 k2) = X103 at a1 a2 k8 k9 bX103 ⊢
            refine hK.out _ _ (by exact below_cell (by assumption) C0.out) (fun hHeld => ?_)
            clear hK K; try simp only [Act.put, List.setIfInBounds_toArray, List.set_cons_succ, List.set_cons_zero]
            refine wpAnyH_takeD (i := 14) (v := ?_) 21 rfl rfl (by kernel_rfl) (by kernel_rfl) (by kernel_rfl) (fun _ _ _ _ _ h => h) (by rfl) (by assumption) ?_ ?_
            rotate_left; focus (intro w hSw; (try dsimp only at hSw); go_simp; try (with_reducible rfl))
            try simp only [Act.put, List.setIfInBounds_toArray, List.set_cons_succ, List.set_cons_zero]
            refine wpAnyH_done (by kernel_rfl) ?_ _
            clear hHeld
            try go_wp2_with fail
            go_meet
            exact ⟨X82.heap.size, X.heap.size, p1, i1, k1, p2, i2, k2, rfl, rfl, rfl, k8, k9, a1, a2⟩
        case rest =>
          obtain ⟨h1, h2, t1, v1, f1, t2, v2, f2, rfl, rfl, rfl, hk8, hk9, ha1, ha2⟩ := hcut
          have hl1 := ha1.len
          have hl2 := ha2.len
          have hm1 := HN22.out.r1.len
          have hm2 := HN22.out.r2.len
          obtain rfl : v1 = j1 := by omega
          obtain rfl : v2 = j2 := by omega
          have HN23 := Lib.hid (HN22.out.later ha1.ext)
          have R1 := Lib.hid ha1.reads
          have R2 := Lib.hid ha2.reads
          have K8 := Lib.hid hk8
          have K9 := Lib.hid hk9
          have y19 := hk8.cell 0
          have y20 := hk9.cell 0
          simp only [List.getElem?_toArray, List.getElem?_cons_zero] at y19 y20
          clear hl1 hl2 hm1 hm2 ha1 ha2 hk8 hk9 C0 RA3 RD3 HZ3 CI
          have x8 := (HN23.out.box g1 28 #[.slice p1 v1 k1] (by simp)).1.cell 0
          have x9 := (HN23.out.box g2 28 #[.slice p2 v2 k2] (by simp)).1.cell 0
          simp only [List.getElem?_toArray, List.getElem?_cons_zero] at x8 x9
          go_wp2_with fail
          refine (eqAmount_same t1 p1 v1 f1 k1 _ _ L1 _ R1.out HN23.out.r1 (Nat.le_refl _) (NU.rb HN23.out) (by unfold maxLen; omega)).mono ?_
          rintro e w24 ⟨rfl, hbe⟩
          have HN24 := Lib.hid (HN23.out.later hbe)
          have R2' := Lib.hid (R2.out.below hbe)
          have y20 := (K9.out.below hbe K9.out.lt).cell 0
          simp only [List.getElem?_toArray, List.getElem?_cons_zero] at y20
          have HZ := Lib.hid hbe.size
          clear x8 x9 y19 hbe
          have x9 := (HN24.out.box g2 28 #[.slice p2 v2 k2] (by simp)).1.cell 0
          simp only [List.getElem?_toArray, List.getElem?_cons_zero] at x9
          go_wp2_with fail
          refine (eqAmount_same t2 p2 v2 f2 k2 _ _ L2 _ R2'.out HN24.out.r2 HZ.out (NU.rb HN24.out) (by unfold maxLen; omega)).mono ?_
          rintro e w25 ⟨rfl, hbe⟩
          have HN25 := Lib.hid (HN24.out.later hbe)
          clear x9 y20 hbe
          have x13 := (HN25.out.box w7.heap.size 28 #[.slice q1 v1 e1] (by simp)).1.cell 0
          have x14 := (HN25.out.box (w7.heap.size + 1) 28 #[.slice q2 v2 e2] (by simp)).1.cell 0
          simp only [List.getElem?_toArray, List.getElem?_cons_zero] at x13 x14
          go_wp2_with fail
          refine (heldAmount_any q1 v1 e1 _ 1 _ (Reads.of_own HN25.out.o1) (Nat.le_refl _) (by omega) (by omega) (by omega)).mono ?_
          rintro e w26 ⟨rfl, hbe⟩
          have HN26 := Lib.hid (HN25.out.later hbe)
          have e1' : ¬ ((1 : Int) + (v1 : Int) < 0) := by omega
          clear x13 x14 hbe
          have x14 := (HN26.out.box (w7.heap.size + 1) 28 #[.slice q2 v2 e2] (by simp)).1.cell 0
          simp only [List.getElem?_toArray, List.getElem?_cons_zero] at x14
          go_wp2_with fail
          refine (heldAmount_any q2 v2 e2 _ _ _ (Reads.of_own HN26.out.o2) (Nat.le_refl _) (by omega) (by omega) (by omega)).mono ?_
          rintro e w27 ⟨rfl, hbe⟩
          have HN27 := Lib.hid (HN26.out.later hbe)
          have e2' : ¬ ((1 : Int) + (v1 : Int) + (v2 : Int) < 0) := by omega
          have e3' : (((1 : Int) + (v1 : Int) + (v2 : Int)) != ((1 : Int) + (v1 : Int) + (v2 : Int))) = false := by simp
          clear x14 hbe
          go_wp2_with fail
          go_ret
          exact ⟨rfl, HN27.out.bel⟩
end Go.Proofs.Ythigfbhkdegfkaa
