/- A number put into an ascending list. No condition. -/
import Derived.Test.YtbjmpllnkkfgfaaIns
import Derived.Test.YtbjmpllnkkfgfaaHeld
import Derived.StillTailTactics
namespace Go.Proofs.Ytbjmpllnkkfgfaa
open Go.RowKit

/-- m put into a list: what is smaller, m, what is greater. -/
def putV (m : Int) (zs : List Int) : List Int := zs.filter (fun z => decide (z < m)) ++ m :: zs.filter (fun z => decide (m < z))
def Asc (zs : List Int) : Prop := zs.Pairwise (· < ·)
theorem putV_asc (m : Int) {zs : List Int} (h : Asc zs) : Asc (putV m zs) := by
  unfold Asc putV at *
  rw [List.pairwise_append]
  refine ⟨h.filter _, ?_, ?_⟩
  · rw [List.pairwise_cons]
    exact ⟨fun x hx => by simpa using (List.mem_filter.1 hx).2, h.filter _⟩
  · intro x hx y hy
    have h1 := (List.mem_filter.1 hx).2
    simp only [decide_eq_true_eq] at h1
    rcases List.mem_cons.1 hy with rfl | hy
    · exact h1
    · have h2 := (List.mem_filter.1 hy).2
      simp only [decide_eq_true_eq] at h2
      omega
theorem putV_mem (m : Int) (zs : List Int) : m ∈ putV m zs := by simp [putV]
theorem putV_cut {m : Int} {zs : List Int} {k : Nat} (h1 : ∀ x ∈ zs.take k, x < m) (h2 : ∀ x ∈ zs.drop k, m < x) : putV m zs = insAt k m zs := by
  unfold putV insAt
  have e : zs = zs.take k ++ zs.drop k := (List.take_append_drop k zs).symm
  have f1 : zs.filter (fun z => decide (z < m)) = zs.take k := by
    conv => lhs; rw [e]
    rw [List.filter_append, List.filter_eq_self.2 (fun x hx => by simpa using h1 x hx), List.filter_eq_nil_iff.2 (fun x hx => by have := h2 x hx; simp; omega), List.append_nil]
  have f2 : zs.filter (fun z => decide (m < z)) = zs.drop k := by
    conv => lhs; rw [e]
    rw [List.filter_append, List.filter_eq_nil_iff.2 (fun x hx => by have := h1 x hx; simp; omega), List.filter_eq_self.2 (fun x hx => by simpa using h2 x hx), List.nil_append]
  rw [f1, f2]
theorem putV_hit {m : Int} {zs : List Int} {k : Nat} (hz : zs[k]? = some m) (h1 : ∀ x ∈ zs.take k, x < m) (h2 : ∀ x ∈ zs.drop (k + 1), m < x) : putV m zs = zs := by
  obtain ⟨hk, e⟩ := List.getElem?_eq_some_iff.1 hz
  have e1 : zs = zs.take k ++ m :: zs.drop (k + 1) := by
    rw [← e, ← List.drop_eq_getElem_cons hk, List.take_append_drop]
  unfold putV
  have f1 : zs.filter (fun z => decide (z < m)) = zs.take k := by
    conv => lhs; rw [e1]
    rw [List.filter_append, List.filter_eq_self.2 (fun x hx => by simpa using h1 x hx), List.filter_eq_nil_iff.2, List.append_nil]
    intro x hx
    rcases List.mem_cons.1 hx with rfl | hx
    · simp
    · have := h2 x hx; simp; omega
  have f2 : zs.filter (fun z => decide (m < z)) = zs.drop (k + 1) := by
    conv => lhs; rw [e1]
    rw [List.filter_append, List.filter_eq_nil_iff.2 (fun x hx => by have := h1 x hx; simp; omega), List.nil_append, List.filter_cons_of_neg (by simp), List.filter_eq_self.2 (fun x hx => by simpa using h2 x hx)]
  rw [f1, f2]
  exact e1.symm
theorem Asc.lt {zs : List Int} (h : Asc zs) {i j : Nat} {x y : Int} (hi : zs[i]? = some x) (hj : zs[j]? = some y) (hij : i < j) : x < y := by
  obtain ⟨a, rfl⟩ := List.getElem?_eq_some_iff.1 hi
  obtain ⟨b, rfl⟩ := List.getElem?_eq_some_iff.1 hj
  exact List.pairwise_iff_getElem.1 h i j a b hij
theorem take_all {zs : List Int} {k : Nat} {P : Int → Prop} (h : ∀ i, i < k → ∀ x, zs[i]? = some x → P x) : ∀ x ∈ zs.take k, P x := by
  intro x hx
  obtain ⟨i, hi⟩ := List.mem_iff_getElem?.1 hx
  rw [List.getElem?_take] at hi
  split at hi
  · exact h i (by assumption) x hi
  · cases hi
theorem drop_all {zs : List Int} {k : Nat} {P : Int → Prop} (h : ∀ i, k ≤ i → ∀ x, zs[i]? = some x → P x) : ∀ x ∈ zs.drop k, P x := by
  intro x hx
  obtain ⟨i, hi⟩ := List.mem_iff_getElem?.1 hx
  rw [List.getElem?_drop] at hi
  exact h (k + i) (by omega) x hi
set_option maxHeartbeats 4000000 in
theorem l1Put_any (A : Option Addr) (n c B : Nat) (zs : List Int) (m : Int) (w : World) (h : Reads w B 1 A n (zs.map (Value.int .i64))) (hB : B ≤ w.heap.size) (hn : n ≤ 1048576) (hc : n ≤ c) (hc2 : c ≤ maxLen) (ha : Asc zs) (hm : hasB zs m = false) :
    Calls Try.prog 82 #[.slice A n c, .int .i64 m] w fun e w' => GivesS 3 1 (putV m zs) w e w' := by
  have hl := h.len
  have H := Lib.hid h
  have HL := Lib.hid hl
  have HA := Lib.hid ha
  have HM := Lib.hid hm
  unfold maxLen at hc2
  clear h hl ha hm
  go_enter Try.func82, Try.ntmps82
  go_wp2
  go_loop [5] (fun i => ∃ k : Nat, i = .int .i64 k ∧ k ≤ n ∧ ∀ i, i < k → ∀ x, zs[i]? = some x → x < m) (fun i => n - (intOf i).toNat)
  case atStart => exact ⟨0, rfl, by omega, fun i hi => by omega⟩
  case round =>
    obtain ⟨k, rfl, hk, hh⟩ := hrel
    have HH := Lib.hid hh
    clear hh
    have hk0 : (0 : Int) ≤ k := by omega
    have hkn : (k : Int) ≤ n := by omega
    have hkc : (k : Int) ≤ c := by omega
    have hnc : (n : Int) ≤ c := by omega
    by_cases hlt : k < n
    · obtain ⟨b, o, z, rfl, hz, hcell⟩ := H.out.int hlt
      have HZ := Lib.hid hz
      clear hz
      have hlt' : (k : Int) < n := by omega
      by_cases hzm : z < m
      · go_wp2
        go_round
        case rel => exact ⟨k + 1, by go_num, by omega, fun i hi x hx => by
          rcases Nat.lt_or_ge i k with h | h
          · exact HH.out i h x hx
          · obtain rfl : i = k := by omega
            rw [HZ.out] at hx; injection hx with hx; omega⟩
        case measure => simp [intOf]; omega
      · have hmz : m < z := by
          have h := HM.out
          have hne : z ≠ m := fun e => by
            have hf : hasB zs m = true := hasB_hit HZ.out (by simp [e])
            rw [hf] at h; cases h
          omega
        have HE := Lib.hid (putV_cut (m := m) (take_all HH.out) (drop_all (k := k) (fun i hi x hx => by
          rcases Nat.lt_or_ge k i with h | h
          · have := HA.out.lt HZ.out hx h; omega
          · obtain rfl : i = k := by omega
            rw [HZ.out] at hx; injection hx with hx; omega)))
        have hzb : (z == m) = false := by simp; omega
        go_wp2
        refine wp_region_held_drew (S := (fun _ => True)) (by kernel_rfl) ?_ (fun hHeld => ?_)
        · trivial
        obtain ⟨X, hX⟩ : ∃ X, X = World.drew w := ⟨_, rfl⟩
        rw [← hX]
        have bX : Below w.heap.size w X := hX ▸ ext_drew (Below.refl _ _)
        clear hX
        refine wpAnyH_takeD (i := 1) (v := ?_) 34 rfl rfl (by kernel_rfl) (by kernel_rfl) (by kernel_rfl) (fun _ _ _ _ _ h => h) (by rfl) (by assumption) ?_ ?_
        rotate_left; focus (intro w hSw; (try dsimp only at hSw); go_simp; try (with_reducible rfl))
        try simp only [Act.put, List.setIfInBounds_toArray, List.set_cons_zero, List.set_cons_succ]
        refine wpAnyH_takeD (i := 2) (v := ?_) 35 rfl rfl (by kernel_rfl) (by kernel_rfl) (by kernel_rfl) (fun _ _ _ _ _ h => h) (by rfl) (by assumption) ?_ ?_
        rotate_left; focus (intro w hSw; (try dsimp only at hSw); go_simp; try (with_reducible rfl))
        try simp only [Act.put, List.setIfInBounds_toArray, List.set_cons_zero, List.set_cons_succ]
        refine wpAnyH_takeD (i := 3) (v := ?_) 36 rfl rfl (by kernel_rfl) (by kernel_rfl) (by kernel_rfl) (fun _ _ _ _ _ h => h) (by rfl) (by assumption) ?_ ?_
        rotate_left; focus (intro w hSw; (try dsimp only at hSw); go_simp; try (with_reducible rfl))
        try simp only [Act.put, List.setIfInBounds_toArray, List.set_cons_zero, List.set_cons_succ]
        refine wpAnyH_takeD (i := 5) (v := ?_) 38 rfl rfl (by kernel_rfl) (by kernel_rfl) (by kernel_rfl) (fun _ _ _ _ _ h => h) (by rfl) (by assumption) ?_ ?_
        rotate_left; focus (intro w hSw; (try dsimp only at hSw); go_simp; try (with_reducible rfl))
        try simp only [Act.put, List.setIfInBounds_toArray, List.set_cons_zero, List.set_cons_succ]
        refine wpAnyH_takeD (i := 8) (v := ?_) 41 rfl rfl (by kernel_rfl) (by kernel_rfl) (by kernel_rfl) (fun _ _ _ _ _ h => h) (by rfl) (by assumption) ?_ ?_
        rotate_left; focus (intro w hSw; (try dsimp only at hSw); go_simp; try (with_reducible rfl))
        try simp only [Act.put, List.setIfInBounds_toArray, List.set_cons_zero, List.set_cons_succ]
        refine wpAnyH_takeD (i := 9) (v := ?_) 42 rfl rfl (by kernel_rfl) (by kernel_rfl) (by kernel_rfl) (fun _ _ _ _ _ h => h) (by rfl) (by assumption) ?_ ?_
        rotate_left; focus (intro w hSw; (try dsimp only at hSw); go_simp; try (with_reducible rfl))
        try simp only [Act.put, List.setIfInBounds_toArray, List.set_cons_zero, List.set_cons_succ]
        refine wpAnyH_takeD (i := 10) (v := ?_) 43 rfl rfl (by kernel_rfl) (by kernel_rfl) (by kernel_rfl) (fun _ _ _ _ _ h => h) (by rfl) (by assumption) ?_ ?_
        rotate_left; focus (intro w hSw; (try dsimp only at hSw); go_simp; try (with_reducible rfl))
        try simp only [Act.put, List.setIfInBounds_toArray, List.set_cons_zero, List.set_cons_succ]
        refine wpAnyH_ready (rs := [0, 6]) (by kernel_rfl) (by simp) ?_
        refine AllReadyH.cons rfl (fun K hK => ?_) (AllReadyH.cons rfl (fun K hK => ?_) AllReadyH.nil)
        · go_simp
          obtain ⟨Y, hY⟩ : ∃ Y, Y = World.alloc X (Obj.cells #[] 3) := ⟨_, rfl⟩
          rw [← hY]
          have bY : Below w.heap.size w Y := hY ▸ ext_alloc bX _
          have a0 : Acc w Y 3 1 (some ⟨X.heap.size, 0, none⟩) 0 0 [] := hY ▸ Acc.empty bX
          clear hY
          refine hK.out _ _ (by trivial) (fun hHeld => ?_)
          clear hK K; (try simp only [Act.put]); (try simp only [List.setIfInBounds_toArray]); (try simp only [List.set_cons_succ]); (try simp only [List.set_cons_zero])
          refine wpAnyH_ready (rs := [4, 6]) (by kernel_rfl) (by simp) ?_
          refine AllReadyH.cons rfl (fun K hK => ?_) (AllReadyH.cons rfl (fun K hK => ?_) AllReadyH.nil)
          · refine appI_b_step rfl (.tmp 33) (.tmp 36) rfl rfl a0 rfl ((H.out.below (bY.mono hB)).frontI hk) (by omega) ?_
            intro A1 c1 Z a1 p1
            have bZ := a1.ext
            simp only [Nat.zero_add, List.nil_append] at a1
            refine hK.out _ _ (by trivial) (fun hHeld => ?_)
            clear hK K; (try simp only [Act.put]); (try simp only [List.setIfInBounds_toArray]); (try simp only [List.set_cons_succ]); (try simp only [List.set_cons_zero])
            try simp only [Nat.zero_add]
            refine wpAnyH_ready (rs := [6]) (by kernel_rfl) (by simp) ?_
            refine AllReadyH.cons rfl (fun K hK => ?_) AllReadyH.nil
            go_simp
            obtain ⟨T, hT⟩ : ∃ T, T = World.alloc Z (Obj.cells #[.int .i64 m] 3) := ⟨_, rfl⟩
            rw [← hT]
            have bT : Below w.heap.size w T := hT ▸ ext_alloc bZ _
            have s1 := Side.new a1 #[.int .i64 m] 3 [m] rfl rfl
            rw [← hT] at s1
            have a1 := a1.alloc (Obj.cells #[.int .i64 m] 3)
            rw [← hT] at a1
            clear hT
            refine hK.out _ _ (by trivial) (fun hHeld => ?_)
            clear hK K; (try simp only [Act.put]); (try simp only [List.setIfInBounds_toArray]); (try simp only [List.set_cons_succ]); (try simp only [List.set_cons_zero])
            refine wpAnyH_ready (rs := [7]) (by kernel_rfl) (by simp) ?_
            refine AllReadyH.cons rfl (fun K hK => ?_) AllReadyH.nil
            refine appI_b_step rfl (.tmp 37) (.tmp 39) rfl rfl a1 rfl s1.reads (by omega) ?_
            intro A2 c2 V a2 p2
            have bV := a2.ext
            refine hK.out _ _ (by trivial) (fun hHeld => ?_)
            clear hK K; (try simp only [Act.put]); (try simp only [List.setIfInBounds_toArray]); (try simp only [List.set_cons_succ]); (try simp only [List.set_cons_zero])
            refine wpAnyH_ready (rs := [11]) (by kernel_rfl) (by simp) ?_
            refine AllReadyH.cons rfl (fun K hK => ?_) AllReadyH.nil
            refine appI_b_step rfl (.tmp 40) (.tmp 43) rfl rfl a2 rfl (by first | exact ((H.out.below (bV.mono hB)).cutI hk hc) | exact ((H.out.below (bV.mono hB)).cutS hk hc)) (by omega) ?_
            intro A3 c3 U a3 p3
            have bU := a3.ext
            refine hK.out _ _ (by trivial) (fun hHeld => ?_)
            clear hK K; (try simp only [Act.put]); (try simp only [List.setIfInBounds_toArray]); (try simp only [List.set_cons_succ]); (try simp only [List.set_cons_zero])
            refine wpAnyH_takeD (i := 12) (v := ?_) 4 rfl rfl (by kernel_rfl) (by kernel_rfl) (by kernel_rfl) (fun _ _ _ _ _ h => h) (by rfl) (by assumption) ?_ ?_
            rotate_left; focus (intro w hSw; (try dsimp only at hSw); go_simp; try (with_reducible rfl))
            (try simp only [Act.put]); (try simp only [List.setIfInBounds_toArray]); (try simp only [List.set_cons_succ]); (try simp only [List.set_cons_zero])
            refine wpAnyH_done (by kernel_rfl) ?_ _
            go_wp2
            all_goals
              go_ret
              refine ⟨_, _, _, rfl, ?_⟩
              rw [HE.out]
              simpa [insAt] using a3
          · go_simp
            obtain ⟨Z, hZ⟩ : ∃ Z, Z = World.alloc Y (Obj.cells #[.int .i64 m] 3) := ⟨_, rfl⟩
            rw [← hZ]
            have bZ : Below w.heap.size w Z := hZ ▸ ext_alloc bY _
            have s1 := Side.new a0 #[.int .i64 m] 3 [m] rfl rfl
            rw [← hZ] at s1
            have a0 := a0.alloc (Obj.cells #[.int .i64 m] 3)
            rw [← hZ] at a0
            clear hZ
            refine hK.out _ _ (by trivial) (fun hHeld => ?_)
            clear hK K; (try simp only [Act.put]); (try simp only [List.setIfInBounds_toArray]); (try simp only [List.set_cons_succ]); (try simp only [List.set_cons_zero])
            refine wpAnyH_ready (rs := [4]) (by kernel_rfl) (by simp) ?_
            refine AllReadyH.cons rfl (fun K hK => ?_) AllReadyH.nil
            refine appI_b_step rfl (.tmp 33) (.tmp 36) rfl rfl a0 rfl ((H.out.below (bZ.mono hB)).frontI hk) (by omega) ?_
            intro A1 c1 T a1 p1
            have bT := a1.ext
            simp only [Nat.zero_add, List.nil_append] at a1
            have s1 := s1.pushed p1
            refine hK.out _ _ (by trivial) (fun hHeld => ?_)
            clear hK K; (try simp only [Act.put]); (try simp only [List.setIfInBounds_toArray]); (try simp only [List.set_cons_succ]); (try simp only [List.set_cons_zero])
            try simp only [Nat.zero_add]
            refine wpAnyH_ready (rs := [7]) (by kernel_rfl) (by simp) ?_
            refine AllReadyH.cons rfl (fun K hK => ?_) AllReadyH.nil
            refine appI_b_step rfl (.tmp 37) (.tmp 39) rfl rfl a1 rfl s1.reads (by omega) ?_
            intro A2 c2 V a2 p2
            have bV := a2.ext
            refine hK.out _ _ (by trivial) (fun hHeld => ?_)
            clear hK K; (try simp only [Act.put]); (try simp only [List.setIfInBounds_toArray]); (try simp only [List.set_cons_succ]); (try simp only [List.set_cons_zero])
            refine wpAnyH_ready (rs := [11]) (by kernel_rfl) (by simp) ?_
            refine AllReadyH.cons rfl (fun K hK => ?_) AllReadyH.nil
            refine appI_b_step rfl (.tmp 40) (.tmp 43) rfl rfl a2 rfl (by first | exact ((H.out.below (bV.mono hB)).cutI hk hc) | exact ((H.out.below (bV.mono hB)).cutS hk hc)) (by omega) ?_
            intro A3 c3 U a3 p3
            have bU := a3.ext
            refine hK.out _ _ (by trivial) (fun hHeld => ?_)
            clear hK K; (try simp only [Act.put]); (try simp only [List.setIfInBounds_toArray]); (try simp only [List.set_cons_succ]); (try simp only [List.set_cons_zero])
            refine wpAnyH_takeD (i := 12) (v := ?_) 4 rfl rfl (by kernel_rfl) (by kernel_rfl) (by kernel_rfl) (fun _ _ _ _ _ h => h) (by rfl) (by assumption) ?_ ?_
            rotate_left; focus (intro w hSw; (try dsimp only at hSw); go_simp; try (with_reducible rfl))
            (try simp only [Act.put]); (try simp only [List.setIfInBounds_toArray]); (try simp only [List.set_cons_succ]); (try simp only [List.set_cons_zero])
            refine wpAnyH_done (by kernel_rfl) ?_ _
            go_wp2
            all_goals
              go_ret
              refine ⟨_, _, _, rfl, ?_⟩
              rw [HE.out]
              simpa [insAt] using a3
        · go_simp
          obtain ⟨Y, hY⟩ : ∃ Y, Y = World.alloc X (Obj.cells #[.int .i64 m] 3) := ⟨_, rfl⟩
          rw [← hY]
          have bY : Below w.heap.size w Y := hY ▸ ext_alloc bX _
          have s1 := Side.new0 X 1 #[.int .i64 m] 3 [m] rfl rfl
          rw [← hY] at s1
          clear hY
          refine hK.out _ _ (by trivial) (fun hHeld => ?_)
          clear hK K; (try simp only [Act.put]); (try simp only [List.setIfInBounds_toArray]); (try simp only [List.set_cons_succ]); (try simp only [List.set_cons_zero])
          refine wpAnyH_ready (rs := [0]) (by kernel_rfl) (by simp) ?_
          refine AllReadyH.cons rfl (fun K hK => ?_) AllReadyH.nil
          go_simp
          obtain ⟨Z, hZ⟩ : ∃ Z, Z = World.alloc Y (Obj.cells #[] 3) := ⟨_, rfl⟩
          rw [← hZ]
          have bZ : Below w.heap.size w Z := hZ ▸ ext_alloc bY _
          have a0 : Acc w Z 3 1 (some ⟨Y.heap.size, 0, none⟩) 0 0 [] := hZ ▸ Acc.empty bY
          have s1 := s1.row (Obj.cells #[] 3)
          rw [← hZ] at s1
          clear hZ
          refine hK.out _ _ (by trivial) (fun hHeld => ?_)
          clear hK K; (try simp only [Act.put]); (try simp only [List.setIfInBounds_toArray]); (try simp only [List.set_cons_succ]); (try simp only [List.set_cons_zero])
          refine wpAnyH_ready (rs := [4]) (by kernel_rfl) (by simp) ?_
          refine AllReadyH.cons rfl (fun K hK => ?_) AllReadyH.nil
          refine appI_b_step rfl (.tmp 33) (.tmp 36) rfl rfl a0 rfl ((H.out.below (bZ.mono hB)).frontI hk) (by omega) ?_
          intro A1 c1 T a1 p1
          have bT := a1.ext
          simp only [Nat.zero_add, List.nil_append] at a1
          have s1 := s1.pushed p1
          refine hK.out _ _ (by trivial) (fun hHeld => ?_)
          clear hK K; (try simp only [Act.put]); (try simp only [List.setIfInBounds_toArray]); (try simp only [List.set_cons_succ]); (try simp only [List.set_cons_zero])
          try simp only [Nat.zero_add]
          refine wpAnyH_ready (rs := [7]) (by kernel_rfl) (by simp) ?_
          refine AllReadyH.cons rfl (fun K hK => ?_) AllReadyH.nil
          refine appI_b_step rfl (.tmp 37) (.tmp 39) rfl rfl a1 rfl s1.reads (by omega) ?_
          intro A2 c2 V a2 p2
          have bV := a2.ext
          refine hK.out _ _ (by trivial) (fun hHeld => ?_)
          clear hK K; (try simp only [Act.put]); (try simp only [List.setIfInBounds_toArray]); (try simp only [List.set_cons_succ]); (try simp only [List.set_cons_zero])
          refine wpAnyH_ready (rs := [11]) (by kernel_rfl) (by simp) ?_
          refine AllReadyH.cons rfl (fun K hK => ?_) AllReadyH.nil
          refine appI_b_step rfl (.tmp 40) (.tmp 43) rfl rfl a2 rfl (by first | exact ((H.out.below (bV.mono hB)).cutI hk hc) | exact ((H.out.below (bV.mono hB)).cutS hk hc)) (by omega) ?_
          intro A3 c3 U a3 p3
          have bU := a3.ext
          refine hK.out _ _ (by trivial) (fun hHeld => ?_)
          clear hK K; (try simp only [Act.put]); (try simp only [List.setIfInBounds_toArray]); (try simp only [List.set_cons_succ]); (try simp only [List.set_cons_zero])
          refine wpAnyH_takeD (i := 12) (v := ?_) 4 rfl rfl (by kernel_rfl) (by kernel_rfl) (by kernel_rfl) (fun _ _ _ _ _ h => h) (by rfl) (by assumption) ?_ ?_
          rotate_left; focus (intro w hSw; (try dsimp only at hSw); go_simp; try (with_reducible rfl))
          (try simp only [Act.put]); (try simp only [List.setIfInBounds_toArray]); (try simp only [List.set_cons_succ]); (try simp only [List.set_cons_zero])
          refine wpAnyH_done (by kernel_rfl) ?_ _
          go_wp2
          all_goals
            go_ret
            refine ⟨_, _, _, rfl, ?_⟩
            rw [HE.out]
            simpa [insAt] using a3
    · have HE := Lib.hid (putV_cut (m := m) (take_all HH.out) (drop_all (k := k) (fun i hi x hx => by
        have := (List.getElem?_eq_some_iff.1 hx).1
        have := HL.out
        omega)))
      have hkn' : ¬ (k : Int) < n := by omega
      have hlt' : decide (k < n) = false := by simp; omega
      · go_wp2
        refine wp_region_held_drew (S := (fun _ => True)) (by kernel_rfl) ?_ (fun hHeld => ?_)
        · trivial
        obtain ⟨X, hX⟩ : ∃ X, X = World.drew w := ⟨_, rfl⟩
        rw [← hX]
        have bX : Below w.heap.size w X := hX ▸ ext_drew (Below.refl _ _)
        clear hX
        refine wpAnyH_takeD (i := 1) (v := ?_) 34 rfl rfl (by kernel_rfl) (by kernel_rfl) (by kernel_rfl) (fun _ _ _ _ _ h => h) (by rfl) (by assumption) ?_ ?_
        rotate_left; focus (intro w hSw; (try dsimp only at hSw); go_simp; try (with_reducible rfl))
        try simp only [Act.put, List.setIfInBounds_toArray, List.set_cons_zero, List.set_cons_succ]
        refine wpAnyH_takeD (i := 2) (v := ?_) 35 rfl rfl (by kernel_rfl) (by kernel_rfl) (by kernel_rfl) (fun _ _ _ _ _ h => h) (by rfl) (by assumption) ?_ ?_
        rotate_left; focus (intro w hSw; (try dsimp only at hSw); go_simp; try (with_reducible rfl))
        try simp only [Act.put, List.setIfInBounds_toArray, List.set_cons_zero, List.set_cons_succ]
        refine wpAnyH_takeD (i := 3) (v := ?_) 36 rfl rfl (by kernel_rfl) (by kernel_rfl) (by kernel_rfl) (fun _ _ _ _ _ h => h) (by rfl) (by assumption) ?_ ?_
        rotate_left; focus (intro w hSw; (try dsimp only at hSw); go_simp; try (with_reducible rfl))
        try simp only [Act.put, List.setIfInBounds_toArray, List.set_cons_zero, List.set_cons_succ]
        refine wpAnyH_takeD (i := 5) (v := ?_) 38 rfl rfl (by kernel_rfl) (by kernel_rfl) (by kernel_rfl) (fun _ _ _ _ _ h => h) (by rfl) (by assumption) ?_ ?_
        rotate_left; focus (intro w hSw; (try dsimp only at hSw); go_simp; try (with_reducible rfl))
        try simp only [Act.put, List.setIfInBounds_toArray, List.set_cons_zero, List.set_cons_succ]
        refine wpAnyH_takeD (i := 8) (v := ?_) 41 rfl rfl (by kernel_rfl) (by kernel_rfl) (by kernel_rfl) (fun _ _ _ _ _ h => h) (by rfl) (by assumption) ?_ ?_
        rotate_left; focus (intro w hSw; (try dsimp only at hSw); go_simp; try (with_reducible rfl))
        try simp only [Act.put, List.setIfInBounds_toArray, List.set_cons_zero, List.set_cons_succ]
        refine wpAnyH_takeD (i := 9) (v := ?_) 42 rfl rfl (by kernel_rfl) (by kernel_rfl) (by kernel_rfl) (fun _ _ _ _ _ h => h) (by rfl) (by assumption) ?_ ?_
        rotate_left; focus (intro w hSw; (try dsimp only at hSw); go_simp; try (with_reducible rfl))
        try simp only [Act.put, List.setIfInBounds_toArray, List.set_cons_zero, List.set_cons_succ]
        refine wpAnyH_takeD (i := 10) (v := ?_) 43 rfl rfl (by kernel_rfl) (by kernel_rfl) (by kernel_rfl) (fun _ _ _ _ _ h => h) (by rfl) (by assumption) ?_ ?_
        rotate_left; focus (intro w hSw; (try dsimp only at hSw); go_simp; try (with_reducible rfl))
        try simp only [Act.put, List.setIfInBounds_toArray, List.set_cons_zero, List.set_cons_succ]
        refine wpAnyH_ready (rs := [0, 6]) (by kernel_rfl) (by simp) ?_
        refine AllReadyH.cons rfl (fun K hK => ?_) (AllReadyH.cons rfl (fun K hK => ?_) AllReadyH.nil)
        · go_simp
          obtain ⟨Y, hY⟩ : ∃ Y, Y = World.alloc X (Obj.cells #[] 3) := ⟨_, rfl⟩
          rw [← hY]
          have bY : Below w.heap.size w Y := hY ▸ ext_alloc bX _
          have a0 : Acc w Y 3 1 (some ⟨X.heap.size, 0, none⟩) 0 0 [] := hY ▸ Acc.empty bX
          clear hY
          refine hK.out _ _ (by trivial) (fun hHeld => ?_)
          clear hK K; (try simp only [Act.put]); (try simp only [List.setIfInBounds_toArray]); (try simp only [List.set_cons_succ]); (try simp only [List.set_cons_zero])
          refine wpAnyH_ready (rs := [4, 6]) (by kernel_rfl) (by simp) ?_
          refine AllReadyH.cons rfl (fun K hK => ?_) (AllReadyH.cons rfl (fun K hK => ?_) AllReadyH.nil)
          · refine appI_b_step rfl (.tmp 33) (.tmp 36) rfl rfl a0 rfl ((H.out.below (bY.mono hB)).frontI hk) (by omega) ?_
            intro A1 c1 Z a1 p1
            have bZ := a1.ext
            simp only [Nat.zero_add, List.nil_append] at a1
            refine hK.out _ _ (by trivial) (fun hHeld => ?_)
            clear hK K; (try simp only [Act.put]); (try simp only [List.setIfInBounds_toArray]); (try simp only [List.set_cons_succ]); (try simp only [List.set_cons_zero])
            try simp only [Nat.zero_add]
            refine wpAnyH_ready (rs := [6]) (by kernel_rfl) (by simp) ?_
            refine AllReadyH.cons rfl (fun K hK => ?_) AllReadyH.nil
            go_simp
            obtain ⟨T, hT⟩ : ∃ T, T = World.alloc Z (Obj.cells #[.int .i64 m] 3) := ⟨_, rfl⟩
            rw [← hT]
            have bT : Below w.heap.size w T := hT ▸ ext_alloc bZ _
            have s1 := Side.new a1 #[.int .i64 m] 3 [m] rfl rfl
            rw [← hT] at s1
            have a1 := a1.alloc (Obj.cells #[.int .i64 m] 3)
            rw [← hT] at a1
            clear hT
            refine hK.out _ _ (by trivial) (fun hHeld => ?_)
            clear hK K; (try simp only [Act.put]); (try simp only [List.setIfInBounds_toArray]); (try simp only [List.set_cons_succ]); (try simp only [List.set_cons_zero])
            refine wpAnyH_ready (rs := [7]) (by kernel_rfl) (by simp) ?_
            refine AllReadyH.cons rfl (fun K hK => ?_) AllReadyH.nil
            refine appI_b_step rfl (.tmp 37) (.tmp 39) rfl rfl a1 rfl s1.reads (by omega) ?_
            intro A2 c2 V a2 p2
            have bV := a2.ext
            refine hK.out _ _ (by trivial) (fun hHeld => ?_)
            clear hK K; (try simp only [Act.put]); (try simp only [List.setIfInBounds_toArray]); (try simp only [List.set_cons_succ]); (try simp only [List.set_cons_zero])
            refine wpAnyH_ready (rs := [11]) (by kernel_rfl) (by simp) ?_
            refine AllReadyH.cons rfl (fun K hK => ?_) AllReadyH.nil
            refine appI_b_step rfl (.tmp 40) (.tmp 43) rfl rfl a2 rfl (by first | exact ((H.out.below (bV.mono hB)).cutI hk hc) | exact ((H.out.below (bV.mono hB)).cutS hk hc)) (by omega) ?_
            intro A3 c3 U a3 p3
            have bU := a3.ext
            refine hK.out _ _ (by trivial) (fun hHeld => ?_)
            clear hK K; (try simp only [Act.put]); (try simp only [List.setIfInBounds_toArray]); (try simp only [List.set_cons_succ]); (try simp only [List.set_cons_zero])
            refine wpAnyH_takeD (i := 12) (v := ?_) 4 rfl rfl (by kernel_rfl) (by kernel_rfl) (by kernel_rfl) (fun _ _ _ _ _ h => h) (by rfl) (by assumption) ?_ ?_
            rotate_left; focus (intro w hSw; (try dsimp only at hSw); go_simp; try (with_reducible rfl))
            (try simp only [Act.put]); (try simp only [List.setIfInBounds_toArray]); (try simp only [List.set_cons_succ]); (try simp only [List.set_cons_zero])
            refine wpAnyH_done (by kernel_rfl) ?_ _
            go_wp2
            all_goals
              go_ret
              refine ⟨_, _, _, rfl, ?_⟩
              rw [HE.out]
              simpa [insAt] using a3
          · go_simp
            obtain ⟨Z, hZ⟩ : ∃ Z, Z = World.alloc Y (Obj.cells #[.int .i64 m] 3) := ⟨_, rfl⟩
            rw [← hZ]
            have bZ : Below w.heap.size w Z := hZ ▸ ext_alloc bY _
            have s1 := Side.new a0 #[.int .i64 m] 3 [m] rfl rfl
            rw [← hZ] at s1
            have a0 := a0.alloc (Obj.cells #[.int .i64 m] 3)
            rw [← hZ] at a0
            clear hZ
            refine hK.out _ _ (by trivial) (fun hHeld => ?_)
            clear hK K; (try simp only [Act.put]); (try simp only [List.setIfInBounds_toArray]); (try simp only [List.set_cons_succ]); (try simp only [List.set_cons_zero])
            refine wpAnyH_ready (rs := [4]) (by kernel_rfl) (by simp) ?_
            refine AllReadyH.cons rfl (fun K hK => ?_) AllReadyH.nil
            refine appI_b_step rfl (.tmp 33) (.tmp 36) rfl rfl a0 rfl ((H.out.below (bZ.mono hB)).frontI hk) (by omega) ?_
            intro A1 c1 T a1 p1
            have bT := a1.ext
            simp only [Nat.zero_add, List.nil_append] at a1
            have s1 := s1.pushed p1
            refine hK.out _ _ (by trivial) (fun hHeld => ?_)
            clear hK K; (try simp only [Act.put]); (try simp only [List.setIfInBounds_toArray]); (try simp only [List.set_cons_succ]); (try simp only [List.set_cons_zero])
            try simp only [Nat.zero_add]
            refine wpAnyH_ready (rs := [7]) (by kernel_rfl) (by simp) ?_
            refine AllReadyH.cons rfl (fun K hK => ?_) AllReadyH.nil
            refine appI_b_step rfl (.tmp 37) (.tmp 39) rfl rfl a1 rfl s1.reads (by omega) ?_
            intro A2 c2 V a2 p2
            have bV := a2.ext
            refine hK.out _ _ (by trivial) (fun hHeld => ?_)
            clear hK K; (try simp only [Act.put]); (try simp only [List.setIfInBounds_toArray]); (try simp only [List.set_cons_succ]); (try simp only [List.set_cons_zero])
            refine wpAnyH_ready (rs := [11]) (by kernel_rfl) (by simp) ?_
            refine AllReadyH.cons rfl (fun K hK => ?_) AllReadyH.nil
            refine appI_b_step rfl (.tmp 40) (.tmp 43) rfl rfl a2 rfl (by first | exact ((H.out.below (bV.mono hB)).cutI hk hc) | exact ((H.out.below (bV.mono hB)).cutS hk hc)) (by omega) ?_
            intro A3 c3 U a3 p3
            have bU := a3.ext
            refine hK.out _ _ (by trivial) (fun hHeld => ?_)
            clear hK K; (try simp only [Act.put]); (try simp only [List.setIfInBounds_toArray]); (try simp only [List.set_cons_succ]); (try simp only [List.set_cons_zero])
            refine wpAnyH_takeD (i := 12) (v := ?_) 4 rfl rfl (by kernel_rfl) (by kernel_rfl) (by kernel_rfl) (fun _ _ _ _ _ h => h) (by rfl) (by assumption) ?_ ?_
            rotate_left; focus (intro w hSw; (try dsimp only at hSw); go_simp; try (with_reducible rfl))
            (try simp only [Act.put]); (try simp only [List.setIfInBounds_toArray]); (try simp only [List.set_cons_succ]); (try simp only [List.set_cons_zero])
            refine wpAnyH_done (by kernel_rfl) ?_ _
            go_wp2
            all_goals
              go_ret
              refine ⟨_, _, _, rfl, ?_⟩
              rw [HE.out]
              simpa [insAt] using a3
        · go_simp
          obtain ⟨Y, hY⟩ : ∃ Y, Y = World.alloc X (Obj.cells #[.int .i64 m] 3) := ⟨_, rfl⟩
          rw [← hY]
          have bY : Below w.heap.size w Y := hY ▸ ext_alloc bX _
          have s1 := Side.new0 X 1 #[.int .i64 m] 3 [m] rfl rfl
          rw [← hY] at s1
          clear hY
          refine hK.out _ _ (by trivial) (fun hHeld => ?_)
          clear hK K; (try simp only [Act.put]); (try simp only [List.setIfInBounds_toArray]); (try simp only [List.set_cons_succ]); (try simp only [List.set_cons_zero])
          refine wpAnyH_ready (rs := [0]) (by kernel_rfl) (by simp) ?_
          refine AllReadyH.cons rfl (fun K hK => ?_) AllReadyH.nil
          go_simp
          obtain ⟨Z, hZ⟩ : ∃ Z, Z = World.alloc Y (Obj.cells #[] 3) := ⟨_, rfl⟩
          rw [← hZ]
          have bZ : Below w.heap.size w Z := hZ ▸ ext_alloc bY _
          have a0 : Acc w Z 3 1 (some ⟨Y.heap.size, 0, none⟩) 0 0 [] := hZ ▸ Acc.empty bY
          have s1 := s1.row (Obj.cells #[] 3)
          rw [← hZ] at s1
          clear hZ
          refine hK.out _ _ (by trivial) (fun hHeld => ?_)
          clear hK K; (try simp only [Act.put]); (try simp only [List.setIfInBounds_toArray]); (try simp only [List.set_cons_succ]); (try simp only [List.set_cons_zero])
          refine wpAnyH_ready (rs := [4]) (by kernel_rfl) (by simp) ?_
          refine AllReadyH.cons rfl (fun K hK => ?_) AllReadyH.nil
          refine appI_b_step rfl (.tmp 33) (.tmp 36) rfl rfl a0 rfl ((H.out.below (bZ.mono hB)).frontI hk) (by omega) ?_
          intro A1 c1 T a1 p1
          have bT := a1.ext
          simp only [Nat.zero_add, List.nil_append] at a1
          have s1 := s1.pushed p1
          refine hK.out _ _ (by trivial) (fun hHeld => ?_)
          clear hK K; (try simp only [Act.put]); (try simp only [List.setIfInBounds_toArray]); (try simp only [List.set_cons_succ]); (try simp only [List.set_cons_zero])
          try simp only [Nat.zero_add]
          refine wpAnyH_ready (rs := [7]) (by kernel_rfl) (by simp) ?_
          refine AllReadyH.cons rfl (fun K hK => ?_) AllReadyH.nil
          refine appI_b_step rfl (.tmp 37) (.tmp 39) rfl rfl a1 rfl s1.reads (by omega) ?_
          intro A2 c2 V a2 p2
          have bV := a2.ext
          refine hK.out _ _ (by trivial) (fun hHeld => ?_)
          clear hK K; (try simp only [Act.put]); (try simp only [List.setIfInBounds_toArray]); (try simp only [List.set_cons_succ]); (try simp only [List.set_cons_zero])
          refine wpAnyH_ready (rs := [11]) (by kernel_rfl) (by simp) ?_
          refine AllReadyH.cons rfl (fun K hK => ?_) AllReadyH.nil
          refine appI_b_step rfl (.tmp 40) (.tmp 43) rfl rfl a2 rfl (by first | exact ((H.out.below (bV.mono hB)).cutI hk hc) | exact ((H.out.below (bV.mono hB)).cutS hk hc)) (by omega) ?_
          intro A3 c3 U a3 p3
          have bU := a3.ext
          refine hK.out _ _ (by trivial) (fun hHeld => ?_)
          clear hK K; (try simp only [Act.put]); (try simp only [List.setIfInBounds_toArray]); (try simp only [List.set_cons_succ]); (try simp only [List.set_cons_zero])
          refine wpAnyH_takeD (i := 12) (v := ?_) 4 rfl rfl (by kernel_rfl) (by kernel_rfl) (by kernel_rfl) (fun _ _ _ _ _ h => h) (by rfl) (by assumption) ?_ ?_
          rotate_left; focus (intro w hSw; (try dsimp only at hSw); go_simp; try (with_reducible rfl))
          (try simp only [Act.put]); (try simp only [List.setIfInBounds_toArray]); (try simp only [List.set_cons_succ]); (try simp only [List.set_cons_zero])
          refine wpAnyH_done (by kernel_rfl) ?_ _
          go_wp2
          all_goals
            go_ret
            refine ⟨_, _, _, rfl, ?_⟩
            rw [HE.out]
            simpa [insAt] using a3
set_option maxHeartbeats 4000000 in
theorem putInt_any {w0 : World} (A : Option Addr) (n c : Nat) (zs : List Int) (m : Int) (w : World) (h : Acc w0 w 3 1 A n c zs) (hn : n ≤ 1048576) (ha : Asc zs) :
    Calls Try.prog 83 #[.slice A n c, .int .i64 m] w fun e w' => ∃ A' n' c', e = .returned (.slice A' n' c') ∧ Acc w0 w' 3 1 A' n' c' (putV m zs) := by
  have hl : zs.length = n := by simpa using h.len
  have HA := Lib.hid h
  have HL := Lib.hid hl
  have HS := Lib.hid ha
  clear h hl ha
  go_enter Try.func83, Try.ntmps83
  go_wp2
  go_loop [5] (fun i => ∃ k : Nat, i = .int .i64 k ∧ k ≤ n ∧ ∀ i, k ≤ i → ∀ x, zs[i]? = some x → m < x) (fun i => (intOf i).toNat)
  case atStart => exact ⟨n, rfl, Nat.le_refl _, fun i hi x hx => by have := (List.getElem?_eq_some_iff.1 hx).1; have := HL.out; omega⟩
  case round =>
    obtain ⟨k, rfl, hk, hh⟩ := hrel
    have HH := Lib.hid hh
    clear hh
    rcases Nat.eq_zero_or_pos k with h0 | h0
    · have HE := Lib.hid (putV_cut (m := m) (k := k) (take_all (fun i hi => by omega)) (drop_all HH.out))
      have e0 : decide (0 < k) = false := by simp; omega
      have H0 := Lib.hid h0
      clear h0
      have hA := HA.out
      go_wp2_with (at_builtin; refine appI rfl _ _ rfl rfl (hA.alloc _) rfl (reads_new _ _ _ 1 [0] rfl rfl) (by omega) ?_; intro A2 c2 w2 hacc2 hg2)
      have HA2 := Lib.hid hacc2
      obtain ⟨g, cp, hv, _, _⟩ := hacc2.own.form (by omega)
      have hA2 : A2 = some ⟨g, 0, none⟩ := by injection hv
      subst hA2
      have hcap := hacc2.cap
      have hl2 := HL.out
      unfold maxLen at hcap
      obtain ⟨hc1, hc2⟩ := hcap
      have q1 : (0 : Int) ≤ k := by omega
      have q2 : (k : Int) ≤ n := by omega
      have q3 : ((n + 1 : Nat) : Int) ≤ c2 := by omega
      have q4 : IntKind.i64.wrap ((k : Int) + 1) = (k : Int) + 1 := IntWalk.i64_in _ ⟨by omega, by omega⟩
      have q5 : (0 : Int) ≤ (k : Int) + 1 := by omega
      have q6 : ((k : Int) + 1).toNat = k + 1 := by omega
      have q7 : ¬ c2 = k := by omega
      have q9 : (k : Int) ≤ (n : Int) + 1 := by omega
      have q10 : (k : Int) + 1 ≤ (n : Int) + 1 := by omega
      have q11 : (n : Int) + 1 ≤ c2 := by omega
      have HG := Lib.hid hg2
      have HC := Lib.hid hc1
      clear hA hacc2 hv hl2 hg2 hc1
      have HZ := Lib.hid (hole_one zs 0 m n k HL.out hk)
      obtain ⟨z, hz⟩ : ∃ z, (splice (zs ++ [0]) (k + 1) (((zs ++ [0]).drop k).take (n - k)))[k]? = some z := ⟨_, List.getElem?_eq_getElem (by rw [length_splice _ _ _ (by rw [List.length_take, List.length_drop, List.length_append]; have := HL.out; simp; omega), List.length_append]; have := HL.out; simp; omega)⟩
      have HZZ := Lib.hid hz
      clear hz
      by_cases q8 : c2 = k + 1
      · have Q8 := Lib.hid q8
        go_wp2
        go_still_tail 7, (by kernel_rfl)
        refine acc_copy (size := 1) rfl (.tmp 39) (.tmp 42) rfl Try.underlying47 (by kernel_rfl) HA2.out.drew _ _ _ _ _ _ (k + 1) k (n - k) rfl rfl (by show min _ _ = _; omega) (fun hp => by have := HC.out; have := Q8.out; omega) (by omega) (by omega) ?_
        intro w3 hacc3 hg3
        rw [Nat.mul_one] at hacc3
        have HC3 := Lib.hid hacc3
        obtain ⟨hcell, hfr⟩ := hacc3.cellAt HZZ.out
        have HS3 := Lib.hid (hacc3.set k m)
        clear hacc3 hg3
        go_wp2
        go_ret
        refine ⟨_, _, _, rfl, ?_⟩
        rw [HE.out, ← HZ.out]
        exact Q8.out ▸ HS3.out
      · go_wp2
        go_still_tail 7, (by kernel_rfl)
        refine acc_copy (size := 1) rfl (.tmp 39) (.tmp 42) rfl Try.underlying47 (by kernel_rfl) HA2.out.drew _ _ _ _ _ _ (k + 1) k (n - k) rfl rfl (by show min _ _ = _; omega) (fun hp => ⟨rfl, rfl⟩) (by omega) (by omega) ?_
        intro w3 hacc3 hg3
        rw [Nat.mul_one] at hacc3
        have HC3 := Lib.hid hacc3
        obtain ⟨hcell, hfr⟩ := hacc3.cellAt HZZ.out
        have HS3 := Lib.hid (hacc3.set k m)
        clear hacc3 hg3
        go_wp2
        go_ret
        refine ⟨_, _, _, rfl, ?_⟩
        rw [HE.out, ← HZ.out]
        exact HS3.out
    · obtain ⟨j, hj⟩ : ∃ j, k = j + 1 := ⟨k - 1, by omega⟩
      have e0 : decide (0 < k) = true := by simp; omega
      have j0 : (0 : Int) ≤ j := by omega
      have j1 : (j : Int) < n := by omega
      have j2 : (k : Int) - 1 = (j : Int) := by omega
      obtain ⟨b, o, z, hAz, hz, hcell⟩ := HA.out.reads.int (show j < n by omega)
      subst hAz
      have HZJ := Lib.hid hz
      have HJ := Lib.hid hj
      clear hz hj h0
      rcases (show m < z ∨ z = m ∨ z < m by omega) with hlt | heq | hlt
      · go_wp2
        go_round
        case rel => exact ⟨j, by have := HJ.out; go_num, by have := HJ.out; omega, fun i hi x hx => by
          rcases Nat.lt_or_ge j i with h | h
          · exact HH.out i (by have := HJ.out; omega) x hx
          · obtain rfl : i = j := by omega
            rw [HZJ.out] at hx; injection hx with hx; omega⟩
        case measure => simp [intOf]; have := HJ.out; omega
      · have HE := Lib.hid (putV_hit (heq ▸ HZJ.out) (take_all (fun i hi x hx => heq ▸ HS.out.lt hx HZJ.out hi)) (drop_all (fun i hi x hx => heq ▸ HS.out.lt HZJ.out hx hi)))
        have e1 : (z == m) = true := by simp [heq]
        have e2 : z ≤ m := by omega
        clear heq
        go_wp2
        go_ret
        refine ⟨_, _, _, rfl, ?_⟩
        rw [HE.out]
        exact HA.out
      · have HE := Lib.hid (putV_cut (m := m) (k := k) (take_all (fun i hi x hx => by
          rcases Nat.lt_or_ge i j with h | h
          · have := HS.out.lt hx HZJ.out h; omega
          · obtain rfl : i = j := by have := HJ.out; omega
            rw [HZJ.out] at hx; injection hx with hx; omega)) (drop_all HH.out))
        have e1 : (z == m) = false := by simp; omega
        have hA := HA.out
        go_wp2_with (at_builtin; refine appI rfl _ _ rfl rfl (hA.alloc _) rfl (reads_new _ _ _ 1 [0] rfl rfl) (by omega) ?_; intro A2 c2 w2 hacc2 hg2)
        have HA2 := Lib.hid hacc2
        obtain ⟨g, cp, hv, _, _⟩ := hacc2.own.form (by omega)
        have hA2 : A2 = some ⟨g, 0, none⟩ := by injection hv
        subst hA2
        have hcap := hacc2.cap
        have hl2 := HL.out
        unfold maxLen at hcap
        obtain ⟨hc1, hc2⟩ := hcap
        have q1 : (0 : Int) ≤ k := by omega
        have q2 : (k : Int) ≤ n := by omega
        have q3 : ((n + 1 : Nat) : Int) ≤ c2 := by omega
        have q4 : IntKind.i64.wrap ((k : Int) + 1) = (k : Int) + 1 := IntWalk.i64_in _ ⟨by omega, by omega⟩
        have q5 : (0 : Int) ≤ (k : Int) + 1 := by omega
        have q6 : ((k : Int) + 1).toNat = k + 1 := by omega
        have q7 : ¬ c2 = k := by omega
        have q9 : (k : Int) ≤ (n : Int) + 1 := by omega
        have q10 : (k : Int) + 1 ≤ (n : Int) + 1 := by omega
        have q11 : (n : Int) + 1 ≤ c2 := by omega
        have HG := Lib.hid hg2
        have HC := Lib.hid hc1
        clear hA hacc2 hv hl2 hg2 hc1
        have HZ := Lib.hid (hole_one zs 0 m n k HL.out hk)
        obtain ⟨z, hz⟩ : ∃ z, (splice (zs ++ [0]) (k + 1) (((zs ++ [0]).drop k).take (n - k)))[k]? = some z := ⟨_, List.getElem?_eq_getElem (by rw [length_splice _ _ _ (by rw [List.length_take, List.length_drop, List.length_append]; have := HL.out; simp; omega), List.length_append]; have := HL.out; simp; omega)⟩
        have HZZ := Lib.hid hz
        clear hz
        by_cases q8 : c2 = k + 1
        · have Q8 := Lib.hid q8
          go_wp2
          go_still_tail 7, (by kernel_rfl)
          refine acc_copy (size := 1) rfl (.tmp 39) (.tmp 42) rfl Try.underlying47 (by kernel_rfl) HA2.out.drew _ _ _ _ _ _ (k + 1) k (n - k) rfl rfl (by show min _ _ = _; omega) (fun hp => by have := HC.out; have := Q8.out; omega) (by omega) (by omega) ?_
          intro w3 hacc3 hg3
          rw [Nat.mul_one] at hacc3
          have HC3 := Lib.hid hacc3
          obtain ⟨hcell, hfr⟩ := hacc3.cellAt HZZ.out
          have HS3 := Lib.hid (hacc3.set k m)
          clear hacc3 hg3
          go_wp2
          go_ret
          refine ⟨_, _, _, rfl, ?_⟩
          rw [HE.out, ← HZ.out]
          exact Q8.out ▸ HS3.out
        · go_wp2
          go_still_tail 7, (by kernel_rfl)
          refine acc_copy (size := 1) rfl (.tmp 39) (.tmp 42) rfl Try.underlying47 (by kernel_rfl) HA2.out.drew _ _ _ _ _ _ (k + 1) k (n - k) rfl rfl (by show min _ _ = _; omega) (fun hp => ⟨rfl, rfl⟩) (by omega) (by omega) ?_
          intro w3 hacc3 hg3
          rw [Nat.mul_one] at hacc3
          have HC3 := Lib.hid hacc3
          obtain ⟨hcell, hfr⟩ := hacc3.cellAt HZZ.out
          have HS3 := Lib.hid (hacc3.set k m)
          clear hacc3 hg3
          go_wp2
          go_ret
          refine ⟨_, _, _, rfl, ?_⟩
          rw [HE.out, ← HZ.out]
          exact HS3.out
end Go.Proofs.Ytbjmpllnkkfgfaa
