/- The pairs of lessons that clash. No condition. -/
import Derived.Test.YtnndhgeddfghcaaSS
import Derived.Test.YtnndhgeddfghcaaFree
namespace Go.Proofs.Ytnndhgeddfghcaa
open Go.RowKit

/-- The pairs of one lesson with some others. -/
def pairsRow (x : Lesn) (ys : List Lesn) : List (List Int) := (ys.filter (clB x)).map (fun y => [x.i, y.i])
theorem pairsRow_len (x : Lesn) (ys : List Lesn) : (pairsRow x ys).length ≤ ys.length := by
  unfold pairsRow; rw [List.length_map]; exact List.length_filter_le _ _
/-- The pairs of the first i lessons with all behind them. -/
def pairsTo (xs : List Lesn) : Nat → List (List Int)
  | 0 => []
  | i + 1 => pairsTo xs i ++ (match xs[i]? with | some x => pairsRow x (xs.drop (i + 1)) | none => [])
/-- .. and of lesson i with those before j. -/
def pairsAt (xs : List Lesn) (i j : Nat) (x : Lesn) : List (List Int) := pairsTo xs i ++ pairsRow x ((xs.take j).drop (i + 1))
theorem pairsRow_tot (x : Lesn) (ys : List Lesn) : ((pairsRow x ys).map List.length).sum ≤ 2 * ys.length := by
  have h1 := pairsRow_len x ys
  have : ∀ (zs : List Lesn), ((zs.map (fun y : Lesn => [x.i, y.i])).map List.length).sum = 2 * zs.length := by
    intro zs
    induction zs with
    | nil => rfl
    | cons z zs ih => rw [List.map_cons, List.map_cons, List.sum_cons, ih, List.length_cons]; simp; omega
  unfold pairsRow at h1 ⊢
  rw [List.length_map] at h1
  rw [this]; omega
def pairsOk (xs : List Lesn) : Bool := lessB xs
def pairsL (xs : List Lesn) : List (List Int) := if lessB xs = true then pairsTo xs xs.length else []
theorem pairsTo_len (xs : List Lesn) : ∀ i, (pairsTo xs i).length ≤ i * xs.length
  | 0 => by simp [pairsTo]
  | i + 1 => by
    have ih := pairsTo_len xs i
    rw [pairsTo, List.length_append, Nat.succ_mul]
    cases hx : xs[i]? with
    | none => simp; omega
    | some x =>
      have := pairsRow_len x (xs.drop (i + 1))
      rw [List.length_drop] at this
      simp only; omega
theorem pairsTo_tot (xs : List Lesn) : ∀ i, ((pairsTo xs i).map List.length).sum ≤ i * (2 * xs.length)
  | 0 => by simp [pairsTo]
  | i + 1 => by
    have ih := pairsTo_tot xs i
    rw [pairsTo, List.map_append, List.sum_append, Nat.succ_mul]
    cases hx : xs[i]? with
    | none => simp; omega
    | some x =>
      have := pairsRow_tot x (xs.drop (i + 1))
      rw [List.length_drop] at this
      simp only; omega
theorem pairsL_len (xs : List Lesn) : (pairsL xs).length ≤ 144 := by
  unfold pairsL
  split
  · rename_i h
    have h0 := less_len h
    have h1 := pairsTo_len xs xs.length
    have h2 : xs.length * xs.length ≤ 12 * 12 := Nat.mul_le_mul h0 h0
    omega
  · simp
theorem pairsL_tot (xs : List Lesn) : ((pairsL xs).map List.length).sum ≤ 288 := by
  unfold pairsL
  split
  · rename_i h
    have h0 := less_len h
    have h1 := pairsTo_tot xs xs.length
    have h2 : xs.length * (2 * xs.length) ≤ 12 * 24 := Nat.mul_le_mul h0 (by omega)
    omega
  · simp
theorem pairsAt_len {xs : List Lesn} {i j : Nat} {x : Lesn} (hi : i ≤ 12) (hl : xs.length ≤ 12) : (pairsAt xs i j x).length ≤ 156 := by
  have h1 := pairsTo_len xs i
  have h2 := pairsRow_len x ((xs.take j).drop (i + 1))
  have h3 : i * xs.length ≤ 12 * 12 := Nat.mul_le_mul hi hl
  rw [List.length_drop, List.length_take] at h2
  unfold pairsAt
  rw [List.length_append]
  omega
theorem pairsAt_zero (xs : List Lesn) (i : Nat) (x : Lesn) : pairsAt xs i (i + 1) x = pairsTo xs i := by
  unfold pairsAt
  rw [List.drop_of_length_le (by rw [List.length_take]; omega)]
  simp [pairsRow]
theorem pairsAt_yes {xs : List Lesn} {i j : Nat} {x y : Lesn} (hij : i + 1 ≤ j) (hy : xs[j]? = some y) (hc : clB x y = true) : pairsAt xs i (j + 1) x = pairsAt xs i j x ++ [[x.i, y.i]] := by
  have hj := (List.getElem?_eq_some_iff.1 hy).1
  unfold pairsAt pairsRow
  rw [List.take_add_one, hy, Option.toList_some, List.drop_append_of_le_length (by rw [List.length_take]; omega), List.filter_append, List.map_append, List.append_assoc]
  simp [hc]
theorem pairsAt_no {xs : List Lesn} {i j : Nat} {x y : Lesn} (hij : i + 1 ≤ j) (hy : xs[j]? = some y) (hc : clB x y = false) : pairsAt xs i (j + 1) x = pairsAt xs i j x := by
  have hj := (List.getElem?_eq_some_iff.1 hy).1
  unfold pairsAt pairsRow
  rw [List.take_add_one, hy, Option.toList_some, List.drop_append_of_le_length (by rw [List.length_take]; omega), List.filter_append]
  simp [hc]
theorem pairsAt_end {xs : List Lesn} {i : Nat} {x : Lesn} (hx : xs[i]? = some x) : pairsAt xs i xs.length x = pairsTo xs (i + 1) := by
  rw [pairsTo, hx, pairsAt, List.take_length]
set_option maxRecDepth 100000 in
set_option maxHeartbeats 4000000 in
theorem sClashingPairs_any (A : Option Addr) (n c B : Nat) (xs : List Lesn) (w : World) (h : Reads w B 7 A n ((lesnF xs).map (Value.int .i64))) (hB : B ≤ w.heap.size) (hn : n ≤ 1048576) :
    Calls Try.prog 42 #[.slice A n c] w fun e w' => GivesN 42 3 (pairsL xs) (pairsOk xs) w e w' := by
  have hl := h.lesnLen
  have H := Lib.hid h
  have HL := Lib.hid hl
  clear h hl
  cases ha : lessB xs
  · have HR := Lib.hid (show pairsOk xs = false ∧ pairsL xs = [] by unfold pairsL pairsOk; rw [ha]; simp)
    go_enter Try.func42, Try.ntmps42
    go_wp2_with fail
    refine (l11Good_any A n c B xs _ (H.out.alloc hB _) (by simp; omega) hn).mono ?_
    rintro e w2 ⟨rfl, hb2⟩
    rw [ha]
    have A0 := Lib.hid ((AccN.empty (E2 := 42) (E := 3) (Below.refl w.heap.size w)).later hb2)
    clear hb2
    go_wp2
    go_ret2
    rw [HR.out.1, HR.out.2]
    exact ⟨_, _, _, _, rfl, A0.out⟩
  · have HR := Lib.hid (show pairsOk xs = true ∧ pairsL xs = pairsTo xs n by unfold pairsL pairsOk; rw [ha, HL.out]; simp)
    have hn12 : n ≤ 12 := by
      have := HL.out
      unfold lessB at ha; simp only [Bool.and_eq_true, decide_eq_true_eq] at ha; omega
    go_enter Try.func42, Try.ntmps42
    go_wp2_with fail
    refine (l11Good_any A n c B xs _ (H.out.alloc hB _) (by simp; omega) hn).mono ?_
    rintro e w2 ⟨rfl, hb2⟩
    rw [ha]
    have A0 := Lib.hid ((AccN.empty (E2 := 42) (E := 3) (Below.refl w.heap.size w)).later hb2)
    clear hb2 ha
    go_wp2
    go_loopw [4, 5] (fun p q wr => ∃ (k m cc : Nat) (P : Option Addr) (hs : List Hd), q = .int .i64 k ∧ k ≤ n ∧ p = .slice P m cc ∧ AccN w wr 42 3 P m cc hs (pairsTo xs k)) (fun _ q _ => n - (intOf q).toNat)
    case atStart => exact ⟨0, 0, 0, _, [], rfl, by omega, rfl, A0.out⟩
    case round =>
      obtain ⟨wo, rfl⟩ : ∃ wo : World, wo = wr := ⟨_, rfl⟩
      obtain ⟨k, m, cc, P, hs, rfl, hk, rfl, hacc⟩ := hrel
      have HA := Lib.hid hacc
      clear hacc
      have k0 : (0 : Int) ≤ k := by omega
      by_cases hlt : k < n
      · have hx : xs[k]? = some (xs[k]'(by rw [HL.out]; exact hlt)) := List.getElem?_eq_getElem _
        generalize xs[k]'(by rw [HL.out]; exact hlt) = x at hx
        have HX := Lib.hid hx
        clear hx
        have k1 : (k : Int) < n := by omega
        go_wp2
        go_loopw [4, 6] (fun p q wr => ∃ (j m cc : Nat) (P : Option Addr) (hs : List Hd), q = .int .i64 j ∧ k + 1 ≤ j ∧ j ≤ n ∧ p = .slice P m cc ∧ AccN w wr 42 3 P m cc hs (pairsAt xs k j x)) (fun _ q _ => n - (intOf q).toNat)
        case atStart => exact ⟨k + 1, m, cc, P, hs, by go_num, by omega, by omega, rfl, by rw [pairsAt_zero]; exact HA.out⟩
        case round =>
          obtain ⟨wq, rfl⟩ : ∃ wq : World, wq = wr := ⟨_, rfl⟩
          obtain ⟨j, m, cc, P, hs, rfl, hkj, hj, rfl, hacc⟩ := hrel
          have HA := Lib.hid hacc
          clear hacc
          have RQ := Lib.hid (H.out.below (HA.out.ext.mono hB))
          have j0 : (0 : Int) ≤ j := by omega
          by_cases hjt : j < n
          · obtain ⟨b, o, x', hAx, hx', hc0, hc1, hc2, hc3, hc4, hc5, hc6⟩ := RQ.out.lesn hlt
            rw [HX.out] at hx'
            injection hx' with hx'
            subst hx' hAx
            obtain ⟨b2, o2, y, hAy, hy, hd0, hd1, hd2, hd3, hd4, hd5, hd6⟩ := RQ.out.lesn hjt
            injection hAy with hAy
            injection hAy with e1 e2
            subst e1 e2
            have HY := Lib.hid hy
            clear hy
            have j1 : (j : Int) < n := by omega
            have hself : Below wq.heap.size wq wq.drew := ext_drew (Below.refl _ _)
            cases hcl : clB x y
            · go_wp2
              refine wp_region_held_drew (S := (fun w' => w'.cell? ⟨b, o + k * 7, none⟩ = some (.int .i64 x.i) ∧ w'.cell? ⟨b, o + k * 7 + 1, none⟩ = some (.int .i64 x.c) ∧ w'.cell? ⟨b, o + k * 7 + 2, none⟩ = some (.int .i64 x.t) ∧ w'.cell? ⟨b, o + k * 7 + 3, none⟩ = some (.int .i64 x.r) ∧ w'.cell? ⟨b, o + k * 7 + 4, none⟩ = some (.int .i64 x.d) ∧ w'.cell? ⟨b, o + k * 7 + 5, none⟩ = some (.int .i64 x.b) ∧ w'.cell? ⟨b, o + k * 7 + 6, none⟩ = some (.int .i64 x.m) ∧ w'.cell? ⟨b, o + j * 7, none⟩ = some (.int .i64 y.i) ∧ w'.cell? ⟨b, o + j * 7 + 1, none⟩ = some (.int .i64 y.c) ∧ w'.cell? ⟨b, o + j * 7 + 2, none⟩ = some (.int .i64 y.t) ∧ w'.cell? ⟨b, o + j * 7 + 3, none⟩ = some (.int .i64 y.r) ∧ w'.cell? ⟨b, o + j * 7 + 4, none⟩ = some (.int .i64 y.d) ∧ w'.cell? ⟨b, o + j * 7 + 5, none⟩ = some (.int .i64 y.b) ∧ w'.cell? ⟨b, o + j * 7 + 6, none⟩ = some (.int .i64 y.m) ∧ Below wq.heap.size wq w')) (by kernel_rfl) ?_ (fun hHeld => ?_)
              · (try dsimp only); (first | (go_keep; done) | ((try go_split_ands); (repeat' apply And.intro); all_goals first | exact ext_drew (Below.refl _ _) | exact below_cell (by assumption) (by assumption) | (refine ext_trans ?_ (by assumption); assumption) | assumption))
              refine wpAnyH_takeD (i := 0) (v := ?_) 26 rfl rfl (by kernel_rfl) (by kernel_rfl) (by kernel_rfl) (fun _ _ _ _ _ h => h) (by rfl) (by assumption) ?_ ?_
              rotate_left; focus (intro w hSw; (try dsimp only at hSw); go_simp; try (with_reducible rfl))
              try simp only [Act.put, List.setIfInBounds_toArray, List.set_cons_zero, List.set_cons_succ]
              refine wpAnyH_takeD (i := 1) (v := ?_) 27 rfl rfl (by kernel_rfl) (by kernel_rfl) (by kernel_rfl) (fun _ _ _ _ _ h => h) (by rfl) (by assumption) ?_ ?_
              rotate_left; focus (intro w hSw; (try dsimp only at hSw); go_simp; try (with_reducible rfl))
              try simp only [Act.put, List.setIfInBounds_toArray, List.set_cons_zero, List.set_cons_succ]
              refine wpAnyH_takeD (i := 2) (v := ?_) 28 rfl rfl (by kernel_rfl) (by kernel_rfl) (by kernel_rfl) (fun _ _ _ _ _ h => h) (by rfl) (by assumption) ?_ ?_
              rotate_left; focus (intro w hSw; (try dsimp only at hSw); go_simp; try (with_reducible rfl))
              try simp only [Act.put, List.setIfInBounds_toArray, List.set_cons_zero, List.set_cons_succ]
              refine wpAnyH_takeD (i := 3) (v := ?_) 29 rfl rfl (by kernel_rfl) (by kernel_rfl) (by kernel_rfl) (fun _ _ _ _ _ h => h) (by rfl) (by assumption) ?_ ?_
              rotate_left; focus (intro w hSw; (try dsimp only at hSw); go_simp; try (with_reducible rfl))
              try simp only [Act.put, List.setIfInBounds_toArray, List.set_cons_zero, List.set_cons_succ]
              refine wpAnyH_takeD (i := 4) (v := ?_) 30 rfl rfl (by kernel_rfl) (by kernel_rfl) (by kernel_rfl) (fun _ _ _ _ _ h => h) (by rfl) (by assumption) ?_ ?_
              rotate_left; focus (intro w hSw; (try dsimp only at hSw); go_simp; try (with_reducible rfl))
              try simp only [Act.put, List.setIfInBounds_toArray, List.set_cons_zero, List.set_cons_succ]
              refine wpAnyH_takeD (i := 5) (v := ?_) 31 rfl rfl (by kernel_rfl) (by kernel_rfl) (by kernel_rfl) (fun _ _ _ _ _ h => h) (by rfl) (by assumption) ?_ ?_
              rotate_left; focus (intro w hSw; (try dsimp only at hSw); go_simp; try (with_reducible rfl))
              try simp only [Act.put, List.setIfInBounds_toArray, List.set_cons_zero, List.set_cons_succ]
              refine wpAnyH_takeD (i := 6) (v := ?_) 32 rfl rfl (by kernel_rfl) (by kernel_rfl) (by kernel_rfl) (fun _ _ _ _ _ h => h) (by rfl) (by assumption) ?_ ?_
              rotate_left; focus (intro w hSw; (try dsimp only at hSw); go_simp; try (with_reducible rfl))
              try simp only [Act.put, List.setIfInBounds_toArray, List.set_cons_zero, List.set_cons_succ]
              refine wpAnyH_takeD (i := 7) (v := ?_) 33 rfl rfl (by kernel_rfl) (by kernel_rfl) (by kernel_rfl) (fun _ _ _ _ _ h => h) (by rfl) (by assumption) ?_ ?_
              rotate_left; focus (intro w hSw; (try dsimp only at hSw); go_simp; try (with_reducible rfl))
              try simp only [Act.put, List.setIfInBounds_toArray, List.set_cons_zero, List.set_cons_succ]
              refine wpAnyH_ready (rs := [8]) (by kernel_rfl) (by simp) ?_
              refine AllReadyH.cons rfl (fun K hK => ?_) AllReadyH.nil
              go_simp; (go_at_call 85; refine (l11Clash_v x y hcl _).mono ?_; rintro e w' ⟨rfl, hb'⟩); (try dsimp only)
              refine hK.out _ _ ?_ (fun hHeld => ?_)
              focus ((try dsimp only); (first | (go_keep; done) | ((try go_split_ands); (repeat' apply And.intro); all_goals first | exact ext_drew (Below.refl _ _) | exact below_cell (by assumption) (by assumption) | (refine ext_trans ?_ (by assumption); assumption) | assumption)))
              clear hK K; try simp only [Act.put, List.setIfInBounds_toArray, List.set_cons_zero, List.set_cons_succ]
              refine wpAnyH_done (by kernel_rfl) ?_ _
              have HA2 := Lib.hid (HA.out.later hHeld.2.2.2.2.2.2.2.2.2.2.2.2.2.2)
              have HN := Lib.hid (pairsAt_no hkj HY.out hcl)
              clear hHeld hb'
              go_wp2
              go_roundw
              case rel => exact ⟨j + 1, m, cc, _, hs, by go_num, by omega, by omega, rfl, by rw [HN.out]; exact HA2.out⟩
              case measure => simp [intOf]; omega
            · go_wp2
              refine wp_region_held_drew (S := (fun w' => w'.cell? ⟨b, o + k * 7, none⟩ = some (.int .i64 x.i) ∧ w'.cell? ⟨b, o + k * 7 + 1, none⟩ = some (.int .i64 x.c) ∧ w'.cell? ⟨b, o + k * 7 + 2, none⟩ = some (.int .i64 x.t) ∧ w'.cell? ⟨b, o + k * 7 + 3, none⟩ = some (.int .i64 x.r) ∧ w'.cell? ⟨b, o + k * 7 + 4, none⟩ = some (.int .i64 x.d) ∧ w'.cell? ⟨b, o + k * 7 + 5, none⟩ = some (.int .i64 x.b) ∧ w'.cell? ⟨b, o + k * 7 + 6, none⟩ = some (.int .i64 x.m) ∧ w'.cell? ⟨b, o + j * 7, none⟩ = some (.int .i64 y.i) ∧ w'.cell? ⟨b, o + j * 7 + 1, none⟩ = some (.int .i64 y.c) ∧ w'.cell? ⟨b, o + j * 7 + 2, none⟩ = some (.int .i64 y.t) ∧ w'.cell? ⟨b, o + j * 7 + 3, none⟩ = some (.int .i64 y.r) ∧ w'.cell? ⟨b, o + j * 7 + 4, none⟩ = some (.int .i64 y.d) ∧ w'.cell? ⟨b, o + j * 7 + 5, none⟩ = some (.int .i64 y.b) ∧ w'.cell? ⟨b, o + j * 7 + 6, none⟩ = some (.int .i64 y.m) ∧ Below wq.heap.size wq w')) (by kernel_rfl) ?_ (fun hHeld => ?_)
              · (try dsimp only); (first | (go_keep; done) | ((try go_split_ands); (repeat' apply And.intro); all_goals first | exact ext_drew (Below.refl _ _) | exact below_cell (by assumption) (by assumption) | (refine ext_trans ?_ (by assumption); assumption) | assumption))
              refine wpAnyH_takeD (i := 0) (v := ?_) 26 rfl rfl (by kernel_rfl) (by kernel_rfl) (by kernel_rfl) (fun _ _ _ _ _ h => h) (by rfl) (by assumption) ?_ ?_
              rotate_left; focus (intro w hSw; (try dsimp only at hSw); go_simp; try (with_reducible rfl))
              try simp only [Act.put, List.setIfInBounds_toArray, List.set_cons_zero, List.set_cons_succ]
              refine wpAnyH_takeD (i := 1) (v := ?_) 27 rfl rfl (by kernel_rfl) (by kernel_rfl) (by kernel_rfl) (fun _ _ _ _ _ h => h) (by rfl) (by assumption) ?_ ?_
              rotate_left; focus (intro w hSw; (try dsimp only at hSw); go_simp; try (with_reducible rfl))
              try simp only [Act.put, List.setIfInBounds_toArray, List.set_cons_zero, List.set_cons_succ]
              refine wpAnyH_takeD (i := 2) (v := ?_) 28 rfl rfl (by kernel_rfl) (by kernel_rfl) (by kernel_rfl) (fun _ _ _ _ _ h => h) (by rfl) (by assumption) ?_ ?_
              rotate_left; focus (intro w hSw; (try dsimp only at hSw); go_simp; try (with_reducible rfl))
              try simp only [Act.put, List.setIfInBounds_toArray, List.set_cons_zero, List.set_cons_succ]
              refine wpAnyH_takeD (i := 3) (v := ?_) 29 rfl rfl (by kernel_rfl) (by kernel_rfl) (by kernel_rfl) (fun _ _ _ _ _ h => h) (by rfl) (by assumption) ?_ ?_
              rotate_left; focus (intro w hSw; (try dsimp only at hSw); go_simp; try (with_reducible rfl))
              try simp only [Act.put, List.setIfInBounds_toArray, List.set_cons_zero, List.set_cons_succ]
              refine wpAnyH_takeD (i := 4) (v := ?_) 30 rfl rfl (by kernel_rfl) (by kernel_rfl) (by kernel_rfl) (fun _ _ _ _ _ h => h) (by rfl) (by assumption) ?_ ?_
              rotate_left; focus (intro w hSw; (try dsimp only at hSw); go_simp; try (with_reducible rfl))
              try simp only [Act.put, List.setIfInBounds_toArray, List.set_cons_zero, List.set_cons_succ]
              refine wpAnyH_takeD (i := 5) (v := ?_) 31 rfl rfl (by kernel_rfl) (by kernel_rfl) (by kernel_rfl) (fun _ _ _ _ _ h => h) (by rfl) (by assumption) ?_ ?_
              rotate_left; focus (intro w hSw; (try dsimp only at hSw); go_simp; try (with_reducible rfl))
              try simp only [Act.put, List.setIfInBounds_toArray, List.set_cons_zero, List.set_cons_succ]
              refine wpAnyH_takeD (i := 6) (v := ?_) 32 rfl rfl (by kernel_rfl) (by kernel_rfl) (by kernel_rfl) (fun _ _ _ _ _ h => h) (by rfl) (by assumption) ?_ ?_
              rotate_left; focus (intro w hSw; (try dsimp only at hSw); go_simp; try (with_reducible rfl))
              try simp only [Act.put, List.setIfInBounds_toArray, List.set_cons_zero, List.set_cons_succ]
              refine wpAnyH_takeD (i := 7) (v := ?_) 33 rfl rfl (by kernel_rfl) (by kernel_rfl) (by kernel_rfl) (fun _ _ _ _ _ h => h) (by rfl) (by assumption) ?_ ?_
              rotate_left; focus (intro w hSw; (try dsimp only at hSw); go_simp; try (with_reducible rfl))
              try simp only [Act.put, List.setIfInBounds_toArray, List.set_cons_zero, List.set_cons_succ]
              refine wpAnyH_ready (rs := [8]) (by kernel_rfl) (by simp) ?_
              refine AllReadyH.cons rfl (fun K hK => ?_) AllReadyH.nil
              go_simp; (go_at_call 85; refine (l11Clash_v x y hcl _).mono ?_; rintro e w' ⟨rfl, hb'⟩); (try dsimp only)
              refine hK.out _ _ ?_ (fun hHeld => ?_)
              focus ((try dsimp only); (first | (go_keep; done) | ((try go_split_ands); (repeat' apply And.intro); all_goals first | exact ext_drew (Below.refl _ _) | exact below_cell (by assumption) (by assumption) | (refine ext_trans ?_ (by assumption); assumption) | assumption)))
              clear hK K; try simp only [Act.put, List.setIfInBounds_toArray, List.set_cons_zero, List.set_cons_succ]
              refine wpAnyH_done (by kernel_rfl) ?_ _
              have HA2 := Lib.hid (HA.out.later hHeld.2.2.2.2.2.2.2.2.2.2.2.2.2.2)
              have HN := Lib.hid (pairsAt_yes hkj HY.out hcl)
              have BM : m ≤ 156 := by have := pairsAt_len (xs := xs) (i := k) (j := j) (x := x) (by omega) (by have := HL.out; omega); have := HA2.out.reads.rlen; omega
              have e0 := hHeld.1
              have e1 := hHeld.2.2.2.2.2.2.2.1
              clear hHeld hb'
              go_wp2
              go_region_law (refine appN_step rfl _ _ rfl rfl ((HA2.out.alloc _).alloc _).drew rfl (reads_hd _ _ ⟨some ⟨w'.heap.size, 0, none⟩, 2, 2⟩ _ (by simp)).drew (HA2.out.newRow _ [x.i, y.i] rfl (by simp [maxLen]) _).drew (by omega) ?_; intro A2 c2 wz A3 _)
              all_goals go_wp2
              all_goals
                go_roundw
                case rel => exact ⟨j + 1, m + 1, _, _, _, by go_num, by omega, by omega, rfl, by rw [HN.out]; exact A3⟩
                case measure => simp [intOf]; omega
          · have hjn : j = n := by omega
            subst hjn
            have HE := Lib.hid (show pairsAt xs k j x = pairsTo xs (k + 1) by rw [← HL.out]; exact pairsAt_end HX.out)
            go_wp2
            go_roundw
            case rel => exact ⟨k + 1, m, cc, _, hs, by go_num, by omega, rfl, by rw [← HE.out]; exact HA.out⟩
            case measure => simp [intOf]; omega
      · obtain rfl : k = n := by omega
        go_wp2
        go_ret2
        rw [HR.out.1, HR.out.2]
        exact ⟨_, _, _, _, rfl, HA.out⟩
/-- The cells of a box beside a row. -/
theorem Side.box {w : World} {B g : Nat} {x : Lesn} {A : Option Addr} (h : Side w B 7 (some ⟨g, 0, none⟩) 1 x.cs A) : w.cell? ⟨g, 0, none⟩ = some (.int .i64 x.i) ∧ w.cell? ⟨g, 1, none⟩ = some (.int .i64 x.c) ∧ w.cell? ⟨g, 2, none⟩ = some (.int .i64 x.t) ∧ w.cell? ⟨g, 3, none⟩ = some (.int .i64 x.r) ∧ w.cell? ⟨g, 4, none⟩ = some (.int .i64 x.d) ∧ w.cell? ⟨g, 5, none⟩ = some (.int .i64 x.b) ∧ w.cell? ⟨g, 6, none⟩ = some (.int .i64 x.m) := by
  obtain ⟨ad, e, _, hc⟩ := h.reads.2 (by omega)
  injection e with e
  subst e
  have k := fun j u hu => hc j u hu
  simp only [Addr.add_lit, Nat.zero_add] at k
  exact ⟨k 0 _ rfl, k 1 _ rfl, k 2 _ rfl, k 3 _ rfl, k 4 _ rfl, k 5 _ rfl, k 6 _ rfl⟩
set_option maxRecDepth 100000 in
set_option maxHeartbeats 4000000 in
theorem iClashingPairs_any (A : Option Addr) (n c B : Nat) (xs : List Lesn) (w : World) (h : Reads w B 7 A n ((lesnF xs).map (Value.int .i64))) (hB : B ≤ w.heap.size) (hn : n ≤ 1048576) (hc : n ≤ c) (hc2 : c ≤ maxLen) :
    Calls Try.prog 43 #[.slice A n c] w fun e w' => GivesN 42 3 (pairsL xs) (pairsOk xs) w e w' := by
  have hl := h.lesnLen
  have H := Lib.hid h
  have HL := Lib.hid hl
  clear h hl
  unfold maxLen at hc2
  cases ha : lessB xs
  · have HR := Lib.hid (show pairsOk xs = false ∧ pairsL xs = [] by unfold pairsL pairsOk; rw [ha]; simp)
    go_enter Try.func43, Try.ntmps43
    go_wp2_with fail
    refine (iAreLessons_any A n c B xs _ H.out hB hn).mono ?_
    rintro e w2 ⟨rfl, hb2⟩
    rw [ha]
    have A0 := Lib.hid (AccN.nil (E2 := 42) (E := 3) hb2)
    clear hb2
    go_wp2
    go_ret2
    rw [HR.out.1, HR.out.2]
    exact ⟨_, _, _, _, rfl, A0.out⟩
  · have HR := Lib.hid (show pairsOk xs = true ∧ pairsL xs = pairsTo xs n by unfold pairsL pairsOk; rw [ha, HL.out]; simp)
    have hn12 : n ≤ 12 := by have := less_len ha; have := HL.out; omega
    go_enter Try.func43, Try.ntmps43
    go_wp2_with fail
    refine (iAreLessons_any A n c B xs _ H.out hB hn).mono ?_
    rintro e w2 ⟨rfl, hb2⟩
    rw [ha]
    have A0 := Lib.hid (AccN.nil (E2 := 42) (E := 3) hb2)
    clear hb2 ha
    go_wp2
    go_loopw [4, 14] (fun p q wr => ∃ (k m cc : Nat) (P : Option Addr) (hs : List Hd), q = .int .i64 k ∧ k ≤ n ∧ p = .slice P m cc ∧ AccN w wr 42 3 P m cc hs (pairsTo xs k)) (fun _ q _ => n - (intOf q).toNat)
    case atStart => exact ⟨0, 0, 0, _, [], rfl, by omega, rfl, A0.out⟩
    case round =>
      obtain ⟨wo, rfl⟩ : ∃ wo : World, wo = wr := ⟨_, rfl⟩
      obtain ⟨k, m, cc, P, hs, rfl, hk, rfl, hacc⟩ := hrel
      have HA := Lib.hid hacc
      clear hacc
      have k0 : (0 : Int) ≤ k := by omega
      by_cases hlt : k < n
      · have RO := Lib.hid (H.out.below (HA.out.ext.mono hB))
        obtain ⟨b, o, x, hAx, hx, hc0, hc1, hc2, hc3, hc4, hc5, hc6⟩ := RO.out.lesn hlt
        subst hAx
        have HX := Lib.hid hx
        clear hx
        have k1 : (k : Int) < n := by omega
        have k2 : (k : Int) + 1 ≤ n := by omega
        have HE := Lib.hid (show pairsAt xs k n x = pairsTo xs (k + 1) by rw [← HL.out]; exact pairsAt_end HX.out)
        have HZ := Lib.hid (pairsAt_zero xs k x)
        by_cases hck : c = k + 1
        · have hn1 : n = k + 1 := by omega
          rw [← hn1] at HZ
          have HA2 := Lib.hid (HA.out.alloc (Obj.cells #[.int .i64 x.i, .int .i64 x.c, .int .i64 x.t, .int .i64 x.r, .int .i64 x.d, .int .i64 x.b, .int .i64 x.m] 25))
          rw [← HZ.out, HE.out] at HA2
          go_wp2
          have hz0 : n - (k + 1) = 0 := by omega
          try rw [hz0]
          go_loopw [4, 24] (fun p q wr => q = .int .i64 0 ∧ p = .slice P m cc ∧ AccN w wr 42 3 P m cc hs (pairsTo xs (k + 1))) (fun _ _ _ => 0)
          case atStart => exact ⟨rfl, rfl, HA2.out⟩
          case round =>
            obtain ⟨wq, rfl⟩ : ∃ wq : World, wq = wr := ⟨_, rfl⟩
            obtain ⟨rfl, rfl, hacc⟩ := hrel
            have HA3 := Lib.hid hacc
            clear hacc
            go_wp2
            go_roundw
            case rel => exact ⟨k + 1, _, _, _, _, by go_num, by omega, rfl, HA3.out⟩
            case measure => simp [intOf]; omega
        · have hck' : ¬ (k + 1 = c) := fun e => hck e.symm
          have HA2 := Lib.hid (HA.out.alloc (Obj.cells #[.int .i64 x.i, .int .i64 x.c, .int .i64 x.t, .int .i64 x.r, .int .i64 x.d, .int .i64 x.b, .int .i64 x.m] 25))
          have HS0 := Lib.hid (Side.newN HA.out #[.int .i64 x.i, .int .i64 x.c, .int .i64 x.t, .int .i64 x.r, .int .i64 x.d, .int .i64 x.b, .int .i64 x.m] 25 x.cs rfl rfl)
          go_wp2
          generalize hW : wo.alloc (Obj.cells #[.int .i64 x.i, .int .i64 x.c, .int .i64 x.t, .int .i64 x.r, .int .i64 x.d, .int .i64 x.b, .int .i64 x.m] 25) = W1 at HA2 HS0 ⊢
          have hws : B ≤ W1.heap.size := by have := HA2.out.ext.size; omega
          obtain ⟨o2, ho2⟩ : ∃ o2, o + (k + 1) * 7 = o2 := ⟨_, rfl⟩
          rw [ho2]
          have HO2 := Lib.hid ho2
          clear ho2
          generalize hg : wo.heap.size = g at HS0 ⊢
          clear hW hg
          obtain ⟨nr, hnr⟩ : ∃ nr, n - (k + 1) = nr := ⟨_, rfl⟩
          rw [hnr]
          generalize c - (k + 1) = cr
          rw [← HZ.out] at HA2
          go_loopw [4, 24] (fun p q wr => ∃ (j m cc : Nat) (P : Option Addr) (hs : List Hd), q = .int .i64 j ∧ j ≤ nr ∧ p = .slice P m cc ∧ AccN w wr 42 3 P m cc hs (pairsAt xs k (k + 1 + j) x) ∧ Side wr (g + 1) 7 (some ⟨g, 0, none⟩) 1 x.cs P) (fun _ q _ => nr - (intOf q).toNat)
          case atStart => exact ⟨0, m, cc, P, hs, rfl, by omega, rfl, HA2.out, HS0.out⟩
          case round =>
            obtain ⟨wq, rfl⟩ : ∃ wq : World, wq = wr := ⟨_, rfl⟩
            obtain ⟨j, m, cc, P, hs, rfl, hj, rfl, hacc, hsd⟩ := hrel
            have HA := Lib.hid hacc
            have HSD := Lib.hid hsd
            clear hacc hsd
            have j0 : (0 : Int) ≤ j := by omega
            by_cases hjt : j < nr
            · have R0 := H.out.below (HA.out.ext.mono hB)
              obtain ⟨b', o', y, hAy, hy, hd0, hd1, hd2, hd3, hd4, hd5, hd6⟩ := R0.lesn (show k + 1 + j < n by omega)
              injection hAy with hAy
              injection hAy with e1 e2
              subst e1 e2
              have HY := Lib.hid hy
              have ho3 : o + (k + 1 + j) * 7 = o2 + j * 7 := by rw [← HO2.out, Nat.add_mul (k + 1) j 7]; omega
              rw [ho3] at hd0 hd1 hd2 hd3 hd4 hd5 hd6
              clear ho3 hy R0
              have j1 : (j : Int) < nr := by omega
              obtain ⟨x0, x1, x2, x3, x4, x5, x6⟩ := HSD.out.box
              have gl : g < wq.heap.size := by have := HSD.out.size; omega
              have HY2 := Lib.hid (box_cellsL wq 25 y)
              cases hcl : clB x y
              · have HN := Lib.hid (pairsAt_no (i := k) (show k + 1 ≤ k + 1 + j by omega) HY.out hcl)
                go_wp2_with fail
                refine (clashes_v x y hcl _).mono ?_
                rintro e w3 ⟨rfl, hb3⟩
                have HA3 := Lib.hid ((HA.out.alloc (Obj.cells #[.int .i64 y.i, .int .i64 y.c, .int .i64 y.t, .int .i64 y.r, .int .i64 y.d, .int .i64 y.b, .int .i64 y.m] 25)).later hb3)
                have HS3 := Lib.hid ((HSD.out.alloc (Obj.cells #[.int .i64 y.i, .int .i64 y.c, .int .i64 y.t, .int .i64 y.r, .int .i64 y.d, .int .i64 y.b, .int .i64 y.m] 25)).later hb3)
                clear hb3 x0 x1 x2 x3 x4 x5 x6
                go_wp2
                go_roundw
                case rel => exact ⟨j + 1, m, cc, _, hs, by go_num, by omega, rfl, by rw [show k + 1 + (j + 1) = k + 1 + j + 1 from rfl, HN.out]; exact HA3.out, HS3.out⟩
                case measure => simp [intOf]; omega
              · have HN := Lib.hid (pairsAt_yes (i := k) (show k + 1 ≤ k + 1 + j by omega) HY.out hcl)
                have BM : m ≤ 156 := by have := pairsAt_len (xs := xs) (i := k) (j := k + 1 + j) (x := x) (by omega) (by have := HL.out; omega); have := HA.out.reads.rlen; omega
                go_wp2_with fail
                refine (clashes_v x y hcl _).mono ?_
                rintro e w3 ⟨rfl, hb3⟩
                have HA3 := Lib.hid ((HA.out.alloc (Obj.cells #[.int .i64 y.i, .int .i64 y.c, .int .i64 y.t, .int .i64 y.r, .int .i64 y.d, .int .i64 y.b, .int .i64 y.m] 25)).later hb3)
                have HS3 := Lib.hid ((HSD.out.alloc (Obj.cells #[.int .i64 y.i, .int .i64 y.c, .int .i64 y.t, .int .i64 y.r, .int .i64 y.d, .int .i64 y.b, .int .i64 y.m] 25)).later hb3)
                have e0 := HS3.out.box.1
                have e1 := below_cell hb3 HY2.out.1
                clear hb3 x0 x1 x2 x3 x4 x5 x6
                go_wp2_with (at_builtin; refine appN rfl _ _ rfl rfl ((HA3.out.alloc _).alloc _) rfl (reads_hd _ _ ⟨some ⟨w3.heap.size, 0, none⟩, 2, 2⟩ _ (by simp)) (HA3.out.newRow _ [x.i, y.i] rfl (by simp [maxLen]) _) (by omega) ?_; intro A2 c2 wz A3 P3)
                have HS4 := Lib.hid (((HS3.out.alloc _).alloc _).pushed P3)
                go_roundw
                case rel => exact ⟨j + 1, _, _, _, _, by go_num, by omega, rfl, by rw [show k + 1 + (j + 1) = k + 1 + j + 1 from rfl, HN.out]; exact A3, HS4.out⟩
                case measure => simp [intOf]; omega
            · obtain rfl : j = nr := by omega
              have he : k + 1 + j = n := by omega
              rw [he, HE.out] at HA
              go_wp2
              go_roundw
              case rel => exact ⟨k + 1, _, _, _, _, by go_num, by omega, rfl, HA.out⟩
              case measure => simp [intOf]; omega
      · obtain rfl : k = n := by omega
        go_wp2
        go_ret2
        rw [HR.out.1, HR.out.2]
        exact ⟨_, _, _, _, rfl, HA.out⟩
set_option maxHeartbeats 4000000 in
theorem FnExactClashingPairs_any (A : Option Addr) (n c : Nat) (zs : List Int)  (w : World) (h : Reads w w.heap.size 7 A n (zs.map (Value.int .i64)) ∧ n ≤ maxLen) :
    Calls Try.prog 11 #[.slice A n c] w fun e w' => e = .returned (.bool true) ∧ Below w.heap.size w w' := by
  obtain ⟨h, hm⟩ := h
  obtain ⟨xs, rfl, hl⟩ := lesnF_of n zs (by simpa using h.1)
  have H := Lib.hid h
  clear h
  by_cases hn : n ≤ 1048576
  · have hzl : (pairsL xs).length ≤ 1048576 := by have := pairsL_len xs; omega
    have hzt : ((pairsL xs).map List.length).sum ≤ 1048576 := by have := pairsL_tot xs; omega
    clear hl
    have hS := fun (A : Option Addr) (n c B : Nat) (w : World) h hB hn => sClashingPairs_any A n c B xs  w h hB hn
    have hI := fun (A : Option Addr) (n c B : Nat) (w : World) h hB hn h1 h2 => iClashingPairs_any A n c B xs  w h hB hn h1 h2
    generalize pairsL xs = zs at hS hI hzl hzt
    generalize pairsOk xs = ok at hS hI
    have HS := Lib.hid hS
    have HI := Lib.hid hI
    have he := decide_eq_true (rfl : zs = zs)
    clear hS hI
    go_enter Try.func11, Try.ntmps11
    go_wp2_with fail
    refine (szLessonS_any A n c hm _).mono ?_
    rintro e w' ⟨rfl, rfl⟩
    rw [if_pos hn]
    go_wp2_with fail
    refine (toLessonS_any A n c _ xs _ H.out (Nat.le_refl _) hn).mono ?_
    rintro e w1 ⟨A1, n1, c1, rfl, a1⟩
    have z1 := a1.reads.lesnLen
    have z0 := H.out.lesnLen
    obtain rfl : n1 = n := by omega
    have R1 := Lib.hid (H.out.below a1.ext)
    have E1 := Lib.hid a1.ext
    go_wp2_with fail
    refine (HS.out A1 n1 c1 _ _ a1.reads (Nat.le_refl _) hn).mono ?_
    rintro e w2 ⟨A0, n0, c0, hs0, rfl, h0⟩
    have R2 := Lib.hid (R1.out.below (h0.ext.mono E1.out.size))
    have E2 := Lib.hid (ext_trans E1.out h0.ext)
    have H0 := Lib.hid h0.reads
    have L0 : n0 ≤ 1048576 := by have := h0.reads.rlen; omega
    clear a1 z1 h0
    go_wp2_with fail
    refine (toLessonS_any A n1 c _ xs _ R2.out E2.out.size hn).mono ?_
    rintro e w3 ⟨A3, n3, c3, rfl, a3⟩
    have z3 := a3.reads.lesnLen
    obtain rfl : n3 = n1 := by omega
    have R3 := Lib.hid (R2.out.below (a3.ext.mono E2.out.size))
    have E3 := Lib.hid (ext_trans E2.out a3.ext)
    have H3 := Lib.hid (H0.out.below a3.ext)
    have O3 := Lib.hid a3
    have S23 : w2.heap.size ≤ w3.heap.size := a3.ext.size
    clear a3 z3
    go_wp2_with fail
    refine (HI.out A3 n3 c3 _ _ O3.out.reads (Nat.le_refl _) hn (own_cap O3.out.own).1 (own_cap O3.out.own).2).mono ?_
    rintro e w4 ⟨A4, n4, c4, hs4, rfl, h4⟩
    have R4 := Lib.hid (R3.out.below (h4.ext.mono E3.out.size))
    have E4 := Lib.hid (ext_trans E3.out h4.ext)
    have H4 := Lib.hid (H3.out.below (h4.ext.mono S23))
    have O4 := Lib.hid (O3.out.later h4.ext)
    have G4 := Lib.hid h4
    have L4 : n4 ≤ 1048576 := by have := h4.reads.rlen; omega
    have T4 : (tot hs4 : Int) ≤ 1048576 := by have := h4.reads.tot; omega
    have S34 : w3.heap.size ≤ w4.heap.size := h4.ext.size
    clear h4
    go_wp2_with fail
    refine (eqIntSS_any A4 A0 n4 n0 c4 c0 _ _ _ _ zs zs _ G4.out.reads H4.out (by unfold maxLen; omega) (by unfold maxLen; omega)).mono ?_
    rintro e w' ⟨rfl, m4, rfl⟩
    go_wp2_with fail
    refine (toLessonS_any A n3 c _ xs _ (R4.out.drewN m4) E4.out.size hn).mono ?_
    rintro e w5 ⟨A5, n5, c5, rfl, a5⟩
    have z5 := a5.reads.lesnLen
    obtain rfl : n5 = n3 := by omega
    have B45 := Lib.hid (ext_trans (below_drewN (B := w4.heap.size) w4 m4) a5.ext)
    go_wp2_with fail
    refine (eqLessonS_any A3 A5 n5 n5 c3 c5 _ _ xs xs _ (O4.out.reads.below B45.out) a5.reads B45.out.size (Nat.le_refl _) (by unfold maxLen; omega) (by unfold maxLen; omega)).mono ?_
    rintro e w6 ⟨rfl, hb6⟩
    rw [decide_eq_true (rfl : xs = xs)]
    have B46 := Lib.hid (ext_trans B45.out hb6)
    have R6 := Lib.hid (R4.out.below (B46.out.mono E4.out.size))
    have E6 := Lib.hid (ext_trans E4.out B46.out)
    have H6 := Lib.hid (H4.out.below (B46.out.mono (Nat.le_trans S23 S34)))
    have O6 := Lib.hid (O4.out.later B46.out)
    have G6 := Lib.hid (G4.out.later B46.out)
    have S46 : w4.heap.size ≤ w6.heap.size := B46.out.size
    clear hb6 a5 z5
    go_wp2_with fail
    refine (markLessonS_any A3 n5 c3 _ _ 1 _ O6.out.own (by omega) (by omega) (by omega)).mono ?_
    rintro e w7 ⟨rfl, _, hg7⟩
    have hrow3 : ∀ g, (Value.slice A3 n5 c3).ownBlock = some g → w2.heap.size ≤ g ∧ g < w3.heap.size := fun g hg => O3.out.own.lt g hg
    have S26 : w2.heap.size ≤ w6.heap.size := by omega
    have H7 := Lib.hid (H6.out.grown hg7 S26 (fun g hg => (hrow3 g hg).1))
    obtain ⟨w3', z3', G7'⟩ := G6.out.moved hg7 (fun g hg => (hrow3 g hg).2)
    have G7 := Lib.hid G7'
    clear G7'
    have E7 := Lib.hid (ext_grown E6.out hg7 (fun g hg => Nat.le_trans E2.out.size (hrow3 g hg).1))
    have S67 : w6.heap.size ≤ w7.heap.size := hg7.size
    have hk1 : (0 : Int) ≤ 1 + ((n5 * 7 : Nat) : Int) := by omega
    clear hg7
    go_wp2_with fail
    refine (eqIntSS_any A4 A0 n4 n0 c4 c0 _ _ _ _ zs zs _ G7.out.reads H7.out (by unfold maxLen; omega) (by unfold maxLen; omega)).mono ?_
    rintro e w' ⟨rfl, m7, rfl⟩
    go_wp2_with fail
    refine (markIntSS_any A4 n4 c4 w3' _ hs4 zs 1 _ (G7.out.drewN m7) (by omega) (by omega) (by omega) (by omega)).mono ?_
    rintro e w8 ⟨rfl, hm8, hb8⟩
    rw [z3'] at hb8
    have H8 := Lib.hid ((H7.out.drewN m7).below (hb8.mono S23))
    have E8 := Lib.hid ((ext_drewN E7.out m7).trans (hb8.mono E3.out.size))
    have G8 := Lib.hid hm8
    have S78 : w7.heap.size ≤ w8.heap.size := hb8.size
    have R8 := Lib.hid (H.out.below E8.out)
    clear hm8 hb8
    go_wp2_with fail
    refine (heldIntSS_any A4 n4 c4 _ hs4 1 _ G8.out.reads (by omega) (by omega) (by omega) (by omega)).mono ?_
    rintro e w' ⟨rfl, rfl⟩
    go_wp2_with fail
    refine (toLessonS_any A n5 c _ xs _ R8.out E8.out.size hn).mono ?_
    rintro e w9 ⟨A9, n9, c9, rfl, a9⟩
    have z9 := a9.reads.lesnLen
    obtain rfl : n9 = n5 := by omega
    have B89 := Lib.hid a9.ext
    go_wp2_with fail
    refine (HI.out A9 n9 c9 _ _ a9.reads (Nat.le_refl _) hn (own_cap a9.own).1 (own_cap a9.own).2).mono ?_
    rintro e w10 ⟨A10, n10, c10, hs10, rfl, h10⟩
    have B8 := Lib.hid (ext_trans B89.out h10.ext)
    have H10 := Lib.hid (H8.out.below (B8.out.mono (by omega)))
    have G10 := Lib.hid (G8.out.later B8.out)
    have E10 := Lib.hid (ext_trans E8.out B8.out)
    have L10 : n10 ≤ 1048576 := by have := h10.reads.rlen; omega
    go_wp2_with fail
    refine (eqIntSS_any A10 A0 n10 n0 c10 c0 _ _ _ _ zs zs _ h10.reads H10.out (by unfold maxLen; omega) (by unfold maxLen; omega)).mono ?_
    rintro e w' ⟨rfl, m10, rfl⟩
    go_wp2_with fail
    refine (heldIntSS_any A4 n4 c4 _ hs4 1 _ (G10.out.drewN m10).reads (by omega) (by omega) (by omega) (by omega)).mono ?_
    rintro e w' ⟨rfl, rfl⟩
    go_wp2_with fail
    go_ret
    exact ⟨rfl, ext_drewN E10.out m10⟩
  · go_enter Try.func11, Try.ntmps11
    go_wp2_with fail
    refine (szLessonS_any A n c hm _).mono ?_
    rintro e w' ⟨rfl, rfl⟩
    rw [if_neg hn]
    go_wp2_with fail
    go_ret
    exact ⟨rfl, Below.refl _ _⟩
end Go.Proofs.Ytnndhgeddfghcaa
