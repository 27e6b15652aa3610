/- The lessons of a class on a day, in the order of their beginnings. No condition. -/
import Derived.Test.YtnndhgeddfghcaaInsL
import Derived.Test.YtnndhgeddfghcaaClash
import Derived.StillTailTactics
namespace Go.Proofs.Ytnndhgeddfghcaa
open Go.RowKit

/-- Behind how many of the first ones does b stand? -/
def posD (b : Int) (bs : List Int) : Nat → Nat
  | 0 => 0
  | k + 1 => match bs[k]? with
    | some y => if b < y then posD b bs k else k + 1
    | none => k + 1
theorem posD_on {b : Int} {bs : List Int} {k : Nat} {y : Int} (hy : bs[k]? = some y) (h : b < y) : posD b bs (k + 1) = posD b bs k := by
  rw [posD, hy]; simp [h]
theorem posD_stop {b : Int} {bs : List Int} {k : Nat} {y : Int} (hy : bs[k]? = some y) (h : ¬ b < y) : posD b bs (k + 1) = k + 1 := by
  rw [posD, hy]; simp [h]
def dayB' (cls dy : Int) (x : Lesn) : Bool := (x.c == cls) && (x.d == dy)
def dayStep (cls dy : Int) (out : List Lesn) (x : Lesn) : List Lesn := if dayB' cls dy x = true then insAt (posD x.b (out.map Lesn.b) out.length) x out else out
def dayS (cls dy : Int) (xs : List Lesn) : List Lesn := xs.foldl (dayStep cls dy) []
theorem dayS_next {cls dy : Int} {xs : List Lesn} {k : Nat} {x : Lesn} (hx : xs[k]? = some x) : dayS cls dy (xs.take (k + 1)) = dayStep cls dy (dayS cls dy (xs.take k)) x := by
  rw [lesnF_snoc hx]; simp [dayS]
theorem dayStep_no {cls dy : Int} {out : List Lesn} {x : Lesn} (h : dayB' cls dy x = false) : dayStep cls dy out x = out := by
  unfold dayStep; rw [if_neg (by rw [h]; simp)]
theorem dayStep_yes {cls dy : Int} {out : List Lesn} {x : Lesn} (h : dayB' cls dy x = true) {k : Nat} (hk : posD x.b (out.map Lesn.b) out.length = k) : dayStep cls dy out x = insAt k x out := by
  unfold dayStep; rw [if_pos h, hk]
theorem dayS_len (cls dy : Int) (xs : List Lesn) : (dayS cls dy xs).length ≤ xs.length := by
  suffices h : ∀ (xs out : List Lesn), (xs.foldl (dayStep cls dy) out).length ≤ out.length + xs.length by
    have := h xs []
    simpa [dayS] using this
  intro xs
  induction xs with
  | nil => intro out; simp
  | cons x xs ih =>
    intro out
    rw [List.foldl_cons]
    have h1 := ih (dayStep cls dy out x)
    have h2 : (dayStep cls dy out x).length ≤ out.length + 1 := by
      unfold dayStep
      split
      · rw [insAt_len]; omega
      · omega
    rw [List.length_cons]
    omega
set_option maxRecDepth 100000 in
set_option maxHeartbeats 8000000 in
theorem l11Day_any (A : Option Addr) (n c B : Nat) (xs : List Lesn) (cls dy : Int) (w : World) (h : Reads w B 7 A n ((lesnF xs).map (Value.int .i64))) (hB : B ≤ w.heap.size) (hn : n ≤ 1048576) :
    Calls Try.prog 74 #[.slice A n c, .int .i64 cls, .int .i64 dy] w fun e w' => GivesS 25 7 (lesnF (dayS cls dy xs)) w e w' := by
  have hl := h.lesnLen
  have H := Lib.hid h
  have HL := Lib.hid hl
  clear h hl
  go_enter Try.func74, Try.ntmps74
  go_wp2
  go_loopw [7, 8] (fun s i wr => ∃ (j : Nat) (A' : Option Addr) (n' c' : Nat), i = .int .i64 j ∧ j ≤ n ∧ s = .slice A' n' c' ∧ Acc w wr 25 7 A' n' c' (lesnF (dayS cls dy (xs.take j)))) (fun _ i _ => n - (intOf i).toNat)
  case atStart => exact ⟨0, _, _, _, rfl, by omega, rfl, Acc.empty (Below.refl _ _)⟩
  case round =>
    obtain ⟨wo, rfl⟩ : ∃ wo : World, wo = wr := ⟨_, rfl⟩
    obtain ⟨j, A', n', c', rfl, hj, rfl, hacc⟩ := hrel
    have hn' : n' ≤ j := by
      have h1 := hacc.reads.lesnLen
      have h2 := dayS_len cls dy (xs.take j)
      have h3 := List.length_take_le j xs
      omega
    have HA := Lib.hid hacc
    obtain ⟨cap1, cap2⟩ := hacc.cap
    unfold maxLen at cap2
    have RL := Lib.hid (H.out.below (hacc.ext.mono hB))
    have RO := Lib.hid hacc.reads
    clear hacc
    by_cases hlt : j < n
    · obtain ⟨b, o, x, hAx, hx, hc0, hc1, hc2, hc3, hc4, hc5, hc6⟩ := RL.out.lesn hlt
      subst hAx
      have HX := Lib.hid hx
      clear hx
      have HN := Lib.hid (dayS_next (cls := cls) (dy := dy) HX.out)
      generalize hD : dayS cls dy (xs.take j) = D at HA HN RO
      clear hD
      have HDL := Lib.hid (RO.out.lesnLen)
      have j0 : (0 : Int) ≤ j := by omega
      have j1 : (j : Int) < n := by omega
      cases h1 : (x.c == cls)
      · have HST := Lib.hid (dayStep_no (cls := cls) (dy := dy) (out := D) (x := x) (by simp [dayB', h1]))
        have h1' : (x.c != cls) = true := by simp only [bne, h1, Bool.not_false]
        clear h1
        go_wp2
        go_roundw
        case rel => exact ⟨j + 1, _, _, _, by go_num, by omega, rfl, by rw [HN.out, HST.out]; exact HA.out⟩
        case measure => simp [intOf]; omega
      · have h1' : (x.c != cls) = false := by simp only [bne, h1, Bool.not_true]
        cases h2 : (x.d == dy)
        · have HST := Lib.hid (dayStep_no (cls := cls) (dy := dy) (out := D) (x := x) (by simp [dayB', h2]))
          have h2' : (x.d != dy) = true := by simp only [bne, h2, Bool.not_false]
          clear h1 h2
          go_wp2
          go_roundw
          case rel => exact ⟨j + 1, _, _, _, by go_num, by omega, rfl, by rw [HN.out, HST.out]; exact HA.out⟩
          case measure => simp [intOf]; omega
        · have h2' : (x.d != dy) = false := by simp only [bne, h2, Bool.not_true]
          have HIN := Lib.hid (fun k => dayStep_yes (cls := cls) (dy := dy) (out := D) (x := x) (k := k) (by simp [dayB', h1, h2]))
          clear h1 h2
          go_wp2
          go_loopw [9] (fun q wq => ∃ k : Nat, q = .int .i64 k ∧ k ≤ n' ∧ posD x.b (D.map Lesn.b) n' = posD x.b (D.map Lesn.b) k ∧ Below wo.heap.size wo wq) (fun q _ => (intOf q).toNat)
          case atStart => exact ⟨n', rfl, Nat.le_refl _, rfl, Below.refl _ _⟩
          case round =>
            obtain ⟨wq, rfl⟩ : ∃ wq : World, wq = wr := ⟨_, rfl⟩
            obtain ⟨k, rfl, hk, hpos, hbq⟩ := hrel
            have hc0 := below_cell hbq hc0
            have hc1 := below_cell hbq hc1
            have hc2 := below_cell hbq hc2
            have hc3 := below_cell hbq hc3
            have hc4 := below_cell hbq hc4
            have hc5 := below_cell hbq hc5
            have hc6 := below_cell hbq hc6
            have HBQ := Lib.hid hbq
            have HAQ := Lib.hid (HA.out.later hbq)
            have ROQ := Lib.hid HAQ.out.reads
            clear hbq
            have HPOS := Lib.hid hpos
            clear hpos
            have k0 : (0 : Int) ≤ k := by omega
            have k1 : (k : Int) ≤ n' := by omega
            have k2 : (n' : Int) ≤ c' := by omega
            have k3 : (k : Int) ≤ c' := by omega
            rcases Nat.eq_zero_or_pos k with h0 | h0
            · have HI := Lib.hid (HIN.out k (by rw [HDL.out, HPOS.out, h0]; rfl))
              have e0 : decide (0 < k) = false := by simp; omega
              clear h0
              go_wp2
              go_quiet (fail)
              go_wp2
              generalize hwz : World.drewN wq _ = wz
              have hbz : Below wq.heap.size wq wz := hwz ▸ below_drewN wq _
              have hc0 := below_cell hbz hc0
              have hc1 := below_cell hbz hc1
              have hc2 := below_cell hbz hc2
              have hc3 := below_cell hbz hc3
              have hc4 := below_cell hbz hc4
              have hc5 := below_cell hbz hc5
              have hc6 := below_cell hbz hc6
              have HAz := Lib.hid (HAQ.out.later hbz)
              have ROz := Lib.hid HAz.out.reads
              clear hwz hbz
              refine wp_region_held_drew (S := (fun w' => w'.cell? ⟨b, o + j * 7, none⟩ = some (.int .i64 x.i) ∧ w'.cell? ⟨b, o + j * 7 + 1, none⟩ = some (.int .i64 x.c) ∧ w'.cell? ⟨b, o + j * 7 + 2, none⟩ = some (.int .i64 x.t) ∧ w'.cell? ⟨b, o + j * 7 + 3, none⟩ = some (.int .i64 x.r) ∧ w'.cell? ⟨b, o + j * 7 + 4, none⟩ = some (.int .i64 x.d) ∧ w'.cell? ⟨b, o + j * 7 + 5, none⟩ = some (.int .i64 x.b) ∧ w'.cell? ⟨b, o + j * 7 + 6, none⟩ = some (.int .i64 x.m))) (by kernel_rfl) ?_ (fun hHeld => ?_)
              · exact ⟨hc0, hc1, hc2, hc3, hc4, hc5, hc6⟩
              obtain ⟨X, hX⟩ : ∃ X, X = World.drew wz := ⟨_, rfl⟩
              rw [← hX]
              try rw [← hX] at hHeld
              have bX : Below wz.heap.size wz X := hX ▸ ext_drew (Below.refl _ _)
              clear hX
              refine wpAnyH_takeD (i := 1) (v := ?_) 54 rfl rfl (by kernel_rfl) (by kernel_rfl) (by kernel_rfl) (fun _ _ _ _ _ h => h) (by rfl) (by assumption) ?_ ?_
              rotate_left; focus (intro w hSw; (try dsimp only at hSw); go_simp; try (with_reducible rfl))
              try simp only [Act.put, List.setIfInBounds_toArray, List.set_cons_zero, List.set_cons_succ]
              refine wpAnyH_takeD (i := 2) (v := ?_) 55 rfl rfl (by kernel_rfl) (by kernel_rfl) (by kernel_rfl) (fun _ _ _ _ _ h => h) (by rfl) (by assumption) ?_ ?_
              rotate_left; focus (intro w hSw; (try dsimp only at hSw); go_simp; try (with_reducible rfl))
              try simp only [Act.put, List.setIfInBounds_toArray, List.set_cons_zero, List.set_cons_succ]
              refine wpAnyH_takeD (i := 3) (v := ?_) 56 rfl rfl (by kernel_rfl) (by kernel_rfl) (by kernel_rfl) (fun _ _ _ _ _ h => h) (by rfl) (by assumption) ?_ ?_
              rotate_left; focus (intro w hSw; (try dsimp only at hSw); go_simp; try (with_reducible rfl))
              try simp only [Act.put, List.setIfInBounds_toArray, List.set_cons_zero, List.set_cons_succ]
              refine wpAnyH_takeD (i := 5) (v := ?_) 58 rfl rfl (by kernel_rfl) (by kernel_rfl) (by kernel_rfl) (fun _ _ _ _ _ h => h) (by rfl) (by assumption) ?_ ?_
              rotate_left; focus (intro w hSw; (try dsimp only at hSw); go_simp; try (with_reducible rfl))
              try simp only [Act.put, List.setIfInBounds_toArray, List.set_cons_zero, List.set_cons_succ]
              refine wpAnyH_takeD (i := 6) (v := ?_) 59 rfl rfl (by kernel_rfl) (by kernel_rfl) (by kernel_rfl) (fun _ _ _ _ _ h => h) (by rfl) (by assumption) ?_ ?_
              rotate_left; focus (intro w hSw; (try dsimp only at hSw); go_simp; try (with_reducible rfl))
              try simp only [Act.put, List.setIfInBounds_toArray, List.set_cons_zero, List.set_cons_succ]
              refine wpAnyH_takeD (i := 7) (v := ?_) 60 rfl rfl (by kernel_rfl) (by kernel_rfl) (by kernel_rfl) (fun _ _ _ _ _ h => h) (by rfl) (by assumption) ?_ ?_
              rotate_left; focus (intro w hSw; (try dsimp only at hSw); go_simp; try (with_reducible rfl))
              try simp only [Act.put, List.setIfInBounds_toArray, List.set_cons_zero, List.set_cons_succ]
              refine wpAnyH_takeD (i := 8) (v := ?_) 61 rfl rfl (by kernel_rfl) (by kernel_rfl) (by kernel_rfl) (fun _ _ _ _ _ h => h) (by rfl) (by assumption) ?_ ?_
              rotate_left; focus (intro w hSw; (try dsimp only at hSw); go_simp; try (with_reducible rfl))
              try simp only [Act.put, List.setIfInBounds_toArray, List.set_cons_zero, List.set_cons_succ]
              refine wpAnyH_takeD (i := 11) (v := ?_) 64 rfl rfl (by kernel_rfl) (by kernel_rfl) (by kernel_rfl) (fun _ _ _ _ _ h => h) (by rfl) (by assumption) ?_ ?_
              rotate_left; focus (intro w hSw; (try dsimp only at hSw); go_simp; try (with_reducible rfl))
              try simp only [Act.put, List.setIfInBounds_toArray, List.set_cons_zero, List.set_cons_succ]
              refine wpAnyH_takeD (i := 12) (v := ?_) 65 rfl rfl (by kernel_rfl) (by kernel_rfl) (by kernel_rfl) (fun _ _ _ _ _ h => h) (by rfl) (by assumption) ?_ ?_
              rotate_left; focus (intro w hSw; (try dsimp only at hSw); go_simp; try (with_reducible rfl))
              try simp only [Act.put, List.setIfInBounds_toArray, List.set_cons_zero, List.set_cons_succ]
              refine wpAnyH_takeD (i := 13) (v := ?_) 66 rfl rfl (by kernel_rfl) (by kernel_rfl) (by kernel_rfl) (fun _ _ _ _ _ h => h) (by rfl) (by assumption) ?_ ?_
              rotate_left; focus (intro w hSw; (try dsimp only at hSw); go_simp; try (with_reducible rfl))
              try simp only [Act.put, List.setIfInBounds_toArray, List.set_cons_zero, List.set_cons_succ]
              refine wpAnyH_ready (rs := [0, 9]) (by kernel_rfl) (by simp) ?_
              refine AllReadyH.cons rfl (fun K hK => ?_) (AllReadyH.cons rfl (fun K hK => ?_) AllReadyH.nil)
              · go_simp
                obtain ⟨Y, hY⟩ : ∃ Y, Y = World.alloc X (Obj.cells #[] 25) := ⟨_, rfl⟩
                rw [← hY]
                have bY : Below wz.heap.size wz Y := hY ▸ ext_alloc bX _
                have a0 : Acc wz Y 25 7 (some ⟨X.heap.size, 0, none⟩) 0 0 [] := hY ▸ Acc.empty bX
                clear hY
                refine hK.out _ _ (by exact ⟨below_cell (by assumption) hc0, below_cell (by assumption) hc1, below_cell (by assumption) hc2, below_cell (by assumption) hc3, below_cell (by assumption) hc4, below_cell (by assumption) hc5, below_cell (by assumption) hc6⟩) (fun hHeld => ?_)
                clear hK K; (try simp only [Act.put]); (try simp only [List.setIfInBounds_toArray]); (try simp only [List.set_cons_succ]); (try simp only [List.set_cons_zero])
                refine wpAnyH_ready (rs := [4, 9]) (by kernel_rfl) (by simp) ?_
                refine AllReadyH.cons rfl (fun K hK => ?_) (AllReadyH.cons rfl (fun K hK => ?_) AllReadyH.nil)
                · refine appLesn_b_step rfl (.tmp 53) (.tmp 56) rfl rfl a0 rfl ((ROz.out.below bY).frontLesn hk) (by omega) ?_
                  intro A1 c1 Z a1 p1
                  have bZ := a1.ext
                  simp only [Nat.zero_add, List.nil_append] at a1
                  refine hK.out _ _ (by exact ⟨below_cell (by assumption) hc0, below_cell (by assumption) hc1, below_cell (by assumption) hc2, below_cell (by assumption) hc3, below_cell (by assumption) hc4, below_cell (by assumption) hc5, below_cell (by assumption) hc6⟩) (fun hHeld => ?_)
                  clear hK K; (try simp only [Act.put]); (try simp only [List.setIfInBounds_toArray]); (try simp only [List.set_cons_succ]); (try simp only [List.set_cons_zero])
                  try simp only [Nat.zero_add]
                  refine wpAnyH_ready (rs := [9]) (by kernel_rfl) (by simp) ?_
                  refine AllReadyH.cons rfl (fun K hK => ?_) AllReadyH.nil
                  go_simp
                  obtain ⟨T, hT⟩ : ∃ T, T = World.alloc Z (Obj.cells #[.int .i64 x.i, .int .i64 x.c, .int .i64 x.t, .int .i64 x.r, .int .i64 x.d, .int .i64 x.b, .int .i64 x.m] 25) := ⟨_, rfl⟩
                  rw [← hT]
                  have bT : Below wz.heap.size wz T := hT ▸ ext_alloc bZ _
                  have s1 := Side.new a1 #[.int .i64 x.i, .int .i64 x.c, .int .i64 x.t, .int .i64 x.r, .int .i64 x.d, .int .i64 x.b, .int .i64 x.m] 25 x.cs rfl rfl
                  rw [← hT] at s1
                  have a1 := a1.alloc (Obj.cells #[.int .i64 x.i, .int .i64 x.c, .int .i64 x.t, .int .i64 x.r, .int .i64 x.d, .int .i64 x.b, .int .i64 x.m] 25)
                  rw [← hT] at a1
                  clear hT
                  refine hK.out _ _ (by exact ⟨below_cell (by assumption) hc0, below_cell (by assumption) hc1, below_cell (by assumption) hc2, below_cell (by assumption) hc3, below_cell (by assumption) hc4, below_cell (by assumption) hc5, below_cell (by assumption) hc6⟩) (fun hHeld => ?_)
                  clear hK K; (try simp only [Act.put]); (try simp only [List.setIfInBounds_toArray]); (try simp only [List.set_cons_succ]); (try simp only [List.set_cons_zero])
                  refine wpAnyH_ready (rs := [10]) (by kernel_rfl) (by simp) ?_
                  refine AllReadyH.cons rfl (fun K hK => ?_) AllReadyH.nil
                  refine appLesn_b_step rfl (.tmp 57) (.tmp 62) rfl rfl a1 rfl s1.reads (by omega) ?_
                  intro A2 c2 V a2 p2
                  have bV := a2.ext
                  refine hK.out _ _ (by exact ⟨below_cell (by assumption) hc0, below_cell (by assumption) hc1, below_cell (by assumption) hc2, below_cell (by assumption) hc3, below_cell (by assumption) hc4, below_cell (by assumption) hc5, below_cell (by assumption) hc6⟩) (fun hHeld => ?_)
                  clear hK K; (try simp only [Act.put]); (try simp only [List.setIfInBounds_toArray]); (try simp only [List.set_cons_succ]); (try simp only [List.set_cons_zero])
                  refine wpAnyH_ready (rs := [14]) (by kernel_rfl) (by simp) ?_
                  refine AllReadyH.cons rfl (fun K hK => ?_) AllReadyH.nil
                  refine appLesn_b_step rfl (.tmp 63) (.tmp 66) rfl rfl a2 rfl (by first | exact ((ROz.out.below bV).cutLesn hk cap1) | exact ((ROz.out.below bV).cutSLesn hk cap1)) (by omega) ?_
                  intro A3 c3 U a3 p3
                  have bU := a3.ext
                  refine hK.out _ _ (by exact ⟨below_cell (by assumption) hc0, below_cell (by assumption) hc1, below_cell (by assumption) hc2, below_cell (by assumption) hc3, below_cell (by assumption) hc4, below_cell (by assumption) hc5, below_cell (by assumption) hc6⟩) (fun hHeld => ?_)
                  clear hK K; (try simp only [Act.put]); (try simp only [List.setIfInBounds_toArray]); (try simp only [List.set_cons_succ]); (try simp only [List.set_cons_zero])
                  refine wpAnyH_takeD (i := 15) (v := ?_) 7 rfl rfl (by kernel_rfl) (by kernel_rfl) (by kernel_rfl) (fun _ _ _ _ _ h => h) (by rfl) (by assumption) ?_ ?_
                  rotate_left; focus (intro w hSw; (try dsimp only at hSw); go_simp; try (with_reducible rfl))
                  (try simp only [Act.put]); (try simp only [List.setIfInBounds_toArray]); (try simp only [List.set_cons_succ]); (try simp only [List.set_cons_zero])
                  refine wpAnyH_done (by kernel_rfl) ?_ _
                  have HN3 := Lib.hid (a3.since HAz.out.ext)
                  clear a0 a1 a2 a3 s1 hHeld
                  go_wp2
                  all_goals
                    go_roundw
                    case rel => exact ⟨j + 1, _, _, _, by go_num, by omega, rfl, by rw [HN.out, HI.out, lesnF_ins]; simpa [Lesn.cs] using HN3.out⟩
                    case measure => simp [intOf]; omega
                · go_simp
                  obtain ⟨Z, hZ⟩ : ∃ Z, Z = World.alloc Y (Obj.cells #[.int .i64 x.i, .int .i64 x.c, .int .i64 x.t, .int .i64 x.r, .int .i64 x.d, .int .i64 x.b, .int .i64 x.m] 25) := ⟨_, rfl⟩
                  rw [← hZ]
                  have bZ : Below wz.heap.size wz Z := hZ ▸ ext_alloc bY _
                  have s1 := Side.new a0 #[.int .i64 x.i, .int .i64 x.c, .int .i64 x.t, .int .i64 x.r, .int .i64 x.d, .int .i64 x.b, .int .i64 x.m] 25 x.cs rfl rfl
                  rw [← hZ] at s1
                  have a0 := a0.alloc (Obj.cells #[.int .i64 x.i, .int .i64 x.c, .int .i64 x.t, .int .i64 x.r, .int .i64 x.d, .int .i64 x.b, .int .i64 x.m] 25)
                  rw [← hZ] at a0
                  clear hZ
                  refine hK.out _ _ (by exact ⟨below_cell (by assumption) hc0, below_cell (by assumption) hc1, below_cell (by assumption) hc2, below_cell (by assumption) hc3, below_cell (by assumption) hc4, below_cell (by assumption) hc5, below_cell (by assumption) hc6⟩) (fun hHeld => ?_)
                  clear hK K; (try simp only [Act.put]); (try simp only [List.setIfInBounds_toArray]); (try simp only [List.set_cons_succ]); (try simp only [List.set_cons_zero])
                  refine wpAnyH_ready (rs := [4]) (by kernel_rfl) (by simp) ?_
                  refine AllReadyH.cons rfl (fun K hK => ?_) AllReadyH.nil
                  refine appLesn_b_step rfl (.tmp 53) (.tmp 56) rfl rfl a0 rfl ((ROz.out.below bZ).frontLesn hk) (by omega) ?_
                  intro A1 c1 T a1 p1
                  have bT := a1.ext
                  simp only [Nat.zero_add, List.nil_append] at a1
                  have s1 := s1.pushed p1
                  refine hK.out _ _ (by exact ⟨below_cell (by assumption) hc0, below_cell (by assumption) hc1, below_cell (by assumption) hc2, below_cell (by assumption) hc3, below_cell (by assumption) hc4, below_cell (by assumption) hc5, below_cell (by assumption) hc6⟩) (fun hHeld => ?_)
                  clear hK K; (try simp only [Act.put]); (try simp only [List.setIfInBounds_toArray]); (try simp only [List.set_cons_succ]); (try simp only [List.set_cons_zero])
                  try simp only [Nat.zero_add]
                  refine wpAnyH_ready (rs := [10]) (by kernel_rfl) (by simp) ?_
                  refine AllReadyH.cons rfl (fun K hK => ?_) AllReadyH.nil
                  refine appLesn_b_step rfl (.tmp 57) (.tmp 62) rfl rfl a1 rfl s1.reads (by omega) ?_
                  intro A2 c2 V a2 p2
                  have bV := a2.ext
                  refine hK.out _ _ (by exact ⟨below_cell (by assumption) hc0, below_cell (by assumption) hc1, below_cell (by assumption) hc2, below_cell (by assumption) hc3, below_cell (by assumption) hc4, below_cell (by assumption) hc5, below_cell (by assumption) hc6⟩) (fun hHeld => ?_)
                  clear hK K; (try simp only [Act.put]); (try simp only [List.setIfInBounds_toArray]); (try simp only [List.set_cons_succ]); (try simp only [List.set_cons_zero])
                  refine wpAnyH_ready (rs := [14]) (by kernel_rfl) (by simp) ?_
                  refine AllReadyH.cons rfl (fun K hK => ?_) AllReadyH.nil
                  refine appLesn_b_step rfl (.tmp 63) (.tmp 66) rfl rfl a2 rfl (by first | exact ((ROz.out.below bV).cutLesn hk cap1) | exact ((ROz.out.below bV).cutSLesn hk cap1)) (by omega) ?_
                  intro A3 c3 U a3 p3
                  have bU := a3.ext
                  refine hK.out _ _ (by exact ⟨below_cell (by assumption) hc0, below_cell (by assumption) hc1, below_cell (by assumption) hc2, below_cell (by assumption) hc3, below_cell (by assumption) hc4, below_cell (by assumption) hc5, below_cell (by assumption) hc6⟩) (fun hHeld => ?_)
                  clear hK K; (try simp only [Act.put]); (try simp only [List.setIfInBounds_toArray]); (try simp only [List.set_cons_succ]); (try simp only [List.set_cons_zero])
                  refine wpAnyH_takeD (i := 15) (v := ?_) 7 rfl rfl (by kernel_rfl) (by kernel_rfl) (by kernel_rfl) (fun _ _ _ _ _ h => h) (by rfl) (by assumption) ?_ ?_
                  rotate_left; focus (intro w hSw; (try dsimp only at hSw); go_simp; try (with_reducible rfl))
                  (try simp only [Act.put]); (try simp only [List.setIfInBounds_toArray]); (try simp only [List.set_cons_succ]); (try simp only [List.set_cons_zero])
                  refine wpAnyH_done (by kernel_rfl) ?_ _
                  have HN3 := Lib.hid (a3.since HAz.out.ext)
                  clear a0 a1 a2 a3 s1 hHeld
                  go_wp2
                  all_goals
                    go_roundw
                    case rel => exact ⟨j + 1, _, _, _, by go_num, by omega, rfl, by rw [HN.out, HI.out, lesnF_ins]; simpa [Lesn.cs] using HN3.out⟩
                    case measure => simp [intOf]; omega
              · go_simp
                obtain ⟨Y, hY⟩ : ∃ Y, Y = World.alloc X (Obj.cells #[.int .i64 x.i, .int .i64 x.c, .int .i64 x.t, .int .i64 x.r, .int .i64 x.d, .int .i64 x.b, .int .i64 x.m] 25) := ⟨_, rfl⟩
                rw [← hY]
                have bY : Below wz.heap.size wz Y := hY ▸ ext_alloc bX _
                have s1 := Side.new0 X 7 #[.int .i64 x.i, .int .i64 x.c, .int .i64 x.t, .int .i64 x.r, .int .i64 x.d, .int .i64 x.b, .int .i64 x.m] 25 x.cs rfl rfl
                rw [← hY] at s1
                clear hY
                refine hK.out _ _ (by exact ⟨below_cell (by assumption) hc0, below_cell (by assumption) hc1, below_cell (by assumption) hc2, below_cell (by assumption) hc3, below_cell (by assumption) hc4, below_cell (by assumption) hc5, below_cell (by assumption) hc6⟩) (fun hHeld => ?_)
                clear hK K; (try simp only [Act.put]); (try simp only [List.setIfInBounds_toArray]); (try simp only [List.set_cons_succ]); (try simp only [List.set_cons_zero])
                refine wpAnyH_ready (rs := [0]) (by kernel_rfl) (by simp) ?_
                refine AllReadyH.cons rfl (fun K hK => ?_) AllReadyH.nil
                go_simp
                obtain ⟨Z, hZ⟩ : ∃ Z, Z = World.alloc Y (Obj.cells #[] 25) := ⟨_, rfl⟩
                rw [← hZ]
                have bZ : Below wz.heap.size wz Z := hZ ▸ ext_alloc bY _
                have a0 : Acc wz Z 25 7 (some ⟨Y.heap.size, 0, none⟩) 0 0 [] := hZ ▸ Acc.empty bY
                have s1 := s1.row (Obj.cells #[] 25)
                rw [← hZ] at s1
                clear hZ
                refine hK.out _ _ (by exact ⟨below_cell (by assumption) hc0, below_cell (by assumption) hc1, below_cell (by assumption) hc2, below_cell (by assumption) hc3, below_cell (by assumption) hc4, below_cell (by assumption) hc5, below_cell (by assumption) hc6⟩) (fun hHeld => ?_)
                clear hK K; (try simp only [Act.put]); (try simp only [List.setIfInBounds_toArray]); (try simp only [List.set_cons_succ]); (try simp only [List.set_cons_zero])
                refine wpAnyH_ready (rs := [4]) (by kernel_rfl) (by simp) ?_
                refine AllReadyH.cons rfl (fun K hK => ?_) AllReadyH.nil
                refine appLesn_b_step rfl (.tmp 53) (.tmp 56) rfl rfl a0 rfl ((ROz.out.below bZ).frontLesn hk) (by omega) ?_
                intro A1 c1 T a1 p1
                have bT := a1.ext
                simp only [Nat.zero_add, List.nil_append] at a1
                have s1 := s1.pushed p1
                refine hK.out _ _ (by exact ⟨below_cell (by assumption) hc0, below_cell (by assumption) hc1, below_cell (by assumption) hc2, below_cell (by assumption) hc3, below_cell (by assumption) hc4, below_cell (by assumption) hc5, below_cell (by assumption) hc6⟩) (fun hHeld => ?_)
                clear hK K; (try simp only [Act.put]); (try simp only [List.setIfInBounds_toArray]); (try simp only [List.set_cons_succ]); (try simp only [List.set_cons_zero])
                try simp only [Nat.zero_add]
                refine wpAnyH_ready (rs := [10]) (by kernel_rfl) (by simp) ?_
                refine AllReadyH.cons rfl (fun K hK => ?_) AllReadyH.nil
                refine appLesn_b_step rfl (.tmp 57) (.tmp 62) rfl rfl a1 rfl s1.reads (by omega) ?_
                intro A2 c2 V a2 p2
                have bV := a2.ext
                refine hK.out _ _ (by exact ⟨below_cell (by assumption) hc0, below_cell (by assumption) hc1, below_cell (by assumption) hc2, below_cell (by assumption) hc3, below_cell (by assumption) hc4, below_cell (by assumption) hc5, below_cell (by assumption) hc6⟩) (fun hHeld => ?_)
                clear hK K; (try simp only [Act.put]); (try simp only [List.setIfInBounds_toArray]); (try simp only [List.set_cons_succ]); (try simp only [List.set_cons_zero])
                refine wpAnyH_ready (rs := [14]) (by kernel_rfl) (by simp) ?_
                refine AllReadyH.cons rfl (fun K hK => ?_) AllReadyH.nil
                refine appLesn_b_step rfl (.tmp 63) (.tmp 66) rfl rfl a2 rfl (by first | exact ((ROz.out.below bV).cutLesn hk cap1) | exact ((ROz.out.below bV).cutSLesn hk cap1)) (by omega) ?_
                intro A3 c3 U a3 p3
                have bU := a3.ext
                refine hK.out _ _ (by exact ⟨below_cell (by assumption) hc0, below_cell (by assumption) hc1, below_cell (by assumption) hc2, below_cell (by assumption) hc3, below_cell (by assumption) hc4, below_cell (by assumption) hc5, below_cell (by assumption) hc6⟩) (fun hHeld => ?_)
                clear hK K; (try simp only [Act.put]); (try simp only [List.setIfInBounds_toArray]); (try simp only [List.set_cons_succ]); (try simp only [List.set_cons_zero])
                refine wpAnyH_takeD (i := 15) (v := ?_) 7 rfl rfl (by kernel_rfl) (by kernel_rfl) (by kernel_rfl) (fun _ _ _ _ _ h => h) (by rfl) (by assumption) ?_ ?_
                rotate_left; focus (intro w hSw; (try dsimp only at hSw); go_simp; try (with_reducible rfl))
                (try simp only [Act.put]); (try simp only [List.setIfInBounds_toArray]); (try simp only [List.set_cons_succ]); (try simp only [List.set_cons_zero])
                refine wpAnyH_done (by kernel_rfl) ?_ _
                have HN3 := Lib.hid (a3.since HAz.out.ext)
                clear a0 a1 a2 a3 s1 hHeld
                go_wp2
                all_goals
                  go_roundw
                  case rel => exact ⟨j + 1, _, _, _, by go_num, by omega, rfl, by rw [HN.out, HI.out, lesnF_ins]; simpa [Lesn.cs] using HN3.out⟩
                  case measure => simp [intOf]; omega
            · obtain ⟨i, hi⟩ : ∃ i, k = i + 1 := ⟨k - 1, by omega⟩
              have e0 : decide (0 < k) = true := by simp; omega
              have i0 : (0 : Int) ≤ i := by omega
              have i1 : (i : Int) < n' := by omega
              have i2 : (k : Int) - 1 = (i : Int) := by omega
              have i3 : IntKind.i64.wrap (i : Int) = (i : Int) := IntWalk.i64_in _ ⟨by omega, by omega⟩
              obtain ⟨b', o', y, hAy, hy, hd0, hd1, hd2, hd3, hd4, hd5, hd6⟩ := ROQ.out.lesn (show i < n' by omega)
              subst hAy
              have HY := Lib.hid (show (D.map Lesn.b)[i]? = some y.b by rw [List.getElem?_map, hy]; rfl)
              have HJ := Lib.hid hi
              clear hy hi h0
              by_cases hlt2 : x.b < y.b
              · have HPO := Lib.hid (posD_on HY.out hlt2)
                have e3 : decide (x.b < y.b) = true := by simp; omega
                go_wp2
                go_quiet (fail)
                go_wp2
                go_roundw
                case rel => exact ⟨i, by have := HJ.out; go_num, by omega, by rw [HPOS.out, HJ.out, HPO.out], ext_drewN HBQ.out _⟩
                case measure => simp [intOf]; have := HJ.out; omega
              · have HPO := Lib.hid (posD_stop HY.out hlt2)
                have e3 : decide (x.b < y.b) = false := by simp; omega
                have HI := Lib.hid (HIN.out k (by rw [HDL.out, HPOS.out, HJ.out, HPO.out]))
                go_wp2
                go_quiet (fail)
                go_wp2
                generalize hwz : World.drewN wq _ = wz
                have hbz : Below wq.heap.size wq wz := hwz ▸ below_drewN wq _
                have hc0 := below_cell hbz hc0
                have hc1 := below_cell hbz hc1
                have hc2 := below_cell hbz hc2
                have hc3 := below_cell hbz hc3
                have hc4 := below_cell hbz hc4
                have hc5 := below_cell hbz hc5
                have hc6 := below_cell hbz hc6
                have HAz := Lib.hid (HAQ.out.later hbz)
                have ROz := Lib.hid HAz.out.reads
                clear hwz hbz
                refine wp_region_held_drew (S := (fun w' => w'.cell? ⟨b, o + j * 7, none⟩ = some (.int .i64 x.i) ∧ w'.cell? ⟨b, o + j * 7 + 1, none⟩ = some (.int .i64 x.c) ∧ w'.cell? ⟨b, o + j * 7 + 2, none⟩ = some (.int .i64 x.t) ∧ w'.cell? ⟨b, o + j * 7 + 3, none⟩ = some (.int .i64 x.r) ∧ w'.cell? ⟨b, o + j * 7 + 4, none⟩ = some (.int .i64 x.d) ∧ w'.cell? ⟨b, o + j * 7 + 5, none⟩ = some (.int .i64 x.b) ∧ w'.cell? ⟨b, o + j * 7 + 6, none⟩ = some (.int .i64 x.m))) (by kernel_rfl) ?_ (fun hHeld => ?_)
                · exact ⟨hc0, hc1, hc2, hc3, hc4, hc5, hc6⟩
                obtain ⟨X, hX⟩ : ∃ X, X = World.drew wz := ⟨_, rfl⟩
                rw [← hX]
                try rw [← hX] at hHeld
                have bX : Below wz.heap.size wz X := hX ▸ ext_drew (Below.refl _ _)
                clear hX
                refine wpAnyH_takeD (i := 1) (v := ?_) 54 rfl rfl (by kernel_rfl) (by kernel_rfl) (by kernel_rfl) (fun _ _ _ _ _ h => h) (by rfl) (by assumption) ?_ ?_
                rotate_left; focus (intro w hSw; (try dsimp only at hSw); go_simp; try (with_reducible rfl))
                try simp only [Act.put, List.setIfInBounds_toArray, List.set_cons_zero, List.set_cons_succ]
                refine wpAnyH_takeD (i := 2) (v := ?_) 55 rfl rfl (by kernel_rfl) (by kernel_rfl) (by kernel_rfl) (fun _ _ _ _ _ h => h) (by rfl) (by assumption) ?_ ?_
                rotate_left; focus (intro w hSw; (try dsimp only at hSw); go_simp; try (with_reducible rfl))
                try simp only [Act.put, List.setIfInBounds_toArray, List.set_cons_zero, List.set_cons_succ]
                refine wpAnyH_takeD (i := 3) (v := ?_) 56 rfl rfl (by kernel_rfl) (by kernel_rfl) (by kernel_rfl) (fun _ _ _ _ _ h => h) (by rfl) (by assumption) ?_ ?_
                rotate_left; focus (intro w hSw; (try dsimp only at hSw); go_simp; try (with_reducible rfl))
                try simp only [Act.put, List.setIfInBounds_toArray, List.set_cons_zero, List.set_cons_succ]
                refine wpAnyH_takeD (i := 5) (v := ?_) 58 rfl rfl (by kernel_rfl) (by kernel_rfl) (by kernel_rfl) (fun _ _ _ _ _ h => h) (by rfl) (by assumption) ?_ ?_
                rotate_left; focus (intro w hSw; (try dsimp only at hSw); go_simp; try (with_reducible rfl))
                try simp only [Act.put, List.setIfInBounds_toArray, List.set_cons_zero, List.set_cons_succ]
                refine wpAnyH_takeD (i := 6) (v := ?_) 59 rfl rfl (by kernel_rfl) (by kernel_rfl) (by kernel_rfl) (fun _ _ _ _ _ h => h) (by rfl) (by assumption) ?_ ?_
                rotate_left; focus (intro w hSw; (try dsimp only at hSw); go_simp; try (with_reducible rfl))
                try simp only [Act.put, List.setIfInBounds_toArray, List.set_cons_zero, List.set_cons_succ]
                refine wpAnyH_takeD (i := 7) (v := ?_) 60 rfl rfl (by kernel_rfl) (by kernel_rfl) (by kernel_rfl) (fun _ _ _ _ _ h => h) (by rfl) (by assumption) ?_ ?_
                rotate_left; focus (intro w hSw; (try dsimp only at hSw); go_simp; try (with_reducible rfl))
                try simp only [Act.put, List.setIfInBounds_toArray, List.set_cons_zero, List.set_cons_succ]
                refine wpAnyH_takeD (i := 8) (v := ?_) 61 rfl rfl (by kernel_rfl) (by kernel_rfl) (by kernel_rfl) (fun _ _ _ _ _ h => h) (by rfl) (by assumption) ?_ ?_
                rotate_left; focus (intro w hSw; (try dsimp only at hSw); go_simp; try (with_reducible rfl))
                try simp only [Act.put, List.setIfInBounds_toArray, List.set_cons_zero, List.set_cons_succ]
                refine wpAnyH_takeD (i := 11) (v := ?_) 64 rfl rfl (by kernel_rfl) (by kernel_rfl) (by kernel_rfl) (fun _ _ _ _ _ h => h) (by rfl) (by assumption) ?_ ?_
                rotate_left; focus (intro w hSw; (try dsimp only at hSw); go_simp; try (with_reducible rfl))
                try simp only [Act.put, List.setIfInBounds_toArray, List.set_cons_zero, List.set_cons_succ]
                refine wpAnyH_takeD (i := 12) (v := ?_) 65 rfl rfl (by kernel_rfl) (by kernel_rfl) (by kernel_rfl) (fun _ _ _ _ _ h => h) (by rfl) (by assumption) ?_ ?_
                rotate_left; focus (intro w hSw; (try dsimp only at hSw); go_simp; try (with_reducible rfl))
                try simp only [Act.put, List.setIfInBounds_toArray, List.set_cons_zero, List.set_cons_succ]
                refine wpAnyH_takeD (i := 13) (v := ?_) 66 rfl rfl (by kernel_rfl) (by kernel_rfl) (by kernel_rfl) (fun _ _ _ _ _ h => h) (by rfl) (by assumption) ?_ ?_
                rotate_left; focus (intro w hSw; (try dsimp only at hSw); go_simp; try (with_reducible rfl))
                try simp only [Act.put, List.setIfInBounds_toArray, List.set_cons_zero, List.set_cons_succ]
                refine wpAnyH_ready (rs := [0, 9]) (by kernel_rfl) (by simp) ?_
                refine AllReadyH.cons rfl (fun K hK => ?_) (AllReadyH.cons rfl (fun K hK => ?_) AllReadyH.nil)
                · go_simp
                  obtain ⟨Y, hY⟩ : ∃ Y, Y = World.alloc X (Obj.cells #[] 25) := ⟨_, rfl⟩
                  rw [← hY]
                  have bY : Below wz.heap.size wz Y := hY ▸ ext_alloc bX _
                  have a0 : Acc wz Y 25 7 (some ⟨X.heap.size, 0, none⟩) 0 0 [] := hY ▸ Acc.empty bX
                  clear hY
                  refine hK.out _ _ (by exact ⟨below_cell (by assumption) hc0, below_cell (by assumption) hc1, below_cell (by assumption) hc2, below_cell (by assumption) hc3, below_cell (by assumption) hc4, below_cell (by assumption) hc5, below_cell (by assumption) hc6⟩) (fun hHeld => ?_)
                  clear hK K; (try simp only [Act.put]); (try simp only [List.setIfInBounds_toArray]); (try simp only [List.set_cons_succ]); (try simp only [List.set_cons_zero])
                  refine wpAnyH_ready (rs := [4, 9]) (by kernel_rfl) (by simp) ?_
                  refine AllReadyH.cons rfl (fun K hK => ?_) (AllReadyH.cons rfl (fun K hK => ?_) AllReadyH.nil)
                  · refine appLesn_b_step rfl (.tmp 53) (.tmp 56) rfl rfl a0 rfl ((ROz.out.below bY).frontLesn hk) (by omega) ?_
                    intro A1 c1 Z a1 p1
                    have bZ := a1.ext
                    simp only [Nat.zero_add, List.nil_append] at a1
                    refine hK.out _ _ (by exact ⟨below_cell (by assumption) hc0, below_cell (by assumption) hc1, below_cell (by assumption) hc2, below_cell (by assumption) hc3, below_cell (by assumption) hc4, below_cell (by assumption) hc5, below_cell (by assumption) hc6⟩) (fun hHeld => ?_)
                    clear hK K; (try simp only [Act.put]); (try simp only [List.setIfInBounds_toArray]); (try simp only [List.set_cons_succ]); (try simp only [List.set_cons_zero])
                    try simp only [Nat.zero_add]
                    refine wpAnyH_ready (rs := [9]) (by kernel_rfl) (by simp) ?_
                    refine AllReadyH.cons rfl (fun K hK => ?_) AllReadyH.nil
                    go_simp
                    obtain ⟨T, hT⟩ : ∃ T, T = World.alloc Z (Obj.cells #[.int .i64 x.i, .int .i64 x.c, .int .i64 x.t, .int .i64 x.r, .int .i64 x.d, .int .i64 x.b, .int .i64 x.m] 25) := ⟨_, rfl⟩
                    rw [← hT]
                    have bT : Below wz.heap.size wz T := hT ▸ ext_alloc bZ _
                    have s1 := Side.new a1 #[.int .i64 x.i, .int .i64 x.c, .int .i64 x.t, .int .i64 x.r, .int .i64 x.d, .int .i64 x.b, .int .i64 x.m] 25 x.cs rfl rfl
                    rw [← hT] at s1
                    have a1 := a1.alloc (Obj.cells #[.int .i64 x.i, .int .i64 x.c, .int .i64 x.t, .int .i64 x.r, .int .i64 x.d, .int .i64 x.b, .int .i64 x.m] 25)
                    rw [← hT] at a1
                    clear hT
                    refine hK.out _ _ (by exact ⟨below_cell (by assumption) hc0, below_cell (by assumption) hc1, below_cell (by assumption) hc2, below_cell (by assumption) hc3, below_cell (by assumption) hc4, below_cell (by assumption) hc5, below_cell (by assumption) hc6⟩) (fun hHeld => ?_)
                    clear hK K; (try simp only [Act.put]); (try simp only [List.setIfInBounds_toArray]); (try simp only [List.set_cons_succ]); (try simp only [List.set_cons_zero])
                    refine wpAnyH_ready (rs := [10]) (by kernel_rfl) (by simp) ?_
                    refine AllReadyH.cons rfl (fun K hK => ?_) AllReadyH.nil
                    refine appLesn_b_step rfl (.tmp 57) (.tmp 62) rfl rfl a1 rfl s1.reads (by omega) ?_
                    intro A2 c2 V a2 p2
                    have bV := a2.ext
                    refine hK.out _ _ (by exact ⟨below_cell (by assumption) hc0, below_cell (by assumption) hc1, below_cell (by assumption) hc2, below_cell (by assumption) hc3, below_cell (by assumption) hc4, below_cell (by assumption) hc5, below_cell (by assumption) hc6⟩) (fun hHeld => ?_)
                    clear hK K; (try simp only [Act.put]); (try simp only [List.setIfInBounds_toArray]); (try simp only [List.set_cons_succ]); (try simp only [List.set_cons_zero])
                    refine wpAnyH_ready (rs := [14]) (by kernel_rfl) (by simp) ?_
                    refine AllReadyH.cons rfl (fun K hK => ?_) AllReadyH.nil
                    refine appLesn_b_step rfl (.tmp 63) (.tmp 66) rfl rfl a2 rfl (by first | exact ((ROz.out.below bV).cutLesn hk cap1) | exact ((ROz.out.below bV).cutSLesn hk cap1)) (by omega) ?_
                    intro A3 c3 U a3 p3
                    have bU := a3.ext
                    refine hK.out _ _ (by exact ⟨below_cell (by assumption) hc0, below_cell (by assumption) hc1, below_cell (by assumption) hc2, below_cell (by assumption) hc3, below_cell (by assumption) hc4, below_cell (by assumption) hc5, below_cell (by assumption) hc6⟩) (fun hHeld => ?_)
                    clear hK K; (try simp only [Act.put]); (try simp only [List.setIfInBounds_toArray]); (try simp only [List.set_cons_succ]); (try simp only [List.set_cons_zero])
                    refine wpAnyH_takeD (i := 15) (v := ?_) 7 rfl rfl (by kernel_rfl) (by kernel_rfl) (by kernel_rfl) (fun _ _ _ _ _ h => h) (by rfl) (by assumption) ?_ ?_
                    rotate_left; focus (intro w hSw; (try dsimp only at hSw); go_simp; try (with_reducible rfl))
                    (try simp only [Act.put]); (try simp only [List.setIfInBounds_toArray]); (try simp only [List.set_cons_succ]); (try simp only [List.set_cons_zero])
                    refine wpAnyH_done (by kernel_rfl) ?_ _
                    have HN3 := Lib.hid (a3.since HAz.out.ext)
                    clear a0 a1 a2 a3 s1 hHeld
                    go_wp2
                    all_goals
                      go_roundw
                      case rel => exact ⟨j + 1, _, _, _, by go_num, by omega, rfl, by rw [HN.out, HI.out, lesnF_ins]; simpa [Lesn.cs] using HN3.out⟩
                      case measure => simp [intOf]; omega
                  · go_simp
                    obtain ⟨Z, hZ⟩ : ∃ Z, Z = World.alloc Y (Obj.cells #[.int .i64 x.i, .int .i64 x.c, .int .i64 x.t, .int .i64 x.r, .int .i64 x.d, .int .i64 x.b, .int .i64 x.m] 25) := ⟨_, rfl⟩
                    rw [← hZ]
                    have bZ : Below wz.heap.size wz Z := hZ ▸ ext_alloc bY _
                    have s1 := Side.new a0 #[.int .i64 x.i, .int .i64 x.c, .int .i64 x.t, .int .i64 x.r, .int .i64 x.d, .int .i64 x.b, .int .i64 x.m] 25 x.cs rfl rfl
                    rw [← hZ] at s1
                    have a0 := a0.alloc (Obj.cells #[.int .i64 x.i, .int .i64 x.c, .int .i64 x.t, .int .i64 x.r, .int .i64 x.d, .int .i64 x.b, .int .i64 x.m] 25)
                    rw [← hZ] at a0
                    clear hZ
                    refine hK.out _ _ (by exact ⟨below_cell (by assumption) hc0, below_cell (by assumption) hc1, below_cell (by assumption) hc2, below_cell (by assumption) hc3, below_cell (by assumption) hc4, below_cell (by assumption) hc5, below_cell (by assumption) hc6⟩) (fun hHeld => ?_)
                    clear hK K; (try simp only [Act.put]); (try simp only [List.setIfInBounds_toArray]); (try simp only [List.set_cons_succ]); (try simp only [List.set_cons_zero])
                    refine wpAnyH_ready (rs := [4]) (by kernel_rfl) (by simp) ?_
                    refine AllReadyH.cons rfl (fun K hK => ?_) AllReadyH.nil
                    refine appLesn_b_step rfl (.tmp 53) (.tmp 56) rfl rfl a0 rfl ((ROz.out.below bZ).frontLesn hk) (by omega) ?_
                    intro A1 c1 T a1 p1
                    have bT := a1.ext
                    simp only [Nat.zero_add, List.nil_append] at a1
                    have s1 := s1.pushed p1
                    refine hK.out _ _ (by exact ⟨below_cell (by assumption) hc0, below_cell (by assumption) hc1, below_cell (by assumption) hc2, below_cell (by assumption) hc3, below_cell (by assumption) hc4, below_cell (by assumption) hc5, below_cell (by assumption) hc6⟩) (fun hHeld => ?_)
                    clear hK K; (try simp only [Act.put]); (try simp only [List.setIfInBounds_toArray]); (try simp only [List.set_cons_succ]); (try simp only [List.set_cons_zero])
                    try simp only [Nat.zero_add]
                    refine wpAnyH_ready (rs := [10]) (by kernel_rfl) (by simp) ?_
                    refine AllReadyH.cons rfl (fun K hK => ?_) AllReadyH.nil
                    refine appLesn_b_step rfl (.tmp 57) (.tmp 62) rfl rfl a1 rfl s1.reads (by omega) ?_
                    intro A2 c2 V a2 p2
                    have bV := a2.ext
                    refine hK.out _ _ (by exact ⟨below_cell (by assumption) hc0, below_cell (by assumption) hc1, below_cell (by assumption) hc2, below_cell (by assumption) hc3, below_cell (by assumption) hc4, below_cell (by assumption) hc5, below_cell (by assumption) hc6⟩) (fun hHeld => ?_)
                    clear hK K; (try simp only [Act.put]); (try simp only [List.setIfInBounds_toArray]); (try simp only [List.set_cons_succ]); (try simp only [List.set_cons_zero])
                    refine wpAnyH_ready (rs := [14]) (by kernel_rfl) (by simp) ?_
                    refine AllReadyH.cons rfl (fun K hK => ?_) AllReadyH.nil
                    refine appLesn_b_step rfl (.tmp 63) (.tmp 66) rfl rfl a2 rfl (by first | exact ((ROz.out.below bV).cutLesn hk cap1) | exact ((ROz.out.below bV).cutSLesn hk cap1)) (by omega) ?_
                    intro A3 c3 U a3 p3
                    have bU := a3.ext
                    refine hK.out _ _ (by exact ⟨below_cell (by assumption) hc0, below_cell (by assumption) hc1, below_cell (by assumption) hc2, below_cell (by assumption) hc3, below_cell (by assumption) hc4, below_cell (by assumption) hc5, below_cell (by assumption) hc6⟩) (fun hHeld => ?_)
                    clear hK K; (try simp only [Act.put]); (try simp only [List.setIfInBounds_toArray]); (try simp only [List.set_cons_succ]); (try simp only [List.set_cons_zero])
                    refine wpAnyH_takeD (i := 15) (v := ?_) 7 rfl rfl (by kernel_rfl) (by kernel_rfl) (by kernel_rfl) (fun _ _ _ _ _ h => h) (by rfl) (by assumption) ?_ ?_
                    rotate_left; focus (intro w hSw; (try dsimp only at hSw); go_simp; try (with_reducible rfl))
                    (try simp only [Act.put]); (try simp only [List.setIfInBounds_toArray]); (try simp only [List.set_cons_succ]); (try simp only [List.set_cons_zero])
                    refine wpAnyH_done (by kernel_rfl) ?_ _
                    have HN3 := Lib.hid (a3.since HAz.out.ext)
                    clear a0 a1 a2 a3 s1 hHeld
                    go_wp2
                    all_goals
                      go_roundw
                      case rel => exact ⟨j + 1, _, _, _, by go_num, by omega, rfl, by rw [HN.out, HI.out, lesnF_ins]; simpa [Lesn.cs] using HN3.out⟩
                      case measure => simp [intOf]; omega
                · go_simp
                  obtain ⟨Y, hY⟩ : ∃ Y, Y = World.alloc X (Obj.cells #[.int .i64 x.i, .int .i64 x.c, .int .i64 x.t, .int .i64 x.r, .int .i64 x.d, .int .i64 x.b, .int .i64 x.m] 25) := ⟨_, rfl⟩
                  rw [← hY]
                  have bY : Below wz.heap.size wz Y := hY ▸ ext_alloc bX _
                  have s1 := Side.new0 X 7 #[.int .i64 x.i, .int .i64 x.c, .int .i64 x.t, .int .i64 x.r, .int .i64 x.d, .int .i64 x.b, .int .i64 x.m] 25 x.cs rfl rfl
                  rw [← hY] at s1
                  clear hY
                  refine hK.out _ _ (by exact ⟨below_cell (by assumption) hc0, below_cell (by assumption) hc1, below_cell (by assumption) hc2, below_cell (by assumption) hc3, below_cell (by assumption) hc4, below_cell (by assumption) hc5, below_cell (by assumption) hc6⟩) (fun hHeld => ?_)
                  clear hK K; (try simp only [Act.put]); (try simp only [List.setIfInBounds_toArray]); (try simp only [List.set_cons_succ]); (try simp only [List.set_cons_zero])
                  refine wpAnyH_ready (rs := [0]) (by kernel_rfl) (by simp) ?_
                  refine AllReadyH.cons rfl (fun K hK => ?_) AllReadyH.nil
                  go_simp
                  obtain ⟨Z, hZ⟩ : ∃ Z, Z = World.alloc Y (Obj.cells #[] 25) := ⟨_, rfl⟩
                  rw [← hZ]
                  have bZ : Below wz.heap.size wz Z := hZ ▸ ext_alloc bY _
                  have a0 : Acc wz Z 25 7 (some ⟨Y.heap.size, 0, none⟩) 0 0 [] := hZ ▸ Acc.empty bY
                  have s1 := s1.row (Obj.cells #[] 25)
                  rw [← hZ] at s1
                  clear hZ
                  refine hK.out _ _ (by exact ⟨below_cell (by assumption) hc0, below_cell (by assumption) hc1, below_cell (by assumption) hc2, below_cell (by assumption) hc3, below_cell (by assumption) hc4, below_cell (by assumption) hc5, below_cell (by assumption) hc6⟩) (fun hHeld => ?_)
                  clear hK K; (try simp only [Act.put]); (try simp only [List.setIfInBounds_toArray]); (try simp only [List.set_cons_succ]); (try simp only [List.set_cons_zero])
                  refine wpAnyH_ready (rs := [4]) (by kernel_rfl) (by simp) ?_
                  refine AllReadyH.cons rfl (fun K hK => ?_) AllReadyH.nil
                  refine appLesn_b_step rfl (.tmp 53) (.tmp 56) rfl rfl a0 rfl ((ROz.out.below bZ).frontLesn hk) (by omega) ?_
                  intro A1 c1 T a1 p1
                  have bT := a1.ext
                  simp only [Nat.zero_add, List.nil_append] at a1
                  have s1 := s1.pushed p1
                  refine hK.out _ _ (by exact ⟨below_cell (by assumption) hc0, below_cell (by assumption) hc1, below_cell (by assumption) hc2, below_cell (by assumption) hc3, below_cell (by assumption) hc4, below_cell (by assumption) hc5, below_cell (by assumption) hc6⟩) (fun hHeld => ?_)
                  clear hK K; (try simp only [Act.put]); (try simp only [List.setIfInBounds_toArray]); (try simp only [List.set_cons_succ]); (try simp only [List.set_cons_zero])
                  try simp only [Nat.zero_add]
                  refine wpAnyH_ready (rs := [10]) (by kernel_rfl) (by simp) ?_
                  refine AllReadyH.cons rfl (fun K hK => ?_) AllReadyH.nil
                  refine appLesn_b_step rfl (.tmp 57) (.tmp 62) rfl rfl a1 rfl s1.reads (by omega) ?_
                  intro A2 c2 V a2 p2
                  have bV := a2.ext
                  refine hK.out _ _ (by exact ⟨below_cell (by assumption) hc0, below_cell (by assumption) hc1, below_cell (by assumption) hc2, below_cell (by assumption) hc3, below_cell (by assumption) hc4, below_cell (by assumption) hc5, below_cell (by assumption) hc6⟩) (fun hHeld => ?_)
                  clear hK K; (try simp only [Act.put]); (try simp only [List.setIfInBounds_toArray]); (try simp only [List.set_cons_succ]); (try simp only [List.set_cons_zero])
                  refine wpAnyH_ready (rs := [14]) (by kernel_rfl) (by simp) ?_
                  refine AllReadyH.cons rfl (fun K hK => ?_) AllReadyH.nil
                  refine appLesn_b_step rfl (.tmp 63) (.tmp 66) rfl rfl a2 rfl (by first | exact ((ROz.out.below bV).cutLesn hk cap1) | exact ((ROz.out.below bV).cutSLesn hk cap1)) (by omega) ?_
                  intro A3 c3 U a3 p3
                  have bU := a3.ext
                  refine hK.out _ _ (by exact ⟨below_cell (by assumption) hc0, below_cell (by assumption) hc1, below_cell (by assumption) hc2, below_cell (by assumption) hc3, below_cell (by assumption) hc4, below_cell (by assumption) hc5, below_cell (by assumption) hc6⟩) (fun hHeld => ?_)
                  clear hK K; (try simp only [Act.put]); (try simp only [List.setIfInBounds_toArray]); (try simp only [List.set_cons_succ]); (try simp only [List.set_cons_zero])
                  refine wpAnyH_takeD (i := 15) (v := ?_) 7 rfl rfl (by kernel_rfl) (by kernel_rfl) (by kernel_rfl) (fun _ _ _ _ _ h => h) (by rfl) (by assumption) ?_ ?_
                  rotate_left; focus (intro w hSw; (try dsimp only at hSw); go_simp; try (with_reducible rfl))
                  (try simp only [Act.put]); (try simp only [List.setIfInBounds_toArray]); (try simp only [List.set_cons_succ]); (try simp only [List.set_cons_zero])
                  refine wpAnyH_done (by kernel_rfl) ?_ _
                  have HN3 := Lib.hid (a3.since HAz.out.ext)
                  clear a0 a1 a2 a3 s1 hHeld
                  go_wp2
                  all_goals
                    go_roundw
                    case rel => exact ⟨j + 1, _, _, _, by go_num, by omega, rfl, by rw [HN.out, HI.out, lesnF_ins]; simpa [Lesn.cs] using HN3.out⟩
                    case measure => simp [intOf]; omega
    · have hj' : j = n := by omega
      have e : xs.take j = xs := List.take_of_length_le (by have := HL.out; omega)
      rw [e] at HA
      clear e
      go_wp2
      go_ret
      exact ⟨_, _, _, rfl, HA.out⟩
set_option maxRecDepth 100000 in
set_option maxHeartbeats 8000000 in
theorem dayOfClass_any (A : Option Addr) (n c B : Nat) (xs : List Lesn) (cls dy : Int) (w : World) (h : Reads w B 7 A n ((lesnF xs).map (Value.int .i64))) (hB : B ≤ w.heap.size) (hn : n ≤ 1048576) :
    Calls Try.prog 76 #[.slice A n c, .int .i64 cls, .int .i64 dy] w fun e w' => GivesS 25 7 (lesnF (dayS cls dy xs)) w e w' := by
  have hl := h.lesnLen
  have H := Lib.hid h
  have HL := Lib.hid hl
  clear h hl
  go_enter Try.func76, Try.ntmps76
  go_wp2
  go_loopw [7, 13] (fun s i wr => ∃ (j : Nat) (A' : Option Addr) (n' c' : Nat), i = .int .i64 j ∧ j ≤ n ∧ s = .slice A' n' c' ∧ Acc w wr 25 7 A' n' c' (lesnF (dayS cls dy (xs.take j)))) (fun _ i _ => n - (intOf i).toNat)
  case atStart => exact ⟨0, none, 0, 0, rfl, by omega, rfl, Acc.nil (Below.refl _ _)⟩
  case round =>
    obtain ⟨wo, rfl⟩ : ∃ wo : World, wo = wr := ⟨_, rfl⟩
    obtain ⟨j, A', n', c', rfl, hj, rfl, hacc⟩ := hrel
    have hn' : n' ≤ j := by
      have h1 := hacc.reads.lesnLen
      have h2 := dayS_len cls dy (xs.take j)
      have h3 := List.length_take_le j xs
      omega
    have HA := Lib.hid hacc
    obtain ⟨cap1, cap2⟩ := hacc.cap
    unfold maxLen at cap2
    have RL := Lib.hid (H.out.below (hacc.ext.mono hB))
    clear hacc
    by_cases hlt : j < n
    · obtain ⟨b, o, x, hAx, hx, hc0, hc1, hc2, hc3, hc4, hc5, hc6⟩ := RL.out.lesn hlt
      subst hAx
      have HX := Lib.hid hx
      clear hx
      have HN := Lib.hid (dayS_next (cls := cls) (dy := dy) HX.out)
      generalize hD : dayS cls dy (xs.take j) = D at HA HN
      clear hD
      have HDL := Lib.hid (HA.out.reads.lesnLen)
      have j0 : (0 : Int) ≤ j := by omega
      have j1 : (j : Int) < n := by omega
      have HB0 := Lib.hid (HA.out.alloc (Obj.cells #[.int .i64 x.i, .int .i64 x.c, .int .i64 x.t, .int .i64 x.r, .int .i64 x.d, .int .i64 x.b, .int .i64 x.m] 25))
      cases h1 : (x.c == cls)
      · have HST := Lib.hid (dayStep_no (cls := cls) (dy := dy) (out := D) (x := x) (by simp [dayB', h1]))
        have h1' : (x.c != cls) = true := by simp only [bne, h1, Bool.not_false]
        clear h1
        go_wp2
        go_roundw
        case rel => exact ⟨j + 1, _, _, _, by go_num, by omega, rfl, by rw [HN.out, HST.out]; exact HB0.out⟩
        case measure => simp [intOf]; omega
      · have h1' : (x.c != cls) = false := by simp only [bne, h1, Bool.not_true]
        cases h2 : (x.d == dy)
        · have HST := Lib.hid (dayStep_no (cls := cls) (dy := dy) (out := D) (x := x) (by simp [dayB', h2]))
          have h2' : (x.d != dy) = true := by simp only [bne, h2, Bool.not_false]
          clear h1 h2
          go_wp2
          go_roundw
          case rel => exact ⟨j + 1, _, _, _, by go_num, by omega, rfl, by rw [HN.out, HST.out]; exact HB0.out⟩
          case measure => simp [intOf]; omega
        · have h2' : (x.d != dy) = false := by simp only [bne, h2, Bool.not_true]
          have HIN := Lib.hid (fun k => dayStep_yes (cls := cls) (dy := dy) (out := D) (x := x) (k := k) (by simp [dayB', h1, h2]))
          clear h1 h2
          go_wp2
          obtain ⟨W1, hW1⟩ : ∃ W1, W1 = wo.alloc (Obj.cells #[.int .i64 x.i, .int .i64 x.c, .int .i64 x.t, .int .i64 x.r, .int .i64 x.d, .int .i64 x.b, .int .i64 x.m] 25) := ⟨_, rfl⟩
          rw [← hW1]
          have hbx := box_cellsL wo 25 x
          rw [← hW1] at HB0 hbx
          clear hW1
          go_loopw [10] (fun q wq => ∃ k : Nat, q = .int .i64 k ∧ k ≤ n' ∧ posD x.b (D.map Lesn.b) n' = posD x.b (D.map Lesn.b) k ∧ Below W1.heap.size W1 wq) (fun q _ => (intOf q).toNat)
          case atStart => exact ⟨n', rfl, Nat.le_refl _, rfl, Below.refl _ _⟩
          case round =>
            obtain ⟨wq0, rfl⟩ : ∃ wq0 : World, wq0 = wr := ⟨_, rfl⟩
            obtain ⟨k, rfl, hk, hpos, hbq⟩ := hrel
            obtain ⟨xx0, xx1, xx2, xx3, xx4, xx5, xx6⟩ := hbx
            have kx0 := below_cell hbq xx0
            have kx1 := below_cell hbq xx1
            have kx2 := below_cell hbq xx2
            have kx3 := below_cell hbq xx3
            have kx4 := below_cell hbq xx4
            have kx5 := below_cell hbq xx5
            have kx6 := below_cell hbq xx6
            have HBQ := Lib.hid hbq
            have HAQ := Lib.hid (HB0.out.later hbq)
            have HNE := Lib.hid (show ∀ y, A' = some y → y.block ≠ wo.heap.size from fun y hy => Nat.ne_of_lt (HA.out.lt y hy))
            have HPOS := Lib.hid hpos
            clear hbq hpos xx0 xx1 xx2 xx3 xx4 xx5 xx6
            have k0 : (0 : Int) ≤ k := by omega
            have k1 : (k : Int) ≤ n' := by omega
            rcases Nat.eq_zero_or_pos k with h0 | h0
            · have HI := Lib.hid (HIN.out k (by rw [HDL.out, HPOS.out, h0]; rfl))
              have e0 : decide (0 < k) = false := by simp; omega
              clear h0
              go_wp2
              go_quiet (fail)
              generalize hwz : World.drewN wq0 _ = wq
              have hbz : Below wq0.heap.size wq0 wq := hwz ▸ below_drewN wq0 _
              have kx0 := below_cell hbz kx0
              have kx1 := below_cell hbz kx1
              have kx2 := below_cell hbz kx2
              have kx3 := below_cell hbz kx3
              have kx4 := below_cell hbz kx4
              have kx5 := below_cell hbz kx5
              have kx6 := below_cell hbz kx6
              have HAQ := Lib.hid (HAQ.out.later hbz)
              clear hwz hbz
              obtain ⟨yy, hyy⟩ := lesn_hole D [0, 0, 0, 0, 0, 0, 0] n' k HDL.out rfl hk
              have HYY := Lib.hid hyy
              clear hyy
              go_wp2_with (at_builtin; refine appLesn_b rfl (.tmp 44) (.tmp 46) rfl rfl (HAQ.out.alloc _) rfl (reads_new _ _ _ 7 [0, 0, 0, 0, 0, 0, 0] rfl rfl) (by omega) ?_; intro A3 c3 w3 hacc3 hp3)
              have HA3 := Lib.hid hacc3
              obtain ⟨g, cp, hv, hg1, hg2⟩ := hacc3.own.form (by omega)
              obtain rfl : A3 = some ⟨g, 0, none⟩ := by injection hv
              have hne := HNE.out
              have b0 := hp3.cell ((World.cell?_alloc_lt wq _ _ (World.block_lt_of_cell? _ _ kx0)).trans kx0) hne
              have b1 := hp3.cell ((World.cell?_alloc_lt wq _ _ (World.block_lt_of_cell? _ _ kx1)).trans kx1) hne
              have b2 := hp3.cell ((World.cell?_alloc_lt wq _ _ (World.block_lt_of_cell? _ _ kx2)).trans kx2) hne
              have b3 := hp3.cell ((World.cell?_alloc_lt wq _ _ (World.block_lt_of_cell? _ _ kx3)).trans kx3) hne
              have b4 := hp3.cell ((World.cell?_alloc_lt wq _ _ (World.block_lt_of_cell? _ _ kx4)).trans kx4) hne
              have b5 := hp3.cell ((World.cell?_alloc_lt wq _ _ (World.block_lt_of_cell? _ _ kx5)).trans kx5) hne
              have b6 := hp3.cell ((World.cell?_alloc_lt wq _ _ (World.block_lt_of_cell? _ _ kx6)).trans kx6) hne
              have hoff3 : g ≠ wo.heap.size := hp3.off (Nat.lt_of_lt_of_le (World.block_lt_of_cell? _ _ kx0) (by simp)) hne _ rfl
              have hcap := hacc3.cap
              unfold maxLen at hcap
              obtain ⟨cc1, cc2⟩ := hcap
              clear hacc3 hp3 hv hg1 hg2 kx0 kx1 kx2 kx3 kx4 kx5 kx6 hne
              have q3 : ((n' + 1 : Nat) : Int) ≤ c3 := by omega
              have q4 : IntKind.i64.wrap ((k : Int) + 1) = (k : Int) + 1 := IntWalk.i64_in _ ⟨by omega, by omega⟩
              have q5 : (0 : Int) ≤ (k : Int) + 1 := by omega
              have q6 : ((k : Int) + 1).toNat = k + 1 := by omega
              have q7 : ¬ c3 = k := by omega
              have q9 : (k : Int) ≤ (n' : Int) + 1 := by omega
              have q10 : (k : Int) + 1 ≤ (n' : Int) + 1 := by omega
              have q11 : (n' : Int) + 1 ≤ c3 := by omega
              go_still_tail 7, (by kernel_rfl)
              refine acc_copy (size := 7) rfl (.tmp 51) (.tmp 54) rfl Try.underlying33 (by kernel_rfl) HA3.out.drew _ _ _ _ _ _ ((k + 1) * 7) (k * 7) (n' - k) rfl rfl (by show min _ _ = _; omega) (fun hp => ⟨by rw [if_neg (by omega)], by first | rfl | exact if_neg (by omega)⟩) (by omega) (by omega) ?_
              intro w4 hacc4 hg4
              rw [HYY.out] at hacc4
              generalize (if c3 = k + 1 then some (⟨g, 0, none⟩ : Addr) else some ⟨g, (k + 1) * 7, none⟩) = sv
              have d0 := (pushed_self hg4).cell (w := w3.drew) b0 (fun y hy => by injection hy with hy; subst hy; exact hoff3)
              have d1 := (pushed_self hg4).cell (w := w3.drew) b1 (fun y hy => by injection hy with hy; subst hy; exact hoff3)
              have d2 := (pushed_self hg4).cell (w := w3.drew) b2 (fun y hy => by injection hy with hy; subst hy; exact hoff3)
              have d3 := (pushed_self hg4).cell (w := w3.drew) b3 (fun y hy => by injection hy with hy; subst hy; exact hoff3)
              have d4 := (pushed_self hg4).cell (w := w3.drew) b4 (fun y hy => by injection hy with hy; subst hy; exact hoff3)
              have d5 := (pushed_self hg4).cell (w := w3.drew) b5 (fun y hy => by injection hy with hy; subst hy; exact hoff3)
              have d6 := (pushed_self hg4).cell (w := w3.drew) b6 (fun y hy => by injection hy with hy; subst hy; exact hoff3)
              have hyat := lesnF_at (insAt_atLesn (k := k) (x := yy) (xs := D) (by rw [HDL.out]; exact hk))
              obtain ⟨hcell0, hfr0⟩ := hacc4.cellAt ((hyat).1)
              obtain ⟨hcell1, hfr1⟩ := hacc4.cellAt ((hyat).2.1)
              obtain ⟨hcell2, hfr2⟩ := hacc4.cellAt ((hyat).2.2.1)
              obtain ⟨hcell3, hfr3⟩ := hacc4.cellAt ((hyat).2.2.2.1)
              obtain ⟨hcell4, hfr4⟩ := hacc4.cellAt ((hyat).2.2.2.2.1)
              obtain ⟨hcell5, hfr5⟩ := hacc4.cellAt ((hyat).2.2.2.2.2.1)
              obtain ⟨hcell6, hfr6⟩ := hacc4.cellAt ((hyat).2.2.2.2.2.2)
              have s4 := (((((((hacc4.set (k * 7) x.i).set (k * 7 + 1) x.c).set (k * 7 + 2) x.t).set (k * 7 + 3) x.r).set (k * 7 + 4) x.d).set (k * 7 + 5) x.b).set (k * 7 + 6) x.m)
              rw [lesnF_set _ k x (by rw [insAt_len, HDL.out]; omega), insAt_setLesn (by rw [HDL.out]; exact hk)] at s4
              have HS := Lib.hid s4
              clear s4 hyat hacc4 hg4 b0 b1 b2 b3 b4 b5 b6 q3 q7 q11
              go_wp2
              go_roundw
              case rel => exact ⟨j + 1, _, _, _, by go_num, by omega, rfl, by rw [HN.out, HI.out]; exact HS.out⟩
              case measure => simp [intOf]; omega
            · obtain ⟨i, hi⟩ : ∃ i, k = i + 1 := ⟨k - 1, by omega⟩
              have e0 : decide (0 < k) = true := by simp; omega
              have i0 : (0 : Int) ≤ i := by omega
              have i1 : (i : Int) < n' := by omega
              have i2 : (k : Int) - 1 = (i : Int) := by omega
              have i3 : IntKind.i64.wrap (i : Int) = (i : Int) := IntWalk.i64_in _ ⟨by omega, by omega⟩
              obtain ⟨b', o', y, hAy, hy, hd0, hd1, hd2, hd3, hd4, hd5, hd6⟩ := HAQ.out.reads.lesn (show i < n' by omega)
              subst hAy
              have HY := Lib.hid (show (D.map Lesn.b)[i]? = some y.b by rw [List.getElem?_map, hy]; rfl)
              have HJ := Lib.hid hi
              clear hy hi h0
              by_cases hlt2 : x.b < y.b
              · have HPO := Lib.hid (posD_on HY.out hlt2)
                have e3 : decide (x.b < y.b) = true := by simp; omega
                go_wp2
                go_quiet (fail)
                go_wp2
                go_roundw
                case rel => exact ⟨i, by have := HJ.out; go_num, by omega, by rw [HPOS.out, HJ.out, HPO.out], ext_drewN HBQ.out _⟩
                case measure => simp [intOf]; have := HJ.out; omega
              · have HPO := Lib.hid (posD_stop HY.out hlt2)
                have e3 : decide (x.b < y.b) = false := by simp; omega
                have HI := Lib.hid (HIN.out k (by rw [HDL.out, HPOS.out, HJ.out, HPO.out]))
                go_wp2
                go_quiet (fail)
                generalize hwz : World.drewN wq0 _ = wq
                have hbz : Below wq0.heap.size wq0 wq := hwz ▸ below_drewN wq0 _
                have kx0 := below_cell hbz kx0
                have kx1 := below_cell hbz kx1
                have kx2 := below_cell hbz kx2
                have kx3 := below_cell hbz kx3
                have kx4 := below_cell hbz kx4
                have kx5 := below_cell hbz kx5
                have kx6 := below_cell hbz kx6
                have HAQ := Lib.hid (HAQ.out.later hbz)
                clear hwz hbz
                clear hd0 hd1 hd2 hd3 hd4 hd5 hd6
                obtain ⟨yy, hyy⟩ := lesn_hole D [0, 0, 0, 0, 0, 0, 0] n' k HDL.out rfl hk
                have HYY := Lib.hid hyy
                clear hyy
                go_wp2_with (at_builtin; refine appLesn_b rfl (.tmp 44) (.tmp 46) rfl rfl (HAQ.out.alloc _) rfl (reads_new _ _ _ 7 [0, 0, 0, 0, 0, 0, 0] rfl rfl) (by omega) ?_; intro A3 c3 w3 hacc3 hp3)
                have HA3 := Lib.hid hacc3
                obtain ⟨g, cp, hv, hg1, hg2⟩ := hacc3.own.form (by omega)
                obtain rfl : A3 = some ⟨g, 0, none⟩ := by injection hv
                have hne := HNE.out
                have b0 := hp3.cell ((World.cell?_alloc_lt wq _ _ (World.block_lt_of_cell? _ _ kx0)).trans kx0) hne
                have b1 := hp3.cell ((World.cell?_alloc_lt wq _ _ (World.block_lt_of_cell? _ _ kx1)).trans kx1) hne
                have b2 := hp3.cell ((World.cell?_alloc_lt wq _ _ (World.block_lt_of_cell? _ _ kx2)).trans kx2) hne
                have b3 := hp3.cell ((World.cell?_alloc_lt wq _ _ (World.block_lt_of_cell? _ _ kx3)).trans kx3) hne
                have b4 := hp3.cell ((World.cell?_alloc_lt wq _ _ (World.block_lt_of_cell? _ _ kx4)).trans kx4) hne
                have b5 := hp3.cell ((World.cell?_alloc_lt wq _ _ (World.block_lt_of_cell? _ _ kx5)).trans kx5) hne
                have b6 := hp3.cell ((World.cell?_alloc_lt wq _ _ (World.block_lt_of_cell? _ _ kx6)).trans kx6) hne
                have hoff3 : g ≠ wo.heap.size := hp3.off (Nat.lt_of_lt_of_le (World.block_lt_of_cell? _ _ kx0) (by simp)) hne _ rfl
                have hcap := hacc3.cap
                unfold maxLen at hcap
                obtain ⟨cc1, cc2⟩ := hcap
                clear hacc3 hp3 hv hg1 hg2 kx0 kx1 kx2 kx3 kx4 kx5 kx6 hne
                have q3 : ((n' + 1 : Nat) : Int) ≤ c3 := by omega
                have q4 : IntKind.i64.wrap ((k : Int) + 1) = (k : Int) + 1 := IntWalk.i64_in _ ⟨by omega, by omega⟩
                have q5 : (0 : Int) ≤ (k : Int) + 1 := by omega
                have q6 : ((k : Int) + 1).toNat = k + 1 := by omega
                have q7 : ¬ c3 = k := by omega
                have q9 : (k : Int) ≤ (n' : Int) + 1 := by omega
                have q10 : (k : Int) + 1 ≤ (n' : Int) + 1 := by omega
                have q11 : (n' : Int) + 1 ≤ c3 := by omega
                go_still_tail 7, (by kernel_rfl)
                refine acc_copy (size := 7) rfl (.tmp 51) (.tmp 54) rfl Try.underlying33 (by kernel_rfl) HA3.out.drew _ _ _ _ _ _ ((k + 1) * 7) (k * 7) (n' - k) rfl rfl (by show min _ _ = _; omega) (fun hp => ⟨by rw [if_neg (by omega)], by first | rfl | exact if_neg (by omega)⟩) (by omega) (by omega) ?_
                intro w4 hacc4 hg4
                rw [HYY.out] at hacc4
                generalize (if c3 = k + 1 then some (⟨g, 0, none⟩ : Addr) else some ⟨g, (k + 1) * 7, none⟩) = sv
                have d0 := (pushed_self hg4).cell (w := w3.drew) b0 (fun y hy => by injection hy with hy; subst hy; exact hoff3)
                have d1 := (pushed_self hg4).cell (w := w3.drew) b1 (fun y hy => by injection hy with hy; subst hy; exact hoff3)
                have d2 := (pushed_self hg4).cell (w := w3.drew) b2 (fun y hy => by injection hy with hy; subst hy; exact hoff3)
                have d3 := (pushed_self hg4).cell (w := w3.drew) b3 (fun y hy => by injection hy with hy; subst hy; exact hoff3)
                have d4 := (pushed_self hg4).cell (w := w3.drew) b4 (fun y hy => by injection hy with hy; subst hy; exact hoff3)
                have d5 := (pushed_self hg4).cell (w := w3.drew) b5 (fun y hy => by injection hy with hy; subst hy; exact hoff3)
                have d6 := (pushed_self hg4).cell (w := w3.drew) b6 (fun y hy => by injection hy with hy; subst hy; exact hoff3)
                have hyat := lesnF_at (insAt_atLesn (k := k) (x := yy) (xs := D) (by rw [HDL.out]; exact hk))
                obtain ⟨hcell0, hfr0⟩ := hacc4.cellAt ((hyat).1)
                obtain ⟨hcell1, hfr1⟩ := hacc4.cellAt ((hyat).2.1)
                obtain ⟨hcell2, hfr2⟩ := hacc4.cellAt ((hyat).2.2.1)
                obtain ⟨hcell3, hfr3⟩ := hacc4.cellAt ((hyat).2.2.2.1)
                obtain ⟨hcell4, hfr4⟩ := hacc4.cellAt ((hyat).2.2.2.2.1)
                obtain ⟨hcell5, hfr5⟩ := hacc4.cellAt ((hyat).2.2.2.2.2.1)
                obtain ⟨hcell6, hfr6⟩ := hacc4.cellAt ((hyat).2.2.2.2.2.2)
                have s4 := (((((((hacc4.set (k * 7) x.i).set (k * 7 + 1) x.c).set (k * 7 + 2) x.t).set (k * 7 + 3) x.r).set (k * 7 + 4) x.d).set (k * 7 + 5) x.b).set (k * 7 + 6) x.m)
                rw [lesnF_set _ k x (by rw [insAt_len, HDL.out]; omega), insAt_setLesn (by rw [HDL.out]; exact hk)] at s4
                have HS := Lib.hid s4
                clear s4 hyat hacc4 hg4 b0 b1 b2 b3 b4 b5 b6 q3 q7 q11
                go_wp2
                go_roundw
                case rel => exact ⟨j + 1, _, _, _, by go_num, by omega, rfl, by rw [HN.out, HI.out]; exact HS.out⟩
                case measure => simp [intOf]; omega
    · have hj' : j = n := by omega
      have e : xs.take j = xs := List.take_of_length_le (by have := HL.out; omega)
      rw [e] at HA
      clear e
      go_wp2
      go_ret
      exact ⟨_, _, _, rfl, HA.out⟩
end Go.Proofs.Ytnndhgeddfghcaa
