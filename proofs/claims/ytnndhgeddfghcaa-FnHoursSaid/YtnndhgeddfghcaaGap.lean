/- The longest gap between lessons of a class. No condition. -/
import Derived.Test.YtnndhgeddfghcaaDayL
namespace Go.Proofs.Ytnndhgeddfghcaa
open Go.RowKit

def gapAt (ds : List Lesn) (k : Nat) : Int := match ds[k]?, ds[k + 1]? with
  | some x, some y => y.b - (x.b + x.m)
  | _, _ => 0
def gapK (m : Int) (ds : List Lesn) : Nat → Int
  | 0 => m
  | k + 1 => max (gapK m ds k) (gapAt ds k)
def gapDays (cls : Int) (xs : List Lesn) : Nat → Int
  | 0 => 0
  | d + 1 => gapK (gapDays cls xs d) (dayS cls (d : Int) xs) ((dayS cls (d : Int) xs).length - 1)
def gapT (cls : Int) (xs : List Lesn) : Value := if lessB xs = true ∧ inB cls 1 9 = true then .tuple #[.int .i64 (gapDays cls xs 7), .bool true] else .tuple #[.int .i64 0, .bool false]
theorem gapT_form (cls : Int) (xs : List Lesn) : ∃ r ok, gapT cls xs = .tuple #[.int .i64 r, .bool ok] := by
  unfold gapT; split <;> exact ⟨_, _, rfl⟩
theorem gapAt_at {ds : List Lesn} {k : Nat} {x y : Lesn} (hx : ds[k]? = some x) (hy : ds[k + 1]? = some y) : gapAt ds k = y.b - (x.b + x.m) := by simp [gapAt, hx, hy]
def AllL (ds : List Lesn) : Prop := ∀ x ∈ ds, x.ok = true
theorem allL_at {ds : List Lesn} (h : AllL ds) {k : Nat} {x : Lesn} (hx : ds[k]? = some x) : x.ok = true := h x (List.mem_of_getElem? hx)
theorem less_all {xs : List Lesn} (h : lessB xs = true) : AllL xs := fun x hx => by
  obtain ⟨k, hk⟩ := List.mem_iff_getElem?.1 hx
  exact less_ok h hk
theorem day_all {cls dy : Int} {xs : List Lesn} (h : AllL xs) : AllL (dayS cls dy xs) := fun x hx => h x (dayS_sub x hx)
theorem gapAt_bd {ds : List Lesn} (h : AllL ds) (k : Nat) : -1000 ≤ gapAt ds k ∧ gapAt ds k ≤ 1000 := by
  unfold gapAt
  split
  · rename_i x y hx hy
    obtain ⟨_, _, _, _, _, _, _, _, _, _, a, b, c, d⟩ := les_parts (allL_at h hx)
    obtain ⟨_, _, _, _, _, _, _, _, _, _, e, f, _, _⟩ := les_parts (allL_at h hy)
    omega
  · omega
theorem gapK_bd {ds : List Lesn} {m : Int} (h : AllL ds) (h0 : 0 ≤ m) (h1 : m ≤ 1000) : ∀ k, 0 ≤ gapK m ds k ∧ gapK m ds k ≤ 1000
  | 0 => ⟨h0, h1⟩
  | k + 1 => by
    have ih := gapK_bd h h0 h1 k
    have hb := gapAt_bd h k
    rw [gapK]
    omega
theorem gapDays_bd {cls : Int} {xs : List Lesn} (h : AllL xs) : ∀ d, 0 ≤ gapDays cls xs d ∧ gapDays cls xs d ≤ 1000
  | 0 => by simp [gapDays]
  | d + 1 => by
    have ih := gapDays_bd (cls := cls) h d
    rw [gapDays]
    exact gapK_bd (day_all h) ih.1 ih.2 _
theorem endV_ok {x : Lesn} (h : x.ok = true) : endV x = x.b + x.m := by
  obtain ⟨_, _, _, _, _, _, _, _, _, _, a, b, c, d⟩ := les_parts h
  exact IntWalk.wrap64_in _ ⟨by omega, by omega⟩
theorem l1MostL_v (a b : Int) {c : Int} (hc : max a b = c) (w : World) : Calls Try.prog 75 #[.int .i64 a, .int .i64 b] w fun e w' => e = .returned (.int .i64 c) ∧ w = w' := hc ▸ l1Most_any a b w
set_option maxHeartbeats 8000000 in
theorem sLongestGap_any (A : Option Addr) (n c B : Nat) (xs : List Lesn) (cls : Int) (w : World) (h : Reads w B 7 A n ((lesnF xs).map (Value.int .i64))) (hB : B ≤ w.heap.size) (hn : n ≤ 1048576) :
    Calls Try.prog 25 #[.slice A n c, .int .i64 cls] w fun e w' => e = .returned (gapT cls xs) ∧ Below w.heap.size w w' := by
  have hl := h.lesnLen
  have H := Lib.hid h
  have HL := Lib.hid hl
  clear h hl
  cases ha : lessB xs
  · rw [show gapT cls xs = .tuple #[.int .i64 0, .bool false] from by simp [gapT, ha]]
    go_enter Try.func25, Try.ntmps25
    go_wp2_with fail
    refine (l11Good_any A n c B xs _ H.out hB hn).mono ?_
    rintro e w2 ⟨rfl, hb2⟩
    rw [ha]
    have HB2 := Lib.hid hb2
    clear hb2
    go_wp2
    go_ret2
    exact ⟨rfl, HB2.out⟩
  · cases h1 : inB cls 1 9
    · rw [show gapT cls xs = .tuple #[.int .i64 0, .bool false] from by simp [gapT, h1]]
      go_enter Try.func25, Try.ntmps25
      go_wp2_with fail
      refine (l11Good_any A n c B xs _ H.out hB hn).mono ?_
      rintro e w2 ⟨rfl, hb2⟩
      rw [ha]
      have HB2 := Lib.hid hb2
      clear hb2
      go_wp2_with (go_at_call 73; refine (l11Class_any _ _).mono ?_; rintro e w' ⟨rfl, rfl⟩; rw [h1])
      go_ret2
      exact ⟨rfl, HB2.out⟩
    · rw [show gapT cls xs = .tuple #[.int .i64 (gapDays cls xs 7), .bool true] from by simp [gapT, ha, h1]]
      have HAL := Lib.hid (less_all ha)
      go_enter Try.func25, Try.ntmps25
      go_wp2_with fail
      refine (l11Good_any A n c B xs _ H.out hB hn).mono ?_
      rintro e w2 ⟨rfl, hb2⟩
      rw [ha]
      have HB2 := Lib.hid hb2
      clear hb2
      go_wp2_with (go_at_call 73; refine (l11Class_any _ _).mono ?_; rintro e w' ⟨rfl, rfl⟩; rw [h1])
      clear ha h1
      go_loopw [6, 7] (fun g d wr => ∃ k : Nat, d = .int .i64 k ∧ k ≤ 7 ∧ g = .int .i64 (gapDays cls xs k) ∧ Below w.heap.size w wr) (fun _ d _ => (8 - intOf d).toNat)
      case atStart => exact ⟨0, rfl, by omega, rfl, HB2.out⟩
      case round =>
        obtain ⟨wo, rfl⟩ : ∃ wo : World, wo = wr := ⟨_, rfl⟩
        obtain ⟨d, rfl, hd, rfl, hb⟩ := hrel
        have HB := Lib.hid hb
        clear hb
        by_cases hlt : d < 7
        · have d0 : (0 : Int) ≤ d := by omega
          have d7 : (d : Int) < 7 := by omega
          have d6 : (d : Int) ≤ 6 := by omega
          have HDD := Lib.hid hlt
          have HGN := Lib.hid (show gapDays cls xs (d + 1) = gapK (gapDays cls xs d) (dayS cls (d : Int) xs) ((dayS cls (d : Int) xs).length - 1) from rfl)
          obtain ⟨gd0, gd1⟩ := gapDays_bd (cls := cls) HAL.out d
          generalize gapDays cls xs d = gm at HGN gd0 gd1 ⊢
          clear hlt
          go_wp2_with fail
          refine (l11Day_any A n c B xs cls (d : Int) _ (H.out.below (HB.out.mono hB)) (Nat.le_trans hB HB.out.size) hn).mono ?_
          rintro e w3 ⟨R, m, cr, rfl, hr⟩
          have HR := Lib.hid hr.reads
          have HDL := Lib.hid hr.reads.lesnLen
          have HAD := Lib.hid (day_all (cls := cls) (dy := (d : Int)) HAL.out)
          have hm : m ≤ n := by
            have h2 := hr.reads.lesnLen
            have h3 := dayS_len cls (d : Int) xs
            have h4 := HL.out
            omega
          have HB3 := Lib.hid (ext_trans HB.out hr.ext)
          generalize dayS cls (d : Int) xs = D at HR HDL HAD HGN
          clear hr
          go_wp2
          go_loopw [6, 9] (fun g i wi => ∃ k : Nat, i = .int .i64 ((k : Int) + 1) ∧ (k + 1 ≤ m ∨ k = 0) ∧ g = .int .i64 (gapK gm D k) ∧ Below w3.heap.size w3 wi) (fun _ i _ => (m + 1 - (intOf i).toNat))
          case atStart => exact ⟨0, rfl, .inr rfl, rfl, Below.refl _ _⟩
          case round =>
            obtain ⟨wi, rfl⟩ : ∃ wi : World, wi = wr := ⟨_, rfl⟩
            obtain ⟨k, rfl, hk, rfl, hb⟩ := hrel
            have HBI := Lib.hid hb
            have RI := Lib.hid (HR.out.below hb)
            clear hb
            by_cases hlt : k + 1 < m
            · obtain ⟨b, o, x, hAx, hx, hc0, hc1, hc2, hc3, hc4, hc5, hc6⟩ := RI.out.lesn (show k < m by omega)
              subst hAx
              obtain ⟨b2, o2, y, hAy, hy, hd0, hd1, hd2, hd3, hd4, hd5, hd6⟩ := RI.out.lesn hlt
              injection hAy with hAy
              injection hAy with e1 e2
              subst e1 e2
              have HXX := Lib.hid hx
              have hmx0 : max (gapK gm D k) (y.b - (x.b + x.m)) = gapK gm D (k + 1) := by rw [gapK, gapAt_at hx hy]
              obtain ⟨_, _, _, _, _, _, _, _, _, _, xa, xb, xc, xd⟩ := les_parts (allL_at HAD.out hx)
              obtain ⟨_, _, _, _, _, _, _, _, _, _, ya, yb, yc, yd⟩ := les_parts (allL_at HAD.out hy)
              obtain ⟨ga, gb⟩ := gapK_bd HAD.out gd0 gd1 k
              generalize gapK gm D k = g0 at hmx0 ga gb ⊢
              generalize hg1 : gapK gm D (k + 1) = g1 at hmx0
              have HG1 := Lib.hid hg1
              clear hg1
              have k0 : (0 : Int) ≤ k := by omega
              have k1 : (k : Int) < m := by omega
              have k2 : (k : Int) + 1 < m := by omega
              have k7 : (0 : Int) ≤ (k : Int) + 1 := by omega
              have k3 : IntKind.i64.wrap ((k : Int) + 1 - 1) = (k : Int) := by rw [IntWalk.i64_in _ ⟨by omega, by omega⟩]; omega
              have k4 : (k : Int) + 1 - 1 = (k : Int) := by omega
              have k5 : ((k : Int) + 1).toNat = k + 1 := by omega
              have v1 : IntKind.i64.wrap (y.b - x.b) = y.b - x.b := IntWalk.i64_in _ ⟨by omega, by omega⟩
              have v2 : IntKind.i64.wrap (y.b - x.b - x.m) = y.b - x.b - x.m := IntWalk.i64_in _ ⟨by omega, by omega⟩
              have k6 : IntKind.i64.wrap (k : Int) = (k : Int) := IntWalk.i64_in _ ⟨by omega, by omega⟩
              have hmx : max g0 (y.b - x.b - x.m) = g1 := by rw [show y.b - x.b - x.m = y.b - (x.b + x.m) from by omega]; exact hmx0
              have HK := Lib.hid hlt
              clear hx hy hk hlt k3
              go_wp2
              have hself : Below wi.heap.size wi wi.drew := ext_drew (Below.refl _ _)
              refine wp_region_held_drew (S := (fun w' => w'.cell? ⟨b, o + k * 7, none⟩ = some (.int .i64 x.i) ∧ w'.cell? ⟨b, o + k * 7 + 1, none⟩ = some (.int .i64 x.c) ∧ w'.cell? ⟨b, o + k * 7 + 2, none⟩ = some (.int .i64 x.t) ∧ w'.cell? ⟨b, o + k * 7 + 3, none⟩ = some (.int .i64 x.r) ∧ w'.cell? ⟨b, o + k * 7 + 4, none⟩ = some (.int .i64 x.d) ∧ w'.cell? ⟨b, o + k * 7 + 5, none⟩ = some (.int .i64 x.b) ∧ w'.cell? ⟨b, o + k * 7 + 6, none⟩ = some (.int .i64 x.m) ∧ w'.cell? ⟨b, o + (k + 1) * 7, none⟩ = some (.int .i64 y.i) ∧ w'.cell? ⟨b, o + (k + 1) * 7 + 1, none⟩ = some (.int .i64 y.c) ∧ w'.cell? ⟨b, o + (k + 1) * 7 + 2, none⟩ = some (.int .i64 y.t) ∧ w'.cell? ⟨b, o + (k + 1) * 7 + 3, none⟩ = some (.int .i64 y.r) ∧ w'.cell? ⟨b, o + (k + 1) * 7 + 4, none⟩ = some (.int .i64 y.d) ∧ w'.cell? ⟨b, o + (k + 1) * 7 + 5, none⟩ = some (.int .i64 y.b) ∧ w'.cell? ⟨b, o + (k + 1) * 7 + 6, none⟩ = some (.int .i64 y.m) ∧ Below wi.heap.size wi w')) (by kernel_rfl) ?_ (fun hHeld => ?_)
              · (try dsimp only); (first | (go_keep; done) | ((try go_split_ands); (repeat' apply And.intro); all_goals first | exact ext_drew (Below.refl _ _) | exact below_cell (by assumption) (by assumption) | (refine ext_trans ?_ (by assumption); assumption) | assumption))
              refine wpAnyH_takeD (i := 0) (v := ?_) 32 rfl rfl (by kernel_rfl) (by kernel_rfl) (by kernel_rfl) (fun _ _ _ _ _ h => h) (by rfl) (by assumption) ?_ ?_
              rotate_left; focus (intro w hSw; (try dsimp only at hSw); go_simp; try (with_reducible rfl))
              try simp only [Act.put, List.setIfInBounds_toArray, List.set_cons_zero, List.set_cons_succ]
              refine wpAnyH_takeD (i := 1) (v := ?_) 33 rfl rfl (by kernel_rfl) (by kernel_rfl) (by kernel_rfl) (fun _ _ _ _ _ h => h) (by rfl) (by assumption) ?_ ?_
              rotate_left; focus (intro w hSw; (try dsimp only at hSw); go_simp; try (with_reducible rfl))
              try simp only [Act.put, List.setIfInBounds_toArray, List.set_cons_zero, List.set_cons_succ]
              refine wpAnyH_takeD (i := 2) (v := ?_) 34 rfl rfl (by kernel_rfl) (by kernel_rfl) (by kernel_rfl) (fun _ _ _ _ _ h => h) (by rfl) (by assumption) ?_ ?_
              rotate_left; focus (intro w hSw; (try dsimp only at hSw); go_simp; try (with_reducible rfl))
              try simp only [Act.put, List.setIfInBounds_toArray, List.set_cons_zero, List.set_cons_succ]
              refine wpAnyH_takeD (i := 3) (v := ?_) 35 rfl rfl (by kernel_rfl) (by kernel_rfl) (by kernel_rfl) (fun _ _ _ _ _ h => h) (by rfl) (by assumption) ?_ ?_
              rotate_left; focus (intro w hSw; (try dsimp only at hSw); go_simp; try (with_reducible rfl))
              try simp only [Act.put, List.setIfInBounds_toArray, List.set_cons_zero, List.set_cons_succ]
              refine wpAnyH_takeD (i := 4) (v := ?_) 36 rfl rfl (by kernel_rfl) (by kernel_rfl) (by kernel_rfl) (fun _ _ _ _ _ h => h) (by rfl) (by assumption) ?_ ?_
              rotate_left; focus (intro w hSw; (try dsimp only at hSw); go_simp; try (with_reducible rfl))
              try simp only [Act.put, List.setIfInBounds_toArray, List.set_cons_zero, List.set_cons_succ]
              refine wpAnyH_takeD (i := 5) (v := ?_) 37 rfl rfl (by kernel_rfl) (by kernel_rfl) (by kernel_rfl) (fun _ _ _ _ _ h => h) (by rfl) (by assumption) ?_ ?_
              rotate_left; focus (intro w hSw; (try dsimp only at hSw); go_simp; try (with_reducible rfl))
              try simp only [Act.put, List.setIfInBounds_toArray, List.set_cons_zero, List.set_cons_succ]
              refine wpAnyH_takeD (i := 6) (v := ?_) 38 rfl rfl (by kernel_rfl) (by kernel_rfl) (by kernel_rfl) (fun _ _ _ _ _ h => h) (by rfl) (by assumption) ?_ ?_
              rotate_left; focus (intro w hSw; (try dsimp only at hSw); go_simp; try (with_reducible rfl))
              try simp only [Act.put, List.setIfInBounds_toArray, List.set_cons_zero, List.set_cons_succ]
              refine wpAnyH_takeD (i := 7) (v := ?_) 39 rfl rfl (by kernel_rfl) (by kernel_rfl) (by kernel_rfl) (fun _ _ _ _ _ h => h) (by rfl) (by assumption) ?_ ?_
              rotate_left; focus (intro w hSw; (try dsimp only at hSw); go_simp; try (with_reducible rfl))
              try simp only [Act.put, List.setIfInBounds_toArray, List.set_cons_zero, List.set_cons_succ]
              refine wpAnyH_takeD (i := 8) (v := ?_) 40 rfl rfl (by kernel_rfl) (by kernel_rfl) (by kernel_rfl) (fun _ _ _ _ _ h => h) (by rfl) (by assumption) ?_ ?_
              rotate_left; focus (intro w hSw; (try dsimp only at hSw); go_simp; try (with_reducible rfl))
              try simp only [Act.put, List.setIfInBounds_toArray, List.set_cons_zero, List.set_cons_succ]
              refine wpAnyH_takeD (i := 9) (v := ?_) 41 rfl rfl (by kernel_rfl) (by kernel_rfl) (by kernel_rfl) (fun _ _ _ _ _ h => h) (by rfl) (by assumption) ?_ ?_
              rotate_left; focus (intro w hSw; (try dsimp only at hSw); go_simp; try (with_reducible rfl))
              try simp only [Act.put, List.setIfInBounds_toArray, List.set_cons_zero, List.set_cons_succ]
              refine wpAnyH_takeD (i := 10) (v := ?_) 42 rfl rfl (by kernel_rfl) (by kernel_rfl) (by kernel_rfl) (fun _ _ _ _ _ h => h) (by rfl) (by assumption) ?_ ?_
              rotate_left; focus (intro w hSw; (try dsimp only at hSw); go_simp; try (with_reducible rfl))
              try simp only [Act.put, List.setIfInBounds_toArray, List.set_cons_zero, List.set_cons_succ]
              refine wpAnyH_takeD (i := 11) (v := ?_) 43 rfl rfl (by kernel_rfl) (by kernel_rfl) (by kernel_rfl) (fun _ _ _ _ _ h => h) (by rfl) (by assumption) ?_ ?_
              rotate_left; focus (intro w hSw; (try dsimp only at hSw); go_simp; try (with_reducible rfl))
              try simp only [Act.put, List.setIfInBounds_toArray, List.set_cons_zero, List.set_cons_succ]
              refine wpAnyH_takeD (i := 12) (v := ?_) 44 rfl rfl (by kernel_rfl) (by kernel_rfl) (by kernel_rfl) (fun _ _ _ _ _ h => h) (by rfl) (by assumption) ?_ ?_
              rotate_left; focus (intro w hSw; (try dsimp only at hSw); go_simp; try (with_reducible rfl))
              try simp only [Act.put, List.setIfInBounds_toArray, List.set_cons_zero, List.set_cons_succ]
              refine wpAnyH_takeD (i := 13) (v := ?_) 45 rfl rfl (by kernel_rfl) (by kernel_rfl) (by kernel_rfl) (fun _ _ _ _ _ h => h) (by rfl) (by assumption) ?_ ?_
              rotate_left; focus (intro w hSw; (try dsimp only at hSw); go_simp; try (with_reducible rfl))
              try simp only [Act.put, List.setIfInBounds_toArray, List.set_cons_zero, List.set_cons_succ]
              refine wpAnyH_takeD (i := 14) (v := ?_) 46 rfl rfl (by kernel_rfl) (by kernel_rfl) (by kernel_rfl) (fun _ _ _ _ _ h => h) (by rfl) (by assumption) ?_ ?_
              rotate_left; focus (intro w hSw; (try dsimp only at hSw); go_simp; try (with_reducible rfl))
              try simp only [Act.put, List.setIfInBounds_toArray, List.set_cons_zero, List.set_cons_succ]
              refine wpAnyH_takeD (i := 15) (v := ?_) 47 rfl rfl (by kernel_rfl) (by kernel_rfl) (by kernel_rfl) (fun _ _ _ _ _ h => h) (by rfl) (by assumption) ?_ ?_
              rotate_left; focus (intro w hSw; (try dsimp only at hSw); go_simp; try (with_reducible rfl))
              try simp only [Act.put, List.setIfInBounds_toArray, List.set_cons_zero, List.set_cons_succ]
              refine wpAnyH_takeD (i := 16) (v := ?_) 48 rfl rfl (by kernel_rfl) (by kernel_rfl) (by kernel_rfl) (fun _ _ _ _ _ h => h) (by rfl) (by assumption) ?_ ?_
              rotate_left; focus (intro w hSw; (try dsimp only at hSw); go_simp; try (with_reducible rfl))
              try simp only [Act.put, List.setIfInBounds_toArray, List.set_cons_zero, List.set_cons_succ]
              refine wpAnyH_takeD (i := 17) (v := ?_) 49 rfl rfl (by kernel_rfl) (by kernel_rfl) (by kernel_rfl) (fun _ _ _ _ _ h => h) (by rfl) (by assumption) ?_ ?_
              rotate_left; focus (intro w hSw; (try dsimp only at hSw); go_simp; try (with_reducible rfl))
              try simp only [Act.put, List.setIfInBounds_toArray, List.set_cons_zero, List.set_cons_succ]
              refine wpAnyH_takeD (i := 18) (v := ?_) 50 rfl rfl (by kernel_rfl) (by kernel_rfl) (by kernel_rfl) (fun _ _ _ _ _ h => h) (by rfl) (by assumption) ?_ ?_
              rotate_left; focus (intro w hSw; (try dsimp only at hSw); go_simp; try (with_reducible rfl))
              try simp only [Act.put, List.setIfInBounds_toArray, List.set_cons_zero, List.set_cons_succ]
              refine wpAnyH_takeD (i := 19) (v := ?_) 51 rfl rfl (by kernel_rfl) (by kernel_rfl) (by kernel_rfl) (fun _ _ _ _ _ h => h) (by rfl) (by assumption) ?_ ?_
              rotate_left; focus (intro w hSw; (try dsimp only at hSw); go_simp; try (with_reducible rfl))
              try simp only [Act.put, List.setIfInBounds_toArray, List.set_cons_zero, List.set_cons_succ]
              refine wpAnyH_ready (rs := [20]) (by kernel_rfl) (by simp) ?_
              refine AllReadyH.cons rfl (fun K hK => ?_) AllReadyH.nil
              go_simp; (go_at_call 75; refine (l1MostL_v _ _ hmx _).mono ?_; rintro e w' ⟨rfl, rfl⟩); (try dsimp only)
              refine hK.out _ _ ?_ (fun hHeld => ?_)
              focus ((try dsimp only); (first | (go_keep; done) | ((try go_split_ands); (repeat' apply And.intro); all_goals first | exact ext_drew (Below.refl _ _) | exact below_cell (by assumption) (by assumption) | (refine ext_trans ?_ (by assumption); assumption) | assumption)))
              clear hK K; try simp only [Act.put, List.setIfInBounds_toArray, List.set_cons_zero, List.set_cons_succ]
              refine wpAnyH_takeD (i := 21) (v := ?_) 6 rfl rfl (by kernel_rfl) (by kernel_rfl) (by kernel_rfl) (fun _ _ _ _ _ h => h) (by rfl) (by assumption) ?_ ?_
              rotate_left; focus (intro w hSw; (try dsimp only at hSw); go_simp; try (with_reducible rfl))
              try simp only [Act.put, List.setIfInBounds_toArray, List.set_cons_zero, List.set_cons_succ]
              refine wpAnyH_done (by kernel_rfl) ?_ _
              have HBB := Lib.hid (ext_trans HBI.out hHeld.2.2.2.2.2.2.2.2.2.2.2.2.2.2)
              clear hHeld
              have HMX := Lib.hid hmx
              clear hmx hmx0
              go_wp2
              go_roundw
              case rel => exact ⟨k + 1, by go_num, .inl (Nat.le_of_lt_succ (Nat.succ_lt_succ HK.out)), by rw [HG1.out], HBB.out⟩
              case measure => simp [intOf]; omega
            · have HE := Lib.hid (show gapDays cls xs (d + 1) = gapK gm D k by
                rw [HGN.out, HDL.out]
                congr 1
                omega)
              have hge : (m : Int) ≤ (k : Int) + 1 := by omega
              clear hk
              go_wp2
              go_roundw
              case rel => exact ⟨d + 1, by go_num, HDD.out, by rw [HE.out], ext_trans HB3.out HBI.out⟩
              case measure => simp [intOf]; omega
        · have hd' : d = 7 := by omega
          subst hd'
          go_wp2
          go_ret2
          exact ⟨rfl, HB.out⟩
set_option maxHeartbeats 8000000 in
theorem iLongestGap_any (A : Option Addr) (n c B : Nat) (xs : List Lesn) (cls : Int) (w : World) (h : Reads w B 7 A n ((lesnF xs).map (Value.int .i64))) (hB : B ≤ w.heap.size) (hn : n ≤ 1048576) :
    Calls Try.prog 26 #[.slice A n c, .int .i64 cls] w fun e w' => e = .returned (gapT cls xs) ∧ Below w.heap.size w w' := by
  have hl := h.lesnLen
  have H := Lib.hid h
  have HL := Lib.hid hl
  clear h hl
  cases ha : lessB xs
  · rw [show gapT cls xs = .tuple #[.int .i64 0, .bool false] from by simp [gapT, ha]]
    go_enter Try.func26, Try.ntmps26
    go_wp2_with fail
    refine (iAreLessons_any A n c B xs _ H.out hB hn).mono ?_
    rintro e w2 ⟨rfl, hb2⟩
    rw [ha]
    have HB2 := Lib.hid hb2
    clear hb2
    go_wp2
    go_ret2
    exact ⟨rfl, HB2.out⟩
  · cases h1 : inB cls 1 9
    · rw [show gapT cls xs = .tuple #[.int .i64 0, .bool false] from by simp [gapT, h1]]
      go_enter Try.func26, Try.ntmps26
      go_wp2_with fail
      refine (iAreLessons_any A n c B xs _ H.out hB hn).mono ?_
      rintro e w2 ⟨rfl, hb2⟩
      rw [ha]
      have HB2 := Lib.hid hb2
      clear hb2
      go_wp2_with (go_at_call 63; refine (isClass_any _ _).mono ?_; rintro e w' ⟨rfl, rfl⟩; rw [h1])
      go_ret2
      exact ⟨rfl, HB2.out⟩
    · rw [show gapT cls xs = .tuple #[.int .i64 (gapDays cls xs 7), .bool true] from by simp [gapT, ha, h1]]
      have HAL := Lib.hid (less_all ha)
      go_enter Try.func26, Try.ntmps26
      go_wp2_with fail
      refine (iAreLessons_any A n c B xs _ H.out hB hn).mono ?_
      rintro e w2 ⟨rfl, hb2⟩
      rw [ha]
      have HB2 := Lib.hid hb2
      clear hb2
      go_wp2_with (go_at_call 63; refine (isClass_any _ _).mono ?_; rintro e w' ⟨rfl, rfl⟩; rw [h1])
      clear ha h1
      go_loopw [6, 7] (fun g d wr => ∃ k : Nat, d = .int .i64 k ∧ k ≤ 7 ∧ g = .int .i64 (gapDays cls xs k) ∧ Below w.heap.size w wr) (fun _ d _ => (8 - intOf d).toNat)
      case atStart => exact ⟨0, rfl, by omega, rfl, HB2.out⟩
      case round =>
        obtain ⟨wo, rfl⟩ : ∃ wo : World, wo = wr := ⟨_, rfl⟩
        obtain ⟨d, rfl, hd, rfl, hb⟩ := hrel
        have HB := Lib.hid hb
        clear hb
        by_cases hlt : d < 7
        · have d0 : (0 : Int) ≤ d := by omega
          have d7 : (d : Int) < 7 := by omega
          have d6 : (d : Int) ≤ 6 := by omega
          have HDD := Lib.hid hlt
          have HGN := Lib.hid (show gapDays cls xs (d + 1) = gapK (gapDays cls xs d) (dayS cls (d : Int) xs) ((dayS cls (d : Int) xs).length - 1) from rfl)
          obtain ⟨gd0, gd1⟩ := gapDays_bd (cls := cls) HAL.out d
          generalize gapDays cls xs d = gm at HGN gd0 gd1 ⊢
          clear hlt
          go_wp2_with fail
          refine (dayOfClass_any A n c B xs cls (d : Int) _ (H.out.below (HB.out.mono hB)) (Nat.le_trans hB HB.out.size) hn).mono ?_
          rintro e w3 ⟨R, m, cr, rfl, hr⟩
          have HR := Lib.hid hr.reads
          have HDL := Lib.hid hr.reads.lesnLen
          have HAD := Lib.hid (day_all (cls := cls) (dy := (d : Int)) HAL.out)
          have hm : m ≤ n := by
            have h2 := hr.reads.lesnLen
            have h3 := dayS_len cls (d : Int) xs
            have h4 := HL.out
            omega
          have HB3 := Lib.hid (ext_trans HB.out hr.ext)
          generalize dayS cls (d : Int) xs = D at HR HDL HAD HGN
          clear hr
          go_wp2
          go_loopw [6, 9] (fun g i wi => ∃ k : Nat, i = .int .i64 ((k : Int) + 1) ∧ (k + 1 ≤ m ∨ k = 0) ∧ g = .int .i64 (gapK gm D k) ∧ Below w3.heap.size w3 wi) (fun _ i _ => (m + 1 - (intOf i).toNat))
          case atStart => exact ⟨0, rfl, .inr rfl, rfl, Below.refl _ _⟩
          case round =>
            obtain ⟨wi, rfl⟩ : ∃ wi : World, wi = wr := ⟨_, rfl⟩
            obtain ⟨k, rfl, hk, rfl, hb⟩ := hrel
            have HBI := Lib.hid hb
            have RI := Lib.hid (HR.out.below hb)
            clear hb
            by_cases hlt : k + 1 < m
            · obtain ⟨b, o, x, hAx, hx, hc0, hc1, hc2, hc3, hc4, hc5, hc6⟩ := RI.out.lesn (show k < m by omega)
              subst hAx
              obtain ⟨b2, o2, y, hAy, hy, hd0, hd1, hd2, hd3, hd4, hd5, hd6⟩ := RI.out.lesn hlt
              injection hAy with hAy
              injection hAy with e1 e2
              subst e1 e2
              have HXX := Lib.hid hx
              have hmx0 : max (gapK gm D k) (y.b - (x.b + x.m)) = gapK gm D (k + 1) := by rw [gapK, gapAt_at hx hy]
              obtain ⟨_, _, _, _, _, _, _, _, _, _, xa, xb, xc, xd⟩ := les_parts (allL_at HAD.out hx)
              obtain ⟨_, _, _, _, _, _, _, _, _, _, ya, yb, yc, yd⟩ := les_parts (allL_at HAD.out hy)
              obtain ⟨ga, gb⟩ := gapK_bd HAD.out gd0 gd1 k
              generalize gapK gm D k = g0 at hmx0 ga gb ⊢
              generalize hg1 : gapK gm D (k + 1) = g1 at hmx0
              have HG1 := Lib.hid hg1
              clear hg1
              have k0 : (0 : Int) ≤ k := by omega
              have k1 : (k : Int) < m := by omega
              have k2 : (k : Int) + 1 < m := by omega
              have k7 : (0 : Int) ≤ (k : Int) + 1 := by omega
              have k3 : IntKind.i64.wrap ((k : Int) + 1 - 1) = (k : Int) := by rw [IntWalk.i64_in _ ⟨by omega, by omega⟩]; omega
              have k4 : (k : Int) + 1 - 1 = (k : Int) := by omega
              have k5 : ((k : Int) + 1).toNat = k + 1 := by omega
              have he := endV_ok (allL_at HAD.out HXX.out)
              have v2 : IntKind.i64.wrap (y.b - (x.b + x.m)) = y.b - (x.b + x.m) := IntWalk.i64_in _ ⟨by omega, by omega⟩
              have k6 : IntKind.i64.wrap (k : Int) = (k : Int) := IntWalk.i64_in _ ⟨by omega, by omega⟩
              have hmx := hmx0
              have HK := Lib.hid hlt
              clear hx hy hk hlt k3
              go_wp2
              have hself : Below wi.heap.size wi wi.drew := ext_drew (Below.refl _ _)
              refine wp_region_held_drew (S := (fun w' => w'.cell? ⟨b, o + k * 7, none⟩ = some (.int .i64 x.i) ∧ w'.cell? ⟨b, o + k * 7 + 1, none⟩ = some (.int .i64 x.c) ∧ w'.cell? ⟨b, o + k * 7 + 2, none⟩ = some (.int .i64 x.t) ∧ w'.cell? ⟨b, o + k * 7 + 3, none⟩ = some (.int .i64 x.r) ∧ w'.cell? ⟨b, o + k * 7 + 4, none⟩ = some (.int .i64 x.d) ∧ w'.cell? ⟨b, o + k * 7 + 5, none⟩ = some (.int .i64 x.b) ∧ w'.cell? ⟨b, o + k * 7 + 6, none⟩ = some (.int .i64 x.m) ∧ w'.cell? ⟨b, o + (k + 1) * 7, none⟩ = some (.int .i64 y.i) ∧ w'.cell? ⟨b, o + (k + 1) * 7 + 1, none⟩ = some (.int .i64 y.c) ∧ w'.cell? ⟨b, o + (k + 1) * 7 + 2, none⟩ = some (.int .i64 y.t) ∧ w'.cell? ⟨b, o + (k + 1) * 7 + 3, none⟩ = some (.int .i64 y.r) ∧ w'.cell? ⟨b, o + (k + 1) * 7 + 4, none⟩ = some (.int .i64 y.d) ∧ w'.cell? ⟨b, o + (k + 1) * 7 + 5, none⟩ = some (.int .i64 y.b) ∧ w'.cell? ⟨b, o + (k + 1) * 7 + 6, none⟩ = some (.int .i64 y.m) ∧ Below wi.heap.size wi w')) (by kernel_rfl) ?_ (fun hHeld => ?_)
              · (try dsimp only); (first | (go_keep; done) | ((try go_split_ands); (repeat' apply And.intro); all_goals first | exact ext_drew (Below.refl _ _) | exact below_cell (by assumption) (by assumption) | (refine ext_trans ?_ (by assumption); assumption) | assumption))
              refine wpAnyH_takeD (i := 0) (v := ?_) 32 rfl rfl (by kernel_rfl) (by kernel_rfl) (by kernel_rfl) (fun _ _ _ _ _ h => h) (by rfl) (by assumption) ?_ ?_
              rotate_left; focus (intro w hSw; (try dsimp only at hSw); go_simp; try (with_reducible rfl))
              try simp only [Act.put, List.setIfInBounds_toArray, List.set_cons_zero, List.set_cons_succ]
              refine wpAnyH_takeD (i := 1) (v := ?_) 33 rfl rfl (by kernel_rfl) (by kernel_rfl) (by kernel_rfl) (fun _ _ _ _ _ h => h) (by rfl) (by assumption) ?_ ?_
              rotate_left; focus (intro w hSw; (try dsimp only at hSw); go_simp; try (with_reducible rfl))
              try simp only [Act.put, List.setIfInBounds_toArray, List.set_cons_zero, List.set_cons_succ]
              refine wpAnyH_takeD (i := 2) (v := ?_) 34 rfl rfl (by kernel_rfl) (by kernel_rfl) (by kernel_rfl) (fun _ _ _ _ _ h => h) (by rfl) (by assumption) ?_ ?_
              rotate_left; focus (intro w hSw; (try dsimp only at hSw); go_simp; try (with_reducible rfl))
              try simp only [Act.put, List.setIfInBounds_toArray, List.set_cons_zero, List.set_cons_succ]
              refine wpAnyH_takeD (i := 3) (v := ?_) 35 rfl rfl (by kernel_rfl) (by kernel_rfl) (by kernel_rfl) (fun _ _ _ _ _ h => h) (by rfl) (by assumption) ?_ ?_
              rotate_left; focus (intro w hSw; (try dsimp only at hSw); go_simp; try (with_reducible rfl))
              try simp only [Act.put, List.setIfInBounds_toArray, List.set_cons_zero, List.set_cons_succ]
              refine wpAnyH_takeD (i := 4) (v := ?_) 36 rfl rfl (by kernel_rfl) (by kernel_rfl) (by kernel_rfl) (fun _ _ _ _ _ h => h) (by rfl) (by assumption) ?_ ?_
              rotate_left; focus (intro w hSw; (try dsimp only at hSw); go_simp; try (with_reducible rfl))
              try simp only [Act.put, List.setIfInBounds_toArray, List.set_cons_zero, List.set_cons_succ]
              refine wpAnyH_takeD (i := 5) (v := ?_) 37 rfl rfl (by kernel_rfl) (by kernel_rfl) (by kernel_rfl) (fun _ _ _ _ _ h => h) (by rfl) (by assumption) ?_ ?_
              rotate_left; focus (intro w hSw; (try dsimp only at hSw); go_simp; try (with_reducible rfl))
              try simp only [Act.put, List.setIfInBounds_toArray, List.set_cons_zero, List.set_cons_succ]
              refine wpAnyH_takeD (i := 6) (v := ?_) 38 rfl rfl (by kernel_rfl) (by kernel_rfl) (by kernel_rfl) (fun _ _ _ _ _ h => h) (by rfl) (by assumption) ?_ ?_
              rotate_left; focus (intro w hSw; (try dsimp only at hSw); go_simp; try (with_reducible rfl))
              try simp only [Act.put, List.setIfInBounds_toArray, List.set_cons_zero, List.set_cons_succ]
              refine wpAnyH_takeD (i := 7) (v := ?_) 39 rfl rfl (by kernel_rfl) (by kernel_rfl) (by kernel_rfl) (fun _ _ _ _ _ h => h) (by rfl) (by assumption) ?_ ?_
              rotate_left; focus (intro w hSw; (try dsimp only at hSw); go_simp; try (with_reducible rfl))
              try simp only [Act.put, List.setIfInBounds_toArray, List.set_cons_zero, List.set_cons_succ]
              refine wpAnyH_takeD (i := 8) (v := ?_) 40 rfl rfl (by kernel_rfl) (by kernel_rfl) (by kernel_rfl) (fun _ _ _ _ _ h => h) (by rfl) (by assumption) ?_ ?_
              rotate_left; focus (intro w hSw; (try dsimp only at hSw); go_simp; try (with_reducible rfl))
              try simp only [Act.put, List.setIfInBounds_toArray, List.set_cons_zero, List.set_cons_succ]
              refine wpAnyH_takeD (i := 9) (v := ?_) 41 rfl rfl (by kernel_rfl) (by kernel_rfl) (by kernel_rfl) (fun _ _ _ _ _ h => h) (by rfl) (by assumption) ?_ ?_
              rotate_left; focus (intro w hSw; (try dsimp only at hSw); go_simp; try (with_reducible rfl))
              try simp only [Act.put, List.setIfInBounds_toArray, List.set_cons_zero, List.set_cons_succ]
              refine wpAnyH_takeD (i := 10) (v := ?_) 42 rfl rfl (by kernel_rfl) (by kernel_rfl) (by kernel_rfl) (fun _ _ _ _ _ h => h) (by rfl) (by assumption) ?_ ?_
              rotate_left; focus (intro w hSw; (try dsimp only at hSw); go_simp; try (with_reducible rfl))
              try simp only [Act.put, List.setIfInBounds_toArray, List.set_cons_zero, List.set_cons_succ]
              refine wpAnyH_ready (rs := [11]) (by kernel_rfl) (by simp) ?_
              refine AllReadyH.cons rfl (fun K hK => ?_) AllReadyH.nil
              go_simp; (go_at_call 70; refine (end_v x he _).mono ?_; rintro e w' ⟨rfl, hb'⟩); (try dsimp only)
              refine hK.out _ _ ?_ (fun hHeld => ?_)
              focus ((try dsimp only); (first | (go_keep; done) | ((try go_split_ands); (repeat' apply And.intro); all_goals first | exact ext_drew (Below.refl _ _) | exact below_cell (by assumption) (by assumption) | (refine ext_trans ?_ (by assumption); assumption) | assumption)))
              clear hK K; try simp only [Act.put, List.setIfInBounds_toArray, List.set_cons_zero, List.set_cons_succ]
              refine wpAnyH_takeD (i := 12) (v := ?_) 44 rfl rfl (by kernel_rfl) (by kernel_rfl) (by kernel_rfl) (fun _ _ _ _ _ h => h) (by rfl) (by assumption) ?_ ?_
              rotate_left; focus (intro w hSw; (try dsimp only at hSw); go_simp; try (with_reducible rfl))
              try simp only [Act.put, List.setIfInBounds_toArray, List.set_cons_zero, List.set_cons_succ]
              refine wpAnyH_takeD (i := 13) (v := ?_) 45 rfl rfl (by kernel_rfl) (by kernel_rfl) (by kernel_rfl) (fun _ _ _ _ _ h => h) (by rfl) (by assumption) ?_ ?_
              rotate_left; focus (intro w hSw; (try dsimp only at hSw); go_simp; try (with_reducible rfl))
              try simp only [Act.put, List.setIfInBounds_toArray, List.set_cons_zero, List.set_cons_succ]
              refine wpAnyH_takeD (i := 14) (v := ?_) 6 rfl rfl (by kernel_rfl) (by kernel_rfl) (by kernel_rfl) (fun _ _ _ _ _ h => h) (by rfl) (by assumption) ?_ ?_
              rotate_left; focus (intro w hSw; (try dsimp only at hSw); go_simp; try (with_reducible rfl))
              try simp only [Act.put, List.setIfInBounds_toArray, List.set_cons_zero, List.set_cons_succ]
              refine wpAnyH_done (by kernel_rfl) ?_ _
              have HBB := Lib.hid (ext_trans HBI.out hHeld.2.2.2.2.2.2.2.2.2.2.2.2.2.2)
              clear hHeld hb'
              have HMX := Lib.hid hmx
              clear hmx hmx0
              go_wp2
              go_roundw
              case rel => exact ⟨k + 1, by go_num, .inl (Nat.le_of_lt_succ (Nat.succ_lt_succ HK.out)), by rw [HG1.out, ← HMX.out]; exact congrArg (Value.int .i64) (by split <;> omega), HBB.out⟩
              case measure => simp [intOf]; omega
            · have HE := Lib.hid (show gapDays cls xs (d + 1) = gapK gm D k by
                rw [HGN.out, HDL.out]
                congr 1
                omega)
              have hge : (m : Int) ≤ (k : Int) + 1 := by omega
              clear hk
              go_wp2
              go_roundw
              case rel => exact ⟨d + 1, by go_num, HDD.out, by rw [HE.out], ext_trans HB3.out HBI.out⟩
              case measure => simp [intOf]; omega
        · have hd' : d = 7 := by omega
          subst hd'
          go_wp2
          go_ret2
          exact ⟨rfl, HB.out⟩
set_option maxHeartbeats 1000000 in
theorem FnExactLongestGap_any (A : Option Addr) (n c : Nat) (zs : List Int) (cls : Int) (_ : (Lit.int .i64 cls).wf = true) (w : World) (h : Reads w w.heap.size 7 A n (zs.map (Value.int .i64)) ∧ n ≤ maxLen) :
    Calls Try.prog 6 #[.slice A n c, .int .i64 cls] w fun e w' => e = .returned (.bool true) ∧ Below w.heap.size w w' := by
  obtain ⟨h, hm⟩ := h
  obtain ⟨xs, rfl, hl⟩ := lesnF_of n zs (by simpa using h.1)
  have H := Lib.hid h
  clear h hl
  obtain ⟨r, ok, ht⟩ : ∃ r ok, gapT cls xs = .tuple #[.int .i64 r, .bool ok] := gapT_form ..
  by_cases hn : n ≤ 1048576
  · go_enter Try.func6, Try.ntmps6
    go_wp2_with fail
    refine (szLessonS_any A n c hm _).mono ?_
    rintro e w' ⟨rfl, rfl⟩
    rw [if_pos hn]
    go_wp2_with fail
    refine (toLessonS_any A n c _ xs _ H.out (Nat.le_refl _) hn).mono ?_
    rintro e w1 ⟨A1, n1, c1, rfl, a1⟩
    have z1 := a1.reads.lesnLen
    have z0 := H.out.lesnLen
    obtain rfl : n1 = n := by omega
    have R1 := Lib.hid (H.out.below a1.ext)
    go_wp2_with fail
    refine (sLongestGap_any A1 n1 c1 _ xs cls _ a1.reads (Nat.le_refl _) hn).mono ?_
    rintro e w2 ⟨rfl, hb2⟩
    rw [ht]
    have R2 := Lib.hid (R1.out.below (hb2.mono a1.ext.size))
    have e2 := ext_trans a1.ext hb2
    go_wp2_with fail
    refine (toLessonS_any A n1 c _ xs _ R2.out e2.size hn).mono ?_
    rintro e w3 ⟨A3, n3, c3, rfl, a3⟩
    have z3 := a3.reads.lesnLen
    obtain rfl : n3 = n1 := by omega
    have R3 := Lib.hid (R2.out.below (a3.ext.mono e2.size))
    have e3 := ext_trans e2 a3.ext
    go_wp2_with fail
    refine (iLongestGap_any A3 n3 c3 _ xs cls _ a3.reads (Nat.le_refl _) hn).mono ?_
    rintro e w4 ⟨rfl, hb4⟩
    rw [ht]
    have R4 := Lib.hid (R3.out.below (hb4.mono e3.size))
    have e4 := ext_trans e3 hb4
    have a3' := a3.later hb4
    go_wp2_with fail
    refine (toLessonS_any A n3 c _ xs _ R4.out e4.size hn).mono ?_
    rintro e w5 ⟨A5, n5, c5, rfl, a5⟩
    have z5 := a5.reads.lesnLen
    obtain rfl : n5 = n3 := by omega
    have e5 := ext_trans e4 a5.ext
    go_wp2_with fail
    refine (eqLessonS_any A3 A5 n5 n5 c3 c5 _ _ xs xs _ (a3'.reads.below a5.ext) a5.reads a5.ext.size (Nat.le_refl _) (by unfold maxLen; omega) (by unfold maxLen; omega)).mono ?_
    rintro e w6 ⟨rfl, hb6⟩
    rw [decide_eq_true (rfl : xs = xs)]
    go_wp2_with fail
    go_ret
    exact ⟨rfl, ext_trans e5 hb6⟩
  · go_enter Try.func6, Try.ntmps6
    go_wp2_with fail
    refine (szLessonS_any A n c hm _).mono ?_
    rintro e w' ⟨rfl, rfl⟩
    rw [if_neg hn]
    go_wp2_with fail
    go_ret
    exact ⟨rfl, Below.refl _ _⟩
end Go.Proofs.Ytnndhgeddfghcaa
