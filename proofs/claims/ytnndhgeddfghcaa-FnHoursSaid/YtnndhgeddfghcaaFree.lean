/- Is a time free for a lesson? No condition. -/
import Derived.Test.YtnndhgeddfghcaaClash
namespace Go.Proofs.Ytnndhgeddfghcaa
open Go.RowKit

def clAt (x : Lesn) (xs : List Lesn) (k : Nat) : Bool := match xs[k]? with
  | some y => clB x y
  | none => false
theorem clAt_at {x y : Lesn} {xs : List Lesn} {k : Nat} (hy : xs[k]? = some y) : clAt x xs k = clB x y := by simp [clAt, hy]
def fitsB (xs : List Lesn) (i : Nat) (x : Lesn) : Bool := (List.range xs.length).all (fun k => (k == i) || !clAt x xs k)
def freeB (xs : List Lesn) (x : Lesn) : Bool := xs.all (fun y => (y.i == x.i) || !clB x y)
theorem freeB_miss {xs : List Lesn} {x y : Lesn} {k : Nat} (hy : xs[k]? = some y) (h1 : (y.i == x.i) = false) (h2 : clB x y = true) : freeB xs x = false := by
  unfold freeB
  rw [List.all_eq_false]
  exact ⟨y, List.mem_of_getElem? hy, by simp [h1, h2]⟩
theorem freeB_all {xs : List Lesn} {x : Lesn} (h : ∀ (k : Nat) (y : Lesn), xs[k]? = some y → ((y.i == x.i) || !clB x y) = true) : freeB xs x = true := by
  unfold freeB
  rw [List.all_eq_true]
  intro y hy
  obtain ⟨k, hk⟩ := List.mem_iff_getElem?.1 hy
  exact h k y hk
theorem fitsB_miss {xs : List Lesn} {x y : Lesn} {i k : Nat} (hy : xs[k]? = some y) (h1 : (k == i) = false) (h2 : clB x y = true) : fitsB xs i x = false := by
  unfold fitsB
  rw [List.all_eq_false]
  exact ⟨k, by simpa using (List.getElem?_eq_some_iff.1 hy).1, by simp [h1, clAt_at hy, h2]⟩
theorem fitsB_all {xs : List Lesn} {x : Lesn} {i : Nat} (h : ∀ (k : Nat) (y : Lesn), xs[k]? = some y → ((k == i) || !clB x y) = true) : fitsB xs i x = true := by
  unfold fitsB
  rw [List.all_eq_true]
  intro k hk
  have hk : k < xs.length := by simpa using hk
  have hy : xs[k]? = some xs[k] := List.getElem?_eq_getElem hk
  rw [clAt_at hy]
  exact h k _ hy
theorem less_ids {xs : List Lesn} (h : lessB xs = true) {i : Nat} {x y : Lesn} (hx : xs[i]? = some x) (hy : xs[i + 1]? = some y) : x.i < y.i := by
  unfold lessB at h
  simp only [Bool.and_eq_true] at h
  have h1 := h.1
  unfold lessGo at h1
  rw [List.all_eq_true] at h1
  have hi := (List.getElem?_eq_some_iff.1 hy).1
  have h2 := h1 (i + 1) (by simpa using hi)
  rw [lesAt_at (by omega) hy (by simpa using hx)] at h2
  simp only [Bool.and_eq_true, Bool.not_eq_true', decide_eq_false_iff_not] at h2
  omega
theorem less_lt {xs : List Lesn} (h : lessB xs = true) : ∀ {j i : Nat} {x y : Lesn}, xs[i]? = some x → xs[j]? = some y → i < j → x.i < y.i
  | 0, i, x, y, hx, hy, hij => by omega
  | j + 1, i, x, y, hx, hy, hij => by
    have hj := (List.getElem?_eq_some_iff.1 hy).1
    have hz : xs[j]? = some (xs[j]'(by omega)) := List.getElem?_eq_getElem (by omega)
    have h1 := less_ids h hz hy
    rcases Nat.lt_or_ge i j with h2 | h2
    · exact Int.lt_trans (less_lt h hx hz h2) h1
    · obtain rfl : i = j := by omega
      rw [hx] at hz; injection hz with hz; rw [hz]; exact h1
theorem less_same {xs : List Lesn} (h : lessB xs = true) {i j : Nat} {x y : Lesn} (hx : xs[i]? = some x) (hy : xs[j]? = some y) : (y.i == x.i) = (j == i) := by
  rcases Nat.lt_trichotomy i j with h1 | h1 | h1
  · have h2 := less_lt h hx hy h1
    rw [beq_eq_false_iff_ne.2 (by omega), beq_eq_false_iff_ne.2 (by omega)]
  · subst h1
    rw [hx] at hy; injection hy with hy; rw [hy]; simp
  · have h2 := less_lt h hy hx h1
    rw [beq_eq_false_iff_ne.2 (by omega), beq_eq_false_iff_ne.2 (by omega)]
theorem fits_free {xs : List Lesn} (h : lessB xs = true) {i : Nat} {z x : Lesn} (hz : xs[i]? = some z) (he : x.i = z.i) : fitsB xs i x = freeB xs x := by
  cases hf : freeB xs x with
  | true =>
    refine fitsB_all (fun k y hy => ?_)
    unfold freeB at hf
    rw [List.all_eq_true] at hf
    have h1 := hf y (List.mem_of_getElem? hy)
    rwa [he, less_same h hz hy] at h1
  | false =>
    unfold freeB at hf
    rw [List.all_eq_false] at hf
    obtain ⟨y, hy, h1⟩ := hf
    obtain ⟨k, hk⟩ := List.mem_iff_getElem?.1 hy
    rw [he, less_same h hz hk] at h1
    simp only [Bool.not_eq_true, Bool.or_eq_false_iff, Bool.not_eq_false'] at h1
    exact fitsB_miss hk h1.1 h1.2
theorem less_ok {xs : List Lesn} (h : lessB xs = true) {i : Nat} {x : Lesn} (hx : xs[i]? = some x) : x.ok = true := by
  unfold lessB at h
  simp only [Bool.and_eq_true] at h
  have h1 := h.1
  unfold lessGo at h1
  rw [List.all_eq_true] at h1
  have hi := (List.getElem?_eq_some_iff.1 hx).1
  have h2 := h1 i (by simpa using hi)
  cases hh : x.ok with
  | true => rfl
  | false => rw [lesAt_bad hx hh] at h2; cases h2
theorem less_len {xs : List Lesn} (h : lessB xs = true) : xs.length ≤ 12 := by
  unfold lessB at h
  simp only [Bool.and_eq_true, decide_eq_true_eq] at h
  exact h.2
set_option maxHeartbeats 4000000 in
theorem isFree_any (A : Option Addr) (n c B : Nat) (xs : List Lesn) (x : Lesn) (w : World) (h : Reads w B 7 A n ((lesnF xs).map (Value.int .i64))) (hB : B ≤ w.heap.size) (hn : n ≤ 1048576) :
    Calls Try.prog 80 #[.slice A n c, .agg #[.int .i64 x.i, .int .i64 x.c, .int .i64 x.t, .int .i64 x.r, .int .i64 x.d, .int .i64 x.b, .int .i64 x.m]] w fun e w' => e = .returned (.bool (freeB xs x)) ∧ Below w.heap.size w w' := by
  have hl := h.lesnLen
  have H := Lib.hid h
  have HL := Lib.hid hl
  clear h hl
  go_enter Try.func80, Try.ntmps80
  go_wp2
  go_loopw [9] (fun i wr => ∃ k : Nat, i = .int .i64 k ∧ k ≤ n ∧ (∀ (i : Nat) (y : Lesn), i < k → xs[i]? = some y → ((y.i == x.i) || !clB x y) = true) ∧ Below (w.alloc (Obj.cells #[.int .i64 x.i, .int .i64 x.c, .int .i64 x.t, .int .i64 x.r, .int .i64 x.d, .int .i64 x.b, .int .i64 x.m] 25)).heap.size (w.alloc (Obj.cells #[.int .i64 x.i, .int .i64 x.c, .int .i64 x.t, .int .i64 x.r, .int .i64 x.d, .int .i64 x.b, .int .i64 x.m] 25)) wr) (fun i _ => n - (intOf i).toNat)
  case atStart => exact ⟨0, rfl, by omega, fun i y hi => by omega, Below.refl _ _⟩
  case round =>
    obtain ⟨k, rfl, hk, hh, hb⟩ := hrel
    have HH := Lib.hid hh
    have HB0 := Lib.hid hb
    have HB := Lib.hid (ext_trans (ext_alloc (Below.refl w.heap.size w) (Obj.cells #[.int .i64 x.i, .int .i64 x.c, .int .i64 x.t, .int .i64 x.r, .int .i64 x.d, .int .i64 x.b, .int .i64 x.m] 25)) hb)
    clear hh
    by_cases hlt : k < n
    · obtain ⟨b, o, y, hAy, hy, hc0, hc1, hc2, hc3, hc4, hc5, hc6⟩ := (H.out.below (HB.out.mono hB)).lesn hlt
      subst hAy
      have HY := Lib.hid hy
      clear hy
      obtain ⟨x0, x1, x2, x3, x4, x5, x6⟩ := box_cellsL w 25 x
      have k0 := below_cell hb x0
      have k1 := below_cell hb x1
      have k2 := below_cell hb x2
      have k3 := below_cell hb x3
      have k4 := below_cell hb x4
      have k5 := below_cell hb x5
      have k6 := below_cell hb x6
      have hz : w.heap.size < wr.heap.size := World.block_lt_of_cell? _ _ k0
      clear hb x0 x1 x2 x3 x4 x5 x6
      cases hid : (y.i == x.i)
      · have hne : (y.i != x.i) = true := by simp only [bne, hid, Bool.not_false]
        have HID := Lib.hid hid
        clear hid
        cases hcl : clB x y
        · have HC := Lib.hid hcl
          go_wp2_with fail
          refine (clashes_v x y hcl _).mono ?_
          rintro e w2 ⟨rfl, hb2⟩
          have HB2 := Lib.hid (ext_trans HB0.out (ext_trans (ext_alloc (Below.refl _ _) _) hb2))
          clear hb2
          go_wp2
          go_roundw
          case rel => exact ⟨k + 1, by go_num, by omega, fun i z hi hz => by
            rcases Nat.lt_or_ge i k with h | h
            · exact HH.out i z h hz
            · obtain rfl : i = k := by omega
              rw [HY.out] at hz; injection hz with hz; rw [← hz, HC.out]; simp, HB2.out⟩
          case measure => simp [intOf]; omega
        · have HV := Lib.hid (freeB_miss HY.out HID.out hcl)
          go_wp2_with fail
          refine (clashes_v x y hcl _).mono ?_
          rintro e w2 ⟨rfl, hb2⟩
          have HB2 := Lib.hid (ext_trans HB.out (ext_trans (ext_alloc (Below.refl _ _) _) hb2))
          clear hb2
          go_wp2
          go_ret
          exact ⟨by rw [HV.out]; rfl, HB2.out⟩
      · have hne : (y.i != x.i) = false := by simp only [bne, hid, Bool.not_true]
        have HID := Lib.hid hid
        clear hid
        go_wp2
        go_roundw
        case rel => exact ⟨k + 1, by go_num, by omega, fun i z hi hz => by
          rcases Nat.lt_or_ge i k with h | h
          · exact HH.out i z h hz
          · obtain rfl : i = k := by omega
            rw [HY.out] at hz; injection hz with hz; rw [← hz, HID.out]; rfl, ext_alloc HB0.out _⟩
        case measure => simp [intOf]; omega
    · have HV := Lib.hid (freeB_all (xs := xs) (x := x) (fun i y hy => HH.out i y (by have := (List.getElem?_eq_some_iff.1 hy).1; have := HL.out; omega) hy))
      clear hb
      go_wp2
      go_ret
      exact ⟨by rw [HV.out]; rfl, HB.out⟩
set_option maxHeartbeats 4000000 in
theorem l11Fits_any (A : Option Addr) (n c B : Nat) (xs : List Lesn) (i : Nat) (z x : Lesn) (w : World) (h : Reads w B 7 A n ((lesnF xs).map (Value.int .i64))) (hB : B ≤ w.heap.size) (hn : n ≤ 1048576) (hz : xs[i]? = some z) (hx : x = ⟨z.i, z.c, z.t, z.r, x.d, x.b, z.m⟩) :
    Calls Try.prog 78 #[.slice A n c, .int .i64 i, .int .i64 x.d, .int .i64 x.b] w fun e w' => e = .returned (.bool (fitsB xs i x && x.ok)) ∧ Below w.heap.size w w' := by
  have hl := h.lesnLen
  have H := Lib.hid h
  have HL := Lib.hid hl
  have hin : i < n := by have := (List.getElem?_eq_some_iff.1 hz).1; omega
  obtain ⟨b, o, z', hAz, hz', hc0, hc1, hc2, hc3, hc4, hc5, hc6⟩ := h.lesn hin
  subst hAz
  rw [hz] at hz'
  injection hz' with hz'
  subst hz'
  have E1 : z.i = x.i := by rw [hx]
  have E2 : z.c = x.c := by rw [hx]
  have E3 : z.t = x.t := by rw [hx]
  have E4 : z.r = x.r := by rw [hx]
  have E5 : z.m = x.m := by rw [hx]
  rw [E1] at hc0
  rw [E2] at hc1
  rw [E3] at hc2
  rw [E4] at hc3
  rw [E5] at hc6
  have HZ := Lib.hid hz
  have i0 : (0 : Int) ≤ i := by omega
  have i1 : (i : Int) < n := by omega
  clear h hl hz hx E1 E2 E3 E4 E5
  go_enter Try.func78, Try.ntmps78
  go_wp2
  go_loopw [10] (fun q wr => ∃ k : Nat, q = .int .i64 k ∧ k ≤ n ∧ (∀ (j : Nat) (y : Lesn), j < k → xs[j]? = some y → ((j == i) || !clB x y) = true) ∧ Below (w.alloc (Obj.cells #[.int .i64 x.i, .int .i64 x.c, .int .i64 x.t, .int .i64 x.r, .int .i64 x.d, .int .i64 x.b, .int .i64 x.m] 25)).heap.size (w.alloc (Obj.cells #[.int .i64 x.i, .int .i64 x.c, .int .i64 x.t, .int .i64 x.r, .int .i64 x.d, .int .i64 x.b, .int .i64 x.m] 25)) wr) (fun q _ => n - (intOf q).toNat)
  case atStart => exact ⟨0, rfl, by omega, fun i y hi => by omega, Below.refl _ _⟩
  case round =>
    clear hc0 hc1 hc2 hc3 hc4 hc5 hc6
    obtain ⟨k, rfl, hk, hh, hb⟩ := hrel
    have HH := Lib.hid hh
    have HB0 := Lib.hid hb
    have HB := Lib.hid (ext_trans (ext_alloc (Below.refl w.heap.size w) (Obj.cells #[.int .i64 x.i, .int .i64 x.c, .int .i64 x.t, .int .i64 x.r, .int .i64 x.d, .int .i64 x.b, .int .i64 x.m] 25)) hb)
    clear hh
    obtain ⟨x0, x1, x2, x3, x4, x5, x6⟩ := box_cellsL w 25 x
    have k0 := below_cell hb x0
    have k1 := below_cell hb x1
    have k2 := below_cell hb x2
    have k3 := below_cell hb x3
    have k4 := below_cell hb x4
    have k5 := below_cell hb x5
    have k6 := below_cell hb x6
    clear hb x0 x1 x2 x3 x4 x5 x6
    by_cases hlt : k < n
    · obtain ⟨b', o', y, hAy, hy, hc0, hc1, hc2, hc3, hc4, hc5, hc6⟩ := (H.out.below (HB.out.mono hB)).lesn hlt
      injection hAy with hAy
      injection hAy with e1 e2
      subst e1 e2
      have HY := Lib.hid hy
      clear hy
      have q0 : (0 : Int) ≤ k := by omega
      have q1 : (k : Int) < n := by omega
      have hself : Below wr.heap.size wr wr.drew := ext_drew (Below.refl _ _)
      cases hid : (k == i)
      · have hne : ((k : Int) != (i : Int)) = true := by simp only [beq_eq_false_iff_ne] at hid; simp; omega
        have HID := Lib.hid hid
        clear hid
        cases hcl : clB x y
        · have HC := Lib.hid hcl
          go_wp2
          refine wp_region_held_drew (S := (fun w' => w'.cell? ⟨w.heap.size, 0, none⟩ = some (.int .i64 x.i) ∧ w'.cell? ⟨w.heap.size, 1, none⟩ = some (.int .i64 x.c) ∧ w'.cell? ⟨w.heap.size, 2, none⟩ = some (.int .i64 x.t) ∧ w'.cell? ⟨w.heap.size, 3, none⟩ = some (.int .i64 x.r) ∧ w'.cell? ⟨w.heap.size, 4, none⟩ = some (.int .i64 x.d) ∧ w'.cell? ⟨w.heap.size, 5, none⟩ = some (.int .i64 x.b) ∧ w'.cell? ⟨w.heap.size, 6, none⟩ = some (.int .i64 x.m) ∧ w'.cell? ⟨b, o + k * 7, none⟩ = some (.int .i64 y.i) ∧ w'.cell? ⟨b, o + k * 7 + 1, none⟩ = some (.int .i64 y.c) ∧ w'.cell? ⟨b, o + k * 7 + 2, none⟩ = some (.int .i64 y.t) ∧ w'.cell? ⟨b, o + k * 7 + 3, none⟩ = some (.int .i64 y.r) ∧ w'.cell? ⟨b, o + k * 7 + 4, none⟩ = some (.int .i64 y.d) ∧ w'.cell? ⟨b, o + k * 7 + 5, none⟩ = some (.int .i64 y.b) ∧ w'.cell? ⟨b, o + k * 7 + 6, none⟩ = some (.int .i64 y.m) ∧ Below wr.heap.size wr w')) (by kernel_rfl) ?_ (fun hHeld => ?_)
          · (try dsimp only); (first | (go_keep; done) | ((try go_split_ands); (repeat' apply And.intro); all_goals first | exact ext_drew (Below.refl _ _) | exact below_cell (by assumption) (by assumption) | (refine ext_trans ?_ (by assumption); assumption) | assumption))
          refine wpAnyH_takeD (i := 0) (v := ?_) 25 rfl rfl (by kernel_rfl) (by kernel_rfl) (by kernel_rfl) (fun _ _ _ _ _ h => h) (by rfl) (by assumption) ?_ ?_
          rotate_left; focus (intro w hSw; (try dsimp only at hSw); go_simp; try (with_reducible rfl))
          try simp only [Act.put, List.setIfInBounds_toArray, List.set_cons_zero, List.set_cons_succ]
          refine wpAnyH_takeD (i := 1) (v := ?_) 26 rfl rfl (by kernel_rfl) (by kernel_rfl) (by kernel_rfl) (fun _ _ _ _ _ h => h) (by rfl) (by assumption) ?_ ?_
          rotate_left; focus (intro w hSw; (try dsimp only at hSw); go_simp; try (with_reducible rfl))
          try simp only [Act.put, List.setIfInBounds_toArray, List.set_cons_zero, List.set_cons_succ]
          refine wpAnyH_takeD (i := 2) (v := ?_) 27 rfl rfl (by kernel_rfl) (by kernel_rfl) (by kernel_rfl) (fun _ _ _ _ _ h => h) (by rfl) (by assumption) ?_ ?_
          rotate_left; focus (intro w hSw; (try dsimp only at hSw); go_simp; try (with_reducible rfl))
          try simp only [Act.put, List.setIfInBounds_toArray, List.set_cons_zero, List.set_cons_succ]
          refine wpAnyH_takeD (i := 3) (v := ?_) 28 rfl rfl (by kernel_rfl) (by kernel_rfl) (by kernel_rfl) (fun _ _ _ _ _ h => h) (by rfl) (by assumption) ?_ ?_
          rotate_left; focus (intro w hSw; (try dsimp only at hSw); go_simp; try (with_reducible rfl))
          try simp only [Act.put, List.setIfInBounds_toArray, List.set_cons_zero, List.set_cons_succ]
          refine wpAnyH_takeD (i := 4) (v := ?_) 29 rfl rfl (by kernel_rfl) (by kernel_rfl) (by kernel_rfl) (fun _ _ _ _ _ h => h) (by rfl) (by assumption) ?_ ?_
          rotate_left; focus (intro w hSw; (try dsimp only at hSw); go_simp; try (with_reducible rfl))
          try simp only [Act.put, List.setIfInBounds_toArray, List.set_cons_zero, List.set_cons_succ]
          refine wpAnyH_takeD (i := 5) (v := ?_) 30 rfl rfl (by kernel_rfl) (by kernel_rfl) (by kernel_rfl) (fun _ _ _ _ _ h => h) (by rfl) (by assumption) ?_ ?_
          rotate_left; focus (intro w hSw; (try dsimp only at hSw); go_simp; try (with_reducible rfl))
          try simp only [Act.put, List.setIfInBounds_toArray, List.set_cons_zero, List.set_cons_succ]
          refine wpAnyH_takeD (i := 6) (v := ?_) 31 rfl rfl (by kernel_rfl) (by kernel_rfl) (by kernel_rfl) (fun _ _ _ _ _ h => h) (by rfl) (by assumption) ?_ ?_
          rotate_left; focus (intro w hSw; (try dsimp only at hSw); go_simp; try (with_reducible rfl))
          try simp only [Act.put, List.setIfInBounds_toArray, List.set_cons_zero, List.set_cons_succ]
          refine wpAnyH_takeD (i := 7) (v := ?_) 32 rfl rfl (by kernel_rfl) (by kernel_rfl) (by kernel_rfl) (fun _ _ _ _ _ h => h) (by rfl) (by assumption) ?_ ?_
          rotate_left; focus (intro w hSw; (try dsimp only at hSw); go_simp; try (with_reducible rfl))
          try simp only [Act.put, List.setIfInBounds_toArray, List.set_cons_zero, List.set_cons_succ]
          refine wpAnyH_takeD (i := 8) (v := ?_) 33 rfl rfl (by kernel_rfl) (by kernel_rfl) (by kernel_rfl) (fun _ _ _ _ _ h => h) (by rfl) (by assumption) ?_ ?_
          rotate_left; focus (intro w hSw; (try dsimp only at hSw); go_simp; try (with_reducible rfl))
          try simp only [Act.put, List.setIfInBounds_toArray, List.set_cons_zero, List.set_cons_succ]
          refine wpAnyH_ready (rs := [9]) (by kernel_rfl) (by simp) ?_
          refine AllReadyH.cons rfl (fun K hK => ?_) AllReadyH.nil
          go_simp; (go_at_call 85; refine (l11Clash_v x y hcl _).mono ?_; rintro e w' ⟨rfl, hb'⟩); (try dsimp only)
          refine hK.out _ _ ?_ (fun hHeld => ?_)
          focus ((try dsimp only); (first | (go_keep; done) | ((try go_split_ands); (repeat' apply And.intro); all_goals first | exact ext_drew (Below.refl _ _) | exact below_cell (by assumption) (by assumption) | (refine ext_trans ?_ (by assumption); assumption) | assumption)))
          clear hK K; try simp only [Act.put, List.setIfInBounds_toArray, List.set_cons_zero, List.set_cons_succ]
          refine wpAnyH_takeD (i := 10) (v := ?_) 35 rfl rfl (by kernel_rfl) (by kernel_rfl) (by kernel_rfl) (fun _ _ _ _ _ h => h) (by rfl) (by assumption) ?_ ?_
          rotate_left; focus (intro w hSw; (try dsimp only at hSw); go_simp; try (with_reducible rfl))
          try simp only [Act.put, List.setIfInBounds_toArray, List.set_cons_zero, List.set_cons_succ]
          refine wpAnyH_done (by kernel_rfl) ?_ _
          have HB2 := Lib.hid (ext_trans HB0.out hHeld.2.2.2.2.2.2.2.2.2.2.2.2.2.2)
          clear hHeld hb'
          go_wp2
          go_roundw
          case rel => exact ⟨k + 1, by go_num, by omega, fun j v hj hv => by
            rcases Nat.lt_or_ge j k with h | h
            · exact HH.out j v h hv
            · obtain rfl : j = k := by omega
              rw [HY.out] at hv; injection hv with hv; rw [← hv, HC.out]; simp, HB2.out⟩
          case measure => simp [intOf]; omega
        · have HV := Lib.hid (fitsB_miss HY.out HID.out hcl)
          go_wp2
          refine wp_region_held_drew (S := (fun w' => w'.cell? ⟨w.heap.size, 0, none⟩ = some (.int .i64 x.i) ∧ w'.cell? ⟨w.heap.size, 1, none⟩ = some (.int .i64 x.c) ∧ w'.cell? ⟨w.heap.size, 2, none⟩ = some (.int .i64 x.t) ∧ w'.cell? ⟨w.heap.size, 3, none⟩ = some (.int .i64 x.r) ∧ w'.cell? ⟨w.heap.size, 4, none⟩ = some (.int .i64 x.d) ∧ w'.cell? ⟨w.heap.size, 5, none⟩ = some (.int .i64 x.b) ∧ w'.cell? ⟨w.heap.size, 6, none⟩ = some (.int .i64 x.m) ∧ w'.cell? ⟨b, o + k * 7, none⟩ = some (.int .i64 y.i) ∧ w'.cell? ⟨b, o + k * 7 + 1, none⟩ = some (.int .i64 y.c) ∧ w'.cell? ⟨b, o + k * 7 + 2, none⟩ = some (.int .i64 y.t) ∧ w'.cell? ⟨b, o + k * 7 + 3, none⟩ = some (.int .i64 y.r) ∧ w'.cell? ⟨b, o + k * 7 + 4, none⟩ = some (.int .i64 y.d) ∧ w'.cell? ⟨b, o + k * 7 + 5, none⟩ = some (.int .i64 y.b) ∧ w'.cell? ⟨b, o + k * 7 + 6, none⟩ = some (.int .i64 y.m) ∧ Below wr.heap.size wr w')) (by kernel_rfl) ?_ (fun hHeld => ?_)
          · (try dsimp only); (first | (go_keep; done) | ((try go_split_ands); (repeat' apply And.intro); all_goals first | exact ext_drew (Below.refl _ _) | exact below_cell (by assumption) (by assumption) | (refine ext_trans ?_ (by assumption); assumption) | assumption))
          refine wpAnyH_takeD (i := 0) (v := ?_) 25 rfl rfl (by kernel_rfl) (by kernel_rfl) (by kernel_rfl) (fun _ _ _ _ _ h => h) (by rfl) (by assumption) ?_ ?_
          rotate_left; focus (intro w hSw; (try dsimp only at hSw); go_simp; try (with_reducible rfl))
          try simp only [Act.put, List.setIfInBounds_toArray, List.set_cons_zero, List.set_cons_succ]
          refine wpAnyH_takeD (i := 1) (v := ?_) 26 rfl rfl (by kernel_rfl) (by kernel_rfl) (by kernel_rfl) (fun _ _ _ _ _ h => h) (by rfl) (by assumption) ?_ ?_
          rotate_left; focus (intro w hSw; (try dsimp only at hSw); go_simp; try (with_reducible rfl))
          try simp only [Act.put, List.setIfInBounds_toArray, List.set_cons_zero, List.set_cons_succ]
          refine wpAnyH_takeD (i := 2) (v := ?_) 27 rfl rfl (by kernel_rfl) (by kernel_rfl) (by kernel_rfl) (fun _ _ _ _ _ h => h) (by rfl) (by assumption) ?_ ?_
          rotate_left; focus (intro w hSw; (try dsimp only at hSw); go_simp; try (with_reducible rfl))
          try simp only [Act.put, List.setIfInBounds_toArray, List.set_cons_zero, List.set_cons_succ]
          refine wpAnyH_takeD (i := 3) (v := ?_) 28 rfl rfl (by kernel_rfl) (by kernel_rfl) (by kernel_rfl) (fun _ _ _ _ _ h => h) (by rfl) (by assumption) ?_ ?_
          rotate_left; focus (intro w hSw; (try dsimp only at hSw); go_simp; try (with_reducible rfl))
          try simp only [Act.put, List.setIfInBounds_toArray, List.set_cons_zero, List.set_cons_succ]
          refine wpAnyH_takeD (i := 4) (v := ?_) 29 rfl rfl (by kernel_rfl) (by kernel_rfl) (by kernel_rfl) (fun _ _ _ _ _ h => h) (by rfl) (by assumption) ?_ ?_
          rotate_left; focus (intro w hSw; (try dsimp only at hSw); go_simp; try (with_reducible rfl))
          try simp only [Act.put, List.setIfInBounds_toArray, List.set_cons_zero, List.set_cons_succ]
          refine wpAnyH_takeD (i := 5) (v := ?_) 30 rfl rfl (by kernel_rfl) (by kernel_rfl) (by kernel_rfl) (fun _ _ _ _ _ h => h) (by rfl) (by assumption) ?_ ?_
          rotate_left; focus (intro w hSw; (try dsimp only at hSw); go_simp; try (with_reducible rfl))
          try simp only [Act.put, List.setIfInBounds_toArray, List.set_cons_zero, List.set_cons_succ]
          refine wpAnyH_takeD (i := 6) (v := ?_) 31 rfl rfl (by kernel_rfl) (by kernel_rfl) (by kernel_rfl) (fun _ _ _ _ _ h => h) (by rfl) (by assumption) ?_ ?_
          rotate_left; focus (intro w hSw; (try dsimp only at hSw); go_simp; try (with_reducible rfl))
          try simp only [Act.put, List.setIfInBounds_toArray, List.set_cons_zero, List.set_cons_succ]
          refine wpAnyH_takeD (i := 7) (v := ?_) 32 rfl rfl (by kernel_rfl) (by kernel_rfl) (by kernel_rfl) (fun _ _ _ _ _ h => h) (by rfl) (by assumption) ?_ ?_
          rotate_left; focus (intro w hSw; (try dsimp only at hSw); go_simp; try (with_reducible rfl))
          try simp only [Act.put, List.setIfInBounds_toArray, List.set_cons_zero, List.set_cons_succ]
          refine wpAnyH_takeD (i := 8) (v := ?_) 33 rfl rfl (by kernel_rfl) (by kernel_rfl) (by kernel_rfl) (fun _ _ _ _ _ h => h) (by rfl) (by assumption) ?_ ?_
          rotate_left; focus (intro w hSw; (try dsimp only at hSw); go_simp; try (with_reducible rfl))
          try simp only [Act.put, List.setIfInBounds_toArray, List.set_cons_zero, List.set_cons_succ]
          refine wpAnyH_ready (rs := [9]) (by kernel_rfl) (by simp) ?_
          refine AllReadyH.cons rfl (fun K hK => ?_) AllReadyH.nil
          go_simp; (go_at_call 85; refine (l11Clash_v x y hcl _).mono ?_; rintro e w' ⟨rfl, hb'⟩); (try dsimp only)
          refine hK.out _ _ ?_ (fun hHeld => ?_)
          focus ((try dsimp only); (first | (go_keep; done) | ((try go_split_ands); (repeat' apply And.intro); all_goals first | exact ext_drew (Below.refl _ _) | exact below_cell (by assumption) (by assumption) | (refine ext_trans ?_ (by assumption); assumption) | assumption)))
          clear hK K; try simp only [Act.put, List.setIfInBounds_toArray, List.set_cons_zero, List.set_cons_succ]
          refine wpAnyH_takeD (i := 10) (v := ?_) 35 rfl rfl (by kernel_rfl) (by kernel_rfl) (by kernel_rfl) (fun _ _ _ _ _ h => h) (by rfl) (by assumption) ?_ ?_
          rotate_left; focus (intro w hSw; (try dsimp only at hSw); go_simp; try (with_reducible rfl))
          try simp only [Act.put, List.setIfInBounds_toArray, List.set_cons_zero, List.set_cons_succ]
          refine wpAnyH_done (by kernel_rfl) ?_ _
          have HB2 := Lib.hid (ext_trans HB.out hHeld.2.2.2.2.2.2.2.2.2.2.2.2.2.2)
          clear hHeld hb'
          go_wp2
          go_ret
          exact ⟨by rw [HV.out, Bool.false_and]; rfl, HB2.out⟩
      · have hne : ((k : Int) != (i : Int)) = false := by simp only [beq_iff_eq] at hid; simp; omega
        have HID := Lib.hid hid
        clear hid
        go_wp2
        refine wp_region_held_drew (S := (fun w' => w'.cell? ⟨w.heap.size, 0, none⟩ = some (.int .i64 x.i) ∧ w'.cell? ⟨w.heap.size, 1, none⟩ = some (.int .i64 x.c) ∧ w'.cell? ⟨w.heap.size, 2, none⟩ = some (.int .i64 x.t) ∧ w'.cell? ⟨w.heap.size, 3, none⟩ = some (.int .i64 x.r) ∧ w'.cell? ⟨w.heap.size, 4, none⟩ = some (.int .i64 x.d) ∧ w'.cell? ⟨w.heap.size, 5, none⟩ = some (.int .i64 x.b) ∧ w'.cell? ⟨w.heap.size, 6, none⟩ = some (.int .i64 x.m) ∧ w'.cell? ⟨b, o + k * 7, none⟩ = some (.int .i64 y.i) ∧ w'.cell? ⟨b, o + k * 7 + 1, none⟩ = some (.int .i64 y.c) ∧ w'.cell? ⟨b, o + k * 7 + 2, none⟩ = some (.int .i64 y.t) ∧ w'.cell? ⟨b, o + k * 7 + 3, none⟩ = some (.int .i64 y.r) ∧ w'.cell? ⟨b, o + k * 7 + 4, none⟩ = some (.int .i64 y.d) ∧ w'.cell? ⟨b, o + k * 7 + 5, none⟩ = some (.int .i64 y.b) ∧ w'.cell? ⟨b, o + k * 7 + 6, none⟩ = some (.int .i64 y.m) ∧ Below wr.heap.size wr w')) (by kernel_rfl) ?_ (fun hHeld => ?_)
        · (try dsimp only); (first | (go_keep; done) | ((try go_split_ands); (repeat' apply And.intro); all_goals first | exact ext_drew (Below.refl _ _) | exact below_cell (by assumption) (by assumption) | (refine ext_trans ?_ (by assumption); assumption) | assumption))
        refine wpAnyH_takeD (i := 0) (v := ?_) 25 rfl rfl (by kernel_rfl) (by kernel_rfl) (by kernel_rfl) (fun _ _ _ _ _ h => h) (by rfl) (by assumption) ?_ ?_
        rotate_left; focus (intro w hSw; (try dsimp only at hSw); go_simp; try (with_reducible rfl))
        try simp only [Act.put, List.setIfInBounds_toArray, List.set_cons_zero, List.set_cons_succ]
        refine wpAnyH_takeD (i := 1) (v := ?_) 26 rfl rfl (by kernel_rfl) (by kernel_rfl) (by kernel_rfl) (fun _ _ _ _ _ h => h) (by rfl) (by assumption) ?_ ?_
        rotate_left; focus (intro w hSw; (try dsimp only at hSw); go_simp; try (with_reducible rfl))
        try simp only [Act.put, List.setIfInBounds_toArray, List.set_cons_zero, List.set_cons_succ]
        refine wpAnyH_takeD (i := 2) (v := ?_) 27 rfl rfl (by kernel_rfl) (by kernel_rfl) (by kernel_rfl) (fun _ _ _ _ _ h => h) (by rfl) (by assumption) ?_ ?_
        rotate_left; focus (intro w hSw; (try dsimp only at hSw); go_simp; try (with_reducible rfl))
        try simp only [Act.put, List.setIfInBounds_toArray, List.set_cons_zero, List.set_cons_succ]
        refine wpAnyH_takeD (i := 3) (v := ?_) 28 rfl rfl (by kernel_rfl) (by kernel_rfl) (by kernel_rfl) (fun _ _ _ _ _ h => h) (by rfl) (by assumption) ?_ ?_
        rotate_left; focus (intro w hSw; (try dsimp only at hSw); go_simp; try (with_reducible rfl))
        try simp only [Act.put, List.setIfInBounds_toArray, List.set_cons_zero, List.set_cons_succ]
        refine wpAnyH_skipsTo (by kernel_rfl) (fun _ _ _ _ _ h => h) (by assumption) [4, 5, 6, 7, 8, 9] [29, 30, 31, 32, 33, 34] 1 (by kernel_rfl) (by kernel_rfl) ?_
        try simp only [skipAct_nil, skipAct_cons, Act.put, List.setIfInBounds_toArray, List.set_cons_zero, List.set_cons_succ]
        refine wpAnyH_takeD (i := 10) (v := ?_) 35 rfl rfl (by kernel_rfl) (by kernel_rfl) (by kernel_rfl) (fun _ _ _ _ _ h => h) (by rfl) (by assumption) ?_ ?_
        rotate_left; focus (intro w hSw; (try dsimp only at hSw); go_simp; try (with_reducible rfl))
        try simp only [Act.put, List.setIfInBounds_toArray, List.set_cons_zero, List.set_cons_succ]
        refine wpAnyH_done (by kernel_rfl) ?_ _
        have HB2 := Lib.hid (ext_trans HB0.out hHeld.2.2.2.2.2.2.2.2.2.2.2.2.2.2)
        clear hHeld
        go_wp2
        go_roundw
        case rel => exact ⟨k + 1, by go_num, by omega, fun j v hj hv => by
          rcases Nat.lt_or_ge j k with h | h
          · exact HH.out j v h hv
          · obtain rfl : j = k := by omega
            rw [HID.out]; rfl, HB2.out⟩
        case measure => simp [intOf]; omega
    · have HV := Lib.hid (fitsB_all (xs := xs) (x := x) (i := i) (fun j y hy => HH.out j y (by have := (List.getElem?_eq_some_iff.1 hy).1; have := HL.out; omega) hy))
      go_wp2_with fail
      refine (l11One_v x rfl _).mono ?_
      rintro e w2 ⟨rfl, hb2⟩
      go_wp2
      go_ret
      exact ⟨by rw [HV.out, Bool.true_and]; rfl, ext_trans HB.out hb2⟩
end Go.Proofs.Ytnndhgeddfghcaa
