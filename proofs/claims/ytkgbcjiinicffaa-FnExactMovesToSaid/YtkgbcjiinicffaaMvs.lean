/- Moves between frames, their beads, rods in order: plain functions and walks on both sides. No condition. -/
import Derived.Test.YtkgbcjiinicffaaMovS
import Derived.Test.YtkgbcjiinicffaaTests
namespace Go.Proofs.Ytkgbcjiinicffaa
open Go.RowKit

def absV (n : Int) : Int := if n < 0 then -n else n
theorem max_abs (n : Int) : max n (-n) = absV n := by unfold absV; split <;> omega
/-- The moves of one part, of one rod, of all rods. -/
def mvA (k : Int) (x y : Rod) : List Bmv := if y.a - x.a = 0 then [] else [⟨k, 0, y.a - x.a⟩]
def mvB (k : Int) (x y : Rod) : List Bmv := if y.b - x.b = 0 then [] else [⟨k, 1, y.b - x.b⟩]
def mvR (k : Int) (x y : Rod) : List Bmv := mvA k x y ++ mvB k x y
def mvFr : Nat → List Rod → List Rod → List Bmv
  | k, x :: xs, y :: ys => mvR (k : Int) x y ++ mvFr (k + 1) xs ys
  | _, _, _ => []
def mvL (xs ys : List Rod) : List Bmv := mvFr 0 xs ys
theorem mvR_len (k : Int) (x y : Rod) : (mvR k x y).length ≤ 2 := by unfold mvR mvA mvB; split <;> split <;> simp
theorem mvFr_len : ∀ (k : Nat) (xs ys : List Rod), (mvFr k xs ys).length ≤ 2 * ys.length
  | k, [], ys => by simp [mvFr]
  | k, x :: xs, [] => by simp [mvFr]
  | k, x :: xs, y :: ys => by
    have := mvFr_len (k + 1) xs ys
    have := mvR_len (k : Int) x y
    rw [mvFr, List.length_append, List.length_cons]; omega
theorem mvFr_snoc : ∀ {k : Nat} {xs ys : List Rod} {x y : Rod}, xs[ys.length]? = some x → mvFr k xs (ys ++ [y]) = mvFr k xs ys ++ mvR ((k + ys.length : Nat) : Int) x y
  | k, [], ys, x, y, h => by simp at h
  | k, z :: xs, [], x, y, h => by
    obtain rfl : z = x := by simpa using h
    simp [mvFr]
  | k, z :: xs, v :: ys, x, y, h => by
    have ih := mvFr_snoc (k := k + 1) (xs := xs) (ys := ys) (x := x) (y := y) (by simpa using h)
    rw [List.cons_append, mvFr, mvFr, ih, List.append_assoc, List.length_cons, show k + 1 + ys.length = k + (ys.length + 1) from by omega]
theorem mvL_next {xs ys : List Rod} {i : Nat} {x y : Rod} (hx : xs[i]? = some x) (hy : ys[i]? = some y) : mvL xs (ys.take (i + 1)) = mvL xs (ys.take i) ++ mvR (i : Int) x y := by
  have hl := (List.getElem?_eq_some_iff.1 hy).1
  have e : (ys.take i).length = i := by rw [List.length_take]; omega
  unfold mvL
  rw [rodF_snoc hy, mvFr_snoc (by rw [e]; exact hx), e, Nat.zero_add]
def RodIn (x : Rod) : Prop := 0 ≤ x.a ∧ x.a ≤ 9 ∧ 0 ≤ x.b ∧ x.b ≤ 9
def MvIn (m : Bmv) : Prop := -9 ≤ m.b ∧ m.b ≤ 9
theorem mvR_in {k : Int} {x y : Rod} (hx : RodIn x) (hy : RodIn y) : ∀ m ∈ mvR k x y, MvIn m := by
  obtain ⟨a, b, c, d⟩ := hx
  obtain ⟨e, f, g, h⟩ := hy
  intro m hm
  unfold mvR mvA mvB at hm
  rcases List.mem_append.1 hm with hm | hm
  · split at hm
    · cases hm
    · obtain rfl := List.mem_singleton.1 hm
      exact ⟨by simp only; omega, by simp only; omega⟩
  · split at hm
    · cases hm
    · obtain rfl := List.mem_singleton.1 hm
      exact ⟨by simp only; omega, by simp only; omega⟩
theorem mvFr_in : ∀ (k : Nat) (xs ys : List Rod), (∀ x ∈ xs, RodIn x) → (∀ y ∈ ys, RodIn y) → ∀ m ∈ mvFr k xs ys, MvIn m
  | k, [], ys, _, _ => by simp [mvFr]
  | k, x :: xs, [], _, _ => by simp [mvFr]
  | k, x :: xs, y :: ys, hx, hy => by
    intro m hm
    rw [mvFr] at hm
    rcases List.mem_append.1 hm with hm | hm
    · exact mvR_in (hx x (by simp)) (hy y (by simp)) m hm
    · exact mvFr_in (k + 1) xs ys (fun z hz => hx z (by simp [hz])) (fun z hz => hy z (by simp [hz])) m hm
/-- How many beads? -/
def bdS (ms : List Bmv) : Int := (ms.map fun m => absV m.b).sum
theorem bdS_app (a b : List Bmv) : bdS (a ++ b) = bdS a + bdS b := by unfold bdS; rw [List.map_append, List.sum_append]
theorem bdS_bd : ∀ (ms : List Bmv), (∀ m ∈ ms, MvIn m) → 0 ≤ bdS ms ∧ bdS ms ≤ 9 * ms.length
  | [], _ => by simp [bdS]
  | m :: ms, h => by
    have ih := bdS_bd ms (fun z hz => h z (by simp [hz]))
    obtain ⟨h1, h2⟩ := h m (by simp)
    have e : bdS (m :: ms) = absV m.b + bdS ms := by unfold bdS; simp
    have a : 0 ≤ absV m.b ∧ absV m.b ≤ 9 := by unfold absV; split <;> omega
    rw [e, List.length_cons]
    omega
theorem bdS_next {ms : List Bmv} {k : Nat} {m : Bmv} (h : ms[k]? = some m) : bdS (ms.take (k + 1)) = bdS (ms.take k) + absV m.b := by
  rw [bmvF_snoc h, bdS_app]; simp [bdS]
/-- Is the one list of rods before the other, of the same length? -/
def befB : List Rod → List Rod → Bool
  | x :: xs, y :: ys => if x.a = y.a then (if x.b = y.b then befB xs ys else decide (x.b < y.b)) else decide (x.a < y.a)
  | _, _ => false
theorem befB_at : ∀ {i : Nat} {xs ys : List Rod} {x y : Rod}, xs.take i = ys.take i → xs[i]? = some x → ys[i]? = some y → x ≠ y → befB xs ys = (if x.a = y.a then decide (x.b < y.b) else decide (x.a < y.a))
  | 0, z :: xs, v :: ys, x, y, _, hx, hy, hne => by
    obtain rfl : z = x := by simpa using hx
    obtain rfl : v = y := by simpa using hy
    rw [befB]
    split
    · rename_i ha
      rw [if_neg]
      intro hb
      exact hne (by cases z; cases v; simp_all)
    · rfl
  | 0, [], _, x, y, _, hx, _, _ => by simp at hx
  | 0, _ :: _, [], x, y, _, _, hy, _ => by simp at hy
  | i + 1, [], _, x, y, _, hx, _, _ => by simp at hx
  | i + 1, _ :: _, [], x, y, _, _, hy, _ => by simp at hy
  | i + 1, z :: xs, v :: ys, x, y, ht, hx, hy, hne => by
    simp only [List.take_succ_cons, List.cons.injEq] at ht
    obtain ⟨rfl, ht⟩ := ht
    rw [befB, if_pos rfl, if_pos rfl]
    exact befB_at ht (by simpa using hx) (by simpa using hy) hne
theorem befB_self : ∀ (xs : List Rod), befB xs xs = false
  | [] => rfl
  | x :: xs => by rw [befB, if_pos rfl, if_pos rfl]; exact befB_self xs
theorem quiet_most (a b : Int) {v : Int} (hv : max a b = v) (w : World) (m : Nat) : Calls Try.prog 54 #[.int .i64 a, .int .i64 b] (w.drewN m) fun e w'' => e = .returned (.int .i64 v) ∧ ∃ m, w'' = w.drewN m :=
  (l1Most_any a b (w.drewN m)).mono fun _ _ ⟨he, hm⟩ => ⟨hv ▸ he, m, hm.symm⟩
set_option maxHeartbeats 2000000 in
theorem l4Beads_any (A : Option Addr) (n c B : Nat) (ms : List Bmv) (w : World) (h : Reads w B 3 A n ((bmvF ms).map (Value.int .i64))) (hn : n ≤ 1000) (hm : ∀ m ∈ ms, MvIn m) :
    Calls Try.prog 43 #[.slice A n c] w fun e w' => e = .returned (.int .i64 (bdS ms)) ∧ ∃ m, w' = w.drewN m := by
  have hl := h.bmvLen
  have H := Lib.hid h
  have HL := Lib.hid hl
  have HM := Lib.hid hm
  clear h hm
  go_enter Try.func43, Try.ntmps43
  go_wp2_with fail
  go_loopw [3, 4] (fun s i wr => ∃ k m : Nat, i = .int .i64 (k : Int) ∧ k ≤ n ∧ s = .int .i64 (bdS (ms.take k)) ∧ wr = w.drewN m) (fun _ i _ => n - (intOf i).toNat)
  case atStart => exact ⟨0, 0, rfl, by omega, by simp [bdS], rfl⟩
  case round =>
    obtain ⟨k, m, rfl, hk, rfl, hwm⟩ := hrel
    have HW := Lib.hid hwm
    have R := Lib.hid (show Reads wr B 3 A n ((bmvF ms).map (Value.int .i64)) by rw [hwm]; exact H.out.drewN m)
    have k0 : (0 : Int) ≤ k := by omega
    clear hwm
    by_cases hlt : k < n
    · obtain ⟨b, o, x, hAx, hx, hc0, hc1, hc2⟩ := R.out.bmv hlt
      subst hAx
      have HX := Lib.hid hx
      have k1 : (k : Int) < n := by omega
      obtain ⟨s0, s1⟩ := bdS_bd (ms.take k) (fun z hz => HM.out z (List.mem_of_mem_take hz))
      rw [List.length_take] at s1
      obtain ⟨x0, x1⟩ := HM.out x (List.mem_of_getElem? hx)
      have HN := Lib.hid (bdS_next hx)
      have hmax : max x.b (-x.b) = absV x.b := max_abs x.b
      have ha : 0 ≤ absV x.b ∧ absV x.b ≤ 9 := by unfold absV; split <;> omega
      generalize absV x.b = ab at HN hmax ha
      generalize bdS (ms.take k) = S at s0 s1 HN ⊢
      have HMX := Lib.hid hmax
      clear hx hmax
      go_wp2_with fail
      go_quiet ((go_at_call 54; exact quiet_most _ _ HMX.out _ _))
      go_wp2_with fail
      go_roundw
      case rel => exact ⟨k + 1, _, by go_num, by omega, by rw [HN.out], by rw [HW.out]; exact World.drewN_drewN _ _ _⟩
      case measure => simp [intOf]; omega
    · have hkn : k = n := by omega
      subst hkn
      have HE := Lib.hid (show ms.take k = ms by rw [List.take_of_length_le (by omega)])
      go_wp2_with fail
      go_ret
      exact ⟨by rw [HE.out]; rfl, _, HW.out⟩
set_option maxHeartbeats 1000000 in
theorem abs_any (a : Int) (w : World) (h0 : -1000 ≤ a) (h1 : a ≤ 1000) : Calls Try.prog 59 #[.int .i64 a] w fun e w' => e = .returned (.int .i64 (absV a)) ∧ w = w' := by
  by_cases h : a < 0
  · go_enter Try.func59, Try.ntmps59
    go_wp2_with fail
    go_ret
    exact ⟨by simp [absV, h], rfl⟩
  · go_enter Try.func59, Try.ntmps59
    go_wp2_with fail
    go_ret
    exact ⟨by rw [show absV a = a by unfold absV; rw [if_neg (by omega)]]; rfl, rfl⟩
set_option maxHeartbeats 2000000 in
theorem beadsOf_any (A : Option Addr) (n c B : Nat) (ms : List Bmv) (w : World) (h : Reads w B 3 A n ((bmvF ms).map (Value.int .i64))) (hB : B ≤ w.heap.size) (hn : n ≤ 1000) (hm : ∀ m ∈ ms, MvIn m) :
    Calls Try.prog 56 #[.slice A n c] w fun e w' => e = .returned (.int .i64 (bdS ms)) ∧ Below w.heap.size w w' := by
  have hl := h.bmvLen
  have H := Lib.hid h
  have HL := Lib.hid hl
  have HM := Lib.hid hm
  clear h hm
  go_enter Try.func56, Try.ntmps56
  go_wp2_with fail
  go_loopw [3, 8] (fun s i wr => ∃ k : Nat, i = .int .i64 (k : Int) ∧ k ≤ n ∧ s = .int .i64 (bdS (ms.take k)) ∧ Below w.heap.size w wr) (fun _ i _ => n - (intOf i).toNat)
  case atStart => exact ⟨0, rfl, by omega, by simp [bdS], Below.refl _ _⟩
  case round =>
    obtain ⟨wq, rfl⟩ : ∃ wq : World, wq = wr := ⟨_, rfl⟩
    obtain ⟨k, rfl, hk, rfl, hb⟩ := hrel
    have HW := Lib.hid hb
    have R := Lib.hid (H.out.below (hb.mono hB))
    have k0 : (0 : Int) ≤ k := by omega
    clear hb
    by_cases hlt : k < n
    · obtain ⟨b, o, x, hAx, hx, hc0, hc1, hc2⟩ := R.out.bmv hlt
      subst hAx
      have HX := Lib.hid hx
      have k1 : (k : Int) < n := by omega
      obtain ⟨s0, s1⟩ := bdS_bd (ms.take k) (fun z hz => HM.out z (List.mem_of_mem_take hz))
      rw [List.length_take] at s1
      obtain ⟨x0, x1⟩ := HM.out x (List.mem_of_getElem? hx)
      have HN := Lib.hid (bdS_next hx)
      have HAB := Lib.hid (abs_any x.b (h0 := by omega) (h1 := by omega))
      have ha : 0 ≤ absV x.b ∧ absV x.b ≤ 9 := by unfold absV; split <;> omega
      generalize absV x.b = ab at HN HAB ha
      generalize bdS (ms.take k) = S at s0 s1 HN ⊢
      clear hx
      go_wp2_with (go_at_call 59; refine (HAB.out _).mono ?_; rintro e w' ⟨rfl, rfl⟩)
      go_roundw
      case rel => exact ⟨k + 1, by go_num, by omega, by rw [HN.out], ext_alloc HW.out _⟩
      case measure => simp [intOf]; omega
    · have hkn : k = n := by omega
      subst hkn
      have HE := Lib.hid (show ms.take k = ms by rw [List.take_of_length_le (by omega)])
      go_wp2_with fail
      go_ret
      exact ⟨by rw [HE.out]; rfl, HW.out⟩
end Go.Proofs.Ytkgbcjiinicffaa
