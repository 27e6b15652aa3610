/- What the law on lessons says, without the program. No condition. -/
import Derived.Test.YtnndhgeddfghcaaShift
import Derived.Test.YtnndhgeddfghcaaPairs
namespace Go.Proofs.Ytnndhgeddfghcaa
open Go.RowKit

theorem slotIn_some {f : Nat → Nat → Bool} {d : Nat} : ∀ {n k d' k' : Nat}, slotIn f d n k = some (d', k') → d' = d ∧ f d k' = true ∧ k ≤ k' ∧ k' < k + n
  | 0, k, d', k', h => by simp [slotIn] at h
  | n + 1, k, d', k', h => by
    rw [slotIn] at h
    split at h
    · rename_i hf
      injection h with h
      injection h with h1 h2
      subst h1 h2
      exact ⟨rfl, hf, by omega, by omega⟩
    · obtain ⟨h1, h2, h3, h4⟩ := slotIn_some h
      exact ⟨h1, h2, by omega, by omega⟩
theorem slotDay_some {f : Nat → Nat → Bool} : ∀ {n d d' k' : Nat}, slotDay f n d = some (d', k') → f d' k' = true ∧ d ≤ d' ∧ d' < d + n ∧ k' < 45
  | 0, d, d', k', h => by simp [slotDay] at h
  | n + 1, d, d', k', h => by
    rw [slotDay] at h
    split at h
    · rename_i r hr
      injection h with h
      subst h
      obtain ⟨h1, h2, h3, h4⟩ := slotIn_some hr
      subst h1
      exact ⟨h2, by omega, by omega, by omega⟩
    · obtain ⟨h1, h2, h3, h4⟩ := slotDay_some h
      exact ⟨h1, by omega, by omega, h4⟩
theorem clB_comm (x y : Lesn) : clB x y = clB y x := by
  unfold clB meetB
  rw [show (x.d == y.d) = (y.d == x.d) from Bool.beq_comm, show (x.c == y.c) = (y.c == x.c) from Bool.beq_comm, show (x.t == y.t) = (y.t == x.t) from Bool.beq_comm, show (x.r == y.r) = (y.r == x.r) from Bool.beq_comm]
  generalize (y.d == x.d) = a
  generalize decide (x.b < endV y) = b
  generalize decide (y.b < endV x) = c
  cases a <;> cases b <;> cases c <;> rfl
theorem filter_set_len {p : Lesn → Bool} {v : Lesn} (hv : p v = false) : ∀ (l : List Lesn) (k : Nat), ((l.set k v).filter p).length ≤ (l.filter p).length
  | [], k => by simp
  | x :: l, 0 => by
    rw [List.set_cons_zero, List.filter_cons_of_neg (by simp [hv]), List.filter_cons]
    split <;> simp
  | x :: l, k + 1 => by
    have := filter_set_len hv l k
    rw [List.set_cons_succ, List.filter_cons, List.filter_cons]
    split <;> simp <;> omega
theorem pairsTo_at {xs : List Lesn} {m : Nat} {x : Lesn} (hx : xs[m]? = some x) : pairsTo xs (m + 1) = pairsTo xs m ++ pairsRow x (xs.drop (m + 1)) := by rw [pairsTo, hx]
/-- A lesson that was put where it clashes with no other one stands in no pair, and there are no more pairs. -/
theorem pairs_moved {xs : List Lesn} (hl : lessB xs = true) {i : Nat} {z x : Lesn} (hz : xs[i]? = some z) (he : x.i = z.i) (hf : freeB xs x = true) : ∀ m, m ≤ xs.length →
    (pairsTo (xs.set i x) m).length ≤ (pairsTo xs m).length ∧ ∀ r ∈ pairsTo (xs.set i x) m, hasB r z.i = false := by
  have hi := (List.getElem?_eq_some_iff.1 hz).1
  have hx : (xs.set i x)[i]? = some x := by rw [List.getElem?_set_self hi]
  have hcl : ∀ (j : Nat) (y : Lesn), xs[j]? = some y → j ≠ i → clB x y = false := by
    intro j y hy hne
    unfold freeB at hf
    rw [List.all_eq_true] at hf
    have h1 := hf y (List.mem_of_getElem? hy)
    have h2 := less_same hl hz hy
    rw [he, h2] at h1
    have h3 : (j == i) = false := by simp; exact hne
    rw [h3] at h1
    simpa using h1
  have hid : ∀ (j : Nat) (y : Lesn), xs[j]? = some y → j ≠ i → y.i ≠ z.i := by
    intro j y hy hne e
    have h2 := less_same hl hz hy
    rw [e] at h2
    simp at h2
    exact hne h2
  intro m
  induction m with
  | zero => intro _; exact ⟨by simp [pairsTo], by simp [pairsTo]⟩
  | succ m ih =>
    intro hm
    obtain ⟨ih1, ih2⟩ := ih (by omega)
    have hm' : xs[m]? = some (xs[m]'(by omega)) := List.getElem?_eq_getElem (by omega)
    generalize xs[m]'(by omega) = y at hm'
    by_cases hmi : m = i
    · subst hmi
      have e : pairsRow x ((xs.set m x).drop (m + 1)) = [] := by
        unfold pairsRow
        rw [List.map_eq_nil_iff, List.filter_eq_nil_iff]
        intro a ha
        obtain ⟨j, hj⟩ := List.mem_iff_getElem?.1 ha
        rw [List.getElem?_drop, List.getElem?_set_ne (by omega)] at hj
        rw [hcl _ _ hj (by omega)]; simp
      rw [pairsTo_at hx, pairsTo_at hm', e, List.append_nil, List.length_append]
      exact ⟨by omega, ih2⟩
    · have hym : (xs.set i x)[m]? = some y := by rw [List.getElem?_set_ne (by omega)]; exact hm'
      have hyx : clB y x = false := by rw [clB_comm]; exact hcl m y hm' hmi
      rw [pairsTo_at hym, pairsTo_at hm', List.length_append, List.length_append]
      constructor
      · have : (pairsRow y ((xs.set i x).drop (m + 1))).length ≤ (pairsRow y (xs.drop (m + 1))).length := by
          unfold pairsRow
          rw [List.length_map, List.length_map, List.drop_set]
          split
          · exact Nat.le_refl _
          · exact filter_set_len hyx _ _
        omega
      · intro r hr
        rcases List.mem_append.1 hr with hr | hr
        · exact ih2 r hr
        · unfold pairsRow at hr
          obtain ⟨a, ha, rfl⟩ := List.mem_map.1 hr
          obtain ⟨ha1, ha2⟩ := List.mem_filter.1 ha
          obtain ⟨j, hj⟩ := List.mem_iff_getElem?.1 ha1
          rw [List.getElem?_drop] at hj
          have hji : m + 1 + j ≠ i := by
            intro e
            rw [e, hx] at hj
            injection hj with hj
            subst hj
            rw [hyx] at ha2; cases ha2
          rw [List.getElem?_set_ne (by omega)] at hj
          have h1 := hid m y hm' hmi
          have h2 := hid _ a hj hji
          unfold hasB
          simp
          exact ⟨fun e => h1 e.symm, fun e => h2 e.symm⟩
theorem findN_id {id : Int} : ∀ {xs : List Lesn} {z : Lesn}, xs[findN id xs]? = some z → z.i = id
  | [], z, h => by simp at h
  | x :: xs, z, h => by
    rw [findN] at h
    split at h
    · rename_i hx
      obtain rfl : x = z := by simpa using h
      exact hx
    · exact findN_id (xs := xs) (by simpa using h)
theorem pairsL_good {xs : List Lesn} (h : lessB xs = true) : pairsL xs = pairsTo xs xs.length := by unfold pairsL; rw [h]; simp
theorem slot_facts {xs : List Lesn} {id a b : Int} (h : slotT xs id = .tuple #[.int .i64 a, .int .i64 b, .bool true]) :
    ∃ ys : List Lesn, shiftOk xs id a b = true ∧ shiftL xs id a b = ys ∧ pairsOk xs = true ∧ pairsOk ys = true ∧ (pairsL ys).length ≤ (pairsL xs).length ∧ ∀ r ∈ pairsL ys, hasB r id = false := by
  unfold slotT at h
  split at h
  · rename_i z hz
    split at h
    · rename_i hl
      unfold slotR at h
      split at h
      · rename_i d k hs
        obtain ⟨hf, _, hd, hk⟩ := slotDay_some hs
        injection h with h
        have h0 : (d : Int) = a := by have := congrArg (fun v => v[0]?) h; simpa using this
        have h1 : 480 + 15 * (k : Int) = b := by have := congrArg (fun v => v[1]?) h; simpa using this
        subst h0 h1
        unfold slotF at hf
        have hid : z.i = id := by
          exact findN_id hz
        have hok := moved_ok (less_ok hl hz) (d := (d : Int)) (b := 480 + 15 * (k : Int)) (inB_mk (by omega) (by omega)) (inB_mk (by omega) (by omega))
        obtain ⟨s1, s2⟩ := shift_at (d : Int) (480 + 15 * (k : Int)) hz hl
        rw [hok, hf] at s1 s2
        have hls := less_set hl hz (x := movedL z (d : Int) (480 + 15 * (k : Int))) rfl
        rw [hok] at hls
        obtain ⟨p1, p2⟩ := pairs_moved hl hz (x := movedL z (d : Int) (480 + 15 * (k : Int))) rfl hf xs.length (Nat.le_refl _)
        refine ⟨_, s1, s2, hl, ?_, ?_, ?_⟩
        · simpa [pairsOk] using hls
        · simp only [Bool.and_self, if_true]
          rw [pairsL_good hls, pairsL_good hl, List.length_set]; exact p1
        · simp only [Bool.and_self, if_true]
          rw [pairsL_good hls, List.length_set]
          intro r hr
          have := p2 r hr
          rwa [hid] at this
      · simp at h
    · simp [slotR] at h
  · simp [slotR] at h
end Go.Proofs.Ytnndhgeddfghcaa
