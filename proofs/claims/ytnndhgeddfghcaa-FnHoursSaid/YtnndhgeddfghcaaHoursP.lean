/- What the law on hours says, without the program. No condition. -/
import Derived.Test.YtnndhgeddfghcaaShift
import Derived.Test.YtnndhgeddfghcaaHours
import Derived.Test.YtnndhgeddfghcaaGap
import Derived.Test.YtnndhgeddfghcaaLessP
namespace Go.Proofs.Ytnndhgeddfghcaa
open Go.RowKit

/-- All minutes. -/
def minS : List Lesn → Int
  | [] => 0
  | x :: xs => x.m + minS xs
theorem minS_app : ∀ (xs ys : List Lesn), minS (xs ++ ys) = minS xs + minS ys
  | [], ys => by simp [minS]
  | x :: xs, ys => by rw [List.cons_append, minS, minS, minS_app xs ys]; omega
theorem minS_at {xs : List Lesn} {k : Nat} {x : Lesn} (hx : xs[k]? = some x) : minS (xs.take (k + 1)) = minS (xs.take k) + x.m := by
  rw [take_at hx, minS_app]; simp [minS]
theorem minS_bd : ∀ {xs : List Lesn}, (∀ x ∈ xs, x.ok = true) → 0 ≤ minS xs ∧ minS xs ≤ 90 * (xs.length : Int)
  | [], _ => by simp [minS]
  | x :: xs, h => by
    have ih := minS_bd (fun y hy => h y (List.mem_cons_of_mem _ hy))
    have hx := les_parts (h x List.mem_cons_self)
    rw [minS, List.length_cons]; omega
/-- The minutes in rows. -/
def rowS : List (List Int) → Int
  | [] => 0
  | r :: rs => (r.sum - r.headD 0) + rowS rs
theorem rowS_app : ∀ (a b : List (List Int)), rowS (a ++ b) = rowS a + rowS b
  | [], b => by simp [rowS]
  | r :: a, b => by rw [List.cons_append, rowS, rowS, rowS_app a b]; omega
theorem rowS_at {rs : List (List Int)} {k : Nat} {r : List Int} (h : rs[k]? = some r) : rowS (rs.take (k + 1)) = rowS (rs.take k) + (r.sum - r.headD 0) := by
  rw [take_at h, rowS_app]; simp [rowS]
/-- All teachers' minutes. -/
def hourS (xs : List Lesn) : Nat → Int
  | 0 => 0
  | k + 1 => hourS xs k + hourV ((k : Int) + 1) xs
theorem hourS_nil : ∀ k, hourS [] k = 0
  | 0 => rfl
  | k + 1 => by rw [hourS, hourS_nil k]; rfl
theorem hourS_cons (x : Lesn) (xs : List Lesn) : ∀ k, hourS (x :: xs) k = (if 1 ≤ x.t ∧ x.t ≤ (k : Int) then x.m else 0) + hourS xs k
  | 0 => by
    rw [hourS, hourS, if_neg (by omega)]; rfl
  | k + 1 => by
    rw [hourS, hourS, hourS_cons x xs k, hourV]
    by_cases h1 : x.t = (k : Int) + 1
    · rw [if_pos h1, if_neg (by omega), if_pos (by omega)]; omega
    · rw [if_neg h1]
      by_cases h2 : 1 ≤ x.t ∧ x.t ≤ (k : Int)
      · rw [if_pos h2, if_pos (by omega)]; omega
      · rw [if_neg h2, if_neg (by omega)]; omega
theorem hourS_all : ∀ {xs : List Lesn}, (∀ x ∈ xs, x.ok = true) → hourS xs 20 = minS xs
  | [], _ => hourS_nil 20
  | x :: xs, h => by
    have hx := les_parts (h x List.mem_cons_self)
    rw [hourS_cons, hourS_all (fun y hy => h y (List.mem_cons_of_mem _ hy)), minS, if_pos (by omega)]
theorem rowS_hours {xs : List Lesn} (h : ∀ x ∈ xs, x.ok = true) : ∀ k, rowS (hoursTo xs k) = hourS xs k
  | 0 => rfl
  | k + 1 => by
    have hb := hourV_bd (t := (k : Int) + 1) h
    rw [hoursTo, rowS_app, rowS_hours h k, hourS]
    split
    · simp [rowS]; omega
    · rw [rowS]; omega
theorem hours_row {xs : List Lesn} : ∀ {k : Nat} {r : List Int}, r ∈ hoursTo xs k → ∃ a b : Int, r = [a, b] ∧ 1 ≤ a ∧ a ≤ k ∧ b = hourV a xs
  | 0, r, h => by simp [hoursTo] at h
  | k + 1, r, h => by
    rw [hoursTo] at h
    rcases List.mem_append.1 h with h | h
    · obtain ⟨a, b, h1, h2, h3, h4⟩ := hours_row h
      exact ⟨a, b, h1, h2, by omega, h4⟩
    · split at h
      · obtain rfl : r = _ := by simpa using h
        exact ⟨_, _, rfl, by omega, by omega, rfl⟩
      · simp at h
/-- The law's sum, in letters. -/
theorem hours_letters {xs : List Lesn} (h : lessB xs = true) : minS xs - rowS (hoursL xs) = 0 ∧ (∀ k, 0 ≤ minS (xs.take k) ∧ minS (xs.take k) ≤ 1080) ∧
    (∀ k, 0 ≤ rowS ((hoursL xs).take k) ∧ rowS ((hoursL xs).take k) ≤ 100000) ∧ ∀ r ∈ hoursL xs, ∃ a b : Int, r = [a, b] ∧ 0 ≤ a ∧ a ≤ 20 ∧ 0 ≤ b ∧ b ≤ 1080 := by
  have hall := less_allH h
  have hl := less_len h
  have e : hoursL xs = hoursTo xs 20 := by unfold hoursL; rw [h]; simp
  rw [e]
  have hrow : ∀ r ∈ hoursTo xs 20, ∃ a b : Int, r = [a, b] ∧ 0 ≤ a ∧ a ≤ 20 ∧ 0 ≤ b ∧ b ≤ 1080 := by
    intro r hr
    obtain ⟨a, b, h1, h2, h3, h4⟩ := hours_row hr
    have hb := hourV_bd (t := a) hall
    exact ⟨a, b, h1, by omega, by omega, by omega, by omega⟩
  have hbd : ∀ (rs : List (List Int)), (∀ r ∈ rs, ∃ a b : Int, r = [a, b] ∧ 0 ≤ a ∧ a ≤ 20 ∧ 0 ≤ b ∧ b ≤ 1080) → 0 ≤ rowS rs ∧ rowS rs ≤ 1080 * (rs.length : Int) := by
    intro rs
    induction rs with
    | nil => intro _; simp [rowS]
    | cons r rs ih =>
      intro hr
      obtain ⟨i1, i2⟩ := ih (fun s hs => hr s (List.mem_cons_of_mem _ hs))
      obtain ⟨a, b, rfl, _, _, h3, h4⟩ := hr r List.mem_cons_self
      rw [rowS, List.length_cons]
      simp
      omega
  refine ⟨by rw [rowS_hours hall, hourS_all hall]; omega, fun k => ?_, fun k => ?_, hrow⟩
  · have := minS_bd (xs := xs.take k) (fun x hx => hall x (List.mem_of_mem_take hx))
    rw [List.length_take] at this; omega
  · have h1 := hbd ((hoursTo xs 20).take k) (fun r hr => hrow r (List.mem_of_mem_take hr))
    have h2 := hoursTo_len xs 20
    rw [List.length_take] at h1; omega
/-- Shifting back. -/
theorem shift_back {xs : List Lesn} {id d b : Int} (h : shiftOk xs id d b = true) {i : Nat} {z : Lesn} (hz : xs[i]? = some z) (hi : z.i = id) : shiftOk (shiftL xs id d b) id z.d z.b = true → shiftL (shiftL xs id d b) id z.d z.b = xs := by
  have h' := h
  unfold shiftOk at h'
  split at h'
  · rename_i y hy
    simp only [Bool.and_eq_true] at h'
    obtain ⟨hl, hok, hf⟩ := h'
    obtain ⟨s1, s2⟩ := shift_at d b hy hl
    rw [hok, hf] at s2
    simp only [Bool.and_self, if_true] at s2
    have hyi := findN_id hy
    have hii : i = findN id xs := by
      have := less_same hl hy hz
      rw [hyi, hi] at this
      simp at this
      exact this
    subst hii
    rw [hy] at hz
    injection hz with hz
    subst hz
    rw [s2]
    have hlt := (List.getElem?_eq_some_iff.1 hy).1
    have hset : (xs.set (findN id xs) (movedL y d b))[findN id xs]? = some (movedL y d b) := by rw [List.getElem?_set_self hlt]
    have hfn : findN id (xs.set (findN id xs) (movedL y d b)) = findN id xs := by
      refine findN_hit hset hyi (fun j a hj ha e => ?_)
      rw [List.getElem?_set_ne (by omega)] at ha
      have h1 := less_same hl hy ha
      rw [e, hyi] at h1
      simp at h1
      omega
    intro hb
    have hl2 : lessB (xs.set (findN id xs) (movedL y d b)) = true := by rw [less_set hl hy (x := movedL y d b) rfl]; exact hok
    have hy2 : (xs.set (findN id xs) (movedL y d b))[findN id (xs.set (findN id xs) (movedL y d b))]? = some (movedL y d b) := by rw [hfn]; exact hset
    obtain ⟨t1, t2⟩ := shift_at y.d y.b hy2 hl2
    rw [hb] at t1
    rw [← t1, if_pos rfl, hfn] at t2
    rw [t2, List.set_set]
    have e : movedL (movedL y d b) y.d y.b = y := rfl
    rw [e]
    apply List.ext_getElem?
    intro j
    by_cases hj : findN id xs = j
    · subst hj
      rw [List.getElem?_set_self hlt, hy]
    · rw [List.getElem?_set_ne hj]
  · cases h'
theorem gapT_pos {cls : Int} {xs : List Lesn} : ∃ r ok, gapT cls xs = .tuple #[.int .i64 r, .bool ok] ∧ 0 ≤ r := by
  unfold gapT
  split
  · rename_i h
    exact ⟨_, _, rfl, (gapDays_bd (less_all h.1) 7).1⟩
  · exact ⟨_, _, rfl, by omega⟩
theorem lesTextT_ok (x : Lesn) : ∃ s, lesTextT x = .tuple #[.string s, .bool x.ok] := by
  unfold lesTextT
  cases h : x.ok <;> simp
theorem less_ne {xs : List Lesn} (h : lessB xs = false) : 0 < xs.length := by
  cases xs with
  | nil => simp [lessB, lessGo] at h
  | cons x xs => simp
theorem hoursL_none {xs : List Lesn} (h : lessB xs = false) : hoursL xs = [] := by unfold hoursL; rw [h]; simp
theorem shiftL_none {xs : List Lesn} {id d b : Int} (h : shiftOk xs id d b = false) : shiftL xs id d b = [] := by
  unfold shiftL
  split
  · rw [if_neg (by rw [h]; simp)]
  · rfl
end Go.Proofs.Ytnndhgeddfghcaa
