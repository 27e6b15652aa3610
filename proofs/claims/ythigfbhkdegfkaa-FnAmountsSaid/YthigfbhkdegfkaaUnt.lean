/- Words, units, systems: plain functions and the tests of words. No condition. -/
import Derived.Test.YthigfbhkdegfkaaAccV
import Derived.Test.YthigfbhkdegfkaaWord
namespace Go.Proofs.Ythigfbhkdegfkaa
open Go.RowKit

theorem tol_eq (a b : ByteArray) : (a.toList == b.toList) = decide (a = b) := by
  by_cases h : a = b
  · subst h; simp
  · have : a.toList ≠ b.toList := by
      intro e
      rw [ByteArray.toList_eq, ByteArray.toList_eq] at e
      exact h (ByteArray.ext (Array.ext' e))
    simp [h, this]
def letB (c : Int) : Bool := decide (97 ≤ c) && decide (c ≤ 122)
def lettersTo (s : ByteArray) (k : Nat) : Bool := (List.range k).all fun i => letB (byteAt s i)
def wordB (s : ByteArray) : Bool := inB (s.size : Int) 1 10 && lettersTo s s.size
theorem letters_next {s : ByteArray} {k : Nat} (h : lettersTo s k = true) (h2 : letB (byteAt s k) = true) : lettersTo s (k + 1) = true := by
  unfold lettersTo at *
  rw [List.range_succ, List.all_append, h]
  simp [h2]
theorem letters_miss {s : ByteArray} {k : Nat} (hk : k < s.size) (h2 : letB (byteAt s k) = false) : wordB s = false := by
  unfold wordB
  have : lettersTo s s.size = false := by
    unfold lettersTo
    rw [List.all_eq_false]
    exact ⟨k, List.mem_range.2 hk, by simp [h2]⟩
  rw [this]; simp
set_option maxHeartbeats 2000000 in
theorem isWord_any (s : ByteArray) (hs : s.size ≤ 1048576) (w : World) :
    Calls Try.prog 58 #[.string s] w fun e w' => e = .returned (.bool (wordB s)) ∧ w = w' := by
  cases hl : inB (s.size : Int) 1 10
  · have HF := Lib.hid (show wordB s = false by simp [wordB, hl])
    go_enter Try.func58, Try.ntmps58
    go_wp2_with (go_at_call 43; refine (within_any _ _ _ _).mono ?_; rintro e w' ⟨rfl, rfl⟩; rw [hl])
    go_ret
    exact ⟨by rw [HF.out]; rfl, rfl⟩
  · go_enter Try.func58, Try.ntmps58
    go_wp2_with (go_at_call 43; refine (within_any _ _ _ _).mono ?_; rintro e w' ⟨rfl, rfl⟩; rw [hl])
    go_loop [3] (fun i => ∃ k : Nat, i = .int .i64 (k : Int) ∧ k ≤ s.size ∧ lettersTo s k = true) (fun i => s.size - (intOf i).toNat)
    case atStart => exact ⟨0, rfl, by omega, rfl⟩
    case round =>
      obtain ⟨k, rfl, hk, hh⟩ := hrel
      have HH := Lib.hid hh
      have k0 : (0 : Int) ≤ k := by omega
      clear hh
      by_cases hlt : k < s.size
      · have k1 : (k : Int) < s.size := by omega
        have hz := get_byteAt s k hlt
        by_cases h1 : byteAt s k < 97
        · have HF := Lib.hid (letters_miss hlt (show letB (byteAt s k) = false by simp [letB]; omega))
          have d1 : decide (byteAt s k < 97) = true := by simp [h1]
          go_wp2
          go_ret
          exact ⟨by rw [HF.out]; rfl, rfl⟩
        · have d1 : decide (byteAt s k < 97) = false := by simp; omega
          by_cases h2 : 122 < byteAt s k
          · have HF := Lib.hid (letters_miss hlt (show letB (byteAt s k) = false by simp [letB]; omega))
            have d2 : decide (122 < byteAt s k) = true := by simp [h2]
            go_wp2
            go_ret
            exact ⟨by rw [HF.out]; rfl, rfl⟩
          · have HN := Lib.hid (letters_next HH.out (show letB (byteAt s k) = true by simp [letB]; omega))
            have d2 : decide (122 < byteAt s k) = false := by simp; omega
            go_wp2
            go_round
            case rel => exact ⟨k + 1, by go_num, by omega, HN.out⟩
            case measure => simp [intOf]; omega
      · have HF := Lib.hid (show wordB s = true by unfold wordB; rw [hl, show lettersTo s s.size = true by rw [← HH.out, show k = s.size from by omega]]; rfl)
        go_wp2
        go_ret
        exact ⟨by rw [HF.out]; rfl, rfl⟩
set_option maxHeartbeats 2000000 in
theorem l2Word_any (s : ByteArray) (hs : s.size ≤ 1048576) (w : World) :
    Calls Try.prog 66 #[.string s] w fun e w' => e = .returned (.bool (wordB s)) ∧ w = w' := by
  go_enter Try.func66, Try.ntmps66
  go_wp2
  go_loop [3] (fun i => ∃ k : Nat, i = .int .i64 (k : Int) ∧ k ≤ s.size ∧ lettersTo s k = true) (fun i => s.size - (intOf i).toNat)
  case atStart => exact ⟨0, rfl, by omega, rfl⟩
  case round =>
    obtain ⟨k, rfl, hk, hh⟩ := hrel
    have HH := Lib.hid hh
    have k0 : (0 : Int) ≤ k := by omega
    clear hh
    by_cases hlt : k < s.size
    · have k1 : (k : Int) < s.size := by omega
      have hz := get_byteAt s k hlt
      by_cases h1 : byteAt s k < 97
      · have HF := Lib.hid (letters_miss hlt (show letB (byteAt s k) = false by simp [letB]; omega))
        have d1 : decide (byteAt s k < 97) = true := by simp [h1]
        go_wp2
        go_ret
        exact ⟨by rw [HF.out]; rfl, rfl⟩
      · have d1 : decide (byteAt s k < 97) = false := by simp; omega
        by_cases h2 : 122 < byteAt s k
        · have HF := Lib.hid (letters_miss hlt (show letB (byteAt s k) = false by simp [letB]; omega))
          have d2 : decide (122 < byteAt s k) = true := by simp [h2]
          go_wp2
          go_ret
          exact ⟨by rw [HF.out]; rfl, rfl⟩
        · have HN := Lib.hid (letters_next HH.out (show letB (byteAt s k) = true by simp [letB]; omega))
          have d2 : decide (122 < byteAt s k) = false := by simp; omega
          go_wp2
          go_round
          case rel => exact ⟨k + 1, by go_num, by omega, HN.out⟩
          case measure => simp [intOf]; omega
    · have HF := Lib.hid (show wordB s = inB (s.size : Int) 1 10 by unfold wordB; rw [show lettersTo s s.size = true by rw [← HH.out, show k = s.size from by omega]]; simp)
      go_wp2_with (go_at_call 38; refine (l1In_any _ _ _ _).mono ?_; rintro e w' ⟨rfl, rfl⟩)
      go_ret
      exact ⟨by rw [HF.out]; rfl, rfl⟩

/-- Unit: a name and a size. -/
structure Unt where
  nm : ByteArray
  sz : Int
@[reducible] def Unt.val (x : Unt) : Value := .agg #[.string x.nm, .int .i64 x.sz]
def Unt.cs (x : Unt) : List Value := [.string x.nm, .int .i64 x.sz]
def untF (us : List Unt) : List Value := us.flatMap Unt.cs
theorem untF_len : ∀ (us : List Unt), (untF us).length = us.length * 2
  | [] => rfl
  | x :: us => by
    have := untF_len us
    unfold untF at *
    rw [List.flatMap_cons, List.length_append, this, List.length_cons]
    simp only [Unt.cs, List.length_cons, List.length_nil]; omega
theorem untF_app (a b : List Unt) : untF (a ++ b) = untF a ++ untF b := List.flatMap_append
theorem untF_at : ∀ {us : List Unt} {k : Nat} {x : Unt}, us[k]? = some x → (untF us)[k * 2]? = some (.string x.nm) ∧ (untF us)[k * 2 + 1]? = some (.int .i64 x.sz)
  | [], k, x, h => by simp at h
  | y :: us, 0, x, h => by
    obtain rfl : y = x := by simpa using h
    simp [untF, Unt.cs]
  | y :: us, k + 1, x, h => by
    have ih := untF_at (us := us) (k := k) (x := x) (by simpa using h)
    have e : untF (y :: us) = y.cs ++ untF us := rfl
    rw [e]
    refine ⟨?_, ?_⟩ <;> (rw [List.getElem?_append_right (by simp only [Unt.cs, List.length_cons, List.length_nil]; omega)]; simp only [Unt.cs, List.length_cons, List.length_nil])
    · rw [show (k + 1) * 2 - (0 + 1 + 1) = k * 2 from by omega]; exact ih.1
    · rw [show (k + 1) * 2 + 1 - (0 + 1 + 1) = k * 2 + 1 from by omega]; exact ih.2
theorem Reads.unt {w : World} {B n : Nat} {A : Option Addr} {us : List Unt} (h : Reads w B 2 A n (untF us)) {k : Nat} (hk : k < n) :
    ∃ b o x, A = some ⟨b, o, none⟩ ∧ us[k]? = some x ∧ w.cell? ⟨b, o + k * 2, none⟩ = some (.string x.nm) ∧ w.cell? ⟨b, o + k * 2 + 1, none⟩ = some (.int .i64 x.sz) := by
  have hl : (untF us).length = n * 2 := h.1
  rw [untF_len] at hl
  obtain ⟨ad, e, _, hc⟩ := h.2 (by omega)
  have hx : us[k]? = some (us[k]'(by omega)) := List.getElem?_eq_getElem (by omega)
  generalize us[k]'(by omega) = x at hx
  have h0 : us[0]? = some (us[0]'(by omega)) := List.getElem?_eq_getElem (by omega)
  generalize us[0]'(by omega) = x0 at h0
  obtain ⟨b, o, s⟩ := ad
  have hs : s = none := by
    have := World.cell?_spot (hc 0 _ (by have := (untF_at h0).1; rwa [Nat.zero_mul] at this))
    simpa [Addr.add] using this
  subst hs
  obtain ⟨c0, c1⟩ := untF_at hx
  refine ⟨b, o, x, e, hx, ?_, ?_⟩
  · have := hc _ _ c0; rwa [Addr.add_lit] at this
  · have := hc _ _ c1; rwa [Addr.add_lit] at this
theorem Reads.untLen {w : World} {B n : Nat} {A : Option Addr} {us : List Unt} (h : Reads w B 2 A n (untF us)) : us.length = n := by
  have hl : (untF us).length = n * 2 := h.1
  rw [untF_len] at hl
  omega
/-- Is there a system? -/
def untB (us : List Unt) (k : Nat) (x : Unt) : Bool := wordB x.nm && ((if k = 0 then decide (x.sz = 1) else inB x.sz 2 100) && (us.take k).all fun y => decide (y.nm ≠ x.nm))
def sysTo (us : List Unt) (k : Nat) : Prop := ∀ i x, i < k → us[i]? = some x → untB us i x = true
def sysB (us : List Unt) : Bool := inB (us.length : Int) 1 6 && (List.range us.length).all fun i => match us[i]? with
  | some x => untB us i x
  | none => true
theorem sysB_of {us : List Unt} (h : sysTo us us.length) : sysB us = inB (us.length : Int) 1 6 := by
  unfold sysB
  have : ((List.range us.length).all fun i => match us[i]? with
    | some x => untB us i x
    | none => true) = true := by
    rw [List.all_eq_true]
    intro i hi
    have hi := List.mem_range.1 hi
    rw [List.getElem?_eq_getElem hi]
    exact h i _ hi (List.getElem?_eq_getElem hi)
  rw [this]; simp
theorem sysB_miss {us : List Unt} {k : Nat} {x : Unt} (hx : us[k]? = some x) (h : untB us k x = false) : sysB us = false := by
  unfold sysB
  have : ((List.range us.length).all fun i => match us[i]? with
    | some x => untB us i x
    | none => true) = false := by
    rw [List.all_eq_false]
    exact ⟨k, List.mem_range.2 (List.getElem?_eq_some_iff.1 hx).1, by simp [hx, h]⟩
  rw [this]; simp
theorem sysB_to {us : List Unt} (h : sysB us = true) : (1 ≤ us.length ∧ us.length ≤ 6) ∧ sysTo us us.length := by
  unfold sysB at h
  simp only [Bool.and_eq_true] at h
  have h1 := inB_true h.1
  refine ⟨by omega, fun i x hi hx => ?_⟩
  have := List.all_eq_true.1 h.2 i (List.mem_range.2 hi)
  rwa [hx] at this
end Go.Proofs.Ythigfbhkdegfkaa
