/- Scripts: the rod at the end, the opposite script, the script that adds a number. Plain part. No condition. -/
import Derived.Test.YthigfbhkdegfkaaWord
import Derived.Test.YthigfbhkdegfkaaNum
namespace Go.Proofs.Ythigfbhkdegfkaa
open Go.RowKit

/-- The rod behind one word. -/
def rodStep (w : ByteArray) (r : Int) : Int := if byteAt (wordP w) 0 = 60 then r - wordT w else if byteAt (wordP w) 0 = 62 then r + wordT w else r
def rodGo (rods : Int) : List ByteArray → Int → Option Int
  | [], r => some r
  | w :: ws, r => if inB (rodStep w r) 0 (rods - 1) = true then rodGo rods ws (rodStep w r) else none
theorem rodGo_next {rods r : Int} {ws : List ByteArray} {k : Nat} {w : ByteArray} (h : ws[k]? = some w) (hi : inB (rodStep w r) 0 (rods - 1) = true) : rodGo rods (ws.drop k) r = rodGo rods (ws.drop (k + 1)) (rodStep w r) := by
  obtain ⟨hk, e⟩ := List.getElem?_eq_some_iff.1 h
  rw [List.drop_eq_getElem_cons hk, e, rodGo, if_pos hi]
theorem rodGo_out {rods r : Int} {ws : List ByteArray} {k : Nat} {w : ByteArray} (h : ws[k]? = some w) (hi : inB (rodStep w r) 0 (rods - 1) = false) : rodGo rods (ws.drop k) r = none := by
  obtain ⟨hk, e⟩ := List.getElem?_eq_some_iff.1 h
  rw [List.drop_eq_getElem_cons hk, e, rodGo, hi]; simp
theorem plain_lt {w : ByteArray} (h : plainB w = true) : (w.data.toList == [60]) = decide (byteAt w 0 = 60) := by
  rcases plain_list h with e | e | e | ⟨a, b, e, h3, _⟩
  · simp [byteAt, e]
  · simp [byteAt, e]
  · simp [byteAt, e]
  · have : ¬ (a.toNat : Int) = 60 := by omega
    simp [byteAt, e]; omega
theorem plain_gt {w : ByteArray} (h : plainB w = true) : (w.data.toList == [62]) = decide (byteAt w 0 = 62) := by
  rcases plain_list h with e | e | e | ⟨a, b, e, h3, _⟩
  · simp [byteAt, e]
  · simp [byteAt, e]
  · simp [byteAt, e]
  · have : ¬ (a.toNat : Int) = 62 := by omega
    simp [byteAt, e]; omega
def rodV (s : ByteArray) (rods : Int) : Option Int := if scriptB s = true ∧ inB rods 1 8 = true then rodGo rods (wordsB s) (rods - 1) else none
def rodT (s : ByteArray) (rods : Int) : Value := match rodV s rods with
  | some r => .tuple #[.int .i64 r, .bool true]
  | none => .tuple #[.int .i64 0, .bool false]

/-- A byte with the signs exchanged. -/
def turnC (c : UInt8) : UInt8 := if c = 43 then 45 else if c = 45 then 43 else if c = 60 then 62 else if c = 62 then 60 else c
def turnB (w : ByteArray) : ByteArray := ⟨(w.data.toList.map turnC).toArray⟩
theorem turn_size (w : ByteArray) : (turnB w).size = w.size := by
  rw [size_list, size_list]
  simp [turnB]
def hasC (w : ByteArray) : Bool := w.data.toList.contains 99
theorem plain_c {w : ByteArray} (h : plainB w = true) : hasC w = (w.data.toList == [99]) := by
  unfold hasC
  rcases plain_list h with e | e | e | ⟨a, b, e, h3, h4, h5⟩
  · rw [e]; rfl
  · rw [e]; rfl
  · rw [e]; rfl
  · have ha : a ≠ 99 := by rintro rfl; simp at h3
    have hb : b ≠ 99 := by rintro rfl; simp at h5
    rw [e]
    simp [Ne.symm ha, Ne.symm hb]
theorem hasC_ok {w : ByteArray} (h : wordOk w = true) : hasC w = ((wordP w).data.toList == [99]) := by
  have h1 := plain_c h
  cases hp : preB w with
  | false => rw [← h1]; unfold wordP; simp [hp]
  | true =>
    rw [← h1]
    have e : wordP w = w.extract 1 w.size := by unfold wordP; simp [hp]
    rw [e]
    unfold preB at hp
    simp only [Bool.and_eq_true, decide_eq_true_eq] at hp
    have h2 := inB_true hp.2
    obtain ⟨⟨l⟩⟩ := w
    match l with
    | [] => simp [byteAt] at h2
    | a :: l =>
      have ha : a ≠ 99 := by rintro rfl; simp [byteAt] at h2
      have e2 : ((ByteArray.mk ⟨a :: l⟩).extract 1 (ByteArray.mk ⟨a :: l⟩).size).data.toList = l := by
        rw [ByteArray.data_extract]
        simp [ByteArray.size]
      unfold hasC
      rw [e2]
      simp [Ne.symm ha]
/-- Texts put together with one between them. -/
def joinTo (sep : ByteArray) (ss : List ByteArray) : Nat → ByteArray
  | 0 => ⟨#[]⟩
  | k + 1 => (if k = 0 then joinTo sep ss k else joinTo sep ss k ++ sep) ++ ss.getD k ⟨#[]⟩
def joinB (sep : ByteArray) (ss : List ByteArray) : ByteArray := joinTo sep ss ss.length
theorem join_first {sep : ByteArray} {ss : List ByteArray} {s : ByteArray} (h : ss[0]? = some s) : joinTo sep ss 1 = joinTo sep ss 0 ++ s := by
  have e : joinTo sep ss (0 + 1) = (if 0 = 0 then joinTo sep ss 0 else joinTo sep ss 0 ++ sep) ++ ss.getD 0 ⟨#[]⟩ := rfl
  rw [e, if_pos rfl]
  simp [List.getD, h]
theorem join_next {sep : ByteArray} {ss : List ByteArray} {k : Nat} {s : ByteArray} (hk : 0 < k) (h : ss[k]? = some s) : joinTo sep ss (k + 1) = joinTo sep ss k ++ sep ++ s := by
  have e : joinTo sep ss (k + 1) = (if k = 0 then joinTo sep ss k else joinTo sep ss k ++ sep) ++ ss.getD k ⟨#[]⟩ := rfl
  rw [e, if_neg (by omega)]
  simp [List.getD, h]
theorem join_size {sep : ByteArray} {ss : List ByteArray} (hs : sep.size = 1) (h : ∀ s ∈ ss, s.size ≤ 80) : ∀ k, (joinTo sep ss k).size ≤ 81 * k
  | 0 => by simp [joinTo]; rfl
  | k + 1 => by
    have ih := join_size hs h k
    have hl : (ss.getD k ⟨#[]⟩).size ≤ 80 := by
      rw [List.getD]
      cases he : ss[k]? with
      | none => decide
      | some s => exact h s (List.mem_of_getElem? he)
    rw [joinTo, ByteArray.size_append]
    split
    · omega
    · rw [ByteArray.size_append, hs]; omega
def spB : ByteArray := ⟨#[32]⟩
def invR (s : ByteArray) : List ByteArray := ((wordsB s).map turnB).reverse
def invOk (s : ByteArray) : Bool := scriptB s && (wordsB s).all (fun w => !hasC w)
def invT (s : ByteArray) : Value := if invOk s = true then .tuple #[.string (joinB spB (invR s)), .bool true] else .tuple #[.string ⟨#[]⟩, .bool false]
/-- What the reference has put together behind j words: a blank behind each but the last. -/
def invTo (R : List ByteArray) (j : Nat) : ByteArray := if j = 0 then ⟨#[]⟩ else if j < R.length then joinTo spB R j ++ spB else joinTo spB R j
theorem invTo_next {R : List ByteArray} {j : Nat} {r : ByteArray} (h : R[j]? = some r) (hj : j + 1 < R.length) : invTo R (j + 1) = invTo R j ++ r ++ spB := by
  unfold invTo
  rw [if_neg (by omega), if_pos hj]
  by_cases h0 : j = 0
  · subst h0
    rw [if_pos rfl, join_first h]; rfl
  · rw [if_neg h0, if_pos (by omega), join_next (by omega) h]
theorem invTo_last {R : List ByteArray} {j : Nat} {r : ByteArray} (h : R[j]? = some r) (hj : j + 1 = R.length) : invTo R (j + 1) = invTo R j ++ r := by
  unfold invTo
  rw [if_neg (by omega), if_neg (by omega)]
  by_cases h0 : j = 0
  · subst h0
    rw [if_pos rfl, join_first h]; rfl
  · rw [if_neg h0, if_pos (by omega), join_next (by omega) h]
theorem invTo_end (R : List ByteArray) : invTo R R.length = joinB spB R := by
  unfold invTo joinB
  by_cases h0 : R.length = 0
  · rw [if_pos h0, h0]; rfl
  · rw [if_neg h0, if_neg (by omega)]

/-- The words that add a number. -/
def scrW (n : Nat) : List ByteArray := (if 0 < n % 10 then [(⟨#[43]⟩ : ByteArray) ++ numB ((n % 10 : Nat) : Int)] else []) ++ (if 10 ≤ n then [(⟨#[60]⟩ : ByteArray)] else [])
def scrN (n : Nat) : List ByteArray := if n = 0 then [] else scrW n ++ scrN (n / 10)
theorem scrN_zero : scrN 0 = [] := by rw [scrN]; simp
theorem scrN_pos {n : Nat} (h : 0 < n) : scrN n = scrW n ++ scrN (n / 10) := by
  rw [scrN, if_neg (by omega)]
theorem scrN_ne {n : Nat} (h : 0 < n) : scrN n ≠ [] := by
  intro e
  rw [scrN_pos h] at e
  have e1 := (List.append_eq_nil_iff.1 e).1
  unfold scrW at e1
  have e2 := List.append_eq_nil_iff.1 e1
  by_cases h1 : 0 < n % 10
  · rw [if_pos h1] at e2; simp at e2
  · by_cases h2 : 10 ≤ n
    · rw [if_pos h2] at e2; simp at e2
    · omega
/-- Texts with a blank behind each. -/
def spc : List ByteArray → ByteArray
  | [] => ⟨#[]⟩
  | w :: ws => w ++ spB ++ spc ws
theorem spc_app : ∀ (a b : List ByteArray), spc (a ++ b) = spc a ++ spc b
  | [], b => by rw [spc, List.nil_append, empty_app]
  | w :: a, b => by rw [List.cons_append, spc, spc, spc_app a b, ByteArray.append_assoc, ByteArray.append_assoc, ByteArray.append_assoc]
theorem join_take (sep : ByteArray) (a b : List ByteArray) : ∀ k, k ≤ a.length → joinTo sep (a ++ b) k = joinTo sep a k
  | 0, _ => rfl
  | k + 1, h => by
    have e : (a ++ b).getD k ⟨#[]⟩ = a.getD k ⟨#[]⟩ := by
      simp only [List.getD]
      rw [List.getElem?_append_left (by omega)]
    rw [joinTo, joinTo, join_take sep a b k (by omega), e]
theorem join_snoc (sep : ByteArray) (ss : List ByteArray) (s : ByteArray) : joinB sep (ss ++ [s]) = (if ss = [] then ⟨#[]⟩ else joinB sep ss ++ sep) ++ s := by
  unfold joinB
  rw [List.length_append, List.length_singleton, joinTo, join_take sep ss [s] ss.length (Nat.le_refl _)]
  have e : (ss ++ [s]).getD ss.length ⟨#[]⟩ = s := by simp [List.getD]
  rw [e]
  by_cases h : ss = []
  · subst h; rfl
  · rw [if_neg (by rw [List.length_eq_zero_iff]; exact h), if_neg h]
theorem spc_join (ws : List ByteArray) : ∀ (n : Nat), ws.length = n → ws ≠ [] → spc ws = joinB spB ws ++ spB := by
  intro n
  induction n generalizing ws with
  | zero => intro h h0; exact absurd (List.length_eq_zero_iff.1 h) h0
  | succ n ih =>
    intro h _
    obtain ⟨ys, y, rfl⟩ : ∃ ys y, ws = ys ++ [y] := ⟨ws.dropLast, ws.getLast (by rintro rfl; simp at h), (List.dropLast_concat_getLast _).symm⟩
    rw [spc_app, join_snoc]
    have e1 : spc [y] = y ++ spB := by rw [spc, spc, app_empty]
    rw [e1]
    by_cases h0 : ys = []
    · subst h0
      rw [if_pos rfl, spc, empty_app, empty_app]
    · rw [if_neg h0, ih ys (by simpa using h) h0]
      simp only [ByteArray.append_assoc]
theorem cut_last (a : ByteArray) : (a ++ spB).extract 0 ((a ++ spB).size - 1) = a := by
  apply ByteArray.ext
  rw [ByteArray.data_extract, ByteArray.data_append]
  have h1 : (a ++ spB).size = a.data.size + 1 := by rw [ByteArray.size_append]; rfl
  rw [h1, Nat.add_sub_cancel]
  simp
def scrB (n : Int) : ByteArray := joinB spB (scrN n.toNat)
theorem spc_size : ∀ (ws : List ByteArray), (∀ w ∈ ws, w.size ≤ 20) → (spc ws).size ≤ 21 * ws.length
  | [], _ => by simp [spc]; rfl
  | w :: ws, h => by
    have h1 := spc_size ws (fun x hx => h x (List.mem_cons_of_mem _ hx))
    have h2 := h w List.mem_cons_self
    rw [spc, ByteArray.size_append, ByteArray.size_append, List.length_cons]
    have : spB.size = 1 := rfl
    omega
theorem scrW_small (n : Nat) : ∀ w ∈ scrW n, w.size ≤ 20 := by
  intro w hw
  unfold scrW at hw
  rcases List.mem_append.1 hw with h | h
  · split at h
    · obtain rfl : w = _ := by simpa using h
      have := numB_size (show (n : Int) % 10 ≤ 9999999999 by omega)
      rw [ByteArray.size_append]
      have : (⟨#[43]⟩ : ByteArray).size = 1 := rfl
      omega
    · simp at h
  · split at h
    · obtain rfl : w = _ := by simpa using h
      decide
    · simp at h
theorem scrW_len (n : Nat) : (scrW n).length ≤ 2 := by
  unfold scrW
  rw [List.length_append]
  split <;> split <;> simp
theorem scrN_small : ∀ (n : Nat), ∀ w ∈ scrN n, w.size ≤ 20 := by
  intro n
  induction n using Nat.strongRecOn with
  | _ n ih =>
    intro w hw
    by_cases h : n = 0
    · subst h; rw [scrN_zero] at hw; simp at hw
    · rw [scrN_pos (by omega)] at hw
      rcases List.mem_append.1 hw with h1 | h1
      · exact scrW_small n w h1
      · exact ih (n / 10) (by omega) w h1
theorem scrN_len : ∀ (k n : Nat), n < 10 ^ k → (scrN n).length ≤ 2 * k
  | 0, n, h => by
    obtain rfl : n = 0 := by simpa using h
    rw [scrN_zero]; simp
  | k + 1, n, h => by
    by_cases h0 : n = 0
    · subst h0; rw [scrN_zero]; simp
    · have := scrN_len k (n / 10) (by rw [Nat.div_lt_iff_lt_mul (by omega)]; rw [Nat.pow_succ] at h; exact h)
      have := scrW_len n
      rw [scrN_pos (by omega), List.length_append]; omega
end Go.Proofs.Ythigfbhkdegfkaa
