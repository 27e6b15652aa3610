/- Scripts: words, their readings, what they say. Plain part. No condition. -/
import Derived.Test.YthigfbhkdegfkaaBase
import Derived.Laws.Strings
import Derived.Laws.Concat
namespace Go.Proofs.Ythigfbhkdegfkaa
open Go.RowKit

/-- Byte i of a text (0 behind its end). -/
def byteAt (s : ByteArray) (i : Nat) : Int := ((s.data.toList.getD i 0).toNat : Int)
theorem get_byteAt (s : ByteArray) (i : Nat) (h : i < s.size) : (((s[i]'h).toNat : Nat) : Int) = byteAt s i := by
  obtain ⟨⟨l⟩⟩ := s
  have hl : i < l.length := h
  have e : (ByteArray.mk ⟨l⟩)[i]'h = l.getD i 0 := by
    simp only [List.getD, List.getElem?_eq_getElem hl, Option.getD_some]
    rfl
  unfold byteAt
  rw [e]
theorem byteAt_bd (s : ByteArray) (i : Nat) : 0 ≤ byteAt s i ∧ byteAt s i ≤ 255 := by
  unfold byteAt
  have := (s.data.toList.getD i 0).toNat_lt
  omega
theorem size_list (s : ByteArray) : s.size = s.data.toList.length := by
  obtain ⟨⟨l⟩⟩ := s
  rfl
theorem empty_app (s : ByteArray) : (⟨#[]⟩ : ByteArray) ++ s = s := by apply ByteArray.ext; simp [ByteArray.data_append]
theorem app_empty (s : ByteArray) : s ++ (⟨#[]⟩ : ByteArray) = s := by apply ByteArray.ext; simp [ByteArray.data_append]
theorem extract_le (s : ByteArray) (a b : Nat) : (s.extract a b).size ≤ s.size := by
  rw [ByteArray.size_extract]; omega

/-- The pieces of a text before byte i, and where the next one begins. -/
def cutsTo (s : ByteArray) (b : Int) : Nat → List ByteArray × Nat
  | 0 => ([], 0)
  | i + 1 => if byteAt s i = b then ((cutsTo s b i).1 ++ [s.extract (cutsTo s b i).2 i], i + 1) else cutsTo s b i
theorem cuts_hit {s : ByteArray} {b : Int} {i : Nat} (h : byteAt s i = b) : cutsTo s b (i + 1) = ((cutsTo s b i).1 ++ [s.extract (cutsTo s b i).2 i], i + 1) := by rw [cutsTo, if_pos h]
theorem cuts_miss {s : ByteArray} {b : Int} {i : Nat} (h : byteAt s i ≠ b) : cutsTo s b (i + 1) = cutsTo s b i := by rw [cutsTo, if_neg h]
theorem cuts_from (s : ByteArray) (b : Int) : ∀ i, (cutsTo s b i).2 ≤ i
  | 0 => by simp [cutsTo]
  | i + 1 => by
    have := cuts_from s b i
    rw [cutsTo]; split <;> simp <;> omega
theorem cuts_len (s : ByteArray) (b : Int) : ∀ i, (cutsTo s b i).1.length ≤ i
  | 0 => by simp [cutsTo]
  | i + 1 => by
    have := cuts_len s b i
    rw [cutsTo]; split <;> simp <;> omega
theorem cuts_small (s : ByteArray) (b : Int) : ∀ i, ∀ w ∈ (cutsTo s b i).1, w.size ≤ s.size
  | 0 => by simp [cutsTo]
  | i + 1 => by
    have ih := cuts_small s b i
    rw [cutsTo]
    split
    · intro w hw
      rcases List.mem_append.1 hw with h | h
      · exact ih w h
      · obtain rfl : w = _ := by simpa using h
        exact extract_le _ _ _
    · exact ih
def splitB (s : ByteArray) (b : Int) : List ByteArray := (cutsTo s b s.size).1 ++ [s.extract (cutsTo s b s.size).2 s.size]
theorem split_len (s : ByteArray) (b : Int) : (splitB s b).length ≤ s.size + 1 := by
  have := cuts_len s b s.size
  unfold splitB; simp; omega
theorem split_small (s : ByteArray) (b : Int) : ∀ w ∈ splitB s b, w.size ≤ s.size := by
  intro w hw
  rcases List.mem_append.1 hw with h | h
  · exact cuts_small s b _ w h
  · obtain rfl : w = _ := by simpa using h
    exact extract_le _ _ _
/-- The words of a script. -/
def wordsB (s : ByteArray) : List ByteArray := if s.size = 0 then [] else splitB s 32
theorem words_len {s : ByteArray} (h : s.size ≤ 80) : (wordsB s).length ≤ 81 := by
  have := split_len s 32
  unfold wordsB
  split
  · simp
  · omega
theorem words_small {s : ByteArray} (h : s.size ≤ 80) : ∀ w ∈ wordsB s, w.size ≤ 80 := by
  unfold wordsB
  split
  · simp
  · intro w hw; have := split_small s 32 w hw; omega

/-- A word that is not repeated. -/
def plainB (w : ByteArray) : Bool :=
  if w.size = 2 then (byteAt w 0 == 43 || byteAt w 0 == 45) && inB (byteAt w 1) 49 57
  else w.data.toList == [60] || (w.data.toList == [62] || w.data.toList == [99])
/-- Does it begin with how often? -/
def preB (w : ByteArray) : Bool := decide (1 < w.size) && inB (byteAt w 0) 50 57
def wordP (w : ByteArray) : ByteArray := if preB w = true then w.extract 1 w.size else w
def wordT (w : ByteArray) : Int := if preB w = true then byteAt w 0 - 48 else 1
def wordOk (w : ByteArray) : Bool := plainB (wordP w)
theorem plain_list {w : ByteArray} (h : plainB w = true) : w.data.toList = [60] ∨ w.data.toList = [62] ∨ w.data.toList = [99] ∨ ∃ a b, w.data.toList = [a, b] ∧ ((a.toNat : Int) = 43 ∨ (a.toNat : Int) = 45) ∧ 49 ≤ (b.toNat : Int) ∧ (b.toNat : Int) ≤ 57 := by
  unfold plainB at h
  split at h
  · rename_i h2
    rw [size_list] at h2
    match hl : w.data.toList, h2 with
    | [a, b], _ =>
      simp only [byteAt, hl, Bool.and_eq_true, Bool.or_eq_true, beq_iff_eq] at h
      have := inB_true h.2
      refine .inr (.inr (.inr ⟨a, b, rfl, ?_, ?_, ?_⟩))
      · simpa using h.1
      · simpa using this.1
      · simpa using this.2
  · simp only [Bool.or_eq_true, beq_iff_eq] at h
    rcases h with h | h | h
    · exact .inl h
    · exact .inr (.inl h)
    · exact .inr (.inr (.inl h))
theorem plain_size {w : ByteArray} (h : plainB w = true) : w.size = 1 ∨ w.size = 2 := by
  rw [size_list]
  rcases plain_list h with e | e | e | ⟨a, b, e, _⟩ <;> rw [e] <;> simp
theorem pre_plain {w : ByteArray} (h : preB w = true) : plainB w = false := by
  cases hp : plainB w with
  | false => rfl
  | true =>
    exfalso
    unfold preB at h
    simp only [Bool.and_eq_true, decide_eq_true_eq] at h
    have h1 := inB_true h.2
    have hs := h.1
    rw [size_list] at hs
    rcases plain_list hp with e | e | e | ⟨a, b, e, h3, _⟩
    · rw [e] at hs; simp at hs
    · rw [e] at hs; simp at hs
    · rw [e] at hs; simp at hs
    · simp only [byteAt, e] at h1
      simp at h1
      omega
/-- The reference's test of a word. -/
theorem wordOk_spec (w : ByteArray) : wordOk w = (plainB w || (preB w && plainB (w.extract 1 w.size))) := by
  unfold wordOk wordP
  cases hp : preB w
  · simp
  · simp [pre_plain hp]
theorem ok_plain {w : ByteArray} (h : plainB w = true) : wordP w = w ∧ wordT w = 1 := by
  have : preB w = false := by
    cases hp : preB w with
    | false => rfl
    | true => rw [pre_plain hp] at h; cases h
  unfold wordP wordT
  simp [this]
theorem ok_pre {w : ByteArray} (h : plainB w = false) (hk : wordOk w = true) : preB w = true ∧ wordP w = w.extract 1 w.size ∧ wordT w = byteAt w 0 - 48 := by
  have : preB w = true := by
    rw [wordOk_spec, h] at hk
    simp at hk
    exact hk.1
  unfold wordP wordT
  simp [this]
theorem wordT_bd (w : ByteArray) : 1 ≤ wordT w ∧ wordT w ≤ 9 := by
  unfold wordT
  split
  · rename_i h
    unfold preB at h
    simp only [Bool.and_eq_true, decide_eq_true_eq] at h
    have := inB_true h.2
    omega
  · omega
theorem ok_size {w : ByteArray} (h : wordOk w = true) : 1 ≤ w.size ∧ w.size ≤ 3 := by
  have h1 := plain_size h
  unfold wordP at h1
  split at h1
  · rename_i hp
    unfold preB at hp
    simp only [Bool.and_eq_true, decide_eq_true_eq] at hp
    rw [ByteArray.size_extract] at h1
    omega
  · omega
/-- Is it a script? -/
def scriptB (s : ByteArray) : Bool := decide (s.size ≤ 80) && (wordsB s).all wordOk
def wordD (w : ByteArray) : Int := if (wordP w).size = 2 then byteAt (wordP w) 1 - 48 else 0
/-- How often words are carried out. -/
def timesS : List ByteArray → Int
  | [] => 0
  | w :: ws => wordT w + timesS ws
theorem timesS_app : ∀ (a b : List ByteArray), timesS (a ++ b) = timesS a + timesS b
  | [], b => by simp [timesS]
  | w :: a, b => by rw [List.cons_append, timesS, timesS, timesS_app a b]; omega
theorem timesS_at {ws : List ByteArray} {k : Nat} {w : ByteArray} (h : ws[k]? = some w) : timesS (ws.take (k + 1)) = timesS (ws.take k) + wordT w := by
  rw [List.take_add_one, h, timesS_app]
  simp [timesS]
theorem timesS_bd : ∀ (ws : List ByteArray), 0 ≤ timesS ws ∧ timesS ws ≤ 9 * (ws.length : Int)
  | [] => by simp [timesS]
  | w :: ws => by
    have h1 := timesS_bd ws
    have h2 := wordT_bd w
    rw [timesS, List.length_cons]
    omega
end Go.Proofs.Ythigfbhkdegfkaa
