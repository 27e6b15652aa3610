/- What the law on debts says, without the program. No condition. -/
import Derived.Test.YtbjmpllnkkfgfaaFeesP
import Derived.Test.YtbjmpllnkkfgfaaDeb2
import Derived.Test.YtbjmpllnkkfgfaaBookS
namespace Go.Proofs.Ytbjmpllnkkfgfaa
open Go.RowKit

theorem debtS_neg (f : Int → Int) (ps : List Int) : ∀ x ∈ debtS f ps, f x < 0 := by
  suffices h : ∀ (ps out : List Int), (∀ x ∈ out, f x < 0) → ∀ x ∈ ps.foldl (debtStep f) out, f x < 0 from h ps [] (fun x h => by cases h)
  intro ps
  induction ps with
  | nil => intro out h; exact h
  | cons p ps ih =>
    intro out h
    rw [List.foldl_cons]
    refine ih _ (fun x hx => ?_)
    unfold debtStep at hx
    split at hx
    · rename_i hp
      rcases mem_insAt.1 hx with e | hx
      · rw [e]; exact hp.1
      · exact h x hx
    · exact h x hx
theorem debts_at {price : Int} {xs : List Acct} (h : debtOk price xs = true) {k : Nat} {x : Acct} (hx : xs[k]? = some x) :
    ∃ b : Int, balT x.p price xs = .tuple #[.int .i64 b, .bool true] ∧ hasB (debtL price xs) x.p = decide (b < 0) := by
  have h' := h
  unfold debtOk at h'
  simp only [Bool.and_eq_true] at h'
  refine ⟨_, bal_own hx h'.1 h'.2, ?_⟩
  have e : debtL price xs = debtV price xs := by unfold debtL; rw [if_pos h]
  rw [e]
  by_cases hb : balF price xs x.p < 0
  · rw [decide_eq_true hb, hasB_mem]
    exact debtS_has _ (List.mem_map.2 ⟨x, List.mem_of_getElem? hx, rfl⟩) hb
  · rw [decide_eq_false hb]
    rw [Bool.eq_false_iff]
    intro hh
    exact hb (debtS_neg _ _ _ (hasB_mem.1 hh))
theorem priceUp_parts {coins : Int} {xs : List Acct} : ∀ (f k p : Nat), priceUp coins xs f k = some p → k < p ∧ p ≤ k + f ∧ coins ≤ feesS (p : Int) xs ∧ ∀ q : Nat, k < q → q < p → ¬ coins ≤ feesS (q : Int) xs
  | 0, k, p, h => by cases h
  | f + 1, k, p, h => by
    rw [priceUp] at h
    split at h
    · rename_i hc
      obtain rfl : k + 1 = p := by simpa using h
      exact ⟨by omega, by omega, by simpa using hc, fun q h1 h2 => by omega⟩
    · rename_i hc
      obtain ⟨h1, h2, h3, h4⟩ := priceUp_parts f (k + 1) p h
      refine ⟨by omega, by omega, h3, fun q q1 q2 => ?_⟩
      by_cases e : q = k + 1
      · subst e; simpa using hc
      · exact h4 q (by omega) q2
/-- The fees at a price, none at 0. -/
def befS (p : Int) (xs : List Acct) : Int := if 1 < p then feesS (p - 1) xs else 0
theorem price_parts {coins : Int} {xs : List Acct} : ∃ r ok, priceT coins xs = .tuple #[.int .i64 r, .bool ok] ∧ (ok = true → AllOk xs ∧ xs.length ≤ 10 ∧ 1 ≤ r ∧ r ≤ 500 ∧ coins ≤ feesS r xs ∧ ¬ (1 < r ∧ coins ≤ befS r xs)) := by
  unfold priceT
  split
  · rename_i h
    unfold priceV
    split
    · rename_i p hp
      obtain ⟨h1, h2, h3, h4⟩ := priceUp_parts _ _ _ hp
      refine ⟨_, _, rfl, fun _ => ⟨(accs_ok h.1).1, (accs_ok h.1).2, by omega, by omega, h3, fun hh => ?_⟩⟩
      obtain ⟨g1, g2⟩ := hh
      unfold befS at g2
      rw [if_pos g1] at g2
      refine h4 (p - 1) (by omega) (by omega) ?_
      rw [show ((p - 1 : Nat) : Int) = (p : Int) - 1 by omega]
      exact g2
    · exact ⟨_, _, rfl, fun h => by cases h⟩
  · exact ⟨_, _, rfl, fun h => by cases h⟩
theorem inB_low {n a b : Int} (h1 : n < a) : inB n a b = false := by
  cases h : inB n a b with
  | false => rfl
  | true => have := inB_true h; omega
/-- The fee at the told price and at one less. -/
theorem two_fees {x : Acct} {p : Int} (hx : x.ok' = true) (p1 : 1 ≤ p) (p2 : p ≤ 500) :
    ∃ a b one, feeT x.p x.m x.l x.s x.d p = .tuple #[.int .i64 a, .bool true] ∧ feeT x.p x.m x.l x.s x.d (p - 1) = .tuple #[.int .i64 b, .bool one] ∧ 0 ≤ a ∧ a ≤ 9750 ∧ 0 ≤ b ∧ b ≤ 9750 ∧
      ∀ (xs : List Acct) (k : Nat), xs[k]? = some x → feesS p (xs.take (k + 1)) = feesS p (xs.take k) + a ∧ befS p (xs.take (k + 1)) = befS p (xs.take k) + b := by
  have hp := inB_mk p1 p2
  have ha := Acct.fee_bd hx hp
  have hst : ∀ (q : Int) (xs : List Acct) (k : Nat), xs[k]? = some x → feesS q (xs.take (k + 1)) = feesS q (xs.take k) + feeV x.l x.s q := by
    intro q xs k h
    rw [acctF_snoc h, feesS_app]; simp [feesS]
  by_cases h1 : 1 < p
  · have hp' := inB_mk (show 1 ≤ p - 1 by omega) (show p - 1 ≤ 500 by omega)
    have hb := Acct.fee_bd hx hp'
    refine ⟨_, _, _, feeT_ok hx hp, feeT_ok hx hp', ha.1, ha.2, hb.1, hb.2, fun xs k h => ⟨hst _ _ _ h, ?_⟩⟩
    unfold befS
    rw [if_pos h1, if_pos h1]
    exact hst _ _ _ h
  · have hn : feeT x.p x.m x.l x.s x.d (p - 1) = .tuple #[.int .i64 0, .bool false] := by
      unfold feeT
      rw [inB_low (show p - 1 < 1 by omega)]
      simp
    refine ⟨_, _, _, feeT_ok hx hp, hn, ha.1, ha.2, by omega, by omega, fun xs k h => ⟨hst _ _ _ h, ?_⟩⟩
    unfold befS
    rw [if_neg h1, if_neg h1]; rfl
theorem befS_bd {p : Int} {xs : List Acct} (h : AllOk xs) (p1 : 1 ≤ p) (p2 : p ≤ 500) (hl : xs.length ≤ 10) (k : Nat) : 0 ≤ feesS p (xs.take k) ∧ feesS p (xs.take k) ≤ 97500 ∧ 0 ≤ befS p (xs.take k) ∧ befS p (xs.take k) ≤ 97500 := by
  have h3 : (xs.take k).length ≤ 10 := by rw [List.length_take]; omega
  have h1 := feesS_bd (inB_mk p1 p2) (h.take k)
  refine ⟨h1.1, by omega, ?_⟩
  unfold befS
  split
  · have h2 := feesS_bd (inB_mk (show 1 ≤ p - 1 by omega) (show p - 1 ≤ 500 by omega)) (h.take k)
    omega
  · omega
/-- All lessons. -/
def lsnS : List Acct → Int
  | [] => 0
  | x :: xs => x.l + lsnS xs
theorem lsnS_app : ∀ (xs ys : List Acct), lsnS (xs ++ ys) = lsnS xs + lsnS ys
  | [], ys => by simp [lsnS]
  | x :: xs, ys => by rw [List.cons_append, lsnS, lsnS, lsnS_app xs ys]; omega
theorem lsnS_at {xs : List Acct} {k : Nat} {x : Acct} (hx : xs[k]? = some x) : lsnS (xs.take (k + 1)) = lsnS (xs.take k) + x.l := by
  rw [acctF_snoc hx, lsnS_app]; simp [lsnS]
theorem lsnS_bd : ∀ {xs : List Acct}, AllOk xs → 0 ≤ lsnS xs ∧ lsnS xs ≤ 31 * (xs.length : Int)
  | [], _ => by simp [lsnS]
  | x :: xs, h => by
    have ih := lsnS_bd h.tail
    have hx := acc_parts (h x List.mem_cons_self)
    rw [lsnS, List.length_cons]; omega
theorem lsnS_set : ∀ {xs : List Acct} {k : Nat} {y z : Acct}, xs[k]? = some y → lsnS (xs.set k z) = lsnS xs - y.l + z.l
  | [], k, y, z, h => by simp at h
  | x :: xs, 0, y, z, h => by
    obtain rfl : x = y := by simpa using h
    simp only [List.set_cons_zero, lsnS]; omega
  | x :: xs, k + 1, y, z, h => by
    simp only [List.set_cons_succ, lsnS]
    rw [lsnS_set (k := k) (y := y) (by simpa using h)]; omega
theorem lsnS_ins (k : Nat) (z : Acct) (xs : List Acct) : lsnS (insAt k z xs) = lsnS xs + z.l := by
  have h : lsnS xs = lsnS (xs.take k) + lsnS (xs.drop k) := by rw [← lsnS_app, List.take_append_drop]
  unfold insAt
  rw [lsnS_app, lsnS, h]; omega
theorem lsnS_book (p m : Int) (xs : List Acct) : lsnS (bookO p m xs) = lsnS xs + 1 := by
  unfold bookO bookHit bookX
  cases h : xs[posB p m xs]? with
  | none => simp [lsnS_ins]
  | some y =>
    by_cases e : y.p = p ∧ y.m = m
    · simp only [e, and_self, decide_true, if_true]
      rw [lsnS_set h]; simp only; omega
    · simp only [e, decide_false, if_false]
      simp [lsnS_ins]
theorem book_letters {p m : Int} {xs : List Acct} (h : bookOk p m xs = true) : accsB (bookL p m xs) = true ∧ 1 + lsnS xs - lsnS (bookL p m xs) = 0 ∧ AllOk xs ∧ AllOk (bookL p m xs) ∧
    (∀ k, 0 ≤ lsnS (xs.take k) ∧ lsnS (xs.take k) ≤ 310) ∧ ∀ k, 0 ≤ lsnS ((bookL p m xs).take k) ∧ lsnS ((bookL p m xs).take k) ≤ 310 := by
  have e : bookL p m xs = bookO p m xs := by unfold bookL; rw [if_pos h]
  unfold bookOk at h
  simp only [Bool.and_eq_true] at h
  rw [e]
  have h1 := accs_ok h.1
  have h2 := accs_ok h.2
  have hb : ∀ (ys : List Acct), AllOk ys → ys.length ≤ 10 → ∀ k, 0 ≤ lsnS (ys.take k) ∧ lsnS (ys.take k) ≤ 310 := by
    intro ys ho hl k
    have h3 := lsnS_bd (ho.take k)
    have h4 : (ys.take k).length ≤ 10 := by rw [List.length_take]; omega
    omega
  exact ⟨h.2, by rw [lsnS_book]; omega, h1.1, h2.1, hb _ h1.1 h1.2, hb _ h2.1 h2.2⟩
end Go.Proofs.Ytbjmpllnkkfgfaa
