/- One more struct put into a row of them. No condition. -/
import Derived.Test.YtbjmpllnkkfgfaaIns
import Derived.Test.YtbjmpllnkkfgfaaAccS
namespace Go.Proofs.Ytbjmpllnkkfgfaa
open Go.RowKit

theorem acctF_set : ∀ (xs : List Acct) (i : Nat) (x : Acct), i < xs.length → ((((((acctF xs).set (i * 5) x.p).set (i * 5 + 1) x.m).set (i * 5 + 2) x.l).set (i * 5 + 3) x.s).set (i * 5 + 4) x.d) = acctF (xs.set i x)
  | [], i, x, h => by simp at h
  | y :: ys, 0, x, h => by simp [acctF, Acct.cs]
  | y :: ys, i + 1, x, h => by
    have ih := acctF_set ys i x (by simpa using h)
    rw [List.set_cons_succ, acctF_cons, acctF_cons, ← ih]
    have hl : y.cs.length = 5 := rfl
    rw [List.set_append_right _ _ (by rw [hl]; omega), hl, show (i + 1) * 5 - 5 = i * 5 from by omega]
    rw [List.set_append_right _ _ (by rw [hl]; omega), hl, show (i + 1) * 5 + 1 - 5 = i * 5 + 1 from by omega]
    rw [List.set_append_right _ _ (by rw [hl]; omega), hl, show (i + 1) * 5 + 2 - 5 = i * 5 + 2 from by omega]
    rw [List.set_append_right _ _ (by rw [hl]; omega), hl, show (i + 1) * 5 + 3 - 5 = i * 5 + 3 from by omega]
    rw [List.set_append_right _ _ (by rw [hl]; omega), hl, show (i + 1) * 5 + 4 - 5 = i * 5 + 4 from by omega]
theorem acctF_ins (k : Nat) (x : Acct) (xs : List Acct) : acctF (insAt k x xs) = acctF (xs.take k) ++ (x.cs ++ acctF (xs.drop k)) := by
  unfold insAt; rw [acctF_app, acctF_cons]
theorem insAt_atAcct {k : Nat} {x : Acct} {xs : List Acct} (h : k ≤ xs.length) : (insAt k x xs)[k]? = some x := by
  unfold insAt
  rw [List.getElem?_append_right (by rw [List.length_take]; omega), List.length_take, Nat.min_eq_left h, Nat.sub_self]
  rfl
theorem insAt_setAcct {k : Nat} {x y : Acct} {xs : List Acct} (h : k ≤ xs.length) : (insAt k y xs).set k x = insAt k x xs := by
  unfold insAt
  rw [List.set_append, if_neg (by rw [List.length_take]; omega), List.length_take, Nat.min_eq_left h, Nat.sub_self]
  rfl
/-- A hole for one more of them at place k. -/
theorem acct_hole (xs : List Acct) (ws : List Int) (n k : Nat) (hl : xs.length = n) (hw : ws.length = 5) (hk : k ≤ n) :
    ∃ y : Acct, splice (acctF xs ++ ws) ((k + 1) * 5) (((acctF xs ++ ws).drop (k * 5)).take ((n - k) * 5)) = acctF (insAt k y xs) := by
  obtain ⟨mid, hm, e⟩ := hole_list (acctF xs) ws n k 5 (by rw [acctF_len, hl]) hw hk
  obtain ⟨ys, hy, hyl⟩ := acctF_of 1 mid (by omega)
  match ys, hyl with
  | [y], _ =>
    refine ⟨y, ?_⟩
    rw [e, hy, acctF_ins, acctF_take, acctF_drop, acctF_cons, acctF_nil, List.append_nil, List.append_assoc]
section
variable {w : World} {B n : Nat} {A : Option Addr} {xs : List Acct}
theorem Reads.frontAcct (h : Reads w B 5 A n ((acctF xs).map (Value.int .i64))) {k : Nat} (hk : k ≤ n) : Reads w B 5 A k ((acctF (xs.take k)).map (Value.int .i64)) := by
  have := h.front hk
  rwa [← List.map_take, acctF_take] at this
theorem Reads.cutAcct (h : Reads w B 5 A n ((acctF xs).map (Value.int .i64))) {k cap : Nat} (hk : k ≤ n) (hc : n ≤ cap) :
    Reads w B 5 (if cap = k then A else A.map (·.add (k * 5))) (n - k) ((acctF (xs.drop k)).map (Value.int .i64)) := by
  have := h.cut hk hc
  rwa [← List.map_drop, acctF_drop] at this
theorem Reads.cutSAcct {b o : Nat} (h : Reads w B 5 (some ⟨b, o, none⟩) n ((acctF xs).map (Value.int .i64))) {k cap : Nat} (hk : k ≤ n) (hc : n ≤ cap) :
    Reads w B 5 (if cap = k then some ⟨b, o, none⟩ else some ⟨b, o + k * 5, none⟩) (n - k) ((acctF (xs.drop k)).map (Value.int .i64)) := by
  have := h.cutAcct hk hc
  simpa [Addr.add_lit] using this
end
end Go.Proofs.Ytbjmpllnkkfgfaa
