/- One more struct put into a row of them. No condition. -/
import Derived.Test.YtnndhgeddfghcaaIns
import Derived.Test.YtnndhgeddfghcaaLesS
namespace Go.Proofs.Ytnndhgeddfghcaa
open Go.RowKit

theorem lesnF_set : ∀ (xs : List Lesn) (i : Nat) (x : Lesn), i < xs.length → ((((((((lesnF xs).set (i * 7) x.i).set (i * 7 + 1) x.c).set (i * 7 + 2) x.t).set (i * 7 + 3) x.r).set (i * 7 + 4) x.d).set (i * 7 + 5) x.b).set (i * 7 + 6) x.m) = lesnF (xs.set i x)
  | [], i, x, h => by simp at h
  | y :: ys, 0, x, h => by simp [lesnF, Lesn.cs]
  | y :: ys, i + 1, x, h => by
    have ih := lesnF_set ys i x (by simpa using h)
    rw [List.set_cons_succ, lesnF_cons, lesnF_cons, ← ih]
    have hl : y.cs.length = 7 := rfl
    rw [List.set_append_right _ _ (by rw [hl]; omega), hl, show (i + 1) * 7 - 7 = i * 7 from by omega]
    rw [List.set_append_right _ _ (by rw [hl]; omega), hl, show (i + 1) * 7 + 1 - 7 = i * 7 + 1 from by omega]
    rw [List.set_append_right _ _ (by rw [hl]; omega), hl, show (i + 1) * 7 + 2 - 7 = i * 7 + 2 from by omega]
    rw [List.set_append_right _ _ (by rw [hl]; omega), hl, show (i + 1) * 7 + 3 - 7 = i * 7 + 3 from by omega]
    rw [List.set_append_right _ _ (by rw [hl]; omega), hl, show (i + 1) * 7 + 4 - 7 = i * 7 + 4 from by omega]
    rw [List.set_append_right _ _ (by rw [hl]; omega), hl, show (i + 1) * 7 + 5 - 7 = i * 7 + 5 from by omega]
    rw [List.set_append_right _ _ (by rw [hl]; omega), hl, show (i + 1) * 7 + 6 - 7 = i * 7 + 6 from by omega]
theorem lesnF_ins (k : Nat) (x : Lesn) (xs : List Lesn) : lesnF (insAt k x xs) = lesnF (xs.take k) ++ (x.cs ++ lesnF (xs.drop k)) := by
  unfold insAt; rw [lesnF_app, lesnF_cons]
theorem insAt_atLesn {k : Nat} {x : Lesn} {xs : List Lesn} (h : k ≤ xs.length) : (insAt k x xs)[k]? = some x := by
  unfold insAt
  rw [List.getElem?_append_right (by rw [List.length_take]; omega), List.length_take, Nat.min_eq_left h, Nat.sub_self]
  rfl
theorem insAt_setLesn {k : Nat} {x y : Lesn} {xs : List Lesn} (h : k ≤ xs.length) : (insAt k y xs).set k x = insAt k x xs := by
  unfold insAt
  rw [List.set_append, if_neg (by rw [List.length_take]; omega), List.length_take, Nat.min_eq_left h, Nat.sub_self]
  rfl
/-- A hole for one more of them at place k. -/
theorem lesn_hole (xs : List Lesn) (ws : List Int) (n k : Nat) (hl : xs.length = n) (hw : ws.length = 7) (hk : k ≤ n) :
    ∃ y : Lesn, splice (lesnF xs ++ ws) ((k + 1) * 7) (((lesnF xs ++ ws).drop (k * 7)).take ((n - k) * 7)) = lesnF (insAt k y xs) := by
  obtain ⟨mid, hm, e⟩ := hole_list (lesnF xs) ws n k 7 (by rw [lesnF_len, hl]) hw hk
  obtain ⟨ys, hy, hyl⟩ := lesnF_of 1 mid (by omega)
  match ys, hyl with
  | [y], _ =>
    refine ⟨y, ?_⟩
    rw [e, hy, lesnF_ins, lesnF_take, lesnF_drop, lesnF_cons, lesnF_nil, List.append_nil, List.append_assoc]
section
variable {w : World} {B n : Nat} {A : Option Addr} {xs : List Lesn}
theorem Reads.frontLesn (h : Reads w B 7 A n ((lesnF xs).map (Value.int .i64))) {k : Nat} (hk : k ≤ n) : Reads w B 7 A k ((lesnF (xs.take k)).map (Value.int .i64)) := by
  have := h.front hk
  rwa [← List.map_take, lesnF_take] at this
theorem Reads.cutLesn (h : Reads w B 7 A n ((lesnF xs).map (Value.int .i64))) {k cap : Nat} (hk : k ≤ n) (hc : n ≤ cap) :
    Reads w B 7 (if cap = k then A else A.map (·.add (k * 7))) (n - k) ((lesnF (xs.drop k)).map (Value.int .i64)) := by
  have := h.cut hk hc
  rwa [← List.map_drop, lesnF_drop] at this
theorem Reads.cutSLesn {b o : Nat} (h : Reads w B 7 (some ⟨b, o, none⟩) n ((lesnF xs).map (Value.int .i64))) {k cap : Nat} (hk : k ≤ n) (hc : n ≤ cap) :
    Reads w B 7 (if cap = k then some ⟨b, o, none⟩ else some ⟨b, o + k * 7, none⟩) (n - k) ((lesnF (xs.drop k)).map (Value.int .i64)) := by
  have := h.cutLesn hk hc
  simpa [Addr.add_lit] using this
end
end Go.Proofs.Ytnndhgeddfghcaa
