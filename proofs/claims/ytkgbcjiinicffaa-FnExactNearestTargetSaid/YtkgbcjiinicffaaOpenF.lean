/- Arguments opened: a slice of arrays of ints; a struct of two ints and such a slice; a struct of one slice of ints. No condition. -/
import Derived.Test.YtkgbcjiinicffaaOpenS
import Derived.Test.YtkgbcjiinicffaaFrm
import Derived.OpenShut
namespace Go.Proofs.Ytkgbcjiinicffaa
open Go.Joins Go.ChangeShapes Go.WideShapes Go.RowKit Go.Deep

section
variable {H : Type} {enc : TypeId × Value → H} {P : Program} {w : World} {base : Nat} {spare : Nat → Bool} {held : Bool}
theorem open_arr_rows {t e ti : TypeId} {k : Nat} (ht : P.underlying t = some (.slice e)) (he : P.underlying e = some (.array k ti)) (hC : P.cellsOf e = k) (hc : P.cellsOf ti = 1) (hint : P.underlying ti = some (.int .i64)) (hpos : 0 < k)
    {fuel : Nat} {v : Value} {y : DataW H × List MemPlace} (hf : DataW.trod enc P w base spare held fuel t [v] = some y) :
    ∃ (A : Option Addr) (n c : Nat) (zs : List Int), v = .slice A n c ∧ Reads w w.heap.size k A n (zs.map (Value.int .i64)) ∧ n ≤ maxLen := by
  rcases open_slice ht hf with ⟨hcs, _⟩ | ⟨x, n, c, m, q, D, Pl, hcs, _, hl, hm, hmm, _, hi⟩
  · simp at hcs
    exact ⟨none, 0, 0, [], hcs, by simpa using Reads.none_, by unfold maxLen; omega⟩
  · simp at hcs
    refine ⟨some x, n, c, (List.range (n * k)).map (numAt w x), hcs, ?_, by omega⟩
    have hnm : n ≤ m := by rw [hmm]; split <;> omega
    have hcell : ∀ j, j < n * k → w.cell? (x.add j) = some (.int .i64 (numAt w x j)) := by
      intro j hj
      have hi1 : j / k < n := (Nat.div_lt_iff_lt_mul hpos).2 hj
      have hr : j % k < k := Nat.mod_lt _ hpos
      obtain ⟨cs, hcc, htr⟩ := hi (j / k) (by omega)
      rw [hC] at hcc
      obtain ⟨_, hcl, hat⟩ := World.cells?_some hcc
      obtain ⟨ys, q', _, _, hlen, hyl, hfl⟩ := DataW.trod_array he htr
      have h1 := hfl (j % k) hr
      rw [hc, Nat.mul_one] at h1
      have hcl' : j % k < cs.length := by rw [hcl]; exact hr
      have h2 : (cs.drop (j % k)).take 1 = [cs[j % k]'hcl'] := by
        rw [List.drop_eq_getElem_cons hcl']
        rfl
      rw [h2] at h1
      have hyl' : j % k < ys.length := by rw [hyl]; exact hr
      rw [List.getElem?_eq_getElem hyl'] at h1
      obtain ⟨z, hz, _⟩ := int_of_field hint h1
      have hj2 := hat (j % k) hr
      rw [add_of_add, Nat.mul_comm, Nat.div_add_mod, List.getElem?_eq_getElem hcl', hz] at hj2
      unfold numAt
      rw [hj2]
    refine ⟨by simp, fun hn => ⟨x, rfl, ?_, fun j u hu => ?_⟩⟩
    · have := World.block_lt_of_cell? w _ (hcell 0 (Nat.mul_pos hn hpos))
      rwa [block_of_add] at this
    · simp only [List.map_map, List.getElem?_map] at hu
      rcases Nat.lt_or_ge j (n * k) with hj | hj
      · rw [List.getElem?_range hj] at hu
        injection hu with hu
        rw [← hu]
        exact hcell j hj
      · rw [List.getElem?_eq_none (by simpa using hj)] at hu
        cases hu
theorem fields_of {t : TypeId} {fs : Array Field} {v : Value} {d : DataW H} {p : List MemPlace} {r : Reach} {b0 : Nat} (hs : P.underlying t = some (.struct fs)) (hone : oneCellFields P fs = true)
    (hC : P.cellsOf t = fs.size) (hv : Value.okWide P w r b0 t v) (h : DataW.Trod enc P w base spare held t v d p) :
    ∃ l : List Value, l.length = fs.size ∧ v = .agg l.toArray ∧ ∀ j (hj : j < fs.size) u, l[j]? = some u → ∃ n y, DataW.trod enc P w base spare held n fs[j].type [u] = some y := by
  obtain ⟨cs, rfl, hsz⟩ := okWide_struct hs hv
  obtain ⟨l⟩ := cs
  obtain ⟨fuel, hf⟩ := h
  obtain ⟨xs, n, _, hx, _, hlen, hg⟩ := DataW.trod_struct hs hf
  have hl : l.length = fs.size := by simpa using hsz.trans hC
  refine ⟨l, hl, rfl, fun j hjs u hu => ?_⟩
  obtain ⟨hj, rfl⟩ := List.getElem?_eq_some_iff.1 hu
  have hjf : fs[j]? = some fs[j] := Array.getElem?_eq_getElem hjs
  obtain ⟨o, k⟩ := hone_of hone j fs[j] hjf
  have h1 := hg j fs[j] hjf
  rw [o, k] at h1
  have h2 : ((Value.agg l.toArray).cells.toList.drop j).take 1 = [l[j]] := by
    simp only [Value.cells]
    rw [List.drop_eq_getElem_cons (by omega)]
    rfl
  rw [h2, List.getElem?_eq_getElem (by omega)] at h1
  exact ⟨_, _, h1⟩
/-- A struct of two ints and a slice of pairs. -/
theorem open_frame {t tsl e ti : TypeId} {fs : Array Field} {v : Value} {d : DataW H} {p : List MemPlace} {r : Reach} {b0 : Nat} (hs : P.underlying t = some (.struct fs)) (hone : oneCellFields P fs = true)
    (hC : P.cellsOf t = fs.size) (hty : fs.toList.map (·.type) = [ti, ti, tsl]) (ht : P.underlying tsl = some (.slice e)) (he : P.underlying e = some (.array 2 ti)) (hCe : P.cellsOf e = 2) (hc : P.cellsOf ti = 1) (hint : P.underlying ti = some (.int .i64))
    (hv : Value.okWide P w r b0 t v) (h : DataW.Trod enc P w base spare held t v d p) :
    ∃ (u l : Int) (A : Option Addr) (n c : Nat) (xs : List Rod), v = .agg #[.int .i64 u, .int .i64 l, .slice A n c] ∧ Reads w w.heap.size 2 A n ((rodF xs).map (Value.int .i64)) ∧ n ≤ maxLen := by
  obtain ⟨l, hl, rfl, hg⟩ := fields_of hs hone hC hv h
  have hz : fs.size = 3 := by have := congrArg List.length hty; simpa using this
  have hat : ∀ j (hj : j < fs.size), some fs[j].type = [ti, ti, tsl][j]? := by
    intro j hj
    rw [← hty]
    simp [hj]
  match l, hl with
  | [a, b, s], _ =>
    obtain ⟨n0, y0, g0⟩ := hg 0 (by omega) a rfl
    obtain ⟨n1, y1, g1⟩ := hg 1 (by omega) b rfl
    obtain ⟨n2, y2, g2⟩ := hg 2 (by omega) s rfl
    have e0 : fs[0].type = ti := by have := hat 0 (by omega); simpa using this
    have e1 : fs[1].type = ti := by have := hat 1 (by omega); simpa using this
    have e2 : fs[2].type = tsl := by have := hat 2 (by omega); simpa using this
    rw [e0] at g0
    rw [e1] at g1
    rw [e2] at g2
    obtain ⟨u, rfl, _⟩ := int_of_field hint g0
    obtain ⟨k, rfl, _⟩ := int_of_field hint g1
    obtain ⟨A, n, c, zs, rfl, hr, hn⟩ := open_arr_rows ht he hCe hc hint (by omega) g2
    obtain ⟨xs, rfl, _⟩ := rodF_of n zs (by simpa using hr.1)
    exact ⟨u, k, A, n, c, xs, rfl, hr, hn⟩
  | [], h => simp [hz] at h
  | [_], h => simp [hz] at h
  | [_, _], h => simp [hz] at h
  | _ :: _ :: _ :: _ :: _, h => simp [hz] at h
end
end Go.Proofs.Ytkgbcjiinicffaa
