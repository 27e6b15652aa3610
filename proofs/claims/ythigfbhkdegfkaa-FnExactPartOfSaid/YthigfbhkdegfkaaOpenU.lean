/- Arguments opened: a slice of units; an amount. No condition. -/
import Derived.Test.YthigfbhkdegfkaaOpenS
import Derived.Test.YthigfbhkdegfkaaUnt
import Derived.OpenShut
namespace Go.Proofs.Ythigfbhkdegfkaa
open Go.Joins Go.ChangeShapes Go.WideShapes Go.RowKit Go.Deep

section
variable {H : Type} {enc : TypeId × Value → H} {P : Program} {w : World} {base : Nat} {spare : Nat → Bool} {held : Bool}
def strAt (w : World) (a : Addr) (j : Nat) : ByteArray := match w.cell? (a.add j) with
  | some (.string s) => s
  | _ => ⟨#[]⟩
theorem open_units {t e : TypeId} {fs : Array Field} {ts ti : TypeId} (ht : P.underlying t = some (.slice e)) (he : P.underlying e = some (.struct fs)) (hone : oneCellFields P fs = true)
    (hC : P.cellsOf e = fs.size) (hty : fs.toList.map (·.type) = [ts, ti]) (hstr : P.underlying ts = some .string) (hint : P.underlying ti = some (.int .i64))
    {A : Option Addr} {n c : Nat} {d : DataW H} {p : List MemPlace} (h : DataW.Trod enc P w base spare held t (.slice A n c) d p) :
    ∃ us : List Unt, Reads w w.heap.size 2 A n (untF us) ∧ n ≤ maxLen ∧ ∀ x ∈ us, x.nm.size ≤ maxLen := by
  have hz : fs.size = 2 := by have := congrArg List.length hty; simpa using this
  have hat : ∀ j (hj : j < fs.size), some fs[j].type = [ts, ti][j]? := by
    intro j hj
    rw [← hty]
    simp [hj]
  have t0 : fs[0].type = ts := by have := hat 0 (by omega); simpa using this
  have t1 : fs[1].type = ti := by have := hat 1 (by omega); simpa using this
  obtain ⟨fuel, hf⟩ := h
  rcases open_slice ht hf with ⟨hcs, _⟩ | ⟨x, l, c', m, q, D, Pl, hcs, _, hl, hm, hmm, _, hi⟩
  · simp [Value.cells] at hcs
    obtain ⟨rfl, rfl, rfl⟩ := hcs
    exact ⟨[], by simpa [untF] using Reads.none_, by unfold maxLen; omega, fun x hx => by cases hx⟩
  · simp [Value.cells] at hcs
    obtain ⟨rfl, rfl, rfl⟩ := hcs
    have hnm : n ≤ m := by rw [hmm]; split <;> omega
    have key : ∀ i, i < n → (w.cell? (x.add (i * 2)) = some (.string (strAt w x (i * 2))) ∧ (strAt w x (i * 2)).size ≤ maxLen) ∧ w.cell? (x.add (i * 2 + 1)) = some (.int .i64 (numAt w x (i * 2 + 1))) := by
      intro i hin
      obtain ⟨cs, hc, htr⟩ := hi i (by omega)
      rw [hC, hz] at hc
      obtain ⟨_, hcl, hcell⟩ := World.cells?_some hc
      obtain ⟨ys, k, _, _, hlen, hyl, hfl⟩ := DataW.trod_struct he htr
      have each : ∀ j (hj : j < fs.size) (hj2 : j < cs.length), DataW.trod enc P w base spare held k fs[j].type [cs[j]] = ys[j]? := by
        intro j hj hj2
        have hjf : fs[j]? = some fs[j] := Array.getElem?_eq_getElem hj
        obtain ⟨ho, hk⟩ := hone_of hone _ _ hjf
        have h1 := hfl _ _ hjf
        rw [ho, hk] at h1
        have h2 : (cs.drop j).take 1 = [cs[j]] := by
          rw [List.drop_eq_getElem_cons hj2]
          rfl
        rwa [h2] at h1
      have h0 := each 0 (by omega) (by omega)
      have h1 := each 1 (by omega) (by omega)
      rw [t0, List.getElem?_eq_getElem (by omega)] at h0
      rw [t1, List.getElem?_eq_getElem (by omega)] at h1
      obtain ⟨s, es, _, hs⟩ := DataW.trod_string hstr h0
      obtain ⟨z, ez, _⟩ := int_of_field hint h1
      have es : cs[0] = .string s := by simpa using es
      have c0 := hcell 0 (by omega)
      have c1 := hcell 1 (by omega)
      rw [add_of_add, Nat.add_zero, List.getElem?_eq_getElem (by omega), es] at c0
      rw [add_of_add, List.getElem?_eq_getElem (by omega), ez] at c1
      refine ⟨⟨?_, ?_⟩, ?_⟩
      · unfold strAt; rw [c0]
      · unfold strAt; rw [c0]; exact hs
      · unfold numAt; rw [c1]
    refine ⟨(List.range n).map fun i => ⟨strAt w x (i * 2), numAt w x (i * 2 + 1)⟩, ⟨by rw [untF_len]; simp, fun hn => ⟨x, rfl, ?_, fun j u hu => ?_⟩⟩, by omega, fun y hy => ?_⟩
    · have := World.block_lt_of_cell? w _ (key 0 hn).1.1
      rwa [block_of_add] at this
    · have hj : j < n * 2 := by
        have := (List.getElem?_eq_some_iff.1 hu).1
        rw [untF_len] at this
        simpa using this
      have hx : ((List.range n).map fun i => (⟨strAt w x (i * 2), numAt w x (i * 2 + 1)⟩ : Unt))[j / 2]? = some ⟨strAt w x (j / 2 * 2), numAt w x (j / 2 * 2 + 1)⟩ := by
        rw [List.getElem?_map, List.getElem?_range (by omega)]; rfl
      obtain ⟨a0, a1⟩ := untF_at hx
      obtain ⟨⟨k0, _⟩, k1⟩ := key (j / 2) (by omega)
      rcases (show j = j / 2 * 2 ∨ j = j / 2 * 2 + 1 by omega) with e | e
      · rw [← e] at a0 k0
        rw [a0] at hu
        injection hu with hu
        rw [← hu]
        exact k0
      · rw [← e] at a1 k1
        rw [a1] at hu
        injection hu with hu
        rw [← hu]
        exact k1
    · obtain ⟨i, hi2, rfl⟩ := List.mem_map.1 hy
      exact (key i (List.mem_range.1 hi2)).1.2
theorem fields_of {t : TypeId} {fs : Array Field} {v : Value} {d : DataW H} {p : List MemPlace} {r : Reach} {b0 : Nat} (hs : P.underlying t = some (.struct fs)) (hone : oneCellFields P fs = true)
    (hC : P.cellsOf t = fs.size) (hv : Value.okWide P w r b0 t v) (h : DataW.Trod enc P w base spare held t v d p) :
    ∃ l : List Value, l.length = fs.size ∧ v = .agg l.toArray ∧ ∀ j (hj : j < fs.size) u, l[j]? = some u → ∃ n y, DataW.trod enc P w base spare held n fs[j].type [u] = some y := by
  obtain ⟨cs, rfl, hsz⟩ := okWide_struct hs hv
  obtain ⟨l⟩ := cs
  obtain ⟨fuel, hf⟩ := h
  obtain ⟨xs, n, _, hx, _, hlen, hg⟩ := DataW.trod_struct hs hf
  have hl : l.length = fs.size := by simpa using hsz.trans hC
  refine ⟨l, hl, rfl, fun j hjs u hu => ?_⟩
  obtain ⟨hj, rfl⟩ := List.getElem?_eq_some_iff.1 hu
  have hjf : fs[j]? = some fs[j] := Array.getElem?_eq_getElem hjs
  obtain ⟨o, k⟩ := hone_of hone j fs[j] hjf
  have h1 := hg j fs[j] hjf
  rw [o, k] at h1
  have h2 : ((Value.agg l.toArray).cells.toList.drop j).take 1 = [l[j]] := by
    simp only [Value.cells]
    rw [List.drop_eq_getElem_cons (by omega)]
    rfl
  rw [h2, List.getElem?_eq_getElem (by omega)] at h1
  exact ⟨_, _, h1⟩
theorem open_ints_one {t e : TypeId} (ht : P.underlying t = some (.slice e)) (hc : P.cellsOf e = 1) (hint : P.underlying e = some (.int .i64))
    {fuel : Nat} {v : Value} {y : DataW H × List MemPlace} (hf : DataW.trod enc P w base spare held fuel t [v] = some y) :
    ∃ (A : Option Addr) (n c : Nat) (zs : List Int), v = .slice A n c ∧ Reads w w.heap.size 1 A n (zs.map (Value.int .i64)) ∧ n ≤ maxLen := by
  rcases open_slice ht hf with ⟨hcs, _⟩ | ⟨x, n, c, m, q, D, Pl, hcs, _, hl, hm, hmm, _, hi⟩
  · simp at hcs
    exact ⟨none, 0, 0, [], hcs, by simpa using Reads.none_, by unfold maxLen; omega⟩
  · simp at hcs
    refine ⟨some x, n, c, (List.range n).map (numAt w x), hcs, ?_, by omega⟩
    have hnm : n ≤ m := by rw [hmm]; split <;> omega
    have hcell : ∀ j, j < n → w.cell? (x.add j) = some (.int .i64 (numAt w x j)) := by
      intro j hj
      obtain ⟨cs, hcc, htr⟩ := hi j (by omega)
      rw [hc] at hcc
      obtain ⟨_, hcl, hat⟩ := World.cells?_some hcc
      match cs, hcl with
      | [u], _ =>
        obtain ⟨z, hz, _⟩ := int_of_field hint htr
        have h2 := hat 0 (by omega)
        rw [add_of_add, Nat.mul_one, Nat.add_zero] at h2
        subst hz
        have h2 : w.cell? (x.add j) = some (.int .i64 z) := by simpa using h2
        unfold numAt
        rw [h2]
    refine ⟨by simp, fun hn => ⟨x, rfl, ?_, fun j u hu => ?_⟩⟩
    · have := World.block_lt_of_cell? w _ (hcell 0 hn)
      rwa [block_of_add] at this
    · simp only [List.map_map, List.getElem?_map] at hu
      rcases Nat.lt_or_ge j n with hj | hj
      · rw [List.getElem?_range hj] at hu
        injection hu with hu
        rw [← hu]
        exact hcell j hj
      · rw [List.getElem?_eq_none (by simpa using hj)] at hu
        cases hu
/-- A struct of one slice of ints. -/
theorem open_amount {t tsl ti : TypeId} {fs : Array Field} {v : Value} {d : DataW H} {p : List MemPlace} {r : Reach} {b0 : Nat} (hs : P.underlying t = some (.struct fs)) (hone : oneCellFields P fs = true)
    (hC : P.cellsOf t = fs.size) (hty : fs.toList.map (·.type) = [tsl]) (ht : P.underlying tsl = some (.slice ti)) (hc : P.cellsOf ti = 1) (hint : P.underlying ti = some (.int .i64))
    (hv : Value.okWide P w r b0 t v) (h : DataW.Trod enc P w base spare held t v d p) :
    ∃ (A : Option Addr) (n c : Nat) (zs : List Int), v = .agg #[.slice A n c] ∧ Reads w w.heap.size 1 A n (zs.map (Value.int .i64)) ∧ n ≤ maxLen := by
  obtain ⟨l, hl, rfl, hg⟩ := fields_of hs hone hC hv h
  have hz : fs.size = 1 := by have := congrArg List.length hty; simpa using this
  have e0 : fs[0].type = tsl := by
    have : some fs[0].type = [tsl][0]? := by rw [← hty]; simp [hz]
    simpa using this
  obtain ⟨s, rfl⟩ : ∃ s, l = [s] := List.length_eq_one_iff.1 (by omega)
  obtain ⟨n0, y0, g0⟩ := hg 0 (by omega) s rfl
  rw [e0] at g0
  obtain ⟨A, n, c, zs, rfl, hr, hn⟩ := open_ints_one ht hc hint g0
  exact ⟨A, n, c, zs, rfl, hr, hn⟩
end
end Go.Proofs.Ythigfbhkdegfkaa
