/- An argument that is a slice of structs of ints, opened. No condition. -/
import Derived.Test.YthigfbhkdegfkaaOpen
import Derived.Test.YthigfbhkdegfkaaSlices
namespace Go.Proofs.Ythigfbhkdegfkaa
open Go.Joins Go.ChangeShapes Go.WideShapes Go.RowKit Go.Deep

def numAt (w : World) (a : Addr) (j : Nat) : Int := match w.cell? (a.add j) with
  | some (.int .i64 z) => z
  | _ => 0
section
variable {H : Type} {enc : TypeId × Value → H} {P : Program} {w : World} {base : Nat} {spare : Nat → Bool} {held : Bool}
theorem open_rows_struct {t e : TypeId} {fs : Array Field} (ht : P.underlying t = some (.slice e)) (he : P.underlying e = some (.struct fs)) (hone : oneCellFields P fs = true)
    (hC : P.cellsOf e = fs.size) (ti : TypeId) (hti : fs.toList.all (fun f => f.type == ti) = true) (hint : P.underlying ti = some (.int .i64)) (hpos : 0 < fs.size)
    {A : Option Addr} {n c : Nat} {d : DataW H} {p : List MemPlace} (h : DataW.Trod enc P w base spare held t (.slice A n c) d p) :
    ∃ zs : List Int, Reads w w.heap.size fs.size A n (zs.map (Value.int .i64)) ∧ n ≤ maxLen := by
  obtain ⟨fuel, hf⟩ := h
  rcases open_slice ht hf with ⟨hcs, _⟩ | ⟨x, l, c', m, q, D, Pl, hcs, _, hl, hm, hmm, _, hi⟩
  · simp [Value.cells] at hcs
    obtain ⟨rfl, rfl, rfl⟩ := hcs
    exact ⟨[], by simpa using Reads.none_, by unfold maxLen; omega⟩
  · simp [Value.cells] at hcs
    obtain ⟨rfl, rfl, rfl⟩ := hcs
    have hnm : n ≤ m := by rw [hmm]; split <;> omega
    have hcell : ∀ j, j < n * fs.size → w.cell? (x.add j) = some (.int .i64 (numAt w x j)) := by
      intro j hj
      have hi1 : j / fs.size < n := (Nat.div_lt_iff_lt_mul hpos).2 hj
      have hr : j % fs.size < fs.size := Nat.mod_lt _ hpos
      obtain ⟨cs, hc, htr⟩ := hi (j / fs.size) (by omega)
      rw [hC] at hc
      obtain ⟨_, hcl, hat⟩ := World.cells?_some hc
      obtain ⟨ys, k, _, _, hlen, hyl, hfl⟩ := DataW.trod_struct he htr
      have hjf : fs[j % fs.size]? = some fs[j % fs.size] := Array.getElem?_eq_getElem hr
      obtain ⟨ho, hk⟩ := hone_of hone _ _ hjf
      have h1 := hfl _ _ hjf
      rw [ho, hk] at h1
      have hcl' : j % fs.size < cs.length := by rw [hcl]; exact hr
      have h2 : (cs.drop (j % fs.size)).take 1 = [cs[j % fs.size]'hcl'] := by
        rw [List.drop_eq_getElem_cons hcl']
        rfl
      rw [h2] at h1
      have htt : fs[j % fs.size].type = ti := by
        have := List.all_eq_true.1 hti fs[j % fs.size] (by simp)
        simpa using this
      rw [htt] at h1
      have hyl' : j % fs.size < ys.length := by rw [hyl]; exact hr
      rw [List.getElem?_eq_getElem hyl'] at h1
      obtain ⟨z, hz, _⟩ := int_of_field hint h1
      have hj2 := hat (j % fs.size) hr
      rw [add_of_add, Nat.mul_comm, Nat.div_add_mod, List.getElem?_eq_getElem hcl', hz] at hj2
      unfold numAt
      rw [hj2]
    refine ⟨(List.range (n * fs.size)).map (numAt w x), ⟨by simp, fun hn => ⟨x, rfl, ?_, fun j u hu => ?_⟩⟩, by omega⟩
    · have := World.block_lt_of_cell? w _ (hcell 0 (Nat.mul_pos hn hpos))
      rwa [block_of_add] at this
    · simp only [List.map_map, List.getElem?_map] at hu
      rcases Nat.lt_or_ge j (n * fs.size) with hj | hj
      · rw [List.getElem?_range hj] at hu
        injection hu with hu
        rw [← hu]
        exact hcell j hj
      · rw [List.getElem?_eq_none (by simpa using hj)] at hu
        cases hu
end
end Go.Proofs.Ythigfbhkdegfkaa
