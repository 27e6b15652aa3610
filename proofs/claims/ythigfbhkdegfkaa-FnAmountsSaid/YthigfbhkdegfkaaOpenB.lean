/- An argument of bytes, opened. No condition. -/
import Derived.Test.YthigfbhkdegfkaaOpen
import Derived.Test.YthigfbhkdegfkaaCur
namespace Go.Proofs.Ythigfbhkdegfkaa
open Go.Joins Go.ChangeShapes Go.WideShapes Go.RowKit Go.Deep

section
variable {H : Type} {enc : TypeId × Value → H} {P : Program} {w : World} {base : Nat} {spare : Nat → Bool} {held : Bool}
theorem open_code {t e : TypeId} (ht : P.underlying t = some (.slice e)) (he : P.underlying e = some (.int .u8)) (hc : P.cellsOf e = 1) {A : Option Addr} {n c : Nat} {d : DataW H} {p : List MemPlace}
    (h : DataW.Trod enc P w base spare held t (.slice A n c) d p) : CodeOk w w.heap.size A n := by
  obtain ⟨fuel, hf⟩ := h
  rcases open_ints ht he hc hf with ⟨hcs, _⟩ | ⟨x, l, c', zs, hcs, _, hl, hm, hz, _, hcell, hwz⟩
  · simp [Value.cells] at hcs
    obtain ⟨rfl, rfl, rfl⟩ := hcs
    exact ⟨by omega, fun k hk => by omega⟩
  · simp [Value.cells] at hcs
    obtain ⟨rfl, rfl, rfl⟩ := hcs
    have hlen : n ≤ zs.length := by rw [hz]; split <;> omega
    refine ⟨by unfold maxLen at hm; omega, fun k hk => ?_⟩
    have h0 := hcell 0 (by omega)
    have hk' := hcell k (by omega)
    obtain ⟨b, o, s⟩ := x
    have hs : s = none := by simpa [Addr.add] using World.cell?_spot h0
    subst hs
    rw [Addr.add_lit] at hk'
    have hw := hwz (zs.getD k 0) (by simp [List.getD, show k < zs.length by omega])
    have hb := World.block_lt_of_cell? w _ hk'
    simp [Lit.wf, IntKind.min, IntKind.max, IntKind.signed, IntKind.bits] at hw
    exact ⟨b, o, _, rfl, hb, hk', by simpa using hw.1, by simpa using hw.2⟩
end
end Go.Proofs.Ythigfbhkdegfkaa
