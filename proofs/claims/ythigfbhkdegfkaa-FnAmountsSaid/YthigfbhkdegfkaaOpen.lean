/- Arguments opened to cells: structs of ints by value, lists of a known length. No condition. -/
import Derived.Lib.SmallJoins
import Derived.Deep.Slices
import Derived.Deep.Fields
import Derived.ChangeSame
import Derived.ProofKit
namespace Go.Proofs.Ythigfbhkdegfkaa
open Go.Joins Go.ChangeShapes Go.WideShapes Go.RowKit Go.Deep

theorem list5_of {α : Type} {l : List α} (h : l.length = 5) : ∃ a b c d e, l = [a, b, c, d, e] := by
  match l, h with
  | [a, b, c, d, e], _ => exact ⟨a, b, c, d, e, rfl⟩
theorem list7_of {α : Type} {l : List α} (h : l.length = 7) : ∃ a b c d e f g, l = [a, b, c, d, e, f, g] := by
  match l, h with
  | [a, b, c, d, e, f, g], _ => exact ⟨a, b, c, d, e, f, g, rfl⟩

section
variable {H : Type} {enc : TypeId × Value → H} {P : Program} {w : World} {base : Nat} {spare : Nat → Bool} {held : Bool}
theorem int_of_field {t : TypeId} (ht : P.underlying t = some (.int .i64)) {n : Nat} {v : Value} {y : DataW H × List MemPlace}
    (h : DataW.trod enc P w base spare held n t [v] = some y) : ∃ z, v = .int .i64 z ∧ (Lit.int .i64 z).wf = true := by
  obtain ⟨a, e0, _, wa⟩ := DataW.trod_int ht h
  simp at e0
  exact ⟨a, e0, wa⟩

theorem ints_list : ∀ (l : List Value) (_ : ∀ j (hj : j < l.length), ∃ z, l[j] = .int .i64 z ∧ (Lit.int .i64 z).wf = true),
    ∃ zs : List Int, l = zs.map (Value.int .i64) ∧ ∀ z ∈ zs, (Lit.int .i64 z).wf = true
  | [], _ => ⟨[], rfl, by simp⟩
  | c :: l, key => by
    obtain ⟨z, hz, hw⟩ := key 0 (by simp)
    obtain ⟨zs, hzs, hws⟩ := ints_list l (fun j hj => by
      have := key (j + 1) (by simpa using hj)
      simpa using this)
    refine ⟨z :: zs, ?_, ?_⟩
    · simp at hz
      rw [hz, hzs]; rfl
    · intro y hy
      rcases List.mem_cons.1 hy with rfl | hy
      · exact hw
      · exact hws y hy

theorem open_struct_ints {r : Reach} {b0 : Nat} {t : TypeId} {fs : Array Field} {v : Value} {d : DataW H} {p : List MemPlace} (hs : P.underlying t = some (.struct fs)) (hone : oneCellFields P fs = true)
    (hC : P.cellsOf t = fs.size) (ti : TypeId) (hti : fs.toList.all (fun f => f.type == ti) = true) (hint : P.underlying ti = some (.int .i64))
    (hv : Value.okWide P w r b0 t v) (h : DataW.Trod enc P w base spare held t v d p) :
    ∃ zs : List Int, zs.length = fs.size ∧ v = .agg (zs.map (Value.int .i64)).toArray ∧ ∀ z ∈ zs, (Lit.int .i64 z).wf = true := by
  obtain ⟨cs, rfl, hsz⟩ := okWide_struct hs hv
  obtain ⟨l⟩ := cs
  obtain ⟨fuel, hf⟩ := h
  obtain ⟨xs, n, _, hx, _, hlen, hg⟩ := DataW.trod_struct hs hf
  have hl : l.length = fs.size := by simpa using hsz.trans hC
  have key : ∀ j (hj : j < l.length), ∃ z, l[j] = .int .i64 z ∧ (Lit.int .i64 z).wf = true := by
    intro j hj
    have hjs : j < fs.size := by omega
    have hjf : fs[j]? = some fs[j] := Array.getElem?_eq_getElem hjs
    obtain ⟨o, k⟩ := hone_of hone j fs[j] hjf
    have h1 := hg j fs[j] hjf
    rw [o, k] at h1
    have h2 : ((Value.agg l.toArray).cells.toList.drop j).take 1 = [l[j]] := by
      simp only [Value.cells]
      rw [List.drop_eq_getElem_cons (by omega)]
      rfl
    rw [h2] at h1
    have ht : fs[j].type = ti := by
      have := List.all_eq_true.1 hti fs[j] (by simp)
      simpa using this
    rw [ht] at h1
    have hxl : j < xs.length := by omega
    rw [List.getElem?_eq_getElem hxl] at h1
    exact int_of_field hint h1
  obtain ⟨zs, rfl, hw⟩ := ints_list l key
  exact ⟨zs, by simpa using hl, rfl, hw⟩
end
end Go.Proofs.Ythigfbhkdegfkaa
