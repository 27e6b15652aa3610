/- What a law of this chapter keeps while it walks: the arguments, the reference's answer, the copy, the program's answer. No condition. -/
import Derived.Test.YtkgbcjiinicffaaFrmO
namespace Go.Proofs.Ytkgbcjiinicffaa
open Go.RowKit

structure NS (w X : World) (A : Option Addr) (n : Nat) (xs : List Rod) (bs : List (Nat × TypeId × Array Value)) (a : Option Addr) (m B0 E k : Nat) (zs : List Int) (A1 : Option Addr) (c1 bx : Nat) (x1 : List Int) (a2 : Option Addr) (k2 bg : Nat) (y1 : List Int) : Prop where
  bel : Below w.heap.size w X
  arg : Reads X w.heap.size 2 A n ((rodF xs).map (Value.int .i64))
  box : ∀ g t cs, (g, t, cs) ∈ bs → Blk X g t cs ∧ t ≠ 47 ∧ t ≠ E
  ans : Reads X B0 k a m (zs.map (Value.int .i64))
  x : X.ownsRow bx 47 2 (.slice A1 n c1) n (x1.map (Value.int .i64))
  g : X.ownsRow bg E k (.slice a2 m k2) m (y1.map (Value.int .i64))
  s0 : w.heap.size ≤ B0
  s1 : B0 ≤ bx
  s2 : bx ≤ bg
  s3 : bg ≤ X.heap.size
  xlt : ∀ y, A1 = some y → y.block < bg
section
variable {w X Y : World} {A a A1 a2 : Option Addr} {n m B0 E k c1 bx k2 bg : Nat} {xs : List Rod} {bs : List (Nat × TypeId × Array Value)} {zs x1 y1 x2 y2 : List Int}
theorem NS.later (h : NS w X A n xs bs a m B0 E k zs A1 c1 bx x1 a2 k2 bg y1) (hb : Below X.heap.size X Y) : NS w Y A n xs bs a m B0 E k zs A1 c1 bx x1 a2 k2 bg y1 := by
  have s0 := h.s0
  have s1 := h.s1
  have s2 := h.s2
  have s3 := h.s3
  exact ⟨ext_trans h.bel hb, h.arg.below (hb.mono (by omega)), fun g t cs hm => ⟨(h.box g t cs hm).1.below hb (h.box g t cs hm).1.lt, (h.box g t cs hm).2⟩, h.ans.below (hb.mono (by omega)), own_below h.x hb, own_below h.g hb, s0, s1, s2, Nat.le_trans s3 hb.size, h.xlt⟩
theorem NS.boxed (h : NS w X A n xs bs a m B0 E k zs A1 c1 bx x1 a2 k2 bg y1) {g t : Nat} {cs : Array Value} (hb : Blk X g t cs) (h1 : t ≠ 47) (h2 : t ≠ E) : NS w X A n xs ((g, t, cs) :: bs) a m B0 E k zs A1 c1 bx x1 a2 k2 bg y1 :=
  ⟨h.bel, h.arg, fun g' t' cs' hm => (by
      rcases List.mem_cons.1 hm with e | hm
      · injection e with e1 e2
        injection e2 with e2 e3
        subst e1 e2 e3
        exact ⟨hb, h1, h2⟩
      · exact h.box g' t' cs' hm), h.ans, h.x, h.g, h.s0, h.s1, h.s2, h.s3, h.xlt⟩
theorem NS.markX (h : NS w X A n xs bs a m B0 E k zs A1 c1 bx x1 a2 k2 bg y1) (hg : X.grownBy Y (Value.slice A1 n c1).ownBlock) (ho : Y.ownsRow bx 47 2 (.slice A1 n c1) n (x2.map (Value.int .i64))) : NS w Y A n xs bs a m B0 E k zs A1 c1 bx x2 a2 k2 bg y1 := by
  have s0 := h.s0
  have s1 := h.s1
  have s2 := h.s2
  have s3 := h.s3
  have hge : ∀ q, (Value.slice A1 n c1).ownBlock = some q → bx ≤ q := fun q e => (h.x.lt q e).1
  refine ⟨ext_grown h.bel hg (fun q e => by have := hge q e; omega), h.arg.grown hg (by omega) (fun q e => by have := hge q e; omega), fun q t cs hm => ?_, h.ans.grown hg (by omega) (fun q e => by have := hge q e; omega), ho, h.g.kept hg ?_, s0, s1, s2, Nat.le_trans s3 hg.size, h.xlt⟩
  · obtain ⟨hb, h1, h2⟩ := h.box q t cs hm
    refine ⟨hb.grown hg (fun e => ?_), h1, h2⟩
    rw [ownBlock_slice] at e
    cases A1 with
    | none => cases e
    | some y =>
      injection e with e
      exact own_ne_blk h.x hb h1 y rfl e.symm
  · cases hv : (Value.slice a2 m k2).ownBlock with
    | none => exact .inl rfl
    | some q =>
      refine .inr (fun e => ?_)
      have h1 := (h.g.lt q hv).1
      rw [ownBlock_slice] at e
      cases A1 with
      | none => cases e
      | some y =>
        injection e with e
        have e : q = y.block := e
        have := h.xlt y rfl
        omega
theorem NS.markG (h : NS w X A n xs bs a m B0 E k zs A1 c1 bx x1 a2 k2 bg y1) (hg : X.grownBy Y (Value.slice a2 m k2).ownBlock) (ho : Y.ownsRow bg E k (.slice a2 m k2) m (y2.map (Value.int .i64))) : NS w Y A n xs bs a m B0 E k zs A1 c1 bx x1 a2 k2 bg y2 := by
  have s0 := h.s0
  have s1 := h.s1
  have s2 := h.s2
  have s3 := h.s3
  have hge : ∀ q, (Value.slice a2 m k2).ownBlock = some q → bg ≤ q := fun q e => (h.g.lt q e).1
  refine ⟨ext_grown h.bel hg (fun q e => by have := hge q e; omega), h.arg.grown hg (by omega) (fun q e => by have := hge q e; omega), fun q t cs hm => ?_, h.ans.grown hg (by omega) (fun q e => by have := hge q e; omega), h.x.kept hg ?_, ho, s0, s1, s2, Nat.le_trans s3 hg.size, h.xlt⟩
  · obtain ⟨hb, h1, h2⟩ := h.box q t cs hm
    refine ⟨hb.grown hg (fun e => ?_), h1, h2⟩
    rw [ownBlock_slice] at e
    cases a2 with
    | none => cases e
    | some y =>
      injection e with e
      exact own_ne_blk h.g hb h2 y rfl e.symm
  · cases hv : (Value.slice A1 n c1).ownBlock with
    | none => exact .inl rfl
    | some q =>
      refine .inr (fun e => ?_)
      have h1 := hge q e.symm
      rw [ownBlock_slice] at hv
      cases A1 with
      | none => cases hv
      | some y =>
        injection hv with hv
        have hv : y.block = q := hv
        have := h.xlt y rfl
        omega
end
end Go.Proofs.Ytkgbcjiinicffaa
