/- What the law of PartOf keeps while it walks. No condition. -/
import Derived.Test.YthigfbhkdegfkaaUntT
namespace Go.Proofs.Ythigfbhkdegfkaa
open Go.RowKit

structure NU (w X : World) (A : Option Addr) (n : Nat) (us : List Unt) (D : Option Addr) (m : Nat) (zs : List Int) (bs : List (Nat × TypeId × Array Value)) (p1 : Option Addr) (i1 : Nat) (u1 : List Int) (p2 : Option Addr) (i2 : Nat) (u2 : List Int) (B0 : Nat)
    (A1 : Option Addr) (c1 b0 : Nat) (vs : List Value) (D1 : Option Addr) (d1 b1 : Nat) (xs : List Int) (g1 : Option Addr) (k1 : Nat) (y1 : List Int) (g2 : Option Addr) (k2 : Nat) (y2 : List Int) (bg : Nat) : Prop where
  bel : Below w.heap.size w X
  arg : Reads X w.heap.size 2 A n (untF us)
  amt : Reads X w.heap.size 1 D m (zs.map (Value.int .i64))
  box : ∀ g t cs, (g, t, cs) ∈ bs → Blk X g t cs ∧ t ≠ 52 ∧ t ≠ 3
  r1 : Reads X B0 1 p1 i1 (u1.map (Value.int .i64))
  r2 : Reads X B0 1 p2 i2 (u2.map (Value.int .i64))
  x0 : X.ownsRow b0 52 2 (.slice A1 n c1) n vs
  x1 : X.ownsRow b1 3 1 (.slice D1 m d1) m (xs.map (Value.int .i64))
  o1 : X.ownsRow bg 3 1 (.slice g1 i1 k1) i1 (y1.map (Value.int .i64))
  o2 : X.ownsRow bg 3 1 (.slice g2 i2 k2) i2 (y2.map (Value.int .i64))
  off : Apart g1 g2
  s0 : w.heap.size ≤ B0
  s1 : B0 ≤ b0
  s2 : b0 ≤ b1
  s3 : b1 ≤ bg
  s4 : bg ≤ X.heap.size
  l0 : ∀ y, A1 = some y → y.block < b1
  l1 : ∀ y, D1 = some y → y.block < bg
/-- A row is kept where another one's block has turned. -/
theorem own_past {w w' : World} {base E k n c base2 E2 k2 n2 c2 : Nat} {A A2 : Option Addr} {vs vs2 : List Value} (h : w.ownsRow base E k (.slice A n c) n vs) (_ : w.ownsRow base2 E2 k2 (.slice A2 n2 c2) n2 vs2) (hg : w.grownBy w' (Value.slice A2 n2 c2).ownBlock)
    (hne : ∀ x y, A = some x → A2 = some y → x.block ≠ y.block) : w'.ownsRow base E k (.slice A n c) n vs := by
  refine h.kept hg ?_
  rw [ownBlock_slice, ownBlock_slice]
  cases A with
  | none => exact .inl rfl
  | some x =>
    refine .inr (fun e => ?_)
    cases A2 with
    | none => cases e
    | some y =>
      injection e with e
      exact hne x y rfl rfl e
theorem own_ge {w : World} {base E k n c : Nat} {A : Option Addr} {vs : List Value} (h : w.ownsRow base E k (.slice A n c) n vs) : ∀ x, A = some x → base ≤ x.block := fun x hx => (h.lt x.block (by rw [ownBlock_slice, hx]; rfl)).1
theorem ge_of {A : Option Addr} {n c B q : Nat} (hge : ∀ x, A = some x → B ≤ x.block) (e : (Value.slice A n c).ownBlock = some q) : B ≤ q := by
  rw [ownBlock_slice] at e
  cases A with
  | none => cases e
  | some y => injection e with e; exact e ▸ hge y rfl
theorem box_past {w w' : World} {base E k n c g t : Nat} {A : Option Addr} {vs : List Value} {cs : Array Value} (h : w.ownsRow base E k (.slice A n c) n vs) (hb : Blk w g t cs) (hne : t ≠ E) (hg : w.grownBy w' (Value.slice A n c).ownBlock) : Blk w' g t cs := by
  refine hb.grown hg (fun e => ?_)
  rw [ownBlock_slice] at e
  cases A with
  | none => cases e
  | some y =>
    injection e with e
    exact own_ne_blk h hb hne y rfl e.symm
section
variable {w X Y : World} {A D p1 p2 A1 D1 g1 g2 : Option Addr} {n m i1 i2 B0 c1 b0 d1 b1 k1 k2 bg : Nat} {us : List Unt} {zs u1 u2 xs y1 y2 xs' y1' y2' : List Int} {bs : List (Nat × TypeId × Array Value)} {vs vs' : List Value}
theorem NU.later (h : NU w X A n us D m zs bs p1 i1 u1 p2 i2 u2 B0 A1 c1 b0 vs D1 d1 b1 xs g1 k1 y1 g2 k2 y2 bg) (hb : Below X.heap.size X Y) : NU w Y A n us D m zs bs p1 i1 u1 p2 i2 u2 B0 A1 c1 b0 vs D1 d1 b1 xs g1 k1 y1 g2 k2 y2 bg := by
  have s0 := h.s0
  have s1 := h.s1
  have s2 := h.s2
  have s3 := h.s3
  have s4 := h.s4
  exact ⟨ext_trans h.bel hb, h.arg.below (hb.mono (by omega)), h.amt.below (hb.mono (by omega)), fun g t cs hm => ⟨(h.box g t cs hm).1.below hb (h.box g t cs hm).1.lt, (h.box g t cs hm).2⟩, h.r1.below (hb.mono (by omega)), h.r2.below (hb.mono (by omega)),
    own_below h.x0 hb, own_below h.x1 hb, own_below h.o1 hb, own_below h.o2 hb, h.off, s0, s1, s2, s3, Nat.le_trans s4 hb.size, h.l0, h.l1⟩
theorem NU.boxed (h : NU w X A n us D m zs bs p1 i1 u1 p2 i2 u2 B0 A1 c1 b0 vs D1 d1 b1 xs g1 k1 y1 g2 k2 y2 bg) {g t : Nat} {cs : Array Value} (hb : Blk X g t cs) (h1 : t ≠ 52) (h2 : t ≠ 3) : NU w X A n us D m zs ((g, t, cs) :: bs) p1 i1 u1 p2 i2 u2 B0 A1 c1 b0 vs D1 d1 b1 xs g1 k1 y1 g2 k2 y2 bg :=
  ⟨h.bel, h.arg, h.amt, fun g' t' cs' hm => (by
      rcases List.mem_cons.1 hm with e | hm
      · injection e with e1 e2
        injection e2 with e2 e3
        subst e1 e2 e3
        exact ⟨hb, h1, h2⟩
      · exact h.box g' t' cs' hm), h.r1, h.r2, h.x0, h.x1, h.o1, h.o2, h.off, h.s0, h.s1, h.s2, h.s3, h.s4, h.l0, h.l1⟩
theorem NU.markU (h : NU w X A n us D m zs bs p1 i1 u1 p2 i2 u2 B0 A1 c1 b0 vs D1 d1 b1 xs g1 k1 y1 g2 k2 y2 bg) (hg : X.grownBy Y (Value.slice A1 n c1).ownBlock) (ho : Y.ownsRow b0 52 2 (.slice A1 n c1) n vs') : NU w Y A n us D m zs bs p1 i1 u1 p2 i2 u2 B0 A1 c1 b0 vs' D1 d1 b1 xs g1 k1 y1 g2 k2 y2 bg := by
  have s0 := h.s0
  have s1 := h.s1
  have s2 := h.s2
  have s3 := h.s3
  have s4 := h.s4
  have hge : ∀ q, (Value.slice A1 n c1).ownBlock = some q → b0 ≤ q := fun q e => ge_of (own_ge h.x0) e
  exact ⟨ext_grown h.bel hg (fun q e => by have := hge q e; omega), h.arg.grown hg (by omega) (fun q e => by have := hge q e; omega), h.amt.grown hg (by omega) (fun q e => by have := hge q e; omega),
    fun g t cs hm => (by obtain ⟨hb, h1, h2⟩ := h.box g t cs hm; exact ⟨box_past h.x0 hb h1 hg, h1, h2⟩), h.r1.grown hg (by omega) (fun q e => by have := hge q e; omega), h.r2.grown hg (by omega) (fun q e => by have := hge q e; omega),
    ho, own_past h.x1 h.x0 hg (fun x y hx hy => by have h1 := own_ge h.x1 x hx; have h2 := h.l0 y hy; omega), own_past h.o1 h.x0 hg (fun x y hx hy => by have h1 := own_ge h.o1 x hx; have h2 := h.l0 y hy; omega), own_past h.o2 h.x0 hg (fun x y hx hy => by have h1 := own_ge h.o2 x hx; have h2 := h.l0 y hy; omega), h.off, s0, s1, s2, s3, Nat.le_trans s4 hg.size, h.l0, h.l1⟩
theorem NU.markD (h : NU w X A n us D m zs bs p1 i1 u1 p2 i2 u2 B0 A1 c1 b0 vs D1 d1 b1 xs g1 k1 y1 g2 k2 y2 bg) (hg : X.grownBy Y (Value.slice D1 m d1).ownBlock) (ho : Y.ownsRow b1 3 1 (.slice D1 m d1) m (xs'.map (Value.int .i64))) : NU w Y A n us D m zs bs p1 i1 u1 p2 i2 u2 B0 A1 c1 b0 vs D1 d1 b1 xs' g1 k1 y1 g2 k2 y2 bg := by
  have s0 := h.s0
  have s1 := h.s1
  have s2 := h.s2
  have s3 := h.s3
  have s4 := h.s4
  have hge : ∀ q, (Value.slice D1 m d1).ownBlock = some q → b1 ≤ q := fun q e => ge_of (own_ge h.x1) e
  exact ⟨ext_grown h.bel hg (fun q e => by have := hge q e; omega), h.arg.grown hg (by omega) (fun q e => by have := hge q e; omega), h.amt.grown hg (by omega) (fun q e => by have := hge q e; omega),
    fun g t cs hm => (by obtain ⟨hb, h1, h2⟩ := h.box g t cs hm; exact ⟨box_past h.x1 hb h2 hg, h1, h2⟩), h.r1.grown hg (by omega) (fun q e => by have := hge q e; omega), h.r2.grown hg (by omega) (fun q e => by have := hge q e; omega),
    own_past h.x0 h.x1 hg (fun x y hx hy => by have h1 := h.l0 x hx; have h2 := own_ge h.x1 y hy; omega), ho, own_past h.o1 h.x1 hg (fun x y hx hy => by have h1 := own_ge h.o1 x hx; have h2 := h.l1 y hy; omega), own_past h.o2 h.x1 hg (fun x y hx hy => by have h1 := own_ge h.o2 x hx; have h2 := h.l1 y hy; omega), h.off, s0, s1, s2, s3, Nat.le_trans s4 hg.size, h.l0, h.l1⟩
theorem NU.mark1 (h : NU w X A n us D m zs bs p1 i1 u1 p2 i2 u2 B0 A1 c1 b0 vs D1 d1 b1 xs g1 k1 y1 g2 k2 y2 bg) (hg : X.grownBy Y (Value.slice g1 i1 k1).ownBlock) (ho : Y.ownsRow bg 3 1 (.slice g1 i1 k1) i1 (y1'.map (Value.int .i64))) : NU w Y A n us D m zs bs p1 i1 u1 p2 i2 u2 B0 A1 c1 b0 vs D1 d1 b1 xs g1 k1 y1' g2 k2 y2 bg := by
  have s0 := h.s0
  have s1 := h.s1
  have s2 := h.s2
  have s3 := h.s3
  have s4 := h.s4
  have hge : ∀ q, (Value.slice g1 i1 k1).ownBlock = some q → bg ≤ q := fun q e => ge_of (own_ge h.o1) e
  exact ⟨ext_grown h.bel hg (fun q e => by have := hge q e; omega), h.arg.grown hg (by omega) (fun q e => by have := hge q e; omega), h.amt.grown hg (by omega) (fun q e => by have := hge q e; omega),
    fun g t cs hm => (by obtain ⟨hb, h1, h2⟩ := h.box g t cs hm; exact ⟨box_past h.o1 hb h2 hg, h1, h2⟩), h.r1.grown hg (by omega) (fun q e => by have := hge q e; omega), h.r2.grown hg (by omega) (fun q e => by have := hge q e; omega),
    own_past h.x0 h.o1 hg (fun x y hx hy => by have h1 := h.l0 x hx; have h2 := own_ge h.o1 y hy; omega), own_past h.x1 h.o1 hg (fun x y hx hy => by have h1 := h.l1 x hx; have h2 := own_ge h.o1 y hy; omega), ho, own_past h.o2 h.o1 hg (fun x y hx hy e => h.off y x hy hx e.symm), h.off, s0, s1, s2, s3, Nat.le_trans s4 hg.size, h.l0, h.l1⟩
theorem NU.mark2 (h : NU w X A n us D m zs bs p1 i1 u1 p2 i2 u2 B0 A1 c1 b0 vs D1 d1 b1 xs g1 k1 y1 g2 k2 y2 bg) (hg : X.grownBy Y (Value.slice g2 i2 k2).ownBlock) (ho : Y.ownsRow bg 3 1 (.slice g2 i2 k2) i2 (y2'.map (Value.int .i64))) : NU w Y A n us D m zs bs p1 i1 u1 p2 i2 u2 B0 A1 c1 b0 vs D1 d1 b1 xs g1 k1 y1 g2 k2 y2' bg := by
  have s0 := h.s0
  have s1 := h.s1
  have s2 := h.s2
  have s3 := h.s3
  have s4 := h.s4
  have hge : ∀ q, (Value.slice g2 i2 k2).ownBlock = some q → bg ≤ q := fun q e => ge_of (own_ge h.o2) e
  exact ⟨ext_grown h.bel hg (fun q e => by have := hge q e; omega), h.arg.grown hg (by omega) (fun q e => by have := hge q e; omega), h.amt.grown hg (by omega) (fun q e => by have := hge q e; omega),
    fun g t cs hm => (by obtain ⟨hb, h1, h2⟩ := h.box g t cs hm; exact ⟨box_past h.o2 hb h2 hg, h1, h2⟩), h.r1.grown hg (by omega) (fun q e => by have := hge q e; omega), h.r2.grown hg (by omega) (fun q e => by have := hge q e; omega),
    own_past h.x0 h.o2 hg (fun x y hx hy => by have h1 := h.l0 x hx; have h2 := own_ge h.o2 y hy; omega), own_past h.x1 h.o2 hg (fun x y hx hy => by have h1 := h.l1 x hx; have h2 := own_ge h.o2 y hy; omega), own_past h.o1 h.o2 hg (fun x y hx hy e => h.off x y hx hy e), ho, h.off, s0, s1, s2, s3, Nat.le_trans s4 hg.size, h.l0, h.l1⟩
end
end Go.Proofs.Ythigfbhkdegfkaa
