/- The program's best way: what the walk needs. No condition. -/
import Derived.Test.YtkgbcjiinicffaaNer
import Derived.Test.YtkgbcjiinicffaaNsa
namespace Go.Proofs.Ytkgbcjiinicffaa
open Go.RowKit

structure WayIn (r : Nat) (W : Way) : Prop where
  yes : W.ok = true → W.rods.length = r
  no : W.ok = false → W.rods = []
  rods : ∀ x ∈ W.rods, RodIn x
  m : 0 ≤ W.m ∧ W.m ≤ 2 * r
  b : 0 ≤ W.b ∧ W.b ≤ 18 * r
theorem wayIn0 (r : Nat) : WayIn r way0 := ⟨fun h => (by cases h), fun _ => rfl, fun x h => (by cases h), by simp only [way0]; omega, by simp only [way0]; omega⟩
theorem WayIn.next {r : Nat} {B : Way} (h : WayIn r B) (hB : B.ok = true) {x f : Rod} (hx : RodIn x) (hf : RodIn f) (k : Int) : WayIn (r + 1) (nextW k x B f) := by
  have h1 := h.yes hB
  obtain ⟨m0, m1⟩ := h.m
  obtain ⟨b0, b1⟩ := h.b
  have hl := mvR_len k x f
  have hb := bdS_bd _ (mvR_in (k := k) hx hf)
  refine ⟨fun _ => by simp [nextW, h1], fun h => (by cases h), fun y hy => ?_, ?_, ?_⟩
  · unfold nextW at hy
    rcases List.mem_append.1 hy with hy | hy
    · exact h.rods y hy
    · obtain rfl := List.mem_singleton.1 hy
      exact hf
  · unfold nextW; simp only; omega
  · unfold nextW; simp only; omega
def foldW (lt : Way → Way → Bool) (k : Int) (x : Rod) (B : Way) (fs : List Rod) (W : Way) : Way := fs.foldl (fun W f => if lt (nextW k x B f) W = true then nextW k x B f else W) W
theorem foldW_next {lt : Way → Way → Bool} {k : Int} {x : Rod} {B : Way} {fs : List Rod} {W : Way} {i : Nat} {f : Rod} (h : fs[i]? = some f) :
    foldW lt k x B (fs.take (i + 1)) W = (if lt (nextW k x B f) (foldW lt k x B (fs.take i) W) = true then nextW k x B f else foldW lt k x B (fs.take i) W) := by
  unfold foldW
  rw [List.take_add_one, h, List.foldl_append]; rfl
theorem foldW_in {lt : Way → Way → Bool} {k : Int} {x : Rod} {B : Way} {r : Nat} (hB : WayIn r B) (ho : B.ok = true) (hx : RodIn x) : ∀ (fs : List Rod) (W : Way), (∀ f ∈ fs, RodIn f) → WayIn (r + 1) W → WayIn (r + 1) (foldW lt k x B fs W)
  | [], W, _, h => h
  | f :: fs, W, hf, h => by
    unfold foldW
    rw [List.foldl_cons]
    refine foldW_in hB ho hx fs _ (fun g hg => hf g (by simp [hg])) ?_
    split
    · exact hB.next ho hx (hf f (by simp)) k
    · exact h
theorem stepW_ok {lt : Way → Way → Bool} {k : Int} {x : Rod} {B : Way} {fs : List Rod} {W : Way} (h : B.ok = true) : stepW lt k x B fs W = foldW lt k x B fs W := by unfold stepW; rw [if_pos h]; rfl
theorem stepW_no {lt : Way → Way → Bool} {k : Int} {x : Rod} {B : Way} {fs : List Rod} {W : Way} (h : B.ok = false) : stepW lt k x B fs W = W := by unfold stepW; rw [if_neg (by rw [h]; decide)]
theorem stepW_in {lt : Way → Way → Bool} {k : Int} {x : Rod} {B : Way} {r : Nat} (hB : WayIn r B) (hx : RodIn x) {fs : List Rod} {W : Way} (hf : ∀ f ∈ fs, RodIn f) (h : WayIn (r + 1) W) : WayIn (r + 1) (stepW lt k x B fs W) := by
  cases ho : B.ok
  · rw [stepW_no ho]; exact h
  · rw [stepW_ok ho]; exact foldW_in hB ho hx fs W hf h
theorem bestP_in {lt : Way → Way → Bool} {u l : Int} {xs : List Rod} (h0 : 0 ≤ u) (h1 : u ≤ 2) (h2 : l ≤ 5) (hx : ∀ x ∈ xs, RodIn x) : ∀ (r : Nat) (n : Int), r ≤ xs.length → WayIn r (bestP lt u l xs r n)
  | 0, n, _ => ⟨fun _ => rfl, fun _ => rfl, fun x h => (by cases h), by simp [bestP], by simp [bestP]⟩
  | r + 1, n, hr => by
    have hxr : xs[r]? = some (xs[r]'(by omega)) := List.getElem?_eq_getElem (by omega)
    generalize xs[r]'(by omega) = x at hxr
    have hi := hx x (List.mem_of_getElem? hxr)
    have a := bestP_in (lt := lt) h0 h1 h2 hx r ((n - n % 10) / 10) (by omega)
    have b := bestP_in (lt := lt) h0 h1 h2 hx r ((n - (n % 10 + 10)) / 10) (by omega)
    rw [bestP, hxr]
    simp only [Option.getD_some]
    split
    · exact stepW_in b hi (formsR_in h0 h1 h2) (stepW_in a hi (formsR_in h0 h1 h2) (wayIn0 _))
    · exact stepW_in a hi (formsR_in h0 h1 h2) (wayIn0 _)
/-- How far has the search come? -/
structure StW (lt : Way → Way → Bool) (u l : Int) (xs : List Rod) (r : Nat) (N val : Int) (W : Way) : Prop where
  out : (val = N % 10 ∧ W = way0) ∨ (val = N % 10 + 10 ∧ W = stepW lt (r : Int) (xs[r]?.getD ⟨0, 0⟩) (bestP lt u l xs r ((N - N % 10) / 10)) (formsR u l (N % 10)) way0) ∨
    (val = N % 10 + 20 ∧ N % 10 + 10 ≤ 15 ∧ N % 10 + 10 ≤ N ∧ W = stepW lt (r : Int) (xs[r]?.getD ⟨0, 0⟩) (bestP lt u l xs r ((N - (N % 10 + 10)) / 10)) (formsR u l (N % 10 + 10)) (stepW lt (r : Int) (xs[r]?.getD ⟨0, 0⟩) (bestP lt u l xs r ((N - N % 10) / 10)) (formsR u l (N % 10)) way0))
section
variable {lt : Way → Way → Bool} {u l : Int} {xs : List Rod} {r : Nat} {N val : Int} {W : Way}
theorem StW.next (h : StW lt u l xs r N val W) (h1 : val ≤ 15) (h2 : val ≤ N) (_ : 0 ≤ N) {x : Rod} (hx : xs[r]? = some x) : StW lt u l xs r N (val + 10) (stepW lt (r : Int) x (bestP lt u l xs r ((N - val) / 10)) (formsR u l val) W) := by
  have e : xs[r]?.getD ⟨0, 0⟩ = x := by rw [hx]; rfl
  rcases h.out with ⟨rfl, rfl⟩ | ⟨rfl, rfl⟩ | ⟨rfl, h3, _⟩
  · exact ⟨.inr (.inl ⟨rfl, by rw [e]⟩)⟩
  · exact ⟨.inr (.inr ⟨by omega, h1, h2, by rw [e]⟩)⟩
  · omega
theorem StW.done (h : StW lt u l xs r N val W) (h1 : ¬ (val ≤ 15 ∧ val ≤ N)) (hN : 0 ≤ N) : W = bestP lt u l xs (r + 1) N := by
  rw [bestP]
  rcases h.out with ⟨rfl, rfl⟩ | ⟨rfl, rfl⟩ | ⟨rfl, h3, h4, rfl⟩
  · omega
  · rw [if_neg (by omega)]
  · rw [if_pos ⟨h3, h4⟩]
theorem StW.bd (h : StW lt u l xs r N val W) : 0 ≤ val ∧ val ≤ 29 := by
  rcases h.out with ⟨rfl, _⟩ | ⟨rfl, _⟩ | ⟨rfl, _⟩ <;> omega
end
theorem below_any {a b : World} (h : Below a.heap.size a b) (row : Option Nat) : a.grownBy b row := ⟨h.os, h.tape, h.output, h.size, fun k hk _ => h.block k hk⟩
theorem Reads.past {w w' : World} {B k m g : Nat} {R : Option Addr} {xs : List Value} (h : Reads w B k R m xs) (hg : w.grownBy w' (some g)) (hB : B ≤ w.heap.size) (hne : 0 < m → ∀ x, R = some x → x.block ≠ g) : Reads w' B k R m xs :=
  ⟨h.1, fun hm => by
    obtain ⟨ad, e, hb, hc⟩ := h.2 hm
    refine ⟨ad, e, hb, fun j u hu => ?_⟩
    rw [World.cell?_of_block (hg.block _ (by rw [block_of_add]; omega) (by rw [block_of_add]; exact fun e' => hne hm ad e (Option.some.inj e')))]
    exact hc j u hu⟩
theorem Reads.lowOf {w : World} {B k m g : Nat} {R : Option Addr} {xs : List Value} (h : Reads w B k R m xs) (hg : B ≤ g) : 0 < m → ∀ x, R = some x → x.block ≠ g := by
  intro hm x hx e
  obtain ⟨ad, e2, hb, _⟩ := h.2 hm
  rw [hx] at e2
  injection e2 with e2
  subst e2
  omega
/-- A row of the call's own and a block of another type are two. -/
theorem own_ne_blk {w : World} {base E k n c g t : Nat} {A : Option Addr} {vs : List Value} {cs : Array Value} (h : w.ownsRow base E k (.slice A n c) n vs) (hb : Blk w g t cs) (hne : t ≠ E) : ∀ x, A = some x → x.block ≠ g := by
  intro x hx e
  rcases h.2 with ⟨h1, _⟩ | ⟨g', cap, cur, hv, _, hgg, _⟩
  · rw [hx] at h1; cases h1
  · injection hv with hA
    rw [hx] at hA
    injection hA with hA
    subst hA
    have e : g' = g := e
    subst e
    unfold Blk at hb
    rw [hb] at hgg
    injection hgg with hgg
    injection hgg with _ ht
    exact hne ht
theorem Blk.pushed {w w' : World} {g t : Nat} {cs : Array Value} {A A' : Option Addr} (h : Blk w g t cs) (hp : Pushed w w' A A') (hne : ∀ x, A = some x → x.block ≠ g) : Blk w' g t cs :=
  h.grown hp.grown (fun e => by
    cases A with
    | none => cases e
    | some a => injection e with e; exact hne a rfl e.symm)
theorem Acc.setOther {w0 w : World} {E k n c g t : Nat} {A : Option Addr} {zs : List Int} {cs : Array Value} (h : Acc w0 w E k A n c zs) (hb : Blk w g t cs) (hne : t ≠ E) (hg : w0.heap.size ≤ g) (i : Nat) (v : Value) : Acc w0 (w.setCell ⟨g, i, none⟩ v) E k A n c zs := by
  refine ⟨h.own.kept (grown_set w ⟨g, i, none⟩ v) ?_, ext_set h.ext hg v⟩
  rw [ownBlock_slice]
  cases A with
  | none => exact .inl rfl
  | some x => exact .inr (fun e => own_ne_blk h.own hb hne x rfl (Option.some.inj e))
end Go.Proofs.Ytkgbcjiinicffaa
