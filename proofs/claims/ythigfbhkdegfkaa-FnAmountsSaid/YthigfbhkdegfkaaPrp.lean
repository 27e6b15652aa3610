/- The proper amount with a value: walks on both sides. No condition. -/
import Derived.Test.YthigfbhkdegfkaaVal
namespace Go.Proofs.Ythigfbhkdegfkaa
open Go.RowKit

theorem grown_set (w : World) (p : Addr) (u : Value) : w.grownBy (w.setCell p u) (some p.block) :=
  ⟨rfl, rfl, rfl, by simp [World.setCell], fun k _ hne => Below.heap_setCell _ _ _ _ (fun e => hne (by rw [e]))⟩
theorem below_any {a b : World} (h : Below a.heap.size a b) (row : Option Nat) : a.grownBy b row := ⟨h.os, h.tape, h.output, h.size, fun k hk _ => h.block k hk⟩
theorem own_ne_blk {w : World} {base E k n c g t : Nat} {A : Option Addr} {vs : List Value} {cs : Array Value} (h : w.ownsRow base E k (.slice A n c) n vs) (hb : Blk w g t cs) (hne : t ≠ E) : ∀ x, A = some x → x.block ≠ g := by
  intro x hx e
  rcases h.2 with ⟨h1, _⟩ | ⟨g', cap, cur, hv, _, hgg, _⟩
  · rw [hx] at h1; cases h1
  · injection hv with hA
    rw [hx] at hA
    injection hA with hA
    subst hA
    have e : g' = g := e
    subst e
    unfold Blk at hb
    rw [hb] at hgg
    injection hgg with hgg
    injection hgg with _ ht
    exact hne ht
theorem Blk.pushed {w w' : World} {g t : Nat} {cs : Array Value} {A A' : Option Addr} (h : Blk w g t cs) (hp : Pushed w w' A A') (hne : ∀ x, A = some x → x.block ≠ g) : Blk w' g t cs :=
  h.grown hp.grown (fun e => by
    cases A with
    | none => cases e
    | some a => injection e with e; exact hne a rfl e.symm)
theorem Acc.setOther {w0 w : World} {E k n c g t : Nat} {A : Option Addr} {zs : List Int} {cs : Array Value} (h : Acc w0 w E k A n c zs) (hb : Blk w g t cs) (hne : t ≠ E) (hg : w0.heap.size ≤ g) (i : Nat) (v : Value) : Acc w0 (w.setCell ⟨g, i, none⟩ v) E k A n c zs := by
  refine ⟨h.own.kept (grown_set w ⟨g, i, none⟩ v) ?_, ext_set h.ext hg v⟩
  rw [ownBlock_slice]
  cases A with
  | none => exact .inl rfl
  | some x => exact .inr (fun e => own_ne_blk h.own hb hne x rfl (Option.some.inj e))
/-- Size number j (1 behind the end), what is left at unit i, the counts before it, all of them. -/
def szAt (us : List Unt) (j : Nat) : Int := match us[j]? with
  | some x => x.sz
  | none => 1
def quoT (us : List Unt) (v : Int) : Nat → Int
  | 0 => v
  | i + 1 => quoT us v i / szAt us (i + 1)
def propTo (us : List Unt) (v : Int) (k : Nat) : List Int := (List.range k).map fun i => quoT us v i % szAt us (i + 1)
def propL (us : List Unt) (v : Int) : List Int := propTo us v (us.length - 1) ++ [quoT us v (us.length - 1)]
def propOk (us : List Unt) (v : Int) : Bool := decide (0 ≤ v) && decide (quoT us v (us.length - 1) ≤ 9999)
theorem propTo_next (us : List Unt) (v : Int) (k : Nat) : propTo us v (k + 1) = propTo us v k ++ [quoT us v k % szAt us (k + 1)] := by
  unfold propTo; rw [List.range_succ, List.map_append]; rfl
theorem propTo_len (us : List Unt) (v : Int) (k : Nat) : (propTo us v k).length = k := by unfold propTo; simp
theorem szAt_some {us : List Unt} {j : Nat} {x : Unt} (h : us[j]? = some x) : szAt us j = x.sz := by unfold szAt; rw [h]
theorem szAt_bd {us : List Unt} (hs : ∀ x ∈ us, 1 ≤ x.sz ∧ x.sz ≤ 100) (j : Nat) : 1 ≤ szAt us j ∧ szAt us j ≤ 100 := by
  unfold szAt
  cases h : us[j]? with
  | none => simp
  | some x => exact hs x (List.mem_of_getElem? h)
theorem quoT_bd {us : List Unt} (hs : ∀ x ∈ us, 1 ≤ x.sz ∧ x.sz ≤ 100) {v : Int} (hv : 0 ≤ v) : ∀ i, 0 ≤ quoT us v i ∧ quoT us v i ≤ v
  | 0 => by simp [quoT]; omega
  | i + 1 => by
    have ih := quoT_bd hs hv i
    have h := szAt_bd hs (i + 1)
    rw [quoT]
    have h1 := Int.ediv_nonneg ih.1 (show 0 ≤ szAt us (i + 1) by omega)
    have h2 := Int.ediv_le_self (szAt us (i + 1)) ih.1
    omega
/-- Is the proper amount valid? -/
theorem prop_amt {us : List Unt} (hs : sysB us = true) {v : Int} (hv : 0 ≤ v) : amtB us (propL us v) = decide (quoT us v (us.length - 1) ≤ 9999) := by
  have hl := (sysB_to hs).1
  have hz := sys_sz hs
  have hq := quoT_bd hz hv (us.length - 1)
  unfold amtB
  rw [hs]
  have e : (propL us v).length = us.length := by
    unfold propL; rw [List.length_append, propTo_len]; simp; omega
  rw [e]
  have h1 : allIn (propTo us v (us.length - 1)) = true := by
    unfold allIn propTo
    rw [List.all_eq_true]
    intro z hz'
    obtain ⟨i, _, rfl⟩ := List.mem_map.1 hz'
    have hb := szAt_bd hz (i + 1)
    have h1 := Int.emod_nonneg (quoT us v i) (show szAt us (i + 1) ≠ 0 by omega)
    have h2 := Int.emod_lt_of_pos (quoT us v i) (show 0 < szAt us (i + 1) by omega)
    exact inB_mk (by omega) (by omega)
  unfold allIn at h1 ⊢
  unfold propL
  rw [List.all_append, h1]
  simp only [decide_true, Bool.true_and, List.all_cons, List.all_nil, Bool.and_true, inB]
  simp [hq.1]
end Go.Proofs.Ythigfbhkdegfkaa
