/- A region that draws its order and holds calls that make memory: operations whose guard says no are passed over at one stroke; an operation that yields its value wherever the cells hold is taken. No condition. -/
import Derived.Test.YthigfbhkdegfkaaBase
import Derived.Deep.RegionHeld3
import Derived.Lib.Hide
namespace Go.Proofs.Ythigfbhkdegfkaa
open Go.RowKit

theorem below_cell {W W' : World} (hb : Below W.heap.size W W') {p : Addr} {v : Value} (h : W.cell? p = some v) : W'.cell? p = some v := by
  obtain ⟨b, o, s⟩ := p
  have hs : s = none := World.cell?_spot h
  subst hs
  exact (hb.cell (World.block_lt_of_cell? W _ h)).trans h

section
variable {P : Program} {ops : Array Oper} {Q : Exit → Act → World → Prop} {md : Region.Mode} {S : World → Prop}
/-- The frame when the temporaries ds have been passed over. -/
def skipAct (ds : List Tmp) (a : Act) : Act := ds.foldl (fun a d => a.put (some d) undef) a
theorem skipAct_nil (a : Act) : skipAct [] a = a := rfl
theorem skipAct_cons (d : Tmp) (ds : List Tmp) (a : Act) : skipAct (d :: ds) a = skipAct ds (a.put (some d) undef) := rfl
/-- May the operations is, of the temporaries ds, be passed over one after another? -/
def skipB (md : Region.Mode) (ops : Array Oper) : List Nat → List Tmp → Array Bool → Act → Bool
  | [], [], _, _ => true
  | i :: is, d :: ds, l, a => (match ops[i]? with
      | some o => decide (o.dst = some d) && !Region.wanted o (yielded ops a.tmps)
      | none => false) && Region.free md ops l i && (Region.ready md ops l).contains i && skipB md ops is ds (l.setIfInBounds i true) (a.put (some d) undef)
  | _, _, _, _ => false
def listAll (is : List Nat) (l : Array Bool) : Array Bool := is.foldl (fun l i => l.setIfInBounds i true) l
theorem wpAnyH_skips (hs : Region.noSelect ops = true) (hQ : ∀ c (a : Act) (d : Tmp) v w, Q (.panic c) (a.put (some d) v) w → Q (.panic c) a w) {w : World} (hS : S w) :
    ∀ (is : List Nat) (ds : List Tmp) (l : Array Bool) (a : Act) (fuel : Nat), skipB md ops is ds l a = true → wpAnyH P md ops Q S fuel (listAll is l) (skipAct ds a) w →
      wpAnyH P md ops Q S (fuel + is.length) l a w
  | [], [], _, _, _, _, h => h
  | [], _ :: _, _, _, _, h0, _ => by simp [skipB] at h0
  | _ :: _, [], _, _, _, h0, _ => by simp [skipB] at h0
  | i :: is, d :: ds, l, a, fuel, h0, h => by
    simp only [skipB, Bool.and_eq_true] at h0
    obtain ⟨⟨⟨h1, hf⟩, hr⟩, hrest⟩ := h0
    match ho : ops[i]?, h1 with
    | some o, h1 =>
      simp only [Bool.and_eq_true, decide_eq_true_eq, Bool.not_eq_true'] at h1
      obtain ⟨hd, hw⟩ := h1
      have ih := wpAnyH_skips hs hQ hS is ds (l.setIfInBounds i true) (a.put (some d) undef) fuel hrest h
      rw [List.length_cons, ← Nat.add_assoc]
      refine wpAnyH_take (v := undef) ho hs hf hr (fun c a w h => hQ c a d _ w (hd ▸ h)) (Or.inr ⟨hw, rfl⟩) hS ?_
      rw [hd]
      exact ih
theorem wpAnyH_skipsTo (hs : Region.noSelect ops = true) (hQ : ∀ c (a : Act) (d : Tmp) v w, Q (.panic c) (a.put (some d) v) w → Q (.panic c) a w) {w : World} (hS : S w)
    (is : List Nat) (ds : List Tmp) (fuel : Nat) {F : Nat} {l : Array Bool} {a : Act} (hF : F = fuel + is.length) (h0 : skipB md ops is ds l a = true) (h : wpAnyH P md ops Q S fuel (listAll is l) (skipAct ds a) w) :
    wpAnyH P md ops Q S F l a w := by subst hF; exact wpAnyH_skips hs hQ hS is ds l a fuel h0 h
theorem wpAnyH_takeD {i : Nat} {oi : Oper} {v : Value} {fuel : Nat} {listed : Array Bool} {a : Act} {w : World} (d : Tmp) (hi : ops[i]? = some oi) (hd : oi.dst = some d)
    (hs : Region.noSelect ops = true) (hf : Region.free md ops listed i = true) (hr : (Region.ready md ops listed).contains i = true)
    (hQ : ∀ c (a : Act) (d : Tmp) v w, Q (.panic c) (a.put (some d) v) w → Q (.panic c) a w) (hw : Region.wanted oi (yielded ops a.tmps) = true) (hS : S w)
    (hy : ∀ w, S w → (execOp a.eval oi).run P w = .ok (.value v) w)
    (h : wpAnyH P md ops Q S fuel (listed.setIfInBounds i true) (a.put (some d) v) w) : wpAnyH P md ops Q S (fuel + 1) listed a w :=
  wpAnyH_take hi hs hf hr (fun c a w h => hQ c a d _ w (hd ▸ h)) (Or.inl ⟨hw, hy⟩) hS (hd ▸ h)
end
end Go.Proofs.Ythigfbhkdegfkaa
