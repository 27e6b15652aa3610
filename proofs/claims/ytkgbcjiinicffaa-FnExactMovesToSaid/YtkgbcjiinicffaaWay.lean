/- The best of all targets: plain law, no program in sight. No condition. -/
import Derived.Test.YtkgbcjiinicffaaTgs
import Derived.Test.YtkgbcjiinicffaaMvs
namespace Go.Proofs.Ytkgbcjiinicffaa
open Go.RowKit

structure Way where
  rods : List Rod
  m : Int
  b : Int
  ok : Bool
def way0 : Way := ⟨[], 0, 0, false⟩
def wayOf (xs t : List Rod) : Way := ⟨t, ((mvL xs t).length : Int), bdS (mvL xs t), true⟩
def nextW (k : Int) (x : Rod) (o : Way) (f : Rod) : Way := ⟨o.rods ++ [f], o.m + ((mvR k x f).length : Int), o.b + bdS (mvR k x f), true⟩
theorem nextW_of {xs t : List Rod} {x f : Rod} (h : xs[t.length]? = some x) : nextW (t.length : Int) x (wayOf xs t) f = wayOf xs (t ++ [f]) := by
  have e : mvL xs (t ++ [f]) = mvL xs t ++ mvR (t.length : Int) x f := by
    unfold mvL
    rw [mvFr_snoc h, Nat.zero_add]
  unfold nextW wayOf
  simp only [e, bdS_app, List.length_append, Int.natCast_add]
def nearerB (a b : Way) : Bool :=
  if a.ok = b.ok then (if a.ok = true then (if a.m = b.m then (if a.b = b.b then befB a.rods b.rods else decide (a.b < b.b)) else decide (a.m < b.m)) else false) else a.ok
def fewerB (a b : Way) : Bool := if a.ok = b.ok then (a.ok && decide (a.b < b.b)) else a.ok
theorem befB_snoc (f : Rod) : ∀ (xs ys : List Rod), xs.length = ys.length → befB (xs ++ [f]) (ys ++ [f]) = befB xs ys
  | [], [], _ => by simp [befB]
  | [], _ :: _, h => by simp at h
  | _ :: _, [], h => by simp at h
  | x :: xs, y :: ys, h => by
    have ih := befB_snoc f xs ys (by simpa using h)
    rw [List.cons_append, List.cons_append, befB, befB, ih]
theorem befB_neg : ∀ (xs ys zs : List Rod), xs.length = ys.length → ys.length = zs.length → befB xs ys = false → befB ys zs = false → befB xs zs = false
  | [], _, _, _, _, _, _ => by simp [befB]
  | _ :: _, [], _, h, _, _, _ => by simp at h
  | _ :: _, _ :: _, [], _, h, _, _ => by simp at h
  | x :: xs, y :: ys, z :: zs, h1, h2, h3, h4 => by
    have ih := befB_neg xs ys zs (by simpa using h1) (by simpa using h2)
    rw [befB] at h3 h4 ⊢
    split at h3 <;> split at h4
    · split at h3 <;> split at h4
      · rw [if_pos (by omega), if_pos (by omega)]; exact ih h3 h4
      · rw [if_pos (by omega), if_neg (by omega)]; simp at h4 ⊢; omega
      · rw [if_pos (by omega), if_neg (by omega)]; simp at h3 ⊢; omega
      · simp at h3 h4
        rw [if_pos (by omega), if_neg (by omega)]; simp; omega
    · simp at h4; rw [if_neg (by omega)]; simp; omega
    · simp at h3; rw [if_neg (by omega)]; simp; omega
    · simp at h3 h4; rw [if_neg (by omega)]; simp; omega
theorem befB_asym : ∀ (xs ys : List Rod), befB xs ys = true → befB ys xs = false
  | [], _, _ => by cases ‹List Rod› <;> simp [befB]
  | _ :: _, [], _ => by simp [befB]
  | x :: xs, y :: ys, h => by
    have ih := befB_asym xs ys
    rw [befB] at h ⊢
    split at h
    · split at h
      · rw [if_pos (by omega), if_pos (by omega)]; exact ih h
      · simp at h; rw [if_pos (by omega), if_neg (by omega)]; simp; omega
    · simp at h; rw [if_neg (by omega)]; simp; omega
theorem befB_total : ∀ (xs ys : List Rod), xs.length = ys.length → befB xs ys = false → befB ys xs = false → xs = ys
  | [], [], _, _, _ => rfl
  | [], _ :: _, h, _, _ => by simp at h
  | _ :: _, [], h, _, _ => by simp at h
  | x :: xs, y :: ys, h, h1, h2 => by
    have ih := befB_total xs ys (by simpa using h)
    rw [befB] at h1 h2
    split at h1
    · rename_i ha
      rw [if_pos ha.symm] at h2
      split at h1
      · rename_i hb
        rw [if_pos hb.symm] at h2
        rw [ih h1 h2]
        cases x; cases y
        simp only at ha hb
        rw [ha, hb]
      · rw [if_neg (by omega)] at h2
        simp at h1 h2; omega
    · rw [if_neg (by omega)] at h2
      simp at h1 h2; omega
/-- What an order must do. -/
structure Swo (lt : Way → Way → Bool) : Prop where
  irr : ∀ a, lt a a = false
  zero : ∀ a, a.ok = true → lt a way0 = true
  neg : ∀ a b c, a.ok = true → b.ok = true → c.ok = true → a.rods.length = b.rods.length → b.rods.length = c.rods.length → lt a b = false → lt b c = false → lt a c = false
  asym : ∀ a b, a.ok = true → b.ok = true → lt a b = true → lt b a = false
  mono : ∀ a b k x f, a.ok = true → b.ok = true → a.rods.length = b.rods.length → lt a b = false → lt (nextW k x a f) (nextW k x b f) = false
theorem nearer_swo : Swo nearerB where
  irr a := by
    unfold nearerB
    rw [if_pos rfl, if_pos rfl, if_pos rfl, befB_self]
    split <;> rfl
  zero a h := by simp [nearerB, way0, h]
  neg a b c ha hb hc h1 h2 h3 h4 := by
    unfold nearerB at *
    rw [ha, hb, if_pos rfl, if_pos rfl] at h3
    rw [hb, hc, if_pos rfl, if_pos rfl] at h4
    rw [ha, hc, if_pos rfl, if_pos rfl]
    split at h3 <;> split at h4
    · split at h3 <;> split at h4
      · rw [if_pos (by omega), if_pos (by omega)]; exact befB_neg _ _ _ h1 h2 h3 h4
      · simp at h4; rw [if_pos (by omega), if_neg (by omega)]; simp; omega
      · simp at h3; rw [if_pos (by omega), if_neg (by omega)]; simp; omega
      · simp at h3 h4; rw [if_pos (by omega), if_neg (by omega)]; simp; omega
    · simp at h4; rw [if_neg (by omega)]; simp; omega
    · simp at h3; rw [if_neg (by omega)]; simp; omega
    · simp at h3 h4; rw [if_neg (by omega)]; simp; omega
  asym a b ha hb h := by
    unfold nearerB at *
    rw [ha, hb, if_pos rfl, if_pos rfl] at *
    split at h
    · split at h
      · rw [if_pos (by omega), if_pos (by omega)]; exact befB_asym _ _ h
      · simp at h; rw [if_pos (by omega), if_neg (by omega)]; simp; omega
    · simp at h; rw [if_neg (by omega)]; simp; omega
  mono a b k x f ha hb hl h := by
    unfold nearerB at *
    rw [ha, hb, if_pos rfl, if_pos rfl] at h
    unfold nextW
    simp only [if_true]
    split at h
    · rw [if_pos (by omega)]
      split at h
      · rw [if_pos (by omega), befB_snoc f _ _ hl]; exact h
      · simp at h; rw [if_neg (by omega)]; simp; omega
    · simp at h; rw [if_neg (by omega)]; simp; omega
theorem fewer_swo : Swo fewerB where
  irr a := by simp [fewerB]
  zero a h := by simp [fewerB, way0, h]
  neg a b c ha hb hc _ _ h3 h4 := by
    simp [fewerB, ha, hb, hc] at *
    omega
  asym a b ha hb h := by
    simp [fewerB, ha, hb] at *
    omega
  mono a b k x f ha hb _ h := by
    simp [fewerB, nextW, ha, hb] at *
    omega
/-- W is a best one of all lists with P. -/
def Bst (lt : Way → Way → Bool) (xs : List Rod) (P : List Rod → Prop) (W : Way) : Prop :=
  ((∀ t, ¬ P t) ∧ W = way0) ∨ ∃ t, P t ∧ W = wayOf xs t ∧ ∀ s, P s → lt (wayOf xs s) (wayOf xs t) = false
theorem Bst.congr {lt : Way → Way → Bool} {xs : List Rod} {P Q : List Rod → Prop} {W : Way} (h : Bst lt xs P W) (e : ∀ s, P s ↔ Q s) : Bst lt xs Q W := by
  rcases h with ⟨h1, h2⟩ | ⟨t, h1, h2, h3⟩
  · exact .inl ⟨fun t ht => h1 t ((e t).2 ht), h2⟩
  · exact .inr ⟨t, (e t).1 h1, h2, fun s hs => h3 s ((e s).2 hs)⟩
section
variable {lt : Way → Way → Bool} (hlt : Swo lt) {xs : List Rod} {P : List Rod → Prop} {W : Way}
include hlt
/-- One more list. -/
theorem Bst.snoc (h : Bst lt xs P W) (t : List Rod) (hP : ∀ s, P s → s.length = t.length) : Bst lt xs (fun s => P s ∨ s = t) (if lt (wayOf xs t) W = true then wayOf xs t else W) := by
  rcases h with ⟨h1, rfl⟩ | ⟨t0, h1, rfl, h3⟩
  · rw [if_pos (hlt.zero _ rfl)]
    refine .inr ⟨t, .inr rfl, rfl, fun s hs => ?_⟩
    rcases hs with hs | rfl
    · exact absurd hs (h1 s)
    · exact hlt.irr _
  · split
    · rename_i h
      refine .inr ⟨t, .inr rfl, rfl, fun s hs => ?_⟩
      rcases hs with hs | rfl
      · exact hlt.neg _ _ _ rfl rfl rfl (by show s.length = t0.length; rw [hP s hs, hP t0 h1]) (by show t0.length = t.length; exact hP t0 h1) (h3 s hs) (hlt.asym _ _ rfl rfl h)
      · exact hlt.irr _
    · rename_i h
      refine .inr ⟨t0, .inl h1, rfl, fun s hs => ?_⟩
      rcases hs with hs | rfl
      · exact h3 s hs
      · simpa using h
/-- All lists with one more form behind, by the best of them alone. -/
theorem Bst.form (h : Bst lt xs P W) {ts : List (List Rod)} {r : Nat} {x : Rod} (hx : xs[r]? = some x) (hts : ∀ t ∈ ts, t.length = r) {b : List Rod} (hb : b ∈ ts) (hbest : ∀ t ∈ ts, lt (wayOf xs t) (wayOf xs b) = false) (f : Rod) (hP : ∀ s, P s → s.length = r + 1) :
    Bst lt xs (fun s => P s ∨ ∃ t ∈ ts, s = t ++ [f]) (if lt (nextW (r : Int) x (wayOf xs b) f) W = true then nextW (r : Int) x (wayOf xs b) f else W) := by
  have e : ∀ t ∈ ts, nextW (r : Int) x (wayOf xs t) f = wayOf xs (t ++ [f]) := by
    intro t ht
    have hl := hts t ht
    subst hl
    exact nextW_of hx
  have hbl : (b ++ [f]).length = r + 1 := by rw [List.length_append, hts b hb]; rfl
  have hm : ∀ t ∈ ts, lt (wayOf xs (t ++ [f])) (wayOf xs (b ++ [f])) = false := by
    intro t ht
    rw [← e t ht, ← e b hb]
    exact hlt.mono _ _ _ _ _ rfl rfl (by show t.length = b.length; rw [hts t ht, hts b hb]) (hbest t ht)
  rw [e b hb]
  rcases h.snoc hlt (b ++ [f]) (fun s hs => by rw [hP s hs, hbl]) with ⟨h1, _⟩ | ⟨t0, h1, h2, h3⟩
  · exact absurd (.inr rfl) (h1 (b ++ [f]))
  · refine .inr ⟨t0, ?_, h2, fun s hs => ?_⟩
    · rcases h1 with h1 | rfl
      · exact .inl h1
      · exact .inr ⟨b, hb, rfl⟩
    · rcases hs with hs | ⟨t, ht, rfl⟩
      · exact h3 s (.inl hs)
      · refine hlt.neg _ (wayOf xs (b ++ [f])) _ rfl rfl rfl ?_ ?_ (hm t ht) (h3 _ (.inr rfl))
        · show (t ++ [f]).length = (b ++ [f]).length
          rw [hbl, List.length_append, hts t ht]; rfl
        · show (b ++ [f]).length = t0.length
          rcases h1 with h1 | rfl
          · rw [hbl, hP t0 h1]
          · rfl
end
def stepW (lt : Way → Way → Bool) (k : Int) (x : Rod) (o : Way) (fs : List Rod) (W : Way) : Way :=
  if o.ok = true then fs.foldl (fun W f => if lt (nextW k x o f) W = true then nextW k x o f else W) W else W
theorem foldW_bst {lt : Way → Way → Bool} (hlt : Swo lt) {xs : List Rod} {ts : List (List Rod)} {r : Nat} {x : Rod} (hx : xs[r]? = some x) (hts : ∀ t ∈ ts, t.length = r) {b : List Rod} (hb : b ∈ ts) (hbest : ∀ t ∈ ts, lt (wayOf xs t) (wayOf xs b) = false) :
    ∀ (fs : List Rod) (P : List Rod → Prop) (W : Way), Bst lt xs P W → (∀ s, P s → s.length = r + 1) →
      Bst lt xs (fun s => P s ∨ ∃ t ∈ ts, ∃ f ∈ fs, s = t ++ [f]) (fs.foldl (fun W f => if lt (nextW (r : Int) x (wayOf xs b) f) W = true then nextW (r : Int) x (wayOf xs b) f else W) W)
  | [], P, W, h, _ => h.congr (fun s => by simp)
  | f :: fs, P, W, h, hP => by
    have h1 := h.form hlt hx hts hb hbest f hP
    have h2 := foldW_bst hlt hx hts hb hbest fs _ _ h1 (fun s hs => by
      rcases hs with hs | ⟨t, ht, rfl⟩
      · exact hP s hs
      · rw [List.length_append, hts t ht]; rfl)
    rw [List.foldl_cons]
    refine h2.congr (fun s => ?_)
    constructor
    · rintro ((h | ⟨t, ht, rfl⟩) | ⟨t, ht, g, hg, rfl⟩)
      · exact .inl h
      · exact .inr ⟨t, ht, f, by simp, rfl⟩
      · exact .inr ⟨t, ht, g, by simp [hg], rfl⟩
    · rintro (h | ⟨t, ht, g, hg, rfl⟩)
      · exact .inl (.inl h)
      · rcases List.mem_cons.1 hg with rfl | hg
        · exact .inl (.inr ⟨t, ht, rfl⟩)
        · exact .inr ⟨t, ht, g, hg, rfl⟩
theorem mem_stepT {ts : List (List Rod)} {fs : List Rod} {s : List Rod} : s ∈ stepT ts fs ↔ ∃ t ∈ ts, ∃ f ∈ fs, s = t ++ [f] := by
  unfold stepT
  simp only [List.mem_flatMap, List.mem_map]
  constructor
  · rintro ⟨t, ht, f, hf, rfl⟩; exact ⟨t, ht, f, hf, rfl⟩
  · rintro ⟨t, ht, f, hf, rfl⟩; exact ⟨t, ht, f, hf, rfl⟩
theorem stepW_bst {lt : Way → Way → Bool} (hlt : Swo lt) {xs : List Rod} {ts : List (List Rod)} {r : Nat} {x : Rod} (hx : xs[r]? = some x) (hts : ∀ t ∈ ts, t.length = r) {o : Way} (ho : Bst lt xs (· ∈ ts) o) (fs : List Rod)
    {rows : List (List Rod)} {W : Way} (h : Bst lt xs (· ∈ rows) W) (hP : ∀ s ∈ rows, s.length = r + 1) : Bst lt xs (· ∈ rows ++ stepT ts fs) (stepW lt (r : Int) x o fs W) := by
  unfold stepW
  rcases ho with ⟨h1, rfl⟩ | ⟨b, hb, rfl, hbest⟩
  · rw [if_neg (by simp [way0])]
    have : ts = [] := List.eq_nil_iff_forall_not_mem.2 h1
    subst this
    refine h.congr (fun s => ?_)
    simp [stepT]
  · rw [if_pos (show (wayOf xs b).ok = true from rfl)]
    refine (foldW_bst hlt hx hts hb hbest fs _ _ h hP).congr (fun s => ?_)
    rw [List.mem_append, mem_stepT]
/-- What the program computes. -/
def bestP (lt : Way → Way → Bool) (u l : Int) (xs : List Rod) : Nat → Int → Way
  | 0, n => ⟨[], 0, 0, decide (n = 0)⟩
  | r + 1, n =>
    if n % 10 + 10 ≤ 15 ∧ n % 10 + 10 ≤ n then
      stepW lt (r : Int) (xs[r]?.getD ⟨0, 0⟩) (bestP lt u l xs r ((n - (n % 10 + 10)) / 10)) (formsR u l (n % 10 + 10)) (stepW lt (r : Int) (xs[r]?.getD ⟨0, 0⟩) (bestP lt u l xs r ((n - n % 10) / 10)) (formsR u l (n % 10)) way0)
    else stepW lt (r : Int) (xs[r]?.getD ⟨0, 0⟩) (bestP lt u l xs r ((n - n % 10) / 10)) (formsR u l (n % 10)) way0
theorem bst0 (lt : Way → Way → Bool) (xs : List Rod) : Bst lt xs (· ∈ ([] : List (List Rod))) way0 := .inl ⟨fun t h => (by cases h), rfl⟩
theorem wayOf_nil (xs : List Rod) : wayOf xs [] = ⟨[], 0, 0, true⟩ := by
  have : mvL xs [] = [] := by unfold mvL; cases xs <;> rfl
  unfold wayOf
  rw [this]; rfl
theorem bestP_bst {lt : Way → Way → Bool} (hlt : Swo lt) (u l : Int) (xs : List Rod) : ∀ (r : Nat) (n : Int), r ≤ xs.length → Bst lt xs (· ∈ tgts u l r n) (bestP lt u l xs r n)
  | 0, n, _ => by
    rw [tgts, bestP]
    split
    · rename_i h
      refine .inr ⟨[], by simp, by rw [wayOf_nil]; simp [h], fun s hs => ?_⟩
      have : s = [] := by simpa using hs
      subst this
      exact hlt.irr _
    · rename_i h
      exact .inl ⟨fun t h => (by cases h), by simp [way0, h]⟩
  | r + 1, n, hr => by
    have hx : xs[r]? = some (xs[r]'(by omega)) := List.getElem?_eq_getElem (by omega)
    generalize xs[r]'(by omega) = x at hx
    have a := bestP_bst hlt u l xs r ((n - n % 10) / 10) (by omega)
    have b := bestP_bst hlt u l xs r ((n - (n % 10 + 10)) / 10) (by omega)
    have e : ∀ (v : Int) (fs : List Rod), ∀ t ∈ stepT (tgts u l r v) fs, t.length = r + 1 := by
      intro v fs t ht
      obtain ⟨s, hs, f, _, rfl⟩ := mem_stepT.1 ht
      rw [List.length_append, tgts_each u l r v s hs]; rfl
    have s1 := stepW_bst hlt hx (tgts_each u l r _) a (formsR u l (n % 10)) (bst0 lt xs) (fun s h => by cases h)
    rw [List.nil_append] at s1
    rw [tgts, bestP, hx]
    simp only [Option.getD_some]
    split
    · exact stepW_bst hlt hx (tgts_each u l r _) b (formsR u l (n % 10 + 10)) s1 (e _ _)
    · rw [List.append_nil]; exact s1
/-- What the reference computes: list by list. -/
def pickL (lt : Way → Way → Bool) (xs : List Rod) (ts : List (List Rod)) : Way := ts.foldl (fun W t => if lt (wayOf xs t) W = true then wayOf xs t else W) way0
theorem pickL_next {lt : Way → Way → Bool} {xs : List Rod} {ts : List (List Rod)} {i : Nat} {t : List Rod} (h : ts[i]? = some t) : pickL lt xs (ts.take (i + 1)) = (if lt (wayOf xs t) (pickL lt xs (ts.take i)) = true then wayOf xs t else pickL lt xs (ts.take i)) := by
  unfold pickL
  rw [List.take_add_one, h, List.foldl_append]; rfl
theorem pickL_bst {lt : Way → Way → Bool} (hlt : Swo lt) (xs : List Rod) (ts : List (List Rod)) (r : Nat) (hts : ∀ t ∈ ts, t.length = r) : Bst lt xs (· ∈ ts) (pickL lt xs ts) := by
  have key : ∀ k, k ≤ ts.length → Bst lt xs (· ∈ ts.take k) (pickL lt xs (ts.take k)) := by
    intro k
    induction k with
    | zero => intro _; exact bst0 lt xs
    | succ k ih =>
      intro hk
      have ht : ts[k]? = some (ts[k]'(by omega)) := List.getElem?_eq_getElem (by omega)
      generalize ts[k]'(by omega) = t at ht
      rw [pickL_next ht]
      refine ((ih (by omega)).snoc hlt t (fun s hs => ?_)).congr (fun s => ?_)
      · rw [hts s (List.mem_of_mem_take hs), hts t (List.mem_of_getElem? ht)]
      · rw [List.take_add_one, ht]; simp
  have := key ts.length (Nat.le_refl _)
  rwa [List.take_length] at this
theorem nearer_one {xs : List Rod} {ts : List (List Rod)} {r : Nat} (hts : ∀ t ∈ ts, t.length = r) {V W : Way} (h1 : Bst nearerB xs (· ∈ ts) V) (h2 : Bst nearerB xs (· ∈ ts) W) : V = W := by
  rcases h1 with ⟨a1, rfl⟩ | ⟨t, a1, rfl, a3⟩
  · rcases h2 with ⟨b1, rfl⟩ | ⟨s, b1, rfl, b3⟩
    · rfl
    · exact absurd b1 (a1 s)
  · rcases h2 with ⟨b1, rfl⟩ | ⟨s, b1, rfl, b3⟩
    · exact absurd a1 (b1 t)
    · have c1 := a3 s b1
      have c2 := b3 t a1
      have hl : t.length = s.length := by rw [hts t a1, hts s b1]
      unfold nearerB at c1 c2
      simp only [show ∀ z, (wayOf xs z).ok = true from fun _ => rfl, if_true] at c1 c2
      split at c1
      · rename_i hm
        rw [if_pos hm.symm] at c2
        split at c1
        · rename_i hb
          rw [if_pos hb.symm] at c2
          rw [befB_total _ _ hl c2 c1]
        · rw [if_neg (by omega)] at c2
          simp at c1 c2; omega
      · rw [if_neg (by omega)] at c2
        simp at c1 c2; omega
theorem fewer_one {xs : List Rod} {ts : List (List Rod)} {V W : Way} (h1 : Bst fewerB xs (· ∈ ts) V) (h2 : Bst fewerB xs (· ∈ ts) W) : V.ok = W.ok ∧ V.b = W.b := by
  rcases h1 with ⟨a1, rfl⟩ | ⟨t, a1, rfl, a3⟩
  · rcases h2 with ⟨b1, rfl⟩ | ⟨s, b1, rfl, b3⟩
    · exact ⟨rfl, rfl⟩
    · exact absurd b1 (a1 s)
  · rcases h2 with ⟨b1, rfl⟩ | ⟨s, b1, rfl, b3⟩
    · exact absurd a1 (b1 t)
    · have c1 := a3 s b1
      have c2 := b3 t a1
      refine ⟨rfl, ?_⟩
      simp [fewerB, show ∀ z, (wayOf xs z).ok = true from fun _ => rfl] at c1 c2
      omega
end Go.Proofs.Ytkgbcjiinicffaa
