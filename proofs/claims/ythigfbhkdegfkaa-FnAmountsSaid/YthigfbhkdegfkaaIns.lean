/- A copy inside a row of the call's own; one more element put into its place. No condition. -/
import Derived.Test.YthigfbhkdegfkaaAppend
import Derived.Laws.CopyOwn
namespace Go.Proofs.Ythigfbhkdegfkaa
open Go.RowKit

section
variable {P : Program}
theorem run_copy_any (w : World) (dT sT ty elem : TypeId) (size g o dLen dCap : Nat) (a : Addr) (sLen sCap : Nat) (cur : Array Value) (t : TypeId) (cs : List Value)
    (hu : P.underlying dT = some (.slice elem)) (hs : (P.info? elem).map (·.size) = some size)
    (hg : w.heap[g]? = some (.cells cur t (0, 0))) (hn : cs.length = Nat.min sLen dLen * size)
    (hsrc : ∀ j v, cs[j]? = some v → w.cell? (a.add j) = some v) (hfit : o + cs.length ≤ cur.size) (h1 : ∀ v ∈ cs, v.oneCell' = true) :
    (Builtin.copy_ #[dT, sT] ty #[.slice (some ⟨g, o, none⟩) dLen dCap, .slice (some a) sLen sCap]).run P w =
      .ok (goInt (Nat.min sLen dLen : Nat)) (w.setRow g (cur.toList.take o ++ cs ++ cur.toList.drop (o + cs.length)).toArray) := by
  have hl := run_loadCells_list (P := P) w a cs hsrc
  have hst := run_storeCells_at P g o t cs 0 cur w hg (by simpa using hfit) h1
  cases hq : P.info? elem with
  | none => simp [hq] at hs
  | some i =>
    have hi : i.size = size := by simpa [hq] using hs
    rw [hn] at hl
    simp [Builtin.copy_, run_underlying hu, Builtin.lenOf, Builtin.firstCells, sizeOf, typeInfo, hq, hi, hl, hst]
theorem run_copy_zero (w : World) (dT sT ty elem : TypeId) (size : Nat) (d a : Option Addr) (dLen dCap sLen sCap : Nat) (hu : P.underlying dT = some (.slice elem)) (hs : (P.info? elem).map (·.size) = some size) (hn : Nat.min sLen dLen = 0) :
    (Builtin.copy_ #[dT, sT] ty #[.slice d dLen dCap, .slice a sLen sCap]).run P w = .ok (goInt (0 : Nat)) w := by
  cases hq : P.info? elem with
  | none => simp [hq] at hs
  | some i =>
    have hl : ∀ (x : Addr), (loadCells x 0).run P w = .ok #[] w := fun x => by simpa using run_loadCells_list (P := P) w x [] (by simp)
    cases d <;> cases a <;> simp [Builtin.copy_, run_underlying hu, Builtin.lenOf, Builtin.firstCells, sizeOf, typeInfo, hq, hn, storeCells, hl]
end

theorem take_splice_list {α : Type} (L cs : List α) (i M : Nat) (hi : i + cs.length ≤ M) : (L.take i ++ cs ++ L.drop (i + cs.length)).take M = splice (L.take M) i cs := by
  unfold splice
  rw [List.append_assoc, List.take_append, List.take_append, List.take_take, List.take_take, List.take_of_length_le (l := cs), List.drop_take]
  · rw [Nat.min_eq_left (by omega : i ≤ M), Nat.min_eq_right (by omega : i ≤ M)]
    rcases Nat.le_total i L.length with h | h
    · rw [List.length_take, Nat.min_eq_left h, show M - i - cs.length = M - (i + cs.length) from by omega]
    · rw [List.drop_of_length_le (by omega)]; simp
  · have := List.length_take_le i L
    omega
theorem own_splice {w : World} {base : Nat} {e : TypeId} {size g c N : Nat} {xs : List Value} (cs : List Value) (i : Nat) {cur : Array Value}
    (h : w.ownsRow base e size (.slice (some ⟨g, 0, none⟩) N c) N xs) (hg : w.heap[g]? = some (.cells cur e (0, 0))) (hi : i + cs.length ≤ N * size) :
    (w.setRow g (cur.toList.take i ++ cs ++ cur.toList.drop (i + cs.length)).toArray).ownsRow base e size (.slice (some ⟨g, 0, none⟩) N c) N (splice xs i cs) ∧ i + cs.length ≤ cur.size := by
  obtain ⟨hl, h2⟩ := h
  rcases h2 with ⟨hv, _⟩ | ⟨g', cap, cur', hv, hb, hgg, hn, hc, hsz, htake⟩
  · cases hv
  · injection hv with hA _ hcap
    injection hA with hA
    injection hA with hA
    subst hA hcap
    rw [hg] at hgg
    injection hgg with hgg
    injection hgg with hcur
    subst hcur
    have hM : N * size ≤ cur.size := by rw [hsz]; exact Nat.mul_le_mul_right _ hn
    refine ⟨⟨by rw [length_splice _ _ _ (by rw [hl]; exact hi)]; exact hl, .inr ⟨g, c, _, rfl, hb, setRow_heap w g cur _ e _ hg, hn, hc, ?_, ?_⟩⟩, by omega⟩
    · simp
      omega
    · show ((cur.toList.take i ++ cs ++ cur.toList.drop (i + cs.length)).take (N * size)) = _
      rw [take_splice_list _ _ _ _ hi, htake]
theorem own_cur {w : World} {base : Nat} {e : TypeId} {size g c N : Nat} {xs : List Value} (h : w.ownsRow base e size (.slice (some ⟨g, 0, none⟩) N c) N xs) : ∃ cur, w.heap[g]? = some (.cells cur e (0, 0)) := by
  rcases h.2 with ⟨hv, _⟩ | ⟨g', cap, cur', hv, hb, hgg, hn, hc, hsz, htake⟩
  · cases hv
  · injection hv with hA _ hcap
    injection hA with hA
    injection hA with hA
    subst hA
    exact ⟨_, hgg⟩
theorem grownBy_setRow (w : World) (g : Nat) (cs : Array Value) : w.grownBy (w.setRow g cs) (some g) :=
  ⟨rfl, rfl, rfl, by simp [World.setRow], fun k _ hk => setRow_other w g k cs (fun e => hk (by rw [e]))⟩

section
variable {P : Program} {dT sT E : TypeId} {size : Nat} {w0 w : World} {g N c : Nat} {zs : List Int}
theorem run_copy_acc (ty : TypeId) (hu : P.underlying dT = some (.slice E)) (hs : (P.info? E).map (·.size) = some size) (hacc : Acc w0 w E size (some ⟨g, 0, none⟩) N c zs)
    (dp sp : Option Addr) (dLen dCap sLen sCap i j m : Nat) (hm : Nat.min sLen dLen = m) (hpos : 0 < m → dp = some ⟨g, i, none⟩ ∧ sp = some ⟨g, j, none⟩) (hi : i + m * size ≤ N * size) (hj : j + m * size ≤ N * size) :
    ∃ w', (Builtin.copy_ #[dT, sT] ty #[.slice dp dLen dCap, .slice sp sLen sCap]).run P w = .ok (.int .i64 m) w' ∧ Acc w0 w' E size (some ⟨g, 0, none⟩) N c (splice zs i ((zs.drop j).take (m * size))) ∧ w.grownBy w' (some g) := by
  rcases Nat.eq_zero_or_pos m with h0 | h0
  · refine ⟨w, by rw [run_copy_zero w dT sT ty E size dp sp dLen dCap sLen sCap hu hs (by omega), h0]; rfl, ?_, World.grownBy.refl _ _⟩
    rw [h0]
    simpa [splice] using hacc
  · obtain ⟨rfl, rfl⟩ := hpos h0
    obtain ⟨cur, hg⟩ := own_cur hacc.own
    have hl := hacc.len
    have hlen : ((zs.drop j).take (m * size)).length = m * size := by rw [List.length_take, List.length_drop]; omega
    have hsp := own_splice (((zs.drop j).take (m * size)).map (Value.int .i64)) i hacc.own hg (by rw [List.length_map, hlen]; exact hi)
    have hrun := run_copy_any (P := P) w dT sT ty E size g i dLen dCap ⟨g, j, none⟩ sLen sCap cur E (((zs.drop j).take (m * size)).map (Value.int .i64)) hu hs hg (by rw [List.length_map, hlen, hm])
      (fun q v hv => by
        have hc := hacc.own.cells (g := g) rfl (j + q) v
        rw [Addr.add_lit, Nat.zero_add] at hc
        rw [Addr.add_lit]
        refine hc ?_
        rw [List.getElem?_map, List.getElem?_take] at hv
        split at hv
        · rw [List.getElem?_map, ← hv, List.getElem?_drop]
        · cases hv) hsp.2 (ints_oneCell _ _)
    refine ⟨_, by rw [hrun, hm]; rfl, ⟨?_, ?_⟩, grownBy_setRow _ _ _⟩
    · have h := hsp.1
      unfold splice at h ⊢
      simpa [List.map_take, List.map_drop, List.map_append] using h
    · exact ext_grown hacc.ext (grownBy_setRow w g _) (fun b hb => by injection hb with hb; subst hb; exact (hacc.own.lt g rfl).1)
theorem wp_copy_acc {o : Oper} {a : Act} {K : Act → World → Prop} {Q : Exit → Act → World → Prop} (d s : Operand)
    (ho : o.op = .call { callee := .builtin .copy, args := #[d, s], argTypes := #[dT, sT] }) (hu : P.underlying dT = some (.slice E)) (hs : (P.info? E).map (·.size) = some size) (hacc : Acc w0 w E size (some ⟨g, 0, none⟩) N c zs)
    (dp sp : Option Addr) (dLen dCap sLen sCap i j m : Nat) (hd : a.eval d = .slice dp dLen dCap) (hsv : a.eval s = .slice sp sLen sCap) (hm : Nat.min sLen dLen = m) (hpos : 0 < m → dp = some ⟨g, i, none⟩ ∧ sp = some ⟨g, j, none⟩) (hi : i + m * size ≤ N * size) (hj : j + m * size ≤ N * size)
    (h : ∀ w', Acc w0 w' E size (some ⟨g, 0, none⟩) N c (splice zs i ((zs.drop j).take (m * size))) → w.grownBy w' (some g) → K (a.put o.dst (.int .i64 m)) w') : o.wp P a w K Q := by
  obtain ⟨w', hrun, h1, h2⟩ := run_copy_acc (P := P) (sT := sT) o.type hu hs hacc dp sp dLen dCap sLen sCap i j m hm hpos hi hj
  unfold Oper.wp
  simp [execOp, ho, resolve, invoke, builtin, hd, hsv, hrun, Result.andThen]
  exact h w' h1 h2
theorem acc_copy {ops : Array Oper} {rest : List Oper} {o : Oper} {a : Act} {Q : Exit → Act → World → Prop} (hgd : o.guard = none) (d s : Operand)
    (ho : o.op = .call { callee := .builtin .copy, args := #[d, s], argTypes := #[dT, sT] }) (hu : P.underlying dT = some (.slice E)) (hs : (P.info? E).map (·.size) = some size) (hacc : Acc w0 w E size (some ⟨g, 0, none⟩) N c zs)
    (dp sp : Option Addr) (dLen dCap sLen sCap i j m : Nat) (hd : a.eval d = .slice dp dLen dCap) (hsv : a.eval s = .slice sp sLen sCap) (hm : Nat.min sLen dLen = m) (hpos : 0 < m → dp = some ⟨g, i, none⟩ ∧ sp = some ⟨g, j, none⟩) (hi : i + m * size ≤ N * size) (hj : j + m * size ≤ N * size)
    (h : ∀ w', Acc w0 w' E size (some ⟨g, 0, none⟩) N c (splice zs i ((zs.drop j).take (m * size))) → w.grownBy w' (some g) → wpList P ops Q rest (a.put o.dst (.int .i64 m)) w') : wpList P ops Q (o :: rest) a w :=
  wpList_plain hgd fun _ hK => wp_copy_acc d s ho hu hs hacc dp sp dLen dCap sLen sCap i j m hd hsv hm hpos hi hj fun w' h1 h2 => hK _ _ (h w' h1 h2)
theorem acc_copy_step {ops : Array Oper} {o : Oper} {a : Act} {K : Act → World → Prop} {Q : Exit → Act → World → Prop} {F : Prop} (hgd : o.guard = none) (d s : Operand)
    (ho : o.op = .call { callee := .builtin .copy, args := #[d, s], argTypes := #[dT, sT] }) (hu : P.underlying dT = some (.slice E)) (hs : (P.info? E).map (·.size) = some size) (hacc : Acc w0 w E size (some ⟨g, 0, none⟩) N c zs)
    (dp sp : Option Addr) (dLen dCap sLen sCap i j m : Nat) (hd : a.eval d = .slice dp dLen dCap) (hsv : a.eval s = .slice sp sLen sCap) (hm : Nat.min sLen dLen = m) (hpos : 0 < m → dp = some ⟨g, i, none⟩ ∧ sp = some ⟨g, j, none⟩) (hi : i + m * size ≤ N * size) (hj : j + m * size ≤ N * size)
    (h : ∀ w', Acc w0 w' E size (some ⟨g, 0, none⟩) N c (splice zs i ((zs.drop j).take (m * size))) → w.grownBy w' (some g) → K (a.put o.dst (.int .i64 m)) w') :
    if Region.wanted o (yielded ops a.tmps) = true then Oper.wp P o a w K Q else F := by
  have hw : Region.wanted o (yielded ops a.tmps) = true := by simp [Region.wanted, hgd]
  rw [if_pos hw]
  exact wp_copy_acc d s ho hu hs hacc dp sp dLen dCap sLen sCap i j m hd hsv hm hpos hi hj h
end

/-- One more element at place k. -/
def insAt {α : Type} (k : Nat) (x : α) (l : List α) : List α := l.take k ++ x :: l.drop k
theorem insAt_len {α : Type} (k : Nat) (x : α) (l : List α) : (insAt k x l).length = l.length + 1 := by
  unfold insAt; rw [List.length_append, List.length_cons, List.length_take, List.length_drop]; omega
/-- A hole of sz cells made at place k of n elements. -/
theorem hole_list {α : Type} (zs ws : List α) (n k sz : Nat) (hl : zs.length = n * sz) (hw : ws.length = sz) (hk : k ≤ n) :
    ∃ mid, mid.length = sz ∧ splice (zs ++ ws) ((k + 1) * sz) (((zs ++ ws).drop (k * sz)).take ((n - k) * sz)) = zs.take (k * sz) ++ mid ++ zs.drop (k * sz) := by
  have hkn : k * sz ≤ n * sz := Nat.mul_le_mul_right _ hk
  have e1 : (n - k) * sz = n * sz - k * sz := Nat.sub_mul _ _ _
  have e2 : (k + 1) * sz = k * sz + sz := Nat.succ_mul _ _
  refine ⟨((zs ++ ws).drop (k * sz)).take sz, ?_, ?_⟩
  · rw [List.length_take, List.length_drop, List.length_append]; omega
  · have h1 : ((zs ++ ws).drop (k * sz)).take ((n - k) * sz) = zs.drop (k * sz) := by
      rw [List.drop_append_of_le_length (by omega), e1, List.take_append_of_le_length (by rw [List.length_drop]; omega), List.take_of_length_le (by rw [List.length_drop]; omega)]
    rw [h1]
    unfold splice
    rw [List.drop_of_length_le (l := zs ++ ws) (i := (k + 1) * sz + _) (by rw [List.length_append, List.length_drop]; omega), List.append_nil, e2, List.take_add, List.take_append_of_le_length (l₁ := zs) (i := k * sz) (by omega)]
theorem hole_one {α : Type} (zs : List α) (z x : α) (n k : Nat) (hl : zs.length = n) (hk : k ≤ n) :
    (splice (zs ++ [z]) (k + 1) (((zs ++ [z]).drop k).take (n - k))).set k x = insAt k x zs := by
  obtain ⟨mid, hm, e⟩ := hole_list zs [z] n k 1 (by omega) rfl hk
  simp only [Nat.mul_one] at e
  rw [e]
  match mid, hm with
  | [y], _ =>
    unfold insAt
    rw [List.append_assoc, List.set_append, if_neg (by rw [List.length_take]; omega), List.length_take, Nat.min_eq_left (by omega), Nat.sub_self]
    rfl
/-- The first k elements. -/
theorem Reads.front {w : World} {B size n : Nat} {A : Option Addr} {xs : List Value} (h : Reads w B size A n xs) {k : Nat} (hk : k ≤ n) : Reads w B size A k (xs.take (k * size)) := by
  refine ⟨by rw [List.length_take, h.1]; exact Nat.min_eq_left (Nat.mul_le_mul_right _ hk), fun h0 => ?_⟩
  obtain ⟨ad, e, hb, hc⟩ := h.2 (by omega)
  refine ⟨ad, e, hb, fun j u hu => hc j u ?_⟩
  rw [List.getElem?_take] at hu
  split at hu
  · exact hu
  · cases hu
theorem Acc.cap {w0 w : World} {E k n c : Nat} {A : Option Addr} {zs : List Int} (h : Acc w0 w E k A n c zs) : n ≤ c ∧ c ≤ maxLen := by
  rcases h.own.2 with ⟨h1, h2⟩ | ⟨g, cap, cur, hv, _, _, h1, h2, _⟩
  · injection h1 with _ h3 h4; subst h4; unfold maxLen; omega
  · injection hv with _ _ h3; subst h3; exact ⟨h1, h2⟩
theorem Reads.frontI {w : World} {B n : Nat} {A : Option Addr} {zs : List Int} (h : Reads w B 1 A n (zs.map (Value.int .i64))) {k : Nat} (hk : k ≤ n) : Reads w B 1 A k ((zs.take k).map (Value.int .i64)) := by
  have := h.front hk
  rwa [Nat.mul_one, ← List.map_take] at this
theorem Reads.cutI {w : World} {B n : Nat} {A : Option Addr} {zs : List Int} (h : Reads w B 1 A n (zs.map (Value.int .i64))) {k cap : Nat} (hk : k ≤ n) (hc : n ≤ cap) :
    Reads w B 1 (if cap = k then A else A.map (·.add k)) (n - k) ((zs.drop k).map (Value.int .i64)) := by
  have := h.cut hk hc
  rwa [Nat.mul_one, ← List.map_drop] at this
theorem Reads.cutS {w : World} {B n b o : Nat} {zs : List Int} (h : Reads w B 1 (some ⟨b, o, none⟩) n (zs.map (Value.int .i64))) {k cap : Nat} (hk : k ≤ n) (hc : n ≤ cap) :
    Reads w B 1 (if cap = k then some ⟨b, o, none⟩ else some ⟨b, o + k, none⟩) (n - k) ((zs.drop k).map (Value.int .i64)) := by
  have := h.cutI hk hc
  simpa [Addr.add_lit] using this
/-- A new block of one element, beside a row. -/
theorem Side.new {W X : World} {E k c0 n0 : Nat} {A : Option Addr} {zs : List Int} (h : Acc W X E k A n0 c0 zs) (cs : Array Value) (T : TypeId) (news : List Int) (hcs : cs.toList = news.map (Value.int .i64)) (hk : news.length = k) :
    Side (X.alloc (.cells cs T)) (X.heap.size + 1) k (some ⟨X.heap.size, 0, none⟩) 1 news A := by
  refine ⟨reads_new X cs T k news hcs hk, fun _ x hx => ?_, by simp⟩
  injection hx with hx
  subst hx
  intro e
  cases A with
  | none => cases e
  | some y =>
    have h1 := (h.own.lt y.block (by rw [ownBlock_slice]; rfl)).2
    injection e with e
    have e : y.block = X.heap.size := e
    omega
theorem Side.new0 (X : World) (k : Nat) (cs : Array Value) (T : TypeId) (news : List Int) (hcs : cs.toList = news.map (Value.int .i64)) (hk : news.length = k) :
    Side (X.alloc (.cells cs T)) (X.heap.size + 1) k (some ⟨X.heap.size, 0, none⟩) 1 news none :=
  ⟨reads_new X cs T k news hcs hk, fun _ _ _ => by simp, by simp⟩
/-- A new row beside what is read. -/
theorem Side.row {w : World} {B k m : Nat} {R : Option Addr} {xs : List Int} (h : Side w B k R m xs none) (o : Obj) : Side (w.alloc o) B k R m xs (some ⟨w.heap.size, 0, none⟩) := by
  refine ⟨h.reads.alloc h.size o, fun hm x hx => ?_, by have := h.size; simp; omega⟩
  obtain ⟨ad, e, hb, _⟩ := h.reads.2 hm
  rw [hx] at e
  injection e with e
  subst e
  intro e
  injection e with e
  have e : w.heap.size = x.block := e
  have := h.size
  omega
/-- Two rows that do not meet. -/
def Apart (A R : Option Addr) : Prop := ∀ x y, A = some x → R = some y → x.block ≠ y.block
theorem Apart.symm {A R : Option Addr} (h : Apart A R) : Apart R A := fun x y hx hy e => h y x hy hx e.symm
theorem Apart.none_ (R : Option Addr) : Apart none R := fun _ _ h => by cases h
section
variable {w0 w w' : World} {E k n c : Nat} {A A' R : Option Addr} {zs : List Int}
theorem Acc.beside (h : Acc w0 w E k A n c zs) {row : Option Nat} (hg : w.grownBy w' row) (hext : Below w0.heap.size w0 w') (hne : ∀ x, A = some x → row ≠ some x.block) : Acc w0 w' E k A n c zs := by
  refine ⟨h.own.kept hg ?_, hext⟩
  cases A with
  | none => exact .inl rfl
  | some x => exact .inr (fun e => hne x rfl e.symm)
theorem Acc.lt (h : Acc w0 w E k A n c zs) : ∀ y, A = some y → y.block < w.heap.size := fun y hy => (h.own.lt y.block (by rw [ownBlock_slice, hy]; rfl)).2
theorem Apart.pushed (h : Apart A R) (hp : Pushed w w' A A') (hR : ∀ y, R = some y → y.block < w.heap.size) : Apart A' R := by
  intro x y hx hy e
  rcases hp.place with hpl | hpl
  · rw [hx] at hpl
    cases A with
    | none => cases hpl
    | some a =>
      have hpl : x.block = a.block := by simpa using hpl
      exact h a y rfl hy (hpl ▸ e)
  · rw [hx] at hpl
    have hpl : x.block = w.heap.size := by simpa using hpl
    have := hR y hy
    omega
theorem Acc.past (h : Acc w0 w E k R n c zs) (hp : Pushed w w' A A') (hext : Below w0.heap.size w0 w') (ha : Apart A R) : Acc w0 w' E k R n c zs := by
  refine h.beside hp.grown hext (fun x hx e => ?_)
  cases A with
  | none => cases e
  | some a =>
    injection e with e
    exact ha a x rfl hx e
end
/-- Two rows of the call's own, side by side. -/
structure AccP (w0 w : World) (E k : Nat) (A1 : Option Addr) (n1 c1 : Nat) (xs : List Int) (A2 : Option Addr) (n2 c2 : Nat) (ys : List Int) : Prop where
  one : Acc w0 w E k A1 n1 c1 xs
  two : Acc w0 w E k A2 n2 c2 ys
  off : Apart A1 A2
section
variable {w0 w w' : World} {E k n1 c1 n2 c2 : Nat} {A1 A2 : Option Addr} {xs ys : List Int}
theorem AccP.alloc (h : AccP w0 w E k A1 n1 c1 xs A2 n2 c2 ys) (o : Obj) : AccP w0 (w.alloc o) E k A1 n1 c1 xs A2 n2 c2 ys := ⟨h.one.alloc o, h.two.alloc o, h.off⟩
theorem AccP.drewN (h : AccP w0 w E k A1 n1 c1 xs A2 n2 c2 ys) (m : Nat) : AccP w0 (w.drewN m) E k A1 n1 c1 xs A2 n2 c2 ys := ⟨h.one.drewN m, h.two.drewN m, h.off⟩
theorem AccP.drew (h : AccP w0 w E k A1 n1 c1 xs A2 n2 c2 ys) : AccP w0 w.drew E k A1 n1 c1 xs A2 n2 c2 ys := ⟨h.one.drew, h.two.drew, h.off⟩
theorem AccP.later (h : AccP w0 w E k A1 n1 c1 xs A2 n2 c2 ys) (hb : Below w.heap.size w w') : AccP w0 w' E k A1 n1 c1 xs A2 n2 c2 ys := ⟨h.one.later hb, h.two.later hb, h.off⟩
theorem AccP.push1 (h : AccP w0 w E k A1 n1 c1 xs A2 n2 c2 ys) {A' : Option Addr} {n c : Nat} {zs : List Int} (ha : Acc w0 w' E k A' n c zs) (hp : Pushed w w' A1 A') : AccP w0 w' E k A' n c zs A2 n2 c2 ys :=
  ⟨ha, h.two.past hp ha.ext h.off, h.off.pushed hp h.two.lt⟩
theorem AccP.push2 (h : AccP w0 w E k A1 n1 c1 xs A2 n2 c2 ys) {A' : Option Addr} {n c : Nat} {zs : List Int} (ha : Acc w0 w' E k A' n c zs) (hp : Pushed w w' A2 A') : AccP w0 w' E k A1 n1 c1 xs A' n c zs :=
  ⟨h.one.past hp ha.ext h.off.symm, ha, (h.off.symm.pushed hp h.one.lt).symm⟩
theorem pushed_self {g : Nat} (hg : w.grownBy w' (some g)) : Pushed w w' (some ⟨g, 0, none⟩) (some ⟨g, 0, none⟩) := ⟨hg, .inl rfl⟩
theorem pushed_set {g j : Nat} {E k n c : Nat} {zs : List Int} (h : Acc w0 w E k (some ⟨g, 0, none⟩) n c zs) (v : Value) : Pushed w (w.setCell ⟨g, j, none⟩ v) (some ⟨g, 0, none⟩) (some ⟨g, 0, none⟩) :=
  pushed_self (h.own.stored j v).2
end
/-- A cell elsewhere stays while a row grows. -/
theorem Pushed.cell {w w' : World} {A A' : Option Addr} (h : Pushed w w' A A') {b o : Nat} {v : Value} (hc : w.cell? ⟨b, o, none⟩ = some v) (hne : ∀ x, A = some x → x.block ≠ b) : w'.cell? ⟨b, o, none⟩ = some v := by
  refine h.grown.cell hc (fun e => ?_)
  cases A with
  | none => cases e
  | some a =>
    injection e with e
    exact hne a rfl e.symm
theorem Pushed.off {w w' : World} {A A' : Option Addr} (h : Pushed w w' A A') {b : Nat} (hb : b < w.heap.size) (hne : ∀ x, A = some x → x.block ≠ b) : ∀ x, A' = some x → x.block ≠ b := by
  intro x hx e
  rcases h.place with hp | hp
  · rw [hx] at hp
    cases A with
    | none => cases hp
    | some a =>
      have hp : x.block = a.block := by simpa using hp
      exact hne a rfl (hp ▸ e)
  · rw [hx] at hp
    have hp : x.block = w.heap.size := by simpa using hp
    omega
end Go.Proofs.Ythigfbhkdegfkaa
