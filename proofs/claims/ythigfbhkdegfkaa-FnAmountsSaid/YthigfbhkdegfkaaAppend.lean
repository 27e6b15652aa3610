/- Appends to a slice of the call's own, the source nil, empty or not; gathered rows. No condition. -/
import Derived.Test.YthigfbhkdegfkaaIntS
import Derived.Maps.AppendAt
import Derived.Deep.AppendLies
import Derived.RegionTactic
import Derived.OwnWalk
import Derived.Deep.RegionLaw
namespace Go.Proofs.Ythigfbhkdegfkaa
open Go.RowKit

section
variable {P : Program} (w : World)

theorem run_append_of_nil (base : Nat) (t ty e : TypeId) (i : TypeInfo) (size : Nat) (ht : P.underlying t = some (.slice e)) (hi : P.info? e = some i)
    (v : Value) (n : Nat) (xs : List Value) (hown : w.ownsRow base e size v n xs) (c : Nat) : (Builtin.append_ #[t, t] ty #[v, .slice none 0 c]).run P w = .ok v w := by
  rcases hown.2 with ⟨rfl, rfl⟩ | ⟨g, cap, cur, rfl, _, _, hnc, _⟩
  · simp [Builtin.append_, run_underlying ht, sizeOf, typeInfo, hi, Builtin.lenOf, Builtin.firstCells]
  · simp [Builtin.append_, run_underlying ht, sizeOf, typeInfo, hi, Builtin.lenOf, Builtin.firstCells, hnc, storeCells]

theorem run_append_any (base : Nat) (t ty e : TypeId) (i : TypeInfo) (z : Value) (size bytes : Nat) (ht : P.underlying t = some (.slice e)) (hi : P.info? e = some i) (hz : i.zero = some z)
    (hsize : i.size = size) (hby : i.bytes = bytes) (hzs : z.cells.size = size) (hsz : 0 < size)
    (v : Value) (n : Nat) (xs : List Value) (hown : w.ownsRow base e size v n xs)
    (B : Nat) (A : Option Addr) (m c : Nat) (news : List Value) (hr : Reads w B size A m news) (h1 : ∀ u ∈ news, u.oneCell' = true)
    (h63 : n + m ≤ maxLen) (hbytes : (n + m) * bytes ≤ 140737488355328) (hbase : base ≤ w.heap.size) :
    ∃ v' w', (Builtin.append_ #[t, t] ty #[v, .slice A m c]).run P w = .ok v' w' ∧ w'.ownsRow base e size v' (n + m) (xs ++ news) ∧ w.grownBy w' v.ownBlock ∧
      (v'.ownBlock = v.ownBlock ∨ v'.ownBlock = some w.heap.size) := by
  rcases A with _ | ad
  · have hm : m = 0 := by
      rcases Nat.eq_zero_or_pos m with h0 | h0
      · exact h0
      · obtain ⟨ad, h, _⟩ := hr.2 h0
        cases h
    subst hm
    have hn : news = [] := List.eq_nil_of_length_eq_zero (by simpa using hr.1)
    subst hn
    exact ⟨v, w, run_append_of_nil w base t ty e i size ht hi v n xs hown c, by simpa using hown, World.grownBy.refl w _, .inl rfl⟩
  · have hcells : ∀ j u, news[j]? = some u → w.cell? (ad.add j) = some u := by
      intro j u hu
      rcases Nat.eq_zero_or_pos m with h0 | h0
      · subst h0
        have hn : news = [] := List.eq_nil_of_length_eq_zero (by simpa using hr.1)
        subst hn
        simp at hu
      · obtain ⟨ad', h, _, hc⟩ := hr.2 h0
        injection h with h
        subst h
        exact hc j u hu
    obtain ⟨v', w', hrun, h2, h3, _, h5⟩ := run_append_own_at (P := P) w base t ty e i z size bytes ht hi hz hsize hby hzs hsz v n xs hown ad m c news hr.1 hcells h1 h63 hbytes hbase
    exact ⟨v', w', hrun, h2, h3, h5⟩

theorem wp_append_any {o : Oper} {a : Act} {K : Act → World → Prop} {Q : Exit → Act → World → Prop} (s x : Operand) (t : TypeId)
    (ho : o.op = .call { callee := .builtin .append, args := #[s, x], argTypes := #[t, t] })
    (base : Nat) (e : TypeId) (i : TypeInfo) (z : Value) (size bytes : Nat) (ht : P.underlying t = some (.slice e)) (hi : P.info? e = some i) (hz : i.zero = some z)
    (hsize : i.size = size) (hby : i.bytes = bytes) (hzs : z.cells.size = size) (hsz : 0 < size)
    (v : Value) (n : Nat) (xs : List Value) (hs : a.eval s = v) (hown : w.ownsRow base e size v n xs)
    (B : Nat) (A : Option Addr) (m c : Nat) (news : List Value) (hx : a.eval x = .slice A m c) (hr : Reads w B size A m news) (h1 : ∀ u ∈ news, u.oneCell' = true)
    (h63 : n + m ≤ maxLen) (hbytes : (n + m) * bytes ≤ 140737488355328) (hbase : base ≤ w.heap.size)
    (h : ∀ v' w', w'.ownsRow base e size v' (n + m) (xs ++ news) → w.grownBy w' v.ownBlock → (v'.ownBlock = v.ownBlock ∨ v'.ownBlock = some w.heap.size) → K (a.put o.dst v') w') : o.wp P a w K Q := by
  obtain ⟨v', w', hrun, h2, h3, h4⟩ := run_append_any (P := P) w base t o.type e i z size bytes ht hi hz hsize hby hzs hsz v n xs hown B A m c news hr h1 h63 hbytes hbase
  unfold Oper.wp execOp
  simp only [ho, resolve, invoke, builtin, Sem.run_bind, Sem.run_pure, Result.andThen_ok, List.map_toArray, List.map_cons, List.map_nil, hs, hx, hrun]
  exact h v' w' h2 h3 h4

theorem wpList_append_any {ops : Array Oper} {rest : List Oper} {o : Oper} {a : Act} {Q : Exit → Act → World → Prop} (hgd : o.guard = none) (s x : Operand) (t : TypeId)
    (ho : o.op = .call { callee := .builtin .append, args := #[s, x], argTypes := #[t, t] })
    (base : Nat) (e : TypeId) (i : TypeInfo) (z : Value) (size bytes : Nat) (ht : P.underlying t = some (.slice e)) (hi : P.info? e = some i) (hz : i.zero = some z)
    (hsize : i.size = size) (hby : i.bytes = bytes) (hzs : z.cells.size = size) (hsz : 0 < size)
    (v : Value) (n : Nat) (xs : List Value) (hs : a.eval s = v) (hown : w.ownsRow base e size v n xs)
    (B : Nat) (A : Option Addr) (m c : Nat) (news : List Value) (hx : a.eval x = .slice A m c) (hr : Reads w B size A m news) (h1 : ∀ u ∈ news, u.oneCell' = true)
    (h63 : n + m ≤ maxLen) (hbytes : (n + m) * bytes ≤ 140737488355328) (hbase : base ≤ w.heap.size)
    (h : ∀ v' w', w'.ownsRow base e size v' (n + m) (xs ++ news) → w.grownBy w' v.ownBlock → (v'.ownBlock = v.ownBlock ∨ v'.ownBlock = some w.heap.size) → wpList P ops Q rest (a.put o.dst v') w') : wpList P ops Q (o :: rest) a w :=
  wpList_plain hgd fun _ hK => wp_append_any w s x t ho base e i z size bytes ht hi hz hsize hby hzs hsz v n xs hs hown B A m c news hx hr h1 h63 hbytes hbase fun v' w' h2 h3 h4 => hK _ _ (h v' w' h2 h3 h4)

theorem step_append_any {ops : Array Oper} {o : Oper} {a : Act} {K : Act → World → Prop} {Q : Exit → Act → World → Prop} {E : Prop} (hgd : o.guard = none) (s x : Operand) (t : TypeId)
    (ho : o.op = .call { callee := .builtin .append, args := #[s, x], argTypes := #[t, t] })
    (base : Nat) (e : TypeId) (i : TypeInfo) (z : Value) (size bytes : Nat) (ht : P.underlying t = some (.slice e)) (hi : P.info? e = some i) (hz : i.zero = some z)
    (hsize : i.size = size) (hby : i.bytes = bytes) (hzs : z.cells.size = size) (hsz : 0 < size)
    (v : Value) (n : Nat) (xs : List Value) (hs : a.eval s = v) (hown : w.ownsRow base e size v n xs)
    (B : Nat) (A : Option Addr) (m c : Nat) (news : List Value) (hx : a.eval x = .slice A m c) (hr : Reads w B size A m news) (h1 : ∀ u ∈ news, u.oneCell' = true)
    (h63 : n + m ≤ maxLen) (hbytes : (n + m) * bytes ≤ 140737488355328) (hbase : base ≤ w.heap.size)
    (h : ∀ v' w', w'.ownsRow base e size v' (n + m) (xs ++ news) → w.grownBy w' v.ownBlock → (v'.ownBlock = v.ownBlock ∨ v'.ownBlock = some w.heap.size) → K (a.put o.dst v') w') :
    if Region.wanted o (yielded ops a.tmps) = true then Oper.wp P o a w K Q else E := by
  have hw : Region.wanted o (yielded ops a.tmps) = true := by simp [Region.wanted, hgd]
  rw [if_pos hw]
  exact wp_append_any w s x t ho base e i z size bytes ht hi hz hsize hby hzs hsz v n xs hs hown B A m c news hx hr h1 h63 hbytes hbase h
end

theorem mark_old (k : Int) (zs : List Int) (j i m : Nat) (hm : m = j + i) (h : m < zs.length) : ∃ z, ((marks k j ++ zs.drop j).map (Value.int .i64))[m]? = some (.int .i64 z) := by
  subst hm
  refine ⟨zs[j + i]'h, ?_⟩
  rw [List.getElem?_map, List.getElem?_append_right (by rw [marks_length]; omega), marks_length]
  simp [List.getElem?_drop, h]
theorem own_shape {w : World} {base : Nat} {e : TypeId} {size n : Nat} {v : Value} {xs : List Value} (h : w.ownsRow base e size v n xs) : ∃ A c, v = .slice A n c := by
  rcases h.2 with ⟨rfl, rfl⟩ | ⟨g, cap, cur, rfl, _⟩
  · exact ⟨_, _, rfl⟩
  · exact ⟨_, _, rfl⟩

/-- What has been gathered since world w0: the slice owns the numbers zs (k cells an element), and nothing older has turned. -/
structure Acc (w0 w : World) (E k : Nat) (A : Option Addr) (n c : Nat) (zs : List Int) : Prop where
  own : w.ownsRow w0.heap.size E k (.slice A n c) n (zs.map (Value.int .i64))
  ext : Below w0.heap.size w0 w

section
variable {w0 w w' : World} {E k n c : Nat} {A : Option Addr} {zs : List Int}
theorem Acc.nil (h : Below w0.heap.size w0 w) : Acc w0 w E k none 0 0 [] := ⟨World.ownsRow_nil _ _ _ _, h⟩
theorem Acc.empty (h : Below w0.heap.size w0 w) : Acc w0 (w.alloc (.cells #[] E)) E k (some ⟨w.heap.size, 0, none⟩) 0 0 [] :=
  ⟨World.ownsRow_made w #[] 0 h.size (by simp [maxLen]) (by simp), h.alloc h.size _⟩
theorem Acc.one {z : Int} (h : Below w0.heap.size w0 w) : Acc w0 (w.alloc (.cells #[.int .i64 z] E)) E 1 (some ⟨w.heap.size, 0, none⟩) 1 1 [z] :=
  ⟨World.ownsRow_lit w #[.int .i64 z] 1 h.size (by simp [maxLen]) (by simp), h.alloc h.size _⟩
theorem Acc.len (h : Acc w0 w E k A n c zs) : zs.length = n * k := by simpa using h.own.1
theorem Acc.alloc (h : Acc w0 w E k A n c zs) (o : Obj) : Acc w0 (w.alloc o) E k A n c zs := ⟨h.own.alloc o, h.ext.alloc h.ext.size o⟩
theorem Acc.drewN (h : Acc w0 w E k A n c zs) (m : Nat) : Acc w0 (w.drewN m) E k A n c zs := ⟨h.own, ext_drewN h.ext m⟩
theorem Acc.drew (h : Acc w0 w E k A n c zs) : Acc w0 w.drew E k A n c zs := ⟨h.own, ext_drew h.ext⟩
theorem Acc.later (h : Acc w0 w E k A n c zs) (hb : Below w.heap.size w w') : Acc w0 w' E k A n c zs := ⟨own_below h.own hb, ext_trans h.ext hb⟩
theorem Acc.reads (h : Acc w0 w E k A n c zs) : Reads w w.heap.size k A n (zs.map (Value.int .i64)) := Reads.of_own h.own
theorem Acc.set {g : Nat} (h : Acc w0 w E k (some ⟨g, 0, none⟩) n c zs) (j : Nat) (z : Int) : Acc w0 (w.setCell ⟨g, j, none⟩ (.int .i64 z)) E k (some ⟨g, 0, none⟩) n c (zs.set j z) := by
  refine ⟨?_, ext_set h.ext (h.own.lt g rfl).1 _⟩
  rw [List.map_set]
  exact (h.own.stored j _).1
theorem Acc.cellAt {g : Nat} (h : Acc w0 w E k (some ⟨g, 0, none⟩) n c zs) {j : Nat} {z : Int} (hz : zs[j]? = some z) : w.cell? ⟨g, j, none⟩ = some (.int .i64 z) ∧ w.frozen? ⟨g, j, none⟩ = false := by
  have hj : j < n * k := by have := h.len; have := (List.getElem?_eq_some_iff.1 hz).1; omega
  refine ⟨?_, h.own.frozenAt j⟩
  rw [h.own.cellAt j hj, List.getElem?_map, hz]; rfl
/-- From an earlier start. -/
theorem Acc.since {w1 : World} (h : Acc w0 w E k A n c zs) (hb : Below w1.heap.size w1 w0) : Acc w1 w E k A n c zs := by
  refine ⟨⟨h.own.1, ?_⟩, ext_trans hb h.ext⟩
  rcases h.own.2 with h2 | ⟨g, cap, cur, hv, hg, r⟩
  · exact .inl h2
  · exact .inr ⟨g, cap, cur, hv, Nat.le_trans hb.size hg, r⟩
end
/-- A new block of one element reads as that element. -/
theorem reads_new (w : World) (cs : Array Value) (T : TypeId) (k : Nat) (news : List Int) (hcs : cs.toList = news.map (Value.int .i64)) (hk : news.length = k) :
    Reads (w.alloc (.cells cs T)) (w.heap.size + 1) k (some ⟨w.heap.size, 0, none⟩) 1 (news.map (Value.int .i64)) := by
  refine ⟨by simp [hk], fun _ => ⟨_, rfl, by simp, fun j u hu => ?_⟩⟩
  rw [Addr.add_lit, Nat.zero_add, World.cell?_alloc_new, ← hcs] at *
  simpa using hu
/-- The same at an address that is spelled otherwise. -/
theorem reads_newAt (w : World) (cs : Array Value) (T : TypeId) (k : Nat) (news : List Int) (g : Nat) (hg : g = w.heap.size) (hcs : cs.toList = news.map (Value.int .i64)) (hk : news.length = k) :
    Reads (w.alloc (.cells cs T)) (w.heap.size + 1) k (some ⟨g, 0, none⟩) 1 (news.map (Value.int .i64)) := by
  subst hg
  exact reads_new w cs T k news hcs hk

theorem ownBlock_slice (A : Option Addr) (n c : Nat) : (Value.slice A n c).ownBlock = A.map (·.block) := by cases A <;> rfl
/-- Behind an append: only the row's own block has turned, and the row lies where it lay or in a new block. -/
structure Pushed (w w' : World) (A A' : Option Addr) : Prop where
  grown : w.grownBy w' (A.map (·.block))
  place : A'.map (·.block) = A.map (·.block) ∨ A'.map (·.block) = some w.heap.size
/-- The slice at R is not the row at A. -/
def Off (R A : Option Addr) : Prop := ∀ x, R = some x → A.map (·.block) ≠ some x.block
/-- A list that is only read while a row at A is gathered. -/
structure Side (w : World) (B k : Nat) (R : Option Addr) (m : Nat) (xs : List Int) (A : Option Addr) : Prop where
  reads : Reads w B k R m (xs.map (Value.int .i64))
  off : 0 < m → Off R A
  size : B ≤ w.heap.size
section
variable {w w' : World} {B k m : Nat} {R A A' : Option Addr} {xs : List Int}
theorem Side.alloc (h : Side w B k R m xs A) (o : Obj) : Side (w.alloc o) B k R m xs A := ⟨h.reads.alloc h.size o, h.off, by have := h.size; simp; omega⟩
theorem Side.drew (h : Side w B k R m xs A) : Side w.drew B k R m xs A := ⟨h.reads.drew, h.off, h.size⟩
theorem Side.drewN (h : Side w B k R m xs A) (n : Nat) : Side (w.drewN n) B k R m xs A := ⟨h.reads.drewN n, h.off, h.size⟩
theorem Side.later (h : Side w B k R m xs A) (hb : Below w.heap.size w w') : Side w' B k R m xs A := ⟨h.reads.below (hb.mono h.size), h.off, Nat.le_trans h.size hb.size⟩
theorem Side.pushed (h : Side w B k R m xs A) (hp : Pushed w w' A A') : Side w' B k R m xs A' := by
  refine ⟨⟨h.reads.1, fun hm => ?_⟩, fun hm x hx => ?_, Nat.le_trans h.size hp.grown.size⟩
  · obtain ⟨ad, e, hb, hc⟩ := h.reads.2 hm
    have ho := h.off hm ad e
    refine ⟨ad, e, hb, fun j u hu => ?_⟩
    rw [World.cell?_of_block (hp.grown.block _ (by rw [block_of_add]; have := h.size; omega) (by rw [block_of_add]; exact fun e => ho e.symm))]
    exact hc j u hu
  · have ho := h.off hm x hx
    obtain ⟨ad, e, hb, _⟩ := h.reads.2 hm
    have hx' : ad = x := by rw [e] at hx; injection hx
    subst hx'
    rcases hp.place with hpl | hpl
    · rw [hpl]; exact ho
    · rw [hpl]
      intro e'
      injection e' with e'
      have := h.size
      omega
theorem Side.none_ (h : Reads w B k R m (xs.map (Value.int .i64))) (hB : B ≤ w.heap.size) : Side w B k R m xs none := ⟨h, fun _ x _ => by simp, hB⟩
/-- The list was made when the row was there already. -/
theorem Side.made {wa : World} {E c g o : Nat} {s : Option Nat} (h : Acc wa w E k R m c xs) (hg : g < wa.heap.size) : Side w w.heap.size k R m xs (some ⟨g, o, s⟩) := by
  refine ⟨h.reads, fun hm x hx => ?_, Nat.le_refl _⟩
  have := (h.own.lt x.block (by rw [ownBlock_slice, hx]; rfl)).1
  simp
  omega
end

section
variable {P : Program}
theorem acc_app {t E k bytes : Nat} {z : Value} (ht : P.underlying t = some (.slice E)) (hi : (P.info? E).map (fun i => (i.zero, i.size, i.bytes)) = some (some z, k, bytes)) (hz : z.cells.size = k) (hk : 0 < k)
    {ops : Array Oper} {rest : List Oper} {o : Oper} {a : Act} {Q : Exit → Act → World → Prop} (hgd : o.guard = none) (s x : Operand)
    (ho : o.op = .call { callee := .builtin .append, args := #[s, x], argTypes := #[t, t] })
    {w0 w : World} {A : Option Addr} {n c : Nat} {zs : List Int} (hs : a.eval s = .slice A n c) (hacc : Acc w0 w E k A n c zs)
    {B m c2 : Nat} {A2 : Option Addr} {news : List Int} (hx : a.eval x = .slice A2 m c2) (hr : Reads w B k A2 m (news.map (Value.int .i64)))
    (h63 : n + m ≤ maxLen) (hbytes : (n + m) * bytes ≤ 140737488355328)
    (h : ∀ A' c' w', Acc w0 w' E k A' (n + m) c' (zs ++ news) → w.grownBy w' (Value.slice A n c).ownBlock → wpList P ops Q rest (a.put o.dst (.slice A' (n + m) c')) w') : wpList P ops Q (o :: rest) a w := by
  obtain ⟨i, hi1, hi2, hi3, hi4⟩ := info_parts hi
  refine wpList_append_any w hgd s x t ho w0.heap.size E i z k bytes ht hi1 hi2 hi3 hi4 hz hk _ _ _ hs hacc.own B A2 m c2 _ hx hr (ints_oneCell _ _) h63 hbytes hacc.ext.size ?_
  intro v' w' hown hg _
  obtain ⟨A', c', rfl⟩ := own_shape hown
  refine h A' c' w' ⟨by simpa using hown, ext_grown hacc.ext hg fun g hb => (hacc.own.lt g hb).1⟩ hg
/-- The same, told where the row now lies. -/
theorem acc_app_b {t E k bytes : Nat} {z : Value} (ht : P.underlying t = some (.slice E)) (hi : (P.info? E).map (fun i => (i.zero, i.size, i.bytes)) = some (some z, k, bytes)) (hz : z.cells.size = k) (hk : 0 < k)
    {ops : Array Oper} {rest : List Oper} {o : Oper} {a : Act} {Q : Exit → Act → World → Prop} (hgd : o.guard = none) (s x : Operand)
    (ho : o.op = .call { callee := .builtin .append, args := #[s, x], argTypes := #[t, t] })
    {w0 w : World} {A : Option Addr} {n c : Nat} {zs : List Int} (hs : a.eval s = .slice A n c) (hacc : Acc w0 w E k A n c zs)
    {B m c2 : Nat} {A2 : Option Addr} {news : List Int} (hx : a.eval x = .slice A2 m c2) (hr : Reads w B k A2 m (news.map (Value.int .i64)))
    (h63 : n + m ≤ maxLen) (hbytes : (n + m) * bytes ≤ 140737488355328)
    (h : ∀ A' c' w', Acc w0 w' E k A' (n + m) c' (zs ++ news) → Pushed w w' A A' → wpList P ops Q rest (a.put o.dst (.slice A' (n + m) c')) w') : wpList P ops Q (o :: rest) a w := by
  obtain ⟨i, hi1, hi2, hi3, hi4⟩ := info_parts hi
  refine wpList_append_any w hgd s x t ho w0.heap.size E i z k bytes ht hi1 hi2 hi3 hi4 hz hk _ _ _ hs hacc.own B A2 m c2 _ hx hr (ints_oneCell _ _) h63 hbytes hacc.ext.size ?_
  intro v' w' hown hg hbl
  obtain ⟨A', c', rfl⟩ := own_shape hown
  exact h A' c' w' ⟨by simpa using hown, ext_grown hacc.ext hg fun g hb => (hacc.own.lt g hb).1⟩ ⟨ownBlock_slice A n c ▸ hg, by rw [← ownBlock_slice A' (n + m) c', ← ownBlock_slice A n c]; exact hbl⟩
theorem acc_app_b_step {t E k bytes : Nat} {z : Value} (ht : P.underlying t = some (.slice E)) (hi : (P.info? E).map (fun i => (i.zero, i.size, i.bytes)) = some (some z, k, bytes)) (hz : z.cells.size = k) (hk : 0 < k)
    {ops : Array Oper} {o : Oper} {a : Act} {K : Act → World → Prop} {Q : Exit → Act → World → Prop} {F : Prop} (hgd : o.guard = none) (s x : Operand)
    (ho : o.op = .call { callee := .builtin .append, args := #[s, x], argTypes := #[t, t] })
    {w0 w : World} {A : Option Addr} {n c : Nat} {zs : List Int} (hs : a.eval s = .slice A n c) (hacc : Acc w0 w E k A n c zs)
    {B m c2 : Nat} {A2 : Option Addr} {news : List Int} (hx : a.eval x = .slice A2 m c2) (hr : Reads w B k A2 m (news.map (Value.int .i64)))
    (h63 : n + m ≤ maxLen) (hbytes : (n + m) * bytes ≤ 140737488355328)
    (h : ∀ A' c' w', Acc w0 w' E k A' (n + m) c' (zs ++ news) → Pushed w w' A A' → K (a.put o.dst (.slice A' (n + m) c')) w') :
    if Region.wanted o (yielded ops a.tmps) = true then Oper.wp P o a w K Q else F := by
  obtain ⟨i, hi1, hi2, hi3, hi4⟩ := info_parts hi
  refine step_append_any w hgd s x t ho w0.heap.size E i z k bytes ht hi1 hi2 hi3 hi4 hz hk _ _ _ hs hacc.own B A2 m c2 _ hx hr (ints_oneCell _ _) h63 hbytes hacc.ext.size ?_
  intro v' w' hown hg hbl
  obtain ⟨A', c', rfl⟩ := own_shape hown
  exact h A' c' w' ⟨by simpa using hown, ext_grown hacc.ext hg fun g hb => (hacc.own.lt g hb).1⟩ ⟨ownBlock_slice A n c ▸ hg, by rw [← ownBlock_slice A' (n + m) c', ← ownBlock_slice A n c]; exact hbl⟩
/-- The same inside a region that draws its order. -/
theorem acc_app_step {t E k bytes : Nat} {z : Value} (ht : P.underlying t = some (.slice E)) (hi : (P.info? E).map (fun i => (i.zero, i.size, i.bytes)) = some (some z, k, bytes)) (hz : z.cells.size = k) (hk : 0 < k)
    {ops : Array Oper} {o : Oper} {a : Act} {K : Act → World → Prop} {Q : Exit → Act → World → Prop} {F : Prop} (hgd : o.guard = none) (s x : Operand)
    (ho : o.op = .call { callee := .builtin .append, args := #[s, x], argTypes := #[t, t] })
    {w0 w : World} {A : Option Addr} {n c : Nat} {zs : List Int} (hs : a.eval s = .slice A n c) (hacc : Acc w0 w E k A n c zs)
    {B m c2 : Nat} {A2 : Option Addr} {news : List Int} (hx : a.eval x = .slice A2 m c2) (hr : Reads w B k A2 m (news.map (Value.int .i64)))
    (h63 : n + m ≤ maxLen) (hbytes : (n + m) * bytes ≤ 140737488355328)
    (h : ∀ A' c' w', Acc w0 w' E k A' (n + m) c' (zs ++ news) → w.grownBy w' (Value.slice A n c).ownBlock → K (a.put o.dst (.slice A' (n + m) c')) w') :
    if Region.wanted o (yielded ops a.tmps) = true then Oper.wp P o a w K Q else F := by
  obtain ⟨i, hi1, hi2, hi3, hi4⟩ := info_parts hi
  refine step_append_any w hgd s x t ho w0.heap.size E i z k bytes ht hi1 hi2 hi3 hi4 hz hk _ _ _ hs hacc.own B A2 m c2 _ hx hr (ints_oneCell _ _) h63 hbytes hacc.ext.size ?_
  intro v' w' hown hg _
  obtain ⟨A', c', rfl⟩ := own_shape hown
  refine h A' c' w' ⟨by simpa using hown, ext_grown hacc.ext hg fun g hb => (hacc.own.lt g hb).1⟩ hg
end

/-- What a function gives that hands back a slice (of elements of type E, k cells each) and a bool. -/
def Gives (E k : Nat) (zs : List Int) (ok : Bool) (w : World) (e : Ending) (w' : World) : Prop := ∃ A n c, e = .returned (.tuple #[.slice A n c, .bool ok]) ∧ Acc w w' E k A n c zs
/-- The same, without the bool. -/
def GivesS (E k : Nat) (zs : List Int) (w : World) (e : Ending) (w' : World) : Prop := ∃ A n c, e = .returned (.slice A n c) ∧ Acc w w' E k A n c zs

theorem infoI : (Try.prog.info? 3).map (fun i => (i.zero, i.size, i.bytes)) = some (some (.int .i64 0), 1, 8) := by kernel_rfl
/-- append to a slice of numbers. -/
theorem appI {ops : Array Oper} {rest : List Oper} {o : Oper} {a : Act} {Q : Exit → Act → World → Prop} (hgd : o.guard = none) (s x : Operand)
    (ho : o.op = .call { callee := .builtin .append, args := #[s, x], argTypes := #[23, 23] })
    {w0 w : World} {A : Option Addr} {n c : Nat} {zs : List Int} (hs : a.eval s = .slice A n c) (hacc : Acc w0 w 3 1 A n c zs)
    {B m c2 : Nat} {A2 : Option Addr} {news : List Int} (hx : a.eval x = .slice A2 m c2) (hr : Reads w B 1 A2 m (news.map (Value.int .i64))) (hb : n + m ≤ 17592186044416)
    (h : ∀ A' c' w', Acc w0 w' 3 1 A' (n + m) c' (zs ++ news) → w.grownBy w' (Value.slice A n c).ownBlock → wpList Try.prog ops Q rest (a.put o.dst (.slice A' (n + m) c')) w') : wpList Try.prog ops Q (o :: rest) a w :=
  acc_app Try.underlying23 infoI rfl (by decide) hgd s x ho hs hacc hx hr (by unfold maxLen; omega) (by omega) h
theorem appI_step {ops : Array Oper} {o : Oper} {a : Act} {K : Act → World → Prop} {Q : Exit → Act → World → Prop} {F : Prop} (hgd : o.guard = none) (s x : Operand)
    (ho : o.op = .call { callee := .builtin .append, args := #[s, x], argTypes := #[23, 23] })
    {w0 w : World} {A : Option Addr} {n c : Nat} {zs : List Int} (hs : a.eval s = .slice A n c) (hacc : Acc w0 w 3 1 A n c zs)
    {B m c2 : Nat} {A2 : Option Addr} {news : List Int} (hx : a.eval x = .slice A2 m c2) (hr : Reads w B 1 A2 m (news.map (Value.int .i64))) (hb : n + m ≤ 1099511627776)
    (h : ∀ A' c' w', Acc w0 w' 3 1 A' (n + m) c' (zs ++ news) → w.grownBy w' (Value.slice A n c).ownBlock → K (a.put o.dst (.slice A' (n + m) c')) w') :
    if Region.wanted o (yielded ops a.tmps) = true then Oper.wp Try.prog o a w K Q else F :=
  acc_app_step Try.underlying23 infoI rfl (by decide) hgd s x ho hs hacc hx hr (by unfold maxLen; omega) (by omega) h
/-- make of a slice of n numbers. -/
theorem makeI {ops : Array Oper} {rest : List Oper} {o : Oper} {a : Act} {Q : Exit → Act → World → Prop} (hgd : o.guard = none) (l c : Operand) (hop : o.op = Op.makeSlice 23 l c)
    {w0 w : World} (hb : Below w0.heap.size w0 w) (n : Nat) (hl : a.eval l = .int .i64 (n : Int)) (hc : a.eval c = .int .i64 (n : Int)) (hn : n ≤ 17592186044416)
    (h : ∀ g w', Acc w0 w' 3 1 (some ⟨g, 0, none⟩) n n (List.replicate n 0) → Below w.heap.size w w' → wpList Try.prog ops Q rest (a.put o.dst (.slice (some ⟨g, 0, none⟩) n n)) w') : wpList Try.prog ops Q (o :: rest) a w := by
  obtain ⟨i, hi1, hi2, hi3, hi4⟩ := info_parts infoI
  refine wpList_make_full w hgd l c 23 hop w0.heap.size 3 i (.int .i64 0) 1 Try.underlying23 hi1 hi2 hi3 .i64 .i64 n n n hl hc rfl rfl (by rw [hi4]; omega) (by unfold maxLen; omega) hb.size ?_
  intro w' hown hg
  have hb' : Below w.heap.size w w' := ⟨hg.os, hg.tape, hg.output, hg.size, fun k hk => hg.block k hk (by simp)⟩
  refine h _ w' ⟨?_, ext_trans hb hb'⟩ hb'
  have e : (madeCells (Value.int .i64 0).cells (n * 1)).toList = (List.replicate n (0 : Int)).map (Value.int .i64) := by
    rw [Nat.mul_one, List.map_replicate]
    exact toList_madeCells_one _ _
  rw [← e]
  exact hown
theorem appI_b {ops : Array Oper} {rest : List Oper} {o : Oper} {a : Act} {Q : Exit → Act → World → Prop} (hgd : o.guard = none) (s x : Operand)
    (ho : o.op = .call { callee := .builtin .append, args := #[s, x], argTypes := #[23, 23] })
    {w0 w : World} {A : Option Addr} {n c : Nat} {zs : List Int} (hs : a.eval s = .slice A n c) (hacc : Acc w0 w 3 1 A n c zs)
    {B m c2 : Nat} {A2 : Option Addr} {news : List Int} (hx : a.eval x = .slice A2 m c2) (hr : Reads w B 1 A2 m (news.map (Value.int .i64))) (hb : n + m ≤ 1099511627776)
    (h : ∀ A' c' w', Acc w0 w' 3 1 A' (n + m) c' (zs ++ news) → Pushed w w' A A' → wpList Try.prog ops Q rest (a.put o.dst (.slice A' (n + m) c')) w') : wpList Try.prog ops Q (o :: rest) a w :=
  acc_app_b Try.underlying23 infoI rfl (by decide) hgd s x ho hs hacc hx hr (by unfold maxLen; omega) (by omega) h
theorem appI_b_step {ops : Array Oper} {o : Oper} {a : Act} {K : Act → World → Prop} {Q : Exit → Act → World → Prop} {F : Prop} (hgd : o.guard = none) (s x : Operand)
    (ho : o.op = .call { callee := .builtin .append, args := #[s, x], argTypes := #[23, 23] })
    {w0 w : World} {A : Option Addr} {n c : Nat} {zs : List Int} (hs : a.eval s = .slice A n c) (hacc : Acc w0 w 3 1 A n c zs)
    {B m c2 : Nat} {A2 : Option Addr} {news : List Int} (hx : a.eval x = .slice A2 m c2) (hr : Reads w B 1 A2 m (news.map (Value.int .i64))) (hb : n + m ≤ 1099511627776)
    (h : ∀ A' c' w', Acc w0 w' 3 1 A' (n + m) c' (zs ++ news) → Pushed w w' A A' → K (a.put o.dst (.slice A' (n + m) c')) w') :
    if Region.wanted o (yielded ops a.tmps) = true then Oper.wp Try.prog o a w K Q else F :=
  acc_app_b_step Try.underlying23 infoI rfl (by decide) hgd s x ho hs hacc hx hr (by unfold maxLen; omega) (by omega) h
end Go.Proofs.Ythigfbhkdegfkaa
