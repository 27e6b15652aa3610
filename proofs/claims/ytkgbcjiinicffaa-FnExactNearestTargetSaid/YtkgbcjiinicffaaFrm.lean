/- Rods and frames, and the laws' helpers on them. No condition. -/
import Derived.Test.YtkgbcjiinicffaaAppend
import Derived.Test.YtkgbcjiinicffaaA2
import Derived.Test.YtkgbcjiinicffaaTests
namespace Go.Proofs.Ytkgbcjiinicffaa
open Go.RowKit

theorem at_some (zs : List Int) {k : Nat} (h : k < zs.length) : ∃ z, zs[k]? = some z := ⟨_, List.getElem?_eq_getElem h⟩
/-- Block g is just the cells cs of type t, none frozen. -/
def Blk (w : World) (g : Nat) (t : TypeId) (cs : Array Value) : Prop := w.heap[g]? = some (.cells cs t (0, 0))

section
variable {w w' : World} {g : Nat} {t : TypeId} {cs : Array Value}
theorem Blk.lt (h : Blk w g t cs) : g < w.heap.size := by
  rcases Nat.lt_or_ge g w.heap.size with hlt | hge
  · exact hlt
  · unfold Blk at h; rw [Array.getElem?_eq_none hge] at h; cases h
theorem Blk.cell (h : Blk w g t cs) (i : Nat) : w.cell? ⟨g, i, none⟩ = cs[i]? := cell_of_row w g i cs t (0, 0) h
theorem Blk.frozen (h : Blk w g t cs) (i : Nat) : w.frozen? ⟨g, i, none⟩ = false := by
  unfold Blk at h
  simp [World.frozen?, h]
theorem Blk.new (w : World) (t : TypeId) (cs : Array Value) : Blk (w.alloc (.cells cs t)) w.heap.size t cs := heap_alloc_new w _
theorem Blk.drew (h : Blk w g t cs) : Blk w.drew g t cs := h
theorem Blk.drewN (h : Blk w g t cs) (n : Nat) : Blk (w.drewN n) g t cs := h
theorem Blk.alloc (h : Blk w g t cs) (o : Obj) : Blk (w.alloc o) g t cs := (Below.heap_alloc w o g h.lt).trans h
theorem Blk.set_ (h : Blk w g t cs) (i : Nat) (u : Value) : Blk (w.setCell ⟨g, i, none⟩ u) g t (cs.setIfInBounds i u) := by
  unfold Blk at h ⊢
  simp [World.setCell, Array.getElem?_modify, h]
theorem Blk.far (h : Blk w g t cs) {p : Addr} (hp : g ≠ p.block) (u : Value) : Blk (w.setCell p u) g t cs := (Below.heap_setCell w p u g hp).trans h
theorem Blk.below {B : Nat} (h : Blk w g t cs) (hb : Below B w w') (hg : g < B) : Blk w' g t cs := (hb.block g hg).trans h
theorem Blk.grown {row : Option Nat} (h : Blk w g t cs) (hb : w.grownBy w' row) (hg : some g ≠ row) : Blk w' g t cs := (hb.block g h.lt hg).trans h
theorem Blk.ne_ {g' : Nat} {t' : TypeId} {cs' : Array Value} (h : Blk w g t cs) (h' : Blk w g' t' cs') (hne : t ≠ t') : g ≠ g' := by
  rintro rfl
  unfold Blk at h h'
  rw [h] at h'
  injection h' with h'
  injection h' with _ ht
  exact hne ht
end

/-- Rod: the numbers of a rod. -/
structure Rod where
  (a b : Int)
deriving DecidableEq
def Rod.cs (x : Rod) : List Int := [x.a, x.b]
@[reducible] def Rod.val (x : Rod) : Value := .agg #[.int .i64 x.a, .int .i64 x.b]
/-- A list of them, flat. -/
def rodF (xs : List Rod) : List Int := xs.flatMap Rod.cs
theorem rodF_nil : rodF [] = [] := rfl
theorem rodF_cons (x : Rod) (xs : List Rod) : rodF (x :: xs) = x.cs ++ rodF xs := rfl
theorem rodF_app (xs ys : List Rod) : rodF (xs ++ ys) = rodF xs ++ rodF ys := List.flatMap_append
theorem rodF_len : ∀ (xs : List Rod), (rodF xs).length = xs.length * 2
  | [] => rfl
  | x :: xs => by rw [rodF_cons, List.length_append, rodF_len xs, List.length_cons]; simp only [Rod.cs, List.length_cons, List.length_nil]; omega
theorem rodF_at : ∀ {xs : List Rod} {k : Nat} {x : Rod}, xs[k]? = some x → (rodF xs)[k * 2]? = some x.a ∧ (rodF xs)[k * 2 + 1]? = some x.b
  | [], k, x, h => by simp at h
  | y :: xs, 0, x, h => by
    obtain rfl : y = x := by simpa using h
    simp [rodF, Rod.cs]
  | y :: xs, k + 1, x, h => by
    have ih := rodF_at (xs := xs) (k := k) (x := x) (by simpa using h)
    rw [rodF_cons]
    refine ⟨?_, ?_⟩ <;> (rw [List.getElem?_append_right (by simp only [Rod.cs, List.length_cons, List.length_nil]; omega)]; simp only [Rod.cs, List.length_cons, List.length_nil])
    · rw [show (k + 1) * 2 - (0 + 1 + 1) = k * 2 from by omega]; exact ih.1
    · rw [show (k + 1) * 2 + 1 - (0 + 1 + 1) = k * 2 + 1 from by omega]; exact ih.2
theorem rodF_of : ∀ (n : Nat) (zs : List Int), zs.length = n * 2 → ∃ xs : List Rod, zs = rodF xs ∧ xs.length = n
  | 0, zs, h => ⟨[], by have : zs = [] := List.length_eq_zero_iff.1 (by omega); rw [this]; rfl, rfl⟩
  | n + 1, zs, h => by
    match zs, h with
    | a0 :: a1 :: zs, h =>
      obtain ⟨xs, rfl, hl⟩ := rodF_of n zs (by simp only [List.length_cons] at h; omega)
      exact ⟨⟨a0, a1⟩ :: xs, rfl, by simp [hl]⟩
    | [], h | [_], h => simp at h <;> omega
theorem rodF_inj : ∀ {xs ys : List Rod}, rodF xs = rodF ys → xs = ys
  | [], [], _ => rfl
  | [], y :: ys, h => by simp [rodF, Rod.cs] at h
  | x :: xs, [], h => by simp [rodF, Rod.cs] at h
  | x :: xs, y :: ys, h => by
    rw [rodF_cons, rodF_cons] at h
    simp only [Rod.cs, List.cons_append, List.nil_append, List.cons.injEq] at h
    obtain ⟨h0, h1, ht⟩ := h
    cases x; cases y
    simp_all only
    rw [rodF_inj ht]
theorem rodF_snoc {xs : List Rod} {k : Nat} {x : Rod} (h : xs[k]? = some x) : xs.take (k + 1) = xs.take k ++ [x] := by
  rw [List.take_add_one, h]; rfl
theorem rodF_drop (xs : List Rod) (j : Nat) : (rodF xs).drop (j * 2) = rodF (xs.drop j) := by
  induction j generalizing xs with
  | zero => simp
  | succ j ih =>
    cases xs with
    | nil => simp [rodF]
    | cons x xs =>
      rw [rodF_cons, show (j + 1) * 2 = j * 2 + 2 from by omega, ← List.drop_drop, List.drop_succ_cons, ← ih]
      rw [List.drop_drop, Nat.add_comm, ← List.drop_drop]
      rfl
theorem rodF_take (xs : List Rod) (j : Nat) : (rodF xs).take (j * 2) = rodF (xs.take j) := by
  induction j generalizing xs with
  | zero => simp [rodF]
  | succ j ih =>
    cases xs with
    | nil => simp [rodF]
    | cons x xs => rw [rodF_cons, List.take_succ_cons, rodF_cons, ← ih, show (j + 1) * 2 = j * 2 + 2 from by omega]; rfl
theorem Reads.rod {w : World} {B n : Nat} {A : Option Addr} {xs : List Rod} (h : Reads w B 2 A n ((rodF xs).map (Value.int .i64))) {k : Nat} (hk : k < n) :
    ∃ b o x, A = some ⟨b, o, none⟩ ∧ xs[k]? = some x ∧ w.cell? ⟨b, o + k * 2, none⟩ = some (.int .i64 x.a) ∧ w.cell? ⟨b, o + k * 2 + 1, none⟩ = some (.int .i64 x.b) := by
  obtain ⟨b, o, e, hr⟩ := h.row hk (by omega)
  have hl : (rodF xs).length = n * 2 := by simpa using h.1
  rw [rodF_len] at hl
  have hx : xs[k]? = some (xs[k]'(by omega)) := List.getElem?_eq_getElem (by omega)
  obtain ⟨c0, c1⟩ := rodF_at hx
  refine ⟨b, o, _, e, hx, ?_, ?_⟩
  · obtain ⟨z, hz, hc⟩ := hr 0 (by omega); simp only [Nat.add_zero] at hz hc; rw [c0] at hz; injection hz with hz; subst hz; simpa only [Nat.add_assoc] using hc
  · obtain ⟨z, hz, hc⟩ := hr 1 (by omega); rw [c1] at hz; injection hz with hz; subst hz; simpa only [Nat.add_assoc] using hc
theorem Reads.rodLen {w : World} {B n : Nat} {A : Option Addr} {xs : List Rod} (h : Reads w B 2 A n ((rodF xs).map (Value.int .i64))) : xs.length = n := by
  have hl : (rodF xs).length = n * 2 := by simpa using h.1
  rw [rodF_len] at hl
  omega
set_option maxHeartbeats 400000 in
theorem szIntA2S_any (A : Option Addr) (n c : Nat) (hn : n ≤ maxLen) (w : World) :
    Calls Try.prog 37 #[.slice A n c, .int .i64 1048576] w fun e w' => e = .returned (.int .i64 (if n ≤ 1048576 then 1048576 - (n : Int) else -1)) ∧ w = w' := by
  unfold maxLen at hn
  by_cases h : n ≤ 1048576
  · go_enter Try.func37, Try.ntmps37
    go_wp2_with fail
    go_ret
    exact ⟨by simp, rfl⟩
  · go_enter Try.func37, Try.ntmps37
    go_wp2_with fail
    go_ret
    exact ⟨by simp, rfl⟩
set_option maxHeartbeats 1000000 in
theorem toIntA2_any (a b : Int) (w : World) :
    Calls Try.prog 53 #[.agg #[.int .i64 a, .int .i64 b]] w fun e w' => e = .returned (.agg #[.int .i64 a, .int .i64 b]) ∧ Below w.heap.size w w' := by
  go_enter Try.func53, Try.ntmps53
  go_wp2
  refine wp_loop_rounds 3 ?_
  simp only [rounds_succ]
  go_wp2
  simp only [rounds_succ]
  go_wp2
  simp only [rounds_succ]
  go_wp2
  refine bodyPost_ret (v := .agg #[.int .i64 a, .int .i64 b]) (by simp [results, Try.results53, go_sem]) rfl ⟨rfl, ?_⟩
  repeat (first | exact Below.refl _ _ | refine Below.alloc ?_ (by first | omega | (simp; done) | (simp; omega)) _ | refine Below.setCell ?_ (by first | omega | (simp; done) | (simp; omega)) _)
theorem infoRod : (Try.prog.info? 47).map (fun i => (i.zero, i.size, i.bytes)) = some (some (.agg #[.int .i64 0, .int .i64 0]), 2, 16) := by kernel_rfl
theorem madeCells_rod (n : Nat) : (madeCells (Value.agg #[.int .i64 0, .int .i64 0]).cells (n * 2)).toList = (List.replicate (n * 2) (0 : Int)).map (Value.int .i64) := by
  unfold madeCells
  rw [Array.toList_map, Array.toList_range, List.map_replicate, List.eq_replicate_iff]
  refine ⟨by simp, fun b hb => ?_⟩
  obtain ⟨i, _, rfl⟩ := List.mem_map.1 hb
  have : i % 2 < 2 := Nat.mod_lt _ (by omega)
  show (#[Value.int .i64 0, Value.int .i64 0] : Array Value)[i % 2]! = _
  generalize i % 2 = r at this ⊢
  match r, this with
  | 0, _ => rfl
  | 1, _ => rfl
/-- make of a slice of n of them. -/
theorem makeRod {ops : Array Oper} {rest : List Oper} {o : Oper} {a : Act} {Q : Exit → Act → World → Prop} (hgd : o.guard = none) (l c : Operand) (hop : o.op = Op.makeSlice 22 l c)
    {w0 w : World} (hb : Below w0.heap.size w0 w) (n : Nat) (hl : a.eval l = .int .i64 (n : Int)) (hc : a.eval c = .int .i64 (n : Int)) (hn : n ≤ 1099511627776)
    (h : ∀ g w', Acc w0 w' 47 2 (some ⟨g, 0, none⟩) n n (List.replicate (n * 2) 0) → Below w.heap.size w w' → wpList Try.prog ops Q rest (a.put o.dst (.slice (some ⟨g, 0, none⟩) n n)) w') : wpList Try.prog ops Q (o :: rest) a w := by
  obtain ⟨i, hi1, hi2, hi3, hi4⟩ := info_parts infoRod
  refine wpList_make_full w hgd l c 22 hop w0.heap.size 47 i (.agg #[.int .i64 0, .int .i64 0]) 2 Try.underlying22 hi1 hi2 hi3 .i64 .i64 n n n hl hc rfl rfl (by rw [hi4]; omega) (by unfold maxLen; omega) hb.size ?_
  intro w' hown hg
  have hb' : Below w.heap.size w w' := ⟨hg.os, hg.tape, hg.output, hg.size, fun k hk => hg.block k hk (by simp)⟩
  refine h _ w' ⟨?_, ext_trans hb hb'⟩ hb'
  rw [← madeCells_rod]
  exact hown
theorem rod_set {xs : List Rod} {k n : Nat} {x : Rod} (hx : xs[k]? = some x) (hk : k < n) :
    ((rodF (xs.take k) ++ List.replicate ((n - k) * 2) 0).set (k * 2) x.a).set (k * 2 + 1) x.b = rodF (xs.take (k + 1)) ++ List.replicate ((n - (k + 1)) * 2) 0 := by
  have hl : (rodF (xs.take k)).length = k * 2 := by
    rw [rodF_len, List.length_take]
    have := (List.getElem?_eq_some_iff.1 hx).1
    congr 1; omega
  rw [rodF_snoc hx, rodF_app, show (n - k) * 2 = (n - (k + 1)) * 2 + 1 + 1 from by omega]
  simp only [List.replicate_succ, List.append_assoc]
  rw [List.set_append_right _ _ (by rw [hl]; omega), hl]; rw [List.set_append_right _ _ (by rw [hl]; omega), hl]
  simp only [Nat.sub_self, Nat.add_sub_cancel_left, List.set_cons_zero, List.set_cons_succ]
  rfl
set_option maxHeartbeats 2000000 in
theorem toIntA2S_any (A : Option Addr) (n c B : Nat) (xs : List Rod) (w : World) (h : Reads w B 2 A n ((rodF xs).map (Value.int .i64))) (hB : B ≤ w.heap.size) (hn : n ≤ 1048576) :
    Calls Try.prog 40 #[.slice A n c] w fun e w' => GivesS 47 2 (rodF xs) w e w' := by
  have hl := h.rodLen
  have H := Lib.hid h
  have HL := Lib.hid hl
  clear h hl
  go_enter Try.func40, Try.ntmps40
  go_wp2_with (at_make; refine makeRod rfl _ _ rfl (Below.refl _ _) n rfl rfl (by omega) ?_; intro g w1 hacc hbm)
  go_loopw [4] (fun i wr => ∃ j : Nat, i = .int .i64 j ∧ j ≤ n ∧ Acc w wr 47 2 (some ⟨g, 0, none⟩) n n (rodF (xs.take j) ++ List.replicate ((n - j) * 2) 0)) (fun i _ => n - (intOf i).toNat)
  case atStart => exact ⟨0, rfl, by omega, by simpa [rodF] using hacc⟩
  case round =>
    clear hacc hbm
    obtain ⟨j, rfl, hj, hacc⟩ := hrel
    by_cases hlt : j < n
    · have R := Lib.hid (H.out.below (hacc.ext.mono hB))
      obtain ⟨b, o, x, hAx, hx, hc0, hc1⟩ := R.out.rod hlt
      subst hAx
      have HX := Lib.hid hx
      have HA := Lib.hid hacc
      clear hx hacc
      go_wp2_with fail
      refine (toIntA2_any _ _ _).mono ?_
      rintro e w2 ⟨rfl, hb2⟩
      have HA2 := Lib.hid (HA.out.later hb2)
      have hlen : (rodF (xs.take j) ++ List.replicate ((n - j) * 2) 0).length = n * 2 := HA.out.len
      clear hb2
      obtain ⟨z0, e0⟩ := at_some _ (show j * 2 < _ by rw [hlen]; omega)
      obtain ⟨z1, e1⟩ := at_some _ (show j * 2 + 1 < _ by rw [hlen]; omega)
      obtain ⟨k0, f0⟩ := HA2.out.cellAt e0
      obtain ⟨k1, f1⟩ := HA2.out.cellAt e1
      clear hlen e0 e1
      have s0 := HA2.out.set (j * 2) x.a
      have s1 := s0.set (j * 2 + 1) x.b
      rw [rod_set HX.out hlt] at s1
      have HS := Lib.hid s1
      clear s0 s1
      go_wp2
      go_roundw
      case rel => exact ⟨j + 1, by go_num, by omega, HS.out⟩
      case measure => simp [intOf]; omega
    · have HA := Lib.hid hacc
      clear hacc
      have hj' : j = n := by omega
      subst hj'
      go_wp2
      go_ret
      refine ⟨_, _, _, rfl, ?_⟩
      have := HA.out
      rwa [Nat.sub_self, Nat.zero_mul, List.replicate_zero, List.append_nil, List.take_of_length_le (by have := HL.out; omega)] at this
set_option maxHeartbeats 1000000 in
theorem szFrame_any (u l : Int) (A : Option Addr) (n c : Nat) (hn : n ≤ maxLen) (w : World) :
    Calls Try.prog 14 #[.agg #[.int .i64 u, .int .i64 l, .slice A n c], .int .i64 1048576] w fun e w' => e = .returned (.int .i64 (if n ≤ 1048576 then 1048576 - (n : Int) else -1)) ∧ Below w.heap.size w w' := by
  by_cases h : n ≤ 1048576
  · have hz := fun (w : World) => szIntA2S_any A n c hn w
    rw [if_pos h] at hz
    have HZ := Lib.hid hz
    clear hz
    rw [if_pos h]
    go_enter Try.func14, Try.ntmps14
    go_wp2_with fail
    refine (HZ.out _).mono ?_
    rintro e w' ⟨rfl, rfl⟩
    go_wp2_with fail
    go_ret
    exact ⟨rfl, ext_alloc (Below.refl _ _) _⟩
  · have hz := fun (w : World) => szIntA2S_any A n c hn w
    rw [if_neg h] at hz
    have HZ := Lib.hid hz
    clear hz
    rw [if_neg h]
    go_enter Try.func14, Try.ntmps14
    go_wp2_with fail
    refine (HZ.out _).mono ?_
    rintro e w' ⟨rfl, rfl⟩
    go_wp2_with fail
    go_ret
    exact ⟨rfl, ext_alloc (Below.refl _ _) _⟩
theorem grown_set (w : World) (p : Addr) (u : Value) : w.grownBy (w.setCell p u) (some p.block) :=
  ⟨rfl, rfl, rfl, by simp [World.setCell], fun k _ hne => Below.heap_setCell _ _ _ _ (fun e => hne (by rw [e]))⟩
theorem own_farSet {w : World} {base E k n : Nat} {v : Value} {zs : List Value} (h : w.ownsRow base E k v n zs) {p : Addr} (hp : p.block < base) (u : Value) : (w.setCell p u).ownsRow base E k v n zs := by
  refine h.kept (grown_set w p u) ?_
  cases hv : v.ownBlock with
  | none => exact .inl rfl
  | some b => exact .inr (fun e => by have := (h.lt b hv).1; injection e with e; omega)
set_option maxRecDepth 100000 in
set_option maxHeartbeats 2000000 in
theorem toFrame_any (u l : Int) (A : Option Addr) (n c B : Nat) (xs : List Rod) (w : World) (h : Reads w B 2 A n ((rodF xs).map (Value.int .i64))) (hB : B ≤ w.heap.size) (hn : n ≤ 1048576) :
    Calls Try.prog 16 #[.agg #[.int .i64 u, .int .i64 l, .slice A n c]] w fun e w' => ∃ (A' : Option Addr) (c' : Nat), e = .returned (.agg #[.int .i64 u, .int .i64 l, .slice A' n c']) ∧ Reads w' w'.heap.size 2 A' n ((rodF xs).map (Value.int .i64)) ∧ Below w.heap.size w w' := by
  have H := Lib.hid h
  have hl := h.rodLen
  clear h
  have hz1 : (w.alloc (.cells #[.int .i64 u, .int .i64 l, .slice A n c] 29)).heap.size = w.heap.size + 1 := by simp
  have hz2 : ((w.alloc (.cells #[.int .i64 u, .int .i64 l, .slice A n c] 29)).alloc (.cells #[.int .i64 0, .int .i64 0, .slice none 0 0] 33)).heap.size = w.heap.size + 1 + 1 := by simp
  have hb := ext_alloc (ext_alloc (ext_alloc (Below.refl w.heap.size w) (.cells #[.int .i64 u, .int .i64 l, .slice A n c] 29)) (.cells #[.int .i64 0, .int .i64 0, .slice none 0 0] 33)) (.cells #[.int .i64 u, .int .i64 l, .slice none 0 0] 33)
  have hB2 := (Blk.new (w.alloc (.cells #[.int .i64 u, .int .i64 l, .slice A n c] 29)) 33 #[.int .i64 0, .int .i64 0, .slice none 0 0]).alloc (.cells #[.int .i64 u, .int .i64 l, .slice none 0 0] 33)
  have hB3 := Blk.new ((w.alloc (.cells #[.int .i64 u, .int .i64 l, .slice A n c] 29)).alloc (.cells #[.int .i64 0, .int .i64 0, .slice none 0 0] 33)) 33 #[.int .i64 u, .int .i64 l, .slice none 0 0]
  rw [hz1] at hB2
  rw [hz2] at hB3
  generalize hw3 : ((w.alloc (.cells #[.int .i64 u, .int .i64 l, .slice A n c] 29)).alloc (.cells #[.int .i64 0, .int .i64 0, .slice none 0 0] 33)).alloc (.cells #[.int .i64 u, .int .i64 l, .slice none 0 0] 33) = w3 at hb hB2 hB3
  have HB := Lib.hid hb
  have HB2 := Lib.hid hB2
  have HB3 := Lib.hid hB3
  have HW := Lib.hid hw3
  clear hz1 hz2 hb hB2 hB3 hw3
  go_enter Try.func16, Try.ntmps16
  go_wp2_with fail
  rw [HW.out]
  refine (toIntA2S_any A n c B xs _ (H.out.below (HB.out.mono hB)) (Nat.le_trans hB HB.out.size) hn).mono ?_
  rintro e w4 ⟨A', n', c', rfl, hacc⟩
  have hl' := hacc.reads.rodLen
  obtain rfl : n' = n := by omega
  have hl3 := HB3.out.lt
  have HB2 := Lib.hid (HB2.out.below hacc.ext HB2.out.lt)
  have HB3 := Lib.hid (HB3.out.below hacc.ext HB3.out.lt)
  have HA := Lib.hid hacc
  have c30 := HB3.out.cell 0
  have c31 := HB3.out.cell 1
  have c32 := HB3.out.cell 2
  have f32 := HB3.out.frozen 2
  have c20 := HB2.out.cell 0
  have c21 := HB2.out.cell 1
  have c22 := HB2.out.cell 2
  have f20 := HB2.out.frozen 0
  have f21 := HB2.out.frozen 1
  have f22 := HB2.out.frozen 2
  simp only [List.getElem?_toArray, List.getElem?_cons_zero, List.getElem?_cons_succ] at c30 c31 c32 c20 c21 c22
  clear hacc
  go_wp2_with fail
  have hBZ := (((HB2.out.far (p := ⟨w.heap.size + 1 + 1, 2, none⟩) (show w.heap.size + 1 ≠ w.heap.size + 1 + 1 by omega) (.slice A' n' c')).set_ 0 (.int .i64 u)).set_ 1 (.int .i64 l)).set_ 2 (.slice A' n' c')
  have hOZ := own_farSet (own_farSet (own_farSet (own_farSet HA.out.own (p := ⟨w.heap.size + 1 + 1, 2, none⟩) (show w.heap.size + 1 + 1 < w3.heap.size by omega) (.slice A' n' c')) (p := ⟨w.heap.size + 1, 0, none⟩) (show w.heap.size + 1 < w3.heap.size by omega) (.int .i64 u)) (p := ⟨w.heap.size + 1, 1, none⟩) (show w.heap.size + 1 < w3.heap.size by omega) (.int .i64 l)) (p := ⟨w.heap.size + 1, 2, none⟩) (show w.heap.size + 1 < w3.heap.size by omega) (.slice A' n' c')
  have hGZ := ext_set (ext_set (ext_set (ext_set (ext_trans HB.out HA.out.ext) (p := ⟨w.heap.size + 1 + 1, 2, none⟩) (show w.heap.size ≤ w.heap.size + 1 + 1 by omega) (.slice A' n' c')) (p := ⟨w.heap.size + 1, 0, none⟩) (show w.heap.size ≤ w.heap.size + 1 by omega) (.int .i64 u)) (p := ⟨w.heap.size + 1, 1, none⟩) (show w.heap.size ≤ w.heap.size + 1 by omega) (.int .i64 l)) (p := ⟨w.heap.size + 1, 2, none⟩) (show w.heap.size ≤ w.heap.size + 1 by omega) (.slice A' n' c')
  generalize (((w4.setCell ⟨w.heap.size + 1 + 1, 2, none⟩ (.slice A' n' c')).setCell ⟨w.heap.size + 1, 0, none⟩ (.int .i64 u)).setCell ⟨w.heap.size + 1, 1, none⟩ (.int .i64 l)).setCell ⟨w.heap.size + 1, 2, none⟩ (.slice A' n' c') = WZ at hBZ hOZ hGZ ⊢
  have r0 := hBZ.cell 0
  have r1 := hBZ.cell 1
  have r2 := hBZ.cell 2
  simp only [List.setIfInBounds_toArray, List.set_cons_zero, List.set_cons_succ, List.getElem?_toArray, List.getElem?_cons_zero, List.getElem?_cons_succ] at r0 r1 r2
  refine bodyPost_ret (v := .agg #[.int .i64 u, .int .i64 l, .slice A' n' c']) ?_ rfl ?_
  · simp [results, Try.results16, go_sem, r0, r1, r2]
  exact ⟨_, _, rfl, Reads.of_own hOZ, hGZ⟩
set_option maxHeartbeats 1000000 in
theorem eqFrame_same (u l : Int) (A1 A2 : Option Addr) (n c1 c2 B1 B2 : Nat) (xs : List Rod) (w : World) (h1 : Reads w B1 2 A1 n ((rodF xs).map (Value.int .i64))) (h2 : Reads w B2 2 A2 n ((rodF xs).map (Value.int .i64))) (hB1 : B1 ≤ w.heap.size) (hB2 : B2 ≤ w.heap.size) (hn : n ≤ maxLen) :
    Calls Try.prog 18 #[.agg #[.int .i64 u, .int .i64 l, .slice A1 n c1], .agg #[.int .i64 u, .int .i64 l, .slice A2 n c2]] w fun e w' => e = .returned (.bool true) ∧ Below w.heap.size w w' := by
  have hb := ext_alloc (ext_alloc (Below.refl w.heap.size w) (.cells #[.int .i64 u, .int .i64 l, .slice A1 n c1] 33)) (.cells #[.int .i64 u, .int .i64 l, .slice A2 n c2] 33)
  have hq := eqIntA2S_any A1 A2 n n c1 c2 B1 B2 _ _ _ (h1.below (hb.mono hB1)) (h2.below (hb.mono hB2)) (Nat.le_trans hB1 hb.size) (Nat.le_trans hB2 hb.size) hn hn
  rw [eqB_self] at hq
  have HB := Lib.hid hb
  have HQ := Lib.hid hq
  have k1 : (u != u) = false := by simp
  have k2 : (l != l) = false := by simp
  clear h1 h2 hb hq
  go_enter Try.func18, Try.ntmps18
  go_wp2_with fail
  refine (HQ.out).mono ?_
  rintro e w' ⟨rfl, hb⟩
  go_wp2_with fail
  go_ret
  exact ⟨rfl, ext_trans HB.out hb⟩
end Go.Proofs.Ytkgbcjiinicffaa
