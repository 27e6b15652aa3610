/- Slices of structs of 7 numbers, and the laws' helpers on them. No condition. -/
import Derived.Test.YtnndhgeddfghcaaAppend
import Derived.Test.YtnndhgeddfghcaaLes
import Derived.StillTailTactics
namespace Go.Proofs.Ytnndhgeddfghcaa
open Go.RowKit

theorem at_some {α : Type} (l : List α) {i : Nat} (h : i < l.length) : ∃ z, l[i]? = some z := ⟨_, List.getElem?_eq_getElem h⟩

/-- Lesn: the numbers of a Lesson. -/
structure Lesn where
  (i c t r d b m : Int)
deriving DecidableEq
def Lesn.cs (x : Lesn) : List Int := [x.i, x.c, x.t, x.r, x.d, x.b, x.m]
@[reducible] def Lesn.val (x : Lesn) : Value := .agg #[.int .i64 x.i, .int .i64 x.c, .int .i64 x.t, .int .i64 x.r, .int .i64 x.d, .int .i64 x.b, .int .i64 x.m]
/-- A list of them, flat. -/
def lesnF (xs : List Lesn) : List Int := xs.flatMap Lesn.cs
theorem lesnF_nil : lesnF [] = [] := rfl
theorem lesnF_cons (x : Lesn) (xs : List Lesn) : lesnF (x :: xs) = x.cs ++ lesnF xs := rfl
theorem lesnF_app (xs ys : List Lesn) : lesnF (xs ++ ys) = lesnF xs ++ lesnF ys := List.flatMap_append
theorem lesnF_len : ∀ (xs : List Lesn), (lesnF xs).length = xs.length * 7
  | [] => rfl
  | x :: xs => by rw [lesnF_cons, List.length_append, lesnF_len xs, List.length_cons]; simp only [Lesn.cs, List.length_cons, List.length_nil]; omega
theorem lesnF_at : ∀ {xs : List Lesn} {k : Nat} {x : Lesn}, xs[k]? = some x → (lesnF xs)[k * 7]? = some x.i ∧ (lesnF xs)[k * 7 + 1]? = some x.c ∧ (lesnF xs)[k * 7 + 2]? = some x.t ∧ (lesnF xs)[k * 7 + 3]? = some x.r ∧ (lesnF xs)[k * 7 + 4]? = some x.d ∧ (lesnF xs)[k * 7 + 5]? = some x.b ∧ (lesnF xs)[k * 7 + 6]? = some x.m
  | [], k, x, h => by simp at h
  | y :: xs, 0, x, h => by
    obtain rfl : y = x := by simpa using h
    simp [lesnF, Lesn.cs]
  | y :: xs, k + 1, x, h => by
    have ih := lesnF_at (xs := xs) (k := k) (x := x) (by simpa using h)
    rw [lesnF_cons]
    refine ⟨?_, ?_, ?_, ?_, ?_, ?_, ?_⟩ <;> (rw [List.getElem?_append_right (by simp only [Lesn.cs, List.length_cons, List.length_nil]; omega)]; simp only [Lesn.cs, List.length_cons, List.length_nil])
    · rw [show (k + 1) * 7 - (0 + 1 + 1 + 1 + 1 + 1 + 1 + 1) = k * 7 from by omega]; exact ih.1
    · rw [show (k + 1) * 7 + 1 - (0 + 1 + 1 + 1 + 1 + 1 + 1 + 1) = k * 7 + 1 from by omega]; exact ih.2.1
    · rw [show (k + 1) * 7 + 2 - (0 + 1 + 1 + 1 + 1 + 1 + 1 + 1) = k * 7 + 2 from by omega]; exact ih.2.2.1
    · rw [show (k + 1) * 7 + 3 - (0 + 1 + 1 + 1 + 1 + 1 + 1 + 1) = k * 7 + 3 from by omega]; exact ih.2.2.2.1
    · rw [show (k + 1) * 7 + 4 - (0 + 1 + 1 + 1 + 1 + 1 + 1 + 1) = k * 7 + 4 from by omega]; exact ih.2.2.2.2.1
    · rw [show (k + 1) * 7 + 5 - (0 + 1 + 1 + 1 + 1 + 1 + 1 + 1) = k * 7 + 5 from by omega]; exact ih.2.2.2.2.2.1
    · rw [show (k + 1) * 7 + 6 - (0 + 1 + 1 + 1 + 1 + 1 + 1 + 1) = k * 7 + 6 from by omega]; exact ih.2.2.2.2.2.2
theorem lesnF_of : ∀ (n : Nat) (zs : List Int), zs.length = n * 7 → ∃ xs : List Lesn, zs = lesnF xs ∧ xs.length = n
  | 0, zs, h => ⟨[], by have : zs = [] := List.length_eq_zero_iff.1 (by omega); rw [this]; rfl, rfl⟩
  | n + 1, zs, h => by
    match zs, h with
    | a0 :: a1 :: a2 :: a3 :: a4 :: a5 :: a6 :: zs, h =>
      obtain ⟨xs, rfl, hl⟩ := lesnF_of n zs (by simp only [List.length_cons] at h; omega)
      exact ⟨⟨a0, a1, a2, a3, a4, a5, a6⟩ :: xs, rfl, by simp [hl]⟩
    | [], h | [_], h | [_, _], h | [_, _, _], h | [_, _, _, _], h | [_, _, _, _, _], h | [_, _, _, _, _, _], h => simp at h <;> omega
theorem lesnF_inj : ∀ {xs ys : List Lesn}, lesnF xs = lesnF ys → xs = ys
  | [], [], _ => rfl
  | [], y :: ys, h => by simp [lesnF, Lesn.cs] at h
  | x :: xs, [], h => by simp [lesnF, Lesn.cs] at h
  | x :: xs, y :: ys, h => by
    rw [lesnF_cons, lesnF_cons] at h
    simp only [Lesn.cs, List.cons_append, List.nil_append, List.cons.injEq] at h
    obtain ⟨h0, h1, h2, h3, h4, h5, h6, ht⟩ := h
    cases x; cases y
    simp_all only
    rw [lesnF_inj ht]
theorem lesnF_snoc {xs : List Lesn} {k : Nat} {x : Lesn} (h : xs[k]? = some x) : xs.take (k + 1) = xs.take k ++ [x] := by
  rw [List.take_add_one, h]; rfl
theorem lesnF_drop (xs : List Lesn) (j : Nat) : (lesnF xs).drop (j * 7) = lesnF (xs.drop j) := by
  induction j generalizing xs with
  | zero => simp
  | succ j ih =>
    cases xs with
    | nil => simp [lesnF]
    | cons x xs =>
      rw [lesnF_cons, show (j + 1) * 7 = j * 7 + 7 from by omega, ← List.drop_drop, List.drop_succ_cons, ← ih]
      rw [List.drop_drop, Nat.add_comm, ← List.drop_drop]
      rfl
theorem lesnF_take (xs : List Lesn) (j : Nat) : (lesnF xs).take (j * 7) = lesnF (xs.take j) := by
  induction j generalizing xs with
  | zero => simp [lesnF]
  | succ j ih =>
    cases xs with
    | nil => simp [lesnF]
    | cons x xs => rw [lesnF_cons, List.take_succ_cons, lesnF_cons, ← ih, show (j + 1) * 7 = j * 7 + 7 from by omega]; rfl
theorem Reads.lesn {w : World} {B n : Nat} {A : Option Addr} {xs : List Lesn} (h : Reads w B 7 A n ((lesnF xs).map (Value.int .i64))) {k : Nat} (hk : k < n) :
    ∃ b o x, A = some ⟨b, o, none⟩ ∧ xs[k]? = some x ∧ w.cell? ⟨b, o + k * 7, none⟩ = some (.int .i64 x.i) ∧ w.cell? ⟨b, o + k * 7 + 1, none⟩ = some (.int .i64 x.c) ∧ w.cell? ⟨b, o + k * 7 + 2, none⟩ = some (.int .i64 x.t) ∧ w.cell? ⟨b, o + k * 7 + 3, none⟩ = some (.int .i64 x.r) ∧ w.cell? ⟨b, o + k * 7 + 4, none⟩ = some (.int .i64 x.d) ∧ w.cell? ⟨b, o + k * 7 + 5, none⟩ = some (.int .i64 x.b) ∧ w.cell? ⟨b, o + k * 7 + 6, none⟩ = some (.int .i64 x.m) := by
  obtain ⟨b, o, e, hr⟩ := h.row hk (by omega)
  have hl : (lesnF xs).length = n * 7 := by simpa using h.1
  rw [lesnF_len] at hl
  have hx : xs[k]? = some (xs[k]'(by omega)) := List.getElem?_eq_getElem (by omega)
  obtain ⟨c0, c1, c2, c3, c4, c5, c6⟩ := lesnF_at hx
  refine ⟨b, o, _, e, hx, ?_, ?_, ?_, ?_, ?_, ?_, ?_⟩
  · obtain ⟨z, hz, hc⟩ := hr 0 (by omega); simp only [Nat.add_zero] at hz hc; rw [c0] at hz; injection hz with hz; subst hz; simpa only [Nat.add_assoc] using hc
  · obtain ⟨z, hz, hc⟩ := hr 1 (by omega); rw [c1] at hz; injection hz with hz; subst hz; simpa only [Nat.add_assoc] using hc
  · obtain ⟨z, hz, hc⟩ := hr 2 (by omega); rw [c2] at hz; injection hz with hz; subst hz; simpa only [Nat.add_assoc] using hc
  · obtain ⟨z, hz, hc⟩ := hr 3 (by omega); rw [c3] at hz; injection hz with hz; subst hz; simpa only [Nat.add_assoc] using hc
  · obtain ⟨z, hz, hc⟩ := hr 4 (by omega); rw [c4] at hz; injection hz with hz; subst hz; simpa only [Nat.add_assoc] using hc
  · obtain ⟨z, hz, hc⟩ := hr 5 (by omega); rw [c5] at hz; injection hz with hz; subst hz; simpa only [Nat.add_assoc] using hc
  · obtain ⟨z, hz, hc⟩ := hr 6 (by omega); rw [c6] at hz; injection hz with hz; subst hz; simpa only [Nat.add_assoc] using hc
theorem Reads.lesnLen {w : World} {B n : Nat} {A : Option Addr} {xs : List Lesn} (h : Reads w B 7 A n ((lesnF xs).map (Value.int .i64))) : xs.length = n := by
  have hl : (lesnF xs).length = n * 7 := by simpa using h.1
  rw [lesnF_len] at hl
  omega
set_option maxHeartbeats 400000 in
theorem szLessonS_any (A : Option Addr) (n c : Nat) (hn : n ≤ maxLen) (w : World) :
    Calls Try.prog 20 #[.slice A n c, .int .i64 1048576] w fun e w' => e = .returned (.int .i64 (if n ≤ 1048576 then 1048576 - (n : Int) else -1)) ∧ w = w' := by
  unfold maxLen at hn
  by_cases h : n ≤ 1048576
  · go_enter Try.func20, Try.ntmps20
    go_wp2_with fail
    go_ret
    exact ⟨by simp, rfl⟩
  · go_enter Try.func20, Try.ntmps20
    go_wp2_with fail
    go_ret
    exact ⟨by simp, rfl⟩
set_option maxHeartbeats 1000000 in
theorem eqLesson_any (x y : Lesn) (w : World) :
    Calls Try.prog 72 #[.agg #[.int .i64 x.i, .int .i64 x.c, .int .i64 x.t, .int .i64 x.r, .int .i64 x.d, .int .i64 x.b, .int .i64 x.m], .agg #[.int .i64 y.i, .int .i64 y.c, .int .i64 y.t, .int .i64 y.r, .int .i64 y.d, .int .i64 y.b, .int .i64 y.m]] w fun e w' => e = .returned (.bool (decide (x = y))) ∧ Below w.heap.size w w' := by
  go_enter Try.func72, Try.ntmps72
  go_wp2
  all_goals
    go_ret
    refine ⟨by cases x; cases y; simp_all, ?_⟩
    repeat (first | exact Below.refl _ _ | refine Below.alloc ?_ (by first | omega | (simp; done) | (simp; omega)) _ | refine Below.setCell ?_ (by first | omega | (simp; done) | (simp; omega)) _)
theorem infoLesn : (Try.prog.info? 25).map (fun i => (i.zero, i.size, i.bytes)) = some (some (.agg #[.int .i64 0, .int .i64 0, .int .i64 0, .int .i64 0, .int .i64 0, .int .i64 0, .int .i64 0]), 7, 56) := by kernel_rfl
theorem madeCells_lesn (n : Nat) : (madeCells (Value.agg #[.int .i64 0, .int .i64 0, .int .i64 0, .int .i64 0, .int .i64 0, .int .i64 0, .int .i64 0]).cells (n * 7)).toList = (List.replicate (n * 7) (0 : Int)).map (Value.int .i64) := by
  unfold madeCells
  rw [Array.toList_map, Array.toList_range, List.map_replicate, List.eq_replicate_iff]
  refine ⟨by simp, fun b hb => ?_⟩
  obtain ⟨i, _, rfl⟩ := List.mem_map.1 hb
  have : i % 7 < 7 := Nat.mod_lt _ (by omega)
  show (#[Value.int .i64 0, Value.int .i64 0, Value.int .i64 0, Value.int .i64 0, Value.int .i64 0, Value.int .i64 0, Value.int .i64 0] : Array Value)[i % 7]! = _
  generalize i % 7 = r at this ⊢
  match r, this with
  | 0, _ => rfl
  | 1, _ => rfl
  | 2, _ => rfl
  | 3, _ => rfl
  | 4, _ => rfl
  | 5, _ => rfl
  | 6, _ => rfl
/-- make of a slice of n of them. -/
theorem makeLesn {ops : Array Oper} {rest : List Oper} {o : Oper} {a : Act} {Q : Exit → Act → World → Prop} (hgd : o.guard = none) (l c : Operand) (hop : o.op = Op.makeSlice 33 l c)
    {w0 w : World} (hb : Below w0.heap.size w0 w) (n : Nat) (hl : a.eval l = .int .i64 (n : Int)) (hc : a.eval c = .int .i64 (n : Int)) (hn : n ≤ 1099511627776)
    (h : ∀ g w', Acc w0 w' 25 7 (some ⟨g, 0, none⟩) n n (List.replicate (n * 7) 0) → Below w.heap.size w w' → wpList Try.prog ops Q rest (a.put o.dst (.slice (some ⟨g, 0, none⟩) n n)) w') : wpList Try.prog ops Q (o :: rest) a w := by
  obtain ⟨i, hi1, hi2, hi3, hi4⟩ := info_parts infoLesn
  refine wpList_make_full w hgd l c 33 hop w0.heap.size 25 i (.agg #[.int .i64 0, .int .i64 0, .int .i64 0, .int .i64 0, .int .i64 0, .int .i64 0, .int .i64 0]) 7 Try.underlying33 hi1 hi2 hi3 .i64 .i64 n n n hl hc rfl rfl (by rw [hi4]; omega) (by unfold maxLen; omega) hb.size ?_
  intro w' hown hg
  have hb' : Below w.heap.size w w' := ⟨hg.os, hg.tape, hg.output, hg.size, fun k hk => hg.block k hk (by simp)⟩
  refine h _ w' ⟨?_, ext_trans hb hb'⟩ hb'
  rw [← madeCells_lesn]
  exact hown
theorem lesn_set {xs : List Lesn} {k n : Nat} {x : Lesn} (hx : xs[k]? = some x) (hk : k < n) :
    (((((((lesnF (xs.take k) ++ List.replicate ((n - k) * 7) 0).set (k * 7) x.i).set (k * 7 + 1) x.c).set (k * 7 + 2) x.t).set (k * 7 + 3) x.r).set (k * 7 + 4) x.d).set (k * 7 + 5) x.b).set (k * 7 + 6) x.m = lesnF (xs.take (k + 1)) ++ List.replicate ((n - (k + 1)) * 7) 0 := by
  have hl : (lesnF (xs.take k)).length = k * 7 := by
    rw [lesnF_len, List.length_take]
    have := (List.getElem?_eq_some_iff.1 hx).1
    congr 1; omega
  rw [lesnF_snoc hx, lesnF_app, show (n - k) * 7 = (n - (k + 1)) * 7 + 1 + 1 + 1 + 1 + 1 + 1 + 1 from by omega]
  simp only [List.replicate_succ, List.append_assoc]
  rw [List.set_append_right _ _ (by rw [hl]; omega), hl]; rw [List.set_append_right _ _ (by rw [hl]; omega), hl]; rw [List.set_append_right _ _ (by rw [hl]; omega), hl]; rw [List.set_append_right _ _ (by rw [hl]; omega), hl]; rw [List.set_append_right _ _ (by rw [hl]; omega), hl]; rw [List.set_append_right _ _ (by rw [hl]; omega), hl]; rw [List.set_append_right _ _ (by rw [hl]; omega), hl]
  simp only [Nat.sub_self, Nat.add_sub_cancel_left, List.set_cons_zero, List.set_cons_succ]
  rfl
set_option maxHeartbeats 2000000 in
theorem toLessonS_any (A : Option Addr) (n c B : Nat) (xs : List Lesn) (w : World) (h : Reads w B 7 A n ((lesnF xs).map (Value.int .i64))) (hB : B ≤ w.heap.size) (hn : n ≤ 1048576) :
    Calls Try.prog 22 #[.slice A n c] w fun e w' => GivesS 25 7 (lesnF xs) w e w' := by
  have hl := h.lesnLen
  have H := Lib.hid h
  have HL := Lib.hid hl
  clear h hl
  go_enter Try.func22, Try.ntmps22
  go_wp2_with (at_make; refine makeLesn rfl _ _ rfl (Below.refl _ _) n rfl rfl (by omega) ?_; intro g w1 hacc hbm)
  go_loopw [4] (fun i wr => ∃ j : Nat, i = .int .i64 j ∧ j ≤ n ∧ Acc w wr 25 7 (some ⟨g, 0, none⟩) n n (lesnF (xs.take j) ++ List.replicate ((n - j) * 7) 0)) (fun i _ => n - (intOf i).toNat)
  case atStart => exact ⟨0, rfl, by omega, by simpa [lesnF] using hacc⟩
  case round =>
    clear hacc hbm
    obtain ⟨j, rfl, hj, hacc⟩ := hrel
    by_cases hlt : j < n
    · have R := Lib.hid (H.out.below (hacc.ext.mono hB))
      obtain ⟨b, o, x, hAx, hx, hc0, hc1, hc2, hc3, hc4, hc5, hc6⟩ := R.out.lesn hlt
      subst hAx
      have HX := Lib.hid hx
      have HA := Lib.hid hacc
      clear hx hacc
      go_wp2_with fail
      refine (toLesson_any _ _ _ _ _ _ _ _).mono ?_
      rintro e w2 ⟨rfl, hb2⟩
      have HA2 := Lib.hid (HA.out.later hb2)
      have hlen : (lesnF (xs.take j) ++ List.replicate ((n - j) * 7) 0).length = n * 7 := HA.out.len
      clear hb2
      obtain ⟨z0, e0⟩ := at_some _ (show j * 7 < _ by rw [hlen]; omega)
      obtain ⟨z1, e1⟩ := at_some _ (show j * 7 + 1 < _ by rw [hlen]; omega)
      obtain ⟨z2, e2⟩ := at_some _ (show j * 7 + 2 < _ by rw [hlen]; omega)
      obtain ⟨z3, e3⟩ := at_some _ (show j * 7 + 3 < _ by rw [hlen]; omega)
      obtain ⟨z4, e4⟩ := at_some _ (show j * 7 + 4 < _ by rw [hlen]; omega)
      obtain ⟨z5, e5⟩ := at_some _ (show j * 7 + 5 < _ by rw [hlen]; omega)
      obtain ⟨z6, e6⟩ := at_some _ (show j * 7 + 6 < _ by rw [hlen]; omega)
      obtain ⟨k0, f0⟩ := HA2.out.cellAt e0
      obtain ⟨k1, f1⟩ := HA2.out.cellAt e1
      obtain ⟨k2, f2⟩ := HA2.out.cellAt e2
      obtain ⟨k3, f3⟩ := HA2.out.cellAt e3
      obtain ⟨k4, f4⟩ := HA2.out.cellAt e4
      obtain ⟨k5, f5⟩ := HA2.out.cellAt e5
      obtain ⟨k6, f6⟩ := HA2.out.cellAt e6
      clear hlen e0 e1 e2 e3 e4 e5 e6
      have s0 := HA2.out.set (j * 7) x.i
      have s1 := s0.set (j * 7 + 1) x.c
      have s2 := s1.set (j * 7 + 2) x.t
      have s3 := s2.set (j * 7 + 3) x.r
      have s4 := s3.set (j * 7 + 4) x.d
      have s5 := s4.set (j * 7 + 5) x.b
      have s6 := s5.set (j * 7 + 6) x.m
      rw [lesn_set HX.out hlt] at s6
      have HS := Lib.hid s6
      clear s0 s1 s2 s3 s4 s5 s6
      go_wp2
      go_roundw
      case rel => exact ⟨j + 1, by go_num, by omega, HS.out⟩
      case measure => simp [intOf]; omega
    · have HA := Lib.hid hacc
      clear hacc
      have hj' : j = n := by omega
      subst hj'
      go_wp2
      go_ret
      refine ⟨_, _, _, rfl, ?_⟩
      have := HA.out
      rwa [Nat.sub_self, Nat.zero_mul, List.replicate_zero, List.append_nil, List.take_of_length_le (by have := HL.out; omega)] at this
/-- append to a slice of Lessons. -/
theorem appLesn {ops : Array Oper} {rest : List Oper} {o : Oper} {a : Act} {Q : Exit → Act → World → Prop} (hgd : o.guard = none) (s x : Operand)
    (ho : o.op = .call { callee := .builtin .append, args := #[s, x], argTypes := #[33, 33] })
    {w0 w : World} {A : Option Addr} {n c : Nat} {zs : List Int} (hs : a.eval s = .slice A n c) (hacc : Acc w0 w 25 7 A n c zs)
    {B m c2 : Nat} {A2 : Option Addr} {news : List Int} (hx : a.eval x = .slice A2 m c2) (hr : Reads w B 7 A2 m (news.map (Value.int .i64))) (hb : n + m ≤ 1099511627776)
    (h : ∀ A' c' w', Acc w0 w' 25 7 A' (n + m) c' (zs ++ news) → w.grownBy w' (Value.slice A n c).ownBlock → wpList Try.prog ops Q rest (a.put o.dst (.slice A' (n + m) c')) w') : wpList Try.prog ops Q (o :: rest) a w :=
  acc_app Try.underlying33 infoLesn rfl (by decide) hgd s x ho hs hacc hx hr (by unfold maxLen; omega) (by omega) h
theorem appLesn_step {ops : Array Oper} {o : Oper} {a : Act} {K : Act → World → Prop} {Q : Exit → Act → World → Prop} {F : Prop} (hgd : o.guard = none) (s x : Operand)
    (ho : o.op = .call { callee := .builtin .append, args := #[s, x], argTypes := #[33, 33] })
    {w0 w : World} {A : Option Addr} {n c : Nat} {zs : List Int} (hs : a.eval s = .slice A n c) (hacc : Acc w0 w 25 7 A n c zs)
    {B m c2 : Nat} {A2 : Option Addr} {news : List Int} (hx : a.eval x = .slice A2 m c2) (hr : Reads w B 7 A2 m (news.map (Value.int .i64))) (hb : n + m ≤ 1099511627776)
    (h : ∀ A' c' w', Acc w0 w' 25 7 A' (n + m) c' (zs ++ news) → w.grownBy w' (Value.slice A n c).ownBlock → K (a.put o.dst (.slice A' (n + m) c')) w') : if Region.wanted o (yielded ops a.tmps) = true then Oper.wp Try.prog o a w K Q else F :=
  acc_app_step Try.underlying33 infoLesn rfl (by decide) hgd s x ho hs hacc hx hr (by unfold maxLen; omega) (by omega) h
theorem appLesn_b {ops : Array Oper} {rest : List Oper} {o : Oper} {a : Act} {Q : Exit → Act → World → Prop} (hgd : o.guard = none) (s x : Operand)
    (ho : o.op = .call { callee := .builtin .append, args := #[s, x], argTypes := #[33, 33] })
    {w0 w : World} {A : Option Addr} {n c : Nat} {zs : List Int} (hs : a.eval s = .slice A n c) (hacc : Acc w0 w 25 7 A n c zs)
    {B m c2 : Nat} {A2 : Option Addr} {news : List Int} (hx : a.eval x = .slice A2 m c2) (hr : Reads w B 7 A2 m (news.map (Value.int .i64))) (hb : n + m ≤ 1099511627776)
    (h : ∀ A' c' w', Acc w0 w' 25 7 A' (n + m) c' (zs ++ news) → Pushed w w' A A' → wpList Try.prog ops Q rest (a.put o.dst (.slice A' (n + m) c')) w') : wpList Try.prog ops Q (o :: rest) a w :=
  acc_app_b Try.underlying33 infoLesn rfl (by decide) hgd s x ho hs hacc hx hr (by unfold maxLen; omega) (by omega) h
theorem appLesn_b_step {ops : Array Oper} {o : Oper} {a : Act} {K : Act → World → Prop} {Q : Exit → Act → World → Prop} {F : Prop} (hgd : o.guard = none) (s x : Operand)
    (ho : o.op = .call { callee := .builtin .append, args := #[s, x], argTypes := #[33, 33] })
    {w0 w : World} {A : Option Addr} {n c : Nat} {zs : List Int} (hs : a.eval s = .slice A n c) (hacc : Acc w0 w 25 7 A n c zs)
    {B m c2 : Nat} {A2 : Option Addr} {news : List Int} (hx : a.eval x = .slice A2 m c2) (hr : Reads w B 7 A2 m (news.map (Value.int .i64))) (hb : n + m ≤ 1099511627776)
    (h : ∀ A' c' w', Acc w0 w' 25 7 A' (n + m) c' (zs ++ news) → Pushed w w' A A' → K (a.put o.dst (.slice A' (n + m) c')) w') : if Region.wanted o (yielded ops a.tmps) = true then Oper.wp Try.prog o a w K Q else F :=
  acc_app_b_step Try.underlying33 infoLesn rfl (by decide) hgd s x ho hs hacc hx hr (by unfold maxLen; omega) (by omega) h
set_option maxHeartbeats 2000000 in
theorem eqLessonS_any (A1 A2 : Option Addr) (n1 n2 c1 c2 B1 B2 : Nat) (xs ys : List Lesn) (w : World) (h1 : Reads w B1 7 A1 n1 ((lesnF xs).map (Value.int .i64))) (h2 : Reads w B2 7 A2 n2 ((lesnF ys).map (Value.int .i64))) (hB1 : B1 ≤ w.heap.size) (hB2 : B2 ≤ w.heap.size) (hn1 : n1 ≤ maxLen) (hn2 : n2 ≤ maxLen) :
    Calls Try.prog 24 #[.slice A1 n1 c1, .slice A2 n2 c2] w fun e w' => e = .returned (.bool (decide (xs = ys))) ∧ Below w.heap.size w w' := by
  unfold maxLen at hn1 hn2
  have l1 := h1.lesnLen
  have l2 := h2.lesnLen
  have H1 := Lib.hid h1
  have H2 := Lib.hid h2
  have L1 := Lib.hid l1
  have L2 := Lib.hid l2
  clear h1 h2 l1 l2
  by_cases hne : n1 = n2
  · subst hne
    go_enter Try.func24, Try.ntmps24
    go_wp2
    go_loopw [5] (fun i wr => ∃ j : Nat, i = .int .i64 j ∧ j ≤ n1 ∧ xs.take j = ys.take j ∧ Below w.heap.size w wr) (fun i _ => n1 - (intOf i).toNat)
    case atStart => exact ⟨0, rfl, by omega, by simp, Below.refl _ _⟩
    case round =>
      obtain ⟨j, rfl, hj, hh, hb⟩ := hrel
      have HH := Lib.hid hh
      clear hh
      have R1 := Lib.hid (H1.out.below (hb.mono hB1))
      have R2 := Lib.hid (H2.out.below (hb.mono hB2))
      by_cases hlt : j < n1
      · have hj1 : (j : Int) < n1 := by omega
        have hj0 : (0 : Int) ≤ j := by omega
        obtain ⟨b, o, x, hAx, hx, hc0, hc1, hc2, hc3, hc4, hc5, hc6⟩ := R1.out.lesn hlt
        obtain ⟨b2, o2, y, hAy, hy, hd0, hd1, hd2, hd3, hd4, hd5, hd6⟩ := R2.out.lesn hlt
        subst hAx hAy
        have HX := Lib.hid hx
        have HY := Lib.hid hy
        clear hx hy
        cases he : decide (x = y)
        · go_wp2
          go_still_tail 8, (by kernel_rfl)
          go_wp2_with (go_at_call 72; refine (eqLesson_any x y _).mono ?_; rintro e w' ⟨rfl, hb'⟩)
          go_ret
          refine ⟨?_, ext_trans (ext_drew hb) hb'⟩
          rw [show decide (xs = ys) = false from ?_]
          · rfl
          · rw [decide_eq_false_iff_not] at he ⊢
            intro hxy
            have h1 := HX.out
            have h2 := HY.out
            rw [hxy] at h1
            exact he (Option.some.inj (h1.symm.trans h2))
        · go_wp2
          go_still_tail 8, (by kernel_rfl)
          go_wp2_with (go_at_call 72; refine (eqLesson_any x y _).mono ?_; rintro e w' ⟨rfl, hb'⟩)
          go_roundw
          case rel => exact ⟨j + 1, by go_num, by omega, by rw [lesnF_snoc HX.out, lesnF_snoc HY.out, HH.out, of_decide_eq_true he], ext_trans (ext_drew hb) hb'⟩
          case measure => simp [intOf]; omega
      · go_wp2
        go_ret
        have hf : decide (xs = ys) = true := by
          have hj' : j = n1 := by omega
          subst hj'
          have := HH.out
          rw [List.take_of_length_le (by have := L1.out; omega), List.take_of_length_le (by have := L2.out; omega)] at this
          rw [this]; exact decide_eq_true rfl
        exact ⟨by rw [hf]; rfl, hb⟩
  · have hne' : ((n1 : Int) == (n2 : Int)) = false := by simp; omega
    go_enter Try.func24, Try.ntmps24
    go_wp2
    go_ret
    have hf : decide (xs = ys) = false := by
      rw [decide_eq_false_iff_not]
      intro h
      have := L1.out
      have := L2.out
      rw [h] at *
      omega
    exact ⟨by rw [hf]; rfl, Below.refl _ _⟩
set_option maxHeartbeats 2000000 in
theorem markLessonS_any (A : Option Addr) (n c base : Nat) (zs : List Int) (k : Int) (w : World) (h : w.ownsRow base 25 7 (.slice A n c) n (zs.map (Value.int .i64))) (hn : (n : Int) ≤ 288230376151711744) (hk0 : 0 ≤ k) (hk : k ≤ 288230376151711744) :
    Calls Try.prog 32 #[.slice A n c, .int .i64 k] w fun e w' => e = .returned (.int .i64 (k + (n * 7 : Nat))) ∧ w'.ownsRow base 25 7 (.slice A n c) n ((marks k (n * 7)).map (Value.int .i64)) ∧ w.grownBy w' (Value.slice A n c).ownBlock := by
  have hl : zs.length = n * 7 := by simpa using h.1
  have H := Lib.hid h
  have HL := Lib.hid hl
  clear h hl
  go_enter Try.func32, Try.ntmps32
  go_wp2
  go_loopw [1, 5] (fun t i wr => ∃ j : Nat, i = .int .i64 j ∧ j ≤ n ∧ t = .int .i64 (k + ((j * 7 : Nat) : Int)) ∧ wr.ownsRow base 25 7 (.slice A n c) n ((marks k (j * 7) ++ zs.drop (j * 7)).map (Value.int .i64)) ∧ w.grownBy wr (Value.slice A n c).ownBlock) (fun _ i _ => n - (intOf i).toNat)
  case atStart => exact ⟨0, rfl, by omega, by simp, by simpa [marks] using H.out, World.grownBy.refl _ _⟩
  case round =>
    obtain ⟨j, rfl, hj, rfl, hown, hg⟩ := hrel
    by_cases hlt : j < n
    · obtain ⟨g, cap, hv, _, hgl⟩ := hown.form (by omega)
      have hA : A = some ⟨g, 0, none⟩ := by injection hv
      subst hA
      clear hv
      have hz := HL.out
      obtain ⟨z0, e0⟩ := mark_old k zs (j * 7) 0 (j * 7) rfl (by omega)
      obtain ⟨z1, e1⟩ := mark_old k zs (j * 7) 1 (j * 7 + 1) rfl (by omega)
      obtain ⟨z2, e2⟩ := mark_old k zs (j * 7) 2 (j * 7 + 2) rfl (by omega)
      obtain ⟨z3, e3⟩ := mark_old k zs (j * 7) 3 (j * 7 + 3) rfl (by omega)
      obtain ⟨z4, e4⟩ := mark_old k zs (j * 7) 4 (j * 7 + 4) rfl (by omega)
      obtain ⟨z5, e5⟩ := mark_old k zs (j * 7) 5 (j * 7 + 5) rfl (by omega)
      obtain ⟨z6, e6⟩ := mark_old k zs (j * 7) 6 (j * 7 + 6) rfl (by omega)
      have hc0 := hown.cellAt (j * 7) (by omega)
      rw [e0] at hc0
      have hc1 := hown.cellAt (j * 7 + 1) (by omega)
      rw [e1] at hc1
      have hc2 := hown.cellAt (j * 7 + 2) (by omega)
      rw [e2] at hc2
      have hc3 := hown.cellAt (j * 7 + 3) (by omega)
      rw [e3] at hc3
      have hc4 := hown.cellAt (j * 7 + 4) (by omega)
      rw [e4] at hc4
      have hc5 := hown.cellAt (j * 7 + 5) (by omega)
      rw [e5] at hc5
      have hc6 := hown.cellAt (j * 7 + 6) (by omega)
      rw [e6] at hc6
      have hf0 := hown.frozenAt (j * 7)
      have hf1 := hown.frozenAt (j * 7 + 1)
      have hf2 := hown.frozenAt (j * 7 + 2)
      have hf3 := hown.frozenAt (j * 7 + 3)
      have hf4 := hown.frozenAt (j * 7 + 4)
      have hf5 := hown.frozenAt (j * 7 + 5)
      have hf6 := hown.frozenAt (j * 7 + 6)
      have s0 := hown.stored (j * 7) (.int .i64 (k + ((j * 7 : Nat) : Int)))
      have s1 := s0.1.stored (j * 7 + 1) (.int .i64 (k + ((j * 7 + 1 : Nat) : Int)))
      have s2 := s1.1.stored (j * 7 + 2) (.int .i64 (k + ((j * 7 + 1 + 1 : Nat) : Int)))
      have s3 := s2.1.stored (j * 7 + 3) (.int .i64 (k + ((j * 7 + 1 + 1 + 1 : Nat) : Int)))
      have s4 := s3.1.stored (j * 7 + 4) (.int .i64 (k + ((j * 7 + 1 + 1 + 1 + 1 : Nat) : Int)))
      have s5 := s4.1.stored (j * 7 + 5) (.int .i64 (k + ((j * 7 + 1 + 1 + 1 + 1 + 1 : Nat) : Int)))
      have s6 := s5.1.stored (j * 7 + 6) (.int .i64 (k + ((j * 7 + 1 + 1 + 1 + 1 + 1 + 1 : Nat) : Int)))
      have HG := Lib.hid (grownBy_trans hg (grownBy_trans s0.2 (grownBy_trans s1.2 (grownBy_trans s2.2 (grownBy_trans s3.2 (grownBy_trans s4.2 (grownBy_trans s5.2 s6.2)))))))
      have HS := Lib.hid s6.1
      clear hz e0 e1 e2 e3 e4 e5 e6 hown hg s0 s1 s2 s3 s4 s5 s6
      go_wp2
      go_roundw
      case rel =>
        refine ⟨j + 1, by go_num, by omega, by go_num, ?_, ?_⟩
        · rw [show (j + 1) * 7 = j * 7 + 1 + 1 + 1 + 1 + 1 + 1 + 1 from by omega, ← marks_setV k zs (j * 7 + 1 + 1 + 1 + 1 + 1 + 1) (by have := HL.out; omega), ← marks_setV k zs (j * 7 + 1 + 1 + 1 + 1 + 1) (by have := HL.out; omega), ← marks_setV k zs (j * 7 + 1 + 1 + 1 + 1) (by have := HL.out; omega), ← marks_setV k zs (j * 7 + 1 + 1 + 1) (by have := HL.out; omega), ← marks_setV k zs (j * 7 + 1 + 1) (by have := HL.out; omega), ← marks_setV k zs (j * 7 + 1) (by have := HL.out; omega), ← marks_setV k zs (j * 7) (by have := HL.out; omega)]
          have h := HS.out
          simp only [Int.natCast_add, Int.natCast_mul, Int.cast_ofNat_Int, ← Int.add_assoc] at h ⊢
          simpa only [Nat.add_assoc, Nat.reduceAdd] using h
        · have h := HG.out
          simp only [Int.natCast_add, Int.natCast_mul, Int.cast_ofNat_Int, ← Int.add_assoc] at h ⊢
          exact h
      case measure => simp [intOf]; omega
    · have HO := Lib.hid hown
      have HG := Lib.hid hg
      clear hown hg
      have hj' : j = n := by omega
      subst hj'
      go_wp2
      go_ret
      refine ⟨rfl, ?_, HG.out⟩
      have := HO.out
      rwa [List.drop_of_length_le (by have := HL.out; omega), List.append_nil] at this
set_option maxHeartbeats 2000000 in
theorem heldLessonS_any (A : Option Addr) (n c B : Nat) (k : Int) (w : World) (h : Reads w B 7 A n ((marks k (n * 7)).map (Value.int .i64))) (hn : (n : Int) ≤ 288230376151711744) (hk0 : 0 ≤ k) (hk : k ≤ 288230376151711744) :
    Calls Try.prog 46 #[.slice A n c, .int .i64 k] w fun e w' => e = .returned (.int .i64 (k + (n * 7 : Nat))) ∧ w = w' := by
  have H := Lib.hid h
  clear h
  go_enter Try.func46, Try.ntmps46
  go_wp2
  go_loop [1, 5] (fun t i => ∃ j : Nat, i = .int .i64 j ∧ j ≤ n ∧ t = .int .i64 (k + ((j * 7 : Nat) : Int))) (fun _ i => n - (intOf i).toNat)
  case atStart => exact ⟨0, rfl, by omega, by simp⟩
  case round =>
    obtain ⟨j, rfl, hj, rfl⟩ := hrel
    by_cases hlt : j < n
    · have hlt' := hlt
      obtain ⟨gx, ox, rfl, hrx⟩ := H.out.row hlt (by omega)
      obtain ⟨x0, hx0, hc0⟩ := hrx 0 (by omega)
      obtain ⟨x1, hx1, hc1⟩ := hrx 1 (by omega)
      obtain ⟨x2, hx2, hc2⟩ := hrx 2 (by omega)
      obtain ⟨x3, hx3, hc3⟩ := hrx 3 (by omega)
      obtain ⟨x4, hx4, hc4⟩ := hrx 4 (by omega)
      obtain ⟨x5, hx5, hc5⟩ := hrx 5 (by omega)
      obtain ⟨x6, hx6, hc6⟩ := hrx 6 (by omega)
      clear hrx
      simp only [Nat.add_zero, ← Nat.add_assoc] at hx0 hc0 hx1 hc1 hx2 hc2 hx3 hc3 hx4 hc4 hx5 hc5 hx6 hc6
      rw [marks_at (by omega)] at hx0
      injection hx0 with hx0
      subst hx0
      rw [marks_at (by omega)] at hx1
      injection hx1 with hx1
      subst hx1
      rw [marks_at (by omega)] at hx2
      injection hx2 with hx2
      subst hx2
      rw [marks_at (by omega)] at hx3
      injection hx3 with hx3
      subst hx3
      rw [marks_at (by omega)] at hx4
      injection hx4 with hx4
      subst hx4
      rw [marks_at (by omega)] at hx5
      injection hx5 with hx5
      subst hx5
      rw [marks_at (by omega)] at hx6
      injection hx6 with hx6
      subst hx6
      go_wp2
      go_round
      case rel => exact ⟨j + 1, by go_num, by omega, by go_num⟩
      case measure => simp [intOf]; omega
    · have hj' : j = n := by omega
      subst hj'
      go_wp2
      go_ret
      exact ⟨rfl, rfl⟩
end Go.Proofs.Ytnndhgeddfghcaa
