/- Slices of structs of 5 numbers, and the laws' helpers on them. No condition. -/
import Derived.Test.YtbjmpllnkkfgfaaAppend
import Derived.Test.YtbjmpllnkkfgfaaAcc
import Derived.StillTailTactics
namespace Go.Proofs.Ytbjmpllnkkfgfaa
open Go.RowKit

theorem at_some {α : Type} (l : List α) {i : Nat} (h : i < l.length) : ∃ z, l[i]? = some z := ⟨_, List.getElem?_eq_getElem h⟩

/-- Acct: the numbers of a Account. -/
structure Acct where
  (p m l s d : Int)
deriving DecidableEq
def Acct.cs (x : Acct) : List Int := [x.p, x.m, x.l, x.s, x.d]
@[reducible] def Acct.val (x : Acct) : Value := .agg #[.int .i64 x.p, .int .i64 x.m, .int .i64 x.l, .int .i64 x.s, .int .i64 x.d]
/-- A list of them, flat. -/
def acctF (xs : List Acct) : List Int := xs.flatMap Acct.cs
theorem acctF_nil : acctF [] = [] := rfl
theorem acctF_cons (x : Acct) (xs : List Acct) : acctF (x :: xs) = x.cs ++ acctF xs := rfl
theorem acctF_app (xs ys : List Acct) : acctF (xs ++ ys) = acctF xs ++ acctF ys := List.flatMap_append
theorem acctF_len : ∀ (xs : List Acct), (acctF xs).length = xs.length * 5
  | [] => rfl
  | x :: xs => by rw [acctF_cons, List.length_append, acctF_len xs, List.length_cons]; simp only [Acct.cs, List.length_cons, List.length_nil]; omega
theorem acctF_at : ∀ {xs : List Acct} {k : Nat} {x : Acct}, xs[k]? = some x → (acctF xs)[k * 5]? = some x.p ∧ (acctF xs)[k * 5 + 1]? = some x.m ∧ (acctF xs)[k * 5 + 2]? = some x.l ∧ (acctF xs)[k * 5 + 3]? = some x.s ∧ (acctF xs)[k * 5 + 4]? = some x.d
  | [], k, x, h => by simp at h
  | y :: xs, 0, x, h => by
    obtain rfl : y = x := by simpa using h
    simp [acctF, Acct.cs]
  | y :: xs, k + 1, x, h => by
    have ih := acctF_at (xs := xs) (k := k) (x := x) (by simpa using h)
    rw [acctF_cons]
    refine ⟨?_, ?_, ?_, ?_, ?_⟩ <;> (rw [List.getElem?_append_right (by simp only [Acct.cs, List.length_cons, List.length_nil]; omega)]; simp only [Acct.cs, List.length_cons, List.length_nil])
    · rw [show (k + 1) * 5 - (0 + 1 + 1 + 1 + 1 + 1) = k * 5 from by omega]; exact ih.1
    · rw [show (k + 1) * 5 + 1 - (0 + 1 + 1 + 1 + 1 + 1) = k * 5 + 1 from by omega]; exact ih.2.1
    · rw [show (k + 1) * 5 + 2 - (0 + 1 + 1 + 1 + 1 + 1) = k * 5 + 2 from by omega]; exact ih.2.2.1
    · rw [show (k + 1) * 5 + 3 - (0 + 1 + 1 + 1 + 1 + 1) = k * 5 + 3 from by omega]; exact ih.2.2.2.1
    · rw [show (k + 1) * 5 + 4 - (0 + 1 + 1 + 1 + 1 + 1) = k * 5 + 4 from by omega]; exact ih.2.2.2.2
theorem acctF_of : ∀ (n : Nat) (zs : List Int), zs.length = n * 5 → ∃ xs : List Acct, zs = acctF xs ∧ xs.length = n
  | 0, zs, h => ⟨[], by have : zs = [] := List.length_eq_zero_iff.1 (by omega); rw [this]; rfl, rfl⟩
  | n + 1, zs, h => by
    match zs, h with
    | a0 :: a1 :: a2 :: a3 :: a4 :: zs, h =>
      obtain ⟨xs, rfl, hl⟩ := acctF_of n zs (by simp only [List.length_cons] at h; omega)
      exact ⟨⟨a0, a1, a2, a3, a4⟩ :: xs, rfl, by simp [hl]⟩
    | [], h | [_], h | [_, _], h | [_, _, _], h | [_, _, _, _], h => simp at h <;> omega
theorem acctF_inj : ∀ {xs ys : List Acct}, acctF xs = acctF ys → xs = ys
  | [], [], _ => rfl
  | [], y :: ys, h => by simp [acctF, Acct.cs] at h
  | x :: xs, [], h => by simp [acctF, Acct.cs] at h
  | x :: xs, y :: ys, h => by
    rw [acctF_cons, acctF_cons] at h
    simp only [Acct.cs, List.cons_append, List.nil_append, List.cons.injEq] at h
    obtain ⟨h0, h1, h2, h3, h4, ht⟩ := h
    cases x; cases y
    simp_all only
    rw [acctF_inj ht]
theorem acctF_snoc {xs : List Acct} {k : Nat} {x : Acct} (h : xs[k]? = some x) : xs.take (k + 1) = xs.take k ++ [x] := by
  rw [List.take_add_one, h]; rfl
theorem acctF_drop (xs : List Acct) (j : Nat) : (acctF xs).drop (j * 5) = acctF (xs.drop j) := by
  induction j generalizing xs with
  | zero => simp
  | succ j ih =>
    cases xs with
    | nil => simp [acctF]
    | cons x xs =>
      rw [acctF_cons, show (j + 1) * 5 = j * 5 + 5 from by omega, ← List.drop_drop, List.drop_succ_cons, ← ih]
      rw [List.drop_drop, Nat.add_comm, ← List.drop_drop]
      rfl
theorem acctF_take (xs : List Acct) (j : Nat) : (acctF xs).take (j * 5) = acctF (xs.take j) := by
  induction j generalizing xs with
  | zero => simp [acctF]
  | succ j ih =>
    cases xs with
    | nil => simp [acctF]
    | cons x xs => rw [acctF_cons, List.take_succ_cons, acctF_cons, ← ih, show (j + 1) * 5 = j * 5 + 5 from by omega]; rfl
theorem Reads.acct {w : World} {B n : Nat} {A : Option Addr} {xs : List Acct} (h : Reads w B 5 A n ((acctF xs).map (Value.int .i64))) {k : Nat} (hk : k < n) :
    ∃ b o x, A = some ⟨b, o, none⟩ ∧ xs[k]? = some x ∧ w.cell? ⟨b, o + k * 5, none⟩ = some (.int .i64 x.p) ∧ w.cell? ⟨b, o + k * 5 + 1, none⟩ = some (.int .i64 x.m) ∧ w.cell? ⟨b, o + k * 5 + 2, none⟩ = some (.int .i64 x.l) ∧ w.cell? ⟨b, o + k * 5 + 3, none⟩ = some (.int .i64 x.s) ∧ w.cell? ⟨b, o + k * 5 + 4, none⟩ = some (.int .i64 x.d) := by
  obtain ⟨b, o, e, hr⟩ := h.row hk (by omega)
  have hl : (acctF xs).length = n * 5 := by simpa using h.1
  rw [acctF_len] at hl
  have hx : xs[k]? = some (xs[k]'(by omega)) := List.getElem?_eq_getElem (by omega)
  obtain ⟨c0, c1, c2, c3, c4⟩ := acctF_at hx
  refine ⟨b, o, _, e, hx, ?_, ?_, ?_, ?_, ?_⟩
  · obtain ⟨z, hz, hc⟩ := hr 0 (by omega); simp only [Nat.add_zero] at hz hc; rw [c0] at hz; injection hz with hz; subst hz; simpa only [Nat.add_assoc] using hc
  · obtain ⟨z, hz, hc⟩ := hr 1 (by omega); rw [c1] at hz; injection hz with hz; subst hz; simpa only [Nat.add_assoc] using hc
  · obtain ⟨z, hz, hc⟩ := hr 2 (by omega); rw [c2] at hz; injection hz with hz; subst hz; simpa only [Nat.add_assoc] using hc
  · obtain ⟨z, hz, hc⟩ := hr 3 (by omega); rw [c3] at hz; injection hz with hz; subst hz; simpa only [Nat.add_assoc] using hc
  · obtain ⟨z, hz, hc⟩ := hr 4 (by omega); rw [c4] at hz; injection hz with hz; subst hz; simpa only [Nat.add_assoc] using hc
theorem Reads.acctLen {w : World} {B n : Nat} {A : Option Addr} {xs : List Acct} (h : Reads w B 5 A n ((acctF xs).map (Value.int .i64))) : xs.length = n := by
  have hl : (acctF xs).length = n * 5 := by simpa using h.1
  rw [acctF_len] at hl
  omega
set_option maxHeartbeats 400000 in
theorem szAccountS_any (A : Option Addr) (n c : Nat) (hn : n ≤ maxLen) (w : World) :
    Calls Try.prog 20 #[.slice A n c, .int .i64 1048576] w fun e w' => e = .returned (.int .i64 (if n ≤ 1048576 then 1048576 - (n : Int) else -1)) ∧ w = w' := by
  unfold maxLen at hn
  by_cases h : n ≤ 1048576
  · go_enter Try.func20, Try.ntmps20
    go_wp2_with fail
    go_ret
    exact ⟨by simp, rfl⟩
  · go_enter Try.func20, Try.ntmps20
    go_wp2_with fail
    go_ret
    exact ⟨by simp, rfl⟩
set_option maxHeartbeats 1000000 in
theorem eqAccount_any (x y : Acct) (w : World) :
    Calls Try.prog 71 #[.agg #[.int .i64 x.p, .int .i64 x.m, .int .i64 x.l, .int .i64 x.s, .int .i64 x.d], .agg #[.int .i64 y.p, .int .i64 y.m, .int .i64 y.l, .int .i64 y.s, .int .i64 y.d]] w fun e w' => e = .returned (.bool (decide (x = y))) ∧ Below w.heap.size w w' := by
  go_enter Try.func71, Try.ntmps71
  go_wp2
  all_goals
    go_ret
    refine ⟨by cases x; cases y; simp_all, ?_⟩
    repeat (first | exact Below.refl _ _ | refine Below.alloc ?_ (by first | omega | (simp; done) | (simp; omega)) _ | refine Below.setCell ?_ (by first | omega | (simp; done) | (simp; omega)) _)
theorem infoAcct : (Try.prog.info? 25).map (fun i => (i.zero, i.size, i.bytes)) = some (some (.agg #[.int .i64 0, .int .i64 0, .int .i64 0, .int .i64 0, .int .i64 0]), 5, 40) := by kernel_rfl
theorem madeCells_acct (n : Nat) : (madeCells (Value.agg #[.int .i64 0, .int .i64 0, .int .i64 0, .int .i64 0, .int .i64 0]).cells (n * 5)).toList = (List.replicate (n * 5) (0 : Int)).map (Value.int .i64) := by
  unfold madeCells
  rw [Array.toList_map, Array.toList_range, List.map_replicate, List.eq_replicate_iff]
  refine ⟨by simp, fun b hb => ?_⟩
  obtain ⟨i, _, rfl⟩ := List.mem_map.1 hb
  have : i % 5 < 5 := Nat.mod_lt _ (by omega)
  show (#[Value.int .i64 0, Value.int .i64 0, Value.int .i64 0, Value.int .i64 0, Value.int .i64 0] : Array Value)[i % 5]! = _
  generalize i % 5 = r at this ⊢
  match r, this with
  | 0, _ => rfl
  | 1, _ => rfl
  | 2, _ => rfl
  | 3, _ => rfl
  | 4, _ => rfl
/-- make of a slice of n of them. -/
theorem makeAcct {ops : Array Oper} {rest : List Oper} {o : Oper} {a : Act} {Q : Exit → Act → World → Prop} (hgd : o.guard = none) (l c : Operand) (hop : o.op = Op.makeSlice 34 l c)
    {w0 w : World} (hb : Below w0.heap.size w0 w) (n : Nat) (hl : a.eval l = .int .i64 (n : Int)) (hc : a.eval c = .int .i64 (n : Int)) (hn : n ≤ 1099511627776)
    (h : ∀ g w', Acc w0 w' 25 5 (some ⟨g, 0, none⟩) n n (List.replicate (n * 5) 0) → Below w.heap.size w w' → wpList Try.prog ops Q rest (a.put o.dst (.slice (some ⟨g, 0, none⟩) n n)) w') : wpList Try.prog ops Q (o :: rest) a w := by
  obtain ⟨i, hi1, hi2, hi3, hi4⟩ := info_parts infoAcct
  refine wpList_make_full w hgd l c 34 hop w0.heap.size 25 i (.agg #[.int .i64 0, .int .i64 0, .int .i64 0, .int .i64 0, .int .i64 0]) 5 Try.underlying34 hi1 hi2 hi3 .i64 .i64 n n n hl hc rfl rfl (by rw [hi4]; omega) (by unfold maxLen; omega) hb.size ?_
  intro w' hown hg
  have hb' : Below w.heap.size w w' := ⟨hg.os, hg.tape, hg.output, hg.size, fun k hk => hg.block k hk (by simp)⟩
  refine h _ w' ⟨?_, ext_trans hb hb'⟩ hb'
  rw [← madeCells_acct]
  exact hown
theorem acct_set {xs : List Acct} {k n : Nat} {x : Acct} (hx : xs[k]? = some x) (hk : k < n) :
    (((((acctF (xs.take k) ++ List.replicate ((n - k) * 5) 0).set (k * 5) x.p).set (k * 5 + 1) x.m).set (k * 5 + 2) x.l).set (k * 5 + 3) x.s).set (k * 5 + 4) x.d = acctF (xs.take (k + 1)) ++ List.replicate ((n - (k + 1)) * 5) 0 := by
  have hl : (acctF (xs.take k)).length = k * 5 := by
    rw [acctF_len, List.length_take]
    have := (List.getElem?_eq_some_iff.1 hx).1
    congr 1; omega
  rw [acctF_snoc hx, acctF_app, show (n - k) * 5 = (n - (k + 1)) * 5 + 1 + 1 + 1 + 1 + 1 from by omega]
  simp only [List.replicate_succ, List.append_assoc]
  rw [List.set_append_right _ _ (by rw [hl]; omega), hl]; rw [List.set_append_right _ _ (by rw [hl]; omega), hl]; rw [List.set_append_right _ _ (by rw [hl]; omega), hl]; rw [List.set_append_right _ _ (by rw [hl]; omega), hl]; rw [List.set_append_right _ _ (by rw [hl]; omega), hl]
  simp only [Nat.sub_self, Nat.add_sub_cancel_left, List.set_cons_zero, List.set_cons_succ]
  rfl
set_option maxHeartbeats 2000000 in
theorem toAccountS_any (A : Option Addr) (n c B : Nat) (xs : List Acct) (w : World) (h : Reads w B 5 A n ((acctF xs).map (Value.int .i64))) (hB : B ≤ w.heap.size) (hn : n ≤ 1048576) :
    Calls Try.prog 22 #[.slice A n c] w fun e w' => GivesS 25 5 (acctF xs) w e w' := by
  have hl := h.acctLen
  have H := Lib.hid h
  have HL := Lib.hid hl
  clear h hl
  go_enter Try.func22, Try.ntmps22
  go_wp2_with (at_make; refine makeAcct rfl _ _ rfl (Below.refl _ _) n rfl rfl (by omega) ?_; intro g w1 hacc hbm)
  go_loopw [4] (fun i wr => ∃ j : Nat, i = .int .i64 j ∧ j ≤ n ∧ Acc w wr 25 5 (some ⟨g, 0, none⟩) n n (acctF (xs.take j) ++ List.replicate ((n - j) * 5) 0)) (fun i _ => n - (intOf i).toNat)
  case atStart => exact ⟨0, rfl, by omega, by simpa [acctF] using hacc⟩
  case round =>
    clear hacc hbm
    obtain ⟨j, rfl, hj, hacc⟩ := hrel
    by_cases hlt : j < n
    · have R := Lib.hid (H.out.below (hacc.ext.mono hB))
      obtain ⟨b, o, x, hAx, hx, hc0, hc1, hc2, hc3, hc4⟩ := R.out.acct hlt
      subst hAx
      have HX := Lib.hid hx
      have HA := Lib.hid hacc
      clear hx hacc
      go_wp2_with fail
      refine (toAccount_any _ _ _ _ _ _).mono ?_
      rintro e w2 ⟨rfl, hb2⟩
      have HA2 := Lib.hid (HA.out.later hb2)
      have hlen : (acctF (xs.take j) ++ List.replicate ((n - j) * 5) 0).length = n * 5 := HA.out.len
      clear hb2
      obtain ⟨z0, e0⟩ := at_some _ (show j * 5 < _ by rw [hlen]; omega)
      obtain ⟨z1, e1⟩ := at_some _ (show j * 5 + 1 < _ by rw [hlen]; omega)
      obtain ⟨z2, e2⟩ := at_some _ (show j * 5 + 2 < _ by rw [hlen]; omega)
      obtain ⟨z3, e3⟩ := at_some _ (show j * 5 + 3 < _ by rw [hlen]; omega)
      obtain ⟨z4, e4⟩ := at_some _ (show j * 5 + 4 < _ by rw [hlen]; omega)
      obtain ⟨k0, f0⟩ := HA2.out.cellAt e0
      obtain ⟨k1, f1⟩ := HA2.out.cellAt e1
      obtain ⟨k2, f2⟩ := HA2.out.cellAt e2
      obtain ⟨k3, f3⟩ := HA2.out.cellAt e3
      obtain ⟨k4, f4⟩ := HA2.out.cellAt e4
      clear hlen e0 e1 e2 e3 e4
      have s0 := HA2.out.set (j * 5) x.p
      have s1 := s0.set (j * 5 + 1) x.m
      have s2 := s1.set (j * 5 + 2) x.l
      have s3 := s2.set (j * 5 + 3) x.s
      have s4 := s3.set (j * 5 + 4) x.d
      rw [acct_set HX.out hlt] at s4
      have HS := Lib.hid s4
      clear s0 s1 s2 s3 s4
      go_wp2
      go_roundw
      case rel => exact ⟨j + 1, by go_num, by omega, HS.out⟩
      case measure => simp [intOf]; omega
    · have HA := Lib.hid hacc
      clear hacc
      have hj' : j = n := by omega
      subst hj'
      go_wp2
      go_ret
      refine ⟨_, _, _, rfl, ?_⟩
      have := HA.out
      rwa [Nat.sub_self, Nat.zero_mul, List.replicate_zero, List.append_nil, List.take_of_length_le (by have := HL.out; omega)] at this
/-- append to a slice of Accounts. -/
theorem appAcct {ops : Array Oper} {rest : List Oper} {o : Oper} {a : Act} {Q : Exit → Act → World → Prop} (hgd : o.guard = none) (s x : Operand)
    (ho : o.op = .call { callee := .builtin .append, args := #[s, x], argTypes := #[34, 34] })
    {w0 w : World} {A : Option Addr} {n c : Nat} {zs : List Int} (hs : a.eval s = .slice A n c) (hacc : Acc w0 w 25 5 A n c zs)
    {B m c2 : Nat} {A2 : Option Addr} {news : List Int} (hx : a.eval x = .slice A2 m c2) (hr : Reads w B 5 A2 m (news.map (Value.int .i64))) (hb : n + m ≤ 1099511627776)
    (h : ∀ A' c' w', Acc w0 w' 25 5 A' (n + m) c' (zs ++ news) → w.grownBy w' (Value.slice A n c).ownBlock → wpList Try.prog ops Q rest (a.put o.dst (.slice A' (n + m) c')) w') : wpList Try.prog ops Q (o :: rest) a w :=
  acc_app Try.underlying34 infoAcct rfl (by decide) hgd s x ho hs hacc hx hr (by unfold maxLen; omega) (by omega) h
theorem appAcct_step {ops : Array Oper} {o : Oper} {a : Act} {K : Act → World → Prop} {Q : Exit → Act → World → Prop} {F : Prop} (hgd : o.guard = none) (s x : Operand)
    (ho : o.op = .call { callee := .builtin .append, args := #[s, x], argTypes := #[34, 34] })
    {w0 w : World} {A : Option Addr} {n c : Nat} {zs : List Int} (hs : a.eval s = .slice A n c) (hacc : Acc w0 w 25 5 A n c zs)
    {B m c2 : Nat} {A2 : Option Addr} {news : List Int} (hx : a.eval x = .slice A2 m c2) (hr : Reads w B 5 A2 m (news.map (Value.int .i64))) (hb : n + m ≤ 1099511627776)
    (h : ∀ A' c' w', Acc w0 w' 25 5 A' (n + m) c' (zs ++ news) → w.grownBy w' (Value.slice A n c).ownBlock → K (a.put o.dst (.slice A' (n + m) c')) w') : if Region.wanted o (yielded ops a.tmps) = true then Oper.wp Try.prog o a w K Q else F :=
  acc_app_step Try.underlying34 infoAcct rfl (by decide) hgd s x ho hs hacc hx hr (by unfold maxLen; omega) (by omega) h
theorem appAcct_b {ops : Array Oper} {rest : List Oper} {o : Oper} {a : Act} {Q : Exit → Act → World → Prop} (hgd : o.guard = none) (s x : Operand)
    (ho : o.op = .call { callee := .builtin .append, args := #[s, x], argTypes := #[34, 34] })
    {w0 w : World} {A : Option Addr} {n c : Nat} {zs : List Int} (hs : a.eval s = .slice A n c) (hacc : Acc w0 w 25 5 A n c zs)
    {B m c2 : Nat} {A2 : Option Addr} {news : List Int} (hx : a.eval x = .slice A2 m c2) (hr : Reads w B 5 A2 m (news.map (Value.int .i64))) (hb : n + m ≤ 1099511627776)
    (h : ∀ A' c' w', Acc w0 w' 25 5 A' (n + m) c' (zs ++ news) → Pushed w w' A A' → wpList Try.prog ops Q rest (a.put o.dst (.slice A' (n + m) c')) w') : wpList Try.prog ops Q (o :: rest) a w :=
  acc_app_b Try.underlying34 infoAcct rfl (by decide) hgd s x ho hs hacc hx hr (by unfold maxLen; omega) (by omega) h
theorem appAcct_b_step {ops : Array Oper} {o : Oper} {a : Act} {K : Act → World → Prop} {Q : Exit → Act → World → Prop} {F : Prop} (hgd : o.guard = none) (s x : Operand)
    (ho : o.op = .call { callee := .builtin .append, args := #[s, x], argTypes := #[34, 34] })
    {w0 w : World} {A : Option Addr} {n c : Nat} {zs : List Int} (hs : a.eval s = .slice A n c) (hacc : Acc w0 w 25 5 A n c zs)
    {B m c2 : Nat} {A2 : Option Addr} {news : List Int} (hx : a.eval x = .slice A2 m c2) (hr : Reads w B 5 A2 m (news.map (Value.int .i64))) (hb : n + m ≤ 1099511627776)
    (h : ∀ A' c' w', Acc w0 w' 25 5 A' (n + m) c' (zs ++ news) → Pushed w w' A A' → K (a.put o.dst (.slice A' (n + m) c')) w') : if Region.wanted o (yielded ops a.tmps) = true then Oper.wp Try.prog o a w K Q else F :=
  acc_app_b_step Try.underlying34 infoAcct rfl (by decide) hgd s x ho hs hacc hx hr (by unfold maxLen; omega) (by omega) h
set_option maxHeartbeats 2000000 in
theorem eqAccountS_any (A1 A2 : Option Addr) (n1 n2 c1 c2 B1 B2 : Nat) (xs ys : List Acct) (w : World) (h1 : Reads w B1 5 A1 n1 ((acctF xs).map (Value.int .i64))) (h2 : Reads w B2 5 A2 n2 ((acctF ys).map (Value.int .i64))) (hB1 : B1 ≤ w.heap.size) (hB2 : B2 ≤ w.heap.size) (hn1 : n1 ≤ maxLen) (hn2 : n2 ≤ maxLen) :
    Calls Try.prog 24 #[.slice A1 n1 c1, .slice A2 n2 c2] w fun e w' => e = .returned (.bool (decide (xs = ys))) ∧ Below w.heap.size w w' := by
  unfold maxLen at hn1 hn2
  have l1 := h1.acctLen
  have l2 := h2.acctLen
  have H1 := Lib.hid h1
  have H2 := Lib.hid h2
  have L1 := Lib.hid l1
  have L2 := Lib.hid l2
  clear h1 h2 l1 l2
  by_cases hne : n1 = n2
  · subst hne
    go_enter Try.func24, Try.ntmps24
    go_wp2
    go_loopw [5] (fun i wr => ∃ j : Nat, i = .int .i64 j ∧ j ≤ n1 ∧ xs.take j = ys.take j ∧ Below w.heap.size w wr) (fun i _ => n1 - (intOf i).toNat)
    case atStart => exact ⟨0, rfl, by omega, by simp, Below.refl _ _⟩
    case round =>
      obtain ⟨j, rfl, hj, hh, hb⟩ := hrel
      have HH := Lib.hid hh
      clear hh
      have R1 := Lib.hid (H1.out.below (hb.mono hB1))
      have R2 := Lib.hid (H2.out.below (hb.mono hB2))
      by_cases hlt : j < n1
      · have hj1 : (j : Int) < n1 := by omega
        have hj0 : (0 : Int) ≤ j := by omega
        obtain ⟨b, o, x, hAx, hx, hc0, hc1, hc2, hc3, hc4⟩ := R1.out.acct hlt
        obtain ⟨b2, o2, y, hAy, hy, hd0, hd1, hd2, hd3, hd4⟩ := R2.out.acct hlt
        subst hAx hAy
        have HX := Lib.hid hx
        have HY := Lib.hid hy
        clear hx hy
        cases he : decide (x = y)
        · go_wp2
          go_still_tail 8, (by kernel_rfl)
          go_wp2_with (go_at_call 71; refine (eqAccount_any x y _).mono ?_; rintro e w' ⟨rfl, hb'⟩)
          go_ret
          refine ⟨?_, ext_trans (ext_drew hb) hb'⟩
          rw [show decide (xs = ys) = false from ?_]
          · rfl
          · rw [decide_eq_false_iff_not] at he ⊢
            intro hxy
            have h1 := HX.out
            have h2 := HY.out
            rw [hxy] at h1
            exact he (Option.some.inj (h1.symm.trans h2))
        · go_wp2
          go_still_tail 8, (by kernel_rfl)
          go_wp2_with (go_at_call 71; refine (eqAccount_any x y _).mono ?_; rintro e w' ⟨rfl, hb'⟩)
          go_roundw
          case rel => exact ⟨j + 1, by go_num, by omega, by rw [acctF_snoc HX.out, acctF_snoc HY.out, HH.out, of_decide_eq_true he], ext_trans (ext_drew hb) hb'⟩
          case measure => simp [intOf]; omega
      · go_wp2
        go_ret
        have hf : decide (xs = ys) = true := by
          have hj' : j = n1 := by omega
          subst hj'
          have := HH.out
          rw [List.take_of_length_le (by have := L1.out; omega), List.take_of_length_le (by have := L2.out; omega)] at this
          rw [this]; exact decide_eq_true rfl
        exact ⟨by rw [hf]; rfl, hb⟩
  · have hne' : ((n1 : Int) == (n2 : Int)) = false := by simp; omega
    go_enter Try.func24, Try.ntmps24
    go_wp2
    go_ret
    have hf : decide (xs = ys) = false := by
      rw [decide_eq_false_iff_not]
      intro h
      have := L1.out
      have := L2.out
      rw [h] at *
      omega
    exact ⟨by rw [hf]; rfl, Below.refl _ _⟩
set_option maxHeartbeats 2000000 in
theorem markAccountS_any (A : Option Addr) (n c base : Nat) (zs : List Int) (k : Int) (w : World) (h : w.ownsRow base 25 5 (.slice A n c) n (zs.map (Value.int .i64))) (hn : (n : Int) ≤ 288230376151711744) (hk0 : 0 ≤ k) (hk : k ≤ 288230376151711744) :
    Calls Try.prog 35 #[.slice A n c, .int .i64 k] w fun e w' => e = .returned (.int .i64 (k + (n * 5 : Nat))) ∧ w'.ownsRow base 25 5 (.slice A n c) n ((marks k (n * 5)).map (Value.int .i64)) ∧ w.grownBy w' (Value.slice A n c).ownBlock := by
  have hl : zs.length = n * 5 := by simpa using h.1
  have H := Lib.hid h
  have HL := Lib.hid hl
  clear h hl
  go_enter Try.func35, Try.ntmps35
  go_wp2
  go_loopw [1, 5] (fun t i wr => ∃ j : Nat, i = .int .i64 j ∧ j ≤ n ∧ t = .int .i64 (k + ((j * 5 : Nat) : Int)) ∧ wr.ownsRow base 25 5 (.slice A n c) n ((marks k (j * 5) ++ zs.drop (j * 5)).map (Value.int .i64)) ∧ w.grownBy wr (Value.slice A n c).ownBlock) (fun _ i _ => n - (intOf i).toNat)
  case atStart => exact ⟨0, rfl, by omega, by simp, by simpa [marks] using H.out, World.grownBy.refl _ _⟩
  case round =>
    obtain ⟨j, rfl, hj, rfl, hown, hg⟩ := hrel
    by_cases hlt : j < n
    · obtain ⟨g, cap, hv, _, hgl⟩ := hown.form (by omega)
      have hA : A = some ⟨g, 0, none⟩ := by injection hv
      subst hA
      clear hv
      have hz := HL.out
      obtain ⟨z0, e0⟩ := mark_old k zs (j * 5) 0 (j * 5) rfl (by omega)
      obtain ⟨z1, e1⟩ := mark_old k zs (j * 5) 1 (j * 5 + 1) rfl (by omega)
      obtain ⟨z2, e2⟩ := mark_old k zs (j * 5) 2 (j * 5 + 2) rfl (by omega)
      obtain ⟨z3, e3⟩ := mark_old k zs (j * 5) 3 (j * 5 + 3) rfl (by omega)
      obtain ⟨z4, e4⟩ := mark_old k zs (j * 5) 4 (j * 5 + 4) rfl (by omega)
      have hc0 := hown.cellAt (j * 5) (by omega)
      rw [e0] at hc0
      have hc1 := hown.cellAt (j * 5 + 1) (by omega)
      rw [e1] at hc1
      have hc2 := hown.cellAt (j * 5 + 2) (by omega)
      rw [e2] at hc2
      have hc3 := hown.cellAt (j * 5 + 3) (by omega)
      rw [e3] at hc3
      have hc4 := hown.cellAt (j * 5 + 4) (by omega)
      rw [e4] at hc4
      have hf0 := hown.frozenAt (j * 5)
      have hf1 := hown.frozenAt (j * 5 + 1)
      have hf2 := hown.frozenAt (j * 5 + 2)
      have hf3 := hown.frozenAt (j * 5 + 3)
      have hf4 := hown.frozenAt (j * 5 + 4)
      have s0 := hown.stored (j * 5) (.int .i64 (k + ((j * 5 : Nat) : Int)))
      have s1 := s0.1.stored (j * 5 + 1) (.int .i64 (k + ((j * 5 + 1 : Nat) : Int)))
      have s2 := s1.1.stored (j * 5 + 2) (.int .i64 (k + ((j * 5 + 1 + 1 : Nat) : Int)))
      have s3 := s2.1.stored (j * 5 + 3) (.int .i64 (k + ((j * 5 + 1 + 1 + 1 : Nat) : Int)))
      have s4 := s3.1.stored (j * 5 + 4) (.int .i64 (k + ((j * 5 + 1 + 1 + 1 + 1 : Nat) : Int)))
      have HG := Lib.hid (grownBy_trans hg (grownBy_trans s0.2 (grownBy_trans s1.2 (grownBy_trans s2.2 (grownBy_trans s3.2 s4.2)))))
      have HS := Lib.hid s4.1
      clear hz e0 e1 e2 e3 e4 hown hg s0 s1 s2 s3 s4
      go_wp2
      go_roundw
      case rel =>
        refine ⟨j + 1, by go_num, by omega, by go_num, ?_, ?_⟩
        · rw [show (j + 1) * 5 = j * 5 + 1 + 1 + 1 + 1 + 1 from by omega, ← marks_setV k zs (j * 5 + 1 + 1 + 1 + 1) (by have := HL.out; omega), ← marks_setV k zs (j * 5 + 1 + 1 + 1) (by have := HL.out; omega), ← marks_setV k zs (j * 5 + 1 + 1) (by have := HL.out; omega), ← marks_setV k zs (j * 5 + 1) (by have := HL.out; omega), ← marks_setV k zs (j * 5) (by have := HL.out; omega)]
          have h := HS.out
          simp only [Int.natCast_add, Int.natCast_mul, Int.cast_ofNat_Int, ← Int.add_assoc] at h ⊢
          simpa only [Nat.add_assoc, Nat.reduceAdd] using h
        · have h := HG.out
          simp only [Int.natCast_add, Int.natCast_mul, Int.cast_ofNat_Int, ← Int.add_assoc] at h ⊢
          exact h
      case measure => simp [intOf]; omega
    · have HO := Lib.hid hown
      have HG := Lib.hid hg
      clear hown hg
      have hj' : j = n := by omega
      subst hj'
      go_wp2
      go_ret
      refine ⟨rfl, ?_, HG.out⟩
      have := HO.out
      rwa [List.drop_of_length_le (by have := HL.out; omega), List.append_nil] at this
set_option maxHeartbeats 2000000 in
theorem heldAccountS_any (A : Option Addr) (n c B : Nat) (k : Int) (w : World) (h : Reads w B 5 A n ((marks k (n * 5)).map (Value.int .i64))) (hn : (n : Int) ≤ 288230376151711744) (hk0 : 0 ≤ k) (hk : k ≤ 288230376151711744) :
    Calls Try.prog 36 #[.slice A n c, .int .i64 k] w fun e w' => e = .returned (.int .i64 (k + (n * 5 : Nat))) ∧ w = w' := by
  have H := Lib.hid h
  clear h
  go_enter Try.func36, Try.ntmps36
  go_wp2
  go_loop [1, 5] (fun t i => ∃ j : Nat, i = .int .i64 j ∧ j ≤ n ∧ t = .int .i64 (k + ((j * 5 : Nat) : Int))) (fun _ i => n - (intOf i).toNat)
  case atStart => exact ⟨0, rfl, by omega, by simp⟩
  case round =>
    obtain ⟨j, rfl, hj, rfl⟩ := hrel
    by_cases hlt : j < n
    · have hlt' := hlt
      obtain ⟨gx, ox, rfl, hrx⟩ := H.out.row hlt (by omega)
      obtain ⟨x0, hx0, hc0⟩ := hrx 0 (by omega)
      obtain ⟨x1, hx1, hc1⟩ := hrx 1 (by omega)
      obtain ⟨x2, hx2, hc2⟩ := hrx 2 (by omega)
      obtain ⟨x3, hx3, hc3⟩ := hrx 3 (by omega)
      obtain ⟨x4, hx4, hc4⟩ := hrx 4 (by omega)
      clear hrx
      simp only [Nat.add_zero, ← Nat.add_assoc] at hx0 hc0 hx1 hc1 hx2 hc2 hx3 hc3 hx4 hc4
      rw [marks_at (by omega)] at hx0
      injection hx0 with hx0
      subst hx0
      rw [marks_at (by omega)] at hx1
      injection hx1 with hx1
      subst hx1
      rw [marks_at (by omega)] at hx2
      injection hx2 with hx2
      subst hx2
      rw [marks_at (by omega)] at hx3
      injection hx3 with hx3
      subst hx3
      rw [marks_at (by omega)] at hx4
      injection hx4 with hx4
      subst hx4
      go_wp2
      go_round
      case rel => exact ⟨j + 1, by go_num, by omega, by go_num⟩
      case measure => simp [intOf]; omega
    · have hj' : j = n := by omega
      subst hj'
      go_wp2
      go_ret
      exact ⟨rfl, rfl⟩
end Go.Proofs.Ytbjmpllnkkfgfaa
