/- Slices of moves of beads, and the laws' helpers on them. No condition. -/
import Derived.Test.YtkgbcjiinicffaaAppend
import Derived.Test.YtkgbcjiinicffaaFrm
import Derived.StillTailTactics
namespace Go.Proofs.Ytkgbcjiinicffaa
open Go.RowKit

/-- Bmv: the numbers of a BeadMove. -/
structure Bmv where
  (r p b : Int)
deriving DecidableEq
def Bmv.cs (x : Bmv) : List Int := [x.r, x.p, x.b]
@[reducible] def Bmv.val (x : Bmv) : Value := .agg #[.int .i64 x.r, .int .i64 x.p, .int .i64 x.b]
/-- A list of them, flat. -/
def bmvF (xs : List Bmv) : List Int := xs.flatMap Bmv.cs
theorem bmvF_nil : bmvF [] = [] := rfl
theorem bmvF_cons (x : Bmv) (xs : List Bmv) : bmvF (x :: xs) = x.cs ++ bmvF xs := rfl
theorem bmvF_app (xs ys : List Bmv) : bmvF (xs ++ ys) = bmvF xs ++ bmvF ys := List.flatMap_append
theorem bmvF_len : ∀ (xs : List Bmv), (bmvF xs).length = xs.length * 3
  | [] => rfl
  | x :: xs => by rw [bmvF_cons, List.length_append, bmvF_len xs, List.length_cons]; simp only [Bmv.cs, List.length_cons, List.length_nil]; omega
theorem bmvF_at : ∀ {xs : List Bmv} {k : Nat} {x : Bmv}, xs[k]? = some x → (bmvF xs)[k * 3]? = some x.r ∧ (bmvF xs)[k * 3 + 1]? = some x.p ∧ (bmvF xs)[k * 3 + 2]? = some x.b
  | [], k, x, h => by simp at h
  | y :: xs, 0, x, h => by
    obtain rfl : y = x := by simpa using h
    simp [bmvF, Bmv.cs]
  | y :: xs, k + 1, x, h => by
    have ih := bmvF_at (xs := xs) (k := k) (x := x) (by simpa using h)
    rw [bmvF_cons]
    refine ⟨?_, ?_, ?_⟩ <;> (rw [List.getElem?_append_right (by simp only [Bmv.cs, List.length_cons, List.length_nil]; omega)]; simp only [Bmv.cs, List.length_cons, List.length_nil])
    · rw [show (k + 1) * 3 - (0 + 1 + 1 + 1) = k * 3 from by omega]; exact ih.1
    · rw [show (k + 1) * 3 + 1 - (0 + 1 + 1 + 1) = k * 3 + 1 from by omega]; exact ih.2.1
    · rw [show (k + 1) * 3 + 2 - (0 + 1 + 1 + 1) = k * 3 + 2 from by omega]; exact ih.2.2
theorem bmvF_of : ∀ (n : Nat) (zs : List Int), zs.length = n * 3 → ∃ xs : List Bmv, zs = bmvF xs ∧ xs.length = n
  | 0, zs, h => ⟨[], by have : zs = [] := List.length_eq_zero_iff.1 (by omega); rw [this]; rfl, rfl⟩
  | n + 1, zs, h => by
    match zs, h with
    | a0 :: a1 :: a2 :: zs, h =>
      obtain ⟨xs, rfl, hl⟩ := bmvF_of n zs (by simp only [List.length_cons] at h; omega)
      exact ⟨⟨a0, a1, a2⟩ :: xs, rfl, by simp [hl]⟩
    | [], h | [_], h | [_, _], h => simp at h <;> omega
theorem bmvF_inj : ∀ {xs ys : List Bmv}, bmvF xs = bmvF ys → xs = ys
  | [], [], _ => rfl
  | [], y :: ys, h => by simp [bmvF, Bmv.cs] at h
  | x :: xs, [], h => by simp [bmvF, Bmv.cs] at h
  | x :: xs, y :: ys, h => by
    rw [bmvF_cons, bmvF_cons] at h
    simp only [Bmv.cs, List.cons_append, List.nil_append, List.cons.injEq] at h
    obtain ⟨h0, h1, h2, ht⟩ := h
    cases x; cases y
    simp_all only
    rw [bmvF_inj ht]
theorem bmvF_snoc {xs : List Bmv} {k : Nat} {x : Bmv} (h : xs[k]? = some x) : xs.take (k + 1) = xs.take k ++ [x] := by
  rw [List.take_add_one, h]; rfl
theorem bmvF_drop (xs : List Bmv) (j : Nat) : (bmvF xs).drop (j * 3) = bmvF (xs.drop j) := by
  induction j generalizing xs with
  | zero => simp
  | succ j ih =>
    cases xs with
    | nil => simp [bmvF]
    | cons x xs =>
      rw [bmvF_cons, show (j + 1) * 3 = j * 3 + 3 from by omega, ← List.drop_drop, List.drop_succ_cons, ← ih]
      rw [List.drop_drop, Nat.add_comm, ← List.drop_drop]
      rfl
theorem bmvF_take (xs : List Bmv) (j : Nat) : (bmvF xs).take (j * 3) = bmvF (xs.take j) := by
  induction j generalizing xs with
  | zero => simp [bmvF]
  | succ j ih =>
    cases xs with
    | nil => simp [bmvF]
    | cons x xs => rw [bmvF_cons, List.take_succ_cons, bmvF_cons, ← ih, show (j + 1) * 3 = j * 3 + 3 from by omega]; rfl
theorem Reads.bmv {w : World} {B n : Nat} {A : Option Addr} {xs : List Bmv} (h : Reads w B 3 A n ((bmvF xs).map (Value.int .i64))) {k : Nat} (hk : k < n) :
    ∃ b o x, A = some ⟨b, o, none⟩ ∧ xs[k]? = some x ∧ w.cell? ⟨b, o + k * 3, none⟩ = some (.int .i64 x.r) ∧ w.cell? ⟨b, o + k * 3 + 1, none⟩ = some (.int .i64 x.p) ∧ w.cell? ⟨b, o + k * 3 + 2, none⟩ = some (.int .i64 x.b) := by
  obtain ⟨b, o, e, hr⟩ := h.row hk (by omega)
  have hl : (bmvF xs).length = n * 3 := by simpa using h.1
  rw [bmvF_len] at hl
  have hx : xs[k]? = some (xs[k]'(by omega)) := List.getElem?_eq_getElem (by omega)
  obtain ⟨c0, c1, c2⟩ := bmvF_at hx
  refine ⟨b, o, _, e, hx, ?_, ?_, ?_⟩
  · obtain ⟨z, hz, hc⟩ := hr 0 (by omega); simp only [Nat.add_zero] at hz hc; rw [c0] at hz; injection hz with hz; subst hz; simpa only [Nat.add_assoc] using hc
  · obtain ⟨z, hz, hc⟩ := hr 1 (by omega); rw [c1] at hz; injection hz with hz; subst hz; simpa only [Nat.add_assoc] using hc
  · obtain ⟨z, hz, hc⟩ := hr 2 (by omega); rw [c2] at hz; injection hz with hz; subst hz; simpa only [Nat.add_assoc] using hc
theorem Reads.bmvLen {w : World} {B n : Nat} {A : Option Addr} {xs : List Bmv} (h : Reads w B 3 A n ((bmvF xs).map (Value.int .i64))) : xs.length = n := by
  have hl : (bmvF xs).length = n * 3 := by simpa using h.1
  rw [bmvF_len] at hl
  omega
theorem infoBmv : (Try.prog.info? 63).map (fun i => (i.zero, i.size, i.bytes)) = some (some (.agg #[.int .i64 0, .int .i64 0, .int .i64 0]), 3, 24) := by kernel_rfl
set_option maxHeartbeats 1000000 in
theorem eqBeadMove_any (x y : Bmv) (w : World) :
    Calls Try.prog 50 #[.agg #[.int .i64 x.r, .int .i64 x.p, .int .i64 x.b], .agg #[.int .i64 y.r, .int .i64 y.p, .int .i64 y.b]] w fun e w' => e = .returned (.bool (decide (x = y))) ∧ Below w.heap.size w w' := by
  go_enter Try.func50, Try.ntmps50
  go_wp2
  all_goals
    go_ret
    refine ⟨by cases x; cases y; simp_all, ?_⟩
    repeat (first | exact Below.refl _ _ | refine Below.alloc ?_ (by first | omega | (simp; done) | (simp; omega)) _ | refine Below.setCell ?_ (by first | omega | (simp; done) | (simp; omega)) _)
/-- append to a slice of BeadMoves. -/
theorem appBmv {ops : Array Oper} {rest : List Oper} {o : Oper} {a : Act} {Q : Exit → Act → World → Prop} (hgd : o.guard = none) (s x : Operand)
    (ho : o.op = .call { callee := .builtin .append, args := #[s, x], argTypes := #[40, 40] })
    {w0 w : World} {A : Option Addr} {n c : Nat} {zs : List Int} (hs : a.eval s = .slice A n c) (hacc : Acc w0 w 63 3 A n c zs)
    {B m c2 : Nat} {A2 : Option Addr} {news : List Int} (hx : a.eval x = .slice A2 m c2) (hr : Reads w B 3 A2 m (news.map (Value.int .i64))) (hb : n + m ≤ 1099511627776)
    (h : ∀ A' c' w', Acc w0 w' 63 3 A' (n + m) c' (zs ++ news) → w.grownBy w' (Value.slice A n c).ownBlock → wpList Try.prog ops Q rest (a.put o.dst (.slice A' (n + m) c')) w') : wpList Try.prog ops Q (o :: rest) a w :=
  acc_app Try.underlying40 infoBmv rfl (by decide) hgd s x ho hs hacc hx hr (by unfold maxLen; omega) (by omega) h
theorem appBmv_step {ops : Array Oper} {o : Oper} {a : Act} {K : Act → World → Prop} {Q : Exit → Act → World → Prop} {F : Prop} (hgd : o.guard = none) (s x : Operand)
    (ho : o.op = .call { callee := .builtin .append, args := #[s, x], argTypes := #[40, 40] })
    {w0 w : World} {A : Option Addr} {n c : Nat} {zs : List Int} (hs : a.eval s = .slice A n c) (hacc : Acc w0 w 63 3 A n c zs)
    {B m c2 : Nat} {A2 : Option Addr} {news : List Int} (hx : a.eval x = .slice A2 m c2) (hr : Reads w B 3 A2 m (news.map (Value.int .i64))) (hb : n + m ≤ 1099511627776)
    (h : ∀ A' c' w', Acc w0 w' 63 3 A' (n + m) c' (zs ++ news) → w.grownBy w' (Value.slice A n c).ownBlock → K (a.put o.dst (.slice A' (n + m) c')) w') : if Region.wanted o (yielded ops a.tmps) = true then Oper.wp Try.prog o a w K Q else F :=
  acc_app_step Try.underlying40 infoBmv rfl (by decide) hgd s x ho hs hacc hx hr (by unfold maxLen; omega) (by omega) h
theorem appBmv_b {ops : Array Oper} {rest : List Oper} {o : Oper} {a : Act} {Q : Exit → Act → World → Prop} (hgd : o.guard = none) (s x : Operand)
    (ho : o.op = .call { callee := .builtin .append, args := #[s, x], argTypes := #[40, 40] })
    {w0 w : World} {A : Option Addr} {n c : Nat} {zs : List Int} (hs : a.eval s = .slice A n c) (hacc : Acc w0 w 63 3 A n c zs)
    {B m c2 : Nat} {A2 : Option Addr} {news : List Int} (hx : a.eval x = .slice A2 m c2) (hr : Reads w B 3 A2 m (news.map (Value.int .i64))) (hb : n + m ≤ 1099511627776)
    (h : ∀ A' c' w', Acc w0 w' 63 3 A' (n + m) c' (zs ++ news) → Pushed w w' A A' → wpList Try.prog ops Q rest (a.put o.dst (.slice A' (n + m) c')) w') : wpList Try.prog ops Q (o :: rest) a w :=
  acc_app_b Try.underlying40 infoBmv rfl (by decide) hgd s x ho hs hacc hx hr (by unfold maxLen; omega) (by omega) h
theorem appBmv_b_step {ops : Array Oper} {o : Oper} {a : Act} {K : Act → World → Prop} {Q : Exit → Act → World → Prop} {F : Prop} (hgd : o.guard = none) (s x : Operand)
    (ho : o.op = .call { callee := .builtin .append, args := #[s, x], argTypes := #[40, 40] })
    {w0 w : World} {A : Option Addr} {n c : Nat} {zs : List Int} (hs : a.eval s = .slice A n c) (hacc : Acc w0 w 63 3 A n c zs)
    {B m c2 : Nat} {A2 : Option Addr} {news : List Int} (hx : a.eval x = .slice A2 m c2) (hr : Reads w B 3 A2 m (news.map (Value.int .i64))) (hb : n + m ≤ 1099511627776)
    (h : ∀ A' c' w', Acc w0 w' 63 3 A' (n + m) c' (zs ++ news) → Pushed w w' A A' → K (a.put o.dst (.slice A' (n + m) c')) w') : if Region.wanted o (yielded ops a.tmps) = true then Oper.wp Try.prog o a w K Q else F :=
  acc_app_b_step Try.underlying40 infoBmv rfl (by decide) hgd s x ho hs hacc hx hr (by unfold maxLen; omega) (by omega) h
set_option maxHeartbeats 2000000 in
theorem eqBeadMoveS_any (A1 A2 : Option Addr) (n1 n2 c1 c2 B1 B2 : Nat) (xs ys : List Bmv) (w : World) (h1 : Reads w B1 3 A1 n1 ((bmvF xs).map (Value.int .i64))) (h2 : Reads w B2 3 A2 n2 ((bmvF ys).map (Value.int .i64))) (hB1 : B1 ≤ w.heap.size) (hB2 : B2 ≤ w.heap.size) (hn1 : n1 ≤ maxLen) (hn2 : n2 ≤ maxLen) :
    Calls Try.prog 29 #[.slice A1 n1 c1, .slice A2 n2 c2] w fun e w' => e = .returned (.bool (decide (xs = ys))) ∧ Below w.heap.size w w' := by
  unfold maxLen at hn1 hn2
  have l1 := h1.bmvLen
  have l2 := h2.bmvLen
  have H1 := Lib.hid h1
  have H2 := Lib.hid h2
  have L1 := Lib.hid l1
  have L2 := Lib.hid l2
  clear h1 h2 l1 l2
  by_cases hne : n1 = n2
  · subst hne
    go_enter Try.func29, Try.ntmps29
    go_wp2
    go_loopw [5] (fun i wr => ∃ j : Nat, i = .int .i64 j ∧ j ≤ n1 ∧ xs.take j = ys.take j ∧ Below w.heap.size w wr) (fun i _ => n1 - (intOf i).toNat)
    case atStart => exact ⟨0, rfl, by omega, by simp, Below.refl _ _⟩
    case round =>
      obtain ⟨j, rfl, hj, hh, hb⟩ := hrel
      have HH := Lib.hid hh
      clear hh
      have R1 := Lib.hid (H1.out.below (hb.mono hB1))
      have R2 := Lib.hid (H2.out.below (hb.mono hB2))
      by_cases hlt : j < n1
      · have hj1 : (j : Int) < n1 := by omega
        have hj0 : (0 : Int) ≤ j := by omega
        obtain ⟨b, o, x, hAx, hx, hc0, hc1, hc2⟩ := R1.out.bmv hlt
        obtain ⟨b2, o2, y, hAy, hy, hd0, hd1, hd2⟩ := R2.out.bmv hlt
        subst hAx hAy
        have HX := Lib.hid hx
        have HY := Lib.hid hy
        clear hx hy
        cases he : decide (x = y)
        · go_wp2
          go_still_tail 8, (by kernel_rfl)
          go_wp2_with (go_at_call 50; refine (eqBeadMove_any x y _).mono ?_; rintro e w' ⟨rfl, hb'⟩)
          go_ret
          refine ⟨?_, ext_trans (ext_drew hb) hb'⟩
          rw [show decide (xs = ys) = false from ?_]
          · rfl
          · rw [decide_eq_false_iff_not] at he ⊢
            intro hxy
            have h1 := HX.out
            have h2 := HY.out
            rw [hxy] at h1
            exact he (Option.some.inj (h1.symm.trans h2))
        · go_wp2
          go_still_tail 8, (by kernel_rfl)
          go_wp2_with (go_at_call 50; refine (eqBeadMove_any x y _).mono ?_; rintro e w' ⟨rfl, hb'⟩)
          go_roundw
          case rel => exact ⟨j + 1, by go_num, by omega, by rw [bmvF_snoc HX.out, bmvF_snoc HY.out, HH.out, of_decide_eq_true he], ext_trans (ext_drew hb) hb'⟩
          case measure => simp [intOf]; omega
      · go_wp2
        go_ret
        have hf : decide (xs = ys) = true := by
          have hj' : j = n1 := by omega
          subst hj'
          have := HH.out
          rw [List.take_of_length_le (by have := L1.out; omega), List.take_of_length_le (by have := L2.out; omega)] at this
          rw [this]; exact decide_eq_true rfl
        exact ⟨by rw [hf]; rfl, hb⟩
  · have hne' : ((n1 : Int) == (n2 : Int)) = false := by simp; omega
    go_enter Try.func29, Try.ntmps29
    go_wp2
    go_ret
    have hf : decide (xs = ys) = false := by
      rw [decide_eq_false_iff_not]
      intro h
      have := L1.out
      have := L2.out
      rw [h] at *
      omega
    exact ⟨by rw [hf]; rfl, Below.refl _ _⟩
set_option maxHeartbeats 2000000 in
theorem markBeadMoveS_any (A : Option Addr) (n c base : Nat) (zs : List Int) (k : Int) (w : World) (h : w.ownsRow base 63 3 (.slice A n c) n (zs.map (Value.int .i64))) (hn : (n : Int) ≤ 288230376151711744) (hk0 : 0 ≤ k) (hk : k ≤ 288230376151711744) :
    Calls Try.prog 30 #[.slice A n c, .int .i64 k] w fun e w' => e = .returned (.int .i64 (k + (n * 3 : Nat))) ∧ w'.ownsRow base 63 3 (.slice A n c) n ((marks k (n * 3)).map (Value.int .i64)) ∧ w.grownBy w' (Value.slice A n c).ownBlock := by
  have hl : zs.length = n * 3 := by simpa using h.1
  have H := Lib.hid h
  have HL := Lib.hid hl
  clear h hl
  go_enter Try.func30, Try.ntmps30
  go_wp2
  go_loopw [1, 5] (fun t i wr => ∃ j : Nat, i = .int .i64 j ∧ j ≤ n ∧ t = .int .i64 (k + ((j * 3 : Nat) : Int)) ∧ wr.ownsRow base 63 3 (.slice A n c) n ((marks k (j * 3) ++ zs.drop (j * 3)).map (Value.int .i64)) ∧ w.grownBy wr (Value.slice A n c).ownBlock) (fun _ i _ => n - (intOf i).toNat)
  case atStart => exact ⟨0, rfl, by omega, by simp, by simpa [marks] using H.out, World.grownBy.refl _ _⟩
  case round =>
    obtain ⟨j, rfl, hj, rfl, hown, hg⟩ := hrel
    by_cases hlt : j < n
    · obtain ⟨g, cap, hv, _, hgl⟩ := hown.form (by omega)
      have hA : A = some ⟨g, 0, none⟩ := by injection hv
      subst hA
      clear hv
      have hz := HL.out
      obtain ⟨z0, e0⟩ := mark_old k zs (j * 3) 0 (j * 3) rfl (by omega)
      obtain ⟨z1, e1⟩ := mark_old k zs (j * 3) 1 (j * 3 + 1) rfl (by omega)
      obtain ⟨z2, e2⟩ := mark_old k zs (j * 3) 2 (j * 3 + 2) rfl (by omega)
      have hc0 := hown.cellAt (j * 3) (by omega)
      rw [e0] at hc0
      have hc1 := hown.cellAt (j * 3 + 1) (by omega)
      rw [e1] at hc1
      have hc2 := hown.cellAt (j * 3 + 2) (by omega)
      rw [e2] at hc2
      have hf0 := hown.frozenAt (j * 3)
      have hf1 := hown.frozenAt (j * 3 + 1)
      have hf2 := hown.frozenAt (j * 3 + 2)
      have s0 := hown.stored (j * 3) (.int .i64 (k + ((j * 3 : Nat) : Int)))
      have s1 := s0.1.stored (j * 3 + 1) (.int .i64 (k + ((j * 3 + 1 : Nat) : Int)))
      have s2 := s1.1.stored (j * 3 + 2) (.int .i64 (k + ((j * 3 + 1 + 1 : Nat) : Int)))
      have HG := Lib.hid (grownBy_trans hg (grownBy_trans s0.2 (grownBy_trans s1.2 s2.2)))
      have HS := Lib.hid s2.1
      clear hz e0 e1 e2 hown hg s0 s1 s2
      go_wp2
      go_roundw
      case rel =>
        refine ⟨j + 1, by go_num, by omega, by go_num, ?_, ?_⟩
        · rw [show (j + 1) * 3 = j * 3 + 1 + 1 + 1 from by omega, ← marks_setV k zs (j * 3 + 1 + 1) (by have := HL.out; omega), ← marks_setV k zs (j * 3 + 1) (by have := HL.out; omega), ← marks_setV k zs (j * 3) (by have := HL.out; omega)]
          have h := HS.out
          simp only [Int.natCast_add, Int.natCast_mul, Int.cast_ofNat_Int, ← Int.add_assoc] at h ⊢
          simpa only [Nat.add_assoc, Nat.reduceAdd] using h
        · have h := HG.out
          simp only [Int.natCast_add, Int.natCast_mul, Int.cast_ofNat_Int, ← Int.add_assoc] at h ⊢
          exact h
      case measure => simp [intOf]; omega
    · have HO := Lib.hid hown
      have HG := Lib.hid hg
      clear hown hg
      have hj' : j = n := by omega
      subst hj'
      go_wp2
      go_ret
      refine ⟨rfl, ?_, HG.out⟩
      have := HO.out
      rwa [List.drop_of_length_le (by have := HL.out; omega), List.append_nil] at this
set_option maxHeartbeats 2000000 in
theorem heldBeadMoveS_any (A : Option Addr) (n c B : Nat) (k : Int) (w : World) (h : Reads w B 3 A n ((marks k (n * 3)).map (Value.int .i64))) (hn : (n : Int) ≤ 288230376151711744) (hk0 : 0 ≤ k) (hk : k ≤ 288230376151711744) :
    Calls Try.prog 31 #[.slice A n c, .int .i64 k] w fun e w' => e = .returned (.int .i64 (k + (n * 3 : Nat))) ∧ w = w' := by
  have H := Lib.hid h
  clear h
  go_enter Try.func31, Try.ntmps31
  go_wp2
  go_loop [1, 5] (fun t i => ∃ j : Nat, i = .int .i64 j ∧ j ≤ n ∧ t = .int .i64 (k + ((j * 3 : Nat) : Int))) (fun _ i => n - (intOf i).toNat)
  case atStart => exact ⟨0, rfl, by omega, by simp⟩
  case round =>
    obtain ⟨j, rfl, hj, rfl⟩ := hrel
    by_cases hlt : j < n
    · have hlt' := hlt
      obtain ⟨gx, ox, rfl, hrx⟩ := H.out.row hlt (by omega)
      obtain ⟨x0, hx0, hc0⟩ := hrx 0 (by omega)
      obtain ⟨x1, hx1, hc1⟩ := hrx 1 (by omega)
      obtain ⟨x2, hx2, hc2⟩ := hrx 2 (by omega)
      clear hrx
      simp only [Nat.add_zero, ← Nat.add_assoc] at hx0 hc0 hx1 hc1 hx2 hc2
      rw [marks_at (by omega)] at hx0
      injection hx0 with hx0
      subst hx0
      rw [marks_at (by omega)] at hx1
      injection hx1 with hx1
      subst hx1
      rw [marks_at (by omega)] at hx2
      injection hx2 with hx2
      subst hx2
      go_wp2
      go_round
      case rel => exact ⟨j + 1, by go_num, by omega, by go_num⟩
      case measure => simp [intOf]; omega
    · have hj' : j = n := by omega
      subst hj'
      go_wp2
      go_ret
      exact ⟨rfl, rfl⟩
end Go.Proofs.Ytkgbcjiinicffaa
