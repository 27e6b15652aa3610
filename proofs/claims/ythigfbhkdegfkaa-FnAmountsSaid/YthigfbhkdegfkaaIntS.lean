/- The laws' helpers on slices of numbers: equal, marked, held. No condition. -/
import Derived.Test.YthigfbhkdegfkaaSlices
namespace Go.Proofs.Ythigfbhkdegfkaa
open Go.RowKit

theorem Reads.grown {w w' : World} {B size n : Nat} {A : Option Addr} {xs : List Value} (h : Reads w B size A n xs) {row : Option Nat} (hg : w.grownBy w' row) (hB : B ≤ w.heap.size) (hr : ∀ g, row = some g → B ≤ g) : Reads w' B size A n xs :=
  h.keep fun p hp => World.cell?_of_block (hg.block p.block (by omega) (fun e => by have := hr _ e.symm; omega))

/-- k, k + 1, .. -/
def marks (k : Int) (n : Nat) : List Int := (List.range n).map fun i : Nat => k + (i : Int)
theorem marks_length (k : Int) (n : Nat) : (marks k n).length = n := by simp [marks]
theorem marks_at {k : Int} {n j : Nat} (h : j < n) : (marks k n)[j]? = some (k + (j : Int)) := by simp [marks, h]
theorem marks_set (k : Int) (zs : List Int) (j : Nat) (h : j < zs.length) : (marks k j ++ zs.drop j).set j (k + (j : Int)) = marks k (j + 1) ++ zs.drop (j + 1) := by
  rw [List.set_append, if_neg (by rw [marks_length]; omega), marks_length, Nat.sub_self, List.drop_eq_getElem_cons h, List.set_cons_zero]
  simp [marks, List.range_succ]
/-- The same, of values. -/
theorem marks_setV (k : Int) (zs : List Int) (j : Nat) (h : j < zs.length) :
    ((marks k j ++ zs.drop j).map (Value.int .i64)).set j (.int .i64 (k + (j : Int))) = (marks k (j + 1) ++ zs.drop (j + 1)).map (Value.int .i64) := by
  rw [← marks_set k zs j h, List.map_set]
theorem grownBy_trans {a b c : World} {row : Option Nat} (h : a.grownBy b row) (k : b.grownBy c row) : a.grownBy c row :=
  ⟨k.os.trans h.os, k.tape.trans h.tape, k.output.trans h.output, Nat.le_trans h.size k.size, fun i hi hn => (k.block i (Nat.lt_of_lt_of_le hi h.size) hn).trans (h.block i hi hn)⟩
theorem grownBy_drewN {a b : World} {row : Option Nat} (h : a.grownBy b row) (n : Nat) : a.grownBy (b.drewN n) row := ⟨h.os, h.tape, h.output, h.size, h.block⟩
theorem ownsRow_drewN {w : World} {base : Nat} {e : TypeId} {size : Nat} {v : Value} {n : Nat} {xs : List Value} (h : w.ownsRow base e size v n xs) (k : Nat) : (w.drewN k).ownsRow base e size v n xs := h
/-- What is owned stays owned while only new blocks come. -/
theorem own_below {w w' : World} {base : Nat} {e : TypeId} {size : Nat} {v : Value} {n : Nat} {xs : List Value} (h : w.ownsRow base e size v n xs) (hb : Below w.heap.size w w') : w'.ownsRow base e size v n xs :=
  h.kept (row := none) ⟨hb.os, hb.tape, hb.output, hb.size, fun i hi _ => hb.block i hi⟩ (by cases hv : v.ownBlock <;> simp)
/-- What has grown only at one of its own blocks: below. -/
theorem ext_grown {a b c : World} (h : Below a.heap.size a b) {row : Option Nat} (hg : b.grownBy c row) (hr : ∀ g, row = some g → a.heap.size ≤ g) : Below a.heap.size a c :=
  h.grown hg h.size hr

/-- Equal as lists? -/
def eqB (xs ys : List Int) : Bool := xs == ys
theorem eqB_self (xs : List Int) : eqB xs xs = true := by simp [eqB]

theorem eq_step {xs ys : List Int} {k : Nat} {x y : Int} (hx : xs[k]? = some x) (hy : ys[k]? = some y) (h : xs.take k = ys.take k) (he : (x == y) = true) : xs.take (k + 1) = ys.take (k + 1) := by
  rw [take_at hx, take_at hy, h]; simp at he; rw [he]
theorem eq_miss {xs ys : List Int} {k : Nat} {x y : Int} (hx : xs[k]? = some x) (hy : ys[k]? = some y) (he : (x == y) = false) : eqB xs ys = false := by
  simp only [beq_eq_false_iff_ne] at he
  unfold eqB
  rw [beq_eq_false_iff_ne]
  intro h
  rw [h, hy] at hx
  exact he (by injection hx with hx; exact hx.symm)
set_option maxHeartbeats 1000000 in
theorem eqIntS_any (A1 A2 : Option Addr) (n1 n2 c1 c2 B1 B2 : Nat) (xs ys : List Int) (w : World) (h1 : Reads w B1 1 A1 n1 (xs.map (Value.int .i64))) (h2 : Reads w B2 1 A2 n2 (ys.map (Value.int .i64))) (hn1 : n1 ≤ maxLen) (hn2 : n2 ≤ maxLen) :
    Calls Try.prog 46 #[.slice A1 n1 c1, .slice A2 n2 c2] w fun e w' => e = .returned (.bool (eqB xs ys)) ∧ ∃ m, w' = w.drewN m := by
  unfold maxLen at hn1 hn2
  have l1 := h1.len
  have l2 := h2.len
  have H1 := Lib.hid h1
  have H2 := Lib.hid h2
  have L1 := Lib.hid l1
  have L2 := Lib.hid l2
  clear h1 h2 l1 l2
  by_cases hne : n1 = n2
  · subst hne
    go_enter Try.func46, Try.ntmps46
    go_wp2
    go_loopw [5] (fun i wr => ∃ k m : Nat, i = .int .i64 k ∧ k ≤ n1 ∧ xs.take k = ys.take k ∧ wr = w.drewN m) (fun i _ => n1 - (intOf i).toNat)
    case atStart => exact ⟨0, 0, rfl, by omega, rfl, rfl⟩
    case round =>
      obtain ⟨k, m, rfl, hk, hh, rfl⟩ := hrel
      have HH := Lib.hid hh
      clear hh
      by_cases hlt : k < n1
      · obtain ⟨b, o, x, rfl, hx, hcell⟩ := H1.out.int hlt
        obtain ⟨b', o', y, rfl, hy, hcell'⟩ := H2.out.int hlt
        have HX := Lib.hid hx
        have HY := Lib.hid hy
        clear hx hy
        have hlt' : (k : Int) < n1 := by omega
        have hk0 : (0 : Int) ≤ k := by omega
        cases he : (x == y)
        · go_wp2
          go_quiet (fail)
          go_wp2
          go_ret
          exact ⟨by rw [eq_miss HX.out HY.out he]; rfl, _, World.drewN_drewN _ _ _⟩
        · go_wp2
          go_quiet (fail)
          go_wp2
          go_roundw
          case rel => exact ⟨k + 1, _, by go_num, by omega, eq_step HX.out HY.out HH.out he, rfl⟩
          case measure => simp [intOf]; omega
      · go_wp2
        go_ret
        have hf : eqB xs ys = true := by
          have := HH.out
          rw [List.take_of_length_le (by have := L1.out; omega), List.take_of_length_le (by have := L2.out; omega)] at this
          rw [this]; exact eqB_self _
        exact ⟨by rw [hf]; rfl, _, rfl⟩
  · have hne' : ((n1 : Int) == (n2 : Int)) = false := by simp; omega
    go_enter Try.func46, Try.ntmps46
    go_wp2
    go_ret
    have hf : eqB xs ys = false := by
      unfold eqB
      rw [beq_eq_false_iff_ne]
      intro h
      have := L1.out
      have := L2.out
      rw [h] at *
      omega
    exact ⟨by rw [hf]; rfl, 0, rfl⟩
set_option maxHeartbeats 1000000 in
theorem markIntS_any (A : Option Addr) (n c base : Nat) (zs : List Int) (k : Int) (w : World) (h : w.ownsRow base 3 1 (.slice A n c) n (zs.map (Value.int .i64))) (hn : (n : Int) ≤ 2305843009213693952) (hk0 : 0 ≤ k) (hk : k ≤ 2305843009213693952) :
    Calls Try.prog 49 #[.slice A n c, .int .i64 k] w fun e w' => e = .returned (.int .i64 (k + (n : Int))) ∧ w'.ownsRow base 3 1 (.slice A n c) n ((marks k n).map (Value.int .i64)) ∧ w.grownBy w' (Value.slice A n c).ownBlock := by
  have hl : zs.length = n := by simpa using h.1
  have H := Lib.hid h
  have HL := Lib.hid hl
  clear h hl
  go_enter Try.func49, Try.ntmps49
  go_wp2
  go_loopw [1, 5] (fun t i wr => ∃ j : Nat, i = .int .i64 j ∧ j ≤ n ∧ t = .int .i64 (k + (j : Int)) ∧ wr.ownsRow base 3 1 (.slice A n c) n ((marks k j ++ zs.drop j).map (Value.int .i64)) ∧ w.grownBy wr (Value.slice A n c).ownBlock) (fun _ i _ => n - (intOf i).toNat)
  case atStart => exact ⟨0, rfl, by omega, by simp, by simpa [marks] using H.out, World.grownBy.refl _ _⟩
  case round =>
    obtain ⟨j, rfl, hj, rfl, hown, hg⟩ := hrel
    have HO := Lib.hid hown
    have HG := Lib.hid hg
    by_cases hlt : j < n
    · obtain ⟨g, cap, hv, _, hgl⟩ := hown.form (by omega)
      have hA : A = some ⟨g, 0, none⟩ := by injection hv
      subst hA
      clear hv hg
      have hcell := hown.cellAt j (by omega)
      have hfr := hown.frozenAt j
      have hz : ((marks k j ++ zs.drop j).map (Value.int .i64))[j]? = some (.int .i64 (zs[j]'(by have := HL.out; omega))) := by
        have := HL.out
        rw [List.getElem?_map, List.getElem?_append_right (by rw [marks_length]; omega), marks_length]
        simp [List.getElem?_drop, show j < zs.length by omega]
      rw [hz] at hcell
      clear hz hown
      go_wp2
      go_roundw
      case rel =>
        have hs := HO.out.stored j (.int .i64 (k + (j : Int)))
        refine ⟨j + 1, by go_num, by omega, by go_num, ?_, grownBy_trans HG.out (by simpa [Value.ownBlock] using hs.2)⟩
        rw [← marks_setV k zs j (by have := HL.out; omega)]
        exact hs.1
      case measure => simp [intOf]; omega
    · clear hown hg
      have hj' : j = n := by omega
      subst hj'
      go_wp2
      go_ret
      refine ⟨rfl, ?_, HG.out⟩
      have := HO.out
      rwa [List.drop_of_length_le (by have := HL.out; omega), List.append_nil] at this
set_option maxHeartbeats 1000000 in
theorem heldIntS_any (A : Option Addr) (n c B : Nat) (k : Int) (w : World) (h : Reads w B 1 A n ((marks k n).map (Value.int .i64))) (hn : (n : Int) ≤ 2305843009213693952) (hk0 : 0 ≤ k) (hk : k ≤ 2305843009213693952) :
    Calls Try.prog 50 #[.slice A n c, .int .i64 k] w fun e w' => e = .returned (.int .i64 (k + (n : Int))) ∧ w = w' := by
  have H := Lib.hid h
  clear h
  go_enter Try.func50, Try.ntmps50
  go_wp2
  go_loop [1, 5] (fun t i => ∃ j : Nat, i = .int .i64 j ∧ j ≤ n ∧ t = .int .i64 (k + (j : Int))) (fun _ i => n - (intOf i).toNat)
  case atStart => exact ⟨0, rfl, by omega, by simp⟩
  case round =>
    obtain ⟨j, rfl, hj, rfl⟩ := hrel
    by_cases hlt : j < n
    · obtain ⟨b, o, x, rfl, hx, hcell⟩ := H.out.int hlt
      rw [marks_at hlt] at hx
      injection hx with hx
      subst hx
      go_wp2
      go_round
      case rel => exact ⟨j + 1, by go_num, by omega, by go_num⟩
      case measure => simp [intOf]; omega
    · have hj' : j = n := by omega
      subst hj'
      go_wp2
      go_ret
      exact ⟨rfl, rfl⟩
end Go.Proofs.Ythigfbhkdegfkaa
