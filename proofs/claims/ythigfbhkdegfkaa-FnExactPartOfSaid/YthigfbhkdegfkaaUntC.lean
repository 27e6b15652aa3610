/- The laws' helpers on units and amounts: copies. No condition. -/
import Derived.Test.YthigfbhkdegfkaaUntL
namespace Go.Proofs.Ythigfbhkdegfkaa
open Go.RowKit

theorem AccV.set {w0 w : World} {E k n c g : Nat} {vs : List Value} (h : AccV w0 w E k (some ⟨g, 0, none⟩) n c vs) (j : Nat) (v : Value) : AccV w0 (w.setCell ⟨g, j, none⟩ v) E k (some ⟨g, 0, none⟩) n c (vs.set j v) :=
  ⟨(h.own.stored j v).1, ext_set h.ext (h.own.lt g rfl).1 _⟩
theorem AccV.cellAt {w0 w : World} {E k n c g : Nat} {vs : List Value} (h : AccV w0 w E k (some ⟨g, 0, none⟩) n c vs) {j : Nat} {v : Value} (hv : vs[j]? = some v) : w.cell? ⟨g, j, none⟩ = some v ∧ w.frozen? ⟨g, j, none⟩ = false := by
  have hj : j < n * k := by have := h.len; have := (List.getElem?_eq_some_iff.1 hv).1; omega
  exact ⟨by rw [h.own.cellAt j hj, hv], h.own.frozenAt j⟩
theorem unt_snoc {us : List Unt} {k : Nat} {x : Unt} (h : us[k]? = some x) : us.take (k + 1) = us.take k ++ [x] := by
  rw [List.take_add_one, h]; rfl
theorem unt_set {us : List Unt} {k : Nat} {x : Unt} {rest : List Value} (hx : us[k]? = some x) (hr : 2 ≤ rest.length) :
    ((untF (us.take k) ++ rest).set (k * 2) (.string x.nm)).set (k * 2 + 1) (.int .i64 x.sz) = untF (us.take (k + 1)) ++ rest.drop 2 := by
  have hl : (untF (us.take k)).length = k * 2 := by
    rw [untF_len, List.length_take]
    have := (List.getElem?_eq_some_iff.1 hx).1
    congr 1; omega
  match rest, hr with
  | a :: b :: rest, _ =>
    rw [unt_snoc hx, untF_app, List.set_append_right _ _ (by rw [hl]; omega), hl]
    rw [List.set_append_right _ _ (by rw [hl]; omega), hl]
    simp only [Nat.sub_self, Nat.add_sub_cancel_left, List.set_cons_zero, List.set_cons_succ, List.drop_succ_cons, List.drop_zero, List.append_assoc]
    rfl
set_option maxRecDepth 100000 in
set_option maxHeartbeats 2000000 in
theorem toUnit_any (x : Unt) (w : World) :
    Calls Try.prog 41 #[x.val] w fun e w' => e = .returned x.val ∧ Below w.heap.size w w' := by
  obtain ⟨nm, sz⟩ := x
  go_enter Try.func41, Try.ntmps41
  go_wp2
  refine bodyPost_ret (v := .agg #[.string nm, .int .i64 sz]) (by simp [results, Try.results41, go_sem]) rfl ⟨rfl, ?_⟩
  repeat (first | exact Below.refl _ _ | refine Below.alloc ?_ (by first | omega | (simp; done) | (simp; omega)) _ | refine Below.setCell ?_ (by first | omega | (simp; done) | (simp; omega)) _)
theorem infoUnt : (Try.prog.info? 52).map (fun i => (i.zero, i.size, i.bytes)) = some (some (.agg #[.string ⟨#[]⟩, .int .i64 0]), 2, 24) := by kernel_rfl
/-- make of a slice of n of them. -/
theorem makeUnt {ops : Array Oper} {rest : List Oper} {o : Oper} {a : Act} {Q : Exit → Act → World → Prop} (hgd : o.guard = none) (l c : Operand) (hop : o.op = Op.makeSlice 31 l c)
    {w0 w : World} (hb : Below w0.heap.size w0 w) (n : Nat) (hl : a.eval l = .int .i64 (n : Int)) (hc : a.eval c = .int .i64 (n : Int)) (hn : n ≤ 1099511627776)
    (h : ∀ g w' vs, AccV w0 w' 52 2 (some ⟨g, 0, none⟩) n n vs → Below w.heap.size w w' → wpList Try.prog ops Q rest (a.put o.dst (.slice (some ⟨g, 0, none⟩) n n)) w') : wpList Try.prog ops Q (o :: rest) a w := by
  obtain ⟨i, hi1, hi2, hi3, hi4⟩ := info_parts infoUnt
  refine wpList_make_full w hgd l c 31 hop w0.heap.size 52 i (.agg #[.string ⟨#[]⟩, .int .i64 0]) 2 Try.underlying31 hi1 hi2 hi3 .i64 .i64 n n n hl hc rfl rfl (by rw [hi4]; omega) (by unfold maxLen; omega) hb.size ?_
  intro w' hown hg
  have hb' : Below w.heap.size w w' := ⟨hg.os, hg.tape, hg.output, hg.size, fun k hk => hg.block k hk (by simp)⟩
  exact h _ w' _ ⟨hown, ext_trans hb hb'⟩ hb'
set_option maxHeartbeats 2000000 in
theorem toUnitS_any (A : Option Addr) (n c B : Nat) (us : List Unt) (w : World) (h : Reads w B 2 A n (untF us)) (hB : B ≤ w.heap.size) (hn : n ≤ 1048576) :
    Calls Try.prog 8 #[.slice A n c] w fun e w' => ∃ (A' : Option Addr) (c' : Nat), e = .returned (.slice A' n c') ∧ AccV w w' 52 2 A' n c' (untF us) := by
  have hl := h.untLen
  have H := Lib.hid h
  have HL := Lib.hid hl
  clear h hl
  go_enter Try.func8, Try.ntmps8
  go_wp2_with (at_make; refine makeUnt rfl _ _ rfl (Below.refl _ _) n rfl rfl (by omega) ?_; intro g w1 vs hacc hbm)
  go_loopw [4] (fun i wr => ∃ (j : Nat) (rest : List Value), i = .int .i64 j ∧ j ≤ n ∧ rest.length = (n - j) * 2 ∧ AccV w wr 52 2 (some ⟨g, 0, none⟩) n n (untF (us.take j) ++ rest)) (fun i _ => n - (intOf i).toNat)
  case atStart => exact ⟨0, vs, rfl, by omega, by rw [hacc.len]; simp, by simpa [untF] using hacc⟩
  case round =>
    clear hacc hbm
    obtain ⟨j, rest, rfl, hj, hrl, hacc⟩ := hrel
    by_cases hlt : j < n
    · have R := Lib.hid (H.out.below (hacc.ext.mono hB))
      obtain ⟨b, o, x, hAx, hx, hc0, hc1⟩ := R.out.unt hlt
      subst hAx
      have HX := Lib.hid hx
      have HA := Lib.hid hacc
      have HT := Lib.hid (toUnit_any x)
      clear hx hacc
      go_wp2_with fail
      refine (HT.out _).mono ?_
      rintro e w2 ⟨rfl, hb2⟩
      have HA2 := Lib.hid (HA.out.later hb2)
      have hlen : (untF (us.take j) ++ rest).length = n * 2 := HA.out.len
      have hr2 : 2 ≤ rest.length := by rw [hrl]; omega
      clear hb2
      obtain ⟨z0, e0⟩ : ∃ z, (untF (us.take j) ++ rest)[j * 2]? = some z := ⟨_, List.getElem?_eq_getElem (by rw [hlen]; omega)⟩
      obtain ⟨z1, e1⟩ : ∃ z, (untF (us.take j) ++ rest)[j * 2 + 1]? = some z := ⟨_, List.getElem?_eq_getElem (by rw [hlen]; omega)⟩
      obtain ⟨k0, f0⟩ := HA2.out.cellAt e0
      obtain ⟨k1, f1⟩ := HA2.out.cellAt e1
      have s1 := (HA2.out.set (j * 2) (.string x.nm)).set (j * 2 + 1) (.int .i64 x.sz)
      rw [unt_set HX.out hr2] at s1
      have HS := Lib.hid s1
      have HRL := Lib.hid (show (rest.drop 2).length = (n - (j + 1)) * 2 by rw [List.length_drop, hrl]; omega)
      clear hlen e0 e1 s1 hrl hr2
      go_wp2
      go_roundw
      case rel => exact ⟨j + 1, _, by go_num, by omega, HRL.out, HS.out⟩
      case measure => simp [intOf]; omega
    · have HA := Lib.hid hacc
      have hr0 : rest = [] := List.eq_nil_of_length_eq_zero (by rw [hrl]; omega)
      have HR0 := Lib.hid hr0
      have HTK := Lib.hid (show us.take j = us by rw [List.take_of_length_le (by have := HL.out; omega)])
      clear hacc hrl hr0
      have hj' : j = n := by omega
      subst hj'
      go_wp2
      go_ret
      refine ⟨_, _, rfl, ?_⟩
      have := HA.out
      rwa [HR0.out, HTK.out, List.append_nil] at this
end Go.Proofs.Ythigfbhkdegfkaa
