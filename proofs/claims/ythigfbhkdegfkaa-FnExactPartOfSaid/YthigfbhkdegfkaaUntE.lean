/- The laws' helpers on units and amounts: amounts copied, equal, marked, held; units equal. No condition. -/
import Derived.Test.YthigfbhkdegfkaaUntC
namespace Go.Proofs.Ythigfbhkdegfkaa
open Go.RowKit

/-- make of a slice of n numbers. -/
theorem makeInt {ops : Array Oper} {rest : List Oper} {o : Oper} {a : Act} {Q : Exit → Act → World → Prop} (hgd : o.guard = none) (l c : Operand) (hop : o.op = Op.makeSlice 23 l c)
    {w0 w : World} (hb : Below w0.heap.size w0 w) (n : Nat) (hl : a.eval l = .int .i64 (n : Int)) (hc : a.eval c = .int .i64 (n : Int)) (hn : n ≤ 1099511627776)
    (h : ∀ g w' vs, AccV w0 w' 3 1 (some ⟨g, 0, none⟩) n n vs → Below w.heap.size w w' → wpList Try.prog ops Q rest (a.put o.dst (.slice (some ⟨g, 0, none⟩) n n)) w') : wpList Try.prog ops Q (o :: rest) a w := by
  obtain ⟨i, hi1, hi2, hi3, hi4⟩ := info_parts infoI
  refine wpList_make_full w hgd l c 23 hop w0.heap.size 3 i (.int .i64 0) 1 Try.underlying23 hi1 hi2 hi3 .i64 .i64 n n n hl hc rfl rfl (by rw [hi4]; omega) (by unfold maxLen; omega) hb.size ?_
  intro w' hown hg
  have hb' : Below w.heap.size w w' := ⟨hg.os, hg.tape, hg.output, hg.size, fun k hk => hg.block k hk (by simp)⟩
  exact h _ w' _ ⟨hown, ext_trans hb hb'⟩ hb'
theorem int_set {zs : List Int} {k : Nat} {z : Int} {rest : List Value} (hz : zs[k]? = some z) (hr : 1 ≤ rest.length) :
    (((zs.take k).map (Value.int .i64)) ++ rest).set k (.int .i64 z) = ((zs.take (k + 1)).map (Value.int .i64)) ++ rest.drop 1 := by
  have hl : ((zs.take k).map (Value.int .i64)).length = k := by
    rw [List.length_map, List.length_take]
    have := (List.getElem?_eq_some_iff.1 hz).1
    omega
  match rest, hr with
  | a :: rest, _ =>
    rw [take_at hz, List.map_append, List.set_append_right _ _ (by rw [hl]; omega), hl]
    simp
set_option maxHeartbeats 2000000 in
theorem toIntS_any (A : Option Addr) (n c B : Nat) (zs : List Int) (w : World) (h : Reads w B 1 A n (zs.map (Value.int .i64))) (hB : B ≤ w.heap.size) (hn : n ≤ 1048576) :
    Calls Try.prog 42 #[.slice A n c] w fun e w' => ∃ (A' : Option Addr) (c' : Nat), e = .returned (.slice A' n c') ∧ Acc w w' 3 1 A' n c' zs := by
  have hl := h.len
  have H := Lib.hid h
  have HL := Lib.hid hl
  clear h hl
  go_enter Try.func42, Try.ntmps42
  go_wp2_with (at_make; refine makeInt rfl _ _ rfl (Below.refl _ _) n rfl rfl (by omega) ?_; intro g w1 vs hacc hbm)
  go_loopw [4] (fun i wr => ∃ (j : Nat) (rest : List Value), i = .int .i64 j ∧ j ≤ n ∧ rest.length = n - j ∧ AccV w wr 3 1 (some ⟨g, 0, none⟩) n n (((zs.take j).map (Value.int .i64)) ++ rest)) (fun i _ => n - (intOf i).toNat)
  case atStart => exact ⟨0, vs, rfl, by omega, by rw [hacc.len]; simp, by simpa using hacc⟩
  case round =>
    clear hacc hbm
    obtain ⟨j, rest, rfl, hj, hrl, hacc⟩ := hrel
    have j0 : (0 : Int) ≤ j := by omega
    by_cases hlt : j < n
    · have j1 : (j : Int) < n := by omega
      have R := Lib.hid (H.out.below (hacc.ext.mono hB))
      obtain ⟨b, o, z, hAx, hz, hc0⟩ := R.out.int hlt
      subst hAx
      have HZ := Lib.hid hz
      have hlen : (((zs.take j).map (Value.int .i64)) ++ rest).length = n * 1 := hacc.len
      have hr1 : 1 ≤ rest.length := by rw [hrl]; omega
      obtain ⟨z0, e0⟩ : ∃ y, (((zs.take j).map (Value.int .i64)) ++ rest)[j]? = some y := ⟨_, List.getElem?_eq_getElem (by rw [hlen]; omega)⟩
      obtain ⟨k0, f0⟩ := hacc.cellAt e0
      have s1 := hacc.set j (.int .i64 z)
      rw [int_set HZ.out hr1] at s1
      have HS := Lib.hid s1
      have HRL := Lib.hid (show (rest.drop 1).length = n - (j + 1) by rw [List.length_drop, hrl]; omega)
      clear hlen e0 s1 hrl hr1 hacc hz
      go_wp2
      go_roundw
      case rel => exact ⟨j + 1, _, by go_num, by omega, HRL.out, HS.out⟩
      case measure => simp [intOf]; omega
    · have HA := Lib.hid hacc
      have hr0 : rest = [] := List.eq_nil_of_length_eq_zero (by rw [hrl]; omega)
      have HR0 := Lib.hid hr0
      have HTK := Lib.hid (show zs.take j = zs by rw [List.take_of_length_le (by have := HL.out; omega)])
      clear hacc hrl hr0
      have hj' : j = n := by omega
      subst hj'
      go_wp2
      go_ret
      refine ⟨_, _, rfl, ?_⟩
      have h1 := HA.out
      rw [HR0.out, HTK.out, List.append_nil] at h1
      exact ⟨h1.own, h1.ext⟩
set_option maxRecDepth 100000 in
set_option maxHeartbeats 2000000 in
theorem toAmount_any (D : Option Addr) (m k B : Nat) (zs : List Int) (w : World) (h : Reads w B 1 D m (zs.map (Value.int .i64))) (hB : B ≤ w.heap.size) (hm : m ≤ 1048576) :
    Calls Try.prog 9 #[.agg #[.slice D m k]] w fun e w' => ∃ (A' : Option Addr) (c' : Nat), e = .returned (.agg #[.slice A' m c']) ∧ Acc w w' 3 1 A' m c' zs := by
  have hb := ext_alloc (ext_alloc (ext_alloc (Below.refl w.heap.size w) (.cells #[.slice D m k] 25)) (.cells #[.slice none 0 0] 28)) (.cells #[.slice none 0 0] 28)
  have hB2 := (Blk.new (w.alloc (.cells #[.slice D m k] 25)) 28 #[.slice none 0 0]).alloc (.cells #[.slice none 0 0] 28)
  have hB3 := Blk.new ((w.alloc (.cells #[.slice D m k] 25)).alloc (.cells #[.slice none 0 0] 28)) 28 #[.slice none 0 0]
  rw [show (w.alloc (.cells #[.slice D m k] 25)).heap.size = w.heap.size + 1 by simp] at hB2
  rw [show ((w.alloc (.cells #[.slice D m k] 25)).alloc (.cells #[.slice none 0 0] 28)).heap.size = w.heap.size + 1 + 1 by simp] at hB3
  generalize hw3 : ((w.alloc (.cells #[.slice D m k] 25)).alloc (.cells #[.slice none 0 0] 28)).alloc (.cells #[.slice none 0 0] 28) = w3 at hb hB2 hB3
  have HB := Lib.hid hb
  have HB2 := Lib.hid hB2
  have HB3 := Lib.hid hB3
  have HW := Lib.hid hw3
  have H := Lib.hid (h.below (hb.mono hB))
  have Z3 := Lib.hid (Nat.le_trans hB hb.size)
  clear hb hB2 hB3 hw3 h
  go_enter Try.func9, Try.ntmps9
  go_wp2_with fail
  rw [HW.out]
  refine (toIntS_any D m k B zs w3 H.out Z3.out hm).mono ?_
  rintro e w4 ⟨A', c', rfl, hacc⟩
  have k2 := HB2.out.below hacc.ext HB2.out.lt
  have k3 := HB3.out.below hacc.ext HB3.out.lt
  have x2 := k2.cell 0
  have f2 := k2.frozen 0
  have x3 := k3.cell 0
  have f3 := k3.frozen 0
  simp only [List.getElem?_toArray, List.getElem?_cons_zero] at x2 x3
  have K2 := Lib.hid k2
  have K3 := Lib.hid k3
  have HA := Lib.hid (hacc.since HB.out)
  clear k2 k3 hacc
  go_wp2_with fail
  have ag := HA.out
  have k2 := K2.out
  have ag := ag.setOther K3.out (by decide) (by omega) 0 (.slice A' m c')
  have k2 := k2.far (p := ⟨w.heap.size + 1 + 1, 0, none⟩) (by dsimp only; omega) (.slice A' m c')
  have ag := ag.setOther k2 (by decide) (by omega) 0 (.slice A' m c')
  have k2 := k2.set_ 0 (.slice A' m c')
  simp only [List.setIfInBounds_toArray, List.set_cons_zero] at k2
  generalize (w4.setCell ⟨w.heap.size + 1 + 1, 0, none⟩ (.slice A' m c')).setCell ⟨w.heap.size + 1, 0, none⟩ (.slice A' m c') = WZ at k2 ag ⊢
  have r0 := k2.cell 0
  simp only [List.getElem?_toArray, List.getElem?_cons_zero] at r0
  refine bodyPost_ret (v := .agg #[.slice A' m c']) (by simp [results, Try.results9, go_sem, r0]) rfl ?_
  exact ⟨A', c', rfl, ag⟩
end Go.Proofs.Ythigfbhkdegfkaa
