/- An amount in another system: walks on both sides. No condition. -/
import Derived.Test.YthigfbhkdegfkaaTim
import Derived.Test.YthigfbhkdegfkaaHeld
import Derived.Deep.CutRange
namespace Go.Proofs.Ythigfbhkdegfkaa
open Go.RowKit

def cnvV (us : List Unt) (zs : List Int) (vs : List Unt) (p q : Int) : List Int × Bool := if (amtB us zs && (sysB vs && (inB p 1 10000 && inB q 1 10000))) = true then (propV vs (valR us zs * p / q), propOk vs (valR us zs * p / q)) else ([], false)
theorem parts_eq {V p q : Int} (hq : 0 < q) : V / q * p + V % q * p / q = V * p / q := by
  have e : V * p = V % q * p + q * (V / q * p) := by
    have h := Int.mul_ediv_add_emod V q
    have h2 : (q * (V / q) + V % q) * p = V * p := by rw [h]
    rw [Int.add_mul, Int.mul_assoc] at h2
    omega
  rw [e, Int.add_mul_ediv_left _ _ (by omega)]
  omega
set_option maxRecDepth 100000 in
set_option maxHeartbeats 16000000 in
theorem iConvertTo_any (A : Option Addr) (n c B : Nat) (us : List Unt) (D : Option Addr) (m k B2 : Nat) (zs : List Int) (A3 : Option Addr) (n3 c3 B3 : Nat) (vs : List Unt) (p q : Int) (w : World) (h : Reads w B 2 A n (untF us)) (hB : B ≤ w.heap.size) (hn : n ≤ 1048576) (hnm : ∀ x ∈ us, x.nm.size ≤ 1048576)
    (h2 : Reads w B2 1 D m (zs.map (Value.int .i64))) (hB2 : B2 ≤ w.heap.size) (hm : m ≤ 1048576) (h3 : Reads w B3 2 A3 n3 (untF vs)) (hB3 : B3 ≤ w.heap.size) (hn3 : n3 ≤ 1048576) (hnm3 : ∀ x ∈ vs, x.nm.size ≤ 1048576) (hc : n ≤ c) (hc2 : c ≤ maxLen) (hc3 : n3 ≤ c3) (hc4 : c3 ≤ maxLen) :
    Calls Try.prog 27 #[.slice A n c, .agg #[.slice D m k], .slice A3 n3 c3, .int .i64 p, .int .i64 q] w fun e w' => ∃ (a1 : Option Addr) (m1 k1 : Nat), e = .returned (.tuple #[.agg #[.slice a1 m1 k1], .bool (cnvV us zs vs p q).2]) ∧ Acc w w' 3 1 a1 m1 k1 (cnvV us zs vs p q).1 := by
  have hl := h.untLen
  have hl2 := h2.len
  have hb := ext_alloc (ext_alloc (Below.refl w.heap.size w) (.cells #[.slice D m k] 28)) (.cells #[.slice none 0 0] 28)
  have hk4 := (Blk.new w 28 #[.slice D m k]).alloc (.cells #[.slice none 0 0] 28)
  have hk6 := Blk.new (w.alloc (.cells #[.slice D m k] 28)) 28 #[.slice none 0 0]
  rw [show (w.alloc (.cells #[.slice D m k] 28)).heap.size = w.heap.size + 1 by simp] at hk6
  generalize hw1 : (w.alloc (.cells #[.slice D m k] 28)).alloc (.cells #[.slice none 0 0] 28) = w1 at hb hk4 hk6
  have K6 := Lib.hid hk6
  have HB := Lib.hid hb
  have K4 := Lib.hid hk4
  have HW := Lib.hid hw1
  have R1 := Lib.hid (h.below (hb.mono hB))
  have R2 := Lib.hid (h2.below (hb.mono hB2))
  have R3 := Lib.hid (h3.below (hb.mono hB3))
  have Z1 := Lib.hid (Nat.le_trans hB hb.size)
  have Z2 := Lib.hid (Nat.le_trans hB2 hb.size)
  have Z3 := Lib.hid (Nat.le_trans hB3 hb.size)
  have HQ := Lib.hid (iIsAmount_any A n c B us D m k B2 zs w1 R1.out Z1.out hn hnm hc hc2 R2.out Z2.out hm)
  have x0 := hk4.cell 0
  simp only [List.getElem?_toArray, List.getElem?_cons_zero] at x0
  clear h h2 h3 hb hk4 hk6 hw1
  cases ha : amtB us zs
  · rw [ha] at HQ
    have HO := Lib.hid (show cnvV us zs vs p q = ([], false) by unfold cnvV; rw [ha]; simp)
    go_enter Try.func27, Try.ntmps27
    go_wp2_with fail
    rw [HW.out]
    refine HQ.out.mono ?_
    rintro e w2 ⟨rfl, hb2⟩
    have k6 := K6.out.below hb2 K6.out.lt
    have ag := ext_trans HB.out hb2
    have R32 := Lib.hid (R3.out.below (hb2.mono Z3.out))
    have Z32 := Lib.hid (Nat.le_trans Z3.out hb2.size)
    have c6 := k6.cell 0
    have f6 := k6.frozen 0
    simp only [List.getElem?_toArray, List.getElem?_cons_zero] at c6
    have K6X := Lib.hid k6
    have AGX := Lib.hid ag
    clear k6 ag hb2
    go_wp2_with fail
    have k6 := K6X.out
    have ag := AGX.out
    have ag := ext_set ag (p := ⟨w.heap.size + 1, 0, none⟩) (by dsimp only; omega) (.slice none 0 0)
    have k6 := k6.set_ 0 (.slice none 0 0)
    simp only [List.setIfInBounds_toArray, List.set_cons_zero] at k6
    generalize World.setCell w2 ⟨w.heap.size + 1, 0, none⟩ (.slice none 0 0) = WZ at k6 ag ⊢
    have r0 := k6.cell 0
    simp only [List.getElem?_toArray, List.getElem?_cons_zero] at r0
    refine bodyPost_ret (v := .tuple #[.agg #[.slice none 0 0], .bool false]) (by simp [results, Try.results27, go_sem, r0]) rfl ?_
    exact ⟨none, 0, 0, by rw [HO.out], by rw [HO.out]; exact Acc.nil ag⟩
  · rw [ha] at HQ
    cases hs : sysB vs
    · have HSS := Lib.hid hs
      clear hs
      have HO := Lib.hid (show cnvV us zs vs p q = ([], false) by unfold cnvV; rw [HSS.out]; simp)
      go_enter Try.func27, Try.ntmps27
      go_wp2_with fail
      rw [HW.out]
      refine HQ.out.mono ?_
      rintro e w2 ⟨rfl, hb2⟩
      have k6 := K6.out.below hb2 K6.out.lt
      have ag := ext_trans HB.out hb2
      have R32 := Lib.hid (R3.out.below (hb2.mono Z3.out))
      have Z32 := Lib.hid (Nat.le_trans Z3.out hb2.size)
      have c6 := k6.cell 0
      have f6 := k6.frozen 0
      simp only [List.getElem?_toArray, List.getElem?_cons_zero] at c6
      have K6X := Lib.hid k6
      have AGX := Lib.hid ag
      clear k6 ag hb2
      go_wp2_with fail
      refine (iIsSystem_any A3 n3 c3 _ vs w2 R32.out Z32.out hn3 hnm3 hc3 hc4).mono ?_
      rintro e w3 ⟨rfl, hb3⟩
      rw [HSS.out]
      have k6 := K6X.out.below hb3 K6X.out.lt
      have ag := ext_trans AGX.out hb3
      have c6 := k6.cell 0
      have f6 := k6.frozen 0
      simp only [List.getElem?_toArray, List.getElem?_cons_zero] at c6
      have K6X := Lib.hid k6
      have AGX := Lib.hid ag
      clear k6 ag hb3
      go_wp2_with fail
      have k6 := K6X.out
      have ag := AGX.out
      have ag := ext_set ag (p := ⟨w.heap.size + 1, 0, none⟩) (by dsimp only; omega) (.slice none 0 0)
      have k6 := k6.set_ 0 (.slice none 0 0)
      simp only [List.setIfInBounds_toArray, List.set_cons_zero] at k6
      generalize World.setCell w3 ⟨w.heap.size + 1, 0, none⟩ (.slice none 0 0) = WZ at k6 ag ⊢
      have r0 := k6.cell 0
      simp only [List.getElem?_toArray, List.getElem?_cons_zero] at r0
      refine bodyPost_ret (v := .tuple #[.agg #[.slice none 0 0], .bool false]) (by simp [results, Try.results27, go_sem, r0]) rfl ?_
      exact ⟨none, 0, 0, by rw [HO.out], by rw [HO.out]; exact Acc.nil ag⟩
    · have HSS := Lib.hid hs
      clear hs
      cases hp : inB p 1 10000
      · have HPP := Lib.hid hp
        clear hp
        have HO := Lib.hid (show cnvV us zs vs p q = ([], false) by unfold cnvV; rw [HPP.out]; simp)
        go_enter Try.func27, Try.ntmps27
        go_wp2_with fail
        rw [HW.out]
        refine HQ.out.mono ?_
        rintro e w2 ⟨rfl, hb2⟩
        have k6 := K6.out.below hb2 K6.out.lt
        have ag := ext_trans HB.out hb2
        have R32 := Lib.hid (R3.out.below (hb2.mono Z3.out))
        have Z32 := Lib.hid (Nat.le_trans Z3.out hb2.size)
        have c6 := k6.cell 0
        have f6 := k6.frozen 0
        simp only [List.getElem?_toArray, List.getElem?_cons_zero] at c6
        have K6X := Lib.hid k6
        have AGX := Lib.hid ag
        clear k6 ag hb2
        go_wp2_with fail
        refine (iIsSystem_any A3 n3 c3 _ vs w2 R32.out Z32.out hn3 hnm3 hc3 hc4).mono ?_
        rintro e w3 ⟨rfl, hb3⟩
        rw [HSS.out]
        have k6 := K6X.out.below hb3 K6X.out.lt
        have ag := ext_trans AGX.out hb3
        have c6 := k6.cell 0
        have f6 := k6.frozen 0
        simp only [List.getElem?_toArray, List.getElem?_cons_zero] at c6
        have K6X := Lib.hid k6
        have AGX := Lib.hid ag
        clear k6 ag hb3
        go_wp2_with (go_at_call 43; refine (within_any _ _ _ _).mono ?_; rintro e w' ⟨rfl, rfl⟩; rw [HPP.out])
        have k6 := K6X.out
        have ag := AGX.out
        have ag := ext_set ag (p := ⟨w.heap.size + 1, 0, none⟩) (by dsimp only; omega) (.slice none 0 0)
        have k6 := k6.set_ 0 (.slice none 0 0)
        simp only [List.setIfInBounds_toArray, List.set_cons_zero] at k6
        generalize World.setCell w3 ⟨w.heap.size + 1, 0, none⟩ (.slice none 0 0) = WZ at k6 ag ⊢
        have r0 := k6.cell 0
        simp only [List.getElem?_toArray, List.getElem?_cons_zero] at r0
        refine bodyPost_ret (v := .tuple #[.agg #[.slice none 0 0], .bool false]) (by simp [results, Try.results27, go_sem, r0]) rfl ?_
        exact ⟨none, 0, 0, by rw [HO.out], by rw [HO.out]; exact Acc.nil ag⟩
      · have HPP := Lib.hid hp
        clear hp
        cases hq : inB q 1 10000
        · have HQQ := Lib.hid hq
          clear hq
          have HO := Lib.hid (show cnvV us zs vs p q = ([], false) by unfold cnvV; rw [HQQ.out]; simp)
          go_enter Try.func27, Try.ntmps27
          go_wp2_with fail
          rw [HW.out]
          refine HQ.out.mono ?_
          rintro e w2 ⟨rfl, hb2⟩
          have k6 := K6.out.below hb2 K6.out.lt
          have ag := ext_trans HB.out hb2
          have R32 := Lib.hid (R3.out.below (hb2.mono Z3.out))
          have Z32 := Lib.hid (Nat.le_trans Z3.out hb2.size)
          have c6 := k6.cell 0
          have f6 := k6.frozen 0
          simp only [List.getElem?_toArray, List.getElem?_cons_zero] at c6
          have K6X := Lib.hid k6
          have AGX := Lib.hid ag
          clear k6 ag hb2
          go_wp2_with fail
          refine (iIsSystem_any A3 n3 c3 _ vs w2 R32.out Z32.out hn3 hnm3 hc3 hc4).mono ?_
          rintro e w3 ⟨rfl, hb3⟩
          rw [HSS.out]
          have k6 := K6X.out.below hb3 K6X.out.lt
          have ag := ext_trans AGX.out hb3
          have c6 := k6.cell 0
          have f6 := k6.frozen 0
          simp only [List.getElem?_toArray, List.getElem?_cons_zero] at c6
          have K6X := Lib.hid k6
          have AGX := Lib.hid ag
          clear k6 ag hb3
          go_wp2_with (go_at_call 43; refine (within_any _ _ _ _).mono ?_; rintro e w' ⟨rfl, rfl⟩; first | rw [HPP.out] | rw [HQQ.out])
          have k6 := K6X.out
          have ag := AGX.out
          have ag := ext_set ag (p := ⟨w.heap.size + 1, 0, none⟩) (by dsimp only; omega) (.slice none 0 0)
          have k6 := k6.set_ 0 (.slice none 0 0)
          simp only [List.setIfInBounds_toArray, List.set_cons_zero] at k6
          generalize World.setCell w3 ⟨w.heap.size + 1, 0, none⟩ (.slice none 0 0) = WZ at k6 ag ⊢
          have r0 := k6.cell 0
          simp only [List.getElem?_toArray, List.getElem?_cons_zero] at r0
          refine bodyPost_ret (v := .tuple #[.agg #[.slice none 0 0], .bool false]) (by simp [results, Try.results27, go_sem, r0]) rfl ?_
          exact ⟨none, 0, 0, by rw [HO.out], by rw [HO.out]; exact Acc.nil ag⟩
        · have HQQ := Lib.hid hq
          clear hq
          have HO := Lib.hid (show cnvV us zs vs p q = (propV vs (valR us zs * p / q), propOk vs (valR us zs * p / q)) by unfold cnvV; rw [ha, HSS.out, HPP.out, HQQ.out]; rfl)
          obtain ⟨p0, p1⟩ := inB_true HPP.out
          obtain ⟨q0, q1⟩ := inB_true HQQ.out
          obtain ⟨v0, v1⟩ := val_bd ha
          have m0 : 0 ≤ valR us zs * p := Int.mul_nonneg v0 (by omega)
          have m1 : valR us zs * p ≤ 102000000000000 * 10000 := Int.mul_le_mul v1 p1 (by omega) (by omega)
          have hmu : IntKind.i64.wrap (valR us zs * p) = valR us zs * p := IntWalk.i64_in _ ⟨by omega, by omega⟩
          have hqz : ¬ q = 0 := by omega
          have hqu := wquo (x := valR us zs * p) (y := q) m0 (by omega) q0
          have hd1 : valR us zs * p / q ≤ 9223372036854775807 := by have := Int.ediv_le_self q m0; omega
          have HEQ := Lib.hid (parts_eq (V := valR us zs) (p := p) (q := q) (by omega))
          have hi := amt_in ha
          have hmn : n = m := by have := hi.len; omega
          subst hmn
          have HI := Lib.hid hi
          go_enter Try.func27, Try.ntmps27
          go_wp2_with fail
          rw [HW.out]
          refine HQ.out.mono ?_
          rintro e w2 ⟨rfl, hb2⟩
          have K62 := Lib.hid (K6.out.below hb2 K6.out.lt)
          have K42 := Lib.hid (K4.out.below hb2 K4.out.lt)
          have R12 := Lib.hid (R1.out.below (hb2.mono Z1.out))
          have R22 := Lib.hid (R2.out.below (hb2.mono Z2.out))
          have R32 := Lib.hid (R3.out.below (hb2.mono Z3.out))
          have Z12 := Lib.hid (Nat.le_trans Z1.out hb2.size)
          have Z22 := Lib.hid (Nat.le_trans Z2.out hb2.size)
          have Z32 := Lib.hid (Nat.le_trans Z3.out hb2.size)
          have HB2 := Lib.hid (ext_trans HB.out hb2)
          clear x0 hb2 hi ha
          go_wp2_with fail
          refine (iIsSystem_any A3 n3 c3 _ vs w2 R32.out Z32.out hn3 hnm3 hc3 hc4).mono ?_
          rintro e w3 ⟨rfl, hb3⟩
          rw [HSS.out]
          have K63 := Lib.hid (K62.out.below hb3 K62.out.lt)
          have R13 := Lib.hid (R12.out.below (hb3.mono Z12.out))
          have R23 := Lib.hid (R22.out.below (hb3.mono Z22.out))
          have R33 := Lib.hid (R32.out.below (hb3.mono Z32.out))
          have Z13 := Lib.hid (Nat.le_trans Z12.out hb3.size)
          have Z23 := Lib.hid (Nat.le_trans Z22.out hb3.size)
          have Z33 := Lib.hid (Nat.le_trans Z32.out hb3.size)
          have HB3 := Lib.hid (ext_trans HB2.out hb3)
          have y0 := (K42.out.below hb3 K42.out.lt).cell 0
          simp only [List.getElem?_toArray, List.getElem?_cons_zero] at y0
          clear hb3
          go_wp2_with (go_at_call 43; refine (within_any _ _ _ _).mono ?_; rintro e w' ⟨rfl, rfl⟩; first | rw [HPP.out] | rw [HQQ.out])
          refine (valueIn_any A n c _ us D k _ zs w3 R13.out Z13.out R23.out Z23.out HI.out).mono ?_
          rintro e w4 ⟨rfl, hb4⟩
          have K64 := Lib.hid (K63.out.below hb4 K63.out.lt)
          have R34 := Lib.hid (R33.out.below (hb4.mono Z33.out))
          have Z34 := Lib.hid (Nat.le_trans Z33.out hb4.size)
          have HB4 := Lib.hid (ext_trans HB3.out hb4)
          generalize valR us zs = V at *
          clear y0 hb4
          go_wp2_with fail
          refine (properOf_any A3 n3 c3 _ vs (V * p / q) w4 R34.out Z34.out HSS.out hd1).mono ?_
          rintro e w5 ⟨p1, m1, k1, rfl, acc1⟩
          have k6 := K64.out.below acc1.ext K64.out.lt
          have c6 := k6.cell 0
          have f6 := k6.frozen 0
          simp only [List.getElem?_toArray, List.getElem?_cons_zero] at c6
          have K6X := Lib.hid k6
          have AX := Lib.hid (acc1.since HB4.out)
          clear k6 acc1
          go_wp2_with fail
          have k6 := K6X.out
          have ag := AX.out.ext
          have a1 := AX.out
          have a1 := a1.setOther k6 (by decide) (by omega) 0 (.slice p1 m1 k1)
          have ag := ext_set ag (p := ⟨w.heap.size + 1, 0, none⟩) (by dsimp only; omega) (.slice p1 m1 k1)
          have k6 := k6.set_ 0 (.slice p1 m1 k1)
          simp only [List.setIfInBounds_toArray, List.set_cons_zero] at k6
          generalize World.setCell w5 ⟨w.heap.size + 1, 0, none⟩ (.slice p1 m1 k1) = WZ at k6 ag a1 ⊢
          have r0 := k6.cell 0
          simp only [List.getElem?_toArray, List.getElem?_cons_zero] at r0
          refine bodyPost_ret (v := .tuple #[.agg #[.slice p1 m1 k1], .bool (propOk vs (V * p / q))]) (by simp [results, Try.results27, go_sem, r0]) rfl ?_
          exact ⟨p1, m1, k1, by rw [HO.out], by rw [HO.out]; exact a1⟩
set_option maxRecDepth 100000 in
set_option maxHeartbeats 16000000 in
theorem sConvertTo_any (A : Option Addr) (n c B : Nat) (us : List Unt) (D : Option Addr) (m k B2 : Nat) (zs : List Int) (A3 : Option Addr) (n3 c3 B3 : Nat) (vs : List Unt) (p q : Int) (w : World) (h : Reads w B 2 A n (untF us)) (hB : B ≤ w.heap.size) (hn : n ≤ 1048576) (hnm : ∀ x ∈ us, x.nm.size ≤ 1048576)
    (h2 : Reads w B2 1 D m (zs.map (Value.int .i64))) (hB2 : B2 ≤ w.heap.size) (hm : m ≤ 1048576) (h3 : Reads w B3 2 A3 n3 (untF vs)) (hB3 : B3 ≤ w.heap.size) (hn3 : n3 ≤ 1048576) (hnm3 : ∀ x ∈ vs, x.nm.size ≤ 1048576) :
    Calls Try.prog 28 #[.slice A n c, .agg #[.slice D m k], .slice A3 n3 c3, .int .i64 p, .int .i64 q] w fun e w' => ∃ (a1 : Option Addr) (m1 k1 : Nat), e = .returned (.tuple #[.agg #[.slice a1 m1 k1], .bool (cnvV us zs vs p q).2]) ∧ Acc w w' 3 1 a1 m1 k1 (cnvV us zs vs p q).1 := by
  have hl := h.untLen
  have hl2 := h2.len
  have hb := ext_alloc (ext_alloc (Below.refl w.heap.size w) (.cells #[.slice D m k] 28)) (.cells #[.slice none 0 0] 28)
  have hk4 := (Blk.new w 28 #[.slice D m k]).alloc (.cells #[.slice none 0 0] 28)
  have hk6 := Blk.new (w.alloc (.cells #[.slice D m k] 28)) 28 #[.slice none 0 0]
  rw [show (w.alloc (.cells #[.slice D m k] 28)).heap.size = w.heap.size + 1 by simp] at hk6
  generalize hw1 : (w.alloc (.cells #[.slice D m k] 28)).alloc (.cells #[.slice none 0 0] 28) = w1 at hb hk4 hk6
  have K6 := Lib.hid hk6
  have HB := Lib.hid hb
  have K4 := Lib.hid hk4
  have HW := Lib.hid hw1
  have R1 := Lib.hid (h.below (hb.mono hB))
  have R2 := Lib.hid (h2.below (hb.mono hB2))
  have R3 := Lib.hid (h3.below (hb.mono hB3))
  have Z1 := Lib.hid (Nat.le_trans hB hb.size)
  have Z2 := Lib.hid (Nat.le_trans hB2 hb.size)
  have Z3 := Lib.hid (Nat.le_trans hB3 hb.size)
  have HQ := Lib.hid (l7Amount_any A n c B us D m k B2 zs w1 R1.out Z1.out hn hnm R2.out Z2.out hm)
  have x0 := hk4.cell 0
  simp only [List.getElem?_toArray, List.getElem?_cons_zero] at x0
  clear h h2 h3 hb hk4 hk6 hw1
  cases ha : amtB us zs
  · rw [ha] at HQ
    have HO := Lib.hid (show cnvV us zs vs p q = ([], false) by unfold cnvV; rw [ha]; simp)
    go_enter Try.func28, Try.ntmps28
    go_wp2_with fail
    rw [HW.out]
    refine HQ.out.mono ?_
    rintro e w2 ⟨rfl, hb2⟩
    have k6 := K6.out.below hb2 K6.out.lt
    have ag := ext_trans HB.out hb2
    have R32 := Lib.hid (R3.out.below (hb2.mono Z3.out))
    have Z32 := Lib.hid (Nat.le_trans Z3.out hb2.size)
    have c6 := k6.cell 0
    have f6 := k6.frozen 0
    simp only [List.getElem?_toArray, List.getElem?_cons_zero] at c6
    have K6X := Lib.hid k6
    have AGX := Lib.hid ag
    clear k6 ag hb2
    go_wp2_with fail
    have k6 := K6X.out
    have ag := AGX.out
    have ag := ext_set ag (p := ⟨w.heap.size + 1, 0, none⟩) (by dsimp only; omega) (.slice none 0 0)
    have k6 := k6.set_ 0 (.slice none 0 0)
    simp only [List.setIfInBounds_toArray, List.set_cons_zero] at k6
    generalize World.setCell w2 ⟨w.heap.size + 1, 0, none⟩ (.slice none 0 0) = WZ at k6 ag ⊢
    have r0 := k6.cell 0
    simp only [List.getElem?_toArray, List.getElem?_cons_zero] at r0
    refine bodyPost_ret (v := .tuple #[.agg #[.slice none 0 0], .bool false]) (by simp [results, Try.results28, go_sem, r0]) rfl ?_
    exact ⟨none, 0, 0, by rw [HO.out], by rw [HO.out]; exact Acc.nil ag⟩
  · rw [ha] at HQ
    cases hs : sysB vs
    · have HSS := Lib.hid hs
      clear hs
      have HO := Lib.hid (show cnvV us zs vs p q = ([], false) by unfold cnvV; rw [HSS.out]; simp)
      go_enter Try.func28, Try.ntmps28
      go_wp2_with fail
      rw [HW.out]
      refine HQ.out.mono ?_
      rintro e w2 ⟨rfl, hb2⟩
      have k6 := K6.out.below hb2 K6.out.lt
      have ag := ext_trans HB.out hb2
      have R32 := Lib.hid (R3.out.below (hb2.mono Z3.out))
      have Z32 := Lib.hid (Nat.le_trans Z3.out hb2.size)
      have c6 := k6.cell 0
      have f6 := k6.frozen 0
      simp only [List.getElem?_toArray, List.getElem?_cons_zero] at c6
      have K6X := Lib.hid k6
      have AGX := Lib.hid ag
      clear k6 ag hb2
      go_wp2_with fail
      refine (l7System_any A3 n3 c3 _ vs w2 R32.out Z32.out hn3 hnm3).mono ?_
      rintro e w3 ⟨rfl, hb3⟩
      rw [HSS.out]
      have k6 := K6X.out.below hb3 K6X.out.lt
      have ag := ext_trans AGX.out hb3
      have c6 := k6.cell 0
      have f6 := k6.frozen 0
      simp only [List.getElem?_toArray, List.getElem?_cons_zero] at c6
      have K6X := Lib.hid k6
      have AGX := Lib.hid ag
      clear k6 ag hb3
      go_wp2_with fail
      have k6 := K6X.out
      have ag := AGX.out
      have ag := ext_set ag (p := ⟨w.heap.size + 1, 0, none⟩) (by dsimp only; omega) (.slice none 0 0)
      have k6 := k6.set_ 0 (.slice none 0 0)
      simp only [List.setIfInBounds_toArray, List.set_cons_zero] at k6
      generalize World.setCell w3 ⟨w.heap.size + 1, 0, none⟩ (.slice none 0 0) = WZ at k6 ag ⊢
      have r0 := k6.cell 0
      simp only [List.getElem?_toArray, List.getElem?_cons_zero] at r0
      refine bodyPost_ret (v := .tuple #[.agg #[.slice none 0 0], .bool false]) (by simp [results, Try.results28, go_sem, r0]) rfl ?_
      exact ⟨none, 0, 0, by rw [HO.out], by rw [HO.out]; exact Acc.nil ag⟩
    · have HSS := Lib.hid hs
      clear hs
      cases hp : inB p 1 10000
      · have HPP := Lib.hid hp
        clear hp
        have HO := Lib.hid (show cnvV us zs vs p q = ([], false) by unfold cnvV; rw [HPP.out]; simp)
        go_enter Try.func28, Try.ntmps28
        go_wp2_with fail
        rw [HW.out]
        refine HQ.out.mono ?_
        rintro e w2 ⟨rfl, hb2⟩
        have k6 := K6.out.below hb2 K6.out.lt
        have ag := ext_trans HB.out hb2
        have R32 := Lib.hid (R3.out.below (hb2.mono Z3.out))
        have Z32 := Lib.hid (Nat.le_trans Z3.out hb2.size)
        have c6 := k6.cell 0
        have f6 := k6.frozen 0
        simp only [List.getElem?_toArray, List.getElem?_cons_zero] at c6
        have K6X := Lib.hid k6
        have AGX := Lib.hid ag
        clear k6 ag hb2
        go_wp2_with fail
        refine (l7System_any A3 n3 c3 _ vs w2 R32.out Z32.out hn3 hnm3).mono ?_
        rintro e w3 ⟨rfl, hb3⟩
        rw [HSS.out]
        have k6 := K6X.out.below hb3 K6X.out.lt
        have ag := ext_trans AGX.out hb3
        have c6 := k6.cell 0
        have f6 := k6.frozen 0
        simp only [List.getElem?_toArray, List.getElem?_cons_zero] at c6
        have K6X := Lib.hid k6
        have AGX := Lib.hid ag
        clear k6 ag hb3
        go_wp2_with (go_at_call 38; refine (l1In_any _ _ _ _).mono ?_; rintro e w' ⟨rfl, rfl⟩; rw [HPP.out])
        have k6 := K6X.out
        have ag := AGX.out
        have ag := ext_set ag (p := ⟨w.heap.size + 1, 0, none⟩) (by dsimp only; omega) (.slice none 0 0)
        have k6 := k6.set_ 0 (.slice none 0 0)
        simp only [List.setIfInBounds_toArray, List.set_cons_zero] at k6
        generalize World.setCell w3 ⟨w.heap.size + 1, 0, none⟩ (.slice none 0 0) = WZ at k6 ag ⊢
        have r0 := k6.cell 0
        simp only [List.getElem?_toArray, List.getElem?_cons_zero] at r0
        refine bodyPost_ret (v := .tuple #[.agg #[.slice none 0 0], .bool false]) (by simp [results, Try.results28, go_sem, r0]) rfl ?_
        exact ⟨none, 0, 0, by rw [HO.out], by rw [HO.out]; exact Acc.nil ag⟩
      · have HPP := Lib.hid hp
        clear hp
        cases hq : inB q 1 10000
        · have HQQ := Lib.hid hq
          clear hq
          have HO := Lib.hid (show cnvV us zs vs p q = ([], false) by unfold cnvV; rw [HQQ.out]; simp)
          go_enter Try.func28, Try.ntmps28
          go_wp2_with fail
          rw [HW.out]
          refine HQ.out.mono ?_
          rintro e w2 ⟨rfl, hb2⟩
          have k6 := K6.out.below hb2 K6.out.lt
          have ag := ext_trans HB.out hb2
          have R32 := Lib.hid (R3.out.below (hb2.mono Z3.out))
          have Z32 := Lib.hid (Nat.le_trans Z3.out hb2.size)
          have c6 := k6.cell 0
          have f6 := k6.frozen 0
          simp only [List.getElem?_toArray, List.getElem?_cons_zero] at c6
          have K6X := Lib.hid k6
          have AGX := Lib.hid ag
          clear k6 ag hb2
          go_wp2_with fail
          refine (l7System_any A3 n3 c3 _ vs w2 R32.out Z32.out hn3 hnm3).mono ?_
          rintro e w3 ⟨rfl, hb3⟩
          rw [HSS.out]
          have k6 := K6X.out.below hb3 K6X.out.lt
          have ag := ext_trans AGX.out hb3
          have c6 := k6.cell 0
          have f6 := k6.frozen 0
          simp only [List.getElem?_toArray, List.getElem?_cons_zero] at c6
          have K6X := Lib.hid k6
          have AGX := Lib.hid ag
          clear k6 ag hb3
          go_wp2_with (go_at_call 38; refine (l1In_any _ _ _ _).mono ?_; rintro e w' ⟨rfl, rfl⟩; first | rw [HPP.out] | rw [HQQ.out])
          have k6 := K6X.out
          have ag := AGX.out
          have ag := ext_set ag (p := ⟨w.heap.size + 1, 0, none⟩) (by dsimp only; omega) (.slice none 0 0)
          have k6 := k6.set_ 0 (.slice none 0 0)
          simp only [List.setIfInBounds_toArray, List.set_cons_zero] at k6
          generalize World.setCell w3 ⟨w.heap.size + 1, 0, none⟩ (.slice none 0 0) = WZ at k6 ag ⊢
          have r0 := k6.cell 0
          simp only [List.getElem?_toArray, List.getElem?_cons_zero] at r0
          refine bodyPost_ret (v := .tuple #[.agg #[.slice none 0 0], .bool false]) (by simp [results, Try.results28, go_sem, r0]) rfl ?_
          exact ⟨none, 0, 0, by rw [HO.out], by rw [HO.out]; exact Acc.nil ag⟩
        · have HQQ := Lib.hid hq
          clear hq
          have HO := Lib.hid (show cnvV us zs vs p q = (propV vs (valR us zs * p / q), propOk vs (valR us zs * p / q)) by unfold cnvV; rw [ha, HSS.out, HPP.out, HQQ.out]; rfl)
          obtain ⟨p0, p1⟩ := inB_true HPP.out
          obtain ⟨q0, q1⟩ := inB_true HQQ.out
          obtain ⟨v0, v1⟩ := val_bd ha
          have m0 : 0 ≤ valR us zs * p := Int.mul_nonneg v0 (by omega)
          have m1 : valR us zs * p ≤ 102000000000000 * 10000 := Int.mul_le_mul v1 p1 (by omega) (by omega)
          have hmu : IntKind.i64.wrap (valR us zs * p) = valR us zs * p := IntWalk.i64_in _ ⟨by omega, by omega⟩
          have hqz : ¬ q = 0 := by omega
          have hqu := wquo (x := valR us zs * p) (y := q) m0 (by omega) q0
          have hd1 : valR us zs * p / q ≤ 9223372036854775807 := by have := Int.ediv_le_self q m0; omega
          have HEQ := Lib.hid (parts_eq (V := valR us zs) (p := p) (q := q) (by omega))
          have hi := amt_in ha
          have hmn : n = m := by have := hi.len; omega
          subst hmn
          have HI := Lib.hid hi
          have a0 : 0 ≤ valR us zs / q := Int.ediv_nonneg v0 (by omega)
          have a1 : valR us zs / q ≤ valR us zs := Int.ediv_le_self q v0
          have b0 : 0 ≤ valR us zs % q := Int.emod_nonneg _ hqz
          have b1 : valR us zs % q ≤ 10000 := by have := Int.emod_lt_of_pos (valR us zs) (show 0 < q by omega); omega
          have c0 : 0 ≤ valR us zs / q * p := Int.mul_nonneg a0 (by omega)
          have c1 : valR us zs / q * p ≤ 102000000000000 * 10000 := Int.mul_le_mul (by omega) p1 (by omega) (by omega)
          have d0 : 0 ≤ valR us zs % q * p := Int.mul_nonneg b0 (by omega)
          have d1 : valR us zs % q * p ≤ 10000 * 10000 := Int.mul_le_mul (by omega) p1 (by omega) (by omega)
          have e0 : 0 ≤ valR us zs % q * p / q := Int.ediv_nonneg d0 (by omega)
          have e1 : valR us zs % q * p / q ≤ valR us zs % q * p := Int.ediv_le_self q d0
          have hw1 := wquo (x := valR us zs) (y := q) v0 (by omega) q0
          have hw2 := wrem (x := valR us zs) (y := q) v0
          have hw3 : IntKind.i64.wrap (valR us zs / q * p) = valR us zs / q * p := IntWalk.i64_in _ ⟨by omega, by omega⟩
          have hw4 : IntKind.i64.wrap (valR us zs % q * p) = valR us zs % q * p := IntWalk.i64_in _ ⟨by omega, by omega⟩
          have hw5 := wquo (x := valR us zs % q * p) (y := q) d0 (by omega) q0
          have hw6 : IntKind.i64.wrap (valR us zs / q * p + valR us zs % q * p / q) = valR us zs / q * p + valR us zs % q * p / q := IntWalk.i64_in _ ⟨by omega, by omega⟩
          have hd2 : valR us zs / q * p + valR us zs % q * p / q ≤ 9223372036854775807 := by omega
          go_enter Try.func28, Try.ntmps28
          go_wp2_with fail
          rw [HW.out]
          refine HQ.out.mono ?_
          rintro e w2 ⟨rfl, hb2⟩
          have K62 := Lib.hid (K6.out.below hb2 K6.out.lt)
          have K42 := Lib.hid (K4.out.below hb2 K4.out.lt)
          have R12 := Lib.hid (R1.out.below (hb2.mono Z1.out))
          have R22 := Lib.hid (R2.out.below (hb2.mono Z2.out))
          have R32 := Lib.hid (R3.out.below (hb2.mono Z3.out))
          have Z12 := Lib.hid (Nat.le_trans Z1.out hb2.size)
          have Z22 := Lib.hid (Nat.le_trans Z2.out hb2.size)
          have Z32 := Lib.hid (Nat.le_trans Z3.out hb2.size)
          have HB2 := Lib.hid (ext_trans HB.out hb2)
          clear x0 hb2 hi ha
          go_wp2_with fail
          refine (l7System_any A3 n3 c3 _ vs w2 R32.out Z32.out hn3 hnm3).mono ?_
          rintro e w3 ⟨rfl, hb3⟩
          rw [HSS.out]
          have K63 := Lib.hid (K62.out.below hb3 K62.out.lt)
          have R13 := Lib.hid (R12.out.below (hb3.mono Z12.out))
          have R23 := Lib.hid (R22.out.below (hb3.mono Z22.out))
          have R33 := Lib.hid (R32.out.below (hb3.mono Z32.out))
          have Z13 := Lib.hid (Nat.le_trans Z12.out hb3.size)
          have Z23 := Lib.hid (Nat.le_trans Z22.out hb3.size)
          have Z33 := Lib.hid (Nat.le_trans Z32.out hb3.size)
          have HB3 := Lib.hid (ext_trans HB2.out hb3)
          have y0 := (K42.out.below hb3 K42.out.lt).cell 0
          simp only [List.getElem?_toArray, List.getElem?_cons_zero] at y0
          clear hb3
          go_wp2_with (go_at_call 38; refine (l1In_any _ _ _ _).mono ?_; rintro e w' ⟨rfl, rfl⟩; first | rw [HPP.out] | rw [HQQ.out])
          refine (l7Value_any A n c _ us D k _ zs w3 R13.out Z13.out R23.out Z23.out HI.out).mono ?_
          rintro e w4 ⟨rfl, hb4⟩
          have K64 := Lib.hid (K63.out.below hb4 K63.out.lt)
          have R34 := Lib.hid (R33.out.below (hb4.mono Z33.out))
          have Z34 := Lib.hid (Nat.le_trans Z33.out hb4.size)
          have HB4 := Lib.hid (ext_trans HB3.out hb4)
          generalize valR us zs = V at *
          clear y0 hb4
          go_wp2_with fail
          go_cut [13, 14] from 38 to 55 (fun s1 s2 wx => ∃ (g : Nat) (p1 : Option Addr) (m1 k1 : Nat), s1 = .pointer (some ⟨g, 0, none⟩) ∧ s2 = .bool (propOk vs (V / q * p + V % q * p / q)) ∧ Blk wx g 28 #[.slice p1 m1 k1] ∧ Acc w4 wx 3 1 p1 m1 k1 (propV vs (V / q * p + V % q * p / q)))
          case first =>
            refine wp_region_held_drew (S := fun _ => True) (by kernel_rfl) trivial (fun hHeld => ?_)
            have bX0 : Below w4.heap.size w4 w4.drew := ext_drew (Below.refl _ _)
            obtain ⟨X, hX⟩ : ∃ X, X = World.drew w4 := ⟨_, rfl⟩
            rw [← hX]
            rw [← hX] at bX0
            have bX := bX0
            clear hX bX0
            refine wpAnyH_takeD (i := 0) (v := ?_) 39 rfl rfl (by kernel_rfl) (by kernel_rfl) (by kernel_rfl) (fun _ _ _ _ _ h => h) (by rfl) (by assumption) ?_ ?_
            rotate_left; focus (intro w hSw; (try dsimp only at hSw); go_simp; try (with_reducible rfl))
            (try simp only [Act.put]); (try simp only [List.setIfInBounds_toArray]); (try simp only [List.set_cons_succ]); (try simp only [List.set_cons_zero])
            refine wpAnyH_takeD (i := 1) (v := ?_) 40 rfl rfl (by kernel_rfl) (by kernel_rfl) (by kernel_rfl) (fun _ _ _ _ _ h => h) (by rfl) (by assumption) ?_ ?_
            rotate_left; focus (intro w hSw; (try dsimp only at hSw); go_simp; try (with_reducible rfl))
            (try simp only [Act.put]); (try simp only [List.setIfInBounds_toArray]); (try simp only [List.set_cons_succ]); (try simp only [List.set_cons_zero])
            refine wpAnyH_takeD (i := 2) (v := ?_) 41 rfl rfl (by kernel_rfl) (by kernel_rfl) (by kernel_rfl) (fun _ _ _ _ _ h => h) (by rfl) (by assumption) ?_ ?_
            rotate_left; focus (intro w hSw; (try dsimp only at hSw); go_simp; try (with_reducible rfl))
            (try simp only [Act.put]); (try simp only [List.setIfInBounds_toArray]); (try simp only [List.set_cons_succ]); (try simp only [List.set_cons_zero])
            refine wpAnyH_takeD (i := 3) (v := ?_) 42 rfl rfl (by kernel_rfl) (by kernel_rfl) (by kernel_rfl) (fun _ _ _ _ _ h => h) (by rfl) (by assumption) ?_ ?_
            rotate_left; focus (intro w hSw; (try dsimp only at hSw); go_simp; try (with_reducible rfl))
            (try simp only [Act.put]); (try simp only [List.setIfInBounds_toArray]); (try simp only [List.set_cons_succ]); (try simp only [List.set_cons_zero])
            refine wpAnyH_takeD (i := 4) (v := ?_) 43 rfl rfl (by kernel_rfl) (by kernel_rfl) (by kernel_rfl) (fun _ _ _ _ _ h => h) (by rfl) (by assumption) ?_ ?_
            rotate_left; focus (intro w hSw; (try dsimp only at hSw); go_simp; try (with_reducible rfl))
            (try simp only [Act.put]); (try simp only [List.setIfInBounds_toArray]); (try simp only [List.set_cons_succ]); (try simp only [List.set_cons_zero])
            refine wpAnyH_takeD (i := 5) (v := ?_) 44 rfl rfl (by kernel_rfl) (by kernel_rfl) (by kernel_rfl) (fun _ _ _ _ _ h => h) (by rfl) (by assumption) ?_ ?_
            rotate_left; focus (intro w hSw; (try dsimp only at hSw); go_simp; try (with_reducible rfl))
            (try simp only [Act.put]); (try simp only [List.setIfInBounds_toArray]); (try simp only [List.set_cons_succ]); (try simp only [List.set_cons_zero])
            refine wpAnyH_takeD (i := 6) (v := ?_) 45 rfl rfl (by kernel_rfl) (by kernel_rfl) (by kernel_rfl) (fun _ _ _ _ _ h => h) (by rfl) (by assumption) ?_ ?_
            rotate_left; focus (intro w hSw; (try dsimp only at hSw); go_simp; try (with_reducible rfl))
            (try simp only [Act.put]); (try simp only [List.setIfInBounds_toArray]); (try simp only [List.set_cons_succ]); (try simp only [List.set_cons_zero])
            refine wpAnyH_takeD (i := 7) (v := ?_) 46 rfl rfl (by kernel_rfl) (by kernel_rfl) (by kernel_rfl) (fun _ _ _ _ _ h => h) (by rfl) (by assumption) ?_ ?_
            rotate_left; focus (intro w hSw; (try dsimp only at hSw); go_simp; try (with_reducible rfl))
            (try simp only [Act.put]); (try simp only [List.setIfInBounds_toArray]); (try simp only [List.set_cons_succ]); (try simp only [List.set_cons_zero])
            refine wpAnyH_takeD (i := 8) (v := ?_) 47 rfl rfl (by kernel_rfl) (by kernel_rfl) (by kernel_rfl) (fun _ _ _ _ _ h => h) (by rfl) (by assumption) ?_ ?_
            rotate_left; focus (intro w hSw; (try dsimp only at hSw); go_simp; try (with_reducible rfl))
            (try simp only [Act.put]); (try simp only [List.setIfInBounds_toArray]); (try simp only [List.set_cons_succ]); (try simp only [List.set_cons_zero])
            refine wpAnyH_takeD (i := 9) (v := ?_) 48 rfl rfl (by kernel_rfl) (by kernel_rfl) (by kernel_rfl) (fun _ _ _ _ _ h => h) (by rfl) (by assumption) ?_ ?_
            rotate_left; focus (intro w hSw; (try dsimp only at hSw); go_simp; try (with_reducible rfl))
            (try simp only [Act.put]); (try simp only [List.setIfInBounds_toArray]); (try simp only [List.set_cons_succ]); (try simp only [List.set_cons_zero])
            refine wpAnyH_takeD (i := 10) (v := ?_) 49 rfl rfl (by kernel_rfl) (by kernel_rfl) (by kernel_rfl) (fun _ _ _ _ _ h => h) (by rfl) (by assumption) ?_ ?_
            rotate_left; focus (intro w hSw; (try dsimp only at hSw); go_simp; try (with_reducible rfl))
            (try simp only [Act.put]); (try simp only [List.setIfInBounds_toArray]); (try simp only [List.set_cons_succ]); (try simp only [List.set_cons_zero])
            refine wpAnyH_takeD (i := 11) (v := ?_) 50 rfl rfl (by kernel_rfl) (by kernel_rfl) (by kernel_rfl) (fun _ _ _ _ _ h => h) (by rfl) (by assumption) ?_ ?_
            rotate_left; focus (intro w hSw; (try dsimp only at hSw); go_simp; try (with_reducible rfl))
            (try simp only [Act.put]); (try simp only [List.setIfInBounds_toArray]); (try simp only [List.set_cons_succ]); (try simp only [List.set_cons_zero])
            refine wpAnyH_takeD (i := 12) (v := ?_) 51 rfl rfl (by kernel_rfl) (by kernel_rfl) (by kernel_rfl) (fun _ _ _ _ _ h => h) (by rfl) (by assumption) ?_ ?_
            rotate_left; focus (intro w hSw; (try dsimp only at hSw); go_simp; try (with_reducible rfl))
            (try simp only [Act.put]); (try simp only [List.setIfInBounds_toArray]); (try simp only [List.set_cons_succ]); (try simp only [List.set_cons_zero])
            refine wpAnyH_takeD (i := 13) (v := ?_) 52 rfl rfl (by kernel_rfl) (by kernel_rfl) (by kernel_rfl) (fun _ _ _ _ _ h => h) (by rfl) (by assumption) ?_ ?_
            rotate_left; focus (intro w hSw; (try dsimp only at hSw); go_simp; try (with_reducible rfl))
            (try simp only [Act.put]); (try simp only [List.setIfInBounds_toArray]); (try simp only [List.set_cons_succ]); (try simp only [List.set_cons_zero])
            refine wpAnyH_ready (rs := [14, 18]) (by kernel_rfl) (by simp) ?_
            refine AllReadyH.cons rfl (fun K hK => ?_) (AllReadyH.cons rfl (fun K hK => ?_) AllReadyH.nil)
            · go_simp; (go_at_call 40; refine (l7Proper_any A3 n3 c3 _ vs (V / q * p + V % q * p / q) X (R34.out.below (bX.mono Z34.out)) (Nat.le_trans Z34.out bX.size) HSS.out hd2).mono ?_; rintro e X1 ⟨p1, m1, k1, rfl, acc1⟩); (try dsimp only)
              have hbe := acc1.ext
              have bX1 := ext_trans bX hbe
              have a1 := acc1.since bX
              clear hbe acc1
              refine hK.out _ _ (by exact trivial) (fun hHeld => ?_)
              clear hK K; (try simp only [Act.put]); (try simp only [List.setIfInBounds_toArray]); (try simp only [List.set_cons_succ]); (try simp only [List.set_cons_zero])
              refine wpAnyH_takeD (i := 15) (v := ?_) 38 rfl rfl (by kernel_rfl) (by kernel_rfl) (by kernel_rfl) (fun _ _ _ _ _ h => h) (by rfl) (by assumption) ?_ ?_
              rotate_left; focus (intro w hSw; (try dsimp only at hSw); go_simp; try (with_reducible rfl))
              (try simp only [Act.put]); (try simp only [List.setIfInBounds_toArray]); (try simp only [List.set_cons_succ]); (try simp only [List.set_cons_zero])
              refine wpAnyH_takeD (i := 16) (v := ?_) 54 rfl rfl (by kernel_rfl) (by kernel_rfl) (by kernel_rfl) (fun _ _ _ _ _ h => h) (by rfl) (by assumption) ?_ ?_
              rotate_left; focus (intro w hSw; (try dsimp only at hSw); go_simp; try (with_reducible rfl))
              (try simp only [Act.put]); (try simp only [List.setIfInBounds_toArray]); (try simp only [List.set_cons_succ]); (try simp only [List.set_cons_zero])
              refine wpAnyH_takeD (i := 17) (v := ?_) 55 rfl rfl (by kernel_rfl) (by kernel_rfl) (by kernel_rfl) (fun _ _ _ _ _ h => h) (by rfl) (by assumption) ?_ ?_
              rotate_left; focus (intro w hSw; (try dsimp only at hSw); go_simp; try (with_reducible rfl))
              (try simp only [Act.put]); (try simp only [List.setIfInBounds_toArray]); (try simp only [List.set_cons_succ]); (try simp only [List.set_cons_zero])
              refine wpAnyH_ready (rs := [18]) (by kernel_rfl) (by simp) ?_
              refine AllReadyH.cons rfl (fun K hK => ?_) AllReadyH.nil
              go_simp
              obtain ⟨X2, hX2⟩ : ∃ X2, X2 = World.alloc X1 (Obj.cells #[.slice none 0 0] 28) := ⟨_, rfl⟩
              rw [← hX2]
              have hbe : Below X1.heap.size X1 X2 := hX2 ▸ ext_alloc (Below.refl _ _) _
              have bX2 := ext_trans bX1 hbe
              have a1 := a1.later hbe
              have k13 := Blk.new X1 28 #[.slice none 0 0]
              rw [← hX2] at k13
              have hg13 : w4.heap.size ≤ X1.heap.size := bX1.size
              clear hX2 hbe
              refine hK.out _ _ (by exact trivial) (fun hHeld => ?_)
              clear hK K; (try simp only [Act.put]); (try simp only [List.setIfInBounds_toArray]); (try simp only [List.set_cons_succ]); (try simp only [List.set_cons_zero])
              refine wpAnyH_ready (rs := [19]) (by kernel_rfl) (by simp) ?_
              refine AllReadyH.cons rfl (fun K hK => ?_) AllReadyH.nil
              have v0 := k13.cell 0
              have f0 := k13.frozen 0
              simp only [List.getElem?_toArray, List.getElem?_cons_zero] at v0
              go_simp
              clear v0 f0
              have a1 := a1.setOther k13 (by decide) hg13 0 (.slice p1 m1 k1)
              have k13 := k13.set_ 0 (.slice p1 m1 k1)
              simp only [List.setIfInBounds_toArray, List.set_cons_zero] at k13
              generalize World.setCell X2 ⟨X1.heap.size, 0, none⟩ (.slice p1 m1 k1) = X3 at a1 k13 ⊢
              refine hK.out _ _ (by exact trivial) (fun hHeld => ?_)
              clear hK K; (try simp only [Act.put]); (try simp only [List.setIfInBounds_toArray]); (try simp only [List.set_cons_succ]); (try simp only [List.set_cons_zero])
              refine wpAnyH_takeD (i := 20) (v := ?_) 14 rfl rfl (by kernel_rfl) (by kernel_rfl) (by kernel_rfl) (fun _ _ _ _ _ h => h) (by rfl) (by assumption) ?_ ?_
              rotate_left; focus (intro w hSw; (try dsimp only at hSw); go_simp; try (with_reducible rfl))
              (try simp only [Act.put]); (try simp only [List.setIfInBounds_toArray]); (try simp only [List.set_cons_succ]); (try simp only [List.set_cons_zero])
              refine wpAnyH_done (by kernel_rfl) ?_ _
              clear hHeld
              try go_wp2_with fail
              go_meet
              exact ⟨X1.heap.size, p1, m1, k1, rfl, rfl, k13, a1⟩
            · go_simp
              obtain ⟨X4, hX4⟩ : ∃ X4, X4 = World.alloc X (Obj.cells #[.slice none 0 0] 28) := ⟨_, rfl⟩
              rw [← hX4]
              have hbe : Below X.heap.size X X4 := hX4 ▸ ext_alloc (Below.refl _ _) _
              have bX4 := ext_trans bX hbe
              have k13 := Blk.new X 28 #[.slice none 0 0]
              rw [← hX4] at k13
              have hg13 : w4.heap.size ≤ X.heap.size := bX.size
              clear hX4 hbe
              refine hK.out _ _ (by exact trivial) (fun hHeld => ?_)
              clear hK K; (try simp only [Act.put]); (try simp only [List.setIfInBounds_toArray]); (try simp only [List.set_cons_succ]); (try simp only [List.set_cons_zero])
              refine wpAnyH_ready (rs := [14]) (by kernel_rfl) (by simp) ?_
              refine AllReadyH.cons rfl (fun K hK => ?_) AllReadyH.nil
              go_simp; (go_at_call 40; refine (l7Proper_any A3 n3 c3 _ vs (V / q * p + V % q * p / q) X4 (R34.out.below (bX4.mono Z34.out)) (Nat.le_trans Z34.out bX4.size) HSS.out hd2).mono ?_; rintro e X5 ⟨p1, m1, k1, rfl, acc1⟩); (try dsimp only)
              have hbe := acc1.ext
              have bX5 := ext_trans bX4 hbe
              have a1 := acc1.since bX4
              have k13 := k13.below hbe k13.lt
              clear hbe acc1
              refine hK.out _ _ (by exact trivial) (fun hHeld => ?_)
              clear hK K; (try simp only [Act.put]); (try simp only [List.setIfInBounds_toArray]); (try simp only [List.set_cons_succ]); (try simp only [List.set_cons_zero])
              refine wpAnyH_takeD (i := 15) (v := ?_) 38 rfl rfl (by kernel_rfl) (by kernel_rfl) (by kernel_rfl) (fun _ _ _ _ _ h => h) (by rfl) (by assumption) ?_ ?_
              rotate_left; focus (intro w hSw; (try dsimp only at hSw); go_simp; try (with_reducible rfl))
              (try simp only [Act.put]); (try simp only [List.setIfInBounds_toArray]); (try simp only [List.set_cons_succ]); (try simp only [List.set_cons_zero])
              refine wpAnyH_takeD (i := 16) (v := ?_) 54 rfl rfl (by kernel_rfl) (by kernel_rfl) (by kernel_rfl) (fun _ _ _ _ _ h => h) (by rfl) (by assumption) ?_ ?_
              rotate_left; focus (intro w hSw; (try dsimp only at hSw); go_simp; try (with_reducible rfl))
              (try simp only [Act.put]); (try simp only [List.setIfInBounds_toArray]); (try simp only [List.set_cons_succ]); (try simp only [List.set_cons_zero])
              refine wpAnyH_takeD (i := 17) (v := ?_) 55 rfl rfl (by kernel_rfl) (by kernel_rfl) (by kernel_rfl) (fun _ _ _ _ _ h => h) (by rfl) (by assumption) ?_ ?_
              rotate_left; focus (intro w hSw; (try dsimp only at hSw); go_simp; try (with_reducible rfl))
              (try simp only [Act.put]); (try simp only [List.setIfInBounds_toArray]); (try simp only [List.set_cons_succ]); (try simp only [List.set_cons_zero])
              refine wpAnyH_ready (rs := [19]) (by kernel_rfl) (by simp) ?_
              refine AllReadyH.cons rfl (fun K hK => ?_) AllReadyH.nil
              have v0 := k13.cell 0
              have f0 := k13.frozen 0
              simp only [List.getElem?_toArray, List.getElem?_cons_zero] at v0
              go_simp
              clear v0 f0
              have a1 := a1.setOther k13 (by decide) hg13 0 (.slice p1 m1 k1)
              have k13 := k13.set_ 0 (.slice p1 m1 k1)
              simp only [List.setIfInBounds_toArray, List.set_cons_zero] at k13
              generalize World.setCell X5 ⟨X.heap.size, 0, none⟩ (.slice p1 m1 k1) = X6 at a1 k13 ⊢
              refine hK.out _ _ (by exact trivial) (fun hHeld => ?_)
              clear hK K; (try simp only [Act.put]); (try simp only [List.setIfInBounds_toArray]); (try simp only [List.set_cons_succ]); (try simp only [List.set_cons_zero])
              refine wpAnyH_takeD (i := 20) (v := ?_) 14 rfl rfl (by kernel_rfl) (by kernel_rfl) (by kernel_rfl) (fun _ _ _ _ _ h => h) (by rfl) (by assumption) ?_ ?_
              rotate_left; focus (intro w hSw; (try dsimp only at hSw); go_simp; try (with_reducible rfl))
              (try simp only [Act.put]); (try simp only [List.setIfInBounds_toArray]); (try simp only [List.set_cons_succ]); (try simp only [List.set_cons_zero])
              refine wpAnyH_done (by kernel_rfl) ?_ _
              clear hHeld
              try go_wp2_with fail
              go_meet
              exact ⟨X.heap.size, p1, m1, k1, rfl, rfl, k13, a1⟩
          case rest =>
            obtain ⟨g, p1, m1, k1, rfl, rfl, hk13, ha1⟩ := hcut
            rw [HEQ.out] at ha1 ⊢
            have z0 := hk13.cell 0
            have k6 := K64.out.below ha1.ext K64.out.lt
            have c6 := k6.cell 0
            have f6 := k6.frozen 0
            simp only [List.getElem?_toArray, List.getElem?_cons_zero] at c6
            simp only [List.getElem?_toArray, List.getElem?_cons_zero] at z0
            have K6X := Lib.hid k6
            have AX := Lib.hid (ha1.since HB4.out)
            clear k6 ha1 hk13
            go_wp2_with fail
            have k6 := K6X.out
            have ag := AX.out.ext
            have a1 := AX.out
            have a1 := a1.setOther k6 (by decide) (by omega) 0 (.slice p1 m1 k1)
            have ag := ext_set ag (p := ⟨w.heap.size + 1, 0, none⟩) (by dsimp only; omega) (.slice p1 m1 k1)
            have k6 := k6.set_ 0 (.slice p1 m1 k1)
            simp only [List.setIfInBounds_toArray, List.set_cons_zero] at k6
            generalize World.setCell wc ⟨w.heap.size + 1, 0, none⟩ (.slice p1 m1 k1) = WZ at k6 ag a1 ⊢
            have r0 := k6.cell 0
            simp only [List.getElem?_toArray, List.getElem?_cons_zero] at r0
            refine bodyPost_ret (v := .tuple #[.agg #[.slice p1 m1 k1], .bool (propOk vs (V * p / q))]) (by simp [results, Try.results28, go_sem, r0]) rfl ?_
            exact ⟨p1, m1, k1, by rw [HO.out], by rw [HO.out]; exact a1⟩
end Go.Proofs.Ythigfbhkdegfkaa
