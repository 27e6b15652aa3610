/- Values told, multiples, units: walks on both sides. No condition. -/
import Derived.Test.YthigfbhkdegfkaaPrs
namespace Go.Proofs.Ythigfbhkdegfkaa
open Go.RowKit

theorem val_bd {us : List Unt} {zs : List Int} (h : amtB us zs = true) : 0 ≤ valR us zs ∧ valR us zs ≤ 102000000000000 := by
  have hi := amt_in h
  have hs : sysB us = true := by unfold amtB at h; simp only [Bool.and_eq_true] at h; exact h.1
  have h0 := valR_bd us zs hi.sz hi.ct hi.few
  refine ⟨h0.1, ?_⟩
  obtain ⟨⟨l1, l6⟩, hto⟩ := sysB_to hs
  match us, zs, hi, hto, l1, l6 with
  | u :: us, [], hi, _, _, _ => simp [valR]
  | u :: us, z :: zs, hi, hto, _, l6 =>
    have hu := hto 0 u (by simp) rfl
    rw [untB_eq] at hu
    simp only [Bool.and_eq_true] at hu
    have h1 := hu.2.1
    have h1 : u.sz = 1 := by simpa [szOk] using h1
    have hb := valR_bd us zs (fun x hx => hi.sz x (by simp [hx])) (fun y hy => hi.ct y (by simp [hy])) (by simp at l6; omega)
    have hz := hi.ct z (by simp)
    have hp : ∀ k : Fin 6, bnd k ≤ 101000000000000 := by decide
    have hp := hp ⟨us.length, by simp at l6; omega⟩
    simp only at hp
    rw [valR, h1]
    omega
def valA (us : List Unt) (zs : List Int) : Int := if amtB us zs = true then valR us zs else 0
def timV (us : List Unt) (zs : List Int) (N : Int) : List Int × Bool := if (amtB us zs && inB N 0 1000) = true then (propV us (N * valR us zs), propOk us (N * valR us zs)) else ([], false)
def uniGo : List Unt → ByteArray → Int → Int × Bool
  | [], _, _ => (0, false)
  | x :: xs, nm, u => if x.nm = nm then (u * x.sz, true) else uniGo xs nm (u * x.sz)
def uniV (us : List Unt) (nm : ByteArray) : Int × Bool := if sysB us = true then uniGo us nm 1 else (0, false)
theorem uniGo_hit {us : List Unt} {nm : ByteArray} {k : Nat} {x : Unt} {u : Int} (hx : us[k]? = some x) (h : x.nm = nm) : uniGo (us.drop k) nm u = (u * x.sz, true) := by
  obtain ⟨h1, e1⟩ := List.getElem?_eq_some_iff.1 hx
  rw [List.drop_eq_getElem_cons h1, uniGo, e1, if_pos h]
theorem uniGo_miss {us : List Unt} {nm : ByteArray} {k : Nat} {x : Unt} {u : Int} (hx : us[k]? = some x) (h : x.nm ≠ nm) : uniGo (us.drop k) nm u = uniGo (us.drop (k + 1)) nm (u * x.sz) := by
  obtain ⟨h1, e1⟩ := List.getElem?_eq_some_iff.1 hx
  rw [List.drop_eq_getElem_cons h1, uniGo, e1, if_neg h]
theorem uni_bd {k : Nat} {u z : Int} (h1 : 1 ≤ u) (h2 : u ≤ (100 : Int) ^ k) (z0 : 1 ≤ z) (z1 : z ≤ 100) (hk : k < 6) : 1 ≤ u * z ∧ u * z ≤ (100 : Int) ^ (k + 1) ∧ u * z ≤ 1000000000000 := by
  have ha : 1 ≤ u * z := by have := Int.mul_le_mul h1 z0 (by omega) (by omega); omega
  have hb : u * z ≤ (100 : Int) ^ (k + 1) := by rw [Int.pow_succ]; exact Int.mul_le_mul h2 z1 (by omega) (by omega)
  have hp : ∀ k : Fin 6, (100 : Int) ^ ((k : Nat) + 1) ≤ 1000000000000 := by decide
  have hp := hp ⟨k, hk⟩
  simp only at hp
  exact ⟨ha, hb, Int.le_trans hb hp⟩
set_option maxRecDepth 100000 in
set_option maxHeartbeats 4000000 in
theorem iValueIn_any (A : Option Addr) (n c B : Nat) (us : List Unt) (D : Option Addr) (m k B2 : Nat) (zs : List Int) (w : World) (h : Reads w B 2 A n (untF us)) (hB : B ≤ w.heap.size) (hn : n ≤ 1048576) (hnm : ∀ x ∈ us, x.nm.size ≤ 1048576) (hc : n ≤ c) (hc2 : c ≤ maxLen)
    (h2 : Reads w B2 1 D m (zs.map (Value.int .i64))) (hB2 : B2 ≤ w.heap.size) (hm : m ≤ 1048576) :
    Calls Try.prog 21 #[.slice A n c, .agg #[.slice D m k]] w fun e w' => e = .returned (.tuple #[.int .i64 (valA us zs), .bool (amtB us zs)]) ∧ Below w.heap.size w w' := by
  have hl := h.untLen
  have hl2 := h2.len
  have hb := ext_alloc (Below.refl w.heap.size w) (.cells #[.slice D m k] 28)
  have hk4 := Blk.new w 28 #[.slice D m k]
  generalize hw1 : w.alloc (.cells #[.slice D m k] 28) = w1 at hb hk4
  have HB := Lib.hid hb
  have K4 := Lib.hid hk4
  have HW := Lib.hid hw1
  have R1 := Lib.hid (h.below (hb.mono hB))
  have R2 := Lib.hid (h2.below (hb.mono hB2))
  have Z1 := Lib.hid (Nat.le_trans hB hb.size)
  have Z2 := Lib.hid (Nat.le_trans hB2 hb.size)
  have HQ := Lib.hid (iIsAmount_any A n c B us D m k B2 zs w1 R1.out Z1.out hn hnm hc hc2 R2.out Z2.out hm)
  have x0 := hk4.cell 0
  simp only [List.getElem?_toArray, List.getElem?_cons_zero] at x0
  clear h h2 hb hk4 hw1
  cases ha : amtB us zs
  · have HO := Lib.hid (show valA us zs = 0 by unfold valA; rw [ha]; rfl)
    rw [ha] at HQ
    go_enter Try.func21, Try.ntmps21
    go_wp2_with fail
    rw [HW.out]
    refine HQ.out.mono ?_
    rintro e w2 ⟨rfl, hb2⟩
    go_wp2_with fail
    go_ret2
    exact ⟨by rw [HO.out]; rfl, ext_trans HB.out hb2⟩
  · rw [ha] at HQ
    have HO := Lib.hid (show valA us zs = valR us zs by unfold valA; rw [ha]; rfl)
    have hi := amt_in ha
    have hmn : n = m := by have := hi.len; omega
    subst hmn
    have HI := Lib.hid hi
    go_enter Try.func21, Try.ntmps21
    go_wp2_with fail
    rw [HW.out]
    refine HQ.out.mono ?_
    rintro e w2 ⟨rfl, hb2⟩
    have k42 := K4.out.below hb2 K4.out.lt
    have y0 := k42.cell 0
    simp only [List.getElem?_toArray, List.getElem?_cons_zero] at y0
    have R12 := Lib.hid (R1.out.below (hb2.mono Z1.out))
    have R22 := Lib.hid (R2.out.below (hb2.mono Z2.out))
    have Z12 := Lib.hid (Nat.le_trans Z1.out hb2.size)
    have Z22 := Lib.hid (Nat.le_trans Z2.out hb2.size)
    have HB2 := Lib.hid (ext_trans HB.out hb2)
    clear x0 hb2 k42 hi ha
    go_wp2_with fail
    refine (valueIn_any A n c B us D k B2 zs w2 R12.out Z12.out R22.out Z22.out HI.out).mono ?_
    rintro e w3 ⟨rfl, hb3⟩
    go_wp2_with fail
    go_ret2
    exact ⟨by rw [HO.out]; rfl, ext_trans HB2.out hb3⟩
set_option maxRecDepth 100000 in
set_option maxHeartbeats 4000000 in
theorem sValueIn_any (A : Option Addr) (n c B : Nat) (us : List Unt) (D : Option Addr) (m k B2 : Nat) (zs : List Int) (w : World) (h : Reads w B 2 A n (untF us)) (hB : B ≤ w.heap.size) (hn : n ≤ 1048576) (hnm : ∀ x ∈ us, x.nm.size ≤ 1048576)
    (h2 : Reads w B2 1 D m (zs.map (Value.int .i64))) (hB2 : B2 ≤ w.heap.size) (hm : m ≤ 1048576) :
    Calls Try.prog 34 #[.slice A n c, .agg #[.slice D m k]] w fun e w' => e = .returned (.tuple #[.int .i64 (valA us zs), .bool (amtB us zs)]) ∧ Below w.heap.size w w' := by
  have hl := h.untLen
  have hl2 := h2.len
  have hb := ext_alloc (Below.refl w.heap.size w) (.cells #[.slice D m k] 28)
  have hk4 := Blk.new w 28 #[.slice D m k]
  generalize hw1 : w.alloc (.cells #[.slice D m k] 28) = w1 at hb hk4
  have HB := Lib.hid hb
  have K4 := Lib.hid hk4
  have HW := Lib.hid hw1
  have R1 := Lib.hid (h.below (hb.mono hB))
  have R2 := Lib.hid (h2.below (hb.mono hB2))
  have Z1 := Lib.hid (Nat.le_trans hB hb.size)
  have Z2 := Lib.hid (Nat.le_trans hB2 hb.size)
  have HQ := Lib.hid (l7Amount_any A n c B us D m k B2 zs w1 R1.out Z1.out hn hnm R2.out Z2.out hm)
  have x0 := hk4.cell 0
  simp only [List.getElem?_toArray, List.getElem?_cons_zero] at x0
  clear h h2 hb hk4 hw1
  cases ha : amtB us zs
  · have HO := Lib.hid (show valA us zs = 0 by unfold valA; rw [ha]; rfl)
    rw [ha] at HQ
    go_enter Try.func34, Try.ntmps34
    go_wp2_with fail
    rw [HW.out]
    refine HQ.out.mono ?_
    rintro e w2 ⟨rfl, hb2⟩
    go_wp2_with fail
    go_ret2
    exact ⟨by rw [HO.out]; rfl, ext_trans HB.out hb2⟩
  · rw [ha] at HQ
    have HO := Lib.hid (show valA us zs = valR us zs by unfold valA; rw [ha]; rfl)
    have hi := amt_in ha
    have hmn : n = m := by have := hi.len; omega
    subst hmn
    have HI := Lib.hid hi
    go_enter Try.func34, Try.ntmps34
    go_wp2_with fail
    rw [HW.out]
    refine HQ.out.mono ?_
    rintro e w2 ⟨rfl, hb2⟩
    have k42 := K4.out.below hb2 K4.out.lt
    have y0 := k42.cell 0
    simp only [List.getElem?_toArray, List.getElem?_cons_zero] at y0
    have R12 := Lib.hid (R1.out.below (hb2.mono Z1.out))
    have R22 := Lib.hid (R2.out.below (hb2.mono Z2.out))
    have Z12 := Lib.hid (Nat.le_trans Z1.out hb2.size)
    have Z22 := Lib.hid (Nat.le_trans Z2.out hb2.size)
    have HB2 := Lib.hid (ext_trans HB.out hb2)
    clear x0 hb2 k42 hi ha
    go_wp2_with fail
    refine (l7Value_any A n c B us D k B2 zs w2 R12.out Z12.out R22.out Z22.out HI.out).mono ?_
    rintro e w3 ⟨rfl, hb3⟩
    go_wp2_with fail
    go_ret2
    exact ⟨by rw [HO.out]; rfl, ext_trans HB2.out hb3⟩
set_option maxRecDepth 100000 in
set_option maxHeartbeats 8000000 in
theorem iTimesOf_any (A : Option Addr) (n c B : Nat) (us : List Unt) (D : Option Addr) (m k B2 : Nat) (zs : List Int) (N : Int) (w : World) (h : Reads w B 2 A n (untF us)) (hB : B ≤ w.heap.size) (hn : n ≤ 1048576) (hnm : ∀ x ∈ us, x.nm.size ≤ 1048576) (hc : n ≤ c) (hc2 : c ≤ maxLen)
    (h2 : Reads w B2 1 D m (zs.map (Value.int .i64))) (hB2 : B2 ≤ w.heap.size) (hm : m ≤ 1048576) :
    Calls Try.prog 18 #[.slice A n c, .agg #[.slice D m k], .int .i64 N] w fun e w' => ∃ (a1 : Option Addr) (m1 k1 : Nat), e = .returned (.tuple #[.agg #[.slice a1 m1 k1], .bool (timV us zs N).2]) ∧ Acc w w' 3 1 a1 m1 k1 (timV us zs N).1 := by
  have hl := h.untLen
  have hl2 := h2.len
  have hb := ext_alloc (ext_alloc (Below.refl w.heap.size w) (.cells #[.slice D m k] 28)) (.cells #[.slice none 0 0] 28)
  have hk4 := (Blk.new w 28 #[.slice D m k]).alloc (.cells #[.slice none 0 0] 28)
  have hk6 := Blk.new (w.alloc (.cells #[.slice D m k] 28)) 28 #[.slice none 0 0]
  rw [show (w.alloc (.cells #[.slice D m k] 28)).heap.size = w.heap.size + 1 by simp] at hk6
  generalize hw1 : (w.alloc (.cells #[.slice D m k] 28)).alloc (.cells #[.slice none 0 0] 28) = w1 at hb hk4 hk6
  have K6 := Lib.hid hk6
  have HB := Lib.hid hb
  have K4 := Lib.hid hk4
  have HW := Lib.hid hw1
  have R1 := Lib.hid (h.below (hb.mono hB))
  have R2 := Lib.hid (h2.below (hb.mono hB2))
  have Z1 := Lib.hid (Nat.le_trans hB hb.size)
  have Z2 := Lib.hid (Nat.le_trans hB2 hb.size)
  have HQ := Lib.hid (iIsAmount_any A n c B us D m k B2 zs w1 R1.out Z1.out hn hnm hc hc2 R2.out Z2.out hm)
  have x0 := hk4.cell 0
  simp only [List.getElem?_toArray, List.getElem?_cons_zero] at x0
  clear h h2 hb hk4 hk6 hw1
  cases ha : amtB us zs
  · have HO := Lib.hid (show timV us zs N = ([], false) by unfold timV; rw [ha]; rfl)
    rw [ha] at HQ
    go_enter Try.func18, Try.ntmps18
    go_wp2_with fail
    rw [HW.out]
    refine HQ.out.mono ?_
    rintro e w2 ⟨rfl, hb2⟩
    have k6 := K6.out.below hb2 K6.out.lt
    have ag := ext_trans HB.out hb2
    have c6 := k6.cell 0
    have f6 := k6.frozen 0
    simp only [List.getElem?_toArray, List.getElem?_cons_zero] at c6
    have K6X := Lib.hid k6
    have AGX := Lib.hid ag
    clear k6 ag hb2
    go_wp2_with fail
    have k6 := K6X.out
    have ag := AGX.out
    have ag := ext_set ag (p := ⟨w.heap.size + 1, 0, none⟩) (by dsimp only; omega) (.slice none 0 0)
    have k6 := k6.set_ 0 (.slice none 0 0)
    simp only [List.setIfInBounds_toArray, List.set_cons_zero] at k6
    generalize World.setCell w2 ⟨w.heap.size + 1, 0, none⟩ (.slice none 0 0) = WZ at k6 ag ⊢
    have r0 := k6.cell 0
    simp only [List.getElem?_toArray, List.getElem?_cons_zero] at r0
    refine bodyPost_ret (v := .tuple #[.agg #[.slice none 0 0], .bool false]) (by simp [results, Try.results18, go_sem, r0]) rfl ?_
    exact ⟨none, 0, 0, by rw [HO.out], by rw [HO.out]; exact Acc.nil ag⟩
  · rw [ha] at HQ
    have hs : sysB us = true := by unfold amtB at ha; simp only [Bool.and_eq_true] at ha; exact ha.1
    have hi := amt_in ha
    have hmn : n = m := by have := hi.len; omega
    subst hmn
    cases hin : inB N 0 1000
    · have HO := Lib.hid (show timV us zs N = ([], false) by unfold timV; rw [ha, hin]; rfl)
      go_enter Try.func18, Try.ntmps18
      go_wp2_with fail
      rw [HW.out]
      refine HQ.out.mono ?_
      rintro e w2 ⟨rfl, hb2⟩
      have k6 := K6.out.below hb2 K6.out.lt
      have ag := ext_trans HB.out hb2
      have c6 := k6.cell 0
      have f6 := k6.frozen 0
      simp only [List.getElem?_toArray, List.getElem?_cons_zero] at c6
      have K6X := Lib.hid k6
      have AGX := Lib.hid ag
      have HIN := Lib.hid hin
      clear k6 ag hb2 hin
      go_wp2_with (go_at_call 43; refine (within_any _ _ _ _).mono ?_; rintro e w' ⟨rfl, rfl⟩; rw [HIN.out])
      have k6 := K6X.out
      have ag := AGX.out
      have ag := ext_set ag (p := ⟨w.heap.size + 1, 0, none⟩) (by dsimp only; omega) (.slice none 0 0)
      have k6 := k6.set_ 0 (.slice none 0 0)
      simp only [List.setIfInBounds_toArray, List.set_cons_zero] at k6
      generalize World.setCell w2 ⟨w.heap.size + 1, 0, none⟩ (.slice none 0 0) = WZ at k6 ag ⊢
      have r0 := k6.cell 0
      simp only [List.getElem?_toArray, List.getElem?_cons_zero] at r0
      refine bodyPost_ret (v := .tuple #[.agg #[.slice none 0 0], .bool false]) (by simp [results, Try.results18, go_sem, r0]) rfl ?_
      exact ⟨none, 0, 0, by rw [HO.out], by rw [HO.out]; exact Acc.nil ag⟩
    · obtain ⟨n0, n1⟩ := inB_true hin
      obtain ⟨v0, v1⟩ := val_bd ha
      have p0 : 0 ≤ N * valR us zs := Int.mul_nonneg n0 v0
      have p1 : N * valR us zs ≤ 1000 * 102000000000000 := Int.mul_le_mul n1 v1 v0 (by omega)
      have hmu : IntKind.i64.wrap (N * valR us zs) = N * valR us zs := IntWalk.i64_in _ ⟨by omega, by omega⟩
      have hd1 : N * valR us zs ≤ 9223372036854775807 := by omega
      have HO := Lib.hid (show timV us zs N = (propV us (N * valR us zs), propOk us (N * valR us zs)) by unfold timV; rw [ha, hin]; rfl)
      have HI := Lib.hid hi
      have HS := Lib.hid hs
      go_enter Try.func18, Try.ntmps18
      go_wp2_with fail
      rw [HW.out]
      refine HQ.out.mono ?_
      rintro e w2 ⟨rfl, hb2⟩
      have K62 := Lib.hid (K6.out.below hb2 K6.out.lt)
      have k42 := K4.out.below hb2 K4.out.lt
      have y0 := k42.cell 0
      simp only [List.getElem?_toArray, List.getElem?_cons_zero] at y0
      have R12 := Lib.hid (R1.out.below (hb2.mono Z1.out))
      have R22 := Lib.hid (R2.out.below (hb2.mono Z2.out))
      have Z12 := Lib.hid (Nat.le_trans Z1.out hb2.size)
      have Z22 := Lib.hid (Nat.le_trans Z2.out hb2.size)
      have HB2 := Lib.hid (ext_trans HB.out hb2)
      have HIN := Lib.hid hin
      clear x0 hb2 k42 hin hi hs ha
      go_wp2_with (go_at_call 43; refine (within_any _ _ _ _).mono ?_; rintro e w' ⟨rfl, rfl⟩; rw [HIN.out])
      refine (valueIn_any A n c B us D k B2 zs w2 R12.out Z12.out R22.out Z22.out HI.out).mono ?_
      rintro e w3 ⟨rfl, hb3⟩
      have K63 := Lib.hid (K62.out.below hb3 K62.out.lt)
      have R13 := Lib.hid (R12.out.below (hb3.mono Z12.out))
      have Z13 := Lib.hid (Nat.le_trans Z12.out hb3.size)
      have HB3 := Lib.hid (ext_trans HB2.out hb3)
      generalize valR us zs = V at *
      clear y0 hb3
      go_wp2_with fail
      (try rw [hmu])
      refine (properOf_any A n c B us (N * V) w3 R13.out Z13.out HS.out hd1).mono ?_
      rintro e w4 ⟨p1, m1, k1, rfl, acc1⟩
      have k6 := K63.out.below acc1.ext K63.out.lt
      have c6 := k6.cell 0
      have f6 := k6.frozen 0
      simp only [List.getElem?_toArray, List.getElem?_cons_zero] at c6
      have K6X := Lib.hid k6
      have AX := Lib.hid (acc1.since HB3.out)
      clear k6 acc1
      go_wp2_with fail
      have k6 := K6X.out
      have ag := AX.out.ext
      have a1 := AX.out
      have a1 := a1.setOther k6 (by decide) (by omega) 0 (.slice p1 m1 k1)
      have ag := ext_set ag (p := ⟨w.heap.size + 1, 0, none⟩) (by dsimp only; omega) (.slice p1 m1 k1)
      have k6 := k6.set_ 0 (.slice p1 m1 k1)
      simp only [List.setIfInBounds_toArray, List.set_cons_zero] at k6
      generalize World.setCell w4 ⟨w.heap.size + 1, 0, none⟩ (.slice p1 m1 k1) = WZ at k6 ag a1 ⊢
      have r0 := k6.cell 0
      simp only [List.getElem?_toArray, List.getElem?_cons_zero] at r0
      refine bodyPost_ret (v := .tuple #[.agg #[.slice p1 m1 k1], .bool (propOk us (N * V))]) (by simp [results, Try.results18, go_sem, r0]) rfl ?_
      exact ⟨p1, m1, k1, by rw [HO.out], by rw [HO.out]; exact a1⟩
set_option maxRecDepth 100000 in
set_option maxHeartbeats 8000000 in
theorem sTimesOf_any (A : Option Addr) (n c B : Nat) (us : List Unt) (D : Option Addr) (m k B2 : Nat) (zs : List Int) (N : Int) (w : World) (h : Reads w B 2 A n (untF us)) (hB : B ≤ w.heap.size) (hn : n ≤ 1048576) (hnm : ∀ x ∈ us, x.nm.size ≤ 1048576)
    (h2 : Reads w B2 1 D m (zs.map (Value.int .i64))) (hB2 : B2 ≤ w.heap.size) (hm : m ≤ 1048576) :
    Calls Try.prog 19 #[.slice A n c, .agg #[.slice D m k], .int .i64 N] w fun e w' => ∃ (a1 : Option Addr) (m1 k1 : Nat), e = .returned (.tuple #[.agg #[.slice a1 m1 k1], .bool (timV us zs N).2]) ∧ Acc w w' 3 1 a1 m1 k1 (timV us zs N).1 := by
  have hl := h.untLen
  have hl2 := h2.len
  have hb := ext_alloc (ext_alloc (Below.refl w.heap.size w) (.cells #[.slice D m k] 28)) (.cells #[.slice none 0 0] 28)
  have hk4 := (Blk.new w 28 #[.slice D m k]).alloc (.cells #[.slice none 0 0] 28)
  have hk6 := Blk.new (w.alloc (.cells #[.slice D m k] 28)) 28 #[.slice none 0 0]
  rw [show (w.alloc (.cells #[.slice D m k] 28)).heap.size = w.heap.size + 1 by simp] at hk6
  generalize hw1 : (w.alloc (.cells #[.slice D m k] 28)).alloc (.cells #[.slice none 0 0] 28) = w1 at hb hk4 hk6
  have K6 := Lib.hid hk6
  have HB := Lib.hid hb
  have K4 := Lib.hid hk4
  have HW := Lib.hid hw1
  have R1 := Lib.hid (h.below (hb.mono hB))
  have R2 := Lib.hid (h2.below (hb.mono hB2))
  have Z1 := Lib.hid (Nat.le_trans hB hb.size)
  have Z2 := Lib.hid (Nat.le_trans hB2 hb.size)
  have HQ := Lib.hid (l7Amount_any A n c B us D m k B2 zs w1 R1.out Z1.out hn hnm R2.out Z2.out hm)
  have x0 := hk4.cell 0
  simp only [List.getElem?_toArray, List.getElem?_cons_zero] at x0
  clear h h2 hb hk4 hk6 hw1
  cases ha : amtB us zs
  · have HO := Lib.hid (show timV us zs N = ([], false) by unfold timV; rw [ha]; rfl)
    rw [ha] at HQ
    go_enter Try.func19, Try.ntmps19
    go_wp2_with fail
    rw [HW.out]
    refine HQ.out.mono ?_
    rintro e w2 ⟨rfl, hb2⟩
    have k6 := K6.out.below hb2 K6.out.lt
    have ag := ext_trans HB.out hb2
    have c6 := k6.cell 0
    have f6 := k6.frozen 0
    simp only [List.getElem?_toArray, List.getElem?_cons_zero] at c6
    have K6X := Lib.hid k6
    have AGX := Lib.hid ag
    clear k6 ag hb2
    go_wp2_with fail
    have k6 := K6X.out
    have ag := AGX.out
    have ag := ext_set ag (p := ⟨w.heap.size + 1, 0, none⟩) (by dsimp only; omega) (.slice none 0 0)
    have k6 := k6.set_ 0 (.slice none 0 0)
    simp only [List.setIfInBounds_toArray, List.set_cons_zero] at k6
    generalize World.setCell w2 ⟨w.heap.size + 1, 0, none⟩ (.slice none 0 0) = WZ at k6 ag ⊢
    have r0 := k6.cell 0
    simp only [List.getElem?_toArray, List.getElem?_cons_zero] at r0
    refine bodyPost_ret (v := .tuple #[.agg #[.slice none 0 0], .bool false]) (by simp [results, Try.results19, go_sem, r0]) rfl ?_
    exact ⟨none, 0, 0, by rw [HO.out], by rw [HO.out]; exact Acc.nil ag⟩
  · rw [ha] at HQ
    have hs : sysB us = true := by unfold amtB at ha; simp only [Bool.and_eq_true] at ha; exact ha.1
    have hi := amt_in ha
    have hmn : n = m := by have := hi.len; omega
    subst hmn
    cases hin : inB N 0 1000
    · have HO := Lib.hid (show timV us zs N = ([], false) by unfold timV; rw [ha, hin]; rfl)
      go_enter Try.func19, Try.ntmps19
      go_wp2_with fail
      rw [HW.out]
      refine HQ.out.mono ?_
      rintro e w2 ⟨rfl, hb2⟩
      have k6 := K6.out.below hb2 K6.out.lt
      have ag := ext_trans HB.out hb2
      have c6 := k6.cell 0
      have f6 := k6.frozen 0
      simp only [List.getElem?_toArray, List.getElem?_cons_zero] at c6
      have K6X := Lib.hid k6
      have AGX := Lib.hid ag
      have HIN := Lib.hid hin
      clear k6 ag hb2 hin
      go_wp2_with (go_at_call 38; refine (l1In_any _ _ _ _).mono ?_; rintro e w' ⟨rfl, rfl⟩; rw [HIN.out])
      have k6 := K6X.out
      have ag := AGX.out
      have ag := ext_set ag (p := ⟨w.heap.size + 1, 0, none⟩) (by dsimp only; omega) (.slice none 0 0)
      have k6 := k6.set_ 0 (.slice none 0 0)
      simp only [List.setIfInBounds_toArray, List.set_cons_zero] at k6
      generalize World.setCell w2 ⟨w.heap.size + 1, 0, none⟩ (.slice none 0 0) = WZ at k6 ag ⊢
      have r0 := k6.cell 0
      simp only [List.getElem?_toArray, List.getElem?_cons_zero] at r0
      refine bodyPost_ret (v := .tuple #[.agg #[.slice none 0 0], .bool false]) (by simp [results, Try.results19, go_sem, r0]) rfl ?_
      exact ⟨none, 0, 0, by rw [HO.out], by rw [HO.out]; exact Acc.nil ag⟩
    · obtain ⟨n0, n1⟩ := inB_true hin
      obtain ⟨v0, v1⟩ := val_bd ha
      have p0 : 0 ≤ N * valR us zs := Int.mul_nonneg n0 v0
      have p1 : N * valR us zs ≤ 1000 * 102000000000000 := Int.mul_le_mul n1 v1 v0 (by omega)
      have hmu : IntKind.i64.wrap (N * valR us zs) = N * valR us zs := IntWalk.i64_in _ ⟨by omega, by omega⟩
      have hd1 : N * valR us zs ≤ 9223372036854775807 := by omega
      have HO := Lib.hid (show timV us zs N = (propV us (N * valR us zs), propOk us (N * valR us zs)) by unfold timV; rw [ha, hin]; rfl)
      have HI := Lib.hid hi
      have HS := Lib.hid hs
      go_enter Try.func19, Try.ntmps19
      go_wp2_with fail
      rw [HW.out]
      refine HQ.out.mono ?_
      rintro e w2 ⟨rfl, hb2⟩
      have K62 := Lib.hid (K6.out.below hb2 K6.out.lt)
      have k42 := K4.out.below hb2 K4.out.lt
      have y0 := k42.cell 0
      simp only [List.getElem?_toArray, List.getElem?_cons_zero] at y0
      have R12 := Lib.hid (R1.out.below (hb2.mono Z1.out))
      have R22 := Lib.hid (R2.out.below (hb2.mono Z2.out))
      have Z12 := Lib.hid (Nat.le_trans Z1.out hb2.size)
      have Z22 := Lib.hid (Nat.le_trans Z2.out hb2.size)
      have HB2 := Lib.hid (ext_trans HB.out hb2)
      have HIN := Lib.hid hin
      clear x0 hb2 k42 hin hi hs ha
      go_wp2_with (go_at_call 38; refine (l1In_any _ _ _ _).mono ?_; rintro e w' ⟨rfl, rfl⟩; rw [HIN.out])
      refine (l7Value_any A n c B us D k B2 zs w2 R12.out Z12.out R22.out Z22.out HI.out).mono ?_
      rintro e w3 ⟨rfl, hb3⟩
      have K63 := Lib.hid (K62.out.below hb3 K62.out.lt)
      have R13 := Lib.hid (R12.out.below (hb3.mono Z12.out))
      have Z13 := Lib.hid (Nat.le_trans Z12.out hb3.size)
      have HB3 := Lib.hid (ext_trans HB2.out hb3)
      generalize valR us zs = V at *
      clear y0 hb3
      go_wp2_with fail
      (try rw [hmu])
      refine (l7Proper_any A n c B us (N * V) w3 R13.out Z13.out HS.out hd1).mono ?_
      rintro e w4 ⟨p1, m1, k1, rfl, acc1⟩
      have k6 := K63.out.below acc1.ext K63.out.lt
      have c6 := k6.cell 0
      have f6 := k6.frozen 0
      simp only [List.getElem?_toArray, List.getElem?_cons_zero] at c6
      have K6X := Lib.hid k6
      have AX := Lib.hid (acc1.since HB3.out)
      have f6a := (k6.alloc (.cells #[.slice p1 m1 k1] 28)).frozen 0
      have c6a := (k6.alloc (.cells #[.slice p1 m1 k1] 28)).cell 0
      simp only [List.getElem?_toArray, List.getElem?_cons_zero] at c6a
      clear k6 acc1
      go_wp2_with fail
      have k6 := K6X.out.alloc (Obj.cells #[.slice p1 m1 k1] 28)
      have a1 := AX.out.alloc (Obj.cells #[.slice p1 m1 k1] 28)
      have ag := a1.ext
      have a1 := a1.setOther k6 (by decide) (by omega) 0 (.slice p1 m1 k1)
      have ag := ext_set ag (p := ⟨w.heap.size + 1, 0, none⟩) (by dsimp only; omega) (.slice p1 m1 k1)
      have k6 := k6.set_ 0 (.slice p1 m1 k1)
      simp only [List.setIfInBounds_toArray, List.set_cons_zero] at k6
      generalize World.setCell (World.alloc w4 (Obj.cells #[.slice p1 m1 k1] 28)) ⟨w.heap.size + 1, 0, none⟩ (.slice p1 m1 k1) = WZ at k6 ag a1 ⊢
      have r0 := k6.cell 0
      simp only [List.getElem?_toArray, List.getElem?_cons_zero] at r0
      refine bodyPost_ret (v := .tuple #[.agg #[.slice p1 m1 k1], .bool (propOk us (N * V))]) (by simp [results, Try.results19, go_sem, r0]) rfl ?_
      exact ⟨p1, m1, k1, by rw [HO.out], by rw [HO.out]; exact a1⟩
set_option maxRecDepth 100000 in
set_option maxHeartbeats 8000000 in
theorem iUnitsIn_any (A : Option Addr) (n c B : Nat) (us : List Unt) (nm : ByteArray) (w : World) (h : Reads w B 2 A n (untF us)) (hB : B ≤ w.heap.size) (hn : n ≤ 1048576) (hnm : ∀ x ∈ us, x.nm.size ≤ 1048576) (hc : n ≤ c) (hc2 : c ≤ maxLen) :
    Calls Try.prog 23 #[.slice A n c, .string nm] w fun e w' => e = .returned (.tuple #[.int .i64 (uniV us nm).1, .bool (uniV us nm).2]) ∧ Below w.heap.size w w' := by
  have hl := h.untLen
  have HQ := Lib.hid (iIsSystem_any A n c B us w h hB hn hnm hc hc2)
  have H := Lib.hid h
  have HL := Lib.hid hl
  clear h hl
  cases hs : sysB us
  · have HO := Lib.hid (show uniV us nm = (0, false) by unfold uniV; rw [hs]; rfl)
    rw [hs] at HQ
    go_enter Try.func23, Try.ntmps23
    go_wp2_with fail
    refine HQ.out.mono ?_
    rintro e w2 ⟨rfl, hb2⟩
    go_wp2_with fail
    go_ret2
    exact ⟨by rw [HO.out]; rfl, hb2⟩
  · have HO := Lib.hid (show uniV us nm = uniGo us nm 1 by unfold uniV; rw [hs]; rfl)
    rw [hs] at HQ
    obtain ⟨⟨l1, l6⟩, _⟩ := sysB_to hs
    have HSZ := Lib.hid (sys_sz hs)
    have hn6 : n ≤ 6 := by have := HL.out; omega
    clear hs
    go_enter Try.func23, Try.ntmps23
    go_wp2_with fail
    refine HQ.out.mono ?_
    rintro e w2 ⟨rfl, hb2⟩
    have HB2 := Lib.hid hb2
    have R2 := Lib.hid (H.out.below (hb2.mono hB))
    have Z2 := Lib.hid (Nat.le_trans hB hb2.size)
    clear hb2
    go_wp2_with fail
    go_loopw [6, 14] (fun u i wr => ∃ (j : Nat) (U : Int), i = .int .i64 (j : Int) ∧ j ≤ n ∧ u = .int .i64 U ∧ 1 ≤ U ∧ U ≤ (100 : Int) ^ j ∧ uniGo (us.drop j) nm U = uniGo us nm 1 ∧ Below w2.heap.size w2 wr) (fun _ i _ => n - (intOf i).toNat)
    case atStart => exact ⟨0, 1, rfl, by omega, rfl, by omega, by simp, by simp, Below.refl _ _⟩
    case round =>
      obtain ⟨wq, rfl⟩ : ∃ wq : World, wq = wr := ⟨_, rfl⟩
      obtain ⟨j, U, rfl, hj, rfl, u0, u1, hgo, hb⟩ := hrel
      have HG := Lib.hid hgo
      have HU := Lib.hid u1
      have HB := Lib.hid hb
      have RQ := Lib.hid (R2.out.below (hb.mono Z2.out))
      have j0 : (0 : Int) ≤ j := by omega
      clear hgo hb u1
      by_cases hlt : j < n
      · have j1 : (j : Int) < n := by omega
        obtain ⟨b, o, x, hAx, hx, hc0, hc1⟩ := RQ.out.unt hlt
        obtain ⟨s0, s1⟩ := HSZ.out x (List.mem_of_getElem? hx)
        obtain ⟨q0, q1, q2⟩ := uni_bd u0 HU.out s0 s1 (show j < 6 by omega)
        have HQ1 := Lib.hid q1
        have hmu : IntKind.i64.wrap (U * x.sz) = U * x.sz := IntWalk.i64_in _ ⟨by omega, by omega⟩
        have HX := Lib.hid hx
        have e1 := tol_eq x.nm nm
        subst hAx
        clear q1
        by_cases he : x.nm = nm
        · have HE := Lib.hid (show uniV us nm = (U * x.sz, true) by rw [HO.out, ← HG.out]; exact uniGo_hit HX.out he)
          rw [decide_eq_true he] at e1
          clear hx he
          go_wp2_with fail
          (try rw [hmu])
          go_ret2
          exact ⟨by rw [HE.out]; rfl, ext_alloc (ext_trans HB2.out HB.out) _⟩
        · have HE := Lib.hid (show uniGo (us.drop (j + 1)) nm (U * x.sz) = uniGo us nm 1 by rw [← HG.out]; exact (uniGo_miss HX.out he).symm)
          rw [decide_eq_false he] at e1
          clear hx he
          go_wp2_with fail
          go_roundw
          case rel => exact ⟨j + 1, U * x.sz, by go_num, by omega, by first | rfl | (rw [hmu]; done) | (rw [hmu]; rfl), q0, HQ1.out, HE.out, ext_alloc HB.out _⟩
          case measure => simp [intOf]; omega
      · have HE := Lib.hid (show uniV us nm = (0, false) by rw [HO.out, ← HG.out, List.drop_of_length_le (by have := HL.out; omega)]; rfl)
        go_wp2_with fail
        go_ret2
        exact ⟨by rw [HE.out]; rfl, ext_trans HB2.out HB.out⟩
set_option maxRecDepth 100000 in
set_option maxHeartbeats 8000000 in
theorem sUnitsIn_any (A : Option Addr) (n c B : Nat) (us : List Unt) (nm : ByteArray) (w : World) (h : Reads w B 2 A n (untF us)) (hB : B ≤ w.heap.size) (hn : n ≤ 1048576) (hnm : ∀ x ∈ us, x.nm.size ≤ 1048576) :
    Calls Try.prog 24 #[.slice A n c, .string nm] w fun e w' => e = .returned (.tuple #[.int .i64 (uniV us nm).1, .bool (uniV us nm).2]) ∧ Below w.heap.size w w' := by
  have hl := h.untLen
  have HQ := Lib.hid (l7System_any A n c B us w h hB hn hnm)
  have H := Lib.hid h
  have HL := Lib.hid hl
  clear h hl
  cases hs : sysB us
  · have HO := Lib.hid (show uniV us nm = (0, false) by unfold uniV; rw [hs]; rfl)
    rw [hs] at HQ
    go_enter Try.func24, Try.ntmps24
    go_wp2_with fail
    refine HQ.out.mono ?_
    rintro e w2 ⟨rfl, hb2⟩
    go_wp2_with fail
    go_ret2
    exact ⟨by rw [HO.out]; rfl, hb2⟩
  · have HO := Lib.hid (show uniV us nm = uniGo us nm 1 by unfold uniV; rw [hs]; rfl)
    rw [hs] at HQ
    obtain ⟨⟨l1, l6⟩, _⟩ := sysB_to hs
    have HSZ := Lib.hid (sys_sz hs)
    have hn6 : n ≤ 6 := by have := HL.out; omega
    clear hs
    go_enter Try.func24, Try.ntmps24
    go_wp2_with fail
    refine HQ.out.mono ?_
    rintro e w2 ⟨rfl, hb2⟩
    have HB2 := Lib.hid hb2
    have R2 := Lib.hid (H.out.below (hb2.mono hB))
    have Z2 := Lib.hid (Nat.le_trans hB hb2.size)
    clear hb2
    go_wp2_with fail
    go_loopw [6, 7] (fun u i wr => ∃ (j : Nat) (U : Int), i = .int .i64 (j : Int) ∧ j ≤ n ∧ u = .int .i64 U ∧ 1 ≤ U ∧ U ≤ (100 : Int) ^ j ∧ uniGo (us.drop j) nm U = uniGo us nm 1 ∧ Below w2.heap.size w2 wr) (fun _ i _ => n - (intOf i).toNat)
    case atStart => exact ⟨0, 1, rfl, by omega, rfl, by omega, by simp, by simp, Below.refl _ _⟩
    case round =>
      obtain ⟨wq, rfl⟩ : ∃ wq : World, wq = wr := ⟨_, rfl⟩
      obtain ⟨j, U, rfl, hj, rfl, u0, u1, hgo, hb⟩ := hrel
      have HG := Lib.hid hgo
      have HU := Lib.hid u1
      have HB := Lib.hid hb
      have RQ := Lib.hid (R2.out.below (hb.mono Z2.out))
      have j0 : (0 : Int) ≤ j := by omega
      clear hgo hb u1
      by_cases hlt : j < n
      · have j1 : (j : Int) < n := by omega
        obtain ⟨b, o, x, hAx, hx, hc0, hc1⟩ := RQ.out.unt hlt
        obtain ⟨s0, s1⟩ := HSZ.out x (List.mem_of_getElem? hx)
        obtain ⟨q0, q1, q2⟩ := uni_bd u0 HU.out s0 s1 (show j < 6 by omega)
        have HQ1 := Lib.hid q1
        have hmu : IntKind.i64.wrap (U * x.sz) = U * x.sz := IntWalk.i64_in _ ⟨by omega, by omega⟩
        have HX := Lib.hid hx
        have e1 := tol_eq x.nm nm
        subst hAx
        clear q1
        by_cases he : x.nm = nm
        · have HE := Lib.hid (show uniV us nm = (U * x.sz, true) by rw [HO.out, ← HG.out]; exact uniGo_hit HX.out he)
          rw [decide_eq_true he] at e1
          clear hx he
          go_wp2_with fail
          (try rw [hmu])
          go_ret2
          exact ⟨by rw [HE.out]; rfl, ext_trans HB2.out HB.out⟩
        · have HE := Lib.hid (show uniGo (us.drop (j + 1)) nm (U * x.sz) = uniGo us nm 1 by rw [← HG.out]; exact (uniGo_miss HX.out he).symm)
          rw [decide_eq_false he] at e1
          clear hx he
          go_wp2_with fail
          go_roundw
          case rel => exact ⟨j + 1, U * x.sz, by go_num, by omega, by first | rfl | (rw [hmu]; done) | (rw [hmu]; rfl), q0, HQ1.out, HE.out, HB.out⟩
          case measure => simp [intOf]; omega
      · have HE := Lib.hid (show uniV us nm = (0, false) by rw [HO.out, ← HG.out, List.drop_of_length_le (by have := HL.out; omega)]; rfl)
        go_wp2_with fail
        go_ret2
        exact ⟨by rw [HE.out]; rfl, ext_trans HB2.out HB.out⟩
end Go.Proofs.Ythigfbhkdegfkaa
