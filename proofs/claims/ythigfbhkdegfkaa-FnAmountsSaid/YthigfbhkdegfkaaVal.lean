/- The value of an amount: walks on both sides. No condition. -/
import Derived.Test.YthigfbhkdegfkaaAmt
namespace Go.Proofs.Ythigfbhkdegfkaa
open Go.RowKit

/-- The value, reckoned from the last unit. -/
def valR : List Unt → List Int → Int
  | u :: us, z :: zs => (valR us zs + z) * u.sz
  | _, _ => 0
theorem valR_at : ∀ {us : List Unt} {zs : List Int} {k : Nat} {x : Unt} {z : Int}, us[k]? = some x → zs[k]? = some z → valR (us.drop k) (zs.drop k) = (valR (us.drop (k + 1)) (zs.drop (k + 1)) + z) * x.sz := by
  intro us zs k x z hx hz
  obtain ⟨h1, e1⟩ := List.getElem?_eq_some_iff.1 hx
  obtain ⟨h2, e2⟩ := List.getElem?_eq_some_iff.1 hz
  rw [List.drop_eq_getElem_cons h1, List.drop_eq_getElem_cons h2, valR, e1, e2]
/-- What bounds a system's sizes and an amount's counts. -/
structure AmtIn (us : List Unt) (zs : List Int) : Prop where
  len : zs.length = us.length
  few : us.length ≤ 6
  sz : ∀ x ∈ us, 1 ≤ x.sz ∧ x.sz ≤ 100
  ct : ∀ z ∈ zs, 0 ≤ z ∧ z ≤ 9999
theorem sys_sz {us : List Unt} (h : sysB us = true) : ∀ x ∈ us, 1 ≤ x.sz ∧ x.sz ≤ 100 := by
  intro x hx
  obtain ⟨i, hi⟩ := List.mem_iff_getElem?.1 hx
  have h1 := (sysB_to h).2 i x (List.getElem?_eq_some_iff.1 hi).1 hi
  rw [untB_eq] at h1
  simp only [Bool.and_eq_true] at h1
  have h2 := h1.2.1
  unfold szOk at h2
  split at h2
  · simp at h2; omega
  · have := inB_true h2; omega
theorem sys_nm {us : List Unt} (h : sysB us = true) : ∀ x ∈ us, x.nm.size ≤ 10 := by
  intro x hx
  obtain ⟨i, hi⟩ := List.mem_iff_getElem?.1 hx
  have h1 := (sysB_to h).2 i x (List.getElem?_eq_some_iff.1 hi).1 hi
  rw [untB_eq] at h1
  simp only [Bool.and_eq_true] at h1
  have h2 := h1.1
  unfold wordB at h2
  simp only [Bool.and_eq_true] at h2
  have := inB_true h2.1
  omega
theorem amt_in {us : List Unt} {zs : List Int} (h : amtB us zs = true) : AmtIn us zs := by
  unfold amtB at h
  simp only [Bool.and_eq_true, decide_eq_true_eq] at h
  obtain ⟨h1, h2, h3⟩ := h
  refine ⟨h2, (sysB_to h1).1.2, sys_sz h1, fun z hz => ?_⟩
  have := List.all_eq_true.1 h3 z hz
  exact inB_true this
def bnd : Nat → Int
  | 0 => 0
  | k + 1 => (bnd k + 9999) * 100
theorem bnd_le {k : Nat} (h : k ≤ 6) : 0 ≤ bnd k ∧ bnd k ≤ 10100000000000000 := by
  have hp : ∀ k : Fin 7, 0 ≤ bnd k ∧ bnd k ≤ 10100000000000000 := by decide
  exact hp ⟨k, by omega⟩
theorem valR_bd : ∀ (us : List Unt) (zs : List Int), (∀ x ∈ us, 1 ≤ x.sz ∧ x.sz ≤ 100) → (∀ z ∈ zs, 0 ≤ z ∧ z ≤ 9999) → us.length ≤ 6 → 0 ≤ valR us zs ∧ valR us zs ≤ bnd us.length
  | [], zs, _, _, _ => by simp [valR, bnd]
  | u :: us, [], _, _, h => by
    have := bnd_le (k := (u :: us).length) h
    simp only [valR]; omega
  | u :: us, z :: zs, h1, h2, h3 => by
    have ih := valR_bd us zs (fun x hx => h1 x (by simp [hx])) (fun y hy => h2 y (by simp [hy])) (by simp at h3; omega)
    have hu := h1 u (by simp)
    have hz := h2 z (by simp)
    rw [valR, List.length_cons, bnd]
    exact ⟨Int.mul_nonneg (by omega) (by omega), Int.mul_le_mul (by omega) (by omega) (by omega) (by have := bnd_le (k := us.length) (by simp at h3; omega); omega)⟩
theorem drop_in {α : Type} {l : List α} {P : α → Prop} (h : ∀ x ∈ l, P x) (k : Nat) : ∀ x ∈ l.drop k, P x := fun x hx => h x (List.mem_of_mem_drop hx)
/-- How far has the forward sum come? -/
structure Fwd (us : List Unt) (zs : List Int) (k : Nat) (unit value : Int) : Prop where
  eq : value + unit * valR (us.drop k) (zs.drop k) = valR us zs
  u0 : 1 ≤ unit
  v0 : 0 ≤ value
  ub : unit ≤ (100 : Int) ^ k
theorem Fwd.start (us : List Unt) (zs : List Int) : Fwd us zs 0 1 0 := ⟨by simp, by omega, by omega, by simp⟩
theorem Fwd.next {us : List Unt} {zs : List Int} {k : Nat} {unit value : Int} (h : Fwd us zs k unit value) (hi : AmtIn us zs) {x : Unt} {z : Int} (hx : us[k]? = some x) (hz : zs[k]? = some z) : Fwd us zs (k + 1) (unit * x.sz) (value + z * (unit * x.sz)) := by
  have hs := hi.sz x (List.mem_of_getElem? hx)
  have hc := hi.ct z (List.mem_of_getElem? hz)
  have hu := h.u0
  have hv := h.v0
  have e := h.eq
  rw [valR_at hx hz] at e
  have hp : 1 ≤ unit * x.sz := by
    have := Int.mul_le_mul hu hs.1 (by omega) (by omega)
    omega
  refine ⟨?_, hp, ?_, ?_⟩
  · rw [← e]
    generalize valR (us.drop (k + 1)) (zs.drop (k + 1)) = V
    have h1 : unit * ((V + z) * x.sz) = unit * (V * x.sz) + unit * (z * x.sz) := by rw [Int.add_mul, Int.mul_add]
    have h2 : unit * x.sz * V = unit * (V * x.sz) := by rw [Int.mul_assoc, Int.mul_comm x.sz V]
    have h3 : z * (unit * x.sz) = unit * (z * x.sz) := by rw [← Int.mul_assoc, Int.mul_comm z unit, Int.mul_assoc]
    omega
  · have := Int.mul_nonneg (a := z) (b := unit * x.sz) hc.1 (by omega)
    omega
  · rw [Int.pow_succ]
    exact Int.mul_le_mul h.ub hs.2 (by omega) (Int.le_trans (by omega) h.ub)
theorem Fwd.bd {us : List Unt} {zs : List Int} {k : Nat} {unit value : Int} (h : Fwd us zs k unit value) (hi : AmtIn us zs) (hk : k ≤ 6) : (1 ≤ unit ∧ unit ≤ 1000000000000) ∧ 0 ≤ value ∧ value ≤ 10100000000000000 := by
  have hv := valR_bd us zs hi.sz hi.ct hi.few
  have hd := (valR_bd (us.drop k) (zs.drop k) (drop_in hi.sz k) (drop_in hi.ct k) (by rw [List.length_drop]; have := hi.few; omega)).1
  have hb := (bnd_le hi.few).2
  have hp : ∀ k : Fin 7, (100 : Int) ^ (k : Nat) ≤ 1000000000000 := by decide
  have hp := hp ⟨k, by omega⟩
  simp only at hp
  have hm := Int.mul_nonneg (a := unit) (b := valR (us.drop k) (zs.drop k)) (by have := h.u0; omega) hd
  have e := h.eq
  have u0 := h.u0
  have v0 := h.v0
  have ub := h.ub
  generalize unit * valR (us.drop k) (zs.drop k) = M at *
  omega
set_option maxRecDepth 100000 in
set_option maxHeartbeats 4000000 in
theorem valueIn_any (A : Option Addr) (n c B : Nat) (us : List Unt) (D : Option Addr) (k B2 : Nat) (zs : List Int) (w : World) (h : Reads w B 2 A n (untF us)) (hB : B ≤ w.heap.size)
    (h2 : Reads w B2 1 D n (zs.map (Value.int .i64))) (hB2 : B2 ≤ w.heap.size) (hi : AmtIn us zs) :
    Calls Try.prog 44 #[.slice A n c, .agg #[.slice D n k]] w fun e w' => e = .returned (.int .i64 (valR us zs)) ∧ Below w.heap.size w w' := by
  have hl := h.untLen
  have hl2 := h2.len
  have hn6 : n ≤ 6 := by have := hi.few; omega
  have hb := ext_alloc (Below.refl w.heap.size w) (.cells #[.slice D n k] 28)
  have hk := Blk.new w 28 #[.slice D n k]
  have hr1 := h.below (hb.mono hB)
  have hr2 := h2.below (hb.mono hB2)
  generalize hw1 : w.alloc (.cells #[.slice D n k] 28) = w1 at hb hk hr1 hr2
  have HB := Lib.hid hb
  have HR1 := Lib.hid hr1
  have HR2 := Lib.hid hr2
  have HW := Lib.hid hw1
  have HI := Lib.hid hi
  have HL := Lib.hid hl
  have x0 := hk.cell 0
  simp only [List.getElem?_toArray, List.getElem?_cons_zero] at x0
  clear h h2 hb hk hr1 hr2 hw1 hi
  go_enter Try.func44, Try.ntmps44
  go_wp2_with fail
  rw [HW.out]
  go_loop [5, 6, 12] (fun v u i => ∃ (j : Nat) (unit value : Int), i = .int .i64 (j : Int) ∧ j ≤ n ∧ u = .int .i64 unit ∧ v = .int .i64 value ∧ Fwd us zs j unit value) (fun _ _ i => n - (intOf i).toNat)
  case atStart => exact ⟨0, 1, 0, rfl, by omega, rfl, rfl, Fwd.start us zs⟩
  case round =>
    obtain ⟨j, unit, value, rfl, hj, rfl, rfl, hf⟩ := hrel
    have HF := Lib.hid hf
    obtain ⟨⟨u0, u1⟩, v0, v1⟩ := hf.bd HI.out (by omega)
    have j0 : (0 : Int) ≤ j := by omega
    clear hf
    by_cases hlt : j < n
    · have j1 : (j : Int) < n := by omega
      obtain ⟨b, o, x, hAx, hx, hc0, hc1⟩ := HR1.out.unt hlt
      obtain ⟨b', o', z, hDz, hz, hd⟩ := HR2.out.int hlt
      have hN := HF.out.next HI.out hx hz
      obtain ⟨⟨p0, p1⟩, q0, q1⟩ := hN.bd HI.out (by omega)
      have hs := HI.out.sz x (List.mem_of_getElem? hx)
      have hct := HI.out.ct z (List.mem_of_getElem? hz)
      have HN := Lib.hid hN
      subst hAx hDz
      have r0 : 0 ≤ z * (unit * x.sz) := Int.mul_nonneg (by omega) (by omega)
      have r1 : z * (unit * x.sz) ≤ 10100000000000000 := by omega
      clear hN hx hz
      go_wp2_with fail
      go_round
      case rel => exact ⟨j + 1, _, _, by go_num, by omega, rfl, rfl, HN.out⟩
      case measure => simp [intOf]; omega
    · have HE := Lib.hid (show value = valR us zs by
        have e := HF.out.eq
        rw [List.drop_of_length_le (by omega)] at e
        simpa [valR] using e)
      go_wp2_with fail
      go_ret
      exact ⟨by rw [← HE.out]; rfl, HB.out⟩
set_option maxRecDepth 100000 in
set_option maxHeartbeats 4000000 in
theorem l7Value_any (A : Option Addr) (n c B : Nat) (us : List Unt) (D : Option Addr) (k B2 : Nat) (zs : List Int) (w : World) (h : Reads w B 2 A n (untF us)) (hB : B ≤ w.heap.size)
    (h2 : Reads w B2 1 D n (zs.map (Value.int .i64))) (hB2 : B2 ≤ w.heap.size) (hi : AmtIn us zs) :
    Calls Try.prog 39 #[.slice A n c, .agg #[.slice D n k]] w fun e w' => e = .returned (.int .i64 (valR us zs)) ∧ Below w.heap.size w w' := by
  have hl := h.untLen
  have hl2 := h2.len
  have hn6 : n ≤ 6 := by have := hi.few; omega
  have hb := ext_alloc (Below.refl w.heap.size w) (.cells #[.slice D n k] 28)
  have hk := Blk.new w 28 #[.slice D n k]
  have hr1 := h.below (hb.mono hB)
  have hr2 := h2.below (hb.mono hB2)
  generalize hw1 : w.alloc (.cells #[.slice D n k] 28) = w1 at hb hk hr1 hr2
  have HB := Lib.hid hb
  have HR1 := Lib.hid hr1
  have HR2 := Lib.hid hr2
  have HW := Lib.hid hw1
  have HI := Lib.hid hi
  have x0 := hk.cell 0
  simp only [List.getElem?_toArray, List.getElem?_cons_zero] at x0
  have hst : valR (us.drop n) (zs.drop n) = 0 := by rw [List.drop_of_length_le (by omega)]; simp [valR]
  have HST := Lib.hid hst
  clear h h2 hb hk hr1 hr2 hw1 hi hst
  go_enter Try.func39, Try.ntmps39
  go_wp2_with fail
  rw [HW.out]
  go_loop [5, 6] (fun v i => ∃ (j : Nat), i = .int .i64 ((j : Int) - 1) ∧ j ≤ n ∧ v = .int .i64 (valR (us.drop j) (zs.drop j))) (fun _ i => (intOf i + 1).toNat)
  case atStart => exact ⟨n, rfl, by omega, by rw [HST.out]⟩
  case round =>
    obtain ⟨j, rfl, hj, rfl⟩ := hrel
    rcases Nat.eq_zero_or_pos j with h0 | h0
    · subst h0
      have HE := Lib.hid (show valR (us.drop 0) (zs.drop 0) = valR us zs by simp)
      go_wp2_with fail
      go_ret
      exact ⟨by rw [← HE.out]; rfl, HB.out⟩
    · obtain ⟨i, rfl⟩ : ∃ i, j = i + 1 := ⟨j - 1, by omega⟩
      have e1 : (((i + 1 : Nat) : Int) - 1) = (i : Int) := by omega
      rw [e1]
      obtain ⟨b, o, x, hAx, hx, hc0, hc1⟩ := HR1.out.unt (show i < n by omega)
      obtain ⟨b', o', z, hDz, hz, hd⟩ := HR2.out.int (show i < n by omega)
      have HV := Lib.hid (valR_at hx hz)
      have hb1 := valR_bd (us.drop (i + 1)) (zs.drop (i + 1)) (drop_in HI.out.sz _) (drop_in HI.out.ct _) (by rw [List.length_drop]; omega)
      have hb2 := valR_bd (us.drop i) (zs.drop i) (drop_in HI.out.sz _) (drop_in HI.out.ct _) (by rw [List.length_drop]; omega)
      have hl1 := (bnd_le (k := (us.drop (i + 1)).length) (by rw [List.length_drop]; omega)).2
      have hl2' := (bnd_le (k := (us.drop i).length) (by rw [List.length_drop]; omega)).2
      have hs := HI.out.sz x (List.mem_of_getElem? hx)
      have hct := HI.out.ct z (List.mem_of_getElem? hz)
      rw [HV.out] at hb2
      generalize valR (us.drop (i + 1)) (zs.drop (i + 1)) = V at hb1 hb2 HV ⊢
      have v0 := hb1.1
      have v1 : V ≤ 10100000000000000 := by omega
      have p0 := hb2.1
      have p1 : (V + z) * x.sz ≤ 10100000000000000 := by omega
      have i0 : (0 : Int) ≤ i := by omega
      have i1 : (i : Int) < n := by omega
      subst hAx hDz
      clear hx hz hb1 hb2 hl1 hl2' e1
      go_wp2_with fail
      go_round
      case rel => exact ⟨i, by go_num, by omega, by rw [HV.out]⟩
      case measure => simp [intOf]
end Go.Proofs.Ythigfbhkdegfkaa
