/- The first time at which a lesson clashes with no other one. No condition. -/
import Derived.Test.YtnndhgeddfghcaaFree
namespace Go.Proofs.Ytnndhgeddfghcaa
open Go.RowKit

def movedL (z : Lesn) (d b : Int) : Lesn := ⟨z.i, z.c, z.t, z.r, d, b, z.m⟩
theorem moved_ok {z : Lesn} (h : z.ok = true) {d b : Int} (hd : inB d 0 6 = true) (hb : inB b 480 1140 = true) : (movedL z d b).ok = true := by
  unfold Lesn.ok lesB slotB at *
  simp only [Bool.and_eq_true] at *
  obtain ⟨⟨⟨⟨⟨h1, h2⟩, h3⟩, h4⟩, h5⟩, h6, h7⟩ := h
  exact ⟨⟨⟨⟨⟨h1, h2⟩, h3⟩, h4⟩, hd⟩, hb, h7⟩
def slotIn (f : Nat → Nat → Bool) (d : Nat) : Nat → Nat → Option (Nat × Nat)
  | 0, _ => none
  | n + 1, k => if f d k = true then some (d, k) else slotIn f d n (k + 1)
def slotDay (f : Nat → Nat → Bool) : Nat → Nat → Option (Nat × Nat)
  | 0, _ => none
  | n + 1, d => match slotIn f d 45 0 with
    | some r => some r
    | none => slotDay f n (d + 1)
def slotV (f : Nat → Nat → Bool) : Option (Nat × Nat) := slotDay f 7 0
structure SlotD (f : Nat → Nat → Bool) (d : Nat) : Prop where
  out : slotV f = slotDay f (7 - d) d
structure SlotK (f : Nat → Nat → Bool) (d k : Nat) : Prop where
  out : slotV f = match slotIn f d (45 - k) k with
    | some r => some r
    | none => slotDay f (6 - d) (d + 1)
theorem slotD_zero (f : Nat → Nat → Bool) : SlotD f 0 := ⟨rfl⟩
theorem slotD_open {f : Nat → Nat → Bool} {d : Nat} (h : SlotD f d) (hd : d < 7) : SlotK f d 0 := by
  refine ⟨?_⟩
  rw [h.out, show 7 - d = (6 - d) + 1 from by omega, slotDay]
theorem slotK_next {f : Nat → Nat → Bool} {d k : Nat} (h : SlotK f d k) (hk : k < 45) (hf : f d k = false) : SlotK f d (k + 1) := by
  refine ⟨?_⟩
  rw [h.out, show 45 - k = (45 - (k + 1)) + 1 from by omega, slotIn, if_neg (by rw [hf]; simp)]
theorem slotK_end {f : Nat → Nat → Bool} {d : Nat} (h : SlotK f d 45) : SlotD f (d + 1) := by
  refine ⟨?_⟩
  rw [h.out, show 7 - (d + 1) = 6 - d from by omega]
  rfl
theorem slotK_hit {f : Nat → Nat → Bool} {d k : Nat} (h : SlotK f d k) (hk : k < 45) (hf : f d k = true) : slotV f = some (d, k) := by
  rw [h.out, show 45 - k = (45 - (k + 1)) + 1 from by omega, slotIn, if_pos hf]
theorem slotD_end {f : Nat → Nat → Bool} (h : SlotD f 7) : slotV f = none := h.out
def slotF (xs : List Lesn) (z : Lesn) (d k : Nat) : Bool := freeB xs (movedL z (d : Int) (480 + 15 * (k : Int)))
def slotR (r : Option (Nat × Nat)) : Value := match r with
  | some (d, k) => .tuple #[.int .i64 (d : Int), .int .i64 (480 + 15 * (k : Int)), .bool true]
  | none => .tuple #[.int .i64 0, .int .i64 0, .bool false]
def slotT (xs : List Lesn) (id : Int) : Value := match xs[findN id xs]? with
  | some z => if lessB xs = true then slotR (slotV (slotF xs z)) else slotR none
  | none => slotR none
theorem slotR_form (r : Option (Nat × Nat)) : ∃ a b ok, slotR r = .tuple #[.int .i64 a, .int .i64 b, .bool ok] := by
  unfold slotR; split <;> exact ⟨_, _, _, rfl⟩
theorem slotT_form (xs : List Lesn) (id : Int) : ∃ a b ok, slotT xs id = .tuple #[.int .i64 a, .int .i64 b, .bool ok] := by
  unfold slotT
  split
  · split <;> exact slotR_form _
  · exact slotR_form _
theorem slotT_bad {xs : List Lesn} (id : Int) (h : lessB xs = false) : slotT xs id = slotR none := by
  unfold slotT
  split
  · rw [if_neg (by rw [h]; simp)]
  · rfl
theorem slotT_none {xs : List Lesn} {id : Int} (h : ¬ findN id xs < xs.length) : slotT xs id = slotR none := by
  unfold slotT
  rw [List.getElem?_eq_none (by omega)]
theorem slotT_at {xs : List Lesn} {id : Int} {z : Lesn} (hz : xs[findN id xs]? = some z) (h : lessB xs = true) : slotT xs id = slotR (slotV (slotF xs z)) := by
  unfold slotT
  rw [hz]
  exact if_pos h
theorem isFree_v (A : Option Addr) (n c B : Nat) (xs : List Lesn) (x : Lesn) {v : Bool} (hv : freeB xs x = v) (w : World) (h : Reads w B 7 A n ((lesnF xs).map (Value.int .i64))) (hB : B ≤ w.heap.size) (hn : n ≤ 1048576) :
    Calls Try.prog 80 #[.slice A n c, .agg #[.int .i64 x.i, .int .i64 x.c, .int .i64 x.t, .int .i64 x.r, .int .i64 x.d, .int .i64 x.b, .int .i64 x.m]] w fun e w' => e = .returned (.bool v) ∧ Below w.heap.size w w' := hv ▸ isFree_any A n c B xs x w h hB hn
theorem l11Fits_v (A : Option Addr) (n c B : Nat) (xs : List Lesn) (i : Nat) (z : Lesn) (d b : Int) {v : Bool} (hg : lessB xs = true) (hd : inB d 0 6 = true) (hb : inB b 480 1140 = true) (hv : freeB xs (movedL z d b) = v) (w : World) (h : Reads w B 7 A n ((lesnF xs).map (Value.int .i64))) (hB : B ≤ w.heap.size) (hn : n ≤ 1048576) (hz : xs[i]? = some z) :
    Calls Try.prog 78 #[.slice A n c, .int .i64 i, .int .i64 d, .int .i64 b] w fun e w' => e = .returned (.bool v) ∧ Below w.heap.size w w' := by
  have hh := l11Fits_any A n c B xs i z (movedL z d b) w h hB hn hz rfl
  rw [fits_free hg hz (x := movedL z d b) rfl, moved_ok (less_ok hg hz) hd hb, Bool.and_true, hv] at hh
  exact hh
set_option maxHeartbeats 4000000 in
theorem iFirstSlot_any (A : Option Addr) (n c B : Nat) (xs : List Lesn) (id : Int) (w : World) (h : Reads w B 7 A n ((lesnF xs).map (Value.int .i64))) (hB : B ≤ w.heap.size) (hn : n ≤ 1048576) :
    Calls Try.prog 28 #[.slice A n c, .int .i64 id] w fun e w' => e = .returned (slotT xs id) ∧ Below w.heap.size w w' := by
  have hl := h.lesnLen
  have H := Lib.hid h
  have HL := Lib.hid hl
  clear h hl
  cases ha : lessB xs
  · rw [slotT_bad id ha]
    go_enter Try.func28, Try.ntmps28
    go_wp2_with fail
    refine (lessonAt_any A n c B xs id _ H.out hB hn).mono ?_
    rintro e w1 ⟨rfl, hb1⟩
    go_wp2_with fail
    refine (iAreLessons_any A n c B xs _ (H.out.below (hb1.mono hB)) (Nat.le_trans hB hb1.size) hn).mono ?_
    rintro e w2 ⟨rfl, hb2⟩
    rw [ha]
    have HB2 := Lib.hid (ext_trans hb1 hb2)
    clear hb1 hb2
    go_wp2
    go_ret3
    exact ⟨rfl, HB2.out⟩
  · by_cases hf : findN id xs < xs.length
    · obtain ⟨z, hz⟩ : ∃ z, xs[findN id xs]? = some z := ⟨_, List.getElem?_eq_getElem hf⟩
      rw [slotT_at hz ha]
      have hfv : findV id xs = (findN id xs : Int) := if_pos hf
      have hin : findN id xs < n := by rw [HL.out] at hf; exact hf
      generalize findN id xs = i at hz hfv hin
      have HFV := Lib.hid hfv
      have HZ := Lib.hid hz
      have HG := Lib.hid ha
      have i0 : (0 : Int) ≤ i := by omega
      have i1 : (i : Int) < n := by omega
      clear hf hz hfv
      go_enter Try.func28, Try.ntmps28
      go_wp2_with fail
      refine (lessonAt_any A n c B xs id _ H.out hB hn).mono ?_
      rintro e w1 ⟨rfl, hb1⟩
      rw [HFV.out]
      go_wp2_with fail
      refine (iAreLessons_any A n c B xs _ (H.out.below (hb1.mono hB)) (Nat.le_trans hB hb1.size) hn).mono ?_
      rintro e w2 ⟨rfl, hb2⟩
      rw [ha]
      have HB2 := Lib.hid (ext_trans hb1 hb2)
      clear hb1 hb2
      clear ha
      go_wp2
      go_loopw [8, 9, 10] (fun q _ _ wr => ∃ d : Nat, q = .int .i64 d ∧ d ≤ 7 ∧ SlotD (slotF xs z) d ∧ Below w.heap.size w wr) (fun q _ _ _ => (7 - intOf q).toNat)
      case atStart => exact ⟨0, rfl, by omega, slotD_zero _, HB2.out⟩
      case round =>
        obtain ⟨wo, rfl⟩ : ∃ wo : World, wo = wr := ⟨_, rfl⟩
        obtain ⟨d, rfl, hd, hs, hb⟩ := hrel
        have HS := Lib.hid hs
        have HB := Lib.hid hb
        clear hs hb
        by_cases hlt : d < 7
        · have HK0 := Lib.hid (slotD_open HS.out hlt)
          have d7 : (d : Int) < 7 := by omega
          have d6 : (d : Int) ≤ 6 := by omega
          have d0 : (0 : Int) ≤ d := by omega
          have HD := Lib.hid hlt
          clear hlt
          go_wp2
          go_loopw [9, 10] (fun q _ wr => ∃ k : Nat, q = .int .i64 (480 + 15 * (k : Int)) ∧ k ≤ 45 ∧ SlotK (slotF xs z) d k ∧ Below w.heap.size w wr) (fun q _ _ => (2000 - intOf q).toNat)
          case atStart => exact ⟨0, rfl, by omega, HK0.out, HB.out⟩
          case round =>
            obtain ⟨wq, rfl⟩ : ∃ wq : World, wq = wr := ⟨_, rfl⟩
            obtain ⟨k, rfl, hk, hs, hb⟩ := hrel
            have HS := Lib.hid hs
            have HBQ := Lib.hid hb
            have RQ := Lib.hid (H.out.below (hb.mono hB))
            have hBq : B ≤ wq.heap.size := Nat.le_trans hB hb.size
            clear hs hb
            by_cases hlt : k < 45
            · have k0 : (0 : Int) ≤ k := by omega
              have k1 : 480 + 15 * (k : Int) ≤ 1140 := by omega
              have HKL := Lib.hid hlt
              clear hlt
              obtain ⟨b, o, z', hAz, hz', hc0, hc1, hc2, hc3, hc4, hc5, hc6⟩ := RQ.out.lesn (show i < n from hin)
              subst hAz
              rw [HZ.out] at hz'
              injection hz' with hz'
              subst hz'
              cases hfr : slotF xs z d k
              · have HV := Lib.hid (show freeB xs (movedL z (d : Int) (480 + 15 * (k : Int))) = false from hfr)
                have HN := Lib.hid (slotK_next HS.out HKL.out hfr)
                clear hfr
                go_wp2_with fail
                refine (isFree_v _ n c B xs (movedL z (d : Int) (480 + 15 * (k : Int))) HV.out _ (RQ.out.alloc hBq _) (by simp; omega) hn).mono ?_
                rintro e w3 ⟨rfl, hb3⟩
                have HB3 := Lib.hid (ext_trans HBQ.out (ext_trans (ext_alloc (Below.refl _ _) _) hb3))
                clear hb3
                go_wp2
                go_roundw
                case rel => exact ⟨k + 1, by go_num, HKL.out, HN.out, HB3.out⟩
                case measure => simp [intOf]; omega
              · have HV := Lib.hid (show freeB xs (movedL z (d : Int) (480 + 15 * (k : Int))) = true from hfr)
                have HR := Lib.hid (slotK_hit HS.out HKL.out hfr)
                clear hfr
                go_wp2_with fail
                refine (isFree_v _ n c B xs (movedL z (d : Int) (480 + 15 * (k : Int))) HV.out _ (RQ.out.alloc hBq _) (by simp; omega) hn).mono ?_
                rintro e w3 ⟨rfl, hb3⟩
                have HB3 := Lib.hid (ext_trans HBQ.out (ext_trans (ext_alloc (Below.refl _ _) _) hb3))
                clear hb3
                go_wp2
                go_ret3
                exact ⟨by rw [HR.out]; rfl, HB3.out⟩
            · have hk' : k = 45 := by omega
              subst hk'
              have HN := Lib.hid (slotK_end HS.out)
              go_wp2
              go_roundw
              case rel => exact ⟨d + 1, by go_num, HD.out, HN.out, HBQ.out⟩
              case measure => simp [intOf]; omega
        · have hd' : d = 7 := by omega
          subst hd'
          have HR := Lib.hid (slotD_end HS.out)
          go_wp2
          go_ret3
          exact ⟨by rw [HR.out]; rfl, HB.out⟩
    · rw [slotT_none hf]
      have hfv : findV id xs = -1 := if_neg hf
      have HFV := Lib.hid hfv
      clear hf hfv
      go_enter Try.func28, Try.ntmps28
      go_wp2_with fail
      refine (lessonAt_any A n c B xs id _ H.out hB hn).mono ?_
      rintro e w1 ⟨rfl, hb1⟩
      rw [HFV.out]
      go_wp2_with fail
      refine (iAreLessons_any A n c B xs _ (H.out.below (hb1.mono hB)) (Nat.le_trans hB hb1.size) hn).mono ?_
      rintro e w2 ⟨rfl, hb2⟩
      rw [ha]
      have HB2 := Lib.hid (ext_trans hb1 hb2)
      clear hb1 hb2
      go_wp2
      go_ret3
      exact ⟨rfl, HB2.out⟩
set_option maxHeartbeats 4000000 in
theorem sFirstSlot_any (A : Option Addr) (n c B : Nat) (xs : List Lesn) (id : Int) (w : World) (h : Reads w B 7 A n ((lesnF xs).map (Value.int .i64))) (hB : B ≤ w.heap.size) (hn : n ≤ 1048576) :
    Calls Try.prog 27 #[.slice A n c, .int .i64 id] w fun e w' => e = .returned (slotT xs id) ∧ Below w.heap.size w w' := by
  have hl := h.lesnLen
  have H := Lib.hid h
  have HL := Lib.hid hl
  clear h hl
  cases ha : lessB xs
  · rw [slotT_bad id ha]
    go_enter Try.func27, Try.ntmps27
    go_wp2_with fail
    refine (l11Find_any A n c B xs id _ H.out hB hn).mono ?_
    rintro e w1 ⟨rfl, hb1⟩
    go_wp2_with fail
    refine (l11Good_any A n c B xs _ (H.out.below (hb1.mono hB)) (Nat.le_trans hB hb1.size) hn).mono ?_
    rintro e w2 ⟨rfl, hb2⟩
    rw [ha]
    have HB2 := Lib.hid (ext_trans hb1 hb2)
    clear hb1 hb2
    go_wp2
    go_ret3
    exact ⟨rfl, HB2.out⟩
  · by_cases hf : findN id xs < xs.length
    · obtain ⟨z, hz⟩ : ∃ z, xs[findN id xs]? = some z := ⟨_, List.getElem?_eq_getElem hf⟩
      rw [slotT_at hz ha]
      have hfv : findV id xs = (findN id xs : Int) := if_pos hf
      have hin : findN id xs < n := by rw [HL.out] at hf; exact hf
      generalize findN id xs = i at hz hfv hin
      have HFV := Lib.hid hfv
      have HZ := Lib.hid hz
      have HG := Lib.hid ha
      have i0 : (0 : Int) ≤ i := by omega
      have i1 : (i : Int) < n := by omega
      clear hf hz hfv
      go_enter Try.func27, Try.ntmps27
      go_wp2_with fail
      refine (l11Find_any A n c B xs id _ H.out hB hn).mono ?_
      rintro e w1 ⟨rfl, hb1⟩
      rw [HFV.out]
      go_wp2_with fail
      refine (l11Good_any A n c B xs _ (H.out.below (hb1.mono hB)) (Nat.le_trans hB hb1.size) hn).mono ?_
      rintro e w2 ⟨rfl, hb2⟩
      rw [ha]
      have HB2 := Lib.hid (ext_trans hb1 hb2)
      clear hb1 hb2
      clear ha
      go_wp2
      go_loopw [8, 9] (fun q _ wr => ∃ d : Nat, q = .int .i64 d ∧ d ≤ 7 ∧ SlotD (slotF xs z) d ∧ Below w.heap.size w wr) (fun q _ _ => (7 - intOf q).toNat)
      case atStart => exact ⟨0, rfl, by omega, slotD_zero _, HB2.out⟩
      case round =>
        obtain ⟨wo, rfl⟩ : ∃ wo : World, wo = wr := ⟨_, rfl⟩
        obtain ⟨d, rfl, hd, hs, hb⟩ := hrel
        have HS := Lib.hid hs
        have HB := Lib.hid hb
        clear hs hb
        by_cases hlt : d < 7
        · have HK0 := Lib.hid (slotD_open HS.out hlt)
          have d7 : (d : Int) < 7 := by omega
          have d6 : (d : Int) ≤ 6 := by omega
          have d0 : (0 : Int) ≤ d := by omega
          have HD := Lib.hid hlt
          clear hlt
          go_wp2
          go_loopw [9] (fun q wr => ∃ k : Nat, q = .int .i64 (480 + 15 * (k : Int)) ∧ k ≤ 45 ∧ SlotK (slotF xs z) d k ∧ Below w.heap.size w wr) (fun q _ => (2000 - intOf q).toNat)
          case atStart => exact ⟨0, rfl, by omega, HK0.out, HB.out⟩
          case round =>
            obtain ⟨wq, rfl⟩ : ∃ wq : World, wq = wr := ⟨_, rfl⟩
            obtain ⟨k, rfl, hk, hs, hb⟩ := hrel
            have HS := Lib.hid hs
            have HBQ := Lib.hid hb
            have RQ := Lib.hid (H.out.below (hb.mono hB))
            have hBq : B ≤ wq.heap.size := Nat.le_trans hB hb.size
            clear hs hb
            by_cases hlt : k < 45
            · have k0 : (0 : Int) ≤ k := by omega
              have k1 : 480 + 15 * (k : Int) ≤ 1140 := by omega
              have HKL := Lib.hid hlt
              clear hlt
              cases hfr : slotF xs z d k
              · have HV := Lib.hid (show freeB xs (movedL z (d : Int) (480 + 15 * (k : Int))) = false from hfr)
                have HN := Lib.hid (slotK_next HS.out HKL.out hfr)
                clear hfr
                go_wp2_with fail
                refine (l11Fits_v _ n c B xs i z (d : Int) (480 + 15 * (k : Int)) HG.out (inB_mk (by omega) (by omega)) (inB_mk (by omega) (by omega)) HV.out _ RQ.out hBq hn HZ.out).mono ?_
                rintro e w3 ⟨rfl, hb3⟩
                have HB3 := Lib.hid (ext_trans HBQ.out hb3)
                clear hb3
                go_wp2
                go_roundw
                case rel => exact ⟨k + 1, by go_num, HKL.out, HN.out, HB3.out⟩
                case measure => simp [intOf]; omega
              · have HV := Lib.hid (show freeB xs (movedL z (d : Int) (480 + 15 * (k : Int))) = true from hfr)
                have HR := Lib.hid (slotK_hit HS.out HKL.out hfr)
                clear hfr
                go_wp2_with fail
                refine (l11Fits_v _ n c B xs i z (d : Int) (480 + 15 * (k : Int)) HG.out (inB_mk (by omega) (by omega)) (inB_mk (by omega) (by omega)) HV.out _ RQ.out hBq hn HZ.out).mono ?_
                rintro e w3 ⟨rfl, hb3⟩
                have HB3 := Lib.hid (ext_trans HBQ.out hb3)
                clear hb3
                go_wp2
                go_ret3
                exact ⟨by rw [HR.out]; rfl, HB3.out⟩
            · have hk' : k = 45 := by omega
              subst hk'
              have HN := Lib.hid (slotK_end HS.out)
              go_wp2
              go_roundw
              case rel => exact ⟨d + 1, by go_num, HD.out, HN.out, HBQ.out⟩
              case measure => simp [intOf]; omega
        · have hd' : d = 7 := by omega
          subst hd'
          have HR := Lib.hid (slotD_end HS.out)
          go_wp2
          go_ret3
          exact ⟨by rw [HR.out]; rfl, HB.out⟩
    · rw [slotT_none hf]
      have hfv : findV id xs = -1 := if_neg hf
      have HFV := Lib.hid hfv
      clear hf hfv
      go_enter Try.func27, Try.ntmps27
      go_wp2_with fail
      refine (l11Find_any A n c B xs id _ H.out hB hn).mono ?_
      rintro e w1 ⟨rfl, hb1⟩
      rw [HFV.out]
      go_wp2_with fail
      refine (l11Good_any A n c B xs _ (H.out.below (hb1.mono hB)) (Nat.le_trans hB hb1.size) hn).mono ?_
      rintro e w2 ⟨rfl, hb2⟩
      rw [ha]
      have HB2 := Lib.hid (ext_trans hb1 hb2)
      clear hb1 hb2
      go_wp2
      go_ret3
      exact ⟨rfl, HB2.out⟩
set_option maxHeartbeats 1000000 in
theorem FnExactFirstSlot_any (A : Option Addr) (n c : Nat) (zs : List Int) (id : Int) (_ : (Lit.int .i64 id).wf = true) (w : World) (h : Reads w w.heap.size 7 A n (zs.map (Value.int .i64)) ∧ n ≤ maxLen) :
    Calls Try.prog 7 #[.slice A n c, .int .i64 id] w fun e w' => e = .returned (.bool true) ∧ Below w.heap.size w w' := by
  obtain ⟨h, hm⟩ := h
  obtain ⟨xs, rfl, hl⟩ := lesnF_of n zs (by simpa using h.1)
  have H := Lib.hid h
  clear h hl
  obtain ⟨a, b, ok, ht⟩ : ∃ a b ok, slotT xs id = .tuple #[.int .i64 a, .int .i64 b, .bool ok] := slotT_form ..
  by_cases hn : n ≤ 1048576
  · go_enter Try.func7, Try.ntmps7
    go_wp2_with fail
    refine (szLessonS_any A n c hm _).mono ?_
    rintro e w' ⟨rfl, rfl⟩
    rw [if_pos hn]
    go_wp2_with fail
    refine (toLessonS_any A n c _ xs _ H.out (Nat.le_refl _) hn).mono ?_
    rintro e w1 ⟨A1, n1, c1, rfl, a1⟩
    have z1 := a1.reads.lesnLen
    have z0 := H.out.lesnLen
    obtain rfl : n1 = n := by omega
    have R1 := Lib.hid (H.out.below a1.ext)
    go_wp2_with fail
    refine (sFirstSlot_any A1 n1 c1 _ xs id _ a1.reads (Nat.le_refl _) hn).mono ?_
    rintro e w2 ⟨rfl, hb2⟩
    rw [ht]
    have R2 := Lib.hid (R1.out.below (hb2.mono a1.ext.size))
    have e2 := ext_trans a1.ext hb2
    go_wp2_with fail
    refine (toLessonS_any A n1 c _ xs _ R2.out e2.size hn).mono ?_
    rintro e w3 ⟨A3, n3, c3, rfl, a3⟩
    have z3 := a3.reads.lesnLen
    obtain rfl : n3 = n1 := by omega
    have R3 := Lib.hid (R2.out.below (a3.ext.mono e2.size))
    have e3 := ext_trans e2 a3.ext
    go_wp2_with fail
    refine (iFirstSlot_any A3 n3 c3 _ xs id _ a3.reads (Nat.le_refl _) hn).mono ?_
    rintro e w4 ⟨rfl, hb4⟩
    rw [ht]
    have R4 := Lib.hid (R3.out.below (hb4.mono e3.size))
    have e4 := ext_trans e3 hb4
    have a3' := a3.later hb4
    go_wp2_with fail
    refine (toLessonS_any A n3 c _ xs _ R4.out e4.size hn).mono ?_
    rintro e w5 ⟨A5, n5, c5, rfl, a5⟩
    have z5 := a5.reads.lesnLen
    obtain rfl : n5 = n3 := by omega
    have e5 := ext_trans e4 a5.ext
    go_wp2_with fail
    refine (eqLessonS_any A3 A5 n5 n5 c3 c5 _ _ xs xs _ (a3'.reads.below a5.ext) a5.reads a5.ext.size (Nat.le_refl _) (by unfold maxLen; omega) (by unfold maxLen; omega)).mono ?_
    rintro e w6 ⟨rfl, hb6⟩
    rw [decide_eq_true (rfl : xs = xs)]
    go_wp2_with fail
    go_ret
    exact ⟨rfl, ext_trans e5 hb6⟩
  · go_enter Try.func7, Try.ntmps7
    go_wp2_with fail
    refine (szLessonS_any A n c hm _).mono ?_
    rintro e w' ⟨rfl, rfl⟩
    rw [if_neg hn]
    go_wp2_with fail
    go_ret
    exact ⟨rfl, Below.refl _ _⟩
end Go.Proofs.Ytnndhgeddfghcaa
