/- Amounts: are they valid, what are they worth? Walks on both sides. No condition. -/
import Derived.Test.YthigfbhkdegfkaaSys
import Derived.Test.YthigfbhkdegfkaaCur
namespace Go.Proofs.Ythigfbhkdegfkaa
open Go.RowKit

def allIn (zs : List Int) : Bool := zs.all fun z => inB z 0 9999
theorem allIn_next {zs : List Int} {k : Nat} {z : Int} (hz : zs[k]? = some z) (h : allIn (zs.take k) = true) (h2 : inB z 0 9999 = true) : allIn (zs.take (k + 1)) = true := by
  unfold allIn at *
  rw [take_at hz, List.all_append, h]; simp [h2]
theorem allIn_miss {zs : List Int} {k : Nat} {z : Int} (hz : zs[k]? = some z) (h2 : inB z 0 9999 = false) : allIn zs = false := by
  unfold allIn
  rw [List.all_eq_false]
  exact ⟨z, List.mem_of_getElem? hz, by simp [h2]⟩
def amtB (us : List Unt) (zs : List Int) : Bool := sysB us && (decide (zs.length = us.length) && allIn zs)
set_option maxHeartbeats 2000000 in
theorem allWithin_any (A : Option Addr) (n c B : Nat) (zs : List Int) (w : World) (h : Reads w B 1 A n (zs.map (Value.int .i64))) (hn : n ≤ 1048576) :
    Calls Try.prog 63 #[.slice A n c, .int .i64 0, .int .i64 9999] w fun e w' => e = .returned (.bool (allIn zs)) ∧ w = w' := by
  have hl := h.len
  have H := Lib.hid h
  have HL := Lib.hid hl
  clear h hl
  go_enter Try.func63, Try.ntmps63
  go_wp2_with fail
  go_loop [11] (fun i => ∃ k : Nat, i = .int .i64 (k : Int) ∧ k ≤ n ∧ allIn (zs.take k) = true) (fun i => n - (intOf i).toNat)
  case atStart => exact ⟨0, rfl, by omega, rfl⟩
  case round =>
    obtain ⟨k, rfl, hk, hh⟩ := hrel
    have HH := Lib.hid hh
    have k0 : (0 : Int) ≤ k := by omega
    clear hh
    by_cases hlt : k < n
    · have k1 : (k : Int) < n := by omega
      obtain ⟨b, o, z, rfl, hz, hcell⟩ := H.out.int hlt
      have HZ := Lib.hid hz
      clear hz
      cases hin : inB z 0 9999
      · have HF := Lib.hid (allIn_miss HZ.out hin)
        go_wp2_with (go_at_call 43; refine (within_any _ _ _ _).mono ?_; rintro e w' ⟨rfl, rfl⟩; rw [hin])
        go_ret
        exact ⟨by rw [HF.out]; rfl, rfl⟩
      · have HN := Lib.hid (allIn_next HZ.out HH.out hin)
        go_wp2_with (go_at_call 43; refine (within_any _ _ _ _).mono ?_; rintro e w' ⟨rfl, rfl⟩; rw [hin])
        go_round
        case rel => exact ⟨k + 1, by go_num, by omega, HN.out⟩
        case measure => simp [intOf]; omega
    · have HF := Lib.hid (show allIn zs = true by rw [← HH.out, List.take_of_length_le (by have := HL.out; omega)])
      go_wp2_with fail
      go_ret
      exact ⟨by rw [HF.out]; rfl, rfl⟩
set_option maxRecDepth 100000 in
set_option maxHeartbeats 4000000 in
theorem iIsAmount_any (A : Option Addr) (n c B : Nat) (us : List Unt) (D : Option Addr) (m k B2 : Nat) (zs : List Int) (w : World) (h : Reads w B 2 A n (untF us)) (hB : B ≤ w.heap.size) (hn : n ≤ 1048576) (hnm : ∀ x ∈ us, x.nm.size ≤ 1048576) (hc : n ≤ c) (hc2 : c ≤ maxLen)
    (h2 : Reads w B2 1 D m (zs.map (Value.int .i64))) (hB2 : B2 ≤ w.heap.size) (hm : m ≤ 1048576) :
    Calls Try.prog 32 #[.slice A n c, .agg #[.slice D m k]] w fun e w' => e = .returned (.bool (amtB us zs)) ∧ Below w.heap.size w w' := by
  have hl := h.untLen
  have hl2 := h2.len
  have hb := ext_alloc (Below.refl w.heap.size w) (.cells #[.slice D m k] 28)
  have hk := Blk.new w 28 #[.slice D m k]
  have hq := iIsSystem_any A n c B us _ (h.below (hb.mono hB)) (Nat.le_trans hB hb.size) hn hnm hc hc2
  have hr := h2.below (hb.mono hB2)
  generalize hw1 : w.alloc (.cells #[.slice D m k] 28) = w1 at hb hk hq hr
  have HB := Lib.hid hb
  have HK := Lib.hid hk
  have HQ := Lib.hid hq
  have HR := Lib.hid hr
  have HW := Lib.hid hw1
  have Z1 := Lib.hid (Nat.le_trans hB2 hb.size)
  clear h h2 hb hk hq hr hw1
  cases hs : sysB us
  · have HF := Lib.hid (show amtB us zs = false by unfold amtB; rw [hs]; rfl)
    rw [hs] at HQ
    go_enter Try.func32, Try.ntmps32
    go_wp2_with fail
    rw [HW.out]
    refine HQ.out.mono ?_
    rintro e w2 ⟨rfl, hb2⟩
    go_wp2_with fail
    go_ret
    exact ⟨by rw [HF.out]; rfl, ext_trans HB.out hb2⟩
  · rw [hs] at HQ
    by_cases hmn : m = n
    · have HF := Lib.hid (show amtB us zs = allIn zs by unfold amtB; rw [hs, hl, hl2]; simp [hmn])
      have d1 : ((m : Int) == (n : Int)) = true := by simp [hmn]
      clear hmn
      go_enter Try.func32, Try.ntmps32
      go_wp2_with fail
      rw [HW.out]
      refine HQ.out.mono ?_
      rintro e w2 ⟨rfl, hb2⟩
      have hk2 := HK.out.below hb2 HK.out.lt
      have x0 := hk2.cell 0
      simp only [List.getElem?_toArray, List.getElem?_cons_zero] at x0
      have HR2 := Lib.hid (HR.out.below (hb2.mono Z1.out))
      have HB2 := Lib.hid (ext_trans HB.out hb2)
      clear hk2 hb2
      go_wp2_with fail
      refine (allWithin_any D m k _ zs _ HR2.out hm).mono ?_
      rintro e w3 ⟨rfl, rfl⟩
      go_wp2_with fail
      go_ret
      exact ⟨by rw [HF.out]; rfl, HB2.out⟩
    · have HF := Lib.hid (show amtB us zs = false by unfold amtB; rw [hs, hl, hl2]; simp [hmn])
      have d1 : ((m : Int) == (n : Int)) = false := by simp; omega
      clear hmn
      go_enter Try.func32, Try.ntmps32
      go_wp2_with fail
      rw [HW.out]
      refine HQ.out.mono ?_
      rintro e w2 ⟨rfl, hb2⟩
      have hk2 := HK.out.below hb2 HK.out.lt
      have x0 := hk2.cell 0
      simp only [List.getElem?_toArray, List.getElem?_cons_zero] at x0
      have HB2 := Lib.hid (ext_trans HB.out hb2)
      clear hk2 hb2
      go_wp2_with fail
      go_ret
      exact ⟨by rw [HF.out]; rfl, HB2.out⟩
set_option maxRecDepth 100000 in
set_option maxHeartbeats 4000000 in
theorem l7Amount_any (A : Option Addr) (n c B : Nat) (us : List Unt) (D : Option Addr) (m k B2 : Nat) (zs : List Int) (w : World) (h : Reads w B 2 A n (untF us)) (hB : B ≤ w.heap.size) (hn : n ≤ 1048576) (hnm : ∀ x ∈ us, x.nm.size ≤ 1048576)
    (h2 : Reads w B2 1 D m (zs.map (Value.int .i64))) (hB2 : B2 ≤ w.heap.size) (hm : m ≤ 1048576) :
    Calls Try.prog 37 #[.slice A n c, .agg #[.slice D m k]] w fun e w' => e = .returned (.bool (amtB us zs)) ∧ Below w.heap.size w w' := by
  have hl := h.untLen
  have hl2 := h2.len
  have hb := ext_alloc (Below.refl w.heap.size w) (.cells #[.slice D m k] 28)
  have hk := Blk.new w 28 #[.slice D m k]
  have hq := l7System_any A n c B us _ (h.below (hb.mono hB)) (Nat.le_trans hB hb.size) hn hnm
  have hr := h2.below (hb.mono hB2)
  generalize hw1 : w.alloc (.cells #[.slice D m k] 28) = w1 at hb hk hq hr
  have HB := Lib.hid hb
  have HK := Lib.hid hk
  have HQ := Lib.hid hq
  have HR := Lib.hid hr
  have HW := Lib.hid hw1
  have HL := Lib.hid hl
  have HL2 := Lib.hid hl2
  have x0 := HK.out.cell 0
  simp only [List.getElem?_toArray, List.getElem?_cons_zero] at x0
  clear h h2 hb hk hq hr hw1 hl hl2
  go_enter Try.func37, Try.ntmps37
  go_wp2_with fail
  rw [HW.out]
  go_loop [5] (fun i => ∃ k : Nat, i = .int .i64 (k : Int) ∧ k ≤ m ∧ allIn (zs.take k) = true) (fun i => m - (intOf i).toNat)
  case atStart => exact ⟨0, rfl, by omega, rfl⟩
  case round =>
    obtain ⟨j, rfl, hj, hh⟩ := hrel
    have HH := Lib.hid hh
    have j0 : (0 : Int) ≤ j := by omega
    clear hh
    by_cases hlt : j < m
    · have j1 : (j : Int) < m := by omega
      obtain ⟨b, o, z, rfl, hz, hcell⟩ := HR.out.int hlt
      have HZ := Lib.hid hz
      clear hz
      cases hin : inB z 0 9999
      · have HF := Lib.hid (show amtB us zs = false by unfold amtB; rw [allIn_miss HZ.out hin]; simp)
        go_wp2_with (go_at_call 38; refine (l1In_any _ _ _ _).mono ?_; rintro e w' ⟨rfl, rfl⟩; rw [hin])
        go_ret
        exact ⟨by rw [HF.out]; rfl, HB.out⟩
      · have HN := Lib.hid (allIn_next HZ.out HH.out hin)
        go_wp2_with (go_at_call 38; refine (l1In_any _ _ _ _).mono ?_; rintro e w' ⟨rfl, rfl⟩; rw [hin])
        go_round
        case rel => exact ⟨j + 1, by go_num, by omega, HN.out⟩
        case measure => simp [intOf]; omega
    · have HA := Lib.hid (show allIn zs = true by rw [← HH.out, List.take_of_length_le (by have := HL2.out; omega)])
      cases hs : sysB us
      · have HF := Lib.hid (show amtB us zs = false by unfold amtB; rw [hs]; rfl)
        rw [hs] at HQ
        go_wp2_with fail
        refine HQ.out.mono ?_
        rintro e w2 ⟨rfl, hb2⟩
        go_wp2_with fail
        go_ret
        exact ⟨by rw [HF.out]; rfl, ext_trans HB.out hb2⟩
      · rw [hs] at HQ
        have HF := Lib.hid (show amtB us zs = ((m : Int) == (n : Int)) by
          unfold amtB; rw [hs, HL.out, HL2.out, HA.out]
          by_cases h : m = n <;> simp [h]; omega)
        go_wp2_with fail
        refine HQ.out.mono ?_
        rintro e w2 ⟨rfl, hb2⟩
        have hk2 := HK.out.below hb2 HK.out.lt
        have y0 := hk2.cell 0
        simp only [List.getElem?_toArray, List.getElem?_cons_zero] at y0
        have HB2 := Lib.hid (ext_trans HB.out hb2)
        clear hk2 hb2
        go_wp2_with fail
        go_ret
        exact ⟨by rw [HF.out]; rfl, HB2.out⟩
end Go.Proofs.Ythigfbhkdegfkaa
