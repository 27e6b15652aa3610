/- Is this a frame? The program's test. No condition. -/
import Derived.Test.YtkgbcjiinicffaaFrm
namespace Go.Proofs.Ytkgbcjiinicffaa
open Go.RowKit

def rodB (u l : Int) (r : Rod) : Bool := inB r.a 0 u && inB r.b 0 l
def frameB (u l : Int) (xs : List Rod) : Bool := (inB u 1 2 && (inB l 4 5 && inB (xs.length : Int) 1 8)) && xs.all (rodB u l)
theorem frame_miss {u l : Int} {xs : List Rod} {k : Nat} {x : Rod} (hx : xs[k]? = some x) (h : rodB u l x = false) : frameB u l xs = false := by
  unfold frameB
  have : xs.all (rodB u l) = false := by
    rw [List.all_eq_false]
    exact ⟨x, List.mem_of_getElem? hx, by simp [h]⟩
  rw [this]; simp
theorem frame_all {u l : Int} {xs : List Rod} (h1 : inB u 1 2 = true) (h2 : inB l 4 5 = true) (h3 : inB (xs.length : Int) 1 8 = true) (h : (xs.take xs.length).all (rodB u l) = true) : frameB u l xs = true := by
  unfold frameB
  rw [h1, h2, h3, ← h, List.take_length]; simp
theorem rods_next {u l : Int} {xs : List Rod} {k : Nat} {x : Rod} (hx : xs[k]? = some x) (h : rodB u l x = true) (hh : (xs.take k).all (rodB u l) = true) : (xs.take (k + 1)).all (rodB u l) = true := by
  rw [rodF_snoc hx, List.all_append, hh]; simp [h]
set_option maxRecDepth 100000 in
set_option maxHeartbeats 4000000 in
theorem iIsFrame_any (u l : Int) (A : Option Addr) (n c B : Nat) (xs : List Rod) (w : World) (h : Reads w B 2 A n ((rodF xs).map (Value.int .i64))) (hB : B ≤ w.heap.size) (hn : n ≤ 1048576) :
    Calls Try.prog 41 #[.agg #[.int .i64 u, .int .i64 l, .slice A n c]] w fun e w' => e = .returned (.bool (frameB u l xs)) ∧ Below w.heap.size w w' := by
  have hl := h.rodLen
  have H := Lib.hid h
  have HL := Lib.hid hl
  clear h
  cases hu : inB u 1 2
  · have hf : frameB u l xs = false := by simp [frameB, hu]
    have HF := Lib.hid hf
    clear hf
    go_enter Try.func41, Try.ntmps41
    go_wp2_with (go_at_call 34; refine (within_any _ _ _ _).mono ?_; rintro e w' ⟨rfl, rfl⟩)
    go_ret
    exact ⟨by rw [HF.out]; rfl, ext_alloc (Below.refl _ _) _⟩
  · cases hv : inB l 4 5
    · have hf : frameB u l xs = false := by simp [frameB, hv]
      have HF := Lib.hid hf
      clear hf
      go_enter Try.func41, Try.ntmps41
      go_wp2_with (go_at_call 34; refine (within_any _ _ _ _).mono ?_; rintro e w' ⟨rfl, rfl⟩)
      go_ret
      exact ⟨by rw [HF.out]; rfl, ext_alloc (Below.refl _ _) _⟩
    · cases hz : inB (n : Int) 1 8
      · have hf : frameB u l xs = false := by simp [frameB, hl, hz]
        have HF := Lib.hid hf
        clear hf
        go_enter Try.func41, Try.ntmps41
        go_wp2_with (go_at_call 34; refine (within_any _ _ _ _).mono ?_; rintro e w' ⟨rfl, rfl⟩)
        go_ret
        exact ⟨by rw [HF.out]; rfl, ext_alloc (Below.refl _ _) _⟩
      · have hb := ext_alloc (Below.refl w.heap.size w) (.cells #[.int .i64 u, .int .i64 l, .slice A n c] 33)
        have hBk := Blk.new w 33 #[.int .i64 u, .int .i64 l, .slice A n c]
        generalize hw1 : w.alloc (.cells #[.int .i64 u, .int .i64 l, .slice A n c] 33) = w1 at hb hBk
        have HALL := Lib.hid (fun hh => frame_all (xs := xs) hu hv (by rw [hl]; exact hz) hh)
        have HB := Lib.hid hb
        have HK := Lib.hid hBk
        have HW := Lib.hid hw1
        have R1 := Lib.hid (H.out.below (hb.mono hB))
        have hs1 := hb.size
        clear hb hBk hw1 hl
        go_enter Try.func41, Try.ntmps41
        go_wp2_with (go_at_call 34; refine (within_any _ _ _ _).mono ?_; rintro e w' ⟨rfl, rfl⟩)
        rw [HW.out]
        go_loopw [25] (fun i wr => ∃ k : Nat, i = .int .i64 (k : Int) ∧ k ≤ n ∧ (xs.take k).all (rodB u l) = true ∧ Below w1.heap.size w1 wr) (fun i _ => n - (intOf i).toNat)
        case atStart => exact ⟨0, rfl, by omega, rfl, Below.refl _ _⟩
        case round =>
          obtain ⟨wq, rfl⟩ : ∃ wq : World, wq = wr := ⟨_, rfl⟩
          obtain ⟨k, rfl, hk, hh, hb⟩ := hrel
          have HH := Lib.hid hh
          have HQ := Lib.hid hb
          have RQ := Lib.hid (R1.out.below (hb.mono (Nat.le_trans hB hs1)))
          have k0 : (0 : Int) ≤ k := by omega
          clear hh hb
          by_cases hlt : k < n
          · obtain ⟨b, o, x, hAx, hx, hc0, hc1⟩ := RQ.out.rod hlt
            subst hAx
            have HX := Lib.hid hx
            have k1 : (k : Int) < n := by omega
            have hkl := HK.out.lt
            have HKQ := HK.out.below HQ.out hkl
            have HKR := HKQ.alloc (.cells #[.int .i64 x.a, .int .i64 x.b] 47)
            have z0 := HKR.cell 0
            have z1 := HKR.cell 1
            have z2 := HKR.cell 2
            have y2 := HKQ.cell 2
            simp only [List.getElem?_toArray, List.getElem?_cons_zero, List.getElem?_cons_succ] at z0 z1 z2 y2
            clear HKR HKQ hx hkl
            cases ha : inB x.a 0 u
            · have hf : frameB u l xs = false := frame_miss HX.out (by simp [rodB, ha])
              have HF := Lib.hid hf
              clear hf
              go_wp2_with (go_at_call 34; refine (within_any _ _ _ _).mono ?_; rintro e w' ⟨rfl, rfl⟩)
              go_ret
              exact ⟨by rw [HF.out]; rfl, ext_trans HB.out (ext_alloc HQ.out _)⟩
            · cases hbb : inB x.b 0 l
              · have hf : frameB u l xs = false := frame_miss HX.out (by simp [rodB, hbb])
                have HF := Lib.hid hf
                clear hf
                go_wp2_with (go_at_call 34; refine (within_any _ _ _ _).mono ?_; rintro e w' ⟨rfl, rfl⟩)
                go_ret
                exact ⟨by rw [HF.out]; rfl, ext_trans HB.out (ext_alloc HQ.out _)⟩
              · have HN := Lib.hid (rods_next HX.out (by simp [rodB, ha, hbb]) HH.out)
                go_wp2_with (go_at_call 34; refine (within_any _ _ _ _).mono ?_; rintro e w' ⟨rfl, rfl⟩)
                go_roundw
                case rel => exact ⟨k + 1, by go_num, by omega, HN.out, ext_alloc HQ.out _⟩
                case measure => simp [intOf]; omega
          · have hk' : k = xs.length := by have := HL.out; omega
            have hf : frameB u l xs = true := HALL.out (by rw [← hk']; exact HH.out)
            have HF := Lib.hid hf
            have hnk : ¬ (k : Int) < n := by omega
            clear hf hk'
            go_wp2_with (go_at_call 34; refine (within_any _ _ _ _).mono ?_; rintro e w' ⟨rfl, rfl⟩)
            go_ret
            exact ⟨by rw [HF.out]; rfl, ext_trans HB.out HQ.out⟩
end Go.Proofs.Ytkgbcjiinicffaa
