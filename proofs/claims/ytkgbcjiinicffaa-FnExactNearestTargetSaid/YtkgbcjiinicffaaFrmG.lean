/- Is this a frame? The reference's test. No condition. -/
import Derived.Test.YtkgbcjiinicffaaFrmB
namespace Go.Proofs.Ytkgbcjiinicffaa
open Go.RowKit

theorem frame_rest {u l : Int} {xs : List Rod} {v : Bool} (h : (xs.take xs.length).all (rodB u l) = true) (hv : (inB u 1 2 && (inB l 4 5 && inB (xs.length : Int) 1 8)) = v) : frameB u l xs = v := by
  unfold frameB
  rw [List.take_length] at h
  rw [h, hv]; simp
theorem quiet_in (n lo hi : Int) {v : Bool} (hv : inB n lo hi = v) (w : World) (m : Nat) : Calls Try.prog 32 #[.int .i64 n, .int .i64 lo, .int .i64 hi] (w.drewN m) fun e w'' => e = .returned (.bool v) ∧ ∃ m, w'' = w.drewN m :=
  (l1In_any n lo hi (w.drewN m)).mono fun _ _ ⟨he, hm⟩ => ⟨hv ▸ he, m, hm.symm⟩
set_option maxRecDepth 100000 in
set_option maxHeartbeats 4000000 in
theorem l2Good_any (u l : Int) (A : Option Addr) (n c B : Nat) (xs : List Rod) (w : World) (h : Reads w B 2 A n ((rodF xs).map (Value.int .i64))) (hB : B ≤ w.heap.size) (hn : n ≤ 1048576) :
    Calls Try.prog 51 #[.agg #[.int .i64 u, .int .i64 l, .slice A n c]] w fun e w' => e = .returned (.bool (frameB u l xs)) ∧ Below w.heap.size w w' := by
  have hl := h.rodLen
  have HL := Lib.hid hl
  have hb := ext_alloc (Below.refl w.heap.size w) (.cells #[.int .i64 u, .int .i64 l, .slice A n c] 33)
  have hBk := Blk.new w 33 #[.int .i64 u, .int .i64 l, .slice A n c]
  generalize hw1 : w.alloc (.cells #[.int .i64 u, .int .i64 l, .slice A n c] 33) = w1 at hb hBk
  have HB := Lib.hid hb
  have HK := Lib.hid hBk
  have HW := Lib.hid hw1
  have R1 := Lib.hid (h.below (hb.mono hB))
  clear h hb hBk hw1 hl
  go_enter Try.func51, Try.ntmps51
  go_wp2_with fail
  rw [HW.out]
  go_loopw [3] (fun i wr => ∃ k m : Nat, i = .int .i64 (k : Int) ∧ k ≤ n ∧ (xs.take k).all (rodB u l) = true ∧ wr = w1.drewN m) (fun i _ => n - (intOf i).toNat)
  case atStart => exact ⟨0, 0, rfl, by omega, rfl, rfl⟩
  case round =>
    obtain ⟨k, m, rfl, hk, hh, hwm⟩ := hrel
    have HH := Lib.hid hh
    have HM := Lib.hid hwm
    have RQ := Lib.hid (show Reads wr B 2 A n ((rodF xs).map (Value.int .i64)) by rw [hwm]; exact R1.out.drewN m)
    have HKQ : Blk wr w.heap.size 33 #[.int .i64 u, .int .i64 l, .slice A n c] := by rw [hwm]; exact HK.out.drewN m
    have HBQ := Lib.hid (show Below w.heap.size w wr by rw [hwm]; exact ext_drewN HB.out m)
    have k0 : (0 : Int) ≤ k := by omega
    have z0 := HKQ.cell 0
    have z1 := HKQ.cell 1
    have z2 := HKQ.cell 2
    simp only [List.getElem?_toArray, List.getElem?_cons_zero, List.getElem?_cons_succ] at z0 z1 z2
    clear hh hwm HKQ
    by_cases hlt : k < n
    · obtain ⟨b, o, x, hAx, hx, hc0, hc1⟩ := RQ.out.rod hlt
      subst hAx
      have HX := Lib.hid hx
      have k1 : (k : Int) < n := by omega
      clear hx
      cases ha : inB x.a 0 u
      · have hf : frameB u l xs = false := frame_miss HX.out (by simp [rodB, ha])
        have HF := Lib.hid hf
        have HA := Lib.hid ha
        clear hf ha
        go_wp2_with fail
        go_quiet ((go_at_call 32; exact quiet_in _ _ _ HA.out _ _))
        go_wp2_with fail
        go_ret
        exact ⟨by rw [HF.out]; rfl, ext_drewN HBQ.out _⟩
      · cases hbb : inB x.b 0 l
        · have hf : frameB u l xs = false := frame_miss HX.out (by simp [rodB, hbb])
          have HF := Lib.hid hf
          have HA := Lib.hid ha
          have HA2 := Lib.hid hbb
          clear hf ha hbb
          go_wp2_with fail
          go_quiet ((go_at_call 32; exact quiet_in _ _ _ (by first | with_reducible exact HA.out | with_reducible exact HA2.out) _ _))
          go_wp2_with fail
          go_ret
          exact ⟨by rw [HF.out]; rfl, ext_drewN HBQ.out _⟩
        · have HN := Lib.hid (rods_next HX.out (by simp [rodB, ha, hbb]) HH.out)
          have HA := Lib.hid ha
          have HA2 := Lib.hid hbb
          clear ha hbb
          go_wp2_with fail
          go_quiet ((go_at_call 32; exact quiet_in _ _ _ (by first | with_reducible exact HA.out | with_reducible exact HA2.out) _ _))
          go_wp2_with fail
          go_roundw
          case rel => exact ⟨k + 1, _, by go_num, by omega, HN.out, by rw [HM.out]; exact World.drewN_drewN _ _ _⟩
          case measure => simp [intOf]; omega
    · have hk' : k = xs.length := by have := HL.out; omega
      have hnk : ¬ (k : Int) < n := by omega
      have HE := Lib.hid (fun (v : Bool) hv => frame_rest (u := u) (l := l) (xs := xs) (v := v) (by rw [← hk']; exact HH.out) (by rw [HL.out]; exact hv))
      clear hk'
      cases hu : inB u 1 2
      · go_wp2_with (go_at_call 32; refine (l1In_any _ _ _ _).mono ?_; rintro e w' ⟨rfl, rfl⟩)
        go_ret
        exact ⟨by rw [HE.out false (by rw [hu]; rfl)]; rfl, HBQ.out⟩
      · cases hv : inB l 4 5
        · go_wp2_with (go_at_call 32; refine (l1In_any _ _ _ _).mono ?_; rintro e w' ⟨rfl, rfl⟩)
          go_ret
          exact ⟨by rw [HE.out false (by rw [hu, hv]; rfl)]; rfl, HBQ.out⟩
        · go_wp2_with (go_at_call 32; refine (l1In_any _ _ _ _).mono ?_; rintro e w' ⟨rfl, rfl⟩)
          go_ret
          exact ⟨by rw [HE.out (inB (n : Int) 1 8) (by rw [hu, hv]; simp)]; rfl, HBQ.out⟩
end Go.Proofs.Ytkgbcjiinicffaa
