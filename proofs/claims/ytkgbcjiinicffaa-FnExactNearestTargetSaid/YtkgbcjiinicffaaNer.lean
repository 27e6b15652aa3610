/- Is a way nearer than another one; has it fewer beads? The program's tests. No condition. -/
import Derived.Test.YtkgbcjiinicffaaNst
namespace Go.Proofs.Ytkgbcjiinicffaa
open Go.RowKit

@[reducible] def Way.val (W : Way) (A : Option Addr) (n c : Nat) : Value := .agg #[.slice A n c, .int .i64 W.m, .int .i64 W.b, .bool W.ok]
set_option maxRecDepth 100000 in
set_option maxHeartbeats 4000000 in
theorem nearer_any (V W : Way) (A A2 : Option Addr) (n c n2 c2 B B2 : Nat) (w : World) (h : Reads w B 2 A n ((rodF V.rods).map (Value.int .i64))) (h2 : Reads w B2 2 A2 n2 ((rodF W.rods).map (Value.int .i64))) (hB : B ≤ w.heap.size) (hB2 : B2 ≤ w.heap.size)
    (hn : n ≤ 8) (hnn : V.ok = true → W.ok = true → n = n2) (hx : ∀ x ∈ V.rods, RodIn x) (hy : ∀ y ∈ W.rods, RodIn y) :
    Calls Try.prog 58 #[V.val A n c, W.val A2 n2 c2] w fun e w' => e = .returned (.bool (nearerB V W)) ∧ Below w.heap.size w w' := by
  obtain ⟨xs, vm, vb, vo⟩ := V
  obtain ⟨ys, um, ub, uo⟩ := W
  simp only at h h2 hnn hx hy
  have hb := ext_alloc (ext_alloc (Below.refl w.heap.size w) (.cells #[.slice A n c, .int .i64 vm, .int .i64 vb, .bool vo] 57)) (.cells #[.slice A2 n2 c2, .int .i64 um, .int .i64 ub, .bool uo] 57)
  have hk1 := (Blk.new w 57 #[.slice A n c, .int .i64 vm, .int .i64 vb, .bool vo]).alloc (.cells #[.slice A2 n2 c2, .int .i64 um, .int .i64 ub, .bool uo] 57)
  have hk2 := Blk.new (w.alloc (.cells #[.slice A n c, .int .i64 vm, .int .i64 vb, .bool vo] 57)) 57 #[.slice A2 n2 c2, .int .i64 um, .int .i64 ub, .bool uo]
  have hz1 : (w.alloc (.cells #[.slice A n c, .int .i64 vm, .int .i64 vb, .bool vo] 57)).heap.size = w.heap.size + 1 := by simp
  rw [hz1] at hk2
  generalize hw1 : (w.alloc (.cells #[.slice A n c, .int .i64 vm, .int .i64 vb, .bool vo] 57)).alloc (.cells #[.slice A2 n2 c2, .int .i64 um, .int .i64 ub, .bool uo] 57) = w1 at hb hk1 hk2
  have HB := Lib.hid hb
  have HW := Lib.hid hw1
  have RX := Lib.hid (h.below (hb.mono hB))
  have RY := Lib.hid (h2.below (hb.mono hB2))
  have HX := Lib.hid hx
  have HY := Lib.hid hy
  clear hb hk1 hk2 hz1 hw1 h h2 hx hy
  cases vo <;> cases uo
  · have HV := Lib.hid (show nearerB ⟨xs, vm, vb, false⟩ ⟨ys, um, ub, false⟩ = false by simp [nearerB])
    go_enter Try.func58, Try.ntmps58
    go_wp2_with fail
    rw [HW.out]
    go_ret
    exact ⟨by rw [HV.out]; rfl, HB.out⟩
  · have HV := Lib.hid (show nearerB ⟨xs, vm, vb, false⟩ ⟨ys, um, ub, true⟩ = false by simp [nearerB])
    go_enter Try.func58, Try.ntmps58
    go_wp2_with fail
    rw [HW.out]
    go_ret
    exact ⟨by rw [HV.out]; rfl, HB.out⟩
  · have HV := Lib.hid (show nearerB ⟨xs, vm, vb, true⟩ ⟨ys, um, ub, false⟩ = true by simp [nearerB])
    go_enter Try.func58, Try.ntmps58
    go_wp2_with fail
    rw [HW.out]
    go_ret
    exact ⟨by rw [HV.out]; rfl, HB.out⟩
  · obtain rfl : n = n2 := hnn rfl rfl
    by_cases hm : vm = um
    · by_cases hq : vb = ub
      · have HV := Lib.hid (show nearerB ⟨xs, vm, vb, true⟩ ⟨ys, um, ub, true⟩ = befB xs ys by simp [nearerB, hm, hq])
        have e1 : (vm != um) = false := by simp [hm]
        have e2 : (vb != ub) = false := by simp [hq]
        have HC := Lib.hid (cmpP_bef xs ys)
        have hbd := cmpP_bd xs ys HX.out HY.out
        clear hm hq
        go_enter Try.func58, Try.ntmps58
        go_wp2_with fail
        rw [HW.out]
        refine (comparePairs_any A A2 n c c2 _ _ xs ys _ RX.out RY.out hn HX.out HY.out).mono ?_
        rintro e w' ⟨rfl, m', hw'⟩
        have HB' := Lib.hid (show Below w.heap.size w w' by rw [hw']; exact ext_drewN HB.out _)
        generalize cmpP xs ys = cp at HC hbd ⊢
        clear hw'
        go_wp2_with fail
        go_ret
        exact ⟨by rw [HV.out, ← HC.out]; rfl, HB'.out⟩
      · have HV := Lib.hid (show nearerB ⟨xs, vm, vb, true⟩ ⟨ys, um, ub, true⟩ = decide (vb < ub) by simp [nearerB, hm, hq])
        have e1 : (vm != um) = false := by simp [hm]
        have e2 : (vb != ub) = true := by simp [hq]
        clear hm
        by_cases hl : vb < ub
        · have HV' := Lib.hid (show decide (vb < ub) = true by simp [hl])
          go_enter Try.func58, Try.ntmps58
          go_wp2_with fail
          rw [HW.out]
          go_ret
          exact ⟨by rw [HV.out, HV'.out]; rfl, HB.out⟩
        · have HV' := Lib.hid (show decide (vb < ub) = false by simp [hl])
          go_enter Try.func58, Try.ntmps58
          go_wp2_with fail
          rw [HW.out]
          go_ret
          exact ⟨by rw [HV.out, HV'.out]; rfl, HB.out⟩
    · have HV := Lib.hid (show nearerB ⟨xs, vm, vb, true⟩ ⟨ys, um, ub, true⟩ = decide (vm < um) by simp [nearerB, hm])
      have e1 : (vm != um) = true := by simp [hm]
      by_cases hl : vm < um
      · have HV' := Lib.hid (show decide (vm < um) = true by simp [hl])
        go_enter Try.func58, Try.ntmps58
        go_wp2_with fail
        rw [HW.out]
        go_ret
        exact ⟨by rw [HV.out, HV'.out]; rfl, HB.out⟩
      · have HV' := Lib.hid (show decide (vm < um) = false by simp [hl])
        go_enter Try.func58, Try.ntmps58
        go_wp2_with fail
        rw [HW.out]
        go_ret
        exact ⟨by rw [HV.out, HV'.out]; rfl, HB.out⟩
set_option maxRecDepth 100000 in
set_option maxHeartbeats 4000000 in
theorem fewer_any (V W : Way) (A A2 : Option Addr) (n c n2 c2 B B2 : Nat) (w : World) (h : Reads w B 2 A n ((rodF V.rods).map (Value.int .i64))) (h2 : Reads w B2 2 A2 n2 ((rodF W.rods).map (Value.int .i64))) (hB : B ≤ w.heap.size) (hB2 : B2 ≤ w.heap.size)
    (_ : n ≤ 8) (hnn : V.ok = true → W.ok = true → n = n2) (hx : ∀ x ∈ V.rods, RodIn x) (hy : ∀ y ∈ W.rods, RodIn y) :
    Calls Try.prog 46 #[V.val A n c, W.val A2 n2 c2] w fun e w' => e = .returned (.bool (fewerB V W)) ∧ Below w.heap.size w w' := by
  obtain ⟨xs, vm, vb, vo⟩ := V
  obtain ⟨ys, um, ub, uo⟩ := W
  simp only at h h2 hnn hx hy
  have hb := ext_alloc (ext_alloc (Below.refl w.heap.size w) (.cells #[.slice A n c, .int .i64 vm, .int .i64 vb, .bool vo] 57)) (.cells #[.slice A2 n2 c2, .int .i64 um, .int .i64 ub, .bool uo] 57)
  have hk1 := (Blk.new w 57 #[.slice A n c, .int .i64 vm, .int .i64 vb, .bool vo]).alloc (.cells #[.slice A2 n2 c2, .int .i64 um, .int .i64 ub, .bool uo] 57)
  have hk2 := Blk.new (w.alloc (.cells #[.slice A n c, .int .i64 vm, .int .i64 vb, .bool vo] 57)) 57 #[.slice A2 n2 c2, .int .i64 um, .int .i64 ub, .bool uo]
  have hz1 : (w.alloc (.cells #[.slice A n c, .int .i64 vm, .int .i64 vb, .bool vo] 57)).heap.size = w.heap.size + 1 := by simp
  rw [hz1] at hk2
  generalize hw1 : (w.alloc (.cells #[.slice A n c, .int .i64 vm, .int .i64 vb, .bool vo] 57)).alloc (.cells #[.slice A2 n2 c2, .int .i64 um, .int .i64 ub, .bool uo] 57) = w1 at hb hk1 hk2
  have HB := Lib.hid hb
  have HW := Lib.hid hw1
  have RX := Lib.hid (h.below (hb.mono hB))
  have RY := Lib.hid (h2.below (hb.mono hB2))
  have HX := Lib.hid hx
  have HY := Lib.hid hy
  clear hb hk1 hk2 hz1 hw1 h h2 hx hy
  cases vo <;> cases uo
  · have HV := Lib.hid (show fewerB ⟨xs, vm, vb, false⟩ ⟨ys, um, ub, false⟩ = false by simp [fewerB])
    go_enter Try.func46, Try.ntmps46
    go_wp2_with fail
    rw [HW.out]
    go_ret
    exact ⟨by rw [HV.out]; rfl, HB.out⟩
  · have HV := Lib.hid (show fewerB ⟨xs, vm, vb, false⟩ ⟨ys, um, ub, true⟩ = false by simp [fewerB])
    go_enter Try.func46, Try.ntmps46
    go_wp2_with fail
    rw [HW.out]
    go_ret
    exact ⟨by rw [HV.out]; rfl, HB.out⟩
  · have HV := Lib.hid (show fewerB ⟨xs, vm, vb, true⟩ ⟨ys, um, ub, false⟩ = true by simp [fewerB])
    go_enter Try.func46, Try.ntmps46
    go_wp2_with fail
    rw [HW.out]
    go_ret
    exact ⟨by rw [HV.out]; rfl, HB.out⟩
  · clear hnn
    by_cases hl : vb < ub
    · have HV := Lib.hid (show fewerB ⟨xs, vm, vb, true⟩ ⟨ys, um, ub, true⟩ = true by simp [fewerB, hl])
      go_enter Try.func46, Try.ntmps46
      go_wp2_with fail
      rw [HW.out]
      go_ret
      exact ⟨by rw [HV.out]; rfl, HB.out⟩
    · have HV := Lib.hid (show fewerB ⟨xs, vm, vb, true⟩ ⟨ys, um, ub, true⟩ = false by simp [fewerB]; omega)
      go_enter Try.func46, Try.ntmps46
      go_wp2_with fail
      rw [HW.out]
      go_ret
      exact ⟨by rw [HV.out]; rfl, HB.out⟩
end Go.Proofs.Ytkgbcjiinicffaa
