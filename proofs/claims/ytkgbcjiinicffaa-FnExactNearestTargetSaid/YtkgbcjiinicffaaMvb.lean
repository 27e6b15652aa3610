/- Moves of a rod, moves between frames, rods in order: walks on both sides. No condition. -/
import Derived.Test.YtkgbcjiinicffaaMvs
import Derived.Test.YtkgbcjiinicffaaHeld
namespace Go.Proofs.Ytkgbcjiinicffaa
open Go.RowKit

def mvP (k : Int) (x y : Rod) (p : Nat) : List Bmv := if p = 0 then [] else if p = 1 then mvA k x y else mvR k x y
theorem mvP_len (k : Int) (x y : Rod) (p : Nat) : (mvP k x y p).length ≤ 2 := by
  unfold mvP mvR mvA mvB
  split
  · simp
  · split
    · split <;> simp
    · split <;> split <;> simp
theorem mvP_one {k : Int} {x y : Rod} {ms : List Bmv} (h : mvA k x y = ms) : mvP k x y 1 = mvP k x y 0 ++ ms := by rw [← h]; simp [mvP]
theorem mvP_two {k : Int} {x y : Rod} {ms : List Bmv} (h : mvB k x y = ms) : mvP k x y 2 = mvP k x y 1 ++ ms := by rw [← h]; simp [mvP, mvR]
theorem bmvF_one (m : Bmv) : bmvF [m] = [m.r, m.p, m.b] := by simp [bmvF, Bmv.cs]
set_option maxRecDepth 100000 in
set_option maxHeartbeats 4000000 in
theorem rodMoves_any (k : Int) (x y : Rod) (hx : RodIn x) (hy : RodIn y) (w : World) :
    Calls Try.prog 55 #[.int .i64 k, x.val, y.val] w fun e w' => GivesS 63 3 (bmvF (mvR k x y)) w e w' := by
  obtain ⟨x0, x1, x2, x3⟩ := hx
  obtain ⟨y0, y1, y2, y3⟩ := hy
  have hb := ext_alloc (ext_alloc (Below.refl w.heap.size w) (.cells #[.int .i64 x.a, .int .i64 x.b] 47)) (.cells #[.int .i64 y.a, .int .i64 y.b] 47)
  have hk1 := (Blk.new w 47 #[.int .i64 x.a, .int .i64 x.b]).alloc (.cells #[.int .i64 y.a, .int .i64 y.b] 47)
  have hk2 := Blk.new (w.alloc (.cells #[.int .i64 x.a, .int .i64 x.b] 47)) 47 #[.int .i64 y.a, .int .i64 y.b]
  have hz1 : (w.alloc (.cells #[.int .i64 x.a, .int .i64 x.b] 47)).heap.size = w.heap.size + 1 := by simp
  rw [hz1] at hk2
  generalize hw1 : (w.alloc (.cells #[.int .i64 x.a, .int .i64 x.b] 47)).alloc (.cells #[.int .i64 y.a, .int .i64 y.b] 47) = w1 at hb hk1 hk2
  have HB := Lib.hid hb
  have K1 := Lib.hid hk1
  have K2 := Lib.hid hk2
  have HW := Lib.hid hw1
  clear hb hk1 hk2 hz1 hw1
  go_enter Try.func55, Try.ntmps55
  go_wp2_with fail
  rw [HW.out]
  go_loopw [7, 10] (fun q i wr => ∃ (p m c : Nat) (A : Option Addr), i = .int .i64 (p : Int) ∧ p ≤ 2 ∧ q = .slice A m c ∧ Acc w1 wr 63 3 A m c (bmvF (mvP k x y p))) (fun _ i _ => 2 - (intOf i).toNat)
  case atStart => exact ⟨0, 0, 0, none, rfl, by omega, rfl, Acc.nil (Below.refl _ _)⟩
  case round =>
    obtain ⟨wq, rfl⟩ : ∃ wq : World, wq = wr := ⟨_, rfl⟩
    obtain ⟨p, m, c, A, rfl, hp, rfl, hacc⟩ := hrel
    have hm : m ≤ 2 := by have h1 := hacc.len; have h2 := mvP_len k x y p; rw [bmvF_len] at h1; omega
    have hx := K1.out.below hacc.ext K1.out.lt
    have hy := K2.out.below hacc.ext K2.out.lt
    have c0 := hx.cell 0
    have c1 := hx.cell 1
    have d0 := hy.cell 0
    have d1 := hy.cell 1
    simp only [List.getElem?_toArray, List.getElem?_cons_zero, List.getElem?_cons_succ] at c0 c1 d0 d1
    have HA := Lib.hid hacc
    clear hacc hx hy
    rcases (show p = 0 ∨ p = 1 ∨ p = 2 by omega) with rfl | rfl | rfl
    · have hd1 : -9 ≤ y.a - x.a ∧ y.a - x.a ≤ 9 := by omega
      by_cases hz : y.a - x.a = 0
      · have HN := Lib.hid (mvP_one (show mvA k x y = [] by unfold mvA; rw [if_pos hz]))
        have e0 : (y.a - x.a != 0) = false := by simp [hz]
        go_wp2_with fail
        go_quiet (fail)
        go_wp2_with fail
        go_roundw
        case rel => exact ⟨1, _, _, _, by go_num, by omega, rfl, by rw [HN.out, List.append_nil]; exact HA.out.drewN _⟩
        case measure => simp [intOf]
      · have HN := Lib.hid (mvP_one (show mvA k x y = [⟨k, 0, y.a - x.a⟩] by unfold mvA; rw [if_neg hz]))
        have e0 : (y.a - x.a != 0) = true := by simp [hz]
        go_wp2_with fail
        go_quiet (fail)
        go_wp2_with (at_builtin; refine appBmv rfl _ _ rfl rfl ((HA.out.drewN _).alloc _) rfl (reads_newAt _ _ _ 3 [k, 0, y.a - x.a] _ (by simp) rfl rfl) (by omega) ?_; intro A2 c2 w2 hacc2 _)
        go_roundw
        case rel => exact ⟨1, _, _, _, by go_num, by omega, rfl, by rw [HN.out, bmvF_app, bmvF_one]; exact hacc2⟩
        case measure => simp [intOf]
    · have hd1 : -9 ≤ y.b - x.b ∧ y.b - x.b ≤ 9 := by omega
      by_cases hz : y.b - x.b = 0
      · have HN := Lib.hid (mvP_two (show mvB k x y = [] by unfold mvB; rw [if_pos hz]))
        have e0 : (y.b - x.b != 0) = false := by simp [hz]
        go_wp2_with fail
        go_quiet (fail)
        go_wp2_with fail
        go_roundw
        case rel => exact ⟨2, _, _, _, by go_num, by omega, rfl, by rw [HN.out, List.append_nil]; exact HA.out.drewN _⟩
        case measure => simp [intOf]
      · have HN := Lib.hid (mvP_two (show mvB k x y = [⟨k, 1, y.b - x.b⟩] by unfold mvB; rw [if_neg hz]))
        have e0 : (y.b - x.b != 0) = true := by simp [hz]
        go_wp2_with fail
        go_quiet (fail)
        go_wp2_with (at_builtin; refine appBmv rfl _ _ rfl rfl ((HA.out.drewN _).alloc _) rfl (reads_newAt _ _ _ 3 [k, 1, y.b - x.b] _ (by simp) rfl rfl) (by omega) ?_; intro A2 c2 w2 hacc2 _)
        go_roundw
        case rel => exact ⟨2, _, _, _, by go_num, by omega, rfl, by rw [HN.out, bmvF_app, bmvF_one]; exact hacc2⟩
        case measure => simp [intOf]
    · have HE := Lib.hid (show mvP k x y 2 = mvR k x y by simp [mvP])
      go_wp2_with fail
      go_ret
      exact ⟨_, _, _, rfl, by rw [← HE.out]; exact HA.out.since HB.out⟩
set_option maxRecDepth 100000 in
set_option maxHeartbeats 8000000 in
theorem l4Between_any (u l u2 l2 : Int) (A A2 : Option Addr) (n c c2 B B2 : Nat) (xs ys : List Rod) (w : World) (h : Reads w B 2 A n ((rodF xs).map (Value.int .i64))) (h2 : Reads w B2 2 A2 n ((rodF ys).map (Value.int .i64))) (hB : B ≤ w.heap.size) (hB2 : B2 ≤ w.heap.size) (hn : n ≤ 8) (hx : ∀ x ∈ xs, RodIn x) (hy : ∀ y ∈ ys, RodIn y) :
    Calls Try.prog 44 #[.agg #[.int .i64 u, .int .i64 l, .slice A n c], .agg #[.int .i64 u2, .int .i64 l2, .slice A2 n c2]] w fun e w' => GivesS 63 3 (bmvF (mvL xs ys)) w e w' := by
  have hb := ext_alloc (ext_alloc (Below.refl w.heap.size w) (.cells #[.int .i64 u, .int .i64 l, .slice A n c] 33)) (.cells #[.int .i64 u2, .int .i64 l2, .slice A2 n c2] 33)
  have hk1 := (Blk.new w 33 #[.int .i64 u, .int .i64 l, .slice A n c]).alloc (.cells #[.int .i64 u2, .int .i64 l2, .slice A2 n c2] 33)
  have hk2 := Blk.new (w.alloc (.cells #[.int .i64 u, .int .i64 l, .slice A n c] 33)) 33 #[.int .i64 u2, .int .i64 l2, .slice A2 n c2]
  have hz1 : (w.alloc (.cells #[.int .i64 u, .int .i64 l, .slice A n c] 33)).heap.size = w.heap.size + 1 := by simp
  rw [hz1] at hk2
  generalize hw1 : (w.alloc (.cells #[.int .i64 u, .int .i64 l, .slice A n c] 33)).alloc (.cells #[.int .i64 u2, .int .i64 l2, .slice A2 n c2] 33) = w1 at hb hk1 hk2
  have HB := Lib.hid hb
  have K1 := Lib.hid hk1
  have K2 := Lib.hid hk2
  have HW := Lib.hid hw1
  have hlx := h.rodLen
  have hly := h2.rodLen
  have RX := Lib.hid (h.below (hb.mono hB))
  have RY := Lib.hid (h2.below (hb.mono hB2))
  have HXI := Lib.hid hx
  have HYI := Lib.hid hy
  have Z1 := Lib.hid (Nat.le_trans hB hb.size)
  have Z2 := Lib.hid (Nat.le_trans hB2 hb.size)
  have HLY := Lib.hid hly
  have EMP := Lib.hid (Acc.empty (E := 63) (k := 3) (Below.refl w1.heap.size w1))
  have hzz : w1.heap.size = w.heap.size + 1 + 1 := by rw [← hw1]; simp
  rw [hzz] at EMP
  clear hb hk1 hk2 hz1 hw1 h h2 hx hy
  go_enter Try.func44, Try.ntmps44
  go_wp2_with fail
  rw [HW.out]
  go_loopw [5, 6] (fun q i wr => ∃ (k m c : Nat) (A : Option Addr), i = .int .i64 (k : Int) ∧ k ≤ n ∧ q = .slice A m c ∧ Acc w1 wr 63 3 A m c (bmvF (mvL xs (ys.take k)))) (fun _ i _ => n - (intOf i).toNat)
  case atStart => exact ⟨0, 0, 0, _, rfl, by omega, rfl, by cases xs <;> simpa [mvL, mvFr, bmvF] using EMP.out⟩
  case round =>
    obtain ⟨wo, rfl⟩ : ∃ wo : World, wo = wr := ⟨_, rfl⟩
    obtain ⟨k, m, c', P, rfl, hk, rfl, hacc⟩ := hrel
    have HA := Lib.hid hacc
    have HX1 := Lib.hid (K1.out.below hacc.ext K1.out.lt)
    have HX2 := Lib.hid (K2.out.below hacc.ext K2.out.lt)
    have x2 := HX1.out.cell 2
    have y2 := HX2.out.cell 2
    simp only [List.getElem?_toArray, List.getElem?_cons_zero, List.getElem?_cons_succ] at x2 y2
    have k0 : (0 : Int) ≤ k := by omega
    clear hacc
    by_cases hlt : k < n
    · have k1 : (k : Int) < n := by omega
      obtain ⟨x, hx⟩ : ∃ x, xs[k]? = some x := ⟨_, List.getElem?_eq_getElem (by omega)⟩
      obtain ⟨y, hy⟩ : ∃ y, ys[k]? = some y := ⟨_, List.getElem?_eq_getElem (by omega)⟩
      have HX := Lib.hid hx
      have HY := Lib.hid hy
      obtain ⟨x0, x1, x2', x3⟩ := HXI.out x (List.mem_of_getElem? hx)
      obtain ⟨y0, y1, y2', y3⟩ := HYI.out y (List.mem_of_getElem? hy)
      have HNX := Lib.hid (mvL_next hx hy)
      have hpre : (mvL xs (ys.take k)).length ≤ 16 := by have h1 := mvFr_len 0 xs (ys.take k); rw [List.length_take] at h1; unfold mvL; omega
      clear hx hy
      go_wp2_with fail
      go_loopw [5, 7] (fun q i wr => ∃ (p m c : Nat) (A : Option Addr), i = .int .i64 (p : Int) ∧ p ≤ 2 ∧ q = .slice A m c ∧ Acc w1 wr 63 3 A m c (bmvF (mvL xs (ys.take k) ++ mvP (k : Int) x y p))) (fun _ i _ => 2 - (intOf i).toNat)
      case atStart => exact ⟨0, _, _, _, rfl, by omega, rfl, by simpa [mvP] using HA.out⟩
      case round =>
        obtain ⟨wq, rfl⟩ : ∃ wq : World, wq = wr := ⟨_, rfl⟩
        obtain ⟨p, m, c', P, rfl, hp, rfl, hacc⟩ := hrel
        have hm : m ≤ 18 := by have h1 := hacc.len; have h2 := mvP_len k x y p; rw [bmvF_len, List.length_append] at h1; omega
        have hg := K1.out.below hacc.ext K1.out.lt
        have hh := K2.out.below hacc.ext K2.out.lt
        have z2 := hg.cell 2
        have v2 := hh.cell 2
        simp only [List.getElem?_toArray, List.getElem?_cons_zero, List.getElem?_cons_succ] at z2 v2
        have RXQ := Lib.hid (RX.out.below (hacc.ext.mono Z1.out))
        have RYQ := Lib.hid (RY.out.below (hacc.ext.mono Z2.out))
        obtain ⟨b, o, x', hAx, hx', hc0, hc1⟩ := RXQ.out.rod hlt
        obtain ⟨b', o', y', hAy, hy', hd0, hd1⟩ := RYQ.out.rod hlt
        rw [HX.out] at hx'
        injection hx' with hx'
        rw [HY.out] at hy'
        injection hy' with hy'
        subst hAx hAy hx' hy'
        have HA := Lib.hid hacc
        clear hacc hg hh
        rcases (show p = 0 ∨ p = 1 ∨ p = 2 by omega) with rfl | rfl | rfl
        · have hd1 : -9 ≤ y.a - x.a ∧ y.a - x.a ≤ 9 := by omega
          by_cases hz : y.a - x.a = 0
          · have HN := Lib.hid (mvP_one (show mvA (k : Int) x y = [] by unfold mvA; rw [if_pos hz]))
            have e0 : (y.a - x.a != 0) = false := by simp [hz]
            go_wp2_with fail
            go_quiet (fail)
            go_wp2_with fail
            go_roundw
            case rel => exact ⟨1, _, _, _, by go_num, by omega, rfl, by rw [HN.out, List.append_nil]; exact HA.out.drewN _⟩
            case measure => simp [intOf]
          · have HN := Lib.hid (mvP_one (show mvA (k : Int) x y = [⟨(k : Int), 0, y.a - x.a⟩] by unfold mvA; rw [if_neg hz]))
            have e0 : (y.a - x.a != 0) = true := by simp [hz]
            go_wp2_with fail
            go_quiet (fail)
            go_wp2_with (at_builtin; refine appBmv rfl _ _ rfl rfl ((HA.out.drewN _).alloc _) rfl (reads_newAt _ _ _ 3 [(k : Int), 0, y.a - x.a] _ (by simp) rfl rfl) (by omega) ?_; intro A2 c2 w2 hacc2 _)
            go_roundw
            case rel => exact ⟨1, _, _, _, by go_num, by omega, rfl, by rw [HN.out, ← List.append_assoc, bmvF_app, bmvF_one]; exact hacc2⟩
            case measure => simp [intOf]
        · have hd1 : -9 ≤ y.b - x.b ∧ y.b - x.b ≤ 9 := by omega
          by_cases hz : y.b - x.b = 0
          · have HN := Lib.hid (mvP_two (show mvB (k : Int) x y = [] by unfold mvB; rw [if_pos hz]))
            have e0 : (y.b - x.b != 0) = false := by simp [hz]
            go_wp2_with fail
            go_quiet (fail)
            go_wp2_with fail
            go_roundw
            case rel => exact ⟨2, _, _, _, by go_num, by omega, rfl, by rw [HN.out, List.append_nil]; exact HA.out.drewN _⟩
            case measure => simp [intOf]
          · have HN := Lib.hid (mvP_two (show mvB (k : Int) x y = [⟨(k : Int), 1, y.b - x.b⟩] by unfold mvB; rw [if_neg hz]))
            have e0 : (y.b - x.b != 0) = true := by simp [hz]
            go_wp2_with fail
            go_quiet (fail)
            go_wp2_with (at_builtin; refine appBmv rfl _ _ rfl rfl ((HA.out.drewN _).alloc _) rfl (reads_newAt _ _ _ 3 [(k : Int), 1, y.b - x.b] _ (by simp) rfl rfl) (by omega) ?_; intro A2 c2 w2 hacc2 _)
            go_roundw
            case rel => exact ⟨2, _, _, _, by go_num, by omega, rfl, by rw [HN.out, ← List.append_assoc, bmvF_app, bmvF_one]; exact hacc2⟩
            case measure => simp [intOf]
        · have HE := Lib.hid (show mvL xs (ys.take k) ++ mvP (k : Int) x y 2 = mvL xs (ys.take (k + 1)) by rw [HNX.out]; simp [mvP])
          go_wp2_with fail
          go_roundw
          case rel => exact ⟨k + 1, _, _, _, by go_num, by omega, rfl, by rw [← HE.out]; exact HA.out⟩
          case measure => simp [intOf]; omega
    · have hkn : k = n := by omega
      subst hkn
      have HE := Lib.hid (show ys.take k = ys by rw [List.take_of_length_le (by omega)])
      go_wp2_with fail
      go_ret
      exact ⟨_, _, _, rfl, by have h := HA.out.since HB.out; rwa [HE.out] at h⟩
set_option maxRecDepth 100000 in
set_option maxHeartbeats 8000000 in
theorem movesBetween_any (u l u2 l2 : Int) (A A2 : Option Addr) (n c c2 B B2 : Nat) (xs ys : List Rod) (w : World) (h : Reads w B 2 A n ((rodF xs).map (Value.int .i64))) (h2 : Reads w B2 2 A2 n ((rodF ys).map (Value.int .i64))) (hB : B ≤ w.heap.size) (hB2 : B2 ≤ w.heap.size) (hn : n ≤ 8) (hx : ∀ x ∈ xs, RodIn x) (hy : ∀ y ∈ ys, RodIn y) :
    Calls Try.prog 49 #[.agg #[.int .i64 u, .int .i64 l, .slice A n c], .agg #[.int .i64 u2, .int .i64 l2, .slice A2 n c2]] w fun e w' => GivesS 63 3 (bmvF (mvL xs ys)) w e w' := by
  have hb := ext_alloc (ext_alloc (Below.refl w.heap.size w) (.cells #[.int .i64 u, .int .i64 l, .slice A n c] 33)) (.cells #[.int .i64 u2, .int .i64 l2, .slice A2 n c2] 33)
  have hk1 := (Blk.new w 33 #[.int .i64 u, .int .i64 l, .slice A n c]).alloc (.cells #[.int .i64 u2, .int .i64 l2, .slice A2 n c2] 33)
  have hk2 := Blk.new (w.alloc (.cells #[.int .i64 u, .int .i64 l, .slice A n c] 33)) 33 #[.int .i64 u2, .int .i64 l2, .slice A2 n c2]
  have hz1 : (w.alloc (.cells #[.int .i64 u, .int .i64 l, .slice A n c] 33)).heap.size = w.heap.size + 1 := by simp
  rw [hz1] at hk2
  generalize hw1 : (w.alloc (.cells #[.int .i64 u, .int .i64 l, .slice A n c] 33)).alloc (.cells #[.int .i64 u2, .int .i64 l2, .slice A2 n c2] 33) = w1 at hb hk1 hk2
  have HB := Lib.hid hb
  have K1 := Lib.hid hk1
  have K2 := Lib.hid hk2
  have HW := Lib.hid hw1
  have hlx := h.rodLen
  have hly := h2.rodLen
  have RX := Lib.hid (h.below (hb.mono hB))
  have RY := Lib.hid (h2.below (hb.mono hB2))
  have HXI := Lib.hid hx
  have HYI := Lib.hid hy
  have Z1 := Lib.hid (Nat.le_trans hB hb.size)
  have Z2 := Lib.hid (Nat.le_trans hB2 hb.size)
  have HLY := Lib.hid hly
  have EMP := Lib.hid (Acc.empty (E := 63) (k := 3) (Below.refl w1.heap.size w1))
  have hzz : w1.heap.size = w.heap.size + 1 + 1 := by rw [← hw1]; simp
  rw [hzz] at EMP
  clear hb hk1 hk2 hz1 hw1 h h2 hx hy
  go_enter Try.func49, Try.ntmps49
  go_wp2_with fail
  rw [HW.out]
  go_loopw [5, 10] (fun q i wr => ∃ (k m c : Nat) (A : Option Addr), i = .int .i64 (k : Int) ∧ k ≤ n ∧ q = .slice A m c ∧ Acc w1 wr 63 3 A m c (bmvF (mvL xs (ys.take k)))) (fun _ i _ => n - (intOf i).toNat)
  case atStart => exact ⟨0, 0, 0, none, rfl, by omega, rfl, by cases xs <;> simpa [mvL, mvFr, bmvF] using (Acc.nil (Below.refl w1.heap.size w1))⟩
  case round =>
    obtain ⟨wo, rfl⟩ : ∃ wo : World, wo = wr := ⟨_, rfl⟩
    obtain ⟨k, m, c', P, rfl, hk, rfl, hacc⟩ := hrel
    have HA := Lib.hid hacc
    have k0 : (0 : Int) ≤ k := by omega
    clear hacc
    by_cases hlt : k < n
    · have k1 : (k : Int) < n := by omega
      obtain ⟨b, o, x, hAx, hx, hc0, hc1⟩ := RX.out.rod hlt
      obtain ⟨b', o', y, hAy, hy, hd0, hd1⟩ := RY.out.rod hlt
      subst hAx hAy
      have x2 := K1.out.cell 2
      have y2 := K2.out.cell 2
      simp only [List.getElem?_toArray, List.getElem?_cons_zero, List.getElem?_cons_succ] at x2 y2
      have C0 := Lib.hid x2
      have C1 := Lib.hid hc0
      have C2 := Lib.hid hc1
      have D0 := Lib.hid y2
      have D1 := Lib.hid hd0
      have D2 := Lib.hid hd1
      have HM := Lib.hid (rodMoves_any (k : Int) x y (HXI.out x (List.mem_of_getElem? hx)) (HYI.out y (List.mem_of_getElem? hy)))
      have HNX := Lib.hid (mvL_next hx hy)
      have hm : m ≤ 16 := by have h1 := HA.out.len; have h2 := mvFr_len 0 xs (ys.take k); rw [bmvF_len] at h1; rw [List.length_take] at h2; unfold mvL at h1; omega
      have hmv := mvR_len (k : Int) x y
      have bX : Below w1.heap.size w1 wo.drew := ext_drew HA.out.ext
      clear hx hy hc0 hc1 hd0 hd1 x2 y2
      go_wp2_with fail
      refine wp_region_held_drew (S := (fun W => W.cell? ⟨w.heap.size, 2, none⟩ = some (.slice (some ⟨b, o, none⟩) n c) ∧ W.cell? ⟨b, o + k * 2, none⟩ = some (.int .i64 x.a) ∧ W.cell? ⟨b, o + k * 2 + 1, none⟩ = some (.int .i64 x.b) ∧ W.cell? ⟨w.heap.size + 1, 2, none⟩ = some (.slice (some ⟨b', o', none⟩) n c2) ∧ W.cell? ⟨b', o' + k * 2, none⟩ = some (.int .i64 y.a) ∧ W.cell? ⟨b', o' + k * 2 + 1, none⟩ = some (.int .i64 y.b))) (by kernel_rfl) ?_ (fun hHeld => ?_)
      · (try dsimp only); exact ⟨below_cell (by assumption) C0.out, below_cell (by assumption) C1.out, below_cell (by assumption) C2.out, below_cell (by assumption) D0.out, below_cell (by assumption) D1.out, below_cell (by assumption) D2.out⟩
      refine wpAnyH_takeD (i := 0) (v := ?_) 13 rfl rfl (by kernel_rfl) (by kernel_rfl) (by kernel_rfl) (fun _ _ _ _ _ h => h) (by rfl) (by assumption) ?_ ?_
      rotate_left; focus (intro w hSw; (try dsimp only at hSw); go_simp; try (with_reducible rfl))
      (try simp only [Act.put]); (try simp only [List.setIfInBounds_toArray]); (try simp only [List.set_cons_succ]); (try simp only [List.set_cons_zero])
      refine wpAnyH_takeD (i := 1) (v := ?_) 14 rfl rfl (by kernel_rfl) (by kernel_rfl) (by kernel_rfl) (fun _ _ _ _ _ h => h) (by rfl) (by assumption) ?_ ?_
      rotate_left; focus (intro w hSw; (try dsimp only at hSw); go_simp; try (with_reducible rfl))
      (try simp only [Act.put]); (try simp only [List.setIfInBounds_toArray]); (try simp only [List.set_cons_succ]); (try simp only [List.set_cons_zero])
      refine wpAnyH_takeD (i := 2) (v := ?_) 15 rfl rfl (by kernel_rfl) (by kernel_rfl) (by kernel_rfl) (fun _ _ _ _ _ h => h) (by rfl) (by assumption) ?_ ?_
      rotate_left; focus (intro w hSw; (try dsimp only at hSw); go_simp; try (with_reducible rfl))
      (try simp only [Act.put]); (try simp only [List.setIfInBounds_toArray]); (try simp only [List.set_cons_succ]); (try simp only [List.set_cons_zero])
      refine wpAnyH_takeD (i := 3) (v := ?_) 16 rfl rfl (by kernel_rfl) (by kernel_rfl) (by kernel_rfl) (fun _ _ _ _ _ h => h) (by rfl) (by assumption) ?_ ?_
      rotate_left; focus (intro w hSw; (try dsimp only at hSw); go_simp; try (with_reducible rfl))
      (try simp only [Act.put]); (try simp only [List.setIfInBounds_toArray]); (try simp only [List.set_cons_succ]); (try simp only [List.set_cons_zero])
      refine wpAnyH_takeD (i := 4) (v := ?_) 17 rfl rfl (by kernel_rfl) (by kernel_rfl) (by kernel_rfl) (fun _ _ _ _ _ h => h) (by rfl) (by assumption) ?_ ?_
      rotate_left; focus (intro w hSw; (try dsimp only at hSw); go_simp; try (with_reducible rfl))
      (try simp only [Act.put]); (try simp only [List.setIfInBounds_toArray]); (try simp only [List.set_cons_succ]); (try simp only [List.set_cons_zero])
      refine wpAnyH_takeD (i := 5) (v := ?_) 18 rfl rfl (by kernel_rfl) (by kernel_rfl) (by kernel_rfl) (fun _ _ _ _ _ h => h) (by rfl) (by assumption) ?_ ?_
      rotate_left; focus (intro w hSw; (try dsimp only at hSw); go_simp; try (with_reducible rfl))
      (try simp only [Act.put]); (try simp only [List.setIfInBounds_toArray]); (try simp only [List.set_cons_succ]); (try simp only [List.set_cons_zero])
      refine wpAnyH_takeD (i := 6) (v := ?_) 19 rfl rfl (by kernel_rfl) (by kernel_rfl) (by kernel_rfl) (fun _ _ _ _ _ h => h) (by rfl) (by assumption) ?_ ?_
      rotate_left; focus (intro w hSw; (try dsimp only at hSw); go_simp; try (with_reducible rfl))
      (try simp only [Act.put]); (try simp only [List.setIfInBounds_toArray]); (try simp only [List.set_cons_succ]); (try simp only [List.set_cons_zero])
      refine wpAnyH_takeD (i := 7) (v := ?_) 20 rfl rfl (by kernel_rfl) (by kernel_rfl) (by kernel_rfl) (fun _ _ _ _ _ h => h) (by rfl) (by assumption) ?_ ?_
      rotate_left; focus (intro w hSw; (try dsimp only at hSw); go_simp; try (with_reducible rfl))
      (try simp only [Act.put]); (try simp only [List.setIfInBounds_toArray]); (try simp only [List.set_cons_succ]); (try simp only [List.set_cons_zero])
      refine wpAnyH_takeD (i := 8) (v := ?_) 21 rfl rfl (by kernel_rfl) (by kernel_rfl) (by kernel_rfl) (fun _ _ _ _ _ h => h) (by rfl) (by assumption) ?_ ?_
      rotate_left; focus (intro w hSw; (try dsimp only at hSw); go_simp; try (with_reducible rfl))
      (try simp only [Act.put]); (try simp only [List.setIfInBounds_toArray]); (try simp only [List.set_cons_succ]); (try simp only [List.set_cons_zero])
      refine wpAnyH_takeD (i := 9) (v := ?_) 22 rfl rfl (by kernel_rfl) (by kernel_rfl) (by kernel_rfl) (fun _ _ _ _ _ h => h) (by rfl) (by assumption) ?_ ?_
      rotate_left; focus (intro w hSw; (try dsimp only at hSw); go_simp; try (with_reducible rfl))
      (try simp only [Act.put]); (try simp only [List.setIfInBounds_toArray]); (try simp only [List.set_cons_succ]); (try simp only [List.set_cons_zero])
      refine wpAnyH_takeD (i := 10) (v := ?_) 23 rfl rfl (by kernel_rfl) (by kernel_rfl) (by kernel_rfl) (fun _ _ _ _ _ h => h) (by rfl) (by assumption) ?_ ?_
      rotate_left; focus (intro w hSw; (try dsimp only at hSw); go_simp; try (with_reducible rfl))
      (try simp only [Act.put]); (try simp only [List.setIfInBounds_toArray]); (try simp only [List.set_cons_succ]); (try simp only [List.set_cons_zero])
      refine wpAnyH_takeD (i := 11) (v := ?_) 24 rfl rfl (by kernel_rfl) (by kernel_rfl) (by kernel_rfl) (fun _ _ _ _ _ h => h) (by rfl) (by assumption) ?_ ?_
      rotate_left; focus (intro w hSw; (try dsimp only at hSw); go_simp; try (with_reducible rfl))
      (try simp only [Act.put]); (try simp only [List.setIfInBounds_toArray]); (try simp only [List.set_cons_succ]); (try simp only [List.set_cons_zero])
      refine wpAnyH_ready (rs := [12]) (by kernel_rfl) (by simp) ?_
      refine AllReadyH.cons rfl (fun K hK => ?_) AllReadyH.nil
      go_simp; (go_at_call 55; refine (HM.out _).mono ?_; rintro e w6 ⟨A6, n6, c6, rfl, a6⟩); have b6 := ext_trans bX a6.ext; have hn6 : n6 ≤ 2 := (by have h1 := a6.len; rw [bmvF_len] at h1; omega); (try dsimp only)
      refine hK.out _ _ ?_ (fun hHeld => ?_)
      focus ((try dsimp only); exact ⟨below_cell (by assumption) C0.out, below_cell (by assumption) C1.out, below_cell (by assumption) C2.out, below_cell (by assumption) D0.out, below_cell (by assumption) D1.out, below_cell (by assumption) D2.out⟩)
      clear hK K; (try simp only [Act.put]); (try simp only [List.setIfInBounds_toArray]); (try simp only [List.set_cons_succ]); (try simp only [List.set_cons_zero])
      refine wpAnyH_ready (rs := [13]) (by kernel_rfl) (by simp) ?_
      refine AllReadyH.cons rfl (fun K hK => ?_) AllReadyH.nil
      refine appBmv_b_step rfl (.tmp 13) (.tmp 25) rfl rfl (HA.out.drew.later a6.ext) rfl a6.reads (by omega) ?_; intro A7 c7 w7 a7 p7; have b7 := a7.ext; (try dsimp only)
      refine hK.out _ _ ?_ (fun hHeld => ?_)
      focus ((try dsimp only); exact ⟨below_cell (by assumption) C0.out, below_cell (by assumption) C1.out, below_cell (by assumption) C2.out, below_cell (by assumption) D0.out, below_cell (by assumption) D1.out, below_cell (by assumption) D2.out⟩)
      clear hK K; (try simp only [Act.put]); (try simp only [List.setIfInBounds_toArray]); (try simp only [List.set_cons_succ]); (try simp only [List.set_cons_zero])
      refine wpAnyH_takeD (i := 14) (v := ?_) 5 rfl rfl (by kernel_rfl) (by kernel_rfl) (by kernel_rfl) (fun _ _ _ _ _ h => h) (by rfl) (by assumption) ?_ ?_
      rotate_left; focus (intro w hSw; (try dsimp only at hSw); go_simp; try (with_reducible rfl))
      (try simp only [Act.put]); (try simp only [List.setIfInBounds_toArray]); (try simp only [List.set_cons_succ]); (try simp only [List.set_cons_zero])
      refine wpAnyH_done (by kernel_rfl) ?_ _
      have HE := Lib.hid (show bmvF (mvL xs (ys.take (k + 1))) = bmvF (mvL xs (ys.take k)) ++ bmvF (mvR (k : Int) x y) by rw [HNX.out, bmvF_app])
      clear hHeld
      go_wp2_with fail
      go_roundw
      case rel => exact ⟨k + 1, _, _, _, by go_num, by omega, rfl, by rw [HE.out]; exact a7⟩
      case measure => simp [intOf]; omega
    · have hkn : k = n := by omega
      subst hkn
      have HE := Lib.hid (show ys.take k = ys by rw [List.take_of_length_le (by omega)])
      go_wp2_with fail
      go_ret
      exact ⟨_, _, _, rfl, by have h := HA.out.since HB.out; rwa [HE.out] at h⟩
/-- The first difference of two lists of rods. -/
def cmpP : List Rod → List Rod → Int
  | x :: xs, y :: ys => if x.a = y.a then (if x.b = y.b then cmpP xs ys else x.b - y.b) else x.a - y.a
  | _, _ => 0
theorem cmpP_at : ∀ {i : Nat} {xs ys : List Rod} {x y : Rod}, xs.take i = ys.take i → xs[i]? = some x → ys[i]? = some y → x ≠ y → cmpP xs ys = (if x.a = y.a then x.b - y.b else x.a - y.a)
  | 0, z :: xs, v :: ys, x, y, _, hx, hy, hne => by
    obtain rfl : z = x := by simpa using hx
    obtain rfl : v = y := by simpa using hy
    rw [cmpP]
    split
    · rename_i ha
      rw [if_neg]
      intro hb
      exact hne (by cases z; cases v; simp_all)
    · rfl
  | 0, [], _, x, y, _, hx, _, _ => by simp at hx
  | 0, _ :: _, [], x, y, _, _, hy, _ => by simp at hy
  | i + 1, [], _, x, y, _, hx, _, _ => by simp at hx
  | i + 1, _ :: _, [], x, y, _, _, hy, _ => by simp at hy
  | i + 1, z :: xs, v :: ys, x, y, ht, hx, hy, hne => by
    simp only [List.take_succ_cons, List.cons.injEq] at ht
    obtain ⟨rfl, ht⟩ := ht
    rw [cmpP, if_pos rfl, if_pos rfl]
    exact cmpP_at ht (by simpa using hx) (by simpa using hy) hne
theorem cmpP_self : ∀ (xs : List Rod), cmpP xs xs = 0
  | [] => rfl
  | x :: xs => by rw [cmpP, if_pos rfl, if_pos rfl]; exact cmpP_self xs
theorem cmpP_bef : ∀ (xs ys : List Rod), decide (cmpP xs ys < 0) = befB xs ys
  | [], ys => by simp [cmpP, befB]
  | x :: xs, [] => by simp [cmpP, befB]
  | x :: xs, y :: ys => by
    have ih := cmpP_bef xs ys
    rw [cmpP, befB]
    split
    · split
      · exact ih
      · congr 1; simp; omega
    · congr 1; simp; omega
theorem cmpP_bd : ∀ (xs ys : List Rod), (∀ x ∈ xs, RodIn x) → (∀ y ∈ ys, RodIn y) → -9 ≤ cmpP xs ys ∧ cmpP xs ys ≤ 9
  | [], ys, _, _ => by simp [cmpP]
  | x :: xs, [], _, _ => by simp [cmpP]
  | x :: xs, y :: ys, hx, hy => by
    have ih := cmpP_bd xs ys (fun z hz => hx z (by simp [hz])) (fun z hz => hy z (by simp [hz]))
    obtain ⟨a, b, c, d⟩ := hx x (by simp)
    obtain ⟨e, f, g, h⟩ := hy y (by simp)
    rw [cmpP]
    split
    · split
      · exact ih
      · omega
    · omega
set_option maxRecDepth 100000 in
set_option maxHeartbeats 8000000 in
theorem l13Before_any (A A2 : Option Addr) (n c c2 B B2 : Nat) (xs ys : List Rod) (w : World) (h : Reads w B 2 A n ((rodF xs).map (Value.int .i64))) (h2 : Reads w B2 2 A2 n ((rodF ys).map (Value.int .i64))) (hn : n ≤ 8) (hx : ∀ x ∈ xs, RodIn x) (hy : ∀ y ∈ ys, RodIn y) :
    Calls Try.prog 57 #[.slice A n c, .slice A2 n c2] w fun e w' => e = .returned (.bool (befB xs ys)) ∧ ∃ m, w' = w.drewN m := by
  have hlx := h.rodLen
  have hly := h2.rodLen
  have RX := Lib.hid h
  have RY := Lib.hid h2
  have HXI := Lib.hid hx
  have HYI := Lib.hid hy
  clear h h2 hx hy
  go_enter Try.func57, Try.ntmps57
  go_wp2_with fail
  go_loopw [5] (fun i wr => ∃ k m : Nat, i = .int .i64 (k : Int) ∧ k ≤ n ∧ xs.take k = ys.take k ∧ wr = w.drewN m) (fun i _ => n - (intOf i).toNat)
  case atStart => exact ⟨0, 0, rfl, by omega, rfl, rfl⟩
  case round =>
    obtain ⟨wo, rfl⟩ : ∃ wo : World, wo = wr := ⟨_, rfl⟩
    obtain ⟨k, m, rfl, hk, ht, hwm⟩ := hrel
    have HT := Lib.hid ht
    have HW := Lib.hid hwm
    have k0 : (0 : Int) ≤ k := by omega
    clear ht hwm
    by_cases hlt : k < n
    · have k1 : (k : Int) < n := by omega
      obtain ⟨x, hx⟩ : ∃ x, xs[k]? = some x := ⟨_, List.getElem?_eq_getElem (by omega)⟩
      obtain ⟨y, hy⟩ : ∃ y, ys[k]? = some y := ⟨_, List.getElem?_eq_getElem (by omega)⟩
      obtain ⟨x0, x1, x2, x3⟩ := HXI.out x (List.mem_of_getElem? hx)
      obtain ⟨y0, y1, y2, y3⟩ := HYI.out y (List.mem_of_getElem? hy)
      have HX := Lib.hid hx
      have HY := Lib.hid hy
      clear hx hy
      go_wp2_with fail
      go_loopw [6] (fun i wr => ∃ p m : Nat, i = .int .i64 (p : Int) ∧ p ≤ 2 ∧ (1 ≤ p → x.a = y.a) ∧ (2 ≤ p → x.b = y.b) ∧ wr = w.drewN m) (fun i _ => 2 - (intOf i).toNat)
      case atStart => exact ⟨0, _, rfl, by omega, fun h => by omega, fun h => by omega, HW.out⟩
      case round =>
        obtain ⟨wq, rfl⟩ : ∃ wq : World, wq = wr := ⟨_, rfl⟩
        obtain ⟨p, m2, rfl, hp, hpa, hpb, hwm⟩ := hrel
        have RXQ := Lib.hid (show Reads wq B 2 A n ((rodF xs).map (Value.int .i64)) by rw [hwm]; exact RX.out.drewN m2)
        have RYQ := Lib.hid (show Reads wq B2 2 A2 n ((rodF ys).map (Value.int .i64)) by rw [hwm]; exact RY.out.drewN m2)
        obtain ⟨b, o, x', hAx, hx', hc0, hc1⟩ := RXQ.out.rod hlt
        obtain ⟨b', o', y', hAy, hy', hd0, hd1⟩ := RYQ.out.rod hlt
        rw [HX.out] at hx'
        injection hx' with hx'
        rw [HY.out] at hy'
        injection hy' with hy'
        subst hAx hAy hx' hy'
        have HWQ := Lib.hid hwm
        clear hwm
        rcases (show p = 0 ∨ p = 1 ∨ p = 2 by omega) with rfl | rfl | rfl
        · have HPA := Lib.hid hpa
          clear hpa hpb
          by_cases he : x.a = y.a
          · have e0 : (x.a != y.a) = false := by simp [he]
            have HE := Lib.hid he
            clear he
            go_wp2_with fail
            go_quiet (fail)
            go_wp2_with fail
            go_roundw
            case rel => exact ⟨1, _, by go_num, by omega, fun _ => HE.out, fun h => absurd h (by omega), by rw [HWQ.out]; exact World.drewN_drewN _ _ _⟩
            case measure => simp [intOf]
          · have e0 : (x.a != y.a) = true := by simp [he]
            have HE := Lib.hid (show befB xs ys = decide (x.a < y.a) by rw [befB_at HT.out HX.out HY.out (fun h => he (by rw [h]))]; exact if_neg he)
            clear he
            go_wp2_with fail
            go_quiet (fail)
            go_wp2_with fail
            go_quiet (fail)
            go_wp2_with fail
            go_ret
            exact ⟨by rw [HE.out]; rfl, _, by rw [HWQ.out]; (try rw [World.drewN_drewN]); exact World.drewN_drewN _ _ _⟩
        · have HPA := Lib.hid hpa
          clear hpa hpb
          by_cases he : x.b = y.b
          · have e0 : (x.b != y.b) = false := by simp [he]
            have HE := Lib.hid he
            clear he
            go_wp2_with fail
            go_quiet (fail)
            go_wp2_with fail
            go_roundw
            case rel => exact ⟨2, _, by go_num, by omega, fun _ => HPA.out (by omega), fun h => HE.out, by rw [HWQ.out]; exact World.drewN_drewN _ _ _⟩
            case measure => simp [intOf]
          · have e0 : (x.b != y.b) = true := by simp [he]
            have HE := Lib.hid (show befB xs ys = decide (x.b < y.b) by rw [befB_at HT.out HX.out HY.out (fun h => he (by rw [h]))]; exact if_pos (HPA.out (by omega)))
            clear he
            go_wp2_with fail
            go_quiet (fail)
            go_wp2_with fail
            go_quiet (fail)
            go_wp2_with fail
            go_ret
            exact ⟨by rw [HE.out]; rfl, _, by rw [HWQ.out]; (try rw [World.drewN_drewN]); exact World.drewN_drewN _ _ _⟩
        · have HE := Lib.hid (show xs.take (k + 1) = ys.take (k + 1) by
            rw [rodF_snoc HX.out, rodF_snoc HY.out, HT.out]
            have h1 := hpa (by omega)
            have h2 := hpb (by omega)
            cases x; cases y
            simp only at h1 h2
            rw [h1, h2])
          clear hpa hpb
          go_wp2_with fail
          go_roundw
          case rel => exact ⟨k + 1, _, by go_num, by omega, HE.out, HWQ.out⟩
          case measure => simp [intOf]; omega
    · have hkn : k = n := by omega
      subst hkn
      have hxy : xs = ys := by
        have := HT.out
        rwa [List.take_of_length_le (by omega), List.take_of_length_le (by omega)] at this
      have HE := Lib.hid (show befB xs ys = false by rw [hxy]; exact befB_self ys)
      clear hxy
      go_wp2_with fail
      go_ret
      exact ⟨by rw [HE.out]; rfl, _, HW.out⟩
set_option maxRecDepth 100000 in
set_option maxHeartbeats 8000000 in
theorem comparePairs_any (A A2 : Option Addr) (n c c2 B B2 : Nat) (xs ys : List Rod) (w : World) (h : Reads w B 2 A n ((rodF xs).map (Value.int .i64))) (h2 : Reads w B2 2 A2 n ((rodF ys).map (Value.int .i64))) (hn : n ≤ 8) (hx : ∀ x ∈ xs, RodIn x) (hy : ∀ y ∈ ys, RodIn y) :
    Calls Try.prog 60 #[.slice A n c, .slice A2 n c2] w fun e w' => e = .returned (.int .i64 (cmpP xs ys)) ∧ ∃ m, w' = w.drewN m := by
  have hlx := h.rodLen
  have hly := h2.rodLen
  have RX := Lib.hid h
  have RY := Lib.hid h2
  have HXI := Lib.hid hx
  have HYI := Lib.hid hy
  clear h h2 hx hy
  go_enter Try.func60, Try.ntmps60
  go_wp2_with fail
  go_loopw [9] (fun i wr => ∃ k m : Nat, i = .int .i64 (k : Int) ∧ k ≤ n ∧ xs.take k = ys.take k ∧ wr = w.drewN m) (fun i _ => n - (intOf i).toNat)
  case atStart => exact ⟨0, 0, rfl, by omega, rfl, rfl⟩
  case round =>
    obtain ⟨wo, rfl⟩ : ∃ wo : World, wo = wr := ⟨_, rfl⟩
    obtain ⟨k, m, rfl, hk, ht, hwm⟩ := hrel
    have HT := Lib.hid ht
    have HW := Lib.hid hwm
    have k0 : (0 : Int) ≤ k := by omega
    clear ht hwm
    by_cases hlt : k < n
    · have k1 : (k : Int) < n := by omega
      obtain ⟨x, hx⟩ : ∃ x, xs[k]? = some x := ⟨_, List.getElem?_eq_getElem (by omega)⟩
      obtain ⟨y, hy⟩ : ∃ y, ys[k]? = some y := ⟨_, List.getElem?_eq_getElem (by omega)⟩
      obtain ⟨x0, x1, x2, x3⟩ := HXI.out x (List.mem_of_getElem? hx)
      obtain ⟨y0, y1, y2, y3⟩ := HYI.out y (List.mem_of_getElem? hy)
      have HX := Lib.hid hx
      have HY := Lib.hid hy
      clear hx hy
      go_wp2_with fail
      go_loopw [12] (fun i wr => ∃ p m : Nat, i = .int .i64 (p : Int) ∧ p ≤ 2 ∧ (1 ≤ p → x.a = y.a) ∧ (2 ≤ p → x.b = y.b) ∧ wr = w.drewN m) (fun i _ => 2 - (intOf i).toNat)
      case atStart => exact ⟨0, _, rfl, by omega, fun h => by omega, fun h => by omega, HW.out⟩
      case round =>
        obtain ⟨wq, rfl⟩ : ∃ wq : World, wq = wr := ⟨_, rfl⟩
        obtain ⟨p, m2, rfl, hp, hpa, hpb, hwm⟩ := hrel
        have RXQ := Lib.hid (show Reads wq B 2 A n ((rodF xs).map (Value.int .i64)) by rw [hwm]; exact RX.out.drewN m2)
        have RYQ := Lib.hid (show Reads wq B2 2 A2 n ((rodF ys).map (Value.int .i64)) by rw [hwm]; exact RY.out.drewN m2)
        obtain ⟨b, o, x', hAx, hx', hc0, hc1⟩ := RXQ.out.rod hlt
        obtain ⟨b', o', y', hAy, hy', hd0, hd1⟩ := RYQ.out.rod hlt
        rw [HX.out] at hx'
        injection hx' with hx'
        rw [HY.out] at hy'
        injection hy' with hy'
        subst hAx hAy hx' hy'
        have HWQ := Lib.hid hwm
        clear hwm
        rcases (show p = 0 ∨ p = 1 ∨ p = 2 by omega) with rfl | rfl | rfl
        · have HPA := Lib.hid hpa
          clear hpa hpb
          by_cases he : x.a = y.a
          · have e0 : (x.a != y.a) = false := by simp [he]
            have HE := Lib.hid he
            clear he
            go_wp2_with fail
            go_quiet (fail)
            go_wp2_with fail
            go_roundw
            case rel => exact ⟨1, _, by go_num, by omega, fun _ => HE.out, fun h => absurd h (by omega), by rw [HWQ.out]; exact World.drewN_drewN _ _ _⟩
            case measure => simp [intOf]
          · have e0 : (x.a != y.a) = true := by simp [he]
            have HE := Lib.hid (show cmpP xs ys = x.a - y.a by rw [cmpP_at HT.out HX.out HY.out (fun h => he (by rw [h]))]; exact if_neg he)
            clear he
            go_wp2_with fail
            go_quiet (fail)
            go_wp2_with fail
            go_quiet (fail)
            go_wp2_with fail
            go_ret
            exact ⟨by rw [HE.out]; rfl, _, by rw [HWQ.out]; (try rw [World.drewN_drewN]); exact World.drewN_drewN _ _ _⟩
        · have HPA := Lib.hid hpa
          clear hpa hpb
          by_cases he : x.b = y.b
          · have e0 : (x.b != y.b) = false := by simp [he]
            have HE := Lib.hid he
            clear he
            go_wp2_with fail
            go_quiet (fail)
            go_wp2_with fail
            go_roundw
            case rel => exact ⟨2, _, by go_num, by omega, fun _ => HPA.out (by omega), fun h => HE.out, by rw [HWQ.out]; exact World.drewN_drewN _ _ _⟩
            case measure => simp [intOf]
          · have e0 : (x.b != y.b) = true := by simp [he]
            have HE := Lib.hid (show cmpP xs ys = x.b - y.b by rw [cmpP_at HT.out HX.out HY.out (fun h => he (by rw [h]))]; exact if_pos (HPA.out (by omega)))
            clear he
            go_wp2_with fail
            go_quiet (fail)
            go_wp2_with fail
            go_quiet (fail)
            go_wp2_with fail
            go_ret
            exact ⟨by rw [HE.out]; rfl, _, by rw [HWQ.out]; (try rw [World.drewN_drewN]); exact World.drewN_drewN _ _ _⟩
        · have HE := Lib.hid (show xs.take (k + 1) = ys.take (k + 1) by
            rw [rodF_snoc HX.out, rodF_snoc HY.out, HT.out]
            have h1 := hpa (by omega)
            have h2 := hpb (by omega)
            cases x; cases y
            simp only at h1 h2
            rw [h1, h2])
          clear hpa hpb
          go_wp2_with fail
          go_roundw
          case rel => exact ⟨k + 1, _, by go_num, by omega, HE.out, HWQ.out⟩
          case measure => simp [intOf]; omega
    · have hkn : k = n := by omega
      subst hkn
      have hxy : xs = ys := by
        have := HT.out
        rwa [List.take_of_length_le (by omega), List.take_of_length_le (by omega)] at this
      have HE := Lib.hid (show cmpP xs ys = 0 by rw [hxy]; exact cmpP_self ys)
      clear hxy
      go_wp2_with fail
      go_ret
      exact ⟨by rw [HE.out]; rfl, _, HW.out⟩
end Go.Proofs.Ytkgbcjiinicffaa
