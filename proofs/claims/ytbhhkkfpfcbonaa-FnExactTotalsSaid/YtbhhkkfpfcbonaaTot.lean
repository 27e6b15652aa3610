/- Chapter 9: totals. No condition. -/
import Derived.Test.YtbhhkkfpfcbonaaParts
import Derived.Test.YtbhhkkfpfcbonaaWrong
namespace Go.Proofs.Ytbhhkkfpfcbonaa
open Go.RowKit

/-- What the first k parts count. -/
def totS (ps : List Int) : Nat → Int
  | 0 => 0
  | k + 1 => totS ps k + ps.getD (k * 3 + 2) 0 * pow10 (ps.getD (k * 3) 0 + ps.getD (k * 3 + 1) 0).toNat
/-- The sums up to each of the first k parts. -/
def totL (ps : List Int) : Nat → List Int
  | 0 => []
  | k + 1 => totL ps k ++ [totS ps (k + 1)]
theorem totL_len (ps : List Int) : ∀ k, (totL ps k).length = k
  | 0 => rfl
  | k + 1 => by simp [totL, totL_len ps k]
theorem totS_succ {ps : List Int} {k : Nat} {x y z : Int} (hx : ps[k * 3]? = some x) (hy : ps[k * 3 + 1]? = some y) (hz : ps[k * 3 + 2]? = some z) : totS ps (k + 1) = totS ps k + z * pow10 (x + y).toNat := by
  have e1 : ps.getD (k * 3) 0 = x := by simp [List.getD, hx]
  have e2 : ps.getD (k * 3 + 1) 0 = y := by simp [List.getD, hy]
  have e3 : ps.getD (k * 3 + 2) 0 = z := by simp [List.getD, hz]
  rw [totS, e1, e2, e3]
theorem part_bd {x y z : Int} (hx : 0 ≤ x) (hx' : x ≤ 3) (hy : 0 ≤ y) (hy' : y ≤ 3) (hz : 0 ≤ z) (hz' : z ≤ 81) : 0 ≤ z * pow10 (x + y).toNat ∧ z * pow10 (x + y).toNat ≤ 81000000 ∧ 1 ≤ pow10 (x + y).toNat ∧ pow10 (x + y).toNat ≤ 1000000 := by
  have h1 := pow10_pos (x + y).toNat
  have h2 := pow10_le (show (x + y).toNat ≤ 6 by omega)
  have e : pow10 6 = 1000000 := rfl
  rw [e] at h2
  exact ⟨Int.mul_nonneg hz (by omega), Int.le_trans (Int.mul_le_mul hz' h2 (by omega) (by omega)) (by omega), h1, h2⟩
theorem totS_bd {ps : List Int} (h : Good ps) : ∀ k, k * 3 ≤ ps.length → 0 ≤ totS ps k ∧ totS ps k ≤ k * 81000000
  | 0, _ => by simp [totS]
  | k + 1, hk => by
    have ih := totS_bd h k (by omega)
    have hx : ps[k * 3]? = some (ps[k * 3]'(by omega)) := List.getElem?_eq_getElem (by omega)
    have hy : ps[k * 3 + 1]? = some (ps[k * 3 + 1]'(by omega)) := List.getElem?_eq_getElem (by omega)
    have hz : ps[k * 3 + 2]? = some (ps[k * 3 + 2]'(by omega)) := List.getElem?_eq_getElem (by omega)
    obtain ⟨a1, a2, a3, a4, a5, a6⟩ := h.2 k _ _ _ hx hy hz
    have := part_bd a1 a2 a3 a4 a5 a6
    rw [totS_succ hx hy hz]
    omega
/-- What Totals gives. -/
def tots (a b : Int) : List Int := totL (parts a b) ((parts a b).length / 3)
theorem tots_len (a b : Int) : (tots a b).length ≤ 16 := by
  have := parts_len a b
  unfold tots
  rw [totL_len]; omega

set_option maxHeartbeats 1000000 in
theorem counts_any (x y z : Int) (hx : 0 ≤ x) (hx' : x ≤ 3) (hy : 0 ≤ y) (hy' : y ≤ 3) (hz : 0 ≤ z) (hz' : z ≤ 81) (w : World) :
    Calls Try.prog 48 #[.agg #[.int .i64 x, .int .i64 y, .int .i64 z]] w fun e w' => e = .returned (.int .i64 (z * pow10 (x + y).toNat)) ∧ Below w.heap.size w w' := by
  obtain ⟨p1, p2, p3, p4⟩ := part_bd hx hx' hy hy' hz hz'
  have q1 : IntKind.i64.wrap (x + y) = x + y := IntWalk.i64_in _ ⟨by omega, by omega⟩
  have q2 : IntKind.i64.wrap (z * pow10 (x + y).toNat) = z * pow10 (x + y).toNat := IntWalk.i64_in _ ⟨by omega, by omega⟩
  go_enter Try.func48, Try.ntmps48
  go_wp2_with fail
  go_quiet ((go_at_call 42; exact quiet_left (power_any _ (by omega) _)))
  clear q1 q2
  go_wp2_with fail
  go_ret
  exact ⟨rfl, ext_drewN (ext_alloc (Below.refl _ _) _) _⟩
set_option maxHeartbeats 2000000 in
theorem sTotals_any (a b : Int) (w : World) :
    Calls Try.prog 31 #[.int .i64 a, .int .i64 b] w (Gives 3 1 (tots a b) (inB a 0 9999 && inB b 0 9999) w) := by
  cases h : (inB a 0 9999 && inB b 0 9999)
  · go_enter Try.func31, Try.ntmps31
    go_wp2_with (go_at_call 33; refine (l9Both_any _ _ _).mono ?_; rintro e w' ⟨rfl, rfl⟩)
    go_ret2
    exact ⟨_, _, _, rfl, by simp only [tots, parts, h, Bool.false_eq_true, if_false]; exact Acc.empty (Below.refl _ _)⟩
  · have h' := h
    simp only [Bool.and_eq_true] at h'
    obtain ⟨a1, a2⟩ := inB_true h'.1
    obtain ⟨b1, b2⟩ := inB_true h'.2
    have hd : tots a b = totL (partsL a b) ((partsL a b).length / 3) := by simp only [tots, parts, if_pos h]
    have hin := l9Parts_any a b a1 a2 b1 b2
    have hgood := partsL_good a1 a2 b1 b2
    have hlen := partsL_len a1 a2 b1 b2
    generalize partsL a b = ps at *
    have htb := totS_bd hgood
    have HD := Lib.hid hd
    have HIN := Lib.hid hin
    have HG := Lib.hid hgood
    have HTB := Lib.hid htb
    clear hd h' hin hgood htb
    go_enter Try.func31, Try.ntmps31
    go_wp2_with (go_at_call 33; refine (l9Both_any _ _ _).mono ?_; rintro e w' ⟨rfl, rfl⟩)
    refine (HIN.out _).mono ?_
    rintro e w1 ⟨A, n, c, rfl, h1⟩
    have hl := h1.len
    have HL := Lib.hid hl
    have hn : n ≤ 16 := by omega
    clear hl
    have hA0 := (Acc.empty (E := 3) (k := 1) (Below.refl w.heap.size w)).later h1.ext
    have hS0 := Side.made (s := none) (o := 0) h1 (g := w.heap.size) (by simp)
    go_wp2_with fail
    go_loopw [6, 8, 9] (fun v s i wr => ∃ (k m c : Nat) (A' : Option Addr), i = .int .i64 (k : Int) ∧ k ≤ n ∧ s = .int .i64 (totS ps k) ∧ v = .slice A' m c ∧ Acc w wr 3 1 A' m c (totL ps k) ∧ Side wr w1.heap.size 3 A n ps A') (fun _ _ i _ => n - (intOf i).toNat)
    case atStart => exact ⟨0, _, _, _, rfl, by omega, rfl, rfl, hA0, hS0⟩
    case round =>
      clear hA0 hS0
      obtain ⟨k, m', c', A', rfl, hk, rfl, rfl, hacc, hside⟩ := hrel
      obtain rfl : k = m' := by have h1 := hacc.len; have h2 := totL_len ps k; omega
      obtain ⟨t1, t2⟩ := HTB.out k (by have := HL.out; omega)
      by_cases hlt : k < n
      · obtain ⟨g, o, rfl, hr⟩ := hside.reads.row hlt (by omega)
        obtain ⟨x, hx, hc0⟩ := hr 0 (by omega)
        obtain ⟨y, hy, hc1⟩ := hr 1 (by omega)
        obtain ⟨z, hz, hc2⟩ := hr 2 (by omega)
        clear hr
        simp only [Nat.add_zero, ← Nat.add_assoc] at hx hy hz hc0 hc1 hc2
        obtain ⟨x1, x2, y1, y2, z1, z2⟩ := HG.out.2 k _ _ _ hx hy hz
        obtain ⟨p1, p2, p3, p4⟩ := part_bd x1 x2 y1 y2 z1 z2
        have HS := Lib.hid (totS_succ hx hy hz)
        have HLL := Lib.hid (show totL ps (k + 1) = totL ps k ++ [totS ps (k + 1)] from rfl)
        clear hx hy hz
        generalize hts : totS ps k = T at *
        clear hts
        have hk1 : (k : Int) < n := by omega
        have hk2 : (0 : Int) ≤ k := by omega
        have q1 : IntKind.i64.wrap (x + y) = x + y := IntWalk.i64_in _ ⟨by omega, by omega⟩
        have q2 : IntKind.i64.wrap (z * pow10 (x + y).toNat) = z * pow10 (x + y).toNat := IntWalk.i64_in _ ⟨by omega, by omega⟩
        have q3 : IntKind.i64.wrap (T + z * pow10 (x + y).toNat) = T + z * pow10 (x + y).toNat := IntWalk.i64_in _ ⟨by omega, by omega⟩
        go_wp2_with fail
        go_quiet ((go_at_call 41; exact quiet_left (l2Power_any _ (by omega) _)))
        clear q1 q2 q3
        go_wp2_with (at_builtin; refine appI_b rfl _ _ rfl rfl ((hacc.drewN _).alloc _) rfl (reads_newAt _ _ _ 1 [T + z * pow10 (x + y).toNat] _ (by simp) rfl rfl) (by omega) ?_; intro A2 c2 w3 hacc' hpu)
        go_roundw
        case rel => exact ⟨k + 1, _, _, _, by go_num, by omega, by rw [HS.out], rfl, by rw [HLL.out, HS.out]; exact hacc', ((hside.drewN _).alloc _).pushed hpu⟩
        case measure => simp [intOf]; omega
      · have hk' : k = n := by omega
        subst hk'
        go_wp2
        go_ret2
        exact ⟨A', k, c', rfl, by rw [HD.out, HL.out, Nat.mul_div_cancel _ (by omega)]; exact hacc⟩
set_option maxHeartbeats 2000000 in
theorem iTotals_any (a b : Int) (w : World) :
    Calls Try.prog 32 #[.int .i64 a, .int .i64 b] w (Gives 3 1 (tots a b) (inB a 0 9999 && inB b 0 9999) w) := by
  cases h : (inB a 0 9999 && inB b 0 9999)
  · go_enter Try.func32, Try.ntmps32
    go_wp2_with (go_at_call 34; refine (areFactors_any _ _ _).mono ?_; rintro e w' ⟨rfl, rfl⟩)
    go_ret2
    exact ⟨_, _, _, rfl, by simp only [tots, parts, h, Bool.false_eq_true, if_false]; exact Acc.nil (Below.refl _ _)⟩
  · have h' := h
    simp only [Bool.and_eq_true] at h'
    obtain ⟨a1, a2⟩ := inB_true h'.1
    obtain ⟨b1, b2⟩ := inB_true h'.2
    have hd : tots a b = totL (partsL a b) ((partsL a b).length / 3) := by simp only [tots, parts, if_pos h]
    have hin := partsOf_any a b a1 a2 b1 b2
    have hgood := partsL_good a1 a2 b1 b2
    have hlen := partsL_len a1 a2 b1 b2
    generalize partsL a b = ps at *
    have htb := totS_bd hgood
    have HD := Lib.hid hd
    have HIN := Lib.hid hin
    have HG := Lib.hid hgood
    have HTB := Lib.hid htb
    clear hd h' hin hgood htb
    go_enter Try.func32, Try.ntmps32
    go_wp2_with (go_at_call 34; refine (areFactors_any _ _ _).mono ?_; rintro e w' ⟨rfl, rfl⟩)
    refine (HIN.out _).mono ?_
    rintro e w1 ⟨A, n, c, rfl, h1⟩
    have hl := h1.len
    have HL := Lib.hid hl
    have hn : n ≤ 16 := by omega
    clear hl
    have hA0 := Acc.nil (E := 3) (k := 1) h1.ext
    have hS0 := Side.none_ h1.reads (Nat.le_refl _)
    go_wp2_with fail
    go_loopw [6, 7, 18] (fun v s i wr => ∃ (k m c : Nat) (A' : Option Addr), i = .int .i64 (k : Int) ∧ k ≤ n ∧ s = .int .i64 (totS ps k) ∧ v = .slice A' m c ∧ Acc w wr 3 1 A' m c (totL ps k) ∧ Side wr w1.heap.size 3 A n ps A') (fun _ _ i _ => n - (intOf i).toNat)
    case atStart => exact ⟨0, _, _, _, rfl, by omega, rfl, rfl, hA0, hS0⟩
    case round =>
      clear hA0 hS0
      obtain ⟨k, m', c', A', rfl, hk, rfl, rfl, hacc, hside⟩ := hrel
      obtain rfl : k = m' := by have h1 := hacc.len; have h2 := totL_len ps k; omega
      obtain ⟨t1, t2⟩ := HTB.out k (by have := HL.out; omega)
      by_cases hlt : k < n
      · obtain ⟨g, o, rfl, hr⟩ := hside.reads.row hlt (by omega)
        obtain ⟨x, hx, hc0⟩ := hr 0 (by omega)
        obtain ⟨y, hy, hc1⟩ := hr 1 (by omega)
        obtain ⟨z, hz, hc2⟩ := hr 2 (by omega)
        clear hr
        simp only [Nat.add_zero, ← Nat.add_assoc] at hx hy hz hc0 hc1 hc2
        obtain ⟨x1, x2, y1, y2, z1, z2⟩ := HG.out.2 k _ _ _ hx hy hz
        obtain ⟨p1, p2, p3, p4⟩ := part_bd x1 x2 y1 y2 z1 z2
        have HS := Lib.hid (totS_succ hx hy hz)
        have HLL := Lib.hid (show totL ps (k + 1) = totL ps k ++ [totS ps (k + 1)] from rfl)
        clear hx hy hz
        generalize hts : totS ps k = T at *
        clear hts
        go_wp2_with fail
        refine (counts_any _ _ _ x1 x2 y1 y2 z1 z2 _).mono ?_
        rintro e w' ⟨rfl, hb'⟩
        have hacc2 := (hacc.alloc _).later hb'
        have hside2 := (hside.alloc _).later hb'
        generalize hpr : z * pow10 (x + y).toNat = pr at *
        clear hb' hpr hacc hside
        go_wp2_with (at_builtin; refine appI_b rfl _ _ rfl rfl (hacc2.alloc _) rfl (reads_newAt _ _ _ 1 [T + pr] _ (by simp) rfl rfl) (by omega) ?_; intro A2 c2 w3 hacc' hpu)
        go_roundw
        case rel => exact ⟨k + 1, _, _, _, by go_num, by omega, by rw [HS.out], rfl, by rw [HLL.out, HS.out]; exact hacc', (hside2.alloc _).pushed hpu⟩
        case measure => simp [intOf]; omega
      · have hk' : k = n := by omega
        subst hk'
        go_wp2
        go_ret2
        exact ⟨A', k, c', rfl, by rw [HD.out, HL.out, Nat.mul_div_cancel _ (by omega)]; exact hacc⟩
set_option maxHeartbeats 1000000 in
theorem FnExactTotals_any (a : Int) (_ : (Lit.int .i64 a).wf = true) (b : Int) (_ : (Lit.int .i64 b).wf = true) (w : World) :
    Calls Try.prog 9 #[.int .i64 a, .int .i64 b] w fun e w' => e = .returned (.bool true) ∧ Below w.heap.size w w' := by
  have hbd : (tots a b).length ≤ 1000000 := Nat.le_trans (tots_len a b) (by omega)
  have hs := sTotals_any a b
  have hi := iTotals_any a b
  generalize tots a b = zs at hs hi hbd
  generalize (inB a 0 9999 && inB b 0 9999) = ok at hs hi
  have HS := Lib.hid hs
  have HI := Lib.hid hi
  have he := eqB_self zs
  clear hs hi
  go_enter Try.func9, Try.ntmps9
  go_wp2_with fail
  refine (HS.out _).mono ?_
  rintro e w1 ⟨A0, n0, c0, rfl, h0⟩
  go_wp2_with fail
  refine (HI.out _).mono ?_
  rintro e w2 ⟨A1, n1, c1, rfl, h1⟩
  have b0 := h0.len
  have b1 := h1.len
  have b1' : n1 ≤ 1000000 := by omega
  have b0' : n0 ≤ 1000000 := by omega
  clear b0 b1
  go_wp2_with fail
  refine (eqIntS_any A1 A0 n1 n0 c1 c0 _ _ zs zs _ h1.reads (h0.reads.below h1.ext) (by unfold maxLen; omega) (by unfold maxLen; omega)).mono ?_
  rintro e w' ⟨rfl, m, rfl⟩
  go_wp2_with fail
  refine (markIntS_any A1 n1 c1 w1.heap.size zs 1 _ (h1.drewN m).own (by omega) (by omega) (by omega)).mono ?_
  rintro e w4 ⟨rfl, hm, hg⟩
  go_wp2_with fail
  refine (heldIntS_any A1 n1 c1 _ 1 _ (Reads.of_own hm) (by omega) (by omega) (by omega)).mono ?_
  rintro e w' ⟨rfl, rfl⟩
  go_wp2_with fail
  refine (HI.out _).mono ?_
  rintro e w5 ⟨A2, n2, c2, rfl, h2⟩
  have b2 := h2.len
  have b2' : n2 ≤ 1000000 := by omega
  clear b2
  have r0 : Reads w5 w1.heap.size 1 A0 n0 (zs.map (Value.int .i64)) := ((((h0.reads.below h1.ext).drewN m).grown hg h1.ext.size fun g hb => (h1.own.lt g hb).1).below (h2.ext.mono (Nat.le_trans h1.ext.size hg.size)))
  have r1 := Reads.of_own (own_below hm h2.ext)
  go_wp2_with fail
  refine (eqIntS_any A2 A0 n2 n0 c2 c0 _ _ zs zs _ h2.reads r0 (by unfold maxLen; omega) (by unfold maxLen; omega)).mono ?_
  rintro e w' ⟨rfl, m', rfl⟩
  go_wp2_with fail
  refine (heldIntS_any A1 n1 c1 _ 1 _ (r1.drewN m') (by omega) (by omega) (by omega)).mono ?_
  rintro e w' ⟨rfl, rfl⟩
  go_wp2_with fail
  go_ret
  exact ⟨rfl, ext_drewN (ext_trans (ext_grown (ext_drewN (ext_trans h0.ext h1.ext) m) hg fun g hb => Nat.le_trans h0.ext.size (h1.own.lt g hb).1) h2.ext) m'⟩
end Go.Proofs.Ytbhhkkfpfcbonaa
