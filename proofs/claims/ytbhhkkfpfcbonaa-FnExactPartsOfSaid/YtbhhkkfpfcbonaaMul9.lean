/- Chapter 9: products of digits. No condition. -/
import Derived.Test.YtbhhkkfpfcbonaaDigits
import Derived.Test.YtbhhkkfpfcbonaaTests
import Derived.Test.YtbhhkkfpfcbonaaPow
namespace Go.Proofs.Ytbhhkkfpfcbonaa
open Go.RowKit

/-- The products of x with the first k digits. -/
def prodsTo (x : Int) (ds : List Int) (k : Nat) : List Int := (ds.take k).map fun d => d * x
theorem prodsTo_succ {x : Int} {ds : List Int} {k : Nat} {z : Int} (hz : ds[k]? = some z) : prodsTo x ds (k + 1) = prodsTo x ds k ++ [z * x] := by
  unfold prodsTo
  rw [take_at hz, List.map_append]; rfl
theorem prodsTo_len (x : Int) (ds : List Int) {k : Nat} (h : k ≤ ds.length) : (prodsTo x ds k).length = k := by simp [prodsTo, h]
/-- What DigitProducts gives. -/
def dprods (a x : Int) : List Int := if (inB a 0 9999 && inB x 0 9) = true then prodsTo x (digs 10 a.toNat) (digs 10 a.toNat).length else []
theorem digs4 {a : Int} (h0 : 0 ≤ a) (h : a ≤ 9999) : (digs 10 a.toNat).length ≤ 4 := digs_len (by omega) 4 _ (by omega)
theorem dprods_len (a x : Int) : (dprods a x).length ≤ 4 := by
  unfold dprods
  split
  · next h =>
    simp only [Bool.and_eq_true] at h
    have := inB_true h.1
    rw [prodsTo_len _ _ (Nat.le_refl _)]
    exact digs4 this.1 this.2
  · simp
theorem digit_mul {z x : Int} (z0 : 0 ≤ z) (z1 : z ≤ 9) (x0 : 0 ≤ x) (x1 : x ≤ 9) : 0 ≤ z * x ∧ z * x ≤ 81 :=
  ⟨Int.mul_nonneg z0 x0, Int.le_trans (Int.mul_le_mul z1 x1 x0 (by omega)) (by omega)⟩
theorem digit_of {n k : Nat} {z : Int} (h : (digs 10 n)[k]? = some z) : 0 ≤ z ∧ z ≤ 9 := by
  have := digs_bd (b := 10) (by omega) n z (List.mem_of_getElem? h)
  omega

set_option maxHeartbeats 1000000 in
theorem sDigitProducts_any (a x : Int) (w : World) :
    Calls Try.prog 12 #[.int .i64 a, .int .i64 x] w (Gives 3 1 (dprods a x) (inB a 0 9999 && inB x 0 9) w) := by
  cases h : inB a 0 9999
  · go_enter Try.func12, Try.ntmps12
    go_wp2_with (first | (go_at_call 35; refine (l9Factor_any _ _).mono ?_; rintro e w' ⟨rfl, rfl⟩) | (go_at_call 36; refine (l1In_any _ _ _ _).mono ?_; rintro e w' ⟨rfl, rfl⟩))
    go_ret2
    exact ⟨_, _, _, rfl, by simp only [dprods, h, Bool.false_and, Bool.false_eq_true, if_false]; exact Acc.empty (Below.refl _ _)⟩
  · cases h' : inB x 0 9
    · go_enter Try.func12, Try.ntmps12
      go_wp2_with (first | (go_at_call 35; refine (l9Factor_any _ _).mono ?_; rintro e w' ⟨rfl, rfl⟩) | (go_at_call 36; refine (l1In_any _ _ _ _).mono ?_; rintro e w' ⟨rfl, rfl⟩))
      go_ret2
      exact ⟨_, _, _, rfl, by simp only [dprods, h, h', Bool.and_false, Bool.false_eq_true, if_false]; exact Acc.empty (Below.refl _ _)⟩
    · obtain ⟨a1, a2⟩ := inB_true h
      obtain ⟨x1, x2⟩ := inB_true h'
      have hd : dprods a x = prodsTo x (digs 10 a.toNat) (digs 10 a.toNat).length := by simp only [dprods, h, h', Bool.and_self, if_true]
      obtain ⟨m, rfl⟩ := Int.eq_ofNat_of_zero_le a1
      have h4 := digs4 a1 a2
      rw [Int.toNat_natCast] at hd h4
      have hdig := l9Digits_any m (by omega)
      have hget : ∀ (k : Nat) (z : Int), (digs 10 m)[k]? = some z → 0 ≤ z ∧ z ≤ 9 := fun k z h => digit_of h
      generalize digs 10 m = ds at *
      have HD := Lib.hid hd
      have HDIG := Lib.hid hdig
      have HGET := Lib.hid hget
      clear hd hdig hget
      go_enter Try.func12, Try.ntmps12
      go_wp2_with (first | (go_at_call 35; refine (l9Factor_any _ _).mono ?_; rintro e w' ⟨rfl, rfl⟩) | (go_at_call 36; refine (l1In_any _ _ _ _).mono ?_; rintro e w' ⟨rfl, rfl⟩))
      refine (HDIG.out _).mono ?_
      rintro e w1 ⟨A, n, c, rfl, h1⟩
      have hn : n ≤ 4 := by have := h1.len; omega
      have hl : ds.length = n := by simpa using h1.len
      have HL := Lib.hid hl
      clear hl
      have hA0 := (Acc.empty (E := 3) (k := 1) (Below.refl w.heap.size w)).later h1.ext
      have hS0 := Side.made (s := none) (o := 0) h1 (g := w.heap.size) (by simp)
      go_wp2_with fail
      go_loopw [6, 8] (fun v i wr => ∃ (k m c : Nat) (A' : Option Addr), i = .int .i64 (k : Int) ∧ k ≤ n ∧ v = .slice A' m c ∧ Acc w wr 3 1 A' m c (prodsTo x ds k) ∧ Side wr w1.heap.size 1 A n ds A') (fun _ i _ => n - (intOf i).toNat)
      case atStart => exact ⟨0, _, _, _, rfl, by omega, rfl, hA0, hS0⟩
      case round =>
        clear hA0 hS0
        obtain ⟨k, m', c', A', rfl, hk, rfl, hacc, hside⟩ := hrel
        obtain rfl : k = m' := by have h1 := hacc.len; have h2 := prodsTo_len x ds (k := k) (by have := HL.out; omega); omega
        by_cases hlt : k < n
        · obtain ⟨g, o, z, rfl, hz, hcell⟩ := hside.reads.int hlt
          obtain ⟨z1, z2⟩ := HGET.out k z hz
          obtain ⟨p1, p2⟩ := digit_mul z1 z2 x1 x2
          have hs := prodsTo_succ (x := x) hz
          rw [Int.mul_comm] at hs p1 p2
          have HS := Lib.hid hs
          clear hs hz
          go_wp2_with (at_builtin; refine appI_b rfl _ _ rfl rfl (hacc.alloc _) rfl (reads_new _ _ _ 1 [x * z] rfl rfl) (by omega) ?_; intro A' c' w' hacc' hpu)
          go_roundw
          case rel => exact ⟨k + 1, _, _, _, by go_num, by omega, rfl, by rw [HS.out]; exact hacc', (hside.alloc _).pushed hpu⟩
          case measure => simp [intOf]; omega
        · have hk' : k = n := by omega
          subst hk'
          go_wp2
          go_ret2
          exact ⟨A', k, c', rfl, by rw [HD.out, HL.out]; exact hacc⟩
set_option maxHeartbeats 1000000 in
theorem iDigitProducts_any (a x : Int) (w : World) :
    Calls Try.prog 13 #[.int .i64 a, .int .i64 x] w (Gives 3 1 (dprods a x) (inB a 0 9999 && inB x 0 9) w) := by
  cases h : inB a 0 9999
  · go_enter Try.func13, Try.ntmps13
    go_wp2_with (first | (go_at_call 38; refine (isFactor_any _ _).mono ?_; rintro e w' ⟨rfl, rfl⟩) | (go_at_call 39; refine (within_any _ _ _ _).mono ?_; rintro e w' ⟨rfl, rfl⟩))
    go_ret2
    exact ⟨_, _, _, rfl, by simp only [dprods, h, Bool.false_and, Bool.false_eq_true, if_false]; exact Acc.nil (Below.refl _ _)⟩
  · cases h' : inB x 0 9
    · go_enter Try.func13, Try.ntmps13
      go_wp2_with (first | (go_at_call 38; refine (isFactor_any _ _).mono ?_; rintro e w' ⟨rfl, rfl⟩) | (go_at_call 39; refine (within_any _ _ _ _).mono ?_; rintro e w' ⟨rfl, rfl⟩))
      go_ret2
      exact ⟨_, _, _, rfl, by simp only [dprods, h, h', Bool.and_false, Bool.false_eq_true, if_false]; exact Acc.nil (Below.refl _ _)⟩
    · obtain ⟨a1, a2⟩ := inB_true h
      obtain ⟨x1, x2⟩ := inB_true h'
      have hd : dprods a x = prodsTo x (digs 10 a.toNat) (digs 10 a.toNat).length := by simp only [dprods, h, h', Bool.and_self, if_true]
      obtain ⟨m, rfl⟩ := Int.eq_ofNat_of_zero_le a1
      have h4 := digs4 a1 a2
      rw [Int.toNat_natCast] at hd h4
      have hdig := digitsOf_any m (by omega)
      have hget : ∀ (k : Nat) (z : Int), (digs 10 m)[k]? = some z → 0 ≤ z ∧ z ≤ 9 := fun k z h => digit_of h
      generalize digs 10 m = ds at *
      have HD := Lib.hid hd
      have HDIG := Lib.hid hdig
      have HGET := Lib.hid hget
      clear hd hdig hget
      go_enter Try.func13, Try.ntmps13
      go_wp2_with (first | (go_at_call 38; refine (isFactor_any _ _).mono ?_; rintro e w' ⟨rfl, rfl⟩) | (go_at_call 39; refine (within_any _ _ _ _).mono ?_; rintro e w' ⟨rfl, rfl⟩))
      refine (HDIG.out _).mono ?_
      rintro e w1 ⟨A, n, c, rfl, h1⟩
      have hn : n ≤ 4 := by have := h1.len; omega
      have hl : ds.length = n := by simpa using h1.len
      have HL := Lib.hid hl
      clear hl
      have hA0 := Acc.nil (E := 3) (k := 1) h1.ext
      have hS0 := Side.none_ h1.reads (Nat.le_refl _)
      go_wp2_with fail
      go_loopw [6, 20] (fun v i wr => ∃ (k m c : Nat) (A' : Option Addr), i = .int .i64 (k : Int) ∧ k ≤ n ∧ v = .slice A' m c ∧ Acc w wr 3 1 A' m c (prodsTo x ds k) ∧ Side wr w1.heap.size 1 A n ds A') (fun _ i _ => n - (intOf i).toNat)
      case atStart => exact ⟨0, _, _, _, rfl, by omega, rfl, hA0, hS0⟩
      case round =>
        clear hA0 hS0
        obtain ⟨k, m', c', A', rfl, hk, rfl, hacc, hside⟩ := hrel
        obtain rfl : k = m' := by have h1 := hacc.len; have h2 := prodsTo_len x ds (k := k) (by have := HL.out; omega); omega
        by_cases hlt : k < n
        · obtain ⟨g, o, z, rfl, hz, hcell⟩ := hside.reads.int hlt
          obtain ⟨z1, z2⟩ := HGET.out k z hz
          obtain ⟨p1, p2⟩ := digit_mul z1 z2 x1 x2
          have hs := prodsTo_succ (x := x) hz
          skip
          have HS := Lib.hid hs
          clear hs hz
          go_wp2_with (at_builtin; refine appI_b rfl _ _ rfl rfl (hacc.alloc _) rfl (reads_new _ _ _ 1 [z * x] rfl rfl) (by omega) ?_; intro A' c' w' hacc' hpu)
          go_roundw
          case rel => exact ⟨k + 1, _, _, _, by go_num, by omega, rfl, by rw [HS.out]; exact hacc', (hside.alloc _).pushed hpu⟩
          case measure => simp [intOf]; omega
        · have hk' : k = n := by omega
          subst hk'
          go_wp2
          go_ret2
          exact ⟨A', k, c', rfl, by rw [HD.out, HL.out]; exact hacc⟩
set_option maxHeartbeats 1000000 in
theorem FnExactDigitProducts_any (a : Int) (_ : (Lit.int .i64 a).wf = true) (x : Int) (_ : (Lit.int .i64 x).wf = true) (w : World) :
    Calls Try.prog 4 #[.int .i64 a, .int .i64 x] w fun e w' => e = .returned (.bool true) ∧ Below w.heap.size w w' := by
  have hbd : (dprods a x).length ≤ 1000000 := Nat.le_trans (dprods_len a x) (by omega)
  have hs := sDigitProducts_any a x
  have hi := iDigitProducts_any a x
  generalize dprods a x = zs at hs hi hbd
  generalize (inB a 0 9999 && inB x 0 9) = ok at hs hi
  have HS := Lib.hid hs
  have HI := Lib.hid hi
  have he := eqB_self zs
  clear hs hi
  go_enter Try.func4, Try.ntmps4
  go_wp2_with fail
  refine (HS.out _).mono ?_
  rintro e w1 ⟨A0, n0, c0, rfl, h0⟩
  go_wp2_with fail
  refine (HI.out _).mono ?_
  rintro e w2 ⟨A1, n1, c1, rfl, h1⟩
  have b0 := h0.len
  have b1 := h1.len
  have b1' : n1 ≤ 1000000 := by omega
  have b0' : n0 ≤ 1000000 := by omega
  clear b0 b1
  go_wp2_with fail
  refine (eqIntS_any A1 A0 n1 n0 c1 c0 _ _ zs zs _ h1.reads (h0.reads.below h1.ext) (by unfold maxLen; omega) (by unfold maxLen; omega)).mono ?_
  rintro e w' ⟨rfl, m, rfl⟩
  go_wp2_with fail
  refine (markIntS_any A1 n1 c1 w1.heap.size zs 1 _ (h1.drewN m).own (by omega) (by omega) (by omega)).mono ?_
  rintro e w4 ⟨rfl, hm, hg⟩
  go_wp2_with fail
  refine (heldIntS_any A1 n1 c1 _ 1 _ (Reads.of_own hm) (by omega) (by omega) (by omega)).mono ?_
  rintro e w' ⟨rfl, rfl⟩
  go_wp2_with fail
  refine (HI.out _).mono ?_
  rintro e w5 ⟨A2, n2, c2, rfl, h2⟩
  have b2 := h2.len
  have b2' : n2 ≤ 1000000 := by omega
  clear b2
  have r0 : Reads w5 w1.heap.size 1 A0 n0 (zs.map (Value.int .i64)) := ((((h0.reads.below h1.ext).drewN m).grown hg h1.ext.size fun g hb => (h1.own.lt g hb).1).below (h2.ext.mono (Nat.le_trans h1.ext.size hg.size)))
  have r1 := Reads.of_own (own_below hm h2.ext)
  go_wp2_with fail
  refine (eqIntS_any A2 A0 n2 n0 c2 c0 _ _ zs zs _ h2.reads r0 (by unfold maxLen; omega) (by unfold maxLen; omega)).mono ?_
  rintro e w' ⟨rfl, m', rfl⟩
  go_wp2_with fail
  refine (heldIntS_any A1 n1 c1 _ 1 _ (r1.drewN m') (by omega) (by omega) (by omega)).mono ?_
  rintro e w' ⟨rfl, rfl⟩
  go_wp2_with fail
  go_ret
  exact ⟨rfl, ext_drewN (ext_trans (ext_grown (ext_drewN (ext_trans h0.ext h1.ext) m) hg fun g hb => Nat.le_trans h0.ext.size (h1.own.lt g hb).1) h2.ext) m'⟩
end Go.Proofs.Ytbhhkkfpfcbonaa
