/- FnDecimals: the digits behind the point repeat with the period, and each told divisor goes in. No condition. -/
import Derived.Test.YteibpconehgnbaaDraw10
import Derived.Test.YteibpconehgnbaaPer
import Derived.Test.YteibpconehgnbaaDivs
namespace Go.Proofs.Yteibpconehgnbaa
open Go.RowKit

theorem perRes_bd {a b x y : Int} (hb : 1 ≤ b) (hb' : b ≤ 500) (h : PerRes a b x y) : 0 ≤ x ∧ x ≤ 500 ∧ 0 ≤ y ∧ y ≤ 500 := by
  obtain ⟨K, j, h1, rfl, rfl⟩ := h
  have := dist_le hb h1.dist
  have := h1.lt
  split <;> omega
theorem perRes_again {a b x y : Int} (h : PerRes a b x y) (hy : 0 < y) : ∀ d, rm a b (x.toNat + d + y.toNat) = rm a b (x.toNat + d) := by
  obtain ⟨K, j, h1, rfl, rfl⟩ := h
  by_cases h0 : rm a b K = 0
  · simp only [h0, if_true] at hy; omega
  · simp only [h0, if_false] at hy ⊢
    have e1 : ((j : Int)).toNat = j := Int.toNat_natCast j
    have e2 : ((K : Int) - j).toNat = K - j := by omega
    rw [e1, e2]
    intro d
    induction d with
    | zero => rw [Nat.add_zero, show j + (K - j) = K from by have := h1.lt; omega]; exact h1.eq.symm
    | succ d ih => rw [show j + (d + 1) + (K - j) = j + d + (K - j) + 1 from by omega, show j + (d + 1) = j + d + 1 from by omega, rm_succ, rm_succ, ih]
theorem decs_again {a b x y : Int} {k : Nat} (h : PerRes a b x y) (hy : 0 < y) (hk : x.toNat ≤ k) {n : Nat} (hn : k + y.toNat < n) :
    ∃ z, (decs a b n)[k]? = some z ∧ (decs a b n)[k + y.toNat]? = some z := by
  refine ⟨10 * rm a b k / b, decs_at (by omega), ?_⟩
  rw [decs_at hn]
  have := perRes_again h hy (k - x.toNat)
  rw [show x.toNat + (k - x.toNat) = k from by omega] at this
  rw [this]
theorem divsTo_mem {n : Int} : ∀ {k : Nat} {d : Int}, d ∈ divsTo n k → 1 ≤ d ∧ d ≤ k ∧ n % d = 0
  | 0, d, h => by simp [divsTo] at h
  | k + 1, d, h => by
    unfold divsTo at h
    split at h
    · next he =>
      rcases List.mem_append.1 h with h | h
      · have := divsTo_mem h; omega
      · simp at h; subst h; omega
    · have := divsTo_mem h; omega
theorem divsOf_mem {n d : Int} (h : d ∈ divsOf n) : divV n d = true ∧ n % d = 0 ∧ n / d * d = n := by
  unfold divsOf at h
  split at h
  · next hv =>
    obtain ⟨h1, h2, h3⟩ := divsTo_mem h
    obtain ⟨n1, n2⟩ := inB_true hv
    refine ⟨?_, h3, ?_⟩
    · simp only [divV, Bool.and_eq_true]
      exact ⟨hv, inB_mk h1 (by omega)⟩
    · have := Int.mul_ediv_add_emod n d
      rw [h3] at this
      rw [Int.mul_comm]; omega
  · simp at h

/-- Is a code too long? -/
def bigB (n : Nat) : Bool := decide ((65536 : Int) < n)
set_option maxHeartbeats 400000 in
theorem vBig_any (A : Option Addr) (n c : Nat) (w : World) :
    Calls Try.prog 34 #[.slice A n c] w fun e w' => e = .returned (.bool (bigB n)) ∧ w = w' := by
  go_enter Try.func34, Try.ntmps34
  go_wp2
  go_ret
  exact ⟨rfl, rfl⟩
set_option maxHeartbeats 1000000 in
theorem vInts_any (A1 A2 : Option Addr) (n1 n2 c1 c2 B1 B2 : Nat) (xs ys : List Int) (w : World) (h1 : Reads w B1 1 A1 n1 (xs.map (Value.int .i64))) (h2 : Reads w B2 1 A2 n2 (ys.map (Value.int .i64))) (hn1 : n1 ≤ maxLen) (hn2 : n2 ≤ maxLen) :
    Calls Try.prog 36 #[.slice A1 n1 c1, .slice A2 n2 c2] w fun e w' => e = .returned (.bool (eqB xs ys)) ∧ ∃ m, w' = w.drewN m := by
  unfold maxLen at hn1 hn2
  have l1 := h1.len
  have l2 := h2.len
  have H1 := Lib.hid h1
  have H2 := Lib.hid h2
  have L1 := Lib.hid l1
  have L2 := Lib.hid l2
  clear h1 h2 l1 l2
  by_cases hne : n1 = n2
  · subst hne
    go_enter Try.func36, Try.ntmps36
    go_wp2
    go_loopw [5] (fun i wr => ∃ k m : Nat, i = .int .i64 k ∧ k ≤ n1 ∧ xs.take k = ys.take k ∧ wr = w.drewN m) (fun i _ => n1 - (intOf i).toNat)
    case atStart => exact ⟨0, 0, rfl, by omega, rfl, rfl⟩
    case round =>
      obtain ⟨k, m, rfl, hk, hh, rfl⟩ := hrel
      have HH := Lib.hid hh
      clear hh
      by_cases hlt : k < n1
      · obtain ⟨b, o, x, rfl, hx, hcell⟩ := H1.out.int hlt
        obtain ⟨b', o', y, rfl, hy, hcell'⟩ := H2.out.int hlt
        have HX := Lib.hid hx
        have HY := Lib.hid hy
        clear hx hy
        have hlt' : (k : Int) < n1 := by omega
        have hk0 : (0 : Int) ≤ k := by omega
        cases he : (x == y)
        · go_wp2
          go_quiet (fail)
          go_wp2
          go_ret
          exact ⟨by rw [eq_miss HX.out HY.out he]; rfl, _, World.drewN_drewN _ _ _⟩
        · go_wp2
          go_quiet (fail)
          go_wp2
          go_roundw
          case rel => exact ⟨k + 1, _, by go_num, by omega, eq_step HX.out HY.out HH.out he, rfl⟩
          case measure => simp [intOf]; omega
      · go_wp2
        go_ret
        have hf : eqB xs ys = true := by
          have := HH.out
          rw [List.take_of_length_le (by have := L1.out; omega), List.take_of_length_le (by have := L2.out; omega)] at this
          rw [this]; exact eqB_self _
        exact ⟨by rw [hf]; rfl, _, rfl⟩
  · have hne' : ((n1 : Int) == (n2 : Int)) = false := by simp; omega
    go_enter Try.func36, Try.ntmps36
    go_wp2
    go_ret
    have hf : eqB xs ys = false := by
      unfold eqB
      rw [beq_eq_false_iff_ne]
      intro h
      have := L1.out
      have := L2.out
      rw [h] at *
      omega
    exact ⟨by rw [hf]; rfl, 0, rfl⟩
set_option maxRecDepth 100000 in
set_option maxHeartbeats 8000000 in
theorem FnDecimals_any (A : Option Addr) (n c : Nat) (w : World) (hcode : CodeOk w w.heap.size A n) :
    Calls Try.prog 11 #[.slice A n c] w fun e w' => e = .returned (.bool true) ∧ Below w.heap.size w w' := by
  have HC := Lib.hid hcode
  clear hcode
  cases hbig : bigB n
  rotate_left
  · go_enter Try.func11, Try.ntmps11
    go_wp2_with fail
    refine (vBig_any A n c _).mono ?_
    rintro e w' ⟨rfl, rfl⟩
    go_wp2_with fail
    go_ret
    exact ⟨rfl, Below.refl _ _⟩
  · go_enter Try.func11, Try.ntmps11
    go_wp2_with fail
    refine (vBig_any A n c _).mono ?_
    rintro e w' ⟨rfl, rfl⟩
    go_wp2_with fail
    refine (DrawPeriodOf_any A n c w.heap.size _ HC.out (Nat.le_refl _)).mono ?_
    rintro e w1 ⟨a, b, rfl, h1⟩
    cases hv : perV a b
    · have HI0 := Lib.hid (iPeriodOf_no a b hv)
      have HS0 := Lib.hid (sPeriodOf_no a b hv)
      clear hv
      go_wp2_with fail
      refine (HI0.out _).mono ?_
      rintro e w' ⟨rfl, rfl⟩
      go_wp2_with fail
      refine (HS0.out _).mono ?_
      rintro e w' ⟨rfl, rfl⟩
      clear HI0 HS0
      go_wp2_with fail
      refine (DrawDecimalsOf_any A n c w.heap.size _ (HC.out.below h1) h1.size).mono ?_
      rintro e t1 ⟨x, y, p, rfl, j1⟩
      have hs := sDecimalsOf_any x y p
      have hi := iDecimalsOf_any x y p
      have hlen : (divV x y && inB p 0 12) = true → ((decT x y p).length : Int) = p := fun h => by
        have hp := inB_true (by simp only [Bool.and_eq_true] at h; exact h.2)
        simp only [decT, if_pos h, decs_len]; omega
      have hbd := decT_len x y p
      generalize decT x y p = ds at hs hi hlen hbd
      generalize (divV x y && inB p 0 12) = told at hs hi hlen
      have HS2 := Lib.hid hs
      have HI2 := Lib.hid hi
      have HL2 := Lib.hid hlen
      have he2 := eqB_self ds
      clear hs hi hlen
      go_wp2_with fail
      refine (HI2.out _).mono ?_
      rintro e t2 ⟨T1, b1, f1, rfl, o1⟩
      go_wp2_with fail
      refine (HS2.out _).mono ?_
      rintro e t3 ⟨T2, b2, f2, rfl, o2⟩
      have l1 := o1.len
      have l2 := o2.len
      have l1' : b1 ≤ 12 := by omega
      have l2' : b2 ≤ 12 := by omega
      have P1 := Lib.hid (o1.reads.below o2.ext)
      have P2 := Lib.hid o2.reads
      have JB := Lib.hid (ext_trans h1 (ext_trans j1 (ext_trans o1.ext o2.ext)))
      clear o1 o2 j1
      have hlp : told = true → (b1 : Int) = p := fun h => by have := HL2.out h; omega
      have HLP := Lib.hid hlp
      clear l1 l2 hlp
      go_wp2_with fail
      refine (vInts_any T1 T2 b1 b2 f1 f2 _ _ ds ds _ P1.out P2.out (by unfold maxLen; omega) (by unfold maxLen; omega)).mono ?_
      rintro e w' ⟨rfl, u2, rfl⟩
      have JK := ext_drewN JB.out u2
      clear JB P1 P2 HS2 HI2 HL2
      generalize t3.drewN u2 = t4 at *
      cases told
      · go_wp2_with fail
        refine (DrawDivisorsOf_any A n c w.heap.size _ (HC.out.below JK) JK.size).mono ?_
        rintro e v1 ⟨d, rfl, k1⟩
        have hs := sDivisorsOf_any d
        have hi := iDivisorsOf_any d
        have hm : ∀ z ∈ divsOf d, divV d z = true ∧ d % z = 0 ∧ d / z * z = d := fun z hz => divsOf_mem hz
        have hbd := divsOf_len d
        generalize divsOf d = zs at hs hi hm hbd
        generalize inB d 0 99999999 = ok at hs hi
        have HS := Lib.hid hs
        have HI := Lib.hid hi
        have HM := Lib.hid hm
        have he := eqB_self zs
        clear hs hi hm
        go_wp2_with fail
        refine (HI.out _).mono ?_
        rintro e v2 ⟨D1, m1, e1, rfl, q1⟩
        go_wp2_with fail
        refine (HS.out _).mono ?_
        rintro e v3 ⟨D2, m2, e2, rfl, q2⟩
        have l1 := q1.len
        have l2 := q2.len
        have l1' : m1 ≤ 99 := by omega
        have l2' : m2 ≤ 99 := by omega
        have L1 := Lib.hid l1
        clear l1 l2
        have r1 := q1.reads.below q2.ext
        have R1 := Lib.hid r1
        have R2 := Lib.hid q2.reads
        have KB := Lib.hid (ext_trans JK (ext_trans k1 (ext_trans q1.ext q2.ext)))
        clear r1 q1 q2 k1
        go_wp2_with fail
        refine (vInts_any D1 D2 m1 m2 e1 e2 _ _ zs zs _ R1.out R2.out (by unfold maxLen; omega) (by unfold maxLen; omega)).mono ?_
        rintro e w' ⟨rfl, u, rfl⟩
        have RR := Lib.hid (R1.out.drewN u)
        have KK := Lib.hid (ext_drewN KB.out u)
        clear R1 R2 KB
        generalize v3.drewN u = v4 at *
        go_wp2_with fail
        go_loopw [28] (fun i wr => ∃ k s : Nat, i = .int .i64 (k : Int) ∧ k ≤ m1 ∧ wr = v4.drewN s) (fun i _ => m1 - (intOf i).toNat)
        case atStart => exact ⟨0, 0, rfl, by omega, rfl⟩
        case round =>
          obtain ⟨k, s, rfl, hk, rfl⟩ := hrel
          by_cases hlt : k < m1
          · obtain ⟨g, o, z, rfl, hz, hcell⟩ := RR.out.int hlt
            obtain ⟨hv, hr, hqz⟩ := HM.out z (List.mem_of_getElem? hz)
            clear hz
            have hq : quoT d z = .tuple #[.int .i64 (d / z), .int .i64 0, .bool true] := by simp only [quoT, if_pos hv, hr]
            have hqc := iQuotientOf_any d z
            rw [hq] at hqc
            obtain ⟨d1, d2, z1, z2⟩ := divV_true hv
            have hlt2 : (k : Int) < m1 := by omega
            have hk0 : (0 : Int) ≤ k := by omega
            have HQC := Lib.hid hqc
            have HQZ := Lib.hid hqz
            have hw1 : IntKind.i64.wrap (d / z * z) = d := by rw [hqz]; exact IntWalk.i64_in _ ⟨by omega, by omega⟩
            have HW1 := Lib.hid hw1
            clear hqc hq hv hr hqz hw1
            generalize hqq : d / z = q at *
            clear hqq
            go_wp2_with fail
            refine (HQC.out _).mono ?_
            rintro e w' ⟨rfl, s', rfl⟩
            have hw2 := HW1.out
            have hne : (d != d) = false := by simp
            go_wp2_with fail
            clear hw2
            go_roundw
            case rel => exact ⟨k + 1, _, by go_num, by omega, rfl⟩
            case measure => simp [intOf]; omega
          · go_wp2_with fail
            go_ret
            exact ⟨rfl, ext_drewN KK.out s⟩
      · have hp := HLP.out rfl
        subst hp
        have hpp : ((b1 : Int) != (b1 : Int)) = false := by simp
        clear HLP
        go_wp2_with fail
        refine (DrawDivisorsOf_any A n c w.heap.size _ (HC.out.below JK) JK.size).mono ?_
        rintro e v1 ⟨d, rfl, k1⟩
        have hs := sDivisorsOf_any d
        have hi := iDivisorsOf_any d
        have hm : ∀ z ∈ divsOf d, divV d z = true ∧ d % z = 0 ∧ d / z * z = d := fun z hz => divsOf_mem hz
        have hbd := divsOf_len d
        generalize divsOf d = zs at hs hi hm hbd
        generalize inB d 0 99999999 = ok at hs hi
        have HS := Lib.hid hs
        have HI := Lib.hid hi
        have HM := Lib.hid hm
        have he := eqB_self zs
        clear hs hi hm
        go_wp2_with fail
        refine (HI.out _).mono ?_
        rintro e v2 ⟨D1, m1, e1, rfl, q1⟩
        go_wp2_with fail
        refine (HS.out _).mono ?_
        rintro e v3 ⟨D2, m2, e2, rfl, q2⟩
        have l1 := q1.len
        have l2 := q2.len
        have l1' : m1 ≤ 99 := by omega
        have l2' : m2 ≤ 99 := by omega
        have L1 := Lib.hid l1
        clear l1 l2
        have r1 := q1.reads.below q2.ext
        have R1 := Lib.hid r1
        have R2 := Lib.hid q2.reads
        have KB := Lib.hid (ext_trans JK (ext_trans k1 (ext_trans q1.ext q2.ext)))
        clear r1 q1 q2 k1
        go_wp2_with fail
        refine (vInts_any D1 D2 m1 m2 e1 e2 _ _ zs zs _ R1.out R2.out (by unfold maxLen; omega) (by unfold maxLen; omega)).mono ?_
        rintro e w' ⟨rfl, u, rfl⟩
        have RR := Lib.hid (R1.out.drewN u)
        have KK := Lib.hid (ext_drewN KB.out u)
        clear R1 R2 KB
        generalize v3.drewN u = v4 at *
        go_wp2_with fail
        go_loopw [28] (fun i wr => ∃ k s : Nat, i = .int .i64 (k : Int) ∧ k ≤ m1 ∧ wr = v4.drewN s) (fun i _ => m1 - (intOf i).toNat)
        case atStart => exact ⟨0, 0, rfl, by omega, rfl⟩
        case round =>
          obtain ⟨k, s, rfl, hk, rfl⟩ := hrel
          by_cases hlt : k < m1
          · obtain ⟨g, o, z, rfl, hz, hcell⟩ := RR.out.int hlt
            obtain ⟨hv, hr, hqz⟩ := HM.out z (List.mem_of_getElem? hz)
            clear hz
            have hq : quoT d z = .tuple #[.int .i64 (d / z), .int .i64 0, .bool true] := by simp only [quoT, if_pos hv, hr]
            have hqc := iQuotientOf_any d z
            rw [hq] at hqc
            obtain ⟨d1, d2, z1, z2⟩ := divV_true hv
            have hlt2 : (k : Int) < m1 := by omega
            have hk0 : (0 : Int) ≤ k := by omega
            have HQC := Lib.hid hqc
            have HQZ := Lib.hid hqz
            have hw1 : IntKind.i64.wrap (d / z * z) = d := by rw [hqz]; exact IntWalk.i64_in _ ⟨by omega, by omega⟩
            have HW1 := Lib.hid hw1
            clear hqc hq hv hr hqz hw1
            generalize hqq : d / z = q at *
            clear hqq
            go_wp2_with fail
            refine (HQC.out _).mono ?_
            rintro e w' ⟨rfl, s', rfl⟩
            have hw2 := HW1.out
            have hne : (d != d) = false := by simp
            go_wp2_with fail
            clear hw2
            go_roundw
            case rel => exact ⟨k + 1, _, by go_num, by omega, rfl⟩
            case measure => simp [intOf]; omega
          · go_wp2_with fail
            go_ret
            exact ⟨rfl, ext_drewN KK.out s⟩
    · have hd : divV a b = true := by simp only [perV, Bool.and_eq_true] at hv; exact hv.1
      have h5 : b ≤ 500 := by simp only [perV, Bool.and_eq_true] at hv; simpa using hv.2
      have HI0 := Lib.hid (iPeriodOf_yes a b hd h5)
      have HS0 := Lib.hid (sPeriodOf_yes a b hd h5)
      have HI1 := Lib.hid (iDecimalsOf_any a b 12)
      have HS1 := Lib.hid (sDecimalsOf_any a b 12)
      obtain ⟨a1, a2, b1, b2⟩ := divV_true hd
      have hok : (divV a b && inB 12 0 12) = true := by rw [hd]; rfl
      have hdt : decT a b 12 = decs a b 12 := by simp only [decT, if_pos hok]; rfl
      rw [hok, hdt] at HI1 HS1
      have he1 := eqB_self (decs a b 12)
      clear hv hd hok hdt
      go_wp2_with fail
      refine (HI0.out _).mono ?_
      rintro e w2 ⟨x, y, hp, rfl, h2⟩
      go_wp2_with fail
      refine (HS0.out _).mono ?_
      rintro e w3 ⟨x', y', hp', rfl, h3⟩
      obtain ⟨rfl, rfl⟩ := hp.unique hp'
      clear hp'
      obtain ⟨x0, x1, y0, y1⟩ := perRes_bd b1 h5 hp
      have HP := Lib.hid hp
      clear hp HI0 HS0
      have h13 := ext_trans h1 (ext_trans h2 h3)
      clear h1 h2 h3
      go_wp2_with fail
      refine (HI1.out _).mono ?_
      rintro e w4 ⟨T1, b1, f1, rfl, o1⟩
      go_wp2_with fail
      refine (HS1.out _).mono ?_
      rintro e w5 ⟨T2, b2, f2, rfl, o2⟩
      have l1 := o1.len
      have l2 := o2.len
      rw [decs_len] at l1 l2
      obtain rfl : b1 = 12 := by omega
      obtain rfl : b2 = 12 := by omega
      clear l1 l2
      have P1 := Lib.hid (o1.reads.below o2.ext)
      have P2 := Lib.hid o2.reads
      have JB := Lib.hid (ext_trans h13 (ext_trans o1.ext o2.ext))
      clear o1 o2 h13 HI1 HS1
      go_wp2_with fail
      refine (vInts_any T1 T2 12 12 f1 f2 _ _ (decs a b 12) (decs a b 12) _ P1.out P2.out (by decide) (by decide)).mono ?_
      rintro e w' ⟨rfl, u2, rfl⟩
      have JK := Lib.hid (ext_drewN JB.out u2)
      have PK := Lib.hid (P1.out.drewN u2)
      clear JB P1 P2
      generalize w5.drewN u2 = w6 at *
      obtain ⟨X, rfl⟩ := Int.eq_ofNat_of_zero_le x0
      obtain ⟨Y, rfl⟩ := Int.eq_ofNat_of_zero_le y0
      go_wp2_with fail
      go_loopw [15] (fun i wr => ∃ k s : Nat, i = .int .i64 (k : Int) ∧ X ≤ k ∧ k ≤ 600 ∧ wr = w6.drewN s) (fun i _ => 700 - (intOf i).toNat)
      case atStart => exact ⟨X, 0, rfl, by omega, by omega, rfl⟩
      case round =>
        obtain ⟨k, s, rfl, hk, hk', rfl⟩ := hrel
        by_cases hy : 0 < Y
        · have hy' : (0 : Int) < Y := by omega
          by_cases hlt : k + Y < 12
          · obtain ⟨z, hz1, hz2⟩ := decs_again (k := k) HP.out hy' (by omega) (n := 12) (by simpa using hlt)
            rw [Int.toNat_natCast] at hz2
            obtain ⟨g, o, z1, rfl, e1, c1⟩ := PK.out.int (show k < 12 by omega)
            obtain ⟨g', o', z2, eA, e2, c2⟩ := PK.out.int hlt
            rw [hz1] at e1
            rw [hz2] at e2
            injection e1 with e1
            injection e2 with e2
            injection eA with eA
            injection eA with eA eO
            subst e1 e2 eA eO
            clear hz1 hz2
            have hl1 : (k : Int) + Y < 12 := by omega
            have hl2 : (k : Int) < 12 := by omega
            have hl3 : (0 : Int) ≤ k := by omega
            have hl4 : (0 : Int) ≤ (k : Int) + Y := by omega
            have w1 : IntKind.i64.wrap ((k : Int) + Y) = (k : Int) + Y := IntWalk.i64_in _ ⟨by omega, by omega⟩
            have n1 : ((k : Int) + Y).toNat = k + Y := by omega
            have hzz : (z != z) = false := by simp
            go_wp2_with fail
            go_quiet (fail)
            clear w1 n1
            go_wp2_with fail
            go_roundw
            case rel => exact ⟨k + 1, _, by go_num, by omega, by omega, rfl⟩
            case measure => simp [intOf]; omega
          · have hl1 : (12 : Int) ≤ (k : Int) + Y := by omega
            have JK2 := ext_drewN JK.out s
            clear JK PK HP he1
            go_wp2_with fail
            refine (DrawDecimalsOf_any A n c w.heap.size _ (HC.out.below JK2) JK2.size).mono ?_
            rintro e t1 ⟨x, y, p, rfl, j1⟩
            have hs := sDecimalsOf_any x y p
            have hi := iDecimalsOf_any x y p
            have hlen : (divV x y && inB p 0 12) = true → ((decT x y p).length : Int) = p := fun h => by
              have hp := inB_true (by simp only [Bool.and_eq_true] at h; exact h.2)
              simp only [decT, if_pos h, decs_len]; omega
            have hbd := decT_len x y p
            generalize decT x y p = ds at hs hi hlen hbd
            generalize (divV x y && inB p 0 12) = told at hs hi hlen
            have HS2 := Lib.hid hs
            have HI2 := Lib.hid hi
            have HL2 := Lib.hid hlen
            have he2 := eqB_self ds
            clear hs hi hlen
            go_wp2_with fail
            refine (HI2.out _).mono ?_
            rintro e t2 ⟨T1, b1, f1, rfl, o1⟩
            go_wp2_with fail
            refine (HS2.out _).mono ?_
            rintro e t3 ⟨T2, b2, f2, rfl, o2⟩
            have l1 := o1.len
            have l2 := o2.len
            have l1' : b1 ≤ 12 := by omega
            have l2' : b2 ≤ 12 := by omega
            have P1 := Lib.hid (o1.reads.below o2.ext)
            have P2 := Lib.hid o2.reads
            have JB := Lib.hid (ext_trans JK2 (ext_trans j1 (ext_trans o1.ext o2.ext)))
            clear o1 o2 j1
            have hlp : told = true → (b1 : Int) = p := fun h => by have := HL2.out h; omega
            have HLP := Lib.hid hlp
            clear l1 l2 hlp
            go_wp2_with fail
            refine (vInts_any T1 T2 b1 b2 f1 f2 _ _ ds ds _ P1.out P2.out (by unfold maxLen; omega) (by unfold maxLen; omega)).mono ?_
            rintro e w' ⟨rfl, u2, rfl⟩
            have JK := ext_drewN JB.out u2
            clear JB P1 P2 HS2 HI2 HL2
            generalize t3.drewN u2 = t4 at *
            cases told
            · go_wp2_with fail
              refine (DrawDivisorsOf_any A n c w.heap.size _ (HC.out.below JK) JK.size).mono ?_
              rintro e v1 ⟨d, rfl, k1⟩
              have hs := sDivisorsOf_any d
              have hi := iDivisorsOf_any d
              have hm : ∀ z ∈ divsOf d, divV d z = true ∧ d % z = 0 ∧ d / z * z = d := fun z hz => divsOf_mem hz
              have hbd := divsOf_len d
              generalize divsOf d = zs at hs hi hm hbd
              generalize inB d 0 99999999 = ok at hs hi
              have HS := Lib.hid hs
              have HI := Lib.hid hi
              have HM := Lib.hid hm
              have he := eqB_self zs
              clear hs hi hm
              go_wp2_with fail
              refine (HI.out _).mono ?_
              rintro e v2 ⟨D1, m1, e1, rfl, q1⟩
              go_wp2_with fail
              refine (HS.out _).mono ?_
              rintro e v3 ⟨D2, m2, e2, rfl, q2⟩
              have l1 := q1.len
              have l2 := q2.len
              have l1' : m1 ≤ 99 := by omega
              have l2' : m2 ≤ 99 := by omega
              have L1 := Lib.hid l1
              clear l1 l2
              have r1 := q1.reads.below q2.ext
              have R1 := Lib.hid r1
              have R2 := Lib.hid q2.reads
              have KB := Lib.hid (ext_trans JK (ext_trans k1 (ext_trans q1.ext q2.ext)))
              clear r1 q1 q2 k1
              go_wp2_with fail
              refine (vInts_any D1 D2 m1 m2 e1 e2 _ _ zs zs _ R1.out R2.out (by unfold maxLen; omega) (by unfold maxLen; omega)).mono ?_
              rintro e w' ⟨rfl, u, rfl⟩
              have RR := Lib.hid (R1.out.drewN u)
              have KK := Lib.hid (ext_drewN KB.out u)
              clear R1 R2 KB
              generalize v3.drewN u = v4 at *
              go_wp2_with fail
              go_loopw [28] (fun i wr => ∃ k s : Nat, i = .int .i64 (k : Int) ∧ k ≤ m1 ∧ wr = v4.drewN s) (fun i _ => m1 - (intOf i).toNat)
              case atStart => exact ⟨0, 0, rfl, by omega, rfl⟩
              case round =>
                obtain ⟨k, s, rfl, hk, rfl⟩ := hrel
                by_cases hlt : k < m1
                · obtain ⟨g, o, z, rfl, hz, hcell⟩ := RR.out.int hlt
                  obtain ⟨hv, hr, hqz⟩ := HM.out z (List.mem_of_getElem? hz)
                  clear hz
                  have hq : quoT d z = .tuple #[.int .i64 (d / z), .int .i64 0, .bool true] := by simp only [quoT, if_pos hv, hr]
                  have hqc := iQuotientOf_any d z
                  rw [hq] at hqc
                  obtain ⟨d1, d2, z1, z2⟩ := divV_true hv
                  have hlt2 : (k : Int) < m1 := by omega
                  have hk0 : (0 : Int) ≤ k := by omega
                  have HQC := Lib.hid hqc
                  have HQZ := Lib.hid hqz
                  have hw1 : IntKind.i64.wrap (d / z * z) = d := by rw [hqz]; exact IntWalk.i64_in _ ⟨by omega, by omega⟩
                  have HW1 := Lib.hid hw1
                  clear hqc hq hv hr hqz hw1
                  generalize hqq : d / z = q at *
                  clear hqq
                  go_wp2_with fail
                  refine (HQC.out _).mono ?_
                  rintro e w' ⟨rfl, s', rfl⟩
                  have hw2 := HW1.out
                  have hne : (d != d) = false := by simp
                  go_wp2_with fail
                  clear hw2
                  go_roundw
                  case rel => exact ⟨k + 1, _, by go_num, by omega, rfl⟩
                  case measure => simp [intOf]; omega
                · go_wp2_with fail
                  go_ret
                  exact ⟨rfl, ext_drewN KK.out s⟩
            · have hp := HLP.out rfl
              subst hp
              have hpp : ((b1 : Int) != (b1 : Int)) = false := by simp
              clear HLP
              go_wp2_with fail
              refine (DrawDivisorsOf_any A n c w.heap.size _ (HC.out.below JK) JK.size).mono ?_
              rintro e v1 ⟨d, rfl, k1⟩
              have hs := sDivisorsOf_any d
              have hi := iDivisorsOf_any d
              have hm : ∀ z ∈ divsOf d, divV d z = true ∧ d % z = 0 ∧ d / z * z = d := fun z hz => divsOf_mem hz
              have hbd := divsOf_len d
              generalize divsOf d = zs at hs hi hm hbd
              generalize inB d 0 99999999 = ok at hs hi
              have HS := Lib.hid hs
              have HI := Lib.hid hi
              have HM := Lib.hid hm
              have he := eqB_self zs
              clear hs hi hm
              go_wp2_with fail
              refine (HI.out _).mono ?_
              rintro e v2 ⟨D1, m1, e1, rfl, q1⟩
              go_wp2_with fail
              refine (HS.out _).mono ?_
              rintro e v3 ⟨D2, m2, e2, rfl, q2⟩
              have l1 := q1.len
              have l2 := q2.len
              have l1' : m1 ≤ 99 := by omega
              have l2' : m2 ≤ 99 := by omega
              have L1 := Lib.hid l1
              clear l1 l2
              have r1 := q1.reads.below q2.ext
              have R1 := Lib.hid r1
              have R2 := Lib.hid q2.reads
              have KB := Lib.hid (ext_trans JK (ext_trans k1 (ext_trans q1.ext q2.ext)))
              clear r1 q1 q2 k1
              go_wp2_with fail
              refine (vInts_any D1 D2 m1 m2 e1 e2 _ _ zs zs _ R1.out R2.out (by unfold maxLen; omega) (by unfold maxLen; omega)).mono ?_
              rintro e w' ⟨rfl, u, rfl⟩
              have RR := Lib.hid (R1.out.drewN u)
              have KK := Lib.hid (ext_drewN KB.out u)
              clear R1 R2 KB
              generalize v3.drewN u = v4 at *
              go_wp2_with fail
              go_loopw [28] (fun i wr => ∃ k s : Nat, i = .int .i64 (k : Int) ∧ k ≤ m1 ∧ wr = v4.drewN s) (fun i _ => m1 - (intOf i).toNat)
              case atStart => exact ⟨0, 0, rfl, by omega, rfl⟩
              case round =>
                obtain ⟨k, s, rfl, hk, rfl⟩ := hrel
                by_cases hlt : k < m1
                · obtain ⟨g, o, z, rfl, hz, hcell⟩ := RR.out.int hlt
                  obtain ⟨hv, hr, hqz⟩ := HM.out z (List.mem_of_getElem? hz)
                  clear hz
                  have hq : quoT d z = .tuple #[.int .i64 (d / z), .int .i64 0, .bool true] := by simp only [quoT, if_pos hv, hr]
                  have hqc := iQuotientOf_any d z
                  rw [hq] at hqc
                  obtain ⟨d1, d2, z1, z2⟩ := divV_true hv
                  have hlt2 : (k : Int) < m1 := by omega
                  have hk0 : (0 : Int) ≤ k := by omega
                  have HQC := Lib.hid hqc
                  have HQZ := Lib.hid hqz
                  have hw1 : IntKind.i64.wrap (d / z * z) = d := by rw [hqz]; exact IntWalk.i64_in _ ⟨by omega, by omega⟩
                  have HW1 := Lib.hid hw1
                  clear hqc hq hv hr hqz hw1
                  generalize hqq : d / z = q at *
                  clear hqq
                  go_wp2_with fail
                  refine (HQC.out _).mono ?_
                  rintro e w' ⟨rfl, s', rfl⟩
                  have hw2 := HW1.out
                  have hne : (d != d) = false := by simp
                  go_wp2_with fail
                  clear hw2
                  go_roundw
                  case rel => exact ⟨k + 1, _, by go_num, by omega, rfl⟩
                  case measure => simp [intOf]; omega
                · go_wp2_with fail
                  go_ret
                  exact ⟨rfl, ext_drewN KK.out s⟩
        · have hy0 : Y = 0 := by omega
          subst hy0
          have JK2 := ext_drewN JK.out s
          clear JK PK HP he1
          go_wp2_with fail
          refine (DrawDecimalsOf_any A n c w.heap.size _ (HC.out.below JK2) JK2.size).mono ?_
          rintro e t1 ⟨x, y, p, rfl, j1⟩
          have hs := sDecimalsOf_any x y p
          have hi := iDecimalsOf_any x y p
          have hlen : (divV x y && inB p 0 12) = true → ((decT x y p).length : Int) = p := fun h => by
            have hp := inB_true (by simp only [Bool.and_eq_true] at h; exact h.2)
            simp only [decT, if_pos h, decs_len]; omega
          have hbd := decT_len x y p
          generalize decT x y p = ds at hs hi hlen hbd
          generalize (divV x y && inB p 0 12) = told at hs hi hlen
          have HS2 := Lib.hid hs
          have HI2 := Lib.hid hi
          have HL2 := Lib.hid hlen
          have he2 := eqB_self ds
          clear hs hi hlen
          go_wp2_with fail
          refine (HI2.out _).mono ?_
          rintro e t2 ⟨T1, b1, f1, rfl, o1⟩
          go_wp2_with fail
          refine (HS2.out _).mono ?_
          rintro e t3 ⟨T2, b2, f2, rfl, o2⟩
          have l1 := o1.len
          have l2 := o2.len
          have l1' : b1 ≤ 12 := by omega
          have l2' : b2 ≤ 12 := by omega
          have P1 := Lib.hid (o1.reads.below o2.ext)
          have P2 := Lib.hid o2.reads
          have JB := Lib.hid (ext_trans JK2 (ext_trans j1 (ext_trans o1.ext o2.ext)))
          clear o1 o2 j1
          have hlp : told = true → (b1 : Int) = p := fun h => by have := HL2.out h; omega
          have HLP := Lib.hid hlp
          clear l1 l2 hlp
          go_wp2_with fail
          refine (vInts_any T1 T2 b1 b2 f1 f2 _ _ ds ds _ P1.out P2.out (by unfold maxLen; omega) (by unfold maxLen; omega)).mono ?_
          rintro e w' ⟨rfl, u2, rfl⟩
          have JK := ext_drewN JB.out u2
          clear JB P1 P2 HS2 HI2 HL2
          generalize t3.drewN u2 = t4 at *
          cases told
          · go_wp2_with fail
            refine (DrawDivisorsOf_any A n c w.heap.size _ (HC.out.below JK) JK.size).mono ?_
            rintro e v1 ⟨d, rfl, k1⟩
            have hs := sDivisorsOf_any d
            have hi := iDivisorsOf_any d
            have hm : ∀ z ∈ divsOf d, divV d z = true ∧ d % z = 0 ∧ d / z * z = d := fun z hz => divsOf_mem hz
            have hbd := divsOf_len d
            generalize divsOf d = zs at hs hi hm hbd
            generalize inB d 0 99999999 = ok at hs hi
            have HS := Lib.hid hs
            have HI := Lib.hid hi
            have HM := Lib.hid hm
            have he := eqB_self zs
            clear hs hi hm
            go_wp2_with fail
            refine (HI.out _).mono ?_
            rintro e v2 ⟨D1, m1, e1, rfl, q1⟩
            go_wp2_with fail
            refine (HS.out _).mono ?_
            rintro e v3 ⟨D2, m2, e2, rfl, q2⟩
            have l1 := q1.len
            have l2 := q2.len
            have l1' : m1 ≤ 99 := by omega
            have l2' : m2 ≤ 99 := by omega
            have L1 := Lib.hid l1
            clear l1 l2
            have r1 := q1.reads.below q2.ext
            have R1 := Lib.hid r1
            have R2 := Lib.hid q2.reads
            have KB := Lib.hid (ext_trans JK (ext_trans k1 (ext_trans q1.ext q2.ext)))
            clear r1 q1 q2 k1
            go_wp2_with fail
            refine (vInts_any D1 D2 m1 m2 e1 e2 _ _ zs zs _ R1.out R2.out (by unfold maxLen; omega) (by unfold maxLen; omega)).mono ?_
            rintro e w' ⟨rfl, u, rfl⟩
            have RR := Lib.hid (R1.out.drewN u)
            have KK := Lib.hid (ext_drewN KB.out u)
            clear R1 R2 KB
            generalize v3.drewN u = v4 at *
            go_wp2_with fail
            go_loopw [28] (fun i wr => ∃ k s : Nat, i = .int .i64 (k : Int) ∧ k ≤ m1 ∧ wr = v4.drewN s) (fun i _ => m1 - (intOf i).toNat)
            case atStart => exact ⟨0, 0, rfl, by omega, rfl⟩
            case round =>
              obtain ⟨k, s, rfl, hk, rfl⟩ := hrel
              by_cases hlt : k < m1
              · obtain ⟨g, o, z, rfl, hz, hcell⟩ := RR.out.int hlt
                obtain ⟨hv, hr, hqz⟩ := HM.out z (List.mem_of_getElem? hz)
                clear hz
                have hq : quoT d z = .tuple #[.int .i64 (d / z), .int .i64 0, .bool true] := by simp only [quoT, if_pos hv, hr]
                have hqc := iQuotientOf_any d z
                rw [hq] at hqc
                obtain ⟨d1, d2, z1, z2⟩ := divV_true hv
                have hlt2 : (k : Int) < m1 := by omega
                have hk0 : (0 : Int) ≤ k := by omega
                have HQC := Lib.hid hqc
                have HQZ := Lib.hid hqz
                have hw1 : IntKind.i64.wrap (d / z * z) = d := by rw [hqz]; exact IntWalk.i64_in _ ⟨by omega, by omega⟩
                have HW1 := Lib.hid hw1
                clear hqc hq hv hr hqz hw1
                generalize hqq : d / z = q at *
                clear hqq
                go_wp2_with fail
                refine (HQC.out _).mono ?_
                rintro e w' ⟨rfl, s', rfl⟩
                have hw2 := HW1.out
                have hne : (d != d) = false := by simp
                go_wp2_with fail
                clear hw2
                go_roundw
                case rel => exact ⟨k + 1, _, by go_num, by omega, rfl⟩
                case measure => simp [intOf]; omega
              · go_wp2_with fail
                go_ret
                exact ⟨rfl, ext_drewN KK.out s⟩
          · have hp := HLP.out rfl
            subst hp
            have hpp : ((b1 : Int) != (b1 : Int)) = false := by simp
            clear HLP
            go_wp2_with fail
            refine (DrawDivisorsOf_any A n c w.heap.size _ (HC.out.below JK) JK.size).mono ?_
            rintro e v1 ⟨d, rfl, k1⟩
            have hs := sDivisorsOf_any d
            have hi := iDivisorsOf_any d
            have hm : ∀ z ∈ divsOf d, divV d z = true ∧ d % z = 0 ∧ d / z * z = d := fun z hz => divsOf_mem hz
            have hbd := divsOf_len d
            generalize divsOf d = zs at hs hi hm hbd
            generalize inB d 0 99999999 = ok at hs hi
            have HS := Lib.hid hs
            have HI := Lib.hid hi
            have HM := Lib.hid hm
            have he := eqB_self zs
            clear hs hi hm
            go_wp2_with fail
            refine (HI.out _).mono ?_
            rintro e v2 ⟨D1, m1, e1, rfl, q1⟩
            go_wp2_with fail
            refine (HS.out _).mono ?_
            rintro e v3 ⟨D2, m2, e2, rfl, q2⟩
            have l1 := q1.len
            have l2 := q2.len
            have l1' : m1 ≤ 99 := by omega
            have l2' : m2 ≤ 99 := by omega
            have L1 := Lib.hid l1
            clear l1 l2
            have r1 := q1.reads.below q2.ext
            have R1 := Lib.hid r1
            have R2 := Lib.hid q2.reads
            have KB := Lib.hid (ext_trans JK (ext_trans k1 (ext_trans q1.ext q2.ext)))
            clear r1 q1 q2 k1
            go_wp2_with fail
            refine (vInts_any D1 D2 m1 m2 e1 e2 _ _ zs zs _ R1.out R2.out (by unfold maxLen; omega) (by unfold maxLen; omega)).mono ?_
            rintro e w' ⟨rfl, u, rfl⟩
            have RR := Lib.hid (R1.out.drewN u)
            have KK := Lib.hid (ext_drewN KB.out u)
            clear R1 R2 KB
            generalize v3.drewN u = v4 at *
            go_wp2_with fail
            go_loopw [28] (fun i wr => ∃ k s : Nat, i = .int .i64 (k : Int) ∧ k ≤ m1 ∧ wr = v4.drewN s) (fun i _ => m1 - (intOf i).toNat)
            case atStart => exact ⟨0, 0, rfl, by omega, rfl⟩
            case round =>
              obtain ⟨k, s, rfl, hk, rfl⟩ := hrel
              by_cases hlt : k < m1
              · obtain ⟨g, o, z, rfl, hz, hcell⟩ := RR.out.int hlt
                obtain ⟨hv, hr, hqz⟩ := HM.out z (List.mem_of_getElem? hz)
                clear hz
                have hq : quoT d z = .tuple #[.int .i64 (d / z), .int .i64 0, .bool true] := by simp only [quoT, if_pos hv, hr]
                have hqc := iQuotientOf_any d z
                rw [hq] at hqc
                obtain ⟨d1, d2, z1, z2⟩ := divV_true hv
                have hlt2 : (k : Int) < m1 := by omega
                have hk0 : (0 : Int) ≤ k := by omega
                have HQC := Lib.hid hqc
                have HQZ := Lib.hid hqz
                have hw1 : IntKind.i64.wrap (d / z * z) = d := by rw [hqz]; exact IntWalk.i64_in _ ⟨by omega, by omega⟩
                have HW1 := Lib.hid hw1
                clear hqc hq hv hr hqz hw1
                generalize hqq : d / z = q at *
                clear hqq
                go_wp2_with fail
                refine (HQC.out _).mono ?_
                rintro e w' ⟨rfl, s', rfl⟩
                have hw2 := HW1.out
                have hne : (d != d) = false := by simp
                go_wp2_with fail
                clear hw2
                go_roundw
                case rel => exact ⟨k + 1, _, by go_num, by omega, rfl⟩
                case measure => simp [intOf]; omega
              · go_wp2_with fail
                go_ret
                exact ⟨rfl, ext_drewN KK.out s⟩
end Go.Proofs.Yteibpconehgnbaa
