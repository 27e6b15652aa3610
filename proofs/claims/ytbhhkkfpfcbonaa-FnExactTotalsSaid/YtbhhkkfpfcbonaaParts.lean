/- Chapter 9: the parts of two factors. No condition. -/
import Derived.Test.YtbhhkkfpfcbonaaA3
import Derived.Test.YtbhhkkfpfcbonaaMul9
namespace Go.Proofs.Ytbhhkkfpfcbonaa
open Go.RowKit

/-- The parts of the digit d at place i with the first k digits of the other factor, put behind base. -/
def innA (la lb i : Nat) (d : Int) (ys base : List Int) : Nat → List Int
  | 0 => base
  | k + 1 => if 0 < d * ys.getD k 0 then innA la lb i d ys base k ++ [(la : Int) - 1 - i, (lb : Int) - 1 - k, d * ys.getD k 0] else innA la lb i d ys base k
/-- The parts of the first i digits. -/
def outA (la lb : Nat) (xs ys : List Int) : Nat → List Int
  | 0 => []
  | i + 1 => innA la lb i (xs.getD i 0) ys (outA la lb xs ys i) lb
theorem innA_yes {la lb i k : Nat} {d e : Int} {ys base : List Int} (he : ys[k]? = some e) (h : 0 < d * e) : innA la lb i d ys base (k + 1) = innA la lb i d ys base k ++ [(la : Int) - 1 - i, (lb : Int) - 1 - k, d * e] := by
  have : ys.getD k 0 = e := by simp [List.getD, he]
  rw [innA, this, if_pos h]
theorem innA_no {la lb i k : Nat} {d e : Int} {ys base : List Int} (he : ys[k]? = some e) (h : ¬ 0 < d * e) : innA la lb i d ys base (k + 1) = innA la lb i d ys base k := by
  have : ys.getD k 0 = e := by simp [List.getD, he]
  rw [innA, this, if_neg h]
theorem outA_succ {la lb i : Nat} {d : Int} {xs ys : List Int} (hd : xs[i]? = some d) : outA la lb xs ys (i + 1) = innA la lb i d ys (outA la lb xs ys i) lb := by
  have : xs.getD i 0 = d := by simp [List.getD, hd]
  rw [outA, this]
theorem innA_len (la lb i : Nat) (d : Int) (ys base : List Int) : ∀ k, (innA la lb i d ys base k).length ≤ base.length + k * 3
  | 0 => by simp [innA]
  | k + 1 => by
    have := innA_len la lb i d ys base k
    unfold innA
    split
    · simp; omega
    · omega
theorem outA_len (la lb : Nat) (xs ys : List Int) : ∀ i, (outA la lb xs ys i).length ≤ i * (lb * 3)
  | 0 => by simp [outA]
  | i + 1 => by
    have h1 := outA_len la lb xs ys i
    have h2 := innA_len la lb i (xs.getD i 0) ys (outA la lb xs ys i) lb
    rw [outA, Nat.succ_mul]
    omega
/-- All parts of two factors. -/
def partsL (a b : Int) : List Int := outA (digs 10 a.toNat).length (digs 10 b.toNat).length (digs 10 a.toNat) (digs 10 b.toNat) (digs 10 a.toNat).length
/-- What PartsOf gives. -/
def parts (a b : Int) : List Int := if (inB a 0 9999 && inB b 0 9999) = true then partsL a b else []
theorem partsL_len {a b : Int} (ha : 0 ≤ a) (ha' : a ≤ 9999) (hb : 0 ≤ b) (hb' : b ≤ 9999) : (partsL a b).length ≤ 48 := by
  have h1 := digs4 ha ha'
  have h2 := digs4 hb hb'
  have h3 := outA_len (digs 10 a.toNat).length (digs 10 b.toNat).length (digs 10 a.toNat) (digs 10 b.toNat) (digs 10 a.toNat).length
  have h4 := Nat.mul_le_mul h1 (Nat.mul_le_mul_right 3 h2)
  unfold partsL
  omega
theorem parts_len (a b : Int) : (parts a b).length ≤ 48 := by
  unfold parts
  split
  · next h =>
    simp only [Bool.and_eq_true] at h
    obtain ⟨h1, h2⟩ := inB_true h.1
    obtain ⟨h3, h4⟩ := inB_true h.2
    exact partsL_len h1 h2 h3 h4
  · simp
/-- Whole parts: the places below 4, the product of two digits. -/
def Good (ps : List Int) : Prop := ps.length % 3 = 0 ∧ ∀ (k : Nat) (x y z : Int), ps[k * 3]? = some x → ps[k * 3 + 1]? = some y → ps[k * 3 + 2]? = some z → 0 ≤ x ∧ x ≤ 3 ∧ 0 ≤ y ∧ y ≤ 3 ∧ 0 ≤ z ∧ z ≤ 81
theorem Good.nil : Good [] := ⟨rfl, fun k x y z h => by simp at h⟩
theorem Good.push {ps : List Int} {x y z : Int} (h : Good ps) (hx : 0 ≤ x) (hx' : x ≤ 3) (hy : 0 ≤ y) (hy' : y ≤ 3) (hz : 0 ≤ z) (hz' : z ≤ 81) : Good (ps ++ [x, y, z]) := by
  obtain ⟨h0, h1⟩ := h
  refine ⟨by simp; omega, fun k x' y' z' e1 e2 e3 => ?_⟩
  obtain ⟨n, hn⟩ : ∃ n, ps.length = n * 3 := ⟨ps.length / 3, by omega⟩
  rcases Nat.lt_trichotomy k n with hk | hk | hk
  · rw [List.getElem?_append_left (by omega)] at e1 e2 e3
    exact h1 k x' y' z' e1 e2 e3
  · subst hk
    rw [List.getElem?_append_right (by omega)] at e1 e2 e3
    simp [hn] at e1
    rw [show k * 3 + 1 - ps.length = 1 from by omega] at e2
    rw [show k * 3 + 2 - ps.length = 2 from by omega] at e3
    simp at e2 e3
    subst e1 e2 e3
    exact ⟨hx, hx', hy, hy', hz, hz'⟩
  · rw [List.getElem?_eq_none (by simp; omega)] at e1
    cases e1
theorem innA_good {la lb i : Nat} {d : Int} {ys base : List Int} (hb : Good base) (hi : i < la) (ha4 : la ≤ 4) (hb4 : lb ≤ 4) (hd : 0 ≤ d ∧ d ≤ 9) (hl : ys.length = lb) (hy : ∀ (k : Nat) (z : Int), ys[k]? = some z → 0 ≤ z ∧ z ≤ 9) :
    ∀ k, k ≤ lb → Good (innA la lb i d ys base k)
  | 0, _ => hb
  | k + 1, hk => by
    have ih := innA_good hb hi ha4 hb4 hd hl hy k (by omega)
    have he : ys[k]? = some (ys[k]'(by omega)) := List.getElem?_eq_getElem (by omega)
    obtain ⟨e1, e2⟩ := hy k _ he
    have hp := digit_mul hd.1 hd.2 e1 e2
    by_cases h : 0 < d * (ys[k]'(by omega))
    · rw [innA_yes he h]
      exact ih.push (by omega) (by omega) (by omega) (by omega) hp.1 hp.2
    · rw [innA_no he h]; exact ih
theorem outA_good {la lb : Nat} {xs ys : List Int} (ha4 : la ≤ 4) (hb4 : lb ≤ 4) (hlx : xs.length = la) (hl : ys.length = lb) (hx : ∀ (k : Nat) (z : Int), xs[k]? = some z → 0 ≤ z ∧ z ≤ 9) (hy : ∀ (k : Nat) (z : Int), ys[k]? = some z → 0 ≤ z ∧ z ≤ 9) :
    ∀ i, i ≤ la → Good (outA la lb xs ys i)
  | 0, _ => Good.nil
  | i + 1, hi => by
    have ih := outA_good ha4 hb4 hlx hl hx hy i (by omega)
    have he : xs[i]? = some (xs[i]'(by omega)) := List.getElem?_eq_getElem (by omega)
    rw [outA_succ he]
    exact innA_good ih (by omega) ha4 hb4 (hx i _ he) hl hy lb (Nat.le_refl _)
theorem partsL_good {a b : Int} (ha : 0 ≤ a) (ha' : a ≤ 9999) (hb : 0 ≤ b) (hb' : b ≤ 9999) : Good (partsL a b) :=
  outA_good (digs4 ha ha') (digs4 hb hb') rfl rfl (fun _ _ h => digit_of h) (fun _ _ h => digit_of h) _ (Nat.le_refl _)

set_option maxHeartbeats 4000000 in
theorem partsOf_any (a b : Int) (ha : 0 ≤ a) (ha' : a ≤ 9999) (hb : 0 ≤ b) (hb' : b ≤ 9999) (w : World) :
    Calls Try.prog 46 #[.int .i64 a, .int .i64 b] w (GivesS 50 3 (partsL a b) w) := by
  obtain ⟨m, rfl⟩ := Int.eq_ofNat_of_zero_le ha
  obtain ⟨q, rfl⟩ := Int.eq_ofNat_of_zero_le hb
  have h4a := digs4 ha ha'
  have h4b := digs4 hb hb'
  have hp : partsL (m : Int) (q : Int) = outA (digs 10 m).length (digs 10 q).length (digs 10 m) (digs 10 q) (digs 10 m).length := rfl
  rw [Int.toNat_natCast] at h4a h4b
  have hdx := digitsOf_any m (by omega)
  have hdy := digitsOf_any q (by omega)
  have hgx : ∀ (k : Nat) (z : Int), (digs 10 m)[k]? = some z → 0 ≤ z ∧ z ≤ 9 := fun k z h => digit_of h
  have hgy : ∀ (k : Nat) (z : Int), (digs 10 q)[k]? = some z → 0 ≤ z ∧ z ≤ 9 := fun k z h => digit_of h
  generalize digs 10 m = xs at *
  generalize digs 10 q = ys at *
  obtain ⟨la, hla⟩ : ∃ la, la = xs.length := ⟨_, rfl⟩
  obtain ⟨lb, hlb⟩ : ∃ lb, lb = ys.length := ⟨_, rfl⟩
  rw [← hla, ← hlb] at hp
  rw [← hla] at h4a
  rw [← hlb] at h4b
  have HP := Lib.hid hp
  have HDX := Lib.hid hdx
  have HDY := Lib.hid hdy
  have HGX := Lib.hid hgx
  have HGY := Lib.hid hgy
  have HLA := Lib.hid hla
  have HLB := Lib.hid hlb
  clear hp hdx hdy hgx hgy hla hlb
  go_enter Try.func46, Try.ntmps46
  go_wp2_with fail
  refine (HDX.out _).mono ?_
  rintro e w1 ⟨A1, n1, c1, rfl, h1⟩
  obtain rfl : la = n1 := by have := h1.len; have := HLA.out; omega
  go_wp2_with fail
  refine (HDY.out _).mono ?_
  rintro e w2 ⟨A2, n2, c2, rfl, h2⟩
  obtain rfl : lb = n2 := by have := h2.len; have := HLB.out; omega
  have hb12 := ext_trans h1.ext h2.ext
  have R1 := Lib.hid (h1.reads.below h2.ext)
  have R2 := Lib.hid h2.reads
  have hz12 : w1.heap.size ≤ w2.heap.size := h2.ext.size
  clear h1 h2
  go_wp2_with fail
  go_loopw [7, 18] (fun v i wr => ∃ (j m c : Nat) (A' : Option Addr), i = .int .i64 (j : Int) ∧ j ≤ la ∧ v = .slice A' m c ∧ Acc w2 wr 50 3 A' m c (outA la lb xs ys j)) (fun _ i _ => la - (intOf i).toNat)
  case atStart => exact ⟨0, _, _, _, rfl, by omega, rfl, Acc.nil (Below.refl _ _)⟩
  case round =>
    obtain ⟨j, m', c', A', rfl, hj, rfl, hacc⟩ := hrel
    by_cases hlt : j < la
    · obtain ⟨g, o, d, rfl, hd, hcell⟩ := (R1.out.below (hacc.ext.mono hz12)).int hlt
      obtain ⟨d1, d2⟩ := HGX.out j d hd
      have HO := Lib.hid (outA_succ (la := la) (lb := lb) (ys := ys) hd)
      have hol := outA_len la lb xs ys j
      have hol2 : (outA la lb xs ys j).length ≤ 48 := Nat.le_trans hol (Nat.le_trans (Nat.mul_le_mul (show j ≤ 4 by omega) (Nat.mul_le_mul_right 3 h4b)) (by omega))
      clear hd hol
      generalize hbs : outA la lb xs ys j = base at *
      clear hbs
      go_wp2_with fail
      obtain ⟨wo, hwo⟩ : ∃ wo : World, wo = wr := ⟨_, rfl⟩
      rw [← hwo] at hacc ⊢
      have hcell' : wo.cell? ⟨g, o + j, none⟩ = some (.int .i64 d) := by rw [hwo]; exact hcell
      clear hcell hwo
      go_loopw [7, 25] (fun v i wr => ∃ (k m c : Nat) (A' : Option Addr), i = .int .i64 (k : Int) ∧ k ≤ lb ∧ v = .slice A' m c ∧ Acc w2 wr 50 3 A' m c (innA la lb j d ys base k)) (fun _ i _ => lb - (intOf i).toNat)
      case atStart => exact ⟨0, _, _, _, rfl, by omega, rfl, hacc⟩
      case round =>
        clear hacc hcell'
        obtain ⟨k, m', c', A', rfl, hk, rfl, hacc⟩ := hrel
        have hm := hacc.len
        have hml := innA_len la lb j d ys base k
        by_cases hlt2 : k < lb
        · obtain ⟨g2, o2, e, rfl, he, hcell2⟩ := (R2.out.below hacc.ext).int hlt2
          obtain ⟨e1, e2⟩ := HGY.out k e he
          obtain ⟨p1, p2⟩ := digit_mul d1 d2 e1 e2
          by_cases hp : 0 < d * e
          · have HI := Lib.hid (innA_yes (la := la) (lb := lb) (i := j) (base := base) he hp)
            clear he
            go_wp2_with (at_builtin; refine app3 rfl _ _ rfl rfl (hacc.alloc _) rfl (reads_new _ _ _ 3 [(la : Int) - 1 - j, (lb : Int) - 1 - k, d * e] rfl rfl) (by omega) ?_; intro A2 c2 w' hacc' _)
            go_roundw
            case rel => exact ⟨k + 1, _, _, _, by go_num, by omega, rfl, by rw [HI.out]; exact hacc'⟩
            case measure => simp [intOf]; omega
          · have HI := Lib.hid (innA_no (la := la) (lb := lb) (i := j) (base := base) he hp)
            have hp' : d * e ≤ 0 := by omega
            clear he hp
            go_wp2_with fail
            go_roundw
            case rel => exact ⟨k + 1, _, _, _, by go_num, by omega, rfl, by rw [HI.out]; exact hacc⟩
            case measure => simp [intOf]; omega
        · have hk' : k = lb := by omega
          subst hk'
          go_wp2_with fail
          go_roundw
          case rel => exact ⟨j + 1, _, _, _, by go_num, by omega, rfl, by rw [HO.out]; exact hacc⟩
          case measure => simp [intOf]; omega
    · have hj' : j = la := by omega
      subst hj'
      go_wp2
      go_ret
      exact ⟨A', m', c', rfl, by rw [HP.out]; exact hacc.since hb12⟩
set_option maxHeartbeats 4000000 in
theorem l9Parts_any (a b : Int) (ha : 0 ≤ a) (ha' : a ≤ 9999) (hb : 0 ≤ b) (hb' : b ≤ 9999) (w : World) :
    Calls Try.prog 45 #[.int .i64 a, .int .i64 b] w (GivesS 50 3 (partsL a b) w) := by
  obtain ⟨m, rfl⟩ := Int.eq_ofNat_of_zero_le ha
  obtain ⟨q, rfl⟩ := Int.eq_ofNat_of_zero_le hb
  have h4a := digs4 ha ha'
  have h4b := digs4 hb hb'
  have hp : partsL (m : Int) (q : Int) = outA (digs 10 m).length (digs 10 q).length (digs 10 m) (digs 10 q) (digs 10 m).length := rfl
  rw [Int.toNat_natCast] at h4a h4b
  have hdx := l9Digits_any m (by omega)
  have hdy := l9Digits_any q (by omega)
  have hgx : ∀ (k : Nat) (z : Int), (digs 10 m)[k]? = some z → 0 ≤ z ∧ z ≤ 9 := fun k z h => digit_of h
  have hgy : ∀ (k : Nat) (z : Int), (digs 10 q)[k]? = some z → 0 ≤ z ∧ z ≤ 9 := fun k z h => digit_of h
  generalize digs 10 m = xs at *
  generalize digs 10 q = ys at *
  obtain ⟨la, hla⟩ : ∃ la, la = xs.length := ⟨_, rfl⟩
  obtain ⟨lb, hlb⟩ : ∃ lb, lb = ys.length := ⟨_, rfl⟩
  rw [← hla, ← hlb] at hp
  rw [← hla] at h4a
  rw [← hlb] at h4b
  have HP := Lib.hid hp
  have HDX := Lib.hid hdx
  have HDY := Lib.hid hdy
  have HGX := Lib.hid hgx
  have HGY := Lib.hid hgy
  have HLA := Lib.hid hla
  have HLB := Lib.hid hlb
  clear hp hdx hdy hgx hgy hla hlb
  go_enter Try.func45, Try.ntmps45
  go_wp2_with fail
  refine (HDX.out _).mono ?_
  rintro e w1 ⟨A1, n1, c1, rfl, h1⟩
  obtain rfl : la = n1 := by have := h1.len; have := HLA.out; omega
  go_wp2_with fail
  refine (HDY.out _).mono ?_
  rintro e w2 ⟨A2, n2, c2, rfl, h2⟩
  obtain rfl : lb = n2 := by have := h2.len; have := HLB.out; omega
  have hb12 := ext_trans h1.ext h2.ext
  have R1 := Lib.hid (h1.reads.below h2.ext)
  have R2 := Lib.hid h2.reads
  have hz12 : w1.heap.size ≤ w2.heap.size := h2.ext.size
  clear h1 h2
  go_wp2_with fail
  go_loopw [7, 8] (fun v i wr => ∃ (j m c : Nat) (A' : Option Addr), i = .int .i64 (j : Int) ∧ j ≤ la ∧ v = .slice A' m c ∧ Acc w2 wr 50 3 A' m c (outA la lb xs ys j)) (fun _ i _ => la - (intOf i).toNat)
  case atStart => exact ⟨0, _, _, _, rfl, by omega, rfl, Acc.empty (Below.refl _ _)⟩
  case round =>
    obtain ⟨j, m', c', A', rfl, hj, rfl, hacc⟩ := hrel
    by_cases hlt : j < la
    · obtain ⟨g, o, d, rfl, hd, hcell⟩ := (R1.out.below (hacc.ext.mono hz12)).int hlt
      obtain ⟨d1, d2⟩ := HGX.out j d hd
      have HO := Lib.hid (outA_succ (la := la) (lb := lb) (ys := ys) hd)
      have hol := outA_len la lb xs ys j
      have hol2 : (outA la lb xs ys j).length ≤ 48 := Nat.le_trans hol (Nat.le_trans (Nat.mul_le_mul (show j ≤ 4 by omega) (Nat.mul_le_mul_right 3 h4b)) (by omega))
      have hd0 := Lib.hid hd
      clear hd hol
      generalize hbs : outA la lb xs ys j = base at *
      clear hbs
      go_wp2_with fail
      obtain ⟨wo, hwo⟩ : ∃ wo : World, wo = wr := ⟨_, rfl⟩
      rw [← hwo] at hacc ⊢
      have hcell' : wo.cell? ⟨g, o + j, none⟩ = some (.int .i64 d) := by rw [hwo]; exact hcell
      clear hcell hwo
      go_loopw [7, 9] (fun v i wr => ∃ (k m c : Nat) (A' : Option Addr), i = .int .i64 (k : Int) ∧ k ≤ lb ∧ v = .slice A' m c ∧ Acc w2 wr 50 3 A' m c (innA la lb j d ys base k)) (fun _ i _ => lb - (intOf i).toNat)
      case atStart => exact ⟨0, _, _, _, rfl, by omega, rfl, hacc⟩
      case round =>
        clear hacc hcell'
        obtain ⟨k, m', c', A', rfl, hk, rfl, hacc⟩ := hrel
        have hm := hacc.len
        have hml := innA_len la lb j d ys base k
        by_cases hlt2 : k < lb
        · obtain ⟨g2, o2, e, rfl, he, hcell2⟩ := (R2.out.below hacc.ext).int hlt2
          obtain ⟨e1, e2⟩ := HGY.out k e he
          obtain ⟨p1, p2⟩ := digit_mul d1 d2 e1 e2
          obtain ⟨g1, o1, d', eA, hd', hcell1⟩ := (R1.out.below (hacc.ext.mono hz12)).int hlt
          injection eA with eA
          injection eA with eA eO
          subst eA eO
          have hdd : d' = d := by rw [hd0.out] at hd'; injection hd' with hd'; exact hd'.symm
          subst hdd
          clear hd'
          have hk1 : (k : Int) < lb := by omega
          have hk2 : (0 : Int) ≤ k := by omega
          have hj1 : (j : Int) < la := by omega
          have hj2 : (0 : Int) ≤ j := by omega
          have q1 : IntKind.i64.wrap (d' * e) = d' * e := IntWalk.i64_in _ ⟨by omega, by omega⟩
          have q2 : IntKind.i64.wrap ((la : Int) - 1) = (la : Int) - 1 := IntWalk.i64_in _ ⟨by omega, by omega⟩
          have q3 : IntKind.i64.wrap ((lb : Int) - 1) = (lb : Int) - 1 := IntWalk.i64_in _ ⟨by omega, by omega⟩
          have q4 : IntKind.i64.wrap ((la : Int) - 1 - j) = (la : Int) - 1 - j := IntWalk.i64_in _ ⟨by omega, by omega⟩
          have q5 : IntKind.i64.wrap ((lb : Int) - 1 - k) = (lb : Int) - 1 - k := IntWalk.i64_in _ ⟨by omega, by omega⟩
          by_cases hp : 0 < d' * e
          · have HI := Lib.hid (innA_yes (la := la) (lb := lb) (i := j) (base := base) he hp)
            clear he
            go_wp2_with fail
            go_quiet (fail)
            go_wp2_with fail
            go_region_law (refine app3_step rfl _ _ rfl rfl ((hacc.drewN _).alloc _) rfl (reads_newAt _ _ _ 3 [(la : Int) - 1 - j, (lb : Int) - 1 - k, d' * e] _ (by simp) rfl rfl) (by omega) ?_; intro A2 c2 w' hacc' _)
            all_goals
              clear q1 q2 q3 q4 q5
              go_wp2_with fail
              go_roundw
              case rel => exact ⟨k + 1, _, _, _, by go_num, by omega, rfl, by rw [HI.out]; exact hacc'⟩
              case measure => simp [intOf]; omega
          · have HI := Lib.hid (innA_no (la := la) (lb := lb) (i := j) (base := base) he hp)
            have hp' : d' * e ≤ 0 := by omega
            clear he hp
            go_wp2_with fail
            go_quiet (fail)
            clear q1 q2 q3 q4 q5
            go_wp2_with fail
            go_roundw
            case rel => exact ⟨k + 1, _, _, _, by go_num, by omega, rfl, by rw [HI.out]; exact hacc.drewN _⟩
            case measure => simp [intOf]; omega
        · have hk' : k = lb := by omega
          subst hk'
          go_wp2_with fail
          go_roundw
          case rel => exact ⟨j + 1, _, _, _, by go_num, by omega, rfl, by rw [HO.out]; exact hacc⟩
          case measure => simp [intOf]; omega
    · have hj' : j = la := by omega
      subst hj'
      go_wp2
      go_ret
      exact ⟨A', m', c', rfl, by rw [HP.out]; exact hacc.since hb12⟩
set_option maxHeartbeats 400000 in
theorem sPartsOf_any (a b : Int) (w : World) :
    Calls Try.prog 26 #[.int .i64 a, .int .i64 b] w (Gives 50 3 (parts a b) (inB a 0 9999 && inB b 0 9999) w) := by
  cases h : (inB a 0 9999 && inB b 0 9999)
  · go_enter Try.func26, Try.ntmps26
    go_wp2_with (go_at_call 33; refine (l9Both_any _ _ _).mono ?_; rintro e w' ⟨rfl, rfl⟩)
    go_ret2
    exact ⟨_, _, _, rfl, by simp only [parts, h, Bool.false_eq_true, if_false]; exact Acc.empty (Below.refl _ _)⟩
  · have h' := h
    simp only [Bool.and_eq_true] at h'
    obtain ⟨a1, a2⟩ := inB_true h'.1
    obtain ⟨b1, b2⟩ := inB_true h'.2
    have hd : parts a b = partsL a b := by simp only [parts, if_pos h]
    have HD := Lib.hid hd
    clear hd h'
    go_enter Try.func26, Try.ntmps26
    go_wp2_with (first | (go_at_call 33; refine (l9Both_any _ _ _).mono ?_; rintro e w' ⟨rfl, rfl⟩) | (go_at_call 45; refine (l9Parts_any _ _ a1 a2 b1 b2 _).mono ?_; rintro e w' ⟨A, n, c, rfl, hacc⟩))
    go_ret2
    exact ⟨A, n, c, rfl, by rw [HD.out]; exact hacc⟩
set_option maxHeartbeats 400000 in
theorem iPartsOf_any (a b : Int) (w : World) :
    Calls Try.prog 27 #[.int .i64 a, .int .i64 b] w (Gives 50 3 (parts a b) (inB a 0 9999 && inB b 0 9999) w) := by
  cases h : (inB a 0 9999 && inB b 0 9999)
  · go_enter Try.func27, Try.ntmps27
    go_wp2_with (go_at_call 34; refine (areFactors_any _ _ _).mono ?_; rintro e w' ⟨rfl, rfl⟩)
    go_ret2
    exact ⟨_, _, _, rfl, by simp only [parts, h, Bool.false_eq_true, if_false]; exact Acc.nil (Below.refl _ _)⟩
  · have h' := h
    simp only [Bool.and_eq_true] at h'
    obtain ⟨a1, a2⟩ := inB_true h'.1
    obtain ⟨b1, b2⟩ := inB_true h'.2
    have hd : parts a b = partsL a b := by simp only [parts, if_pos h]
    have HD := Lib.hid hd
    clear hd h'
    go_enter Try.func27, Try.ntmps27
    go_wp2_with (first | (go_at_call 34; refine (areFactors_any _ _ _).mono ?_; rintro e w' ⟨rfl, rfl⟩) | (go_at_call 46; refine (partsOf_any _ _ a1 a2 b1 b2 _).mono ?_; rintro e w' ⟨A, n, c, rfl, hacc⟩))
    go_ret2
    exact ⟨A, n, c, rfl, by rw [HD.out]; exact hacc⟩
set_option maxHeartbeats 1000000 in
theorem FnExactPartsOf_any (a : Int) (_ : (Lit.int .i64 a).wf = true) (b : Int) (_ : (Lit.int .i64 b).wf = true) (w : World) :
    Calls Try.prog 8 #[.int .i64 a, .int .i64 b] w fun e w' => e = .returned (.bool true) ∧ Below w.heap.size w w' := by
  have hbd : (parts a b).length ≤ 1000000 := Nat.le_trans (parts_len a b) (by omega)
  have hs := sPartsOf_any a b
  have hi := iPartsOf_any a b
  generalize parts a b = zs at hs hi hbd
  generalize (inB a 0 9999 && inB b 0 9999) = ok at hs hi
  have HS := Lib.hid hs
  have HI := Lib.hid hi
  have he := eqB_self zs
  clear hs hi
  go_enter Try.func8, Try.ntmps8
  go_wp2_with fail
  refine (HS.out _).mono ?_
  rintro e w1 ⟨A0, n0, c0, rfl, h0⟩
  go_wp2_with fail
  refine (HI.out _).mono ?_
  rintro e w2 ⟨A1, n1, c1, rfl, h1⟩
  have b0 := h0.len
  have b1 := h1.len
  have b1' : n1 ≤ 1000000 := by omega
  have b0' : n0 ≤ 1000000 := by omega
  clear b0 b1
  go_wp2_with fail
  refine (eqIntA3S_any A1 A0 n1 n0 c1 c0 _ _ zs zs _ h1.reads (h0.reads.below h1.ext) (Nat.le_refl _) h1.ext.size (by unfold maxLen; omega) (by unfold maxLen; omega)).mono ?_
  rintro e w3 ⟨rfl, hb3⟩
  go_wp2_with fail
  refine (markIntA3S_any A1 n1 c1 w1.heap.size zs 1 _ (h1.later hb3).own (by omega) (by omega) (by omega)).mono ?_
  rintro e w4 ⟨rfl, hm, hg⟩
  go_wp2_with fail
  refine (heldIntA3S_any A1 n1 c1 _ 1 _ (Reads.of_own hm) (by omega) (by omega) (by omega)).mono ?_
  rintro e w' ⟨rfl, rfl⟩
  go_wp2_with fail
  refine (HI.out _).mono ?_
  rintro e w5 ⟨A2, n2, c2, rfl, h2⟩
  have b2 := h2.len
  have b2' : n2 ≤ 1000000 := by omega
  clear b2
  have z14 : w1.heap.size ≤ w4.heap.size := Nat.le_trans (Nat.le_trans h1.ext.size hb3.size) hg.size
  have r0 : Reads w5 w1.heap.size 3 A0 n0 (zs.map (Value.int .i64)) := ((((h0.reads.below h1.ext).below (hb3.mono h1.ext.size)).grown hg (Nat.le_trans h1.ext.size hb3.size) fun g hb => (h1.own.lt g hb).1).below (h2.ext.mono z14))
  have r1 := own_below hm h2.ext
  go_wp2_with fail
  refine (eqIntA3S_any A2 A0 n2 n0 c2 c0 _ _ zs zs _ h2.reads r0 (Nat.le_refl _) (Nat.le_trans z14 h2.ext.size) (by unfold maxLen; omega) (by unfold maxLen; omega)).mono ?_
  rintro e w6 ⟨rfl, hb6⟩
  go_wp2_with fail
  refine (heldIntA3S_any A1 n1 c1 _ 1 _ (Reads.of_own (own_below r1 hb6)) (by omega) (by omega) (by omega)).mono ?_
  rintro e w' ⟨rfl, rfl⟩
  go_wp2_with fail
  go_ret
  exact ⟨rfl, ext_trans (ext_trans (ext_grown (ext_trans (ext_trans h0.ext h1.ext) hb3) hg fun g hb => Nat.le_trans h0.ext.size (h1.own.lt g hb).1) h2.ext) hb6⟩
end Go.Proofs.Ytbhhkkfpfcbonaa
