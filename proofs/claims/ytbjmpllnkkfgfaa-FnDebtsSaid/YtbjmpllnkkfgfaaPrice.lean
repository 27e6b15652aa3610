/- Sums of fees; the price for which they are enough. No condition. -/
import Derived.Test.YtbjmpllnkkfgfaaFee
import Derived.Test.YtbjmpllnkkfgfaaAccs2
namespace Go.Proofs.Ytbjmpllnkkfgfaa
open Go.RowKit

def paidS : List Acct → Int
  | [] => 0
  | x :: xs => x.d + paidS xs
def feesS (price : Int) : List Acct → Int
  | [] => 0
  | x :: xs => feeV x.l x.s price + feesS price xs
theorem paidS_app : ∀ (xs ys : List Acct), paidS (xs ++ ys) = paidS xs + paidS ys
  | [], ys => by simp [paidS]
  | x :: xs, ys => by rw [List.cons_append, paidS, paidS_app xs ys, paidS]; omega
theorem feesS_app (price : Int) : ∀ (xs ys : List Acct), feesS price (xs ++ ys) = feesS price xs + feesS price ys
  | [], ys => by simp [feesS]
  | x :: xs, ys => by rw [List.cons_append, feesS, feesS_app price xs ys, feesS]; omega
/-- All accounts of a list are valid. -/
def AllOk (xs : List Acct) : Prop := ∀ x ∈ xs, x.ok' = true
theorem AllOk.take {xs : List Acct} (h : AllOk xs) (k : Nat) : AllOk (xs.take k) := fun x hx => h x (List.mem_of_mem_take hx)
theorem AllOk.at {xs : List Acct} (h : AllOk xs) {k : Nat} {x : Acct} (hx : xs[k]? = some x) : x.ok' = true := h x (List.mem_of_getElem? hx)
theorem AllOk.tail {x : Acct} {xs : List Acct} (h : AllOk (x :: xs)) : AllOk xs := fun y hy => h y (List.mem_cons_of_mem _ hy)
theorem accs_ok {xs : List Acct} (h : accsB xs = true) : AllOk xs ∧ xs.length ≤ 10 := by
  unfold accsB at h
  simp only [Bool.and_eq_true, decide_eq_true_eq] at h
  refine ⟨fun x hx => ?_, h.2⟩
  obtain ⟨i, hi, rfl⟩ := List.getElem_of_mem hx
  have h1 := h.1
  unfold accsGo at h1
  rw [List.all_eq_true] at h1
  have h2 := h1 i (by simpa using hi)
  cases hh : (xs[i]).ok with
  | true => exact hh
  | false => rw [accAt_bad (List.getElem?_eq_getElem hi) hh] at h2; cases h2
theorem paidS_bd : ∀ {xs : List Acct}, AllOk xs → 0 ≤ paidS xs ∧ paidS xs ≤ 100000 * xs.length
  | [], _ => by simp [paidS]
  | x :: xs, h => by
    obtain ⟨a, b⟩ := paidS_bd h.tail
    obtain ⟨_, _, _, _, _, _, _, _, d0, d1⟩ := acc_parts (h x (List.mem_cons_self))
    simp only [paidS, List.length_cons]
    omega
theorem feesS_bd {price : Int} (hp : inB price 1 500 = true) : ∀ {xs : List Acct}, AllOk xs → 0 ≤ feesS price xs ∧ feesS price xs ≤ 9750 * xs.length
  | [], _ => by simp [feesS]
  | x :: xs, h => by
    obtain ⟨a, b⟩ := feesS_bd hp h.tail
    obtain ⟨_, _, _, _, l0, l1, s0, s1, _⟩ := acc_parts (h x (List.mem_cons_self))
    obtain ⟨p0, p1⟩ := inB_true hp
    obtain ⟨f0, f1⟩ := fee_bd l0 l1 s0 p0 p1
    simp only [feesS, List.length_cons]
    omega
theorem paid_step {xs : List Acct} {k n : Nat} {x : Acct} (h : AllOk xs) (hx : xs[k]? = some x) (hl : xs.length = n) (hn : n ≤ 1048576) : wrap64 (paidS (xs.take k) + x.d) = paidS (xs.take (k + 1)) := by
  have e : paidS (xs.take (k + 1)) = paidS (xs.take k) + x.d := by rw [acctF_snoc hx, paidS_app]; simp [paidS]
  have hb := paidS_bd (h.take (k + 1))
  have hlen : (xs.take (k + 1)).length ≤ n := by rw [List.length_take]; omega
  rw [← e]
  exact IntWalk.wrap64_in _ ⟨by omega, by omega⟩
theorem fees_step {xs : List Acct} {price : Int} {k n : Nat} {x : Acct} (h : AllOk xs) (hp : inB price 1 500 = true) (hx : xs[k]? = some x) (hl : xs.length = n) (hn : n ≤ 1048576) : wrap64 (feesS price (xs.take k) + feeV x.l x.s price) = feesS price (xs.take (k + 1)) := by
  have e : feesS price (xs.take (k + 1)) = feesS price (xs.take k) + feeV x.l x.s price := by rw [acctF_snoc hx, feesS_app]; simp [feesS]
  have hb := feesS_bd hp (h.take (k + 1))
  have hlen : (xs.take (k + 1)).length ≤ n := by rw [List.length_take]; omega
  rw [← e]
  exact IntWalk.wrap64_in _ ⟨by omega, by omega⟩
set_option maxHeartbeats 1000000 in
theorem sums_any (A : Option Addr) (n c B : Nat) (xs : List Acct) (price : Int) (w : World) (h : Reads w B 5 A n ((acctF xs).map (Value.int .i64))) (hB : B ≤ w.heap.size) (hn : n ≤ 1048576) (hok : AllOk xs) (hp : inB price 1 500 = true) :
    Calls Try.prog 76 #[.slice A n c, .int .i64 price] w fun e w' => e = .returned (.tuple #[.int .i64 (paidS xs), .int .i64 (feesS price xs)]) ∧ Below w.heap.size w w' := by
  have hl := h.acctLen
  have H := Lib.hid h
  have HL := Lib.hid hl
  have HO := Lib.hid hok
  have HP := Lib.hid hp
  clear h hl hok hp
  go_enter Try.func76, Try.ntmps76
  go_wp2
  go_loopw [6, 7, 12] (fun pd fe i wr => ∃ j : Nat, i = .int .i64 j ∧ j ≤ n ∧ pd = .int .i64 (paidS (xs.take j)) ∧ fe = .int .i64 (feesS price (xs.take j)) ∧ Below w.heap.size w wr) (fun _ _ i _ => n - (intOf i).toNat)
  case atStart => exact ⟨0, rfl, by omega, rfl, rfl, Below.refl _ _⟩
  case round =>
    obtain ⟨j, rfl, hj, rfl, rfl, hb⟩ := hrel
    by_cases hlt : j < n
    · obtain ⟨b, o, x, hAx, hx, hc0, hc1, hc2, hc3, hc4⟩ := (H.out.below (hb.mono hB)).acct hlt
      subst hAx
      have HX := Lib.hid hx
      have HB := Lib.hid hb
      have e1 := paid_step HO.out hx HL.out hn
      have e2 := fees_step HO.out HP.out hx HL.out hn
      clear hx hb
      have HE1 := Lib.hid e1
      have HE2 := Lib.hid e2
      clear e1 e2
      have e1 := HE1.out
      generalize paidS (xs.take j) = pj at e1 HE1 ⊢
      generalize hf : feesS price (xs.take j) = fj at HE2 ⊢
      generalize hf' : feeV x.l x.s price = fv at HE2
      have hf'' := Lib.hid hf'
      clear hf hf'
      go_wp2_with fail
      refine (feeOf_any x price (HO.out.at HX.out) HP.out _).mono ?_
      rintro e w2 ⟨rfl, hb2⟩
      rw [hf''.out]
      have e2 := HE2.out
      have HB2 := Lib.hid (ext_trans (ext_alloc HB.out _) hb2)
      clear hb2
      go_wp2
      go_roundw
      case rel => exact ⟨j + 1, by go_num, by omega, rfl, by rw [HE2.out], HB2.out⟩
      case measure => simp [intOf]; omega
    · have hj' : j = n := by omega
      have e : xs.take j = xs := List.take_of_length_le (by have := HL.out; omega)
      rw [e]
      go_wp2
      go_ret2
      exact ⟨rfl, hb⟩
set_option maxHeartbeats 1000000 in
theorem l14Sum_any (A : Option Addr) (n c B : Nat) (xs : List Acct) (price : Int) (w : World) (h : Reads w B 5 A n ((acctF xs).map (Value.int .i64))) (hB : B ≤ w.heap.size) (hn : n ≤ 1048576) (hok : AllOk xs) (hp : inB price 1 500 = true) :
    Calls Try.prog 75 #[.slice A n c, .int .i64 price] w fun e w' => e = .returned (.int .i64 (feesS price xs)) ∧ Below w.heap.size w w' := by
  have hl := h.acctLen
  have H := Lib.hid h
  have HL := Lib.hid hl
  have HO := Lib.hid hok
  have HP := Lib.hid hp
  clear h hl hok hp
  go_enter Try.func75, Try.ntmps75
  go_wp2
  go_loopw [5, 6] (fun fe i wr => ∃ j : Nat, i = .int .i64 j ∧ j ≤ n ∧ fe = .int .i64 (feesS price (xs.take j)) ∧ Below w.heap.size w wr) (fun _ i _ => n - (intOf i).toNat)
  case atStart => exact ⟨0, rfl, by omega, rfl, Below.refl _ _⟩
  case round =>
    obtain ⟨j, rfl, hj, rfl, hb⟩ := hrel
    by_cases hlt : j < n
    · obtain ⟨b, o, x, hAx, hx, hc0, hc1, hc2, hc3, hc4⟩ := (H.out.below (hb.mono hB)).acct hlt
      subst hAx
      have HX := Lib.hid hx
      have HB := Lib.hid hb
      have e2 := fees_step HO.out HP.out hx HL.out hn
      clear hx hb
      have HE2 := Lib.hid e2
      clear e2
      generalize hf : feesS price (xs.take j) = fj at HE2 ⊢
      generalize hf' : feeV x.l x.s price = fv at HE2
      have hf'' := Lib.hid hf'
      clear hf hf'
      go_wp2_with fail
      refine (l14Fee_any x price (HO.out.at HX.out) HP.out _).mono ?_
      rintro e w2 ⟨rfl, hb2⟩
      rw [hf''.out]
      have HB2 := Lib.hid (ext_trans HB.out hb2)
      clear hb2
      go_wp2
      go_roundw
      case rel => exact ⟨j + 1, by go_num, by omega, by rw [HE2.out], HB2.out⟩
      case measure => simp [intOf]; omega
    · have hj' : j = n := by omega
      have e : xs.take j = xs := List.take_of_length_le (by have := HL.out; omega)
      rw [e]
      go_wp2
      go_ret
      exact ⟨rfl, hb⟩
/-- The first price above k at which the fees are enough. -/
def priceUp (coins : Int) (xs : List Acct) : Nat → Nat → Option Nat
  | 0, _ => none
  | f + 1, k => if coins ≤ feesS ((k : Int) + 1) xs then some (k + 1) else priceUp coins xs f (k + 1)
def priceV (coins : Int) (xs : List Acct) : Value := match priceUp coins xs 500 0 with
  | some p => .tuple #[.int .i64 p, .bool true]
  | none => .tuple #[.int .i64 0, .bool false]
def priceT (coins : Int) (xs : List Acct) : Value := if accsB xs = true ∧ inB coins 0 10000000 = true then priceV coins xs else .tuple #[.int .i64 0, .bool false]
/-- No price up to k is enough. -/
structure NoneTo (coins : Int) (xs : List Acct) (k : Nat) : Prop where
  out : priceUp coins xs 500 0 = priceUp coins xs (500 - k) k
theorem noneTo_zero (coins : Int) (xs : List Acct) : NoneTo coins xs 0 := ⟨by rw [Nat.sub_zero]⟩
theorem priceV_hit {coins : Int} {xs : List Acct} {k : Nat} (hk : k < 500) (h : NoneTo coins xs k) (hh : coins ≤ feesS ((k : Int) + 1) xs) : priceV coins xs = .tuple #[.int .i64 ((k : Int) + 1), .bool true] := by
  unfold priceV
  rw [h.out, show 500 - k = (499 - k) + 1 from by omega, priceUp, if_pos hh]
  rfl
theorem priceV_end {coins : Int} {xs : List Acct} (h : NoneTo coins xs 500) : priceV coins xs = .tuple #[.int .i64 0, .bool false] := by
  unfold priceV
  rw [h.out]
  rfl
theorem priceUp_next {coins : Int} {xs : List Acct} {k : Nat} (hk : k < 500) (h : NoneTo coins xs k) (hh : ¬ coins ≤ feesS ((k : Int) + 1) xs) : NoneTo coins xs (k + 1) := by
  refine ⟨?_⟩
  rw [h.out, show 500 - k = (500 - (k + 1)) + 1 from by omega, priceUp, if_neg hh]
set_option maxHeartbeats 2000000 in
theorem iPriceFor_any (A : Option Addr) (n c B : Nat) (xs : List Acct) (coins : Int) (w : World) (h : Reads w B 5 A n ((acctF xs).map (Value.int .i64))) (hB : B ≤ w.heap.size) (hn : n ≤ 1048576) :
    Calls Try.prog 28 #[.slice A n c, .int .i64 coins] w fun e w' => e = .returned (priceT coins xs) ∧ Below w.heap.size w w' := by
  have H := Lib.hid h
  clear h
  cases ha : accsB xs
  · rw [show priceT coins xs = .tuple #[.int .i64 0, .bool false] from by simp [priceT, ha]]
    go_enter Try.func28, Try.ntmps28
    go_wp2_with fail
    refine (iAreAccounts_any A n c B xs _ H.out hB hn).mono ?_
    rintro e w1 ⟨rfl, hb1⟩
    rw [ha]
    go_wp2_with fail
    go_ret2
    exact ⟨rfl, hb1⟩
  · cases hp : inB coins 0 10000000
    · rw [show priceT coins xs = .tuple #[.int .i64 0, .bool false] from by simp [priceT, hp]]
      go_enter Try.func28, Try.ntmps28
      go_wp2_with fail
      refine (iAreAccounts_any A n c B xs _ H.out hB hn).mono ?_
      rintro e w1 ⟨rfl, hb1⟩
      rw [ha]
      go_wp2_with (go_at_call 64; refine (within_any _ _ _ _).mono ?_; rintro e w' ⟨rfl, rfl⟩; rw [hp])
      go_ret2
      exact ⟨rfl, hb1⟩
    · rw [show priceT coins xs = priceV coins xs from by simp [priceT, ha, hp]]
      have HO := Lib.hid (accs_ok ha).1
      go_enter Try.func28, Try.ntmps28
      go_wp2_with fail
      refine (iAreAccounts_any A n c B xs _ H.out hB hn).mono ?_
      rintro e w1 ⟨rfl, hb1⟩
      rw [ha]
      have HB1 := Lib.hid hb1
      clear hb1
      go_wp2_with (go_at_call 64; refine (within_any _ _ _ _).mono ?_; rintro e w' ⟨rfl, rfl⟩; rw [hp])
      go_loopw [6] (fun p wr => ∃ k : Nat, p = .int .i64 ((k : Int) + 1) ∧ k ≤ 500 ∧ NoneTo coins xs k ∧ Below w.heap.size w wr) (fun p _ => (502 - intOf p).toNat)
      case atStart => exact ⟨0, rfl, by omega, noneTo_zero _ _, HB1.out⟩
      case round =>
        obtain ⟨k, rfl, hk, hu, hb⟩ := hrel
        have HU := Lib.hid hu
        have HB := Lib.hid hb
        clear hu hb
        by_cases hlt : k < 500
        · have hpk : inB ((k : Int) + 1) 1 500 = true := by simp [inB]; omega
          have HR := Lib.hid (H.out.below (HB.out.mono hB))
          have hk5 : (k : Int) + 1 ≤ 500 := by omega
          have HPK := Lib.hid hpk
          have HLT := Lib.hid hlt
          clear hpk hlt hk
          go_wp2_with fail
          refine (sums_any A n c B xs ((k : Int) + 1) _ HR.out (Nat.le_trans hB HB.out.size) hn HO.out HPK.out).mono ?_
          rintro e w2 ⟨rfl, hb2⟩
          have HB2 := Lib.hid (ext_trans HB.out hb2)
          clear hb2
          by_cases hh : coins ≤ feesS ((k : Int) + 1) xs
          · have HV := Lib.hid (priceV_hit HLT.out HU.out hh)
            generalize feesS ((k : Int) + 1) xs = fv at hh ⊢
            go_wp2
            go_ret2
            exact ⟨by rw [HV.out]; rfl, HB2.out⟩
          · have HN := Lib.hid (priceUp_next HLT.out HU.out hh)
            generalize feesS ((k : Int) + 1) xs = fv at hh ⊢
            have hk0 : (0 : Int) ≤ k := by omega
            have hh' : fv < coins := by omega
            have hk6 : (k : Int) ≤ 499 := by omega
            clear hh hk5
            go_wp2
            go_roundw
            case rel => exact ⟨k + 1, by go_num, HLT.out, HN.out, HB2.out⟩
            case measure => show (502 - ((k : Int) + 1 + 1)).toNat < (502 - ((k : Int) + 1)).toNat; omega
        · have hk' : k = 500 := by omega
          subst hk'
          have HV := Lib.hid (priceV_end HU.out)
          clear HU
          go_wp2
          go_ret2
          exact ⟨by rw [HV.out]; rfl, HB.out⟩
set_option maxHeartbeats 2000000 in
theorem sPriceFor_any (A : Option Addr) (n c B : Nat) (xs : List Acct) (coins : Int) (w : World) (h : Reads w B 5 A n ((acctF xs).map (Value.int .i64))) (hB : B ≤ w.heap.size) (hn : n ≤ 1048576) :
    Calls Try.prog 27 #[.slice A n c, .int .i64 coins] w fun e w' => e = .returned (priceT coins xs) ∧ Below w.heap.size w w' := by
  have H := Lib.hid h
  clear h
  cases ha : accsB xs
  · rw [show priceT coins xs = .tuple #[.int .i64 0, .bool false] from by simp [priceT, ha]]
    go_enter Try.func27, Try.ntmps27
    go_wp2_with fail
    refine (l14Good_any A n c B xs _ H.out hB hn).mono ?_
    rintro e w1 ⟨rfl, hb1⟩
    rw [ha]
    go_wp2_with fail
    go_ret2
    exact ⟨rfl, hb1⟩
  · cases hp : inB coins 0 10000000
    · rw [show priceT coins xs = .tuple #[.int .i64 0, .bool false] from by simp [priceT, hp]]
      go_enter Try.func27, Try.ntmps27
      go_wp2_with fail
      refine (l14Good_any A n c B xs _ H.out hB hn).mono ?_
      rintro e w1 ⟨rfl, hb1⟩
      rw [ha]
      go_wp2_with (go_at_call 74; refine (l1In_any _ _ _ _).mono ?_; rintro e w' ⟨rfl, rfl⟩; rw [hp])
      go_ret2
      exact ⟨rfl, hb1⟩
    · rw [show priceT coins xs = priceV coins xs from by simp [priceT, ha, hp]]
      have HO := Lib.hid (accs_ok ha).1
      go_enter Try.func27, Try.ntmps27
      go_wp2_with fail
      refine (l14Good_any A n c B xs _ H.out hB hn).mono ?_
      rintro e w1 ⟨rfl, hb1⟩
      rw [ha]
      have HB1 := Lib.hid hb1
      clear hb1
      go_wp2_with (go_at_call 74; refine (l1In_any _ _ _ _).mono ?_; rintro e w' ⟨rfl, rfl⟩; rw [hp])
      go_loopw [6] (fun p wr => ∃ k : Nat, p = .int .i64 ((k : Int) + 1) ∧ k ≤ 500 ∧ NoneTo coins xs k ∧ Below w.heap.size w wr) (fun p _ => (502 - intOf p).toNat)
      case atStart => exact ⟨0, rfl, by omega, noneTo_zero _ _, HB1.out⟩
      case round =>
        obtain ⟨k, rfl, hk, hu, hb⟩ := hrel
        have HU := Lib.hid hu
        have HB := Lib.hid hb
        clear hu hb
        by_cases hlt : k < 500
        · have hpk : inB ((k : Int) + 1) 1 500 = true := by simp [inB]; omega
          have HR := Lib.hid (H.out.below (HB.out.mono hB))
          have hk5 : (k : Int) + 1 ≤ 500 := by omega
          have HPK := Lib.hid hpk
          have HLT := Lib.hid hlt
          clear hpk hlt hk
          go_wp2_with fail
          refine (l14Sum_any A n c B xs ((k : Int) + 1) _ HR.out (Nat.le_trans hB HB.out.size) hn HO.out HPK.out).mono ?_
          rintro e w2 ⟨rfl, hb2⟩
          have HB2 := Lib.hid (ext_trans HB.out hb2)
          clear hb2
          by_cases hh : coins ≤ feesS ((k : Int) + 1) xs
          · have HV := Lib.hid (priceV_hit HLT.out HU.out hh)
            generalize feesS ((k : Int) + 1) xs = fv at hh ⊢
            go_wp2
            go_ret2
            exact ⟨by rw [HV.out]; rfl, HB2.out⟩
          · have HN := Lib.hid (priceUp_next HLT.out HU.out hh)
            generalize feesS ((k : Int) + 1) xs = fv at hh ⊢
            have hk0 : (0 : Int) ≤ k := by omega
            have hh' : fv < coins := by omega
            have hk6 : (k : Int) ≤ 499 := by omega
            clear hh hk5
            go_wp2
            go_roundw
            case rel => exact ⟨k + 1, by go_num, HLT.out, HN.out, HB2.out⟩
            case measure => show (502 - ((k : Int) + 1 + 1)).toNat < (502 - ((k : Int) + 1)).toNat; omega
        · have hk' : k = 500 := by omega
          subst hk'
          have HV := Lib.hid (priceV_end HU.out)
          clear HU
          go_wp2
          go_ret2
          exact ⟨by rw [HV.out]; rfl, HB.out⟩
theorem priceT_form (coins : Int) (xs : List Acct) : ∃ r ok, priceT coins xs = .tuple #[.int .i64 r, .bool ok] := by
  unfold priceT priceV
  split
  · split <;> exact ⟨_, _, rfl⟩
  · exact ⟨_, _, rfl⟩
set_option maxHeartbeats 1000000 in
theorem FnExactPriceFor_any (A : Option Addr) (n c : Nat) (zs : List Int) (coins : Int) (_ : (Lit.int .i64 coins).wf = true) (w : World) (h : Reads w w.heap.size 5 A n (zs.map (Value.int .i64)) ∧ n ≤ maxLen) :
    Calls Try.prog 7 #[.slice A n c, .int .i64 coins] w fun e w' => e = .returned (.bool true) ∧ Below w.heap.size w w' := by
  obtain ⟨h, hm⟩ := h
  obtain ⟨xs, rfl, hl⟩ := acctF_of n zs (by simpa using h.1)
  have H := Lib.hid h
  clear h hl
  obtain ⟨r, ok, ht⟩ : ∃ r ok, priceT coins xs = .tuple #[.int .i64 r, .bool ok] := priceT_form _ _
  by_cases hn : n ≤ 1048576
  · go_enter Try.func7, Try.ntmps7
    go_wp2_with fail
    refine (szAccountS_any A n c hm _).mono ?_
    rintro e w' ⟨rfl, rfl⟩
    rw [if_pos hn]
    go_wp2_with fail
    refine (toAccountS_any A n c _ xs _ H.out (Nat.le_refl _) hn).mono ?_
    rintro e w1 ⟨A1, n1, c1, rfl, a1⟩
    have z1 := a1.reads.acctLen
    have z0 := H.out.acctLen
    obtain rfl : n1 = n := by omega
    have R1 := Lib.hid (H.out.below a1.ext)
    go_wp2_with fail
    refine (sPriceFor_any A1 n1 c1 _ xs coins _ a1.reads (Nat.le_refl _) hn).mono ?_
    rintro e w2 ⟨rfl, hb2⟩
    rw [ht]
    have R2 := Lib.hid (R1.out.below (hb2.mono a1.ext.size))
    have e2 := ext_trans a1.ext hb2
    go_wp2_with fail
    refine (toAccountS_any A n1 c _ xs _ R2.out e2.size hn).mono ?_
    rintro e w3 ⟨A3, n3, c3, rfl, a3⟩
    have z3 := a3.reads.acctLen
    obtain rfl : n3 = n1 := by omega
    have R3 := Lib.hid (R2.out.below (a3.ext.mono e2.size))
    have e3 := ext_trans e2 a3.ext
    go_wp2_with fail
    refine (iPriceFor_any A3 n3 c3 _ xs coins _ a3.reads (Nat.le_refl _) hn).mono ?_
    rintro e w4 ⟨rfl, hb4⟩
    rw [ht]
    have R4 := Lib.hid (R3.out.below (hb4.mono e3.size))
    have e4 := ext_trans e3 hb4
    have a3' := a3.later hb4
    go_wp2_with fail
    refine (toAccountS_any A n3 c _ xs _ R4.out e4.size hn).mono ?_
    rintro e w5 ⟨A5, n5, c5, rfl, a5⟩
    have z5 := a5.reads.acctLen
    obtain rfl : n5 = n3 := by omega
    have e5 := ext_trans e4 a5.ext
    go_wp2_with fail
    refine (eqAccountS_any A3 A5 n5 n5 c3 c5 _ _ xs xs _ (a3'.reads.below a5.ext) a5.reads a5.ext.size (Nat.le_refl _) (by unfold maxLen; omega) (by unfold maxLen; omega)).mono ?_
    rintro e w6 ⟨rfl, hb6⟩
    rw [decide_eq_true (rfl : xs = xs)]
    go_wp2_with fail
    go_ret
    exact ⟨rfl, ext_trans e5 hb6⟩
  · go_enter Try.func7, Try.ntmps7
    go_wp2_with fail
    refine (szAccountS_any A n c hm _).mono ?_
    rintro e w' ⟨rfl, rfl⟩
    rw [if_neg hn]
    go_wp2_with fail
    go_ret
    exact ⟨rfl, Below.refl _ _⟩
end Go.Proofs.Ytbjmpllnkkfgfaa
