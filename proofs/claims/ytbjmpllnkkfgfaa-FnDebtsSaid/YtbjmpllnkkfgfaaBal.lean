/- A pupil's accounts; balances. No condition. -/
import Derived.Test.YtbjmpllnkkfgfaaPrice
import Derived.Test.YtbjmpllnkkfgfaaIns
namespace Go.Proofs.Ytbjmpllnkkfgfaa
open Go.RowKit

def ownA (pupil : Int) (xs : List Acct) : List Acct := xs.filter (fun x => x.p == pupil)
theorem ownA_hit {pupil : Int} {xs : List Acct} {k : Nat} {x : Acct} (hx : xs[k]? = some x) (h : x.p = pupil) : ownA pupil (xs.take (k + 1)) = ownA pupil (xs.take k) ++ [x] := by
  rw [acctF_snoc hx]; simp [ownA, h]
theorem ownA_miss {pupil : Int} {xs : List Acct} {k : Nat} {x : Acct} (hx : xs[k]? = some x) (h : x.p ≠ pupil) : ownA pupil (xs.take (k + 1)) = ownA pupil (xs.take k) := by
  rw [acctF_snoc hx]; simp [ownA, h]
theorem ownA_len (pupil : Int) (xs : List Acct) : (ownA pupil xs).length ≤ xs.length := List.length_filter_le _ _
theorem AllOk.own {xs : List Acct} (h : AllOk xs) (pupil : Int) : AllOk (ownA pupil xs) := fun x hx => h x (List.mem_filter.1 hx).1
set_option maxHeartbeats 2000000 in
theorem accountsOf_any (A : Option Addr) (n c B : Nat) (xs : List Acct) (pupil : Int) (w : World) (h : Reads w B 5 A n ((acctF xs).map (Value.int .i64))) (hB : B ≤ w.heap.size) (hn : n ≤ 1048576) :
    Calls Try.prog 79 #[.slice A n c, .int .i64 pupil] w fun e w' => GivesS 25 5 (acctF (ownA pupil xs)) w e w' := by
  have hl := h.acctLen
  have H := Lib.hid h
  have HL := Lib.hid hl
  clear h hl
  go_enter Try.func79, Try.ntmps79
  go_wp2
  go_loopw [5, 10] (fun s i wr => ∃ (j : Nat) (A' : Option Addr) (n' c' : Nat), i = .int .i64 j ∧ j ≤ n ∧ s = .slice A' n' c' ∧ Acc w wr 25 5 A' n' c' (acctF (ownA pupil (xs.take j)))) (fun _ i _ => n - (intOf i).toNat)
  case atStart => exact ⟨0, none, 0, 0, rfl, by omega, rfl, Acc.nil (Below.refl _ _)⟩
  case round =>
    obtain ⟨j, A', n', c', rfl, hj, rfl, hacc⟩ := hrel
    have hn' : n' ≤ j := by
      have h1 := hacc.reads.acctLen
      have h2 := ownA_len pupil (xs.take j)
      have h3 := List.length_take_le j xs
      omega
    have HA := Lib.hid hacc
    clear hacc
    by_cases hlt : j < n
    · obtain ⟨b, o, x, hAx, hx, hc0, hc1, hc2, hc3, hc4⟩ := (H.out.below (HA.out.ext.mono hB)).acct hlt
      subst hAx
      have HX := Lib.hid hx
      clear hx
      by_cases hp : x.p = pupil
      · have HO := Lib.hid (ownA_hit HX.out hp)
        have hpb : (x.p == pupil) = true := by simp [hp]
        clear hp
        go_wp2_with (at_builtin; (refine appAcct rfl _ _ rfl rfl ((HA.out.alloc _).alloc _) rfl (reads_newAt _ _ _ 5 x.cs _ (by simp) rfl rfl) (by omega) ?_; intro A2 c2 w2 hacc' _))
        have HA' := Lib.hid hacc'
        clear hacc'
        go_wp2
        go_roundw
        case rel => exact ⟨j + 1, _, _, _, by go_num, by omega, rfl, by rw [HO.out, acctF_app]; simpa [acctF] using HA'.out⟩
        case measure => simp [intOf]; omega
      · have HO := Lib.hid (ownA_miss HX.out hp)
        go_wp2
        go_roundw
        case rel => exact ⟨j + 1, _, _, _, by go_num, by omega, rfl, by rw [HO.out]; exact HA.out.alloc _⟩
        case measure => simp [intOf]; omega
    · have hj' : j = n := by omega
      have e : xs.take j = xs := List.take_of_length_le (by have := HL.out; omega)
      rw [e] at HA
      go_wp2
      go_ret
      exact ⟨_, _, _, rfl, HA.out⟩

def hasA (pupil : Int) (xs : List Acct) : Bool := xs.any (fun x => x.p == pupil)
theorem hasA_own (pupil : Int) (xs : List Acct) : hasA pupil xs = !(ownA pupil xs).isEmpty := by
  unfold hasA ownA
  induction xs with
  | nil => rfl
  | cons x xs ih =>
    rw [List.any_cons, List.filter_cons, ih]
    cases h : (x.p == pupil) <;> simp
theorem hasA_hit {pupil : Int} {xs : List Acct} {k : Nat} {x : Acct} (hx : xs[k]? = some x) (h : x.p = pupil) : hasA pupil xs = true := by
  unfold hasA; rw [List.any_eq_true]; exact ⟨x, List.mem_of_getElem? hx, by simp [h]⟩
theorem hasA_next {pupil : Int} {xs : List Acct} {k : Nat} {x : Acct} (hx : xs[k]? = some x) (h : x.p ≠ pupil) (hh : hasA pupil (xs.take k) = false) : hasA pupil (xs.take (k + 1)) = false := by
  rw [acctF_snoc hx]; unfold hasA at *; simp [hh, h]
def balV (pupil price : Int) (xs : List Acct) : Int := paidS (ownA pupil xs) - feesS price (ownA pupil xs)
theorem bal_hit {pupil price : Int} {xs : List Acct} {k : Nat} {x : Acct} (hx : xs[k]? = some x) (h : x.p = pupil) : balV pupil price (xs.take (k + 1)) = balV pupil price (xs.take k) + x.d - feeV x.l x.s price := by
  unfold balV; rw [ownA_hit hx h, paidS_app, feesS_app]; simp only [paidS, feesS]; omega
theorem bal_miss {pupil price : Int} {xs : List Acct} {k : Nat} {x : Acct} (hx : xs[k]? = some x) (h : x.p ≠ pupil) : balV pupil price (xs.take (k + 1)) = balV pupil price (xs.take k) := by
  unfold balV; rw [ownA_miss hx h]
theorem bal_bd {pupil price : Int} {xs : List Acct} {n : Nat} (h : AllOk xs) (hp : inB price 1 500 = true) (hl : xs.length = n) (hn : n ≤ 1048576) (k : Nat) : -10223616000 ≤ balV pupil price (xs.take k) ∧ balV pupil price (xs.take k) ≤ 104857600000 := by
  have h1 := paidS_bd ((h.take k).own pupil)
  have h2 := feesS_bd hp ((h.take k).own pupil)
  have h3 := ownA_len pupil (xs.take k)
  have h4 : (xs.take k).length ≤ n := by rw [List.length_take]; omega
  unfold balV; omega
def balT (pupil price : Int) (xs : List Acct) : Value := if accsB xs = true ∧ inB price 1 500 = true ∧ hasA pupil xs = true then .tuple #[.int .i64 (balV pupil price xs), .bool true] else .tuple #[.int .i64 0, .bool false]
theorem balT_form (pupil price : Int) (xs : List Acct) : ∃ r ok, balT pupil price xs = .tuple #[.int .i64 r, .bool ok] := by
  unfold balT; split <;> exact ⟨_, _, rfl⟩
theorem Acct.ok_parts {x : Acct} (h : x.ok' = true) : 1 ≤ x.p ∧ x.p ≤ 999 ∧ 0 ≤ x.m ∧ x.m ≤ 1200 ∧ 0 ≤ x.l ∧ x.l ≤ 31 ∧ 0 ≤ x.s ∧ x.s ≤ 5 ∧ 0 ≤ x.d ∧ x.d ≤ 100000 := acc_parts h
theorem Acct.fee_bd {x : Acct} {price : Int} (h : x.ok' = true) (hp : inB price 1 500 = true) : 0 ≤ feeV x.l x.s price ∧ feeV x.l x.s price ≤ 9750 := by
  obtain ⟨_, _, _, _, l0, l1, s0, s1, _⟩ := acc_parts h
  obtain ⟨p0, p1⟩ := inB_true hp
  exact Go.Proofs.Ytbjmpllnkkfgfaa.fee_bd l0 l1 s0 p0 p1
set_option maxHeartbeats 1000000 in
theorem l14Has_any (A : Option Addr) (n c B : Nat) (xs : List Acct) (pupil : Int) (w : World) (h : Reads w B 5 A n ((acctF xs).map (Value.int .i64))) (_ : B ≤ w.heap.size) (hn : n ≤ 1048576) :
    Calls Try.prog 77 #[.slice A n c, .int .i64 pupil] w fun e w' => e = .returned (.bool (hasA pupil xs)) ∧ w = w' := by
  have hl := h.acctLen
  have H := Lib.hid h
  have HL := Lib.hid hl
  clear h hl
  go_enter Try.func77, Try.ntmps77
  go_wp2
  go_loop [5] (fun i => ∃ k : Nat, i = .int .i64 k ∧ k ≤ n ∧ hasA pupil (xs.take k) = false) (fun i => n - (intOf i).toNat)
  case atStart => exact ⟨0, rfl, by omega, rfl⟩
  case round =>
    obtain ⟨k, rfl, hk, hh⟩ := hrel
    have HH := Lib.hid hh
    clear hh
    by_cases hlt : k < n
    · obtain ⟨b, o, x, hAx, hx, hc0, hc1, hc2, hc3, hc4⟩ := H.out.acct hlt
      subst hAx
      have HX := Lib.hid hx
      clear hx
      by_cases hp : x.p = pupil
      · have HR := Lib.hid (hasA_hit HX.out hp)
        go_wp2
        go_ret
        exact ⟨by rw [HR.out]; rfl, rfl⟩
      · have HR := Lib.hid (hasA_next HX.out hp HH.out)
        go_wp2
        go_round
        case rel => exact ⟨k + 1, by go_num, by omega, HR.out⟩
        case measure => simp [intOf]; omega
    · go_wp2
      go_ret
      have hf : hasA pupil xs = false := by rw [← HH.out, List.take_of_length_le (by have := HL.out; omega)]
      exact ⟨by rw [hf]; rfl, rfl⟩
set_option maxHeartbeats 2000000 in
theorem l14Balance_any (A : Option Addr) (n c B : Nat) (xs : List Acct) (pupil price : Int) (w : World) (h : Reads w B 5 A n ((acctF xs).map (Value.int .i64))) (hB : B ≤ w.heap.size) (hn : n ≤ 1048576) (hok : AllOk xs) (hp : inB price 1 500 = true) :
    Calls Try.prog 78 #[.slice A n c, .int .i64 pupil, .int .i64 price] w fun e w' => e = .returned (.int .i64 (balV pupil price xs)) ∧ Below w.heap.size w w' := by
  have hl := h.acctLen
  have H := Lib.hid h
  have HL := Lib.hid hl
  have HO := Lib.hid hok
  have HP := Lib.hid hp
  clear h hl hok hp
  go_enter Try.func78, Try.ntmps78
  go_wp2
  go_loopw [7, 8] (fun s i wr => ∃ j : Nat, i = .int .i64 j ∧ j ≤ n ∧ s = .int .i64 (balV pupil price (xs.take j)) ∧ Below w.heap.size w wr) (fun _ i _ => n - (intOf i).toNat)
  case atStart => exact ⟨0, rfl, by omega, rfl, Below.refl _ _⟩
  case round =>
    obtain ⟨j, rfl, hj, rfl, hb⟩ := hrel
    by_cases hlt : j < n
    · obtain ⟨b, o, x, hAx, hx, hc0, hc1, hc2, hc3, hc4⟩ := (H.out.below (hb.mono hB)).acct hlt
      subst hAx
      have HX := Lib.hid hx
      have HB := Lib.hid hb
      clear hx hb
      by_cases hpp : x.p = pupil
      · have HS := Lib.hid (bal_hit (price := price) HX.out hpp)
        have hpb : (x.p == pupil) = true := by simp [hpp]
        clear hpp
        obtain ⟨b1, b2⟩ := bal_bd (pupil := pupil) HO.out HP.out HL.out hn j
        obtain ⟨f1, f2⟩ := Acct.fee_bd (HO.out.at HX.out) HP.out
        obtain ⟨_, _, _, _, _, _, _, _, d1, d2⟩ := Acct.ok_parts (HO.out.at HX.out)
        have hf := l14Fee_any x price (HO.out.at HX.out) HP.out
        generalize balV pupil price (xs.take j) = sj at HS b1 b2 ⊢
        generalize feeV x.l x.s price = fv at HS f1 f2 hf
        have hj1 : (j : Int) < n := by omega
        have hj0 : (0 : Int) ≤ j := by omega
        go_wp2
        have w1 : IntKind.i64.wrap (sj + x.d) = sj + x.d := IntWalk.i64_in _ ⟨by omega, by omega⟩
        have w2 : IntKind.i64.wrap (sj + x.d - fv) = sj + x.d - fv := IntWalk.i64_in _ ⟨by omega, by omega⟩
        have hself : Below wr.heap.size wr wr.drew := ext_drew (Below.refl _ _)
        refine wp_region_held_drew (S := (fun w' => w'.cell? ⟨b, o + j * 5, none⟩ = some (.int .i64 x.p) ∧ w'.cell? ⟨b, o + j * 5 + 1, none⟩ = some (.int .i64 x.m) ∧ w'.cell? ⟨b, o + j * 5 + 2, none⟩ = some (.int .i64 x.l) ∧ w'.cell? ⟨b, o + j * 5 + 3, none⟩ = some (.int .i64 x.s) ∧ w'.cell? ⟨b, o + j * 5 + 4, none⟩ = some (.int .i64 x.d) ∧ Below wr.heap.size wr w')) (by kernel_rfl) ?_ (fun hHeld => ?_)
        · (try dsimp only); (first | (go_keep; done) | ((try go_split_ands); (repeat' apply And.intro); all_goals first | exact ext_drew (Below.refl _ _) | exact below_cell (by assumption) (by assumption) | (refine ext_trans ?_ (by assumption); assumption) | assumption))
        refine wpAnyH_takeD (i := 0) (v := ?_) 22 rfl rfl (by kernel_rfl) (by kernel_rfl) (by kernel_rfl) (fun _ _ _ _ _ h => h) (by rfl) (by assumption) ?_ ?_
        rotate_left; focus (intro w hSw; (try dsimp only at hSw); go_simp; try (with_reducible rfl))
        try simp only [Act.put, List.setIfInBounds_toArray, List.set_cons_zero, List.set_cons_succ]
        refine wpAnyH_takeD (i := 1) (v := ?_) 23 rfl rfl (by kernel_rfl) (by kernel_rfl) (by kernel_rfl) (fun _ _ _ _ _ h => h) (by rfl) (by assumption) ?_ ?_
        rotate_left; focus (intro w hSw; (try dsimp only at hSw); go_simp; try (with_reducible rfl))
        try simp only [Act.put, List.setIfInBounds_toArray, List.set_cons_zero, List.set_cons_succ]
        refine wpAnyH_takeD (i := 2) (v := ?_) 24 rfl rfl (by kernel_rfl) (by kernel_rfl) (by kernel_rfl) (fun _ _ _ _ _ h => h) (by rfl) (by assumption) ?_ ?_
        rotate_left; focus (intro w hSw; (try dsimp only at hSw); go_simp; try (with_reducible rfl))
        try simp only [Act.put, List.setIfInBounds_toArray, List.set_cons_zero, List.set_cons_succ]
        refine wpAnyH_takeD (i := 3) (v := ?_) 25 rfl rfl (by kernel_rfl) (by kernel_rfl) (by kernel_rfl) (fun _ _ _ _ _ h => h) (by rfl) (by assumption) ?_ ?_
        rotate_left; focus (intro w hSw; (try dsimp only at hSw); go_simp; try (with_reducible rfl))
        try simp only [Act.put, List.setIfInBounds_toArray, List.set_cons_zero, List.set_cons_succ]
        refine wpAnyH_takeD (i := 4) (v := ?_) 26 rfl rfl (by kernel_rfl) (by kernel_rfl) (by kernel_rfl) (fun _ _ _ _ _ h => h) (by rfl) (by assumption) ?_ ?_
        rotate_left; focus (intro w hSw; (try dsimp only at hSw); go_simp; try (with_reducible rfl))
        try simp only [Act.put, List.setIfInBounds_toArray, List.set_cons_zero, List.set_cons_succ]
        refine wpAnyH_takeD (i := 5) (v := ?_) 27 rfl rfl (by kernel_rfl) (by kernel_rfl) (by kernel_rfl) (fun _ _ _ _ _ h => h) (by rfl) (by assumption) ?_ ?_
        rotate_left; focus (intro w hSw; (try dsimp only at hSw); go_simp; try (with_reducible rfl))
        try simp only [Act.put, List.setIfInBounds_toArray, List.set_cons_zero, List.set_cons_succ]
        refine wpAnyH_takeD (i := 6) (v := ?_) 28 rfl rfl (by kernel_rfl) (by kernel_rfl) (by kernel_rfl) (fun _ _ _ _ _ h => h) (by rfl) (by assumption) ?_ ?_
        rotate_left; focus (intro w hSw; (try dsimp only at hSw); go_simp; try (with_reducible rfl))
        try simp only [Act.put, List.setIfInBounds_toArray, List.set_cons_zero, List.set_cons_succ]
        refine wpAnyH_takeD (i := 7) (v := ?_) 29 rfl rfl (by kernel_rfl) (by kernel_rfl) (by kernel_rfl) (fun _ _ _ _ _ h => h) (by rfl) (by assumption) ?_ ?_
        rotate_left; focus (intro w hSw; (try dsimp only at hSw); go_simp; try (with_reducible rfl))
        try simp only [Act.put, List.setIfInBounds_toArray, List.set_cons_zero, List.set_cons_succ]
        refine wpAnyH_takeD (i := 8) (v := ?_) 30 rfl rfl (by kernel_rfl) (by kernel_rfl) (by kernel_rfl) (fun _ _ _ _ _ h => h) (by rfl) (by assumption) ?_ ?_
        rotate_left; focus (intro w hSw; (try dsimp only at hSw); go_simp; try (with_reducible rfl))
        try simp only [Act.put, List.setIfInBounds_toArray, List.set_cons_zero, List.set_cons_succ]
        refine wpAnyH_takeD (i := 9) (v := ?_) 31 rfl rfl (by kernel_rfl) (by kernel_rfl) (by kernel_rfl) (fun _ _ _ _ _ h => h) (by rfl) (by assumption) ?_ ?_
        rotate_left; focus (intro w hSw; (try dsimp only at hSw); go_simp; try (with_reducible rfl))
        try simp only [Act.put, List.setIfInBounds_toArray, List.set_cons_zero, List.set_cons_succ]
        refine wpAnyH_takeD (i := 10) (v := ?_) 32 rfl rfl (by kernel_rfl) (by kernel_rfl) (by kernel_rfl) (fun _ _ _ _ _ h => h) (by rfl) (by assumption) ?_ ?_
        rotate_left; focus (intro w hSw; (try dsimp only at hSw); go_simp; try (with_reducible rfl))
        try simp only [Act.put, List.setIfInBounds_toArray, List.set_cons_zero, List.set_cons_succ]
        refine wpAnyH_takeD (i := 11) (v := ?_) 33 rfl rfl (by kernel_rfl) (by kernel_rfl) (by kernel_rfl) (fun _ _ _ _ _ h => h) (by rfl) (by assumption) ?_ ?_
        rotate_left; focus (intro w hSw; (try dsimp only at hSw); go_simp; try (with_reducible rfl))
        try simp only [Act.put, List.setIfInBounds_toArray, List.set_cons_zero, List.set_cons_succ]
        refine wpAnyH_ready (rs := [12]) (by kernel_rfl) (by simp) ?_
        refine AllReadyH.cons rfl (fun K hK => ?_) AllReadyH.nil
        go_simp; (go_at_call 66; refine (hf _).mono ?_; rintro e w' ⟨rfl, hb'⟩); (try dsimp only)
        refine hK.out _ _ ?_ (fun hHeld => ?_)
        focus ((try dsimp only); (first | (go_keep; done) | ((try go_split_ands); (repeat' apply And.intro); all_goals first | exact ext_drew (Below.refl _ _) | exact below_cell (by assumption) (by assumption) | (refine ext_trans ?_ (by assumption); assumption) | assumption)))
        clear hK K; try simp only [Act.put, List.setIfInBounds_toArray, List.set_cons_zero, List.set_cons_succ]
        refine wpAnyH_takeD (i := 13) (v := ?_) 35 rfl rfl (by kernel_rfl) (by kernel_rfl) (by kernel_rfl) (fun _ _ _ _ _ h => h) (by rfl) (by assumption) ?_ ?_
        rotate_left; focus (intro w hSw; (try dsimp only at hSw); go_simp; try (with_reducible rfl))
        try simp only [Act.put, List.setIfInBounds_toArray, List.set_cons_zero, List.set_cons_succ]
        refine wpAnyH_takeD (i := 14) (v := ?_) 7 rfl rfl (by kernel_rfl) (by kernel_rfl) (by kernel_rfl) (fun _ _ _ _ _ h => h) (by rfl) (by assumption) ?_ ?_
        rotate_left; focus (intro w hSw; (try dsimp only at hSw); go_simp; try (with_reducible rfl))
        try simp only [Act.put, List.setIfInBounds_toArray, List.set_cons_zero, List.set_cons_succ]
        refine wpAnyH_done (by kernel_rfl) ?_ _
        have HBB := Lib.hid (ext_trans HB.out hHeld.2.2.2.2.2)
        clear hHeld hb' w1 w2 hf
        go_wp2
        go_roundw
        case rel => exact ⟨j + 1, by go_num, by omega, by rw [HS.out], HBB.out⟩
        case measure => simp [intOf]; omega
      · have HS := Lib.hid (bal_miss (price := price) HX.out hpp)
        go_wp2
        go_roundw
        case rel => exact ⟨j + 1, by go_num, by omega, by rw [HS.out], HB.out⟩
        case measure => simp [intOf]; omega
    · have hj' : j = n := by omega
      have e : xs.take j = xs := List.take_of_length_le (by have := HL.out; omega)
      rw [e]
      go_wp2
      go_ret
      exact ⟨rfl, hb⟩
set_option maxHeartbeats 4000000 in
theorem sBalanceOf_any (A : Option Addr) (n c B : Nat) (xs : List Acct) (pupil price : Int) (w : World) (h : Reads w B 5 A n ((acctF xs).map (Value.int .i64))) (hB : B ≤ w.heap.size) (hn : n ≤ 1048576) :
    Calls Try.prog 29 #[.slice A n c, .int .i64 pupil, .int .i64 price] w fun e w' => e = .returned (balT pupil price xs) ∧ Below w.heap.size w w' := by
  have hl := h.acctLen
  have H := Lib.hid h
  have HL := Lib.hid hl
  clear h hl
  cases ha : accsB xs
  · rw [show balT pupil price xs = .tuple #[.int .i64 0, .bool false] from by simp [balT, ha]]
    · go_enter Try.func29, Try.ntmps29
      go_wp2_with fail
      refine (l14Good_any A n c B xs _ H.out hB hn).mono ?_
      rintro e w2 ⟨rfl, hb2⟩
      rw [ha]
      have HB2 := Lib.hid hb2
      have R2 := Lib.hid (H.out.below (hb2.mono hB))
      have hB2 : B ≤ w2.heap.size := Nat.le_trans hB hb2.size
      clear hb2
      go_wp2_with fail
      go_ret2
      exact ⟨rfl, HB2.out⟩
  · cases hp : inB price 1 500
    · rw [show balT pupil price xs = .tuple #[.int .i64 0, .bool false] from by simp [balT, hp]]
      go_enter Try.func29, Try.ntmps29
      go_wp2_with fail
      refine (l14Good_any A n c B xs _ H.out hB hn).mono ?_
      rintro e w2 ⟨rfl, hb2⟩
      rw [ha]
      have HB2 := Lib.hid hb2
      have R2 := Lib.hid (H.out.below (hb2.mono hB))
      have hB2 : B ≤ w2.heap.size := Nat.le_trans hB hb2.size
      clear hb2
      go_wp2_with (go_at_call 65; refine (l14Price_v _ hp _).mono ?_; rintro e w' ⟨rfl, rfl⟩)
      go_ret2
      exact ⟨rfl, HB2.out⟩
    · cases hh : hasA pupil xs
      · rw [show balT pupil price xs = .tuple #[.int .i64 0, .bool false] from by simp [balT, hh]]
        go_enter Try.func29, Try.ntmps29
        go_wp2_with fail
        refine (l14Good_any A n c B xs _ H.out hB hn).mono ?_
        rintro e w2 ⟨rfl, hb2⟩
        rw [ha]
        have HB2 := Lib.hid hb2
        have R2 := Lib.hid (H.out.below (hb2.mono hB))
        have hB2 : B ≤ w2.heap.size := Nat.le_trans hB hb2.size
        clear hb2
        go_wp2_with (first | (go_at_call 65; refine (l14Price_v _ hp _).mono ?_; rintro e w' ⟨rfl, rfl⟩) | (go_at_call 77; refine (l14Has_any A n c B xs pupil _ R2.out hB2 hn).mono ?_; rintro e w' ⟨rfl, rfl⟩; rw [hh]))
        go_ret2
        exact ⟨rfl, HB2.out⟩
      · rw [show balT pupil price xs = .tuple #[.int .i64 (balV pupil price xs), .bool true] from by simp [balT, ha, hp, hh]]
        have HO := Lib.hid (accs_ok ha).1
        have HP := Lib.hid hp
        go_enter Try.func29, Try.ntmps29
        go_wp2_with fail
        refine (l14Good_any A n c B xs _ H.out hB hn).mono ?_
        rintro e w2 ⟨rfl, hb2⟩
        rw [ha]
        have HB2 := Lib.hid hb2
        have R2 := Lib.hid (H.out.below (hb2.mono hB))
        have hB2 : B ≤ w2.heap.size := Nat.le_trans hB hb2.size
        clear hb2
        go_wp2_with (first | (go_at_call 65; refine (l14Price_v _ hp _).mono ?_; rintro e w' ⟨rfl, rfl⟩) | (go_at_call 77; refine (l14Has_any A n c B xs pupil _ R2.out hB2 hn).mono ?_; rintro e w' ⟨rfl, rfl⟩; rw [hh]))
        refine (l14Balance_any A n c B xs pupil price _ R2.out hB2 hn HO.out HP.out).mono ?_
        rintro e w3 ⟨rfl, hb3⟩
        go_wp2
        go_ret2
        exact ⟨rfl, ext_trans HB2.out hb3⟩
set_option maxHeartbeats 4000000 in
theorem iBalanceOf_any (A : Option Addr) (n c B : Nat) (xs : List Acct) (pupil price : Int) (w : World) (h : Reads w B 5 A n ((acctF xs).map (Value.int .i64))) (hB : B ≤ w.heap.size) (hn : n ≤ 1048576) :
    Calls Try.prog 30 #[.slice A n c, .int .i64 pupil, .int .i64 price] w fun e w' => e = .returned (balT pupil price xs) ∧ Below w.heap.size w w' := by
  have hl := h.acctLen
  have H := Lib.hid h
  have HL := Lib.hid hl
  clear h hl
  cases ha : accsB xs
  · rw [show balT pupil price xs = .tuple #[.int .i64 0, .bool false] from by simp [balT, ha]]
    · go_enter Try.func30, Try.ntmps30
      go_wp2_with fail
      refine (accountsOf_any A n c B xs pupil _ H.out hB hn).mono ?_
      rintro e w1 ⟨A1, n1, c1, rfl, a1⟩
      have hn1 : (ownA pupil xs).length = n1 := a1.reads.acctLen
      have A1' := Lib.hid a1
      clear a1
      go_wp2_with fail
      refine (iAreAccounts_any A n c B xs _ (H.out.below (A1'.out.ext.mono hB)) (Nat.le_trans hB A1'.out.ext.size) hn).mono ?_
      rintro e w2 ⟨rfl, hb2⟩
      rw [ha]
      have A2 := Lib.hid (A1'.out.later hb2)
      have HB2 := Lib.hid A2.out.ext
      clear hb2 A1'
      clear hn1
      go_wp2_with fail
      go_ret2
      exact ⟨rfl, HB2.out⟩
  · cases hp : inB price 1 500
    · rw [show balT pupil price xs = .tuple #[.int .i64 0, .bool false] from by simp [balT, hp]]
      go_enter Try.func30, Try.ntmps30
      go_wp2_with fail
      refine (accountsOf_any A n c B xs pupil _ H.out hB hn).mono ?_
      rintro e w1 ⟨A1, n1, c1, rfl, a1⟩
      have hn1 : (ownA pupil xs).length = n1 := a1.reads.acctLen
      have A1' := Lib.hid a1
      clear a1
      go_wp2_with fail
      refine (iAreAccounts_any A n c B xs _ (H.out.below (A1'.out.ext.mono hB)) (Nat.le_trans hB A1'.out.ext.size) hn).mono ?_
      rintro e w2 ⟨rfl, hb2⟩
      rw [ha]
      have A2 := Lib.hid (A1'.out.later hb2)
      have HB2 := Lib.hid A2.out.ext
      clear hb2 A1'
      clear hn1
      go_wp2_with (go_at_call 67; refine (isPrice_v _ hp _).mono ?_; rintro e w' ⟨rfl, rfl⟩)
      go_ret2
      exact ⟨rfl, HB2.out⟩
    · cases hh : hasA pupil xs
      · rw [show balT pupil price xs = .tuple #[.int .i64 0, .bool false] from by simp [balT, hh]]
        go_enter Try.func30, Try.ntmps30
        go_wp2_with fail
        refine (accountsOf_any A n c B xs pupil _ H.out hB hn).mono ?_
        rintro e w1 ⟨A1, n1, c1, rfl, a1⟩
        have hn1 : (ownA pupil xs).length = n1 := a1.reads.acctLen
        have A1' := Lib.hid a1
        clear a1
        go_wp2_with fail
        refine (iAreAccounts_any A n c B xs _ (H.out.below (A1'.out.ext.mono hB)) (Nat.le_trans hB A1'.out.ext.size) hn).mono ?_
        rintro e w2 ⟨rfl, hb2⟩
        rw [ha]
        have A2 := Lib.hid (A1'.out.later hb2)
        have HB2 := Lib.hid A2.out.ext
        clear hb2 A1'
        have hz : n1 = 0 := by
          have h := hasA_own pupil xs
          rw [hh, Eq.comm, Bool.not_eq_false', List.isEmpty_iff] at h
          rw [h] at hn1; exact hn1.symm
        subst hz
        clear hn1
        go_wp2_with (go_at_call 67; refine (isPrice_v _ hp _).mono ?_; rintro e w' ⟨rfl, rfl⟩)
        go_ret2
        exact ⟨rfl, HB2.out⟩
      · rw [show balT pupil price xs = .tuple #[.int .i64 (paidS (ownA pupil xs) - feesS price (ownA pupil xs)), .bool true] from by simp [balT, ha, hp, hh, balV]]
        have HO := Lib.hid (accs_ok ha).1
        have HP := Lib.hid hp
        go_enter Try.func30, Try.ntmps30
        go_wp2_with fail
        refine (accountsOf_any A n c B xs pupil _ H.out hB hn).mono ?_
        rintro e w1 ⟨A1, n1, c1, rfl, a1⟩
        have hn1 : (ownA pupil xs).length = n1 := a1.reads.acctLen
        have A1' := Lib.hid a1
        clear a1
        go_wp2_with fail
        refine (iAreAccounts_any A n c B xs _ (H.out.below (A1'.out.ext.mono hB)) (Nat.le_trans hB A1'.out.ext.size) hn).mono ?_
        rintro e w2 ⟨rfl, hb2⟩
        rw [ha]
        have A2 := Lib.hid (A1'.out.later hb2)
        have HB2 := Lib.hid A2.out.ext
        clear hb2 A1'
        have hz : 0 < n1 := by
          rcases Nat.eq_zero_or_pos n1 with h0 | h0
          · rw [h0] at hn1
            have h := hasA_own pupil xs
            rw [hh, List.eq_nil_of_length_eq_zero hn1] at h
            cases h
          · exact h0
        have hz' : ((n1 : Int) == 0) = false := by simp; omega
        have HN1 := Lib.hid hn1
        have hn1' : n1 ≤ n := by
          have h1 := ownA_len pupil xs
          have h2 := HL.out
          omega
        clear hn1 hz
        have hbd := bal_bd (pupil := pupil) HO.out HP.out HL.out hn n
        rw [List.take_of_length_le (by have := HL.out; omega)] at hbd
        obtain ⟨b1, b2⟩ := hbd
        unfold balV at b1 b2
        go_wp2_with (go_at_call 67; refine (isPrice_v _ hp _).mono ?_; rintro e w' ⟨rfl, rfl⟩)
        refine (sums_any A1 n1 c1 _ (ownA pupil xs) price _ A2.out.reads (Nat.le_refl _) (by omega) (HO.out.own pupil) HP.out).mono ?_
        rintro e w3 ⟨rfl, hb3⟩
        generalize hpd : paidS (ownA pupil xs) = pd at b1 b2 ⊢
        generalize hfs : feesS price (ownA pupil xs) = fs at b1 b2 ⊢
        have HPD := Lib.hid hpd
        have HFS := Lib.hid hfs
        clear hpd hfs
        go_wp2
        go_ret2
        exact ⟨by rw [HPD.out, HFS.out]; rfl, ext_trans HB2.out hb3⟩
set_option maxHeartbeats 1000000 in
theorem FnExactBalanceOf_any (A : Option Addr) (n c : Nat) (zs : List Int) (pupil : Int) (_ : (Lit.int .i64 pupil).wf = true) (price : Int) (_ : (Lit.int .i64 price).wf = true) (w : World) (h : Reads w w.heap.size 5 A n (zs.map (Value.int .i64)) ∧ n ≤ maxLen) :
    Calls Try.prog 8 #[.slice A n c, .int .i64 pupil, .int .i64 price] w fun e w' => e = .returned (.bool true) ∧ Below w.heap.size w w' := by
  obtain ⟨h, hm⟩ := h
  obtain ⟨xs, rfl, hl⟩ := acctF_of n zs (by simpa using h.1)
  have H := Lib.hid h
  clear h hl
  obtain ⟨r, ok, ht⟩ : ∃ r ok, balT pupil price xs = .tuple #[.int .i64 r, .bool ok] := balT_form ..
  by_cases hn : n ≤ 1048576
  · go_enter Try.func8, Try.ntmps8
    go_wp2_with fail
    refine (szAccountS_any A n c hm _).mono ?_
    rintro e w' ⟨rfl, rfl⟩
    rw [if_pos hn]
    go_wp2_with fail
    refine (toAccountS_any A n c _ xs _ H.out (Nat.le_refl _) hn).mono ?_
    rintro e w1 ⟨A1, n1, c1, rfl, a1⟩
    have z1 := a1.reads.acctLen
    have z0 := H.out.acctLen
    obtain rfl : n1 = n := by omega
    have R1 := Lib.hid (H.out.below a1.ext)
    go_wp2_with fail
    refine (sBalanceOf_any A1 n1 c1 _ xs pupil price _ a1.reads (Nat.le_refl _) hn).mono ?_
    rintro e w2 ⟨rfl, hb2⟩
    rw [ht]
    have R2 := Lib.hid (R1.out.below (hb2.mono a1.ext.size))
    have e2 := ext_trans a1.ext hb2
    go_wp2_with fail
    refine (toAccountS_any A n1 c _ xs _ R2.out e2.size hn).mono ?_
    rintro e w3 ⟨A3, n3, c3, rfl, a3⟩
    have z3 := a3.reads.acctLen
    obtain rfl : n3 = n1 := by omega
    have R3 := Lib.hid (R2.out.below (a3.ext.mono e2.size))
    have e3 := ext_trans e2 a3.ext
    go_wp2_with fail
    refine (iBalanceOf_any A3 n3 c3 _ xs pupil price _ a3.reads (Nat.le_refl _) hn).mono ?_
    rintro e w4 ⟨rfl, hb4⟩
    rw [ht]
    have R4 := Lib.hid (R3.out.below (hb4.mono e3.size))
    have e4 := ext_trans e3 hb4
    have a3' := a3.later hb4
    go_wp2_with fail
    refine (toAccountS_any A n3 c _ xs _ R4.out e4.size hn).mono ?_
    rintro e w5 ⟨A5, n5, c5, rfl, a5⟩
    have z5 := a5.reads.acctLen
    obtain rfl : n5 = n3 := by omega
    have e5 := ext_trans e4 a5.ext
    go_wp2_with fail
    refine (eqAccountS_any A3 A5 n5 n5 c3 c5 _ _ xs xs _ (a3'.reads.below a5.ext) a5.reads a5.ext.size (Nat.le_refl _) (by unfold maxLen; omega) (by unfold maxLen; omega)).mono ?_
    rintro e w6 ⟨rfl, hb6⟩
    rw [decide_eq_true (rfl : xs = xs)]
    go_wp2_with fail
    go_ret
    exact ⟨rfl, ext_trans e5 hb6⟩
  · go_enter Try.func8, Try.ntmps8
    go_wp2_with fail
    refine (szAccountS_any A n c hm _).mono ?_
    rintro e w' ⟨rfl, rfl⟩
    rw [if_neg hn]
    go_wp2_with fail
    go_ret
    exact ⟨rfl, Below.refl _ _⟩

def lastF (price : Int) : Int → Int → List Acct → Int
  | _, m, [] => m
  | left, m, x :: xs => lastF price (left - feeV x.l x.s price) (if 0 ≤ left - feeV x.l x.s price then x.m else m) xs
theorem lastF_snoc (price : Int) : ∀ (xs : List Acct) (left m : Int) (x : Acct), lastF price left m (xs ++ [x]) = if 0 ≤ left - feesS price (xs ++ [x]) then x.m else lastF price left m xs
  | [], left, m, x => by simp [lastF, feesS]
  | y :: ys, left, m, x => by
    rw [List.cons_append, lastF, lastF_snoc price ys, lastF, feesS]
    rw [show left - feeV y.l y.s price - feesS price (ys ++ [x]) = left - (feeV y.l y.s price + feesS price (ys ++ [x])) from by omega]
def lastV (pupil price : Int) (xs : List Acct) : Int := lastF price (paidS (ownA pupil xs)) (-1) (ownA pupil xs)
def lastT (pupil price : Int) (xs : List Acct) : Value := if accsB xs = true ∧ inB price 1 500 = true ∧ hasA pupil xs = true then .tuple #[.int .i64 (lastV pupil price xs), .bool true] else .tuple #[.int .i64 0, .bool false]
theorem lastT_form (pupil price : Int) (xs : List Acct) : ∃ r ok, lastT pupil price xs = .tuple #[.int .i64 r, .bool ok] := by
  unfold lastT; split <;> exact ⟨_, _, rfl⟩
theorem Reads.frontA {w : World} {B n : Nat} {A : Option Addr} {xs : List Acct} (h : Reads w B 5 A n ((acctF xs).map (Value.int .i64))) {k : Nat} (hk : k ≤ n) : Reads w B 5 A k ((acctF (xs.take k)).map (Value.int .i64)) := by
  rw [← acctF_take, List.map_take]; exact h.front hk
set_option maxHeartbeats 4000000 in
theorem iLastPaidUp_any (A : Option Addr) (n c B : Nat) (xs : List Acct) (pupil price : Int) (w : World) (h : Reads w B 5 A n ((acctF xs).map (Value.int .i64))) (hB : B ≤ w.heap.size) (hn : n ≤ 1048576) :
    Calls Try.prog 32 #[.slice A n c, .int .i64 pupil, .int .i64 price] w fun e w' => e = .returned (lastT pupil price xs) ∧ Below w.heap.size w w' := by
  have hl := h.acctLen
  have H := Lib.hid h
  have HL := Lib.hid hl
  clear h hl
  cases ha : accsB xs
  · rw [show lastT pupil price xs = .tuple #[.int .i64 0, .bool false] from by simp [lastT, ha]]
    · go_enter Try.func32, Try.ntmps32
      go_wp2_with fail
      refine (accountsOf_any A n c B xs pupil _ H.out hB hn).mono ?_
      rintro e w1 ⟨A1, n1, c1, rfl, a1⟩
      have hn1 : (ownA pupil xs).length = n1 := a1.reads.acctLen
      have A1' := Lib.hid a1
      clear a1
      go_wp2_with fail
      refine (iAreAccounts_any A n c B xs _ (H.out.below (A1'.out.ext.mono hB)) (Nat.le_trans hB A1'.out.ext.size) hn).mono ?_
      rintro e w2 ⟨rfl, hb2⟩
      rw [ha]
      have A2 := Lib.hid (A1'.out.later hb2)
      have HB2 := Lib.hid A2.out.ext
      clear hb2 A1'
      clear hn1
      go_wp2_with fail
      go_ret2
      exact ⟨rfl, HB2.out⟩
  · cases hp : inB price 1 500
    · rw [show lastT pupil price xs = .tuple #[.int .i64 0, .bool false] from by simp [lastT, hp]]
      go_enter Try.func32, Try.ntmps32
      go_wp2_with fail
      refine (accountsOf_any A n c B xs pupil _ H.out hB hn).mono ?_
      rintro e w1 ⟨A1, n1, c1, rfl, a1⟩
      have hn1 : (ownA pupil xs).length = n1 := a1.reads.acctLen
      have A1' := Lib.hid a1
      clear a1
      go_wp2_with fail
      refine (iAreAccounts_any A n c B xs _ (H.out.below (A1'.out.ext.mono hB)) (Nat.le_trans hB A1'.out.ext.size) hn).mono ?_
      rintro e w2 ⟨rfl, hb2⟩
      rw [ha]
      have A2 := Lib.hid (A1'.out.later hb2)
      have HB2 := Lib.hid A2.out.ext
      clear hb2 A1'
      clear hn1
      go_wp2_with (go_at_call 67; refine (isPrice_v _ hp _).mono ?_; rintro e w' ⟨rfl, rfl⟩)
      go_ret2
      exact ⟨rfl, HB2.out⟩
    · cases hh : hasA pupil xs
      · rw [show lastT pupil price xs = .tuple #[.int .i64 0, .bool false] from by simp [lastT, hh]]
        go_enter Try.func32, Try.ntmps32
        go_wp2_with fail
        refine (accountsOf_any A n c B xs pupil _ H.out hB hn).mono ?_
        rintro e w1 ⟨A1, n1, c1, rfl, a1⟩
        have hn1 : (ownA pupil xs).length = n1 := a1.reads.acctLen
        have A1' := Lib.hid a1
        clear a1
        go_wp2_with fail
        refine (iAreAccounts_any A n c B xs _ (H.out.below (A1'.out.ext.mono hB)) (Nat.le_trans hB A1'.out.ext.size) hn).mono ?_
        rintro e w2 ⟨rfl, hb2⟩
        rw [ha]
        have A2 := Lib.hid (A1'.out.later hb2)
        have HB2 := Lib.hid A2.out.ext
        clear hb2 A1'
        have hz : n1 = 0 := by
          have h := hasA_own pupil xs
          rw [hh, Eq.comm, Bool.not_eq_false', List.isEmpty_iff] at h
          rw [h] at hn1; exact hn1.symm
        subst hz
        clear hn1
        go_wp2_with (go_at_call 67; refine (isPrice_v _ hp _).mono ?_; rintro e w' ⟨rfl, rfl⟩)
        go_ret2
        exact ⟨rfl, HB2.out⟩
      · rw [show lastT pupil price xs = .tuple #[.int .i64 (lastV pupil price xs), .bool true] from by simp [lastT, ha, hp, hh]]
        have HO := Lib.hid (accs_ok ha).1
        have HP := Lib.hid hp
        go_enter Try.func32, Try.ntmps32
        go_wp2_with fail
        refine (accountsOf_any A n c B xs pupil _ H.out hB hn).mono ?_
        rintro e w1 ⟨A1, n1, c1, rfl, a1⟩
        have hn1 : (ownA pupil xs).length = n1 := a1.reads.acctLen
        have A1' := Lib.hid a1
        clear a1
        go_wp2_with fail
        refine (iAreAccounts_any A n c B xs _ (H.out.below (A1'.out.ext.mono hB)) (Nat.le_trans hB A1'.out.ext.size) hn).mono ?_
        rintro e w2 ⟨rfl, hb2⟩
        rw [ha]
        have A2 := Lib.hid (A1'.out.later hb2)
        have HB2 := Lib.hid A2.out.ext
        clear hb2 A1'
        have hz : 0 < n1 := by
          rcases Nat.eq_zero_or_pos n1 with h0 | h0
          · rw [h0] at hn1
            have h := hasA_own pupil xs
            rw [hh, List.eq_nil_of_length_eq_zero hn1] at h
            cases h
          · exact h0
        have hz' : ((n1 : Int) == 0) = false := by simp; omega
        have HN1 := Lib.hid hn1
        have hn1' : n1 ≤ n := by
          have h1 := ownA_len pupil xs
          have h2 := HL.out
          omega
        clear hn1 hz
        go_wp2_with (go_at_call 67; refine (isPrice_v _ hp _).mono ?_; rintro e w' ⟨rfl, rfl⟩)
        refine (sums_any A1 n1 c1 _ (ownA pupil xs) price _ A2.out.reads (Nat.le_refl _) (by omega) (HO.out.own pupil) HP.out).mono ?_
        rintro e w3 ⟨rfl, hb3⟩
        have HB3 := Lib.hid hb3
        obtain ⟨cap1, cap2⟩ := A2.out.cap
        unfold maxLen at cap2
        generalize hpd : paidS (ownA pupil xs) = pd at ⊢
        have HPD := Lib.hid hpd
        clear hb3 hpd
        go_wp2
        go_loopw [11, 12, 13, 14, 15, 40] (fun m _ _ _ _ i wr => ∃ j : Nat, i = .int .i64 j ∧ j ≤ n1 ∧ m = .int .i64 (lastF price pd (-1) ((ownA pupil xs).take j)) ∧ Below w3.heap.size w3 wr) (fun _ _ _ _ _ i _ => n1 - (intOf i).toNat)
        case atStart => exact ⟨0, rfl, by omega, rfl, Below.refl _ _⟩
        case round =>
          obtain ⟨j, rfl, hj, rfl, hb⟩ := hrel
          have HB := Lib.hid hb
          clear hb
          have R := Lib.hid ((A2.out.reads.below HB3.out).below (HB.out.mono HB3.out.size))
          by_cases hlt : j < n1
          · obtain ⟨b, o, x, hAx, hx, hc0, hc1, hc2, hc3, hc4⟩ := R.out.acct hlt
            subst hAx
            have HX := Lib.hid hx
            have R' := Lib.hid (R.out.frontA (show j + 1 ≤ n1 from hlt))
            have hsn := lastF_snoc price ((ownA pupil xs).take j) pd (-1) x
            rw [← acctF_snoc hx] at hsn
            have HSN := Lib.hid hsn
            clear hx hsn
            generalize lastF price pd (-1) ((ownA pupil xs).take j) = mj at HSN ⊢
            have e1 : ((j : Int) + 1).toNat = j + 1 := by omega
            go_wp2_with fail
            refine (sums_any (some ⟨b, o, none⟩) (j + 1) c1 _ ((ownA pupil xs).take (j + 1)) price _ (R'.out.alloc (Nat.le_trans HB3.out.size HB.out.size) _) (by have := HB3.out.size; have := HB.out.size; simp; omega) (by omega) ((HO.out.own pupil).take _) HP.out).mono ?_
            rintro e w4 ⟨rfl, hb4⟩
            have HB4 := Lib.hid (ext_trans (ext_alloc HB.out _) hb4)
            have hbx := box_cells wr 25 x
            have hcx := (bcell hb4).1
            have c1' := hcx wr.heap.size 1 (by simp)
            rw [hbx.2.1] at c1'
            clear hb4 hbx hcx
            generalize hfs : feesS price ((ownA pupil xs).take (j + 1)) = fs at HSN ⊢
            have HFS := Lib.hid hfs
            clear hfs
            by_cases hle : fs ≤ pd
            · have e2 : (0 : Int) ≤ pd - fs := by omega
              have HV := Lib.hid (HSN.out.trans (if_pos e2))
              clear e2
              go_wp2
              go_roundw
              case rel => exact ⟨j + 1, by go_num, by omega, by rw [HV.out], HB4.out⟩
              case measure => simp [intOf]; omega
            · have e2 : ¬ (0 : Int) ≤ pd - fs := by omega
              have HV := Lib.hid (HSN.out.trans (if_neg e2))
              clear e2
              go_wp2
              go_roundw
              case rel => exact ⟨j + 1, by go_num, by omega, by rw [HV.out], HB4.out⟩
              case measure => simp [intOf]; omega
          · have hj' : j = n1 := by omega
            have e : (ownA pupil xs).take j = ownA pupil xs := List.take_of_length_le (by have := HN1.out; omega)
            rw [e]
            clear e
            go_wp2
            go_ret2
            exact ⟨by unfold lastV; rw [HPD.out]; rfl, ext_trans (ext_trans HB2.out HB3.out) HB.out⟩

theorem paid_hit {pupil : Int} {xs : List Acct} {k : Nat} {x : Acct} (hx : xs[k]? = some x) (h : x.p = pupil) : paidS (ownA pupil (xs.take (k + 1))) = paidS (ownA pupil (xs.take k)) + x.d := by
  rw [ownA_hit hx h, paidS_app]; simp only [paidS]; omega
theorem fees_hit {pupil price : Int} {xs : List Acct} {k : Nat} {x : Acct} (hx : xs[k]? = some x) (h : x.p = pupil) : feesS price (ownA pupil (xs.take (k + 1))) = feesS price (ownA pupil (xs.take k)) + feeV x.l x.s price := by
  rw [ownA_hit hx h, feesS_app]; simp only [feesS]; omega
theorem last_hit {pupil price pd : Int} {xs : List Acct} {k : Nat} {x : Acct} (hx : xs[k]? = some x) (h : x.p = pupil) :
    lastF price pd (-1) (ownA pupil (xs.take (k + 1))) = if 0 ≤ pd - feesS price (ownA pupil (xs.take (k + 1))) then x.m else lastF price pd (-1) (ownA pupil (xs.take k)) := by
  rw [ownA_hit hx h, lastF_snoc]
theorem sums_bd {pupil price : Int} {xs : List Acct} {n : Nat} (h : AllOk xs) (hp : inB price 1 500 = true) (hl : xs.length = n) (hn : n ≤ 1048576) (k : Nat) :
    0 ≤ paidS (ownA pupil (xs.take k)) ∧ paidS (ownA pupil (xs.take k)) ≤ 104857600000 ∧ 0 ≤ feesS price (ownA pupil (xs.take k)) ∧ feesS price (ownA pupil (xs.take k)) ≤ 10223616000 := by
  have h1 := paidS_bd ((h.take k).own pupil)
  have h2 := feesS_bd hp ((h.take k).own pupil)
  have h3 := ownA_len pupil (xs.take k)
  have h4 : (xs.take k).length ≤ n := by rw [List.length_take]; omega
  omega
set_option maxHeartbeats 4000000 in
theorem sLastPaidUp_any (A : Option Addr) (n c B : Nat) (xs : List Acct) (pupil price : Int) (w : World) (h : Reads w B 5 A n ((acctF xs).map (Value.int .i64))) (hB : B ≤ w.heap.size) (hn : n ≤ 1048576) :
    Calls Try.prog 31 #[.slice A n c, .int .i64 pupil, .int .i64 price] w fun e w' => e = .returned (lastT pupil price xs) ∧ Below w.heap.size w w' := by
  have hl := h.acctLen
  have H := Lib.hid h
  have HL := Lib.hid hl
  clear h hl
  cases ha : accsB xs
  · rw [show lastT pupil price xs = .tuple #[.int .i64 0, .bool false] from by simp [lastT, ha]]
    · go_enter Try.func31, Try.ntmps31
      go_wp2_with fail
      refine (l14Good_any A n c B xs _ H.out hB hn).mono ?_
      rintro e w2 ⟨rfl, hb2⟩
      rw [ha]
      have HB2 := Lib.hid hb2
      have R2 := Lib.hid (H.out.below (hb2.mono hB))
      have hB2 : B ≤ w2.heap.size := Nat.le_trans hB hb2.size
      clear hb2
      go_wp2_with fail
      go_ret2
      exact ⟨rfl, HB2.out⟩
  · cases hp : inB price 1 500
    · rw [show lastT pupil price xs = .tuple #[.int .i64 0, .bool false] from by simp [lastT, hp]]
      go_enter Try.func31, Try.ntmps31
      go_wp2_with fail
      refine (l14Good_any A n c B xs _ H.out hB hn).mono ?_
      rintro e w2 ⟨rfl, hb2⟩
      rw [ha]
      have HB2 := Lib.hid hb2
      have R2 := Lib.hid (H.out.below (hb2.mono hB))
      have hB2 : B ≤ w2.heap.size := Nat.le_trans hB hb2.size
      clear hb2
      go_wp2_with (go_at_call 65; refine (l14Price_v _ hp _).mono ?_; rintro e w' ⟨rfl, rfl⟩)
      go_ret2
      exact ⟨rfl, HB2.out⟩
    · cases hh : hasA pupil xs
      · rw [show lastT pupil price xs = .tuple #[.int .i64 0, .bool false] from by simp [lastT, hh]]
        go_enter Try.func31, Try.ntmps31
        go_wp2_with fail
        refine (l14Good_any A n c B xs _ H.out hB hn).mono ?_
        rintro e w2 ⟨rfl, hb2⟩
        rw [ha]
        have HB2 := Lib.hid hb2
        have R2 := Lib.hid (H.out.below (hb2.mono hB))
        have hB2 : B ≤ w2.heap.size := Nat.le_trans hB hb2.size
        clear hb2
        go_wp2_with (first | (go_at_call 65; refine (l14Price_v _ hp _).mono ?_; rintro e w' ⟨rfl, rfl⟩) | (go_at_call 77; refine (l14Has_any A n c B xs pupil _ R2.out hB2 hn).mono ?_; rintro e w' ⟨rfl, rfl⟩; rw [hh]))
        go_ret2
        exact ⟨rfl, HB2.out⟩
      · rw [show lastT pupil price xs = .tuple #[.int .i64 (lastV pupil price xs), .bool true] from by simp [lastT, ha, hp, hh]]
        have HO := Lib.hid (accs_ok ha).1
        have HP := Lib.hid hp
        go_enter Try.func31, Try.ntmps31
        go_wp2_with fail
        refine (l14Good_any A n c B xs _ H.out hB hn).mono ?_
        rintro e w2 ⟨rfl, hb2⟩
        rw [ha]
        have HB2 := Lib.hid hb2
        have R2 := Lib.hid (H.out.below (hb2.mono hB))
        have hB2 : B ≤ w2.heap.size := Nat.le_trans hB hb2.size
        clear hb2
        go_wp2_with (first | (go_at_call 65; refine (l14Price_v _ hp _).mono ?_; rintro e w' ⟨rfl, rfl⟩) | (go_at_call 77; refine (l14Has_any A n c B xs pupil _ R2.out hB2 hn).mono ?_; rintro e w' ⟨rfl, rfl⟩; rw [hh]))
        go_loop [8, 10] (fun l i => ∃ j : Nat, i = .int .i64 j ∧ j ≤ n ∧ l = .int .i64 (paidS (ownA pupil (xs.take j)))) (fun _ i => n - (intOf i).toNat)
        case atStart => exact ⟨0, rfl, by omega, rfl⟩
        case round =>
          obtain ⟨j, rfl, hj, rfl⟩ := hrel
          by_cases hlt : j < n
          · obtain ⟨b, o, x, hAx, hx, hc0, hc1, hc2, hc3, hc4⟩ := R2.out.acct hlt
            subst hAx
            have HX := Lib.hid hx
            clear hx
            by_cases hpp : x.p = pupil
            · have HS := Lib.hid (paid_hit HX.out hpp)
              have hpb : (x.p == pupil) = true := by simp [hpp]
              obtain ⟨b1, b2, _, _⟩ := sums_bd (pupil := pupil) HO.out HP.out HL.out hn j
              obtain ⟨_, _, _, _, _, _, _, _, d1, d2⟩ := Acct.ok_parts (HO.out.at HX.out)
              generalize paidS (ownA pupil (xs.take j)) = pj at HS b1 b2 ⊢
              clear hpp
              go_wp2
              go_round
              case rel => exact ⟨j + 1, by go_num, by omega, by rw [HS.out]⟩
              case measure => simp [intOf]; omega
            · have HS := Lib.hid (congrArg paidS (ownA_miss HX.out hpp))
              have hpb : (x.p == pupil) = false := by simp [hpp]
              clear hpp
              go_wp2
              go_round
              case rel => exact ⟨j + 1, by go_num, by omega, by rw [HS.out]⟩
              case measure => simp [intOf]; omega
          · have hj' : j = n := by omega
            have e : xs.take j = xs := List.take_of_length_le (by have := HL.out; omega)
            obtain ⟨b1, b2, _, _⟩ := sums_bd (pupil := pupil) HO.out HP.out HL.out hn j
            rw [e] at b1 b2 ⊢
            clear e
            generalize hpd : paidS (ownA pupil xs) = pd at b1 b2 ⊢
            have HPD := Lib.hid hpd
            clear hpd
            go_wp2
            go_loopw [8, 9, 11] (fun l m i wr => ∃ j : Nat, i = .int .i64 j ∧ j ≤ n ∧ l = .int .i64 (pd - feesS price (ownA pupil (xs.take j))) ∧ m = .int .i64 (lastF price pd (-1) (ownA pupil (xs.take j))) ∧ Below w2.heap.size w2 wr) (fun _ _ i _ => n - (intOf i).toNat)
            case atStart => exact ⟨0, rfl, by omega, by simp [ownA, feesS], rfl, Below.refl _ _⟩
            case round =>
              clear hj hlt hj'
              obtain ⟨j, rfl, hj, rfl, rfl, hb⟩ := hrel
              have HB := Lib.hid hb
              clear hb
              by_cases hlt : j < n
              · obtain ⟨b, o, x, hAx, hx, hc0, hc1, hc2, hc3, hc4⟩ := (R2.out.below (HB.out.mono hB2)).acct hlt
                subst hAx
                have HX := Lib.hid hx
                clear hx
                by_cases hpp : x.p = pupil
                · have hpb : (x.p != pupil) = false := by simp [hpp]
                  have HS := Lib.hid (fees_hit (price := price) HX.out hpp)
                  have HM := Lib.hid (last_hit (price := price) (pd := pd) HX.out hpp)
                  obtain ⟨_, _, g1, g2⟩ := sums_bd (pupil := pupil) HO.out HP.out HL.out hn j
                  obtain ⟨f1, f2⟩ := Acct.fee_bd (HO.out.at HX.out) HP.out
                  have hf := l14Fee_any x price (HO.out.at HX.out) HP.out
                  rw [HS.out] at HM
                  generalize feesS price (ownA pupil (xs.take j)) = fj at HS HM g1 g2 ⊢
                  generalize feeV x.l x.s price = fv at HS HM f1 f2 hf
                  generalize lastF price pd (-1) (ownA pupil (xs.take j)) = mj at HM ⊢
                  clear hpp
                  go_wp2_with fail
                  refine (hf _).mono ?_
                  rintro e w3 ⟨rfl, hb3⟩
                  have HB3 := Lib.hid (ext_trans HB.out hb3)
                  have k1 := (bcell hb3).1 b (o + j * 5 + 1) (World.block_lt_of_cell? _ _ hc1)
                  rw [hc1] at k1
                  clear hb3 hf
                  by_cases hle : (0 : Int) ≤ pd - fj - fv
                  · have HV := Lib.hid (HM.out.trans (if_pos (show (0 : Int) ≤ pd - (fj + fv) by omega)))
                    go_wp2
                    go_roundw
                    case rel => exact ⟨j + 1, by go_num, by omega, by rw [HS.out]; go_num, by rw [HV.out], HB3.out⟩
                    case measure => simp [intOf]; omega
                  · have HV := Lib.hid (HM.out.trans (if_neg (show ¬ (0 : Int) ≤ pd - (fj + fv) by omega)))
                    go_wp2
                    go_roundw
                    case rel => exact ⟨j + 1, by go_num, by omega, by rw [HS.out]; go_num, by rw [HV.out], HB3.out⟩
                    case measure => simp [intOf]; omega
                · have HO' := Lib.hid (ownA_miss HX.out hpp)
                  have hpb : (x.p != pupil) = true := by simp [hpp]
                  clear hpp
                  go_wp2
                  go_roundw
                  case rel => exact ⟨j + 1, by go_num, by omega, by rw [HO'.out], by rw [HO'.out], HB.out⟩
                  case measure => simp [intOf]; omega
              · have hj' : j = n := by omega
                have e : xs.take j = xs := List.take_of_length_le (by have := HL.out; omega)
                rw [e]
                clear e
                go_wp2
                go_ret2
                exact ⟨by unfold lastV; rw [HPD.out]; rfl, ext_trans HB2.out HB.out⟩
set_option maxHeartbeats 1000000 in
theorem FnExactLastPaidUp_any (A : Option Addr) (n c : Nat) (zs : List Int) (pupil : Int) (_ : (Lit.int .i64 pupil).wf = true) (price : Int) (_ : (Lit.int .i64 price).wf = true) (w : World) (h : Reads w w.heap.size 5 A n (zs.map (Value.int .i64)) ∧ n ≤ maxLen) :
    Calls Try.prog 9 #[.slice A n c, .int .i64 pupil, .int .i64 price] w fun e w' => e = .returned (.bool true) ∧ Below w.heap.size w w' := by
  obtain ⟨h, hm⟩ := h
  obtain ⟨xs, rfl, hl⟩ := acctF_of n zs (by simpa using h.1)
  have H := Lib.hid h
  clear h hl
  obtain ⟨r, ok, ht⟩ : ∃ r ok, lastT pupil price xs = .tuple #[.int .i64 r, .bool ok] := lastT_form ..
  by_cases hn : n ≤ 1048576
  · go_enter Try.func9, Try.ntmps9
    go_wp2_with fail
    refine (szAccountS_any A n c hm _).mono ?_
    rintro e w' ⟨rfl, rfl⟩
    rw [if_pos hn]
    go_wp2_with fail
    refine (toAccountS_any A n c _ xs _ H.out (Nat.le_refl _) hn).mono ?_
    rintro e w1 ⟨A1, n1, c1, rfl, a1⟩
    have z1 := a1.reads.acctLen
    have z0 := H.out.acctLen
    obtain rfl : n1 = n := by omega
    have R1 := Lib.hid (H.out.below a1.ext)
    go_wp2_with fail
    refine (sLastPaidUp_any A1 n1 c1 _ xs pupil price _ a1.reads (Nat.le_refl _) hn).mono ?_
    rintro e w2 ⟨rfl, hb2⟩
    rw [ht]
    have R2 := Lib.hid (R1.out.below (hb2.mono a1.ext.size))
    have e2 := ext_trans a1.ext hb2
    go_wp2_with fail
    refine (toAccountS_any A n1 c _ xs _ R2.out e2.size hn).mono ?_
    rintro e w3 ⟨A3, n3, c3, rfl, a3⟩
    have z3 := a3.reads.acctLen
    obtain rfl : n3 = n1 := by omega
    have R3 := Lib.hid (R2.out.below (a3.ext.mono e2.size))
    have e3 := ext_trans e2 a3.ext
    go_wp2_with fail
    refine (iLastPaidUp_any A3 n3 c3 _ xs pupil price _ a3.reads (Nat.le_refl _) hn).mono ?_
    rintro e w4 ⟨rfl, hb4⟩
    rw [ht]
    have R4 := Lib.hid (R3.out.below (hb4.mono e3.size))
    have e4 := ext_trans e3 hb4
    have a3' := a3.later hb4
    go_wp2_with fail
    refine (toAccountS_any A n3 c _ xs _ R4.out e4.size hn).mono ?_
    rintro e w5 ⟨A5, n5, c5, rfl, a5⟩
    have z5 := a5.reads.acctLen
    obtain rfl : n5 = n3 := by omega
    have e5 := ext_trans e4 a5.ext
    go_wp2_with fail
    refine (eqAccountS_any A3 A5 n5 n5 c3 c5 _ _ xs xs _ (a3'.reads.below a5.ext) a5.reads a5.ext.size (Nat.le_refl _) (by unfold maxLen; omega) (by unfold maxLen; omega)).mono ?_
    rintro e w6 ⟨rfl, hb6⟩
    rw [decide_eq_true (rfl : xs = xs)]
    go_wp2_with fail
    go_ret
    exact ⟨rfl, ext_trans e5 hb6⟩
  · go_enter Try.func9, Try.ntmps9
    go_wp2_with fail
    refine (szAccountS_any A n c hm _).mono ?_
    rintro e w' ⟨rfl, rfl⟩
    rw [if_neg hn]
    go_wp2_with fail
    go_ret
    exact ⟨rfl, Below.refl _ _⟩
end Go.Proofs.Ytbjmpllnkkfgfaa
