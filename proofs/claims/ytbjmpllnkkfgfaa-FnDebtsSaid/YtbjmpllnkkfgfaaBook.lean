/- One lesson more in the accounts. No condition. -/
import Derived.Test.YtbjmpllnkkfgfaaInsA
import Derived.Test.YtbjmpllnkkfgfaaBal
import Derived.StillTailTactics
namespace Go.Proofs.Ytbjmpllnkkfgfaa
open Go.RowKit

/-- How many of the first accounts stand before a pupil and a month? -/
def posB (p m : Int) : List Acct → Nat
  | [] => 0
  | x :: xs => if befB x.p x.m p m = true then posB p m xs + 1 else 0
theorem posB_le (p m : Int) : ∀ xs, posB p m xs ≤ xs.length
  | [] => by simp [posB]
  | x :: xs => by
    have := posB_le p m xs
    rw [posB, List.length_cons]
    split <;> omega
theorem posB_in {p m : Int} : ∀ {xs : List Acct} {i : Nat} {x : Acct}, i < posB p m xs → xs[i]? = some x → befB x.p x.m p m = true
  | [], i, x, h, hx => by simp at hx
  | y :: ys, 0, x, h, hx => by
    obtain rfl : y = x := by simpa using hx
    rw [posB] at h
    cases hb : befB y.p y.m p m with
    | true => rfl
    | false => rw [hb] at h; simp at h
  | y :: ys, i + 1, x, h, hx => by
    rw [posB] at h
    split at h
    · exact posB_in (xs := ys) (i := i) (by omega) (by simpa using hx)
    · omega
theorem posB_stop {p m : Int} : ∀ {xs : List Acct} {k : Nat}, (∀ (i : Nat) (x : Acct), i < k → xs[i]? = some x → befB x.p x.m p m = true) → (∀ x, xs[k]? = some x → befB x.p x.m p m = false) → k ≤ xs.length → posB p m xs = k
  | [], k, _, _, hk => by simp at hk; rw [hk]; rfl
  | y :: ys, 0, _, h2, _ => by rw [posB, if_neg (by rw [h2 y rfl]; simp)]
  | y :: ys, k + 1, h1, h2, hk => by
    rw [posB, if_pos (h1 0 y (by omega) rfl), posB_stop (xs := ys) (k := k) (fun i x hi hx => h1 (i + 1) x (by omega) (by simpa using hx)) (fun x hx => h2 x (by simpa using hx)) (by simpa using hk)]
/-- The siblings that the account before place k tells. -/
def sibV (p : Int) (xs : List Acct) (k : Nat) : Int := match k, xs[k - 1]? with
  | 0, _ => 0
  | _, some y => if y.p = p then y.s else 0
  | _, none => 0
def bookX (p m : Int) (xs : List Acct) : Acct := match xs[posB p m xs]? with
  | some y => if y.p = p ∧ y.m = m then ⟨y.p, y.m, y.l + 1, y.s, y.d⟩ else ⟨p, m, 1, sibV p xs (posB p m xs), 0⟩
  | none => ⟨p, m, 1, sibV p xs (posB p m xs), 0⟩
def bookHit (p m : Int) (xs : List Acct) : Bool := match xs[posB p m xs]? with
  | some y => decide (y.p = p ∧ y.m = m)
  | none => false
def bookO (p m : Int) (xs : List Acct) : List Acct := if bookHit p m xs = true then xs.set (posB p m xs) (bookX p m xs) else insAt (posB p m xs) (bookX p m xs) xs
def bookOk (p m : Int) (xs : List Acct) : Bool := accsB xs && accsB (bookO p m xs)
def bookL (p m : Int) (xs : List Acct) : List Acct := if bookOk p m xs = true then bookO p m xs else []
theorem bookL_len (p m : Int) (xs : List Acct) : (bookL p m xs).length ≤ xs.length + 1 := by
  unfold bookL bookO
  split
  · split
    · simp
    · rw [insAt_len]; omega
  · simp
theorem book_hit {p m : Int} {xs : List Acct} {k : Nat} {y : Acct} (hk : posB p m xs = k) (hy : xs[k]? = some y) (h : y.p = p ∧ y.m = m) : bookO p m xs = xs.set k ⟨y.p, y.m, y.l + 1, y.s, y.d⟩ := by
  unfold bookO bookHit bookX; rw [hk, hy]; simp [h]
theorem book_new {p m : Int} {xs : List Acct} {k : Nat} (hk : posB p m xs = k) (h : ∀ y, xs[k]? = some y → ¬ (y.p = p ∧ y.m = m)) : bookO p m xs = insAt k ⟨p, m, 1, sibV p xs k, 0⟩ xs := by
  have hf : bookHit p m xs = false := by
    unfold bookHit
    rw [hk]
    cases hy : xs[k]? with
    | none => rfl
    | some y => exact decide_eq_false (h y hy)
  unfold bookO
  rw [hf, hk, if_neg (by simp)]
  congr 1
  unfold bookX
  rw [hk]
  cases hy : xs[k]? with
  | none => rfl
  | some y => simp only; rw [if_neg (h y hy)]
theorem sib_zero (p : Int) (xs : List Acct) : sibV p xs 0 = 0 := rfl
theorem sib_yes {p : Int} {xs : List Acct} {k : Nat} {y : Acct} (hy : xs[k]? = some y) (h : y.p = p) : sibV p xs (k + 1) = y.s := by
  unfold sibV; simp [hy, h]
theorem sib_no {p : Int} {xs : List Acct} {k : Nat} {y : Acct} (hy : xs[k]? = some y) (h : y.p ≠ p) : sibV p xs (k + 1) = 0 := by
  unfold sibV; simp [hy, h]
theorem bef_le {p m q r : Int} (h : befB p m q r = true) : p ≤ q := by
  unfold befB at h
  simp only [Bool.or_eq_true, Bool.and_eq_true, decide_eq_true_eq, beq_iff_eq] at h
  omega
theorem bef_neither {p m q r : Int} (h1 : befB p m q r = false) (h2 : befB q r p m = false) : p = q ∧ m = r := by
  unfold befB at h1 h2
  simp only [Bool.or_eq_false_iff, Bool.and_eq_false_iff, decide_eq_false_iff_not, beq_eq_false_iff_ne] at h1 h2
  omega
theorem bef_self (p m : Int) : befB p m p m = false := by simp [befB]
theorem accs_ascB {xs : List Acct} (h : accsB xs = true) {i : Nat} {x y : Acct} (hx : xs[i]? = some x) (hy : xs[i + 1]? = some y) : x.p ≤ y.p := by
  unfold accsB at h
  simp only [Bool.and_eq_true] at h
  have h1 := h.1
  unfold accsGo at h1
  rw [List.all_eq_true] at h1
  have hi := (List.getElem?_eq_some_iff.1 hy).1
  have h2 := h1 (i + 1) (by simpa using hi)
  rw [accAt_at (by omega) hy (by simpa using hx)] at h2
  simp only [Bool.and_eq_true] at h2
  exact bef_le h2.2
/-- The last account of the pupil among the first k tells the siblings: the reference's way. -/
theorem sib_step {p m : Int} {xs : List Acct} {k : Nat} {y : Acct} (ha : accsB xs = true) (hy : xs[k]? = some y) (hb : befB y.p y.m p m = true) {s : Int} (hs : s = sibV p xs k) : (if y.p = p then y.s else s) = sibV p xs (k + 1) := by
  by_cases h : y.p = p
  · rw [if_pos h, sib_yes hy h]
  · rw [if_neg h, sib_no hy h, hs]
    cases k with
    | zero => rfl
    | succ k =>
      have hk := (List.getElem?_eq_some_iff.1 hy).1
      have hz : xs[k]? = some (xs[k]'(by omega)) := List.getElem?_eq_getElem (by omega)
      have h1 := accs_ascB ha hz hy
      have h2 := bef_le hb
      exact sib_no hz (by omega)
/-- The box of an account as a row of one. -/
theorem Acc.box {w0 w : World} {E : TypeId} (h : Below w0.heap.size w0 w) (x : Acct) :
    Acc w0 (w.alloc (.cells #[.int .i64 x.p, .int .i64 x.m, .int .i64 x.l, .int .i64 x.s, .int .i64 x.d] E)) E 5 (some ⟨w.heap.size, 0, none⟩) 1 1 x.cs :=
  ⟨World.ownsRow_lit w #[.int .i64 x.p, .int .i64 x.m, .int .i64 x.l, .int .i64 x.s, .int .i64 x.d] 1 h.size (by simp [maxLen]) (by simp), h.alloc h.size _⟩
theorem acctF_inc : ∀ (xs : List Acct) (i : Nat) (z : Acct), xs[i]? = some z → (acctF xs).set (i * 5 + 2) (z.l + 1) = acctF (xs.set i ⟨z.p, z.m, z.l + 1, z.s, z.d⟩)
  | [], i, z, h => by simp at h
  | y :: ys, 0, z, h => by
    obtain rfl : y = z := by simpa using h
    simp [acctF, Acct.cs]
  | y :: ys, i + 1, z, h => by
    have ih := acctF_inc ys i z (by simpa using h)
    rw [List.set_cons_succ, acctF_cons, acctF_cons, ← ih]
    have hl : y.cs.length = 5 := rfl
    rw [List.set_append_right _ _ (by rw [hl]; omega), hl, show (i + 1) * 5 + 2 - 5 = i * 5 + 2 from by omega]
set_option maxRecDepth 100000 in
set_option maxHeartbeats 8000000 in
theorem iBookLesson_any (A : Option Addr) (n c B : Nat) (xs : List Acct) (p m : Int) (w : World) (h : Reads w B 5 A n ((acctF xs).map (Value.int .i64))) (hB : B ≤ w.heap.size) (hn : n ≤ 1048576) :
    Calls Try.prog 34 #[.slice A n c, .int .i64 p, .int .i64 m] w fun e w' => Gives 25 5 (acctF (bookL p m xs)) (bookOk p m xs) w e w' := by
  have hl := h.acctLen
  have H := Lib.hid h
  have HL := Lib.hid hl
  clear h hl
  cases ha : accsB xs
  · have HR := Lib.hid (show bookOk p m xs = false ∧ bookL p m xs = [] by unfold bookL bookOk; rw [ha]; simp)
    go_enter Try.func34, Try.ntmps34
    go_wp2_with fail
    refine (iAreAccounts_any A n c B xs _ H.out hB hn).mono ?_
    rintro e w2 ⟨rfl, hb2⟩
    rw [ha]
    go_wp2
    go_ret2
    rw [HR.out.1, HR.out.2]
    exact ⟨none, 0, 0, rfl, Acc.nil hb2⟩
  · have HAA := Lib.hid ha
    have hn10 : n ≤ 10 := by have := (accs_ok ha).2; have := HL.out; omega
    go_enter Try.func34, Try.ntmps34
    go_wp2_with fail
    refine (iAreAccounts_any A n c B xs _ H.out hB hn).mono ?_
    rintro e w2 ⟨rfl, hb2⟩
    rw [ha]
    have HB2 := Lib.hid hb2
    have R2 := Lib.hid (H.out.below (hb2.mono hB))
    have hB2 : B ≤ w2.heap.size := Nat.le_trans hB hb2.size
    clear ha hb2
    go_wp2_with (at_builtin; refine appAcct rfl _ _ rfl rfl (Acc.empty HB2.out) rfl (R2.out.alloc hB2 _) (by omega) ?_; intro A2 c2 w3 hacc _; simp only [Nat.zero_add, List.nil_append] at hacc ⊢; have HA2 := Lib.hid hacc; clear hacc)
    obtain ⟨W1, hW1⟩ : ∃ W1, W1 = w3.alloc (Obj.cells #[.int .i64 p, .int .i64 m, .int .i64 1, .int .i64 0, .int .i64 0] 25) := ⟨_, rfl⟩
    rw [← hW1]
    have HP1 := Lib.hid (show AccP w W1 25 5 A2 n c2 (acctF xs) (some ⟨w3.heap.size, 0, none⟩) 1 1 [p, m, 1, 0, 0] from
      ⟨hW1 ▸ HA2.out.alloc _, hW1 ▸ Acc.box HA2.out.ext ⟨p, m, 1, 0, 0⟩, fun x y hx hy e => by injection hy with hy; subst hy; have e : x.block = w3.heap.size := e; have := HA2.out.lt x hx; omega⟩)
    generalize w3.heap.size = gb at HP1 ⊢
    clear hW1
    go_loopw [10] (fun q wr => ∃ k : Nat, q = .int .i64 k ∧ k ≤ n ∧ (∀ (i : Nat) (x : Acct), i < k → xs[i]? = some x → befB x.p x.m p m = true) ∧ Below W1.heap.size W1 wr) (fun q _ => n - (intOf q).toNat)
    case atStart => exact ⟨0, rfl, by omega, fun i x hi => by omega, Below.refl _ _⟩
    case round =>
      obtain ⟨wq, rfl⟩ : ∃ wq : World, wq = wr := ⟨_, rfl⟩
      obtain ⟨k, rfl, hk, hh, hbq⟩ := hrel
      have HP0 := Lib.hid (HP1.out.later hbq)
      have HH := Lib.hid hh
      have HBQ := Lib.hid hbq
      clear hh hbq
      have k0 : (0 : Int) ≤ k := by omega
      have k1 : (k : Int) ≤ n := by omega
      obtain ⟨hx0, _⟩ := HP0.out.two.cellAt (show ([p, m, 1, 0, 0] : List Int)[0]? = some p from rfl)
      obtain ⟨hx1, _⟩ := HP0.out.two.cellAt (show ([p, m, 1, 0, 0] : List Int)[1]? = some m from rfl)
      obtain ⟨hx2, _⟩ := HP0.out.two.cellAt (show ([p, m, 1, 0, 0] : List Int)[2]? = some 1 from rfl)
      obtain ⟨hx3, _⟩ := HP0.out.two.cellAt (show ([p, m, 1, 0, 0] : List Int)[3]? = some 0 from rfl)
      obtain ⟨hx4, _⟩ := HP0.out.two.cellAt (show ([p, m, 1, 0, 0] : List Int)[4]? = some 0 from rfl)
      have hself : Below wq.heap.size wq wq.drew := ext_drew (Below.refl _ _)
      by_cases hlt : k < n
      · obtain ⟨b, o, y, hAy, hy, hc0, hc1, hc2, hc3, hc4⟩ := HP0.out.one.reads.acct hlt
        subst hAy
        have HY := Lib.hid hy
        have k2 : (k : Int) < n := by omega
        clear hy
        cases hbf : befB y.p y.m p m
        · have HPOS := Lib.hid (posB_stop HH.out (fun z hz => by rw [HY.out] at hz; injection hz with hz; rw [← hz]; exact hbf) (by rw [HL.out]; exact hk))
          have HBF := Lib.hid hbf
          go_wp2
          refine wp_region_held_drew (S := (fun w' => w'.cell? ⟨gb, 0, none⟩ = some (.int .i64 p) ∧ w'.cell? ⟨gb, 1, none⟩ = some (.int .i64 m) ∧ w'.cell? ⟨gb, 2, none⟩ = some (.int .i64 1) ∧ w'.cell? ⟨gb, 3, none⟩ = some (.int .i64 0) ∧ w'.cell? ⟨gb, 4, none⟩ = some (.int .i64 0) ∧ w'.cell? ⟨b, o + k * 5, none⟩ = some (.int .i64 y.p) ∧ w'.cell? ⟨b, o + k * 5 + 1, none⟩ = some (.int .i64 y.m) ∧ w'.cell? ⟨b, o + k * 5 + 2, none⟩ = some (.int .i64 y.l) ∧ w'.cell? ⟨b, o + k * 5 + 3, none⟩ = some (.int .i64 y.s) ∧ w'.cell? ⟨b, o + k * 5 + 4, none⟩ = some (.int .i64 y.d) ∧ Below wq.heap.size wq w')) (by kernel_rfl) ?_ (fun hHeld => ?_)
          · (try dsimp only); (first | (go_keep; done) | ((try go_split_ands); (repeat' apply And.intro); all_goals first | exact ext_drew (Below.refl _ _) | exact below_cell (by assumption) (by assumption) | (refine ext_trans ?_ (by assumption); assumption) | assumption))
          refine wpAnyH_takeD (i := 0) (v := ?_) 20 rfl rfl (by kernel_rfl) (by kernel_rfl) (by kernel_rfl) (fun _ _ _ _ _ h => h) (by rfl) (by assumption) ?_ ?_
          rotate_left; focus (intro w hSw; (try dsimp only at hSw); go_simp; try (with_reducible rfl))
          try simp only [Act.put, List.setIfInBounds_toArray, List.set_cons_zero, List.set_cons_succ]
          refine wpAnyH_takeD (i := 1) (v := ?_) 21 rfl rfl (by kernel_rfl) (by kernel_rfl) (by kernel_rfl) (fun _ _ _ _ _ h => h) (by rfl) (by assumption) ?_ ?_
          rotate_left; focus (intro w hSw; (try dsimp only at hSw); go_simp; try (with_reducible rfl))
          try simp only [Act.put, List.setIfInBounds_toArray, List.set_cons_zero, List.set_cons_succ]
          refine wpAnyH_takeD (i := 2) (v := ?_) 22 rfl rfl (by kernel_rfl) (by kernel_rfl) (by kernel_rfl) (fun _ _ _ _ _ h => h) (by rfl) (by assumption) ?_ ?_
          rotate_left; focus (intro w hSw; (try dsimp only at hSw); go_simp; try (with_reducible rfl))
          try simp only [Act.put, List.setIfInBounds_toArray, List.set_cons_zero, List.set_cons_succ]
          refine wpAnyH_takeD (i := 3) (v := ?_) 23 rfl rfl (by kernel_rfl) (by kernel_rfl) (by kernel_rfl) (fun _ _ _ _ _ h => h) (by rfl) (by assumption) ?_ ?_
          rotate_left; focus (intro w hSw; (try dsimp only at hSw); go_simp; try (with_reducible rfl))
          try simp only [Act.put, List.setIfInBounds_toArray, List.set_cons_zero, List.set_cons_succ]
          refine wpAnyH_takeD (i := 4) (v := ?_) 24 rfl rfl (by kernel_rfl) (by kernel_rfl) (by kernel_rfl) (fun _ _ _ _ _ h => h) (by rfl) (by assumption) ?_ ?_
          rotate_left; focus (intro w hSw; (try dsimp only at hSw); go_simp; try (with_reducible rfl))
          try simp only [Act.put, List.setIfInBounds_toArray, List.set_cons_zero, List.set_cons_succ]
          refine wpAnyH_takeD (i := 5) (v := ?_) 25 rfl rfl (by kernel_rfl) (by kernel_rfl) (by kernel_rfl) (fun _ _ _ _ _ h => h) (by rfl) (by assumption) ?_ ?_
          rotate_left; focus (intro w hSw; (try dsimp only at hSw); go_simp; try (with_reducible rfl))
          try simp only [Act.put, List.setIfInBounds_toArray, List.set_cons_zero, List.set_cons_succ]
          refine wpAnyH_takeD (i := 6) (v := ?_) 26 rfl rfl (by kernel_rfl) (by kernel_rfl) (by kernel_rfl) (fun _ _ _ _ _ h => h) (by rfl) (by assumption) ?_ ?_
          rotate_left; focus (intro w hSw; (try dsimp only at hSw); go_simp; try (with_reducible rfl))
          try simp only [Act.put, List.setIfInBounds_toArray, List.set_cons_zero, List.set_cons_succ]
          refine wpAnyH_takeD (i := 7) (v := ?_) 27 rfl rfl (by kernel_rfl) (by kernel_rfl) (by kernel_rfl) (fun _ _ _ _ _ h => h) (by rfl) (by assumption) ?_ ?_
          rotate_left; focus (intro w hSw; (try dsimp only at hSw); go_simp; try (with_reducible rfl))
          try simp only [Act.put, List.setIfInBounds_toArray, List.set_cons_zero, List.set_cons_succ]
          refine wpAnyH_takeD (i := 8) (v := ?_) 28 rfl rfl (by kernel_rfl) (by kernel_rfl) (by kernel_rfl) (fun _ _ _ _ _ h => h) (by rfl) (by assumption) ?_ ?_
          rotate_left; focus (intro w hSw; (try dsimp only at hSw); go_simp; try (with_reducible rfl))
          try simp only [Act.put, List.setIfInBounds_toArray, List.set_cons_zero, List.set_cons_succ]
          refine wpAnyH_takeD (i := 9) (v := ?_) 29 rfl rfl (by kernel_rfl) (by kernel_rfl) (by kernel_rfl) (fun _ _ _ _ _ h => h) (by rfl) (by assumption) ?_ ?_
          rotate_left; focus (intro w hSw; (try dsimp only at hSw); go_simp; try (with_reducible rfl))
          try simp only [Act.put, List.setIfInBounds_toArray, List.set_cons_zero, List.set_cons_succ]
          refine wpAnyH_ready (rs := [10]) (by kernel_rfl) (by simp) ?_
          refine AllReadyH.cons rfl (fun K hK => ?_) AllReadyH.nil
          go_simp; (go_at_call 70; refine (accountBefore_v y ⟨p, m, 1, 0, 0⟩ hbf _).mono ?_; rintro e w' ⟨rfl, hb'⟩); (try dsimp only)
          refine hK.out _ _ ?_ (fun hHeld => ?_)
          focus ((try dsimp only); (first | (go_keep; done) | ((try go_split_ands); (repeat' apply And.intro); all_goals first | exact ext_drew (Below.refl _ _) | exact below_cell (by assumption) (by assumption) | (refine ext_trans ?_ (by assumption); assumption) | assumption)))
          clear hK K; try simp only [Act.put, List.setIfInBounds_toArray, List.set_cons_zero, List.set_cons_succ]
          refine wpAnyH_takeD (i := 11) (v := ?_) 31 rfl rfl (by kernel_rfl) (by kernel_rfl) (by kernel_rfl) (fun _ _ _ _ _ h => h) (by rfl) (by assumption) ?_ ?_
          rotate_left; focus (intro w hSw; (try dsimp only at hSw); go_simp; try (with_reducible rfl))
          try simp only [Act.put, List.setIfInBounds_toArray, List.set_cons_zero, List.set_cons_succ]
          refine wpAnyH_done (by kernel_rfl) ?_ _
          have hb6 := hHeld.2.2.2.2.2.2.2.2.2.2
          have HP6 := Lib.hid (HP0.out.later hb6)
          clear hHeld hb' hself hc0 hc1 hc2 hc3 hc4 hx0 hx1 hx2 hx3 hx4 hb6
          clear HP0 HBQ
          obtain ⟨wq, rfl⟩ : ∃ wq : World, wq = w' := ⟨_, rfl⟩
          have HP0 := HP6
          obtain ⟨b2, o2, y2, hAy, hy, hc0, hc1, hc2, hc3, hc4⟩ := HP0.out.one.reads.acct hlt
          injection hAy with hAy
          injection hAy with e1 e2
          subst e1 e2
          rw [HY.out] at hy
          injection hy with hy
          subst hy
          obtain ⟨hx0, _⟩ := HP0.out.two.cellAt (show ([p, m, 1, 0, 0] : List Int)[0]? = some p from rfl)
          obtain ⟨hx1, _⟩ := HP0.out.two.cellAt (show ([p, m, 1, 0, 0] : List Int)[1]? = some m from rfl)
          obtain ⟨hx2, _⟩ := HP0.out.two.cellAt (show ([p, m, 1, 0, 0] : List Int)[2]? = some 1 from rfl)
          obtain ⟨hx3, _⟩ := HP0.out.two.cellAt (show ([p, m, 1, 0, 0] : List Int)[3]? = some 0 from rfl)
          obtain ⟨hx4, _⟩ := HP0.out.two.cellAt (show ([p, m, 1, 0, 0] : List Int)[4]? = some 0 from rfl)
          have hself : Below wq.heap.size wq wq.drew := ext_drew (Below.refl _ _)
          cases hb2 : befB p m y.p y.m
          · obtain ⟨hp, hm⟩ := bef_neither HBF.out hb2
            have HO := Lib.hid (book_hit HPOS.out HY.out ⟨hp, hm⟩)
            have HINC := Lib.hid (acctF_inc xs k y HY.out)
            obtain ⟨_, _, _, _, l0, l1, _⟩ := Acct.ok_parts ((accs_ok HAA.out).1.at HY.out)
            clear hp hm
            go_wp2
            refine wp_region_held_drew (S := (fun w' => w'.cell? ⟨gb, 0, none⟩ = some (.int .i64 p) ∧ w'.cell? ⟨gb, 1, none⟩ = some (.int .i64 m) ∧ w'.cell? ⟨gb, 2, none⟩ = some (.int .i64 1) ∧ w'.cell? ⟨gb, 3, none⟩ = some (.int .i64 0) ∧ w'.cell? ⟨gb, 4, none⟩ = some (.int .i64 0) ∧ w'.cell? ⟨b, o + k * 5, none⟩ = some (.int .i64 y.p) ∧ w'.cell? ⟨b, o + k * 5 + 1, none⟩ = some (.int .i64 y.m) ∧ w'.cell? ⟨b, o + k * 5 + 2, none⟩ = some (.int .i64 y.l) ∧ w'.cell? ⟨b, o + k * 5 + 3, none⟩ = some (.int .i64 y.s) ∧ w'.cell? ⟨b, o + k * 5 + 4, none⟩ = some (.int .i64 y.d) ∧ Below wq.heap.size wq w')) (by kernel_rfl) ?_ (fun hHeld => ?_)
            · (try dsimp only); (first | (go_keep; done) | ((try go_split_ands); (repeat' apply And.intro); all_goals first | exact ext_drew (Below.refl _ _) | exact below_cell (by assumption) (by assumption) | (refine ext_trans ?_ (by assumption); assumption) | assumption))
            refine wpAnyH_takeD (i := 0) (v := ?_) 34 rfl rfl (by kernel_rfl) (by kernel_rfl) (by kernel_rfl) (fun _ _ _ _ _ h => h) (by rfl) (by assumption) ?_ ?_
            rotate_left; focus (intro w hSw; (try dsimp only at hSw); go_simp; try (with_reducible rfl))
            try simp only [Act.put, List.setIfInBounds_toArray, List.set_cons_zero, List.set_cons_succ]
            refine wpAnyH_takeD (i := 1) (v := ?_) 35 rfl rfl (by kernel_rfl) (by kernel_rfl) (by kernel_rfl) (fun _ _ _ _ _ h => h) (by rfl) (by assumption) ?_ ?_
            rotate_left; focus (intro w hSw; (try dsimp only at hSw); go_simp; try (with_reducible rfl))
            try simp only [Act.put, List.setIfInBounds_toArray, List.set_cons_zero, List.set_cons_succ]
            refine wpAnyH_takeD (i := 2) (v := ?_) 36 rfl rfl (by kernel_rfl) (by kernel_rfl) (by kernel_rfl) (fun _ _ _ _ _ h => h) (by rfl) (by assumption) ?_ ?_
            rotate_left; focus (intro w hSw; (try dsimp only at hSw); go_simp; try (with_reducible rfl))
            try simp only [Act.put, List.setIfInBounds_toArray, List.set_cons_zero, List.set_cons_succ]
            refine wpAnyH_takeD (i := 3) (v := ?_) 37 rfl rfl (by kernel_rfl) (by kernel_rfl) (by kernel_rfl) (fun _ _ _ _ _ h => h) (by rfl) (by assumption) ?_ ?_
            rotate_left; focus (intro w hSw; (try dsimp only at hSw); go_simp; try (with_reducible rfl))
            try simp only [Act.put, List.setIfInBounds_toArray, List.set_cons_zero, List.set_cons_succ]
            refine wpAnyH_takeD (i := 4) (v := ?_) 38 rfl rfl (by kernel_rfl) (by kernel_rfl) (by kernel_rfl) (fun _ _ _ _ _ h => h) (by rfl) (by assumption) ?_ ?_
            rotate_left; focus (intro w hSw; (try dsimp only at hSw); go_simp; try (with_reducible rfl))
            try simp only [Act.put, List.setIfInBounds_toArray, List.set_cons_zero, List.set_cons_succ]
            refine wpAnyH_takeD (i := 5) (v := ?_) 39 rfl rfl (by kernel_rfl) (by kernel_rfl) (by kernel_rfl) (fun _ _ _ _ _ h => h) (by rfl) (by assumption) ?_ ?_
            rotate_left; focus (intro w hSw; (try dsimp only at hSw); go_simp; try (with_reducible rfl))
            try simp only [Act.put, List.setIfInBounds_toArray, List.set_cons_zero, List.set_cons_succ]
            refine wpAnyH_takeD (i := 6) (v := ?_) 40 rfl rfl (by kernel_rfl) (by kernel_rfl) (by kernel_rfl) (fun _ _ _ _ _ h => h) (by rfl) (by assumption) ?_ ?_
            rotate_left; focus (intro w hSw; (try dsimp only at hSw); go_simp; try (with_reducible rfl))
            try simp only [Act.put, List.setIfInBounds_toArray, List.set_cons_zero, List.set_cons_succ]
            refine wpAnyH_takeD (i := 7) (v := ?_) 41 rfl rfl (by kernel_rfl) (by kernel_rfl) (by kernel_rfl) (fun _ _ _ _ _ h => h) (by rfl) (by assumption) ?_ ?_
            rotate_left; focus (intro w hSw; (try dsimp only at hSw); go_simp; try (with_reducible rfl))
            try simp only [Act.put, List.setIfInBounds_toArray, List.set_cons_zero, List.set_cons_succ]
            refine wpAnyH_takeD (i := 8) (v := ?_) 42 rfl rfl (by kernel_rfl) (by kernel_rfl) (by kernel_rfl) (fun _ _ _ _ _ h => h) (by rfl) (by assumption) ?_ ?_
            rotate_left; focus (intro w hSw; (try dsimp only at hSw); go_simp; try (with_reducible rfl))
            try simp only [Act.put, List.setIfInBounds_toArray, List.set_cons_zero, List.set_cons_succ]
            refine wpAnyH_takeD (i := 9) (v := ?_) 43 rfl rfl (by kernel_rfl) (by kernel_rfl) (by kernel_rfl) (fun _ _ _ _ _ h => h) (by rfl) (by assumption) ?_ ?_
            rotate_left; focus (intro w hSw; (try dsimp only at hSw); go_simp; try (with_reducible rfl))
            try simp only [Act.put, List.setIfInBounds_toArray, List.set_cons_zero, List.set_cons_succ]
            refine wpAnyH_ready (rs := [10]) (by kernel_rfl) (by simp) ?_
            refine AllReadyH.cons rfl (fun K hK => ?_) AllReadyH.nil
            go_simp; (go_at_call 70; refine (accountBefore_v ⟨p, m, 1, 0, 0⟩ y hb2 _).mono ?_; rintro e w'' ⟨rfl, hb''⟩); (try dsimp only)
            refine hK.out _ _ ?_ (fun hHeld => ?_)
            focus ((try dsimp only); (first | (go_keep; done) | ((try go_split_ands); (repeat' apply And.intro); all_goals first | exact ext_drew (Below.refl _ _) | exact below_cell (by assumption) (by assumption) | (refine ext_trans ?_ (by assumption); assumption) | assumption)))
            clear hK K; try simp only [Act.put, List.setIfInBounds_toArray, List.set_cons_zero, List.set_cons_succ]
            refine wpAnyH_takeD (i := 11) (v := ?_) 45 rfl rfl (by kernel_rfl) (by kernel_rfl) (by kernel_rfl) (fun _ _ _ _ _ h => h) (by rfl) (by assumption) ?_ ?_
            rotate_left; focus (intro w hSw; (try dsimp only at hSw); go_simp; try (with_reducible rfl))
            try simp only [Act.put, List.setIfInBounds_toArray, List.set_cons_zero, List.set_cons_succ]
            refine wpAnyH_takeD (i := 12) (v := ?_) 46 rfl rfl (by kernel_rfl) (by kernel_rfl) (by kernel_rfl) (fun _ _ _ _ _ h => h) (by rfl) (by assumption) ?_ ?_
            rotate_left; focus (intro w hSw; (try dsimp only at hSw); go_simp; try (with_reducible rfl))
            try simp only [Act.put, List.setIfInBounds_toArray, List.set_cons_zero, List.set_cons_succ]
            refine wpAnyH_done (by kernel_rfl) ?_ _
            have hb8 := hHeld.2.2.2.2.2.2.2.2.2.2
            have HP8 := Lib.hid (HP0.out.later hb8)
            obtain ⟨g, cp, hv, _, _⟩ := HP8.out.one.own.form (by omega)
            injection hv with hv _ hc9
            subst hc9
            injection hv with hv
            injection hv with e1 e2
            subst e1 e2
            simp only [Nat.zero_add] at hHeld
            have hyat := acctF_at HY.out
            obtain ⟨hq2, hf2⟩ := HP8.out.one.cellAt (hyat.2.2.1)
            have HS := Lib.hid (HP8.out.one.set (k * 5 + 2) (y.l + 1))
            rw [HINC.out] at HS
            clear hHeld hb'' hself hc0 hc1 hc2 hc3 hc4 hx0 hx1 hx2 hx3 hx4 hb8 hyat
            go_wp2_with fail
            refine (iAreAccounts_any _ _ _ _ (xs.set k ⟨y.p, y.m, y.l + 1, y.s, y.d⟩) _ HS.out.reads (Nat.le_refl _) (by omega)).mono ?_
            rintro e w7 ⟨rfl, hb7⟩
            have O7 := Lib.hid (HS.out.later hb7)
            clear hb7
            cases hgd : accsB (xs.set k ⟨y.p, y.m, y.l + 1, y.s, y.d⟩)
            · have HR := Lib.hid (show bookOk p m xs = false ∧ bookL p m xs = [] by unfold bookL bookOk; rw [HO.out, hgd]; simp)
              go_wp2
              go_ret2
              rw [HR.out.1, HR.out.2]
              exact ⟨none, 0, 0, rfl, Acc.nil O7.out.ext⟩
            · have HR := Lib.hid (show bookOk p m xs = true ∧ bookL p m xs = xs.set k ⟨y.p, y.m, y.l + 1, y.s, y.d⟩ by unfold bookL bookOk; rw [HO.out, hgd, HAA.out]; simp)
              go_wp2
              go_ret2
              rw [HR.out.1, HR.out.2]
              exact ⟨_, _, _, rfl, O7.out⟩
          · have HBI := Lib.hid (fun s (hs : s = sibV p xs k) => hs ▸ book_new HPOS.out (fun z hz => by
              rw [HY.out] at hz; injection hz with hz; rw [← hz]
              rintro ⟨e1, e2⟩
              rw [e1, e2, bef_self] at hb2; cases hb2))
            go_wp2
            refine wp_region_held_drew (S := (fun w' => w'.cell? ⟨gb, 0, none⟩ = some (.int .i64 p) ∧ w'.cell? ⟨gb, 1, none⟩ = some (.int .i64 m) ∧ w'.cell? ⟨gb, 2, none⟩ = some (.int .i64 1) ∧ w'.cell? ⟨gb, 3, none⟩ = some (.int .i64 0) ∧ w'.cell? ⟨gb, 4, none⟩ = some (.int .i64 0) ∧ w'.cell? ⟨b, o + k * 5, none⟩ = some (.int .i64 y.p) ∧ w'.cell? ⟨b, o + k * 5 + 1, none⟩ = some (.int .i64 y.m) ∧ w'.cell? ⟨b, o + k * 5 + 2, none⟩ = some (.int .i64 y.l) ∧ w'.cell? ⟨b, o + k * 5 + 3, none⟩ = some (.int .i64 y.s) ∧ w'.cell? ⟨b, o + k * 5 + 4, none⟩ = some (.int .i64 y.d) ∧ Below wq.heap.size wq w')) (by kernel_rfl) ?_ (fun hHeld => ?_)
            · (try dsimp only); (first | (go_keep; done) | ((try go_split_ands); (repeat' apply And.intro); all_goals first | exact ext_drew (Below.refl _ _) | exact below_cell (by assumption) (by assumption) | (refine ext_trans ?_ (by assumption); assumption) | assumption))
            refine wpAnyH_takeD (i := 0) (v := ?_) 34 rfl rfl (by kernel_rfl) (by kernel_rfl) (by kernel_rfl) (fun _ _ _ _ _ h => h) (by rfl) (by assumption) ?_ ?_
            rotate_left; focus (intro w hSw; (try dsimp only at hSw); go_simp; try (with_reducible rfl))
            try simp only [Act.put, List.setIfInBounds_toArray, List.set_cons_zero, List.set_cons_succ]
            refine wpAnyH_takeD (i := 1) (v := ?_) 35 rfl rfl (by kernel_rfl) (by kernel_rfl) (by kernel_rfl) (fun _ _ _ _ _ h => h) (by rfl) (by assumption) ?_ ?_
            rotate_left; focus (intro w hSw; (try dsimp only at hSw); go_simp; try (with_reducible rfl))
            try simp only [Act.put, List.setIfInBounds_toArray, List.set_cons_zero, List.set_cons_succ]
            refine wpAnyH_takeD (i := 2) (v := ?_) 36 rfl rfl (by kernel_rfl) (by kernel_rfl) (by kernel_rfl) (fun _ _ _ _ _ h => h) (by rfl) (by assumption) ?_ ?_
            rotate_left; focus (intro w hSw; (try dsimp only at hSw); go_simp; try (with_reducible rfl))
            try simp only [Act.put, List.setIfInBounds_toArray, List.set_cons_zero, List.set_cons_succ]
            refine wpAnyH_takeD (i := 3) (v := ?_) 37 rfl rfl (by kernel_rfl) (by kernel_rfl) (by kernel_rfl) (fun _ _ _ _ _ h => h) (by rfl) (by assumption) ?_ ?_
            rotate_left; focus (intro w hSw; (try dsimp only at hSw); go_simp; try (with_reducible rfl))
            try simp only [Act.put, List.setIfInBounds_toArray, List.set_cons_zero, List.set_cons_succ]
            refine wpAnyH_takeD (i := 4) (v := ?_) 38 rfl rfl (by kernel_rfl) (by kernel_rfl) (by kernel_rfl) (fun _ _ _ _ _ h => h) (by rfl) (by assumption) ?_ ?_
            rotate_left; focus (intro w hSw; (try dsimp only at hSw); go_simp; try (with_reducible rfl))
            try simp only [Act.put, List.setIfInBounds_toArray, List.set_cons_zero, List.set_cons_succ]
            refine wpAnyH_takeD (i := 5) (v := ?_) 39 rfl rfl (by kernel_rfl) (by kernel_rfl) (by kernel_rfl) (fun _ _ _ _ _ h => h) (by rfl) (by assumption) ?_ ?_
            rotate_left; focus (intro w hSw; (try dsimp only at hSw); go_simp; try (with_reducible rfl))
            try simp only [Act.put, List.setIfInBounds_toArray, List.set_cons_zero, List.set_cons_succ]
            refine wpAnyH_takeD (i := 6) (v := ?_) 40 rfl rfl (by kernel_rfl) (by kernel_rfl) (by kernel_rfl) (fun _ _ _ _ _ h => h) (by rfl) (by assumption) ?_ ?_
            rotate_left; focus (intro w hSw; (try dsimp only at hSw); go_simp; try (with_reducible rfl))
            try simp only [Act.put, List.setIfInBounds_toArray, List.set_cons_zero, List.set_cons_succ]
            refine wpAnyH_takeD (i := 7) (v := ?_) 41 rfl rfl (by kernel_rfl) (by kernel_rfl) (by kernel_rfl) (fun _ _ _ _ _ h => h) (by rfl) (by assumption) ?_ ?_
            rotate_left; focus (intro w hSw; (try dsimp only at hSw); go_simp; try (with_reducible rfl))
            try simp only [Act.put, List.setIfInBounds_toArray, List.set_cons_zero, List.set_cons_succ]
            refine wpAnyH_takeD (i := 8) (v := ?_) 42 rfl rfl (by kernel_rfl) (by kernel_rfl) (by kernel_rfl) (fun _ _ _ _ _ h => h) (by rfl) (by assumption) ?_ ?_
            rotate_left; focus (intro w hSw; (try dsimp only at hSw); go_simp; try (with_reducible rfl))
            try simp only [Act.put, List.setIfInBounds_toArray, List.set_cons_zero, List.set_cons_succ]
            refine wpAnyH_takeD (i := 9) (v := ?_) 43 rfl rfl (by kernel_rfl) (by kernel_rfl) (by kernel_rfl) (fun _ _ _ _ _ h => h) (by rfl) (by assumption) ?_ ?_
            rotate_left; focus (intro w hSw; (try dsimp only at hSw); go_simp; try (with_reducible rfl))
            try simp only [Act.put, List.setIfInBounds_toArray, List.set_cons_zero, List.set_cons_succ]
            refine wpAnyH_ready (rs := [10]) (by kernel_rfl) (by simp) ?_
            refine AllReadyH.cons rfl (fun K hK => ?_) AllReadyH.nil
            go_simp; (go_at_call 70; refine (accountBefore_v ⟨p, m, 1, 0, 0⟩ y hb2 _).mono ?_; rintro e w'' ⟨rfl, hb''⟩); (try dsimp only)
            refine hK.out _ _ ?_ (fun hHeld => ?_)
            focus ((try dsimp only); (first | (go_keep; done) | ((try go_split_ands); (repeat' apply And.intro); all_goals first | exact ext_drew (Below.refl _ _) | exact below_cell (by assumption) (by assumption) | (refine ext_trans ?_ (by assumption); assumption) | assumption)))
            clear hK K; try simp only [Act.put, List.setIfInBounds_toArray, List.set_cons_zero, List.set_cons_succ]
            refine wpAnyH_takeD (i := 11) (v := ?_) 45 rfl rfl (by kernel_rfl) (by kernel_rfl) (by kernel_rfl) (fun _ _ _ _ _ h => h) (by rfl) (by assumption) ?_ ?_
            rotate_left; focus (intro w hSw; (try dsimp only at hSw); go_simp; try (with_reducible rfl))
            try simp only [Act.put, List.setIfInBounds_toArray, List.set_cons_zero, List.set_cons_succ]
            refine wpAnyH_takeD (i := 12) (v := ?_) 46 rfl rfl (by kernel_rfl) (by kernel_rfl) (by kernel_rfl) (fun _ _ _ _ _ h => h) (by rfl) (by assumption) ?_ ?_
            rotate_left; focus (intro w hSw; (try dsimp only at hSw); go_simp; try (with_reducible rfl))
            try simp only [Act.put, List.setIfInBounds_toArray, List.set_cons_zero, List.set_cons_succ]
            refine wpAnyH_done (by kernel_rfl) ?_ _
            have hb8 := hHeld.2.2.2.2.2.2.2.2.2.2
            have HP8 := Lib.hid (HP0.out.later hb8)
            clear hHeld hb'' hself hc0 hc1 hc2 hc3 hc4 hx0 hx1 hx2 hx3 hx4 hb8 hb2 HP0
            obtain ⟨wq, rfl⟩ : ∃ wq : World, wq = w'' := ⟨_, rfl⟩
            have HP0 := HP8
            rcases Nat.eq_zero_or_pos k with h0 | h0
            · obtain ⟨x, hxe⟩ : ∃ x : Acct, x = ⟨p, m, 1, 0, 0⟩ := ⟨_, rfl⟩
              have HI := Lib.hid (show bookO p m xs = insAt k x xs by rw [hxe]; exact HBI.out 0 (by rw [h0]; rfl))
              have HP := Lib.hid (show AccP w wq 25 5 _ n c2 (acctF xs) (some ⟨gb, 0, none⟩) 1 1 x.cs by rw [hxe]; exact HP0.out)
              have e0 : decide (0 < k) = false := by simp; omega
              have HXE := Lib.hid hxe
              clear h0 hxe
              obtain ⟨yy, hyy⟩ := acct_hole xs [0, 0, 0, 0, 0] n k HL.out rfl hk
              have HYY := Lib.hid hyy
              clear hyy
              go_wp2_with (at_builtin; (refine appAcct_b rfl (.tmp 74) (.tmp 76) rfl rfl (HP.out.one.alloc _) rfl (reads_newAt _ _ _ 5 [0, 0, 0, 0, 0] _ (by simp) rfl rfl) (by omega) ?_); intro A3 c3 w5 hacc3 hp3)
              have P3 := Lib.hid ((HP.out.alloc _).push1 hacc3 hp3)
              have HA3 := Lib.hid hacc3
              obtain ⟨g, cp, hv, hg1, hg2⟩ := hacc3.own.form (by omega)
              obtain rfl : A3 = some ⟨g, 0, none⟩ := by injection hv
              have hcap := hacc3.cap
              unfold maxLen at hcap
              obtain ⟨cc1, cc2⟩ := hcap
              clear hacc3 hp3 hv hg1 hg2
              have q3 : ((n + 1 : Nat) : Int) ≤ c3 := by omega
              have q4 : IntKind.i64.wrap ((k : Int) + 1) = (k : Int) + 1 := IntWalk.i64_in _ ⟨by omega, by omega⟩
              have q5 : (0 : Int) ≤ (k : Int) + 1 := by omega
              have q6 : ((k : Int) + 1).toNat = k + 1 := by omega
              have q7 : ¬ c3 = k := by omega
              have q9 : (k : Int) ≤ (n : Int) + 1 := by omega
              have q10 : (k : Int) + 1 ≤ (n : Int) + 1 := by omega
              have q11 : (n : Int) + 1 ≤ c3 := by omega
              go_still_tail 7, (by kernel_rfl)
              refine acc_copy (size := 5) rfl (.tmp 81) (.tmp 84) rfl Try.underlying34 (by kernel_rfl) HA3.out.drew _ _ _ _ _ _ ((k + 1) * 5) (k * 5) (n - k) rfl rfl (by show min _ _ = _; omega) (fun hp => ⟨by rw [if_neg (by omega)], by first | rfl | exact if_neg (by omega)⟩) (by omega) (by omega) ?_
              intro w6 hacc4 hg4
              have P4 := Lib.hid (P3.out.drew.push1 hacc4 (pushed_self hg4))
              rw [HYY.out] at hacc4
              generalize (if c3 = k + 1 then some (⟨g, 0, none⟩ : Addr) else some ⟨g, (k + 1) * 5, none⟩) = sv
              have hyat := acctF_at (insAt_atAcct (k := k) (x := yy) (xs := xs) (by rw [HL.out]; exact hk))
              obtain ⟨hcell0, hfr0⟩ := hacc4.cellAt ((hyat).1)
              obtain ⟨hcell1, hfr1⟩ := hacc4.cellAt ((hyat).2.1)
              obtain ⟨hcell2, hfr2⟩ := hacc4.cellAt ((hyat).2.2.1)
              obtain ⟨hcell3, hfr3⟩ := hacc4.cellAt ((hyat).2.2.2.1)
              obtain ⟨hcell4, hfr4⟩ := hacc4.cellAt ((hyat).2.2.2.2)
              obtain ⟨hx0, _⟩ := P4.out.two.cellAt (show x.cs[0]? = some x.p from rfl)
              obtain ⟨hx1, _⟩ := P4.out.two.cellAt (show x.cs[1]? = some x.m from rfl)
              obtain ⟨hx2, _⟩ := P4.out.two.cellAt (show x.cs[2]? = some x.l from rfl)
              obtain ⟨hx3, _⟩ := P4.out.two.cellAt (show x.cs[3]? = some x.s from rfl)
              obtain ⟨hx4, _⟩ := P4.out.two.cellAt (show x.cs[4]? = some x.d from rfl)
              have s4 := (((((hacc4.set (k * 5) x.p).set (k * 5 + 1) x.m).set (k * 5 + 2) x.l).set (k * 5 + 3) x.s).set (k * 5 + 4) x.d)
              rw [acctF_set _ k x (by rw [insAt_len, HL.out]; omega), insAt_setAcct (by rw [HL.out]; exact hk)] at s4
              have HS := Lib.hid s4
              clear s4 hyat hacc4 hg4 q3 q7 q11
              go_wp2_with fail
              refine (iAreAccounts_any _ _ _ _ (insAt k x xs) _ HS.out.reads (Nat.le_refl _) (by omega)).mono ?_
              rintro e w7 ⟨rfl, hb7⟩
              have O7 := Lib.hid (HS.out.later hb7)
              clear hb7
              cases hgd : accsB (insAt k x xs)
              · have HR := Lib.hid (show bookOk p m xs = false ∧ bookL p m xs = [] by unfold bookL bookOk; rw [HI.out, hgd]; simp)
                go_wp2
                go_ret2
                rw [HR.out.1, HR.out.2]
                exact ⟨none, 0, 0, rfl, Acc.nil O7.out.ext⟩
              · have HR := Lib.hid (show bookOk p m xs = true ∧ bookL p m xs = insAt k x xs by unfold bookL bookOk; rw [HI.out, hgd, HAA.out]; simp)
                go_wp2
                go_ret2
                rw [HR.out.1, HR.out.2]
                exact ⟨_, _, _, rfl, O7.out⟩
            · obtain ⟨i, hi⟩ : ∃ i, k = i + 1 := ⟨k - 1, by omega⟩
              have e0 : decide (0 < k) = true := by simp; omega
              have i0 : (0 : Int) ≤ i := by omega
              have i1 : (i : Int) < n := by omega
              have i2 : (k : Int) - 1 = (i : Int) := by omega
              obtain ⟨b', o', y, hAy, hy, hd0, hd1, hd2, hd3, hd4⟩ := HP0.out.one.reads.acct (show i < n by omega)
              first | subst hAy | (injection hAy with hAy; injection hAy with e1 e2; subst e1 e2)
              by_cases hyp : y.p = p
              · obtain ⟨x, hxe⟩ : ∃ x : Acct, x = ⟨p, m, 1, y.s, 0⟩ := ⟨_, rfl⟩
                have HI := Lib.hid (show bookO p m xs = insAt k x xs by rw [hxe]; exact HBI.out y.s (by rw [hi]; exact (sib_yes hy hyp).symm))
                have h3 := HP0.out.push2 (HP0.out.two.set 3 y.s) (pushed_set HP0.out.two _)
                have HP := Lib.hid (show AccP w _ 25 5 _ n c2 (acctF xs) (some ⟨gb, 0, none⟩) 1 1 x.cs by rw [hxe]; exact h3)
                obtain ⟨hx3, hf3⟩ := HP0.out.two.cellAt (show ([p, m, 1, 0, 0] : List Int)[3]? = some 0 from rfl)
                have hpb : (y.p == p) = true := by simp [hyp]
                have HXE := Lib.hid hxe
                clear h0 hxe hi hy hyp h3
                obtain ⟨yy, hyy⟩ := acct_hole xs [0, 0, 0, 0, 0] n k HL.out rfl hk
                have HYY := Lib.hid hyy
                clear hyy
                go_wp2_with (at_builtin; (refine appAcct_b rfl (.tmp 74) (.tmp 76) rfl rfl (HP.out.one.alloc _) rfl (reads_newAt _ _ _ 5 [0, 0, 0, 0, 0] _ (by simp) rfl rfl) (by omega) ?_); intro A3 c3 w5 hacc3 hp3)
                have P3 := Lib.hid ((HP.out.alloc _).push1 hacc3 hp3)
                have HA3 := Lib.hid hacc3
                obtain ⟨g, cp, hv, hg1, hg2⟩ := hacc3.own.form (by omega)
                obtain rfl : A3 = some ⟨g, 0, none⟩ := by injection hv
                have hcap := hacc3.cap
                unfold maxLen at hcap
                obtain ⟨cc1, cc2⟩ := hcap
                clear hacc3 hp3 hv hg1 hg2
                have q3 : ((n + 1 : Nat) : Int) ≤ c3 := by omega
                have q4 : IntKind.i64.wrap ((k : Int) + 1) = (k : Int) + 1 := IntWalk.i64_in _ ⟨by omega, by omega⟩
                have q5 : (0 : Int) ≤ (k : Int) + 1 := by omega
                have q6 : ((k : Int) + 1).toNat = k + 1 := by omega
                have q7 : ¬ c3 = k := by omega
                have q9 : (k : Int) ≤ (n : Int) + 1 := by omega
                have q10 : (k : Int) + 1 ≤ (n : Int) + 1 := by omega
                have q11 : (n : Int) + 1 ≤ c3 := by omega
                go_still_tail 7, (by kernel_rfl)
                refine acc_copy (size := 5) rfl (.tmp 81) (.tmp 84) rfl Try.underlying34 (by kernel_rfl) HA3.out.drew _ _ _ _ _ _ ((k + 1) * 5) (k * 5) (n - k) rfl rfl (by show min _ _ = _; omega) (fun hp => ⟨by rw [if_neg (by omega)], by first | rfl | exact if_neg (by omega)⟩) (by omega) (by omega) ?_
                intro w6 hacc4 hg4
                have P4 := Lib.hid (P3.out.drew.push1 hacc4 (pushed_self hg4))
                rw [HYY.out] at hacc4
                generalize (if c3 = k + 1 then some (⟨g, 0, none⟩ : Addr) else some ⟨g, (k + 1) * 5, none⟩) = sv
                have hyat := acctF_at (insAt_atAcct (k := k) (x := yy) (xs := xs) (by rw [HL.out]; exact hk))
                obtain ⟨hcell0, hfr0⟩ := hacc4.cellAt ((hyat).1)
                obtain ⟨hcell1, hfr1⟩ := hacc4.cellAt ((hyat).2.1)
                obtain ⟨hcell2, hfr2⟩ := hacc4.cellAt ((hyat).2.2.1)
                obtain ⟨hcell3, hfr3⟩ := hacc4.cellAt ((hyat).2.2.2.1)
                obtain ⟨hcell4, hfr4⟩ := hacc4.cellAt ((hyat).2.2.2.2)
                obtain ⟨hx0, _⟩ := P4.out.two.cellAt (show x.cs[0]? = some x.p from rfl)
                obtain ⟨hx1, _⟩ := P4.out.two.cellAt (show x.cs[1]? = some x.m from rfl)
                obtain ⟨hx2, _⟩ := P4.out.two.cellAt (show x.cs[2]? = some x.l from rfl)
                obtain ⟨hx3, _⟩ := P4.out.two.cellAt (show x.cs[3]? = some x.s from rfl)
                obtain ⟨hx4, _⟩ := P4.out.two.cellAt (show x.cs[4]? = some x.d from rfl)
                have s4 := (((((hacc4.set (k * 5) x.p).set (k * 5 + 1) x.m).set (k * 5 + 2) x.l).set (k * 5 + 3) x.s).set (k * 5 + 4) x.d)
                rw [acctF_set _ k x (by rw [insAt_len, HL.out]; omega), insAt_setAcct (by rw [HL.out]; exact hk)] at s4
                have HS := Lib.hid s4
                clear s4 hyat hacc4 hg4 q3 q7 q11
                go_wp2_with fail
                refine (iAreAccounts_any _ _ _ _ (insAt k x xs) _ HS.out.reads (Nat.le_refl _) (by omega)).mono ?_
                rintro e w7 ⟨rfl, hb7⟩
                have O7 := Lib.hid (HS.out.later hb7)
                clear hb7
                cases hgd : accsB (insAt k x xs)
                · have HR := Lib.hid (show bookOk p m xs = false ∧ bookL p m xs = [] by unfold bookL bookOk; rw [HI.out, hgd]; simp)
                  go_wp2
                  go_ret2
                  rw [HR.out.1, HR.out.2]
                  exact ⟨none, 0, 0, rfl, Acc.nil O7.out.ext⟩
                · have HR := Lib.hid (show bookOk p m xs = true ∧ bookL p m xs = insAt k x xs by unfold bookL bookOk; rw [HI.out, hgd, HAA.out]; simp)
                  go_wp2
                  go_ret2
                  rw [HR.out.1, HR.out.2]
                  exact ⟨_, _, _, rfl, O7.out⟩
              · obtain ⟨x, hxe⟩ : ∃ x : Acct, x = ⟨p, m, 1, 0, 0⟩ := ⟨_, rfl⟩
                have HI := Lib.hid (show bookO p m xs = insAt k x xs by rw [hxe]; exact HBI.out 0 (by rw [hi]; exact (sib_no hy hyp).symm))
                have HP := Lib.hid (show AccP w wq 25 5 _ n c2 (acctF xs) (some ⟨gb, 0, none⟩) 1 1 x.cs by rw [hxe]; exact HP0.out)
                have hpb : (y.p == p) = false := by simp [hyp]
                have HXE := Lib.hid hxe
                clear h0 hxe hi hy hyp
                obtain ⟨yy, hyy⟩ := acct_hole xs [0, 0, 0, 0, 0] n k HL.out rfl hk
                have HYY := Lib.hid hyy
                clear hyy
                go_wp2_with (at_builtin; (refine appAcct_b rfl (.tmp 74) (.tmp 76) rfl rfl (HP.out.one.alloc _) rfl (reads_newAt _ _ _ 5 [0, 0, 0, 0, 0] _ (by simp) rfl rfl) (by omega) ?_); intro A3 c3 w5 hacc3 hp3)
                have P3 := Lib.hid ((HP.out.alloc _).push1 hacc3 hp3)
                have HA3 := Lib.hid hacc3
                obtain ⟨g, cp, hv, hg1, hg2⟩ := hacc3.own.form (by omega)
                obtain rfl : A3 = some ⟨g, 0, none⟩ := by injection hv
                have hcap := hacc3.cap
                unfold maxLen at hcap
                obtain ⟨cc1, cc2⟩ := hcap
                clear hacc3 hp3 hv hg1 hg2
                have q3 : ((n + 1 : Nat) : Int) ≤ c3 := by omega
                have q4 : IntKind.i64.wrap ((k : Int) + 1) = (k : Int) + 1 := IntWalk.i64_in _ ⟨by omega, by omega⟩
                have q5 : (0 : Int) ≤ (k : Int) + 1 := by omega
                have q6 : ((k : Int) + 1).toNat = k + 1 := by omega
                have q7 : ¬ c3 = k := by omega
                have q9 : (k : Int) ≤ (n : Int) + 1 := by omega
                have q10 : (k : Int) + 1 ≤ (n : Int) + 1 := by omega
                have q11 : (n : Int) + 1 ≤ c3 := by omega
                go_still_tail 7, (by kernel_rfl)
                refine acc_copy (size := 5) rfl (.tmp 81) (.tmp 84) rfl Try.underlying34 (by kernel_rfl) HA3.out.drew _ _ _ _ _ _ ((k + 1) * 5) (k * 5) (n - k) rfl rfl (by show min _ _ = _; omega) (fun hp => ⟨by rw [if_neg (by omega)], by first | rfl | exact if_neg (by omega)⟩) (by omega) (by omega) ?_
                intro w6 hacc4 hg4
                have P4 := Lib.hid (P3.out.drew.push1 hacc4 (pushed_self hg4))
                rw [HYY.out] at hacc4
                generalize (if c3 = k + 1 then some (⟨g, 0, none⟩ : Addr) else some ⟨g, (k + 1) * 5, none⟩) = sv
                have hyat := acctF_at (insAt_atAcct (k := k) (x := yy) (xs := xs) (by rw [HL.out]; exact hk))
                obtain ⟨hcell0, hfr0⟩ := hacc4.cellAt ((hyat).1)
                obtain ⟨hcell1, hfr1⟩ := hacc4.cellAt ((hyat).2.1)
                obtain ⟨hcell2, hfr2⟩ := hacc4.cellAt ((hyat).2.2.1)
                obtain ⟨hcell3, hfr3⟩ := hacc4.cellAt ((hyat).2.2.2.1)
                obtain ⟨hcell4, hfr4⟩ := hacc4.cellAt ((hyat).2.2.2.2)
                obtain ⟨hx0, _⟩ := P4.out.two.cellAt (show x.cs[0]? = some x.p from rfl)
                obtain ⟨hx1, _⟩ := P4.out.two.cellAt (show x.cs[1]? = some x.m from rfl)
                obtain ⟨hx2, _⟩ := P4.out.two.cellAt (show x.cs[2]? = some x.l from rfl)
                obtain ⟨hx3, _⟩ := P4.out.two.cellAt (show x.cs[3]? = some x.s from rfl)
                obtain ⟨hx4, _⟩ := P4.out.two.cellAt (show x.cs[4]? = some x.d from rfl)
                have s4 := (((((hacc4.set (k * 5) x.p).set (k * 5 + 1) x.m).set (k * 5 + 2) x.l).set (k * 5 + 3) x.s).set (k * 5 + 4) x.d)
                rw [acctF_set _ k x (by rw [insAt_len, HL.out]; omega), insAt_setAcct (by rw [HL.out]; exact hk)] at s4
                have HS := Lib.hid s4
                clear s4 hyat hacc4 hg4 q3 q7 q11
                go_wp2_with fail
                refine (iAreAccounts_any _ _ _ _ (insAt k x xs) _ HS.out.reads (Nat.le_refl _) (by omega)).mono ?_
                rintro e w7 ⟨rfl, hb7⟩
                have O7 := Lib.hid (HS.out.later hb7)
                clear hb7
                cases hgd : accsB (insAt k x xs)
                · have HR := Lib.hid (show bookOk p m xs = false ∧ bookL p m xs = [] by unfold bookL bookOk; rw [HI.out, hgd]; simp)
                  go_wp2
                  go_ret2
                  rw [HR.out.1, HR.out.2]
                  exact ⟨none, 0, 0, rfl, Acc.nil O7.out.ext⟩
                · have HR := Lib.hid (show bookOk p m xs = true ∧ bookL p m xs = insAt k x xs by unfold bookL bookOk; rw [HI.out, hgd, HAA.out]; simp)
                  go_wp2
                  go_ret2
                  rw [HR.out.1, HR.out.2]
                  exact ⟨_, _, _, rfl, O7.out⟩
        · have HN := Lib.hid hbf
          go_wp2
          refine wp_region_held_drew (S := (fun w' => w'.cell? ⟨gb, 0, none⟩ = some (.int .i64 p) ∧ w'.cell? ⟨gb, 1, none⟩ = some (.int .i64 m) ∧ w'.cell? ⟨gb, 2, none⟩ = some (.int .i64 1) ∧ w'.cell? ⟨gb, 3, none⟩ = some (.int .i64 0) ∧ w'.cell? ⟨gb, 4, none⟩ = some (.int .i64 0) ∧ w'.cell? ⟨b, o + k * 5, none⟩ = some (.int .i64 y.p) ∧ w'.cell? ⟨b, o + k * 5 + 1, none⟩ = some (.int .i64 y.m) ∧ w'.cell? ⟨b, o + k * 5 + 2, none⟩ = some (.int .i64 y.l) ∧ w'.cell? ⟨b, o + k * 5 + 3, none⟩ = some (.int .i64 y.s) ∧ w'.cell? ⟨b, o + k * 5 + 4, none⟩ = some (.int .i64 y.d) ∧ Below wq.heap.size wq w')) (by kernel_rfl) ?_ (fun hHeld => ?_)
          · (try dsimp only); (first | (go_keep; done) | ((try go_split_ands); (repeat' apply And.intro); all_goals first | exact ext_drew (Below.refl _ _) | exact below_cell (by assumption) (by assumption) | (refine ext_trans ?_ (by assumption); assumption) | assumption))
          refine wpAnyH_takeD (i := 0) (v := ?_) 20 rfl rfl (by kernel_rfl) (by kernel_rfl) (by kernel_rfl) (fun _ _ _ _ _ h => h) (by rfl) (by assumption) ?_ ?_
          rotate_left; focus (intro w hSw; (try dsimp only at hSw); go_simp; try (with_reducible rfl))
          try simp only [Act.put, List.setIfInBounds_toArray, List.set_cons_zero, List.set_cons_succ]
          refine wpAnyH_takeD (i := 1) (v := ?_) 21 rfl rfl (by kernel_rfl) (by kernel_rfl) (by kernel_rfl) (fun _ _ _ _ _ h => h) (by rfl) (by assumption) ?_ ?_
          rotate_left; focus (intro w hSw; (try dsimp only at hSw); go_simp; try (with_reducible rfl))
          try simp only [Act.put, List.setIfInBounds_toArray, List.set_cons_zero, List.set_cons_succ]
          refine wpAnyH_takeD (i := 2) (v := ?_) 22 rfl rfl (by kernel_rfl) (by kernel_rfl) (by kernel_rfl) (fun _ _ _ _ _ h => h) (by rfl) (by assumption) ?_ ?_
          rotate_left; focus (intro w hSw; (try dsimp only at hSw); go_simp; try (with_reducible rfl))
          try simp only [Act.put, List.setIfInBounds_toArray, List.set_cons_zero, List.set_cons_succ]
          refine wpAnyH_takeD (i := 3) (v := ?_) 23 rfl rfl (by kernel_rfl) (by kernel_rfl) (by kernel_rfl) (fun _ _ _ _ _ h => h) (by rfl) (by assumption) ?_ ?_
          rotate_left; focus (intro w hSw; (try dsimp only at hSw); go_simp; try (with_reducible rfl))
          try simp only [Act.put, List.setIfInBounds_toArray, List.set_cons_zero, List.set_cons_succ]
          refine wpAnyH_takeD (i := 4) (v := ?_) 24 rfl rfl (by kernel_rfl) (by kernel_rfl) (by kernel_rfl) (fun _ _ _ _ _ h => h) (by rfl) (by assumption) ?_ ?_
          rotate_left; focus (intro w hSw; (try dsimp only at hSw); go_simp; try (with_reducible rfl))
          try simp only [Act.put, List.setIfInBounds_toArray, List.set_cons_zero, List.set_cons_succ]
          refine wpAnyH_takeD (i := 5) (v := ?_) 25 rfl rfl (by kernel_rfl) (by kernel_rfl) (by kernel_rfl) (fun _ _ _ _ _ h => h) (by rfl) (by assumption) ?_ ?_
          rotate_left; focus (intro w hSw; (try dsimp only at hSw); go_simp; try (with_reducible rfl))
          try simp only [Act.put, List.setIfInBounds_toArray, List.set_cons_zero, List.set_cons_succ]
          refine wpAnyH_takeD (i := 6) (v := ?_) 26 rfl rfl (by kernel_rfl) (by kernel_rfl) (by kernel_rfl) (fun _ _ _ _ _ h => h) (by rfl) (by assumption) ?_ ?_
          rotate_left; focus (intro w hSw; (try dsimp only at hSw); go_simp; try (with_reducible rfl))
          try simp only [Act.put, List.setIfInBounds_toArray, List.set_cons_zero, List.set_cons_succ]
          refine wpAnyH_takeD (i := 7) (v := ?_) 27 rfl rfl (by kernel_rfl) (by kernel_rfl) (by kernel_rfl) (fun _ _ _ _ _ h => h) (by rfl) (by assumption) ?_ ?_
          rotate_left; focus (intro w hSw; (try dsimp only at hSw); go_simp; try (with_reducible rfl))
          try simp only [Act.put, List.setIfInBounds_toArray, List.set_cons_zero, List.set_cons_succ]
          refine wpAnyH_takeD (i := 8) (v := ?_) 28 rfl rfl (by kernel_rfl) (by kernel_rfl) (by kernel_rfl) (fun _ _ _ _ _ h => h) (by rfl) (by assumption) ?_ ?_
          rotate_left; focus (intro w hSw; (try dsimp only at hSw); go_simp; try (with_reducible rfl))
          try simp only [Act.put, List.setIfInBounds_toArray, List.set_cons_zero, List.set_cons_succ]
          refine wpAnyH_takeD (i := 9) (v := ?_) 29 rfl rfl (by kernel_rfl) (by kernel_rfl) (by kernel_rfl) (fun _ _ _ _ _ h => h) (by rfl) (by assumption) ?_ ?_
          rotate_left; focus (intro w hSw; (try dsimp only at hSw); go_simp; try (with_reducible rfl))
          try simp only [Act.put, List.setIfInBounds_toArray, List.set_cons_zero, List.set_cons_succ]
          refine wpAnyH_ready (rs := [10]) (by kernel_rfl) (by simp) ?_
          refine AllReadyH.cons rfl (fun K hK => ?_) AllReadyH.nil
          go_simp; (go_at_call 70; refine (accountBefore_v y ⟨p, m, 1, 0, 0⟩ hbf _).mono ?_; rintro e w' ⟨rfl, hb'⟩); (try dsimp only)
          refine hK.out _ _ ?_ (fun hHeld => ?_)
          focus ((try dsimp only); (first | (go_keep; done) | ((try go_split_ands); (repeat' apply And.intro); all_goals first | exact ext_drew (Below.refl _ _) | exact below_cell (by assumption) (by assumption) | (refine ext_trans ?_ (by assumption); assumption) | assumption)))
          clear hK K; try simp only [Act.put, List.setIfInBounds_toArray, List.set_cons_zero, List.set_cons_succ]
          refine wpAnyH_takeD (i := 11) (v := ?_) 31 rfl rfl (by kernel_rfl) (by kernel_rfl) (by kernel_rfl) (fun _ _ _ _ _ h => h) (by rfl) (by assumption) ?_ ?_
          rotate_left; focus (intro w hSw; (try dsimp only at hSw); go_simp; try (with_reducible rfl))
          try simp only [Act.put, List.setIfInBounds_toArray, List.set_cons_zero, List.set_cons_succ]
          refine wpAnyH_done (by kernel_rfl) ?_ _
          have hb6 := hHeld.2.2.2.2.2.2.2.2.2.2
          have HB6 := Lib.hid (ext_trans HBQ.out hb6)
          clear hHeld hb' hb6
          go_wp2
          go_roundw
          case rel => exact ⟨k + 1, by go_num, by omega, fun i x hi hx => by
            rcases Nat.lt_or_ge i k with h | h
            · exact HH.out i x h hx
            · obtain rfl : i = k := by omega
              rw [HY.out] at hx; injection hx with hx; rw [← hx]; exact HN.out, HB6.out⟩
          case measure => simp [intOf]; omega
      · have hkn : k = n := by omega
        have HPOS := Lib.hid (posB_stop HH.out (fun z hz => by have := (List.getElem?_eq_some_iff.1 hz).1; have := HL.out; omega) (by rw [HL.out]; exact hk))
        have HBI := Lib.hid (fun s (hs : s = sibV p xs k) => hs ▸ book_new HPOS.out (fun z hz => by have := (List.getElem?_eq_some_iff.1 hz).1; have := HL.out; omega))
        have e9 : decide (k < n) = false := by simp; omega
        clear hkn
        go_wp2
        refine wp_region_held_drew (S := (fun w' => w'.cell? ⟨gb, 0, none⟩ = some (.int .i64 p) ∧ w'.cell? ⟨gb, 1, none⟩ = some (.int .i64 m) ∧ w'.cell? ⟨gb, 2, none⟩ = some (.int .i64 1) ∧ w'.cell? ⟨gb, 3, none⟩ = some (.int .i64 0) ∧ w'.cell? ⟨gb, 4, none⟩ = some (.int .i64 0) ∧ Below wq.heap.size wq w')) (by kernel_rfl) ?_ (fun hHeld => ?_)
        · (try dsimp only); (first | (go_keep; done) | ((try go_split_ands); (repeat' apply And.intro); all_goals first | exact ext_drew (Below.refl _ _) | exact below_cell (by assumption) (by assumption) | (refine ext_trans ?_ (by assumption); assumption) | assumption))
        refine wpAnyH_takeD (i := 0) (v := ?_) 20 rfl rfl (by kernel_rfl) (by kernel_rfl) (by kernel_rfl) (fun _ _ _ _ _ h => h) (by rfl) (by assumption) ?_ ?_
        rotate_left; focus (intro w hSw; (try dsimp only at hSw); go_simp; try (with_reducible rfl))
        try simp only [Act.put, List.setIfInBounds_toArray, List.set_cons_zero, List.set_cons_succ]
        refine wpAnyH_takeD (i := 1) (v := ?_) 21 rfl rfl (by kernel_rfl) (by kernel_rfl) (by kernel_rfl) (fun _ _ _ _ _ h => h) (by rfl) (by assumption) ?_ ?_
        rotate_left; focus (intro w hSw; (try dsimp only at hSw); go_simp; try (with_reducible rfl))
        try simp only [Act.put, List.setIfInBounds_toArray, List.set_cons_zero, List.set_cons_succ]
        refine wpAnyH_takeD (i := 2) (v := ?_) 22 rfl rfl (by kernel_rfl) (by kernel_rfl) (by kernel_rfl) (fun _ _ _ _ _ h => h) (by rfl) (by assumption) ?_ ?_
        rotate_left; focus (intro w hSw; (try dsimp only at hSw); go_simp; try (with_reducible rfl))
        try simp only [Act.put, List.setIfInBounds_toArray, List.set_cons_zero, List.set_cons_succ]
        refine wpAnyH_takeD (i := 3) (v := ?_) 23 rfl rfl (by kernel_rfl) (by kernel_rfl) (by kernel_rfl) (fun _ _ _ _ _ h => h) (by rfl) (by assumption) ?_ ?_
        rotate_left; focus (intro w hSw; (try dsimp only at hSw); go_simp; try (with_reducible rfl))
        try simp only [Act.put, List.setIfInBounds_toArray, List.set_cons_zero, List.set_cons_succ]
        refine wpAnyH_takeD (i := 4) (v := ?_) 24 rfl rfl (by kernel_rfl) (by kernel_rfl) (by kernel_rfl) (fun _ _ _ _ _ h => h) (by rfl) (by assumption) ?_ ?_
        rotate_left; focus (intro w hSw; (try dsimp only at hSw); go_simp; try (with_reducible rfl))
        try simp only [Act.put, List.setIfInBounds_toArray, List.set_cons_zero, List.set_cons_succ]
        refine wpAnyH_skipsTo (by kernel_rfl) (fun _ _ _ _ _ h => h) (by assumption) [5, 6, 7, 8, 9, 10] [25, 26, 27, 28, 29, 30] 1 (by kernel_rfl) (by kernel_rfl) ?_
        try simp only [skipAct_nil, skipAct_cons, Act.put, List.setIfInBounds_toArray, List.set_cons_zero, List.set_cons_succ]
        refine wpAnyH_takeD (i := 11) (v := ?_) 31 rfl rfl (by kernel_rfl) (by kernel_rfl) (by kernel_rfl) (fun _ _ _ _ _ h => h) (by rfl) (by assumption) ?_ ?_
        rotate_left; focus (intro w hSw; (try dsimp only at hSw); go_simp; try (with_reducible rfl))
        try simp only [Act.put, List.setIfInBounds_toArray, List.set_cons_zero, List.set_cons_succ]
        refine wpAnyH_done (by kernel_rfl) ?_ _
        clear hHeld
        go_wp2
        generalize hwz : World.drew wq = wz
        have hbz : Below wq.heap.size wq wz := hwz ▸ ext_drew (Below.refl _ _)
        have HPz := Lib.hid (HP0.out.later hbz)
        clear hwz hbz hself hx0 hx1 hx2 hx3 hx4 HP0
        obtain ⟨wq, rfl⟩ : ∃ wq : World, wq = wz := ⟨_, rfl⟩
        have HP0 := HPz
        obtain ⟨hx0, _⟩ := HP0.out.two.cellAt (show ([p, m, 1, 0, 0] : List Int)[0]? = some p from rfl)
        obtain ⟨hx1, _⟩ := HP0.out.two.cellAt (show ([p, m, 1, 0, 0] : List Int)[1]? = some m from rfl)
        obtain ⟨hx2, _⟩ := HP0.out.two.cellAt (show ([p, m, 1, 0, 0] : List Int)[2]? = some 1 from rfl)
        obtain ⟨hx3, _⟩ := HP0.out.two.cellAt (show ([p, m, 1, 0, 0] : List Int)[3]? = some 0 from rfl)
        obtain ⟨hx4, _⟩ := HP0.out.two.cellAt (show ([p, m, 1, 0, 0] : List Int)[4]? = some 0 from rfl)
        have hself : Below wq.heap.size wq wq.drew := ext_drew (Below.refl _ _)
        refine wp_region_held_drew (S := (fun w' => w'.cell? ⟨gb, 0, none⟩ = some (.int .i64 p) ∧ w'.cell? ⟨gb, 1, none⟩ = some (.int .i64 m) ∧ w'.cell? ⟨gb, 2, none⟩ = some (.int .i64 1) ∧ w'.cell? ⟨gb, 3, none⟩ = some (.int .i64 0) ∧ w'.cell? ⟨gb, 4, none⟩ = some (.int .i64 0) ∧ Below wq.heap.size wq w')) (by kernel_rfl) ?_ (fun hHeld => ?_)
        · (try dsimp only); (first | (go_keep; done) | ((try go_split_ands); (repeat' apply And.intro); all_goals first | exact ext_drew (Below.refl _ _) | exact below_cell (by assumption) (by assumption) | (refine ext_trans ?_ (by assumption); assumption) | assumption))
        refine wpAnyH_takeD (i := 0) (v := ?_) 34 rfl rfl (by kernel_rfl) (by kernel_rfl) (by kernel_rfl) (fun _ _ _ _ _ h => h) (by rfl) (by assumption) ?_ ?_
        rotate_left; focus (intro w hSw; (try dsimp only at hSw); go_simp; try (with_reducible rfl))
        try simp only [Act.put, List.setIfInBounds_toArray, List.set_cons_zero, List.set_cons_succ]
        refine wpAnyH_takeD (i := 1) (v := ?_) 35 rfl rfl (by kernel_rfl) (by kernel_rfl) (by kernel_rfl) (fun _ _ _ _ _ h => h) (by rfl) (by assumption) ?_ ?_
        rotate_left; focus (intro w hSw; (try dsimp only at hSw); go_simp; try (with_reducible rfl))
        try simp only [Act.put, List.setIfInBounds_toArray, List.set_cons_zero, List.set_cons_succ]
        refine wpAnyH_takeD (i := 2) (v := ?_) 36 rfl rfl (by kernel_rfl) (by kernel_rfl) (by kernel_rfl) (fun _ _ _ _ _ h => h) (by rfl) (by assumption) ?_ ?_
        rotate_left; focus (intro w hSw; (try dsimp only at hSw); go_simp; try (with_reducible rfl))
        try simp only [Act.put, List.setIfInBounds_toArray, List.set_cons_zero, List.set_cons_succ]
        refine wpAnyH_takeD (i := 3) (v := ?_) 37 rfl rfl (by kernel_rfl) (by kernel_rfl) (by kernel_rfl) (fun _ _ _ _ _ h => h) (by rfl) (by assumption) ?_ ?_
        rotate_left; focus (intro w hSw; (try dsimp only at hSw); go_simp; try (with_reducible rfl))
        try simp only [Act.put, List.setIfInBounds_toArray, List.set_cons_zero, List.set_cons_succ]
        refine wpAnyH_takeD (i := 4) (v := ?_) 38 rfl rfl (by kernel_rfl) (by kernel_rfl) (by kernel_rfl) (fun _ _ _ _ _ h => h) (by rfl) (by assumption) ?_ ?_
        rotate_left; focus (intro w hSw; (try dsimp only at hSw); go_simp; try (with_reducible rfl))
        try simp only [Act.put, List.setIfInBounds_toArray, List.set_cons_zero, List.set_cons_succ]
        refine wpAnyH_skipsTo (by kernel_rfl) (fun _ _ _ _ _ h => h) (by assumption) [5, 6, 7, 8, 9, 10, 11] [39, 40, 41, 42, 43, 44, 45] 1 (by kernel_rfl) (by kernel_rfl) ?_
        try simp only [skipAct_nil, skipAct_cons, Act.put, List.setIfInBounds_toArray, List.set_cons_zero, List.set_cons_succ]
        refine wpAnyH_takeD (i := 12) (v := ?_) 46 rfl rfl (by kernel_rfl) (by kernel_rfl) (by kernel_rfl) (fun _ _ _ _ _ h => h) (by rfl) (by assumption) ?_ ?_
        rotate_left; focus (intro w hSw; (try dsimp only at hSw); go_simp; try (with_reducible rfl))
        try simp only [Act.put, List.setIfInBounds_toArray, List.set_cons_zero, List.set_cons_succ]
        refine wpAnyH_done (by kernel_rfl) ?_ _
        clear hHeld
        generalize hwz : World.drew wq = wz
        have hbz : Below wq.heap.size wq wz := hwz ▸ ext_drew (Below.refl _ _)
        have HPz := Lib.hid (HP0.out.later hbz)
        clear hwz hbz hself hx0 hx1 hx2 hx3 hx4 HP0
        obtain ⟨wq, rfl⟩ : ∃ wq : World, wq = wz := ⟨_, rfl⟩
        have HP0 := HPz
        rcases Nat.eq_zero_or_pos k with h0 | h0
        · obtain ⟨x, hxe⟩ : ∃ x : Acct, x = ⟨p, m, 1, 0, 0⟩ := ⟨_, rfl⟩
          have HI := Lib.hid (show bookO p m xs = insAt k x xs by rw [hxe]; exact HBI.out 0 (by rw [h0]; rfl))
          have HP := Lib.hid (show AccP w wq 25 5 _ n c2 (acctF xs) (some ⟨gb, 0, none⟩) 1 1 x.cs by rw [hxe]; exact HP0.out)
          have e0 : decide (0 < k) = false := by simp; omega
          have HXE := Lib.hid hxe
          clear h0 hxe
          obtain ⟨yy, hyy⟩ := acct_hole xs [0, 0, 0, 0, 0] n k HL.out rfl hk
          have HYY := Lib.hid hyy
          clear hyy
          go_wp2_with (at_builtin; (refine appAcct_b rfl (.tmp 74) (.tmp 76) rfl rfl (HP.out.one.alloc _) rfl (reads_newAt _ _ _ 5 [0, 0, 0, 0, 0] _ (by simp) rfl rfl) (by omega) ?_); intro A3 c3 w5 hacc3 hp3)
          have P3 := Lib.hid ((HP.out.alloc _).push1 hacc3 hp3)
          have HA3 := Lib.hid hacc3
          obtain ⟨g, cp, hv, hg1, hg2⟩ := hacc3.own.form (by omega)
          obtain rfl : A3 = some ⟨g, 0, none⟩ := by injection hv
          have hcap := hacc3.cap
          unfold maxLen at hcap
          obtain ⟨cc1, cc2⟩ := hcap
          clear hacc3 hp3 hv hg1 hg2
          have q3 : ((n + 1 : Nat) : Int) ≤ c3 := by omega
          have q4 : IntKind.i64.wrap ((k : Int) + 1) = (k : Int) + 1 := IntWalk.i64_in _ ⟨by omega, by omega⟩
          have q5 : (0 : Int) ≤ (k : Int) + 1 := by omega
          have q6 : ((k : Int) + 1).toNat = k + 1 := by omega
          have q7 : ¬ c3 = k := by omega
          have q9 : (k : Int) ≤ (n : Int) + 1 := by omega
          have q10 : (k : Int) + 1 ≤ (n : Int) + 1 := by omega
          have q11 : (n : Int) + 1 ≤ c3 := by omega
          go_still_tail 7, (by kernel_rfl)
          refine acc_copy (size := 5) rfl (.tmp 81) (.tmp 84) rfl Try.underlying34 (by kernel_rfl) HA3.out.drew _ _ _ _ _ _ ((k + 1) * 5) (k * 5) (n - k) rfl rfl (by show min _ _ = _; omega) (fun hp => ⟨by rw [if_neg (by omega)], by first | rfl | exact if_neg (by omega)⟩) (by omega) (by omega) ?_
          intro w6 hacc4 hg4
          have P4 := Lib.hid (P3.out.drew.push1 hacc4 (pushed_self hg4))
          rw [HYY.out] at hacc4
          generalize (if c3 = k + 1 then some (⟨g, 0, none⟩ : Addr) else some ⟨g, (k + 1) * 5, none⟩) = sv
          have hyat := acctF_at (insAt_atAcct (k := k) (x := yy) (xs := xs) (by rw [HL.out]; exact hk))
          obtain ⟨hcell0, hfr0⟩ := hacc4.cellAt ((hyat).1)
          obtain ⟨hcell1, hfr1⟩ := hacc4.cellAt ((hyat).2.1)
          obtain ⟨hcell2, hfr2⟩ := hacc4.cellAt ((hyat).2.2.1)
          obtain ⟨hcell3, hfr3⟩ := hacc4.cellAt ((hyat).2.2.2.1)
          obtain ⟨hcell4, hfr4⟩ := hacc4.cellAt ((hyat).2.2.2.2)
          obtain ⟨hx0, _⟩ := P4.out.two.cellAt (show x.cs[0]? = some x.p from rfl)
          obtain ⟨hx1, _⟩ := P4.out.two.cellAt (show x.cs[1]? = some x.m from rfl)
          obtain ⟨hx2, _⟩ := P4.out.two.cellAt (show x.cs[2]? = some x.l from rfl)
          obtain ⟨hx3, _⟩ := P4.out.two.cellAt (show x.cs[3]? = some x.s from rfl)
          obtain ⟨hx4, _⟩ := P4.out.two.cellAt (show x.cs[4]? = some x.d from rfl)
          have s4 := (((((hacc4.set (k * 5) x.p).set (k * 5 + 1) x.m).set (k * 5 + 2) x.l).set (k * 5 + 3) x.s).set (k * 5 + 4) x.d)
          rw [acctF_set _ k x (by rw [insAt_len, HL.out]; omega), insAt_setAcct (by rw [HL.out]; exact hk)] at s4
          have HS := Lib.hid s4
          clear s4 hyat hacc4 hg4 q3 q7 q11
          go_wp2_with fail
          refine (iAreAccounts_any _ _ _ _ (insAt k x xs) _ HS.out.reads (Nat.le_refl _) (by omega)).mono ?_
          rintro e w7 ⟨rfl, hb7⟩
          have O7 := Lib.hid (HS.out.later hb7)
          clear hb7
          cases hgd : accsB (insAt k x xs)
          · have HR := Lib.hid (show bookOk p m xs = false ∧ bookL p m xs = [] by unfold bookL bookOk; rw [HI.out, hgd]; simp)
            go_wp2
            go_ret2
            rw [HR.out.1, HR.out.2]
            exact ⟨none, 0, 0, rfl, Acc.nil O7.out.ext⟩
          · have HR := Lib.hid (show bookOk p m xs = true ∧ bookL p m xs = insAt k x xs by unfold bookL bookOk; rw [HI.out, hgd, HAA.out]; simp)
            go_wp2
            go_ret2
            rw [HR.out.1, HR.out.2]
            exact ⟨_, _, _, rfl, O7.out⟩
        · obtain ⟨i, hi⟩ : ∃ i, k = i + 1 := ⟨k - 1, by omega⟩
          have e0 : decide (0 < k) = true := by simp; omega
          have i0 : (0 : Int) ≤ i := by omega
          have i1 : (i : Int) < n := by omega
          have i2 : (k : Int) - 1 = (i : Int) := by omega
          obtain ⟨b', o', y, hAy, hy, hd0, hd1, hd2, hd3, hd4⟩ := HP0.out.one.reads.acct (show i < n by omega)
          first | subst hAy | (injection hAy with hAy; injection hAy with e1 e2; subst e1 e2)
          by_cases hyp : y.p = p
          · obtain ⟨x, hxe⟩ : ∃ x : Acct, x = ⟨p, m, 1, y.s, 0⟩ := ⟨_, rfl⟩
            have HI := Lib.hid (show bookO p m xs = insAt k x xs by rw [hxe]; exact HBI.out y.s (by rw [hi]; exact (sib_yes hy hyp).symm))
            have h3 := HP0.out.push2 (HP0.out.two.set 3 y.s) (pushed_set HP0.out.two _)
            have HP := Lib.hid (show AccP w _ 25 5 _ n c2 (acctF xs) (some ⟨gb, 0, none⟩) 1 1 x.cs by rw [hxe]; exact h3)
            obtain ⟨hx3, hf3⟩ := HP0.out.two.cellAt (show ([p, m, 1, 0, 0] : List Int)[3]? = some 0 from rfl)
            have hpb : (y.p == p) = true := by simp [hyp]
            have HXE := Lib.hid hxe
            clear h0 hxe hi hy hyp h3
            obtain ⟨yy, hyy⟩ := acct_hole xs [0, 0, 0, 0, 0] n k HL.out rfl hk
            have HYY := Lib.hid hyy
            clear hyy
            go_wp2_with (at_builtin; (refine appAcct_b rfl (.tmp 74) (.tmp 76) rfl rfl (HP.out.one.alloc _) rfl (reads_newAt _ _ _ 5 [0, 0, 0, 0, 0] _ (by simp) rfl rfl) (by omega) ?_); intro A3 c3 w5 hacc3 hp3)
            have P3 := Lib.hid ((HP.out.alloc _).push1 hacc3 hp3)
            have HA3 := Lib.hid hacc3
            obtain ⟨g, cp, hv, hg1, hg2⟩ := hacc3.own.form (by omega)
            obtain rfl : A3 = some ⟨g, 0, none⟩ := by injection hv
            have hcap := hacc3.cap
            unfold maxLen at hcap
            obtain ⟨cc1, cc2⟩ := hcap
            clear hacc3 hp3 hv hg1 hg2
            have q3 : ((n + 1 : Nat) : Int) ≤ c3 := by omega
            have q4 : IntKind.i64.wrap ((k : Int) + 1) = (k : Int) + 1 := IntWalk.i64_in _ ⟨by omega, by omega⟩
            have q5 : (0 : Int) ≤ (k : Int) + 1 := by omega
            have q6 : ((k : Int) + 1).toNat = k + 1 := by omega
            have q7 : ¬ c3 = k := by omega
            have q9 : (k : Int) ≤ (n : Int) + 1 := by omega
            have q10 : (k : Int) + 1 ≤ (n : Int) + 1 := by omega
            have q11 : (n : Int) + 1 ≤ c3 := by omega
            go_still_tail 7, (by kernel_rfl)
            refine acc_copy (size := 5) rfl (.tmp 81) (.tmp 84) rfl Try.underlying34 (by kernel_rfl) HA3.out.drew _ _ _ _ _ _ ((k + 1) * 5) (k * 5) (n - k) rfl rfl (by show min _ _ = _; omega) (fun hp => ⟨by rw [if_neg (by omega)], by first | rfl | exact if_neg (by omega)⟩) (by omega) (by omega) ?_
            intro w6 hacc4 hg4
            have P4 := Lib.hid (P3.out.drew.push1 hacc4 (pushed_self hg4))
            rw [HYY.out] at hacc4
            generalize (if c3 = k + 1 then some (⟨g, 0, none⟩ : Addr) else some ⟨g, (k + 1) * 5, none⟩) = sv
            have hyat := acctF_at (insAt_atAcct (k := k) (x := yy) (xs := xs) (by rw [HL.out]; exact hk))
            obtain ⟨hcell0, hfr0⟩ := hacc4.cellAt ((hyat).1)
            obtain ⟨hcell1, hfr1⟩ := hacc4.cellAt ((hyat).2.1)
            obtain ⟨hcell2, hfr2⟩ := hacc4.cellAt ((hyat).2.2.1)
            obtain ⟨hcell3, hfr3⟩ := hacc4.cellAt ((hyat).2.2.2.1)
            obtain ⟨hcell4, hfr4⟩ := hacc4.cellAt ((hyat).2.2.2.2)
            obtain ⟨hx0, _⟩ := P4.out.two.cellAt (show x.cs[0]? = some x.p from rfl)
            obtain ⟨hx1, _⟩ := P4.out.two.cellAt (show x.cs[1]? = some x.m from rfl)
            obtain ⟨hx2, _⟩ := P4.out.two.cellAt (show x.cs[2]? = some x.l from rfl)
            obtain ⟨hx3, _⟩ := P4.out.two.cellAt (show x.cs[3]? = some x.s from rfl)
            obtain ⟨hx4, _⟩ := P4.out.two.cellAt (show x.cs[4]? = some x.d from rfl)
            have s4 := (((((hacc4.set (k * 5) x.p).set (k * 5 + 1) x.m).set (k * 5 + 2) x.l).set (k * 5 + 3) x.s).set (k * 5 + 4) x.d)
            rw [acctF_set _ k x (by rw [insAt_len, HL.out]; omega), insAt_setAcct (by rw [HL.out]; exact hk)] at s4
            have HS := Lib.hid s4
            clear s4 hyat hacc4 hg4 q3 q7 q11
            go_wp2_with fail
            refine (iAreAccounts_any _ _ _ _ (insAt k x xs) _ HS.out.reads (Nat.le_refl _) (by omega)).mono ?_
            rintro e w7 ⟨rfl, hb7⟩
            have O7 := Lib.hid (HS.out.later hb7)
            clear hb7
            cases hgd : accsB (insAt k x xs)
            · have HR := Lib.hid (show bookOk p m xs = false ∧ bookL p m xs = [] by unfold bookL bookOk; rw [HI.out, hgd]; simp)
              go_wp2
              go_ret2
              rw [HR.out.1, HR.out.2]
              exact ⟨none, 0, 0, rfl, Acc.nil O7.out.ext⟩
            · have HR := Lib.hid (show bookOk p m xs = true ∧ bookL p m xs = insAt k x xs by unfold bookL bookOk; rw [HI.out, hgd, HAA.out]; simp)
              go_wp2
              go_ret2
              rw [HR.out.1, HR.out.2]
              exact ⟨_, _, _, rfl, O7.out⟩
          · obtain ⟨x, hxe⟩ : ∃ x : Acct, x = ⟨p, m, 1, 0, 0⟩ := ⟨_, rfl⟩
            have HI := Lib.hid (show bookO p m xs = insAt k x xs by rw [hxe]; exact HBI.out 0 (by rw [hi]; exact (sib_no hy hyp).symm))
            have HP := Lib.hid (show AccP w wq 25 5 _ n c2 (acctF xs) (some ⟨gb, 0, none⟩) 1 1 x.cs by rw [hxe]; exact HP0.out)
            have hpb : (y.p == p) = false := by simp [hyp]
            have HXE := Lib.hid hxe
            clear h0 hxe hi hy hyp
            obtain ⟨yy, hyy⟩ := acct_hole xs [0, 0, 0, 0, 0] n k HL.out rfl hk
            have HYY := Lib.hid hyy
            clear hyy
            go_wp2_with (at_builtin; (refine appAcct_b rfl (.tmp 74) (.tmp 76) rfl rfl (HP.out.one.alloc _) rfl (reads_newAt _ _ _ 5 [0, 0, 0, 0, 0] _ (by simp) rfl rfl) (by omega) ?_); intro A3 c3 w5 hacc3 hp3)
            have P3 := Lib.hid ((HP.out.alloc _).push1 hacc3 hp3)
            have HA3 := Lib.hid hacc3
            obtain ⟨g, cp, hv, hg1, hg2⟩ := hacc3.own.form (by omega)
            obtain rfl : A3 = some ⟨g, 0, none⟩ := by injection hv
            have hcap := hacc3.cap
            unfold maxLen at hcap
            obtain ⟨cc1, cc2⟩ := hcap
            clear hacc3 hp3 hv hg1 hg2
            have q3 : ((n + 1 : Nat) : Int) ≤ c3 := by omega
            have q4 : IntKind.i64.wrap ((k : Int) + 1) = (k : Int) + 1 := IntWalk.i64_in _ ⟨by omega, by omega⟩
            have q5 : (0 : Int) ≤ (k : Int) + 1 := by omega
            have q6 : ((k : Int) + 1).toNat = k + 1 := by omega
            have q7 : ¬ c3 = k := by omega
            have q9 : (k : Int) ≤ (n : Int) + 1 := by omega
            have q10 : (k : Int) + 1 ≤ (n : Int) + 1 := by omega
            have q11 : (n : Int) + 1 ≤ c3 := by omega
            go_still_tail 7, (by kernel_rfl)
            refine acc_copy (size := 5) rfl (.tmp 81) (.tmp 84) rfl Try.underlying34 (by kernel_rfl) HA3.out.drew _ _ _ _ _ _ ((k + 1) * 5) (k * 5) (n - k) rfl rfl (by show min _ _ = _; omega) (fun hp => ⟨by rw [if_neg (by omega)], by first | rfl | exact if_neg (by omega)⟩) (by omega) (by omega) ?_
            intro w6 hacc4 hg4
            have P4 := Lib.hid (P3.out.drew.push1 hacc4 (pushed_self hg4))
            rw [HYY.out] at hacc4
            generalize (if c3 = k + 1 then some (⟨g, 0, none⟩ : Addr) else some ⟨g, (k + 1) * 5, none⟩) = sv
            have hyat := acctF_at (insAt_atAcct (k := k) (x := yy) (xs := xs) (by rw [HL.out]; exact hk))
            obtain ⟨hcell0, hfr0⟩ := hacc4.cellAt ((hyat).1)
            obtain ⟨hcell1, hfr1⟩ := hacc4.cellAt ((hyat).2.1)
            obtain ⟨hcell2, hfr2⟩ := hacc4.cellAt ((hyat).2.2.1)
            obtain ⟨hcell3, hfr3⟩ := hacc4.cellAt ((hyat).2.2.2.1)
            obtain ⟨hcell4, hfr4⟩ := hacc4.cellAt ((hyat).2.2.2.2)
            obtain ⟨hx0, _⟩ := P4.out.two.cellAt (show x.cs[0]? = some x.p from rfl)
            obtain ⟨hx1, _⟩ := P4.out.two.cellAt (show x.cs[1]? = some x.m from rfl)
            obtain ⟨hx2, _⟩ := P4.out.two.cellAt (show x.cs[2]? = some x.l from rfl)
            obtain ⟨hx3, _⟩ := P4.out.two.cellAt (show x.cs[3]? = some x.s from rfl)
            obtain ⟨hx4, _⟩ := P4.out.two.cellAt (show x.cs[4]? = some x.d from rfl)
            have s4 := (((((hacc4.set (k * 5) x.p).set (k * 5 + 1) x.m).set (k * 5 + 2) x.l).set (k * 5 + 3) x.s).set (k * 5 + 4) x.d)
            rw [acctF_set _ k x (by rw [insAt_len, HL.out]; omega), insAt_setAcct (by rw [HL.out]; exact hk)] at s4
            have HS := Lib.hid s4
            clear s4 hyat hacc4 hg4 q3 q7 q11
            go_wp2_with fail
            refine (iAreAccounts_any _ _ _ _ (insAt k x xs) _ HS.out.reads (Nat.le_refl _) (by omega)).mono ?_
            rintro e w7 ⟨rfl, hb7⟩
            have O7 := Lib.hid (HS.out.later hb7)
            clear hb7
            cases hgd : accsB (insAt k x xs)
            · have HR := Lib.hid (show bookOk p m xs = false ∧ bookL p m xs = [] by unfold bookL bookOk; rw [HI.out, hgd]; simp)
              go_wp2
              go_ret2
              rw [HR.out.1, HR.out.2]
              exact ⟨none, 0, 0, rfl, Acc.nil O7.out.ext⟩
            · have HR := Lib.hid (show bookOk p m xs = true ∧ bookL p m xs = insAt k x xs by unfold bookL bookOk; rw [HI.out, hgd, HAA.out]; simp)
              go_wp2
              go_ret2
              rw [HR.out.1, HR.out.2]
              exact ⟨_, _, _, rfl, O7.out⟩
end Go.Proofs.Ytbjmpllnkkfgfaa
