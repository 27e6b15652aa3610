/- Slices of slices of numbers: equal, marked, held. No condition. -/
import Derived.Test.YtbjmpllnkkfgfaaAppend
import Derived.StillTailTactics
namespace Go.Proofs.Ytbjmpllnkkfgfaa
open Go.RowKit

/-- A row's header. -/
structure Hd where
  a : Option Addr
  n : Nat
  c : Nat
def Hd.v (h : Hd) : Value := .slice h.a h.n h.c

/-- The slice at A holds the headers hs, and the rows behind them read as these numbers. -/
structure ReadsN (w : World) (B : Nat) (A : Option Addr) (n : Nat) (hs : List Hd) (rows : List (List Int)) : Prop where
  outer : Reads w B 1 A n (hs.map Hd.v)
  len : hs.length = rows.length
  row : ∀ (i : Nat) (h : Hd) (r : List Int), hs[i]? = some h → rows[i]? = some r → Reads w B 1 h.a h.n (r.map (Value.int .i64)) ∧ h.n ≤ maxLen

section
variable {w w' : World} {B n : Nat} {A : Option Addr} {hs : List Hd} {rows : List (List Int)}
theorem ReadsN.below (h : ReadsN w B A n hs rows) (hb : Below B w w') : ReadsN w' B A n hs rows :=
  ⟨h.outer.below hb, h.len, fun i x r h1 h2 => ⟨(h.row i x r h1 h2).1.below hb, (h.row i x r h1 h2).2⟩⟩
theorem ReadsN.drewN (h : ReadsN w B A n hs rows) (m : Nat) : ReadsN (w.drewN m) B A n hs rows :=
  ⟨h.outer.drewN m, h.len, fun i x r h1 h2 => ⟨(h.row i x r h1 h2).1.drewN m, (h.row i x r h1 h2).2⟩⟩
theorem ReadsN.grown (h : ReadsN w B A n hs rows) {row : Option Nat} (hg : w.grownBy w' row) (hB : B ≤ w.heap.size) (hr : ∀ g, row = some g → B ≤ g) : ReadsN w' B A n hs rows :=
  ⟨h.outer.grown hg hB hr, h.len, fun i x r h1 h2 => ⟨(h.row i x r h1 h2).1.grown hg hB hr, (h.row i x r h1 h2).2⟩⟩
theorem ReadsN.hlen (h : ReadsN w B A n hs rows) : hs.length = n := by simpa using h.outer.1
theorem ReadsN.rlen (h : ReadsN w B A n hs rows) : rows.length = n := h.len ▸ h.hlen
theorem ReadsN.at (h : ReadsN w B A n hs rows) {k : Nat} (hk : k < n) :
    ∃ b o ra rn rc r, A = some ⟨b, o, none⟩ ∧ rows[k]? = some r ∧ w.cell? ⟨b, o + k, none⟩ = some (.slice ra rn rc) ∧ Reads w B 1 ra rn (r.map (Value.int .i64)) ∧ rn ≤ maxLen ∧ hs[k]? = some ⟨ra, rn, rc⟩ := by
  obtain ⟨ad, e, _, hc⟩ := h.outer.2 (by omega)
  obtain ⟨b, o, s⟩ := ad
  have h1 := h.hlen
  have h2 := h.rlen
  have hh : hs[k]? = some (hs[k]'(by omega)) := List.getElem?_eq_getElem (by omega)
  have hr : rows[k]? = some (rows[k]'(by omega)) := List.getElem?_eq_getElem (by omega)
  have hcell := hc k _ (by rw [List.getElem?_map, hh]; rfl)
  obtain ⟨r1, r2⟩ := h.row k _ _ hh hr
  have hs0 : s = none := by
    have := World.cell?_spot (hc 0 _ (by rw [List.getElem?_map, List.getElem?_eq_getElem (show 0 < hs.length by omega)]; rfl))
    simpa [Addr.add] using this
  subst hs0
  rw [Addr.add_lit] at hcell
  exact ⟨b, o, _, _, _, _, e, hr, hcell, r1, r2, hh⟩
end
theorem quiet_n {P : Program} {f : FuncId} {args : Array Value} {v : Value} {w : World} {n : Nat} (h : Calls P f args (w.drewN n) fun e w' => e = .returned v ∧ ∃ m, w' = (w.drewN n).drewN m) :
    Calls P f args (w.drewN n) fun e w'' => e = .returned v ∧ ∃ m, w'' = w.drewN m :=
  h.mono fun _ _ ⟨he, _, hm⟩ => ⟨he, _, hm.trans (World.drewN_drewN _ _ _)⟩
theorem eqSS_step {xs ys : List (List Int)} {k : Nat} {x y : List Int} (hx : xs[k]? = some x) (hy : ys[k]? = some y) (h : xs.take k = ys.take k) (he : eqB x y = true) : xs.take (k + 1) = ys.take (k + 1) := by
  have e : x = y := by simpa [eqB] using he
  rw [List.take_add_one, List.take_add_one, h, hx, hy, e]
theorem eqSS_miss {xs ys : List (List Int)} {k : Nat} {x y : List Int} (hx : xs[k]? = some x) (hy : ys[k]? = some y) (he : eqB x y = false) : decide (xs = ys) = false := by
  rw [decide_eq_false_iff_not]
  intro h
  rw [h, hy] at hx
  injection hx with hx
  rw [hx, eqB_self] at he
  cases he
set_option maxHeartbeats 1000000 in
theorem eqIntSS_any (A1 A2 : Option Addr) (n1 n2 c1 c2 B1 B2 : Nat) (hs1 hs2 : List Hd) (xs ys : List (List Int)) (w : World) (h1 : ReadsN w B1 A1 n1 hs1 xs) (h2 : ReadsN w B2 A2 n2 hs2 ys) (hn1 : n1 ≤ maxLen) (hn2 : n2 ≤ maxLen) :
    Calls Try.prog 44 #[.slice A1 n1 c1, .slice A2 n2 c2] w fun e w' => e = .returned (.bool (decide (xs = ys))) ∧ ∃ m, w' = w.drewN m := by
  unfold maxLen at hn1 hn2
  have l1 := h1.rlen
  have l2 := h2.rlen
  have H1 := Lib.hid h1
  have H2 := Lib.hid h2
  have L1 := Lib.hid l1
  have L2 := Lib.hid l2
  clear h1 h2 l1 l2
  by_cases hne : n1 = n2
  · subst hne
    go_enter Try.func44, Try.ntmps44
    go_wp2
    go_loopw [5] (fun i wr => ∃ k m : Nat, i = .int .i64 k ∧ k ≤ n1 ∧ xs.take k = ys.take k ∧ wr = w.drewN m) (fun i _ => n1 - (intOf i).toNat)
    case atStart => exact ⟨0, 0, rfl, by omega, rfl, rfl⟩
    case round =>
      obtain ⟨k, m, rfl, hk, hh, hwm⟩ := hrel
      have HH := Lib.hid hh
      have HM := Lib.hid hwm
      have G1 := Lib.hid (show ReadsN wr B1 A1 n1 hs1 xs by rw [hwm]; exact H1.out.drewN m)
      have G2 := Lib.hid (show ReadsN wr B2 A2 n1 hs2 ys by rw [hwm]; exact H2.out.drewN m)
      clear hh hwm
      by_cases hlt : k < n1
      · obtain ⟨b, o, ra, rn, rc, x, rfl, hx, hcell, hrx, hmx, _⟩ := G1.out.at hlt
        obtain ⟨b', o', ra', rn', rc', y, rfl, hy, hcell', hry, hmy, _⟩ := G2.out.at hlt
        have HX := Lib.hid hx
        have HY := Lib.hid hy
        have HQ := Lib.hid (fun n => eqIntS_any ra ra' rn rn' rc rc' B1 B2 x y (wr.drewN n) (hrx.drewN n) (hry.drewN n) hmx hmy)
        clear hx hy hrx hry hmx hmy
        have hlt' : (k : Int) < n1 := by omega
        have hk0 : (0 : Int) ≤ k := by omega
        cases he : eqB x y
        · rw [he] at HQ
          go_wp2
          go_quiet ((go_at_call 39; exact quiet_n (HQ.out _)))
          go_wp2
          go_ret
          exact ⟨by rw [eqSS_miss HX.out HY.out he]; rfl, _, by rw [HM.out]; exact World.drewN_drewN _ _ _⟩
        · rw [he] at HQ
          go_wp2
          go_quiet ((go_at_call 39; exact quiet_n (HQ.out _)))
          go_wp2
          go_roundw
          case rel => exact ⟨k + 1, _, by go_num, by omega, eqSS_step HX.out HY.out HH.out he, by rw [HM.out]; exact World.drewN_drewN _ _ _⟩
          case measure => simp [intOf]; omega
      · go_wp2
        go_ret
        have hf : decide (xs = ys) = true := by
          have := HH.out
          rw [List.take_of_length_le (by have := L1.out; omega), List.take_of_length_le (by have := L2.out; omega)] at this
          rw [this]; simp
        exact ⟨by rw [hf]; rfl, _, HM.out⟩
  · have hne' : ((n1 : Int) == (n2 : Int)) = false := by simp; omega
    go_enter Try.func44, Try.ntmps44
    go_wp2
    go_ret
    have hf : decide (xs = ys) = false := by
      rw [decide_eq_false_iff_not]
      intro h
      have := L1.out
      have := L2.out
      rw [h] at *
      omega
    exact ⟨by rw [hf]; rfl, 0, rfl⟩
/-- How many numbers stand in the rows? -/
def tot : List Hd → Nat
  | [] => 0
  | h :: hs => h.n + tot hs
/-- k, k + 1, .. row for row. -/
def marksN (k : Int) : List Hd → List (List Int)
  | [] => []
  | h :: hs => marks k h.n :: marksN (k + (h.n : Int)) hs
theorem marksN_len : ∀ (k : Int) (hs : List Hd), (marksN k hs).length = hs.length
  | _, [] => rfl
  | k, h :: hs => by rw [marksN, List.length_cons, marksN_len, List.length_cons]
theorem marksN_at : ∀ {k : Int} {hs : List Hd} {j : Nat} {h : Hd}, hs[j]? = some h → (marksN k hs)[j]? = some (marks (k + (tot (hs.take j) : Int)) h.n)
  | k, [], j, h, e => by simp at e
  | k, x :: hs, 0, h, e => by
    obtain rfl : x = h := by simpa using e
    simp [marksN, tot]
  | k, x :: hs, j + 1, h, e => by
    rw [marksN, List.getElem?_cons_succ, marksN_at (by simpa using e), List.take_succ_cons, tot, Int.natCast_add, Int.add_assoc]
theorem tot_take : ∀ {hs : List Hd} {j : Nat} {h : Hd}, hs[j]? = some h → tot (hs.take (j + 1)) = tot (hs.take j) + h.n
  | [], j, h, e => by simp at e
  | x :: hs, 0, h, e => by
    obtain rfl : x = h := by simpa using e
    simp [tot]
  | x :: hs, j + 1, h, e => by
    rw [List.take_succ_cons, List.take_succ_cons, tot, tot, tot_take (by simpa using e)]
    omega
theorem tot_le : ∀ (hs : List Hd) (j : Nat), tot (hs.take j) ≤ tot hs
  | [], j => by simp
  | x :: hs, 0 => by simp [tot]
  | x :: hs, j + 1 => by
    have := tot_le hs j
    rw [List.take_succ_cons, tot, tot]; omega
theorem marksN_snoc : ∀ {k : Int} {hs : List Hd} {j : Nat} {h : Hd}, hs[j]? = some h → marksN k (hs.take (j + 1)) = marksN k (hs.take j) ++ [marks (k + (tot (hs.take j) : Int)) h.n]
  | k, [], j, h, e => by simp at e
  | k, x :: hs, 0, h, e => by
    obtain rfl : x = h := by simpa using e
    simp [marksN, tot]
  | k, x :: hs, j + 1, h, e => by
    rw [List.take_succ_cons, List.take_succ_cons, marksN, marksN, marksN_snoc (by simpa using e), tot, Int.natCast_add, Int.add_assoc]; rfl
/-- The rows of which the first j are marked. -/
def markTo (k : Int) (hs : List Hd) (rows : List (List Int)) (j : Nat) : List (List Int) := marksN k (hs.take j) ++ rows.drop j
theorem markTo_set {k : Int} {hs : List Hd} {rows : List (List Int)} {j : Nat} {h : Hd} (hl : hs.length = rows.length) (e : hs[j]? = some h) : (markTo k hs rows j).set j (marks (k + (tot (hs.take j) : Int)) h.n) = markTo k hs rows (j + 1) := by
  have hj := (List.getElem?_eq_some_iff.1 e).1
  have h1 : (marksN k (hs.take j)).length = j := by rw [marksN_len, List.length_take]; omega
  unfold markTo
  rw [List.set_append, if_neg (by omega), h1, Nat.sub_self, List.drop_eq_getElem_cons (by omega), List.set_cons_zero, marksN_snoc e]
  simp
set_option maxHeartbeats 1000000 in
theorem heldIntSS_any (A : Option Addr) (n c B : Nat) (hs : List Hd) (k : Int) (w : World) (h : ReadsN w B A n hs (marksN k hs)) (hn : n ≤ 1048577) (ht : (tot hs : Int) ≤ 1152921504606846976) (hk0 : 0 ≤ k) (hk : k ≤ 1152921504606846976) :
    Calls Try.prog 46 #[.slice A n c, .int .i64 k] w fun e w' => e = .returned (.int .i64 (k + (tot hs : Int))) ∧ w = w' := by
  have H := Lib.hid h
  clear h
  go_enter Try.func46, Try.ntmps46
  go_wp2
  go_loop [1, 5] (fun t i => ∃ j : Nat, i = .int .i64 j ∧ j ≤ n ∧ t = .int .i64 (k + (tot (hs.take j) : Int))) (fun _ i => n - (intOf i).toNat)
  case atStart => exact ⟨0, rfl, by omega, by simp [tot]⟩
  case round =>
    obtain ⟨j, rfl, hj, rfl⟩ := hrel
    by_cases hlt : j < n
    · obtain ⟨b, o, ra, rn, rc, x, rfl, hx, hcell, hrx, hmx, hh⟩ := H.out.at hlt
      rw [marksN_at hh] at hx
      injection hx with hx
      subst hx
      have T1 := tot_take hh
      have T2 := tot_le hs (j + 1)
      have T3 : ((rn : Nat) : Int) ≤ 1152921504606846976 := by simp only at T1; omega
      have HQ := Lib.hid (heldIntS_any ra rn rc B (k + (tot (hs.take j) : Int)) w hrx (by omega) (by omega) (by omega))
      have HT := Lib.hid (show tot (hs.take (j + 1)) = tot (hs.take j) + rn from T1)
      have T4 : (tot (hs.take j) : Int) ≤ 1152921504606846976 := by omega
      clear hrx hmx hh T1 T2
      generalize tot (hs.take j) = tj at HQ HT T4 ⊢
      go_wp2_with fail
      refine HQ.out.mono ?_
      rintro e w2 ⟨rfl, rfl⟩
      go_wp2
      go_round
      case rel => exact ⟨j + 1, by go_num, by omega, by rw [HT.out]; go_num⟩
      case measure => simp [intOf]; omega
    · have hj' : j = n := by omega
      subst hj'
      have hl := H.out.hlen
      have HT := Lib.hid (show tot (hs.take j) = tot hs by rw [List.take_of_length_le (by omega)])
      go_wp2
      go_ret
      exact ⟨by rw [HT.out]; rfl, rfl⟩
/-- The two slices lie in blocks of their own. -/
def Aparts (u v : Value) : Prop := u.ownBlock = none ∨ u.ownBlock ≠ v.ownBlock
/-- A slice of slices of numbers gathered since world w0: it owns its headers, and each row its numbers. -/
structure AccN (w0 w : World) (E2 E : TypeId) (A : Option Addr) (n c : Nat) (hs : List Hd) (rows : List (List Int)) : Prop where
  own : w.ownsRow w0.heap.size E2 1 (.slice A n c) n (hs.map Hd.v)
  ext : Below w0.heap.size w0 w
  len : hs.length = rows.length
  row : ∀ (i : Nat) (h : Hd) (r : List Int), hs[i]? = some h → rows[i]? = some r → w.ownsRow w0.heap.size E 1 h.v h.n (r.map (Value.int .i64))
  off : ∀ (i : Nat) (h : Hd), hs[i]? = some h → Aparts h.v (.slice A n c)
  two : ∀ (i j : Nat) (h g : Hd), i ≠ j → hs[i]? = some h → hs[j]? = some g → Aparts h.v g.v

theorem own_cap {w : World} {base : Nat} {E : TypeId} {k n c : Nat} {A : Option Addr} {xs : List Value} (h : w.ownsRow base E k (.slice A n c) n xs) : n ≤ c ∧ c ≤ maxLen := by
  rcases h.2 with ⟨h1, h2⟩ | ⟨g, cap, cur, hv, _, _, h1, h2, _⟩
  · injection h1 with _ h3 h4; subst h4; unfold maxLen; omega
  · injection hv with _ _ h3; subst h3; exact ⟨h1, h2⟩
section
variable {w0 w w' : World} {E2 E : TypeId} {n c : Nat} {A : Option Addr} {hs : List Hd} {rows : List (List Int)}
theorem AccN.keep (h : AccN w0 w E2 E A n c hs rows) (hk : ∀ (e : TypeId) (k : Nat) (v : Value) (m : Nat) (xs : List Value), w.ownsRow w0.heap.size e k v m xs → w'.ownsRow w0.heap.size e k v m xs) (hb : Below w0.heap.size w0 w') : AccN w0 w' E2 E A n c hs rows :=
  ⟨hk _ _ _ _ _ h.own, hb, h.len, fun i x r h1 h2 => hk _ _ _ _ _ (h.row i x r h1 h2), h.off, h.two⟩
theorem AccN.alloc (h : AccN w0 w E2 E A n c hs rows) (o : Obj) : AccN w0 (w.alloc o) E2 E A n c hs rows := h.keep (fun _ _ _ _ _ h => h.alloc o) (h.ext.alloc h.ext.size o)
theorem AccN.drewN (h : AccN w0 w E2 E A n c hs rows) (m : Nat) : AccN w0 (w.drewN m) E2 E A n c hs rows := h.keep (fun _ _ _ _ _ h => h) (ext_drewN h.ext m)
theorem AccN.drew (h : AccN w0 w E2 E A n c hs rows) : AccN w0 w.drew E2 E A n c hs rows := h.keep (fun _ _ _ _ _ h => h) (ext_drew h.ext)
theorem AccN.later (h : AccN w0 w E2 E A n c hs rows) (hb : Below w.heap.size w w') : AccN w0 w' E2 E A n c hs rows := h.keep (fun _ _ _ _ _ h => own_below h hb) (ext_trans h.ext hb)
/-- Something else turned, older than the start. -/
theorem AccN.grown (h : AccN w0 w E2 E A n c hs rows) {row : Option Nat} (hg : w.grownBy w' row) (hr : ∀ g, row = some g → g < w0.heap.size) (hb : Below w0.heap.size w0 w') : AccN w0 w' E2 E A n c hs rows :=
  h.keep (fun _ _ v _ _ h => h.kept hg (by
    cases hv : v.ownBlock with
    | none => exact .inl rfl
    | some b => exact .inr (fun e => by have := (h.lt b hv).1; have := hr b e.symm; omega))) hb
theorem AccN.reads (h : AccN w0 w E2 E A n c hs rows) : ReadsN w w.heap.size A n hs rows :=
  ⟨Reads.of_own h.own, h.len, fun i x r h1 h2 => ⟨Reads.of_own (h.row i x r h1 h2), by have := own_cap (h.row i x r h1 h2); omega⟩⟩
theorem AccN.nil (h : Below w0.heap.size w0 w) : AccN w0 w E2 E none 0 0 [] [] :=
  ⟨World.ownsRow_nil _ _ _ _, h, rfl, fun i x r h => by simp at h, fun i x h => by simp at h, fun i j x y _ h => by simp at h⟩
theorem AccN.empty (h : Below w0.heap.size w0 w) : AccN w0 (w.alloc (.cells #[] E2)) E2 E (some ⟨w.heap.size, 0, none⟩) 0 0 [] [] :=
  ⟨World.ownsRow_made w #[] 0 h.size (by simp [maxLen]) (by simp), h.alloc h.size _, rfl, fun i x r h => by simp at h, fun i x h => by simp at h, fun i j x y _ h => by simp at h⟩
/-- One row turned. -/
theorem AccN.setRow (h : AccN w0 w E2 E A n c hs rows) {j : Nat} {x : Hd} (hj : hs[j]? = some x) {r : List Int} (hx : w'.ownsRow w0.heap.size E 1 x.v x.n (r.map (Value.int .i64))) (hg : w.grownBy w' x.v.ownBlock) : AccN w0 w' E2 E A n c hs (rows.set j r) := by
  refine ⟨h.own.kept hg ?_, ext_grown h.ext hg (fun g e => (hx.lt g e).1), by rw [List.length_set]; exact h.len, fun i y s h1 h2 => ?_, h.off, h.two⟩
  · cases hA : (Value.slice A n c).ownBlock with
    | none => exact .inl rfl
    | some b => exact .inr (fun e => by rcases h.off j x hj with h0 | h0; (rw [h0] at e; cases e); exact h0 (by rw [hA]; exact e.symm))
  · by_cases hij : i = j
    · subst hij
      have hl := (List.getElem?_eq_some_iff.1 h1).1
      rw [List.getElem?_set_self (by rw [← h.len]; exact hl)] at h2
      injection h2 with h2
      rw [hj] at h1
      injection h1 with h1
      subst h1 h2
      exact hx
    · rw [List.getElem?_set_ne (fun e => hij e.symm)] at h2
      exact (h.row i y s h1 h2).kept hg (h.two i j y x hij h1 hj)
end
set_option maxHeartbeats 1000000 in
theorem markIntSS_any (A : Option Addr) (n c : Nat) (w0 : World) (E2 : TypeId) (hs : List Hd) (rows : List (List Int)) (k : Int) (w : World) (h : AccN w0 w E2 3 A n c hs rows) (hn : n ≤ 1048577) (ht : (tot hs : Int) ≤ 1152921504606846976) (hk0 : 0 ≤ k) (hk : k ≤ 1152921504606846976) :
    Calls Try.prog 45 #[.slice A n c, .int .i64 k] w fun e w' => e = .returned (.int .i64 (k + (tot hs : Int))) ∧ AccN w0 w' E2 3 A n c hs (marksN k hs) ∧ Below w0.heap.size w w' := by
  have H := Lib.hid h
  clear h
  go_enter Try.func45, Try.ntmps45
  go_wp2
  go_loopw [1, 5] (fun t i wr => ∃ j : Nat, i = .int .i64 j ∧ j ≤ n ∧ t = .int .i64 (k + (tot (hs.take j) : Int)) ∧ AccN w0 wr E2 3 A n c hs (markTo k hs rows j) ∧ Below w0.heap.size w wr) (fun _ i _ => n - (intOf i).toNat)
  case atStart => exact ⟨0, rfl, by omega, by simp [tot], by simpa [markTo, marksN] using H.out, Below.refl _ _⟩
  case round =>
    obtain ⟨wq, rfl⟩ : ∃ wq : World, wq = wr := ⟨_, rfl⟩
    obtain ⟨j, rfl, hj, rfl, hacc, hbw⟩ := hrel
    have HA := Lib.hid hacc
    have HW := Lib.hid hbw
    clear hacc hbw
    by_cases hlt : j < n
    · obtain ⟨b, o, ra, rn, rc, x, rfl, hx, hcell, hrx, hmx, hh⟩ := HA.out.reads.at hlt
      have HL := Lib.hid (fun g => (HA.out.row j _ _ hh hx).lt g)
      have T1 := tot_take hh
      have T2 := tot_le hs (j + 1)
      have T3 : ((rn : Nat) : Int) ≤ 1152921504606846976 := by simp only at T1; omega
      have HQ := Lib.hid (markIntS_any ra rn rc w0.heap.size x (k + (tot (hs.take j) : Int)) wq (HA.out.row j _ _ hh hx) (by omega) (by omega) (by omega))
      have HT := Lib.hid (show tot (hs.take (j + 1)) = tot (hs.take j) + rn from T1)
      have HS := Lib.hid (fun (w' : World) => HA.out.setRow (w' := w') hh (r := marks (k + (tot (hs.take j) : Int)) rn))
      have HM := Lib.hid (show (markTo k hs rows j).set j (marks (k + (tot (hs.take j) : Int)) rn) = markTo k hs rows (j + 1) from markTo_set (by have := H.out.len; omega) hh)
      have T4 : (tot (hs.take j) : Int) ≤ 1152921504606846976 := by omega
      clear hrx hmx hh T1 T2 hx
      generalize tot (hs.take j) = tj at HQ HT T4 HS HM ⊢
      go_wp2_with fail
      refine HQ.out.mono ?_
      rintro e w2 ⟨rfl, ho, hg⟩
      have HN := Lib.hid (show AccN w0 w2 E2 3 _ n c hs (markTo k hs rows (j + 1)) by rw [← HM.out]; exact HS.out w2 ho hg)
      have HV := Lib.hid (HW.out.grown hg (HA.out.ext.size) (fun g e => (HL.out g e).1))
      clear ho hg
      go_wp2
      go_roundw
      case rel => exact ⟨j + 1, by go_num, by omega, by rw [HT.out]; go_num, HN.out, HV.out⟩
      case measure => simp [intOf]; omega
    · have hj' : j = n := by omega
      subst hj'
      have hl := H.out.reads.hlen
      have HT := Lib.hid (show tot (hs.take j) = tot hs by rw [List.take_of_length_le (by omega)])
      have HM := Lib.hid (show markTo k hs rows j = marksN k hs by
        have := H.out.len
        unfold markTo; rw [List.take_of_length_le (by omega), List.drop_of_length_le (by omega), List.append_nil])
      go_wp2
      go_ret
      exact ⟨by rw [HT.out]; rfl, HM.out ▸ HA.out, HW.out⟩
theorem tot_eq : ∀ (hs : List Hd) (rows : List (List Int)), hs.length = rows.length → (∀ (i : Nat) (h : Hd) (r : List Int), hs[i]? = some h → rows[i]? = some r → r.length = h.n) → tot hs = (rows.map List.length).sum
  | [], [], _, _ => rfl
  | [], _ :: _, h, _ => by simp at h
  | _ :: _, [], h, _ => by simp at h
  | x :: hs, r :: rows, h, hr => by
    rw [tot, List.map_cons, List.sum_cons, tot_eq hs rows (by simpa using h) (fun i y s h1 h2 => hr (i + 1) y s (by simpa using h1) (by simpa using h2)), hr 0 x r rfl rfl]
theorem ReadsN.tot {w : World} {B n : Nat} {A : Option Addr} {hs : List Hd} {rows : List (List Int)} (h : ReadsN w B A n hs rows) : tot hs = (rows.map List.length).sum :=
  tot_eq hs rows h.len (fun i x r h1 h2 => (h.row i x r h1 h2).1.len)
/-- Something older than the start turned: from a start anew. -/
theorem AccN.moved {w0 w w' : World} {E2 E : TypeId} {n c : Nat} {A : Option Addr} {hs : List Hd} {rows : List (List Int)} (h : AccN w0 w E2 E A n c hs rows) {row : Option Nat} (hg : w.grownBy w' row) (hr : ∀ g, row = some g → g < w0.heap.size) :
    ∃ w1 : World, w1.heap.size = w0.heap.size ∧ AccN w1 w' E2 E A n c hs rows := by
  have hB : w0.heap.size ≤ w'.heap.size := Nat.le_trans h.ext.size hg.size
  obtain ⟨w1, hw1⟩ : ∃ w1 : World, w1 = { w' with heap := w'.heap.extract 0 w0.heap.size } := ⟨_, rfl⟩
  have hs1 : w1.heap.size = w0.heap.size := by rw [hw1]; simp; omega
  have hb : Below w1.heap.size w1 w' := by
    rw [hs1, hw1]
    refine ⟨rfl, rfl, rfl, by simp; omega, fun k hk => ?_⟩
    show w'.heap[k]? = (w'.heap.extract 0 w0.heap.size)[k]?
    rw [Array.getElem?_extract]
    simp
    omega
  have key : ∀ (e : TypeId) (k : Nat) (v : Value) (m : Nat) (xs : List Value), w.ownsRow w0.heap.size e k v m xs → w'.ownsRow w1.heap.size e k v m xs := by
    intro e k v m xs hx
    rw [hs1]
    refine hx.kept hg ?_
    cases hv : v.ownBlock with
    | none => exact .inl rfl
    | some b => exact .inr (fun e => by have := (hx.lt b hv).1; have := hr b e.symm; omega)
  exact ⟨w1, hs1, key _ _ _ _ _ h.own, hb, h.len, fun i x r h1 h2 => key _ _ _ _ _ (h.row i x r h1 h2), h.off, h.two⟩
/-- What a function gives that hands back a slice of slices of numbers and a bool. -/
def GivesN (E2 E : TypeId) (rows : List (List Int)) (ok : Bool) (w : World) (e : Ending) (w' : World) : Prop := ∃ A n c hs, e = .returned (.tuple #[.slice A n c, .bool ok]) ∧ AccN w w' E2 E A n c hs rows
/-- A row that is not yet in the list, in a block of its own. -/
structure NewRow (w0 w : World) (E : TypeId) (A : Option Addr) (n c : Nat) (hs : List Hd) (x : Hd) (r : List Int) : Prop where
  own : w.ownsRow w0.heap.size E 1 x.v x.n (r.map (Value.int .i64))
  off : Aparts x.v (.slice A n c)
  two : ∀ (i : Nat) (g : Hd), hs[i]? = some g → Aparts g.v x.v
/-- A new header reads as itself. -/
theorem reads_hd (w : World) (T : TypeId) (y : Hd) (g : Nat) (hg : g = w.heap.size) : Reads (w.alloc (.cells #[y.v] T)) (w.heap.size + 1) 1 (some ⟨g, 0, none⟩) 1 [y.v] := by
  subst hg
  refine ⟨by simp, fun _ => ⟨_, rfl, by simp, fun j u hu => ?_⟩⟩
  rw [Addr.add_lit, Nat.zero_add, World.cell?_alloc_new]
  simpa using hu
theorem NewRow.drew {w0 w : World} {E : TypeId} {A : Option Addr} {n c : Nat} {hs : List Hd} {x : Hd} {r : List Int} (h : NewRow w0 w E A n c hs x r) : NewRow w0 w.drew E A n c hs x r := ⟨h.own, h.off, h.two⟩
theorem Aparts.symm {u v : Value} (h : Aparts u v) : Aparts v u := by
  rcases h with h | h
  · cases hv : v.ownBlock with
    | none => exact .inl hv
    | some b => exact .inr (by rw [hv, h]; simp)
  · exact .inr (fun e => h e.symm)
theorem Aparts.of_lt {u v : Value} {b : Nat} (hu : ∀ g, u.ownBlock = some g → g < b) (hv : v.ownBlock = some b) : Aparts u v := by
  cases h : u.ownBlock with
  | none => exact .inl h
  | some g => exact .inr (fun e => by have := hu g h; rw [h, hv] at e; injection e with e; omega)
section
variable {w0 w w' : World} {E2 E : TypeId} {n c : Nat} {A : Option Addr} {hs : List Hd} {rows : List (List Int)}
/-- A new block holds the row. -/
theorem AccN.newRow (h : AccN w0 w E2 E A n c hs rows) (cs : Array Value) (r : List Int) (hcs : cs.toList = r.map (Value.int .i64)) (hm : r.length ≤ maxLen) (o : Obj) :
    NewRow w0 ((w.alloc (.cells cs E)).alloc o) E A n c hs ⟨some ⟨w.heap.size, 0, none⟩, r.length, r.length⟩ r := by
  have hsz : cs.size = r.length := by rw [← Array.length_toList, hcs, List.length_map]
  refine ⟨World.ownsRow.alloc ?_ o, (Aparts.of_lt (fun g e => (h.own.lt g e).2) rfl).symm, fun i g hi => ?_⟩
  · rw [← hcs]
    exact World.ownsRow_lit w cs r.length h.ext.size hm (by rw [hsz, Nat.mul_one])
  · have hl := (List.getElem?_eq_some_iff.1 hi).1
    have := h.row i g _ hi (List.getElem?_eq_getElem (by rw [← h.len]; exact hl))
    exact Aparts.of_lt (fun b e => (this.lt b e).2) rfl
theorem AccN.pushed (h : AccN w0 w E2 E A n c hs rows) {x : Hd} {r : List Int} (hx : NewRow w0 w E A n c hs x r) {A' : Option Addr} {c' : Nat}
    (hown : w'.ownsRow w0.heap.size E2 1 (.slice A' (n + 1) c') (n + 1) ((hs ++ [x]).map Hd.v)) (hg : w.grownBy w' (Value.slice A n c).ownBlock)
    (hp : (Value.slice A' (n + 1) c').ownBlock = (Value.slice A n c).ownBlock ∨ (Value.slice A' (n + 1) c').ownBlock = some w.heap.size) : AccN w0 w' E2 E A' (n + 1) c' (hs ++ [x]) (rows ++ [r]) := by
  have hlen := h.len
  have key : ∀ (i : Nat) (g : Hd) (s : List Int), (hs ++ [x])[i]? = some g → (rows ++ [r])[i]? = some s → w.ownsRow w0.heap.size E 1 g.v g.n (s.map (Value.int .i64)) ∧ Aparts g.v (.slice A n c) := by
    intro i g s h1 h2
    by_cases hi : i < hs.length
    · rw [List.getElem?_append_left hi] at h1
      rw [List.getElem?_append_left (by omega)] at h2
      exact ⟨h.row i g s h1 h2, h.off i g h1⟩
    · have hi2 := (List.getElem?_eq_some_iff.1 h1).1
      rw [List.length_append, List.length_singleton] at hi2
      obtain rfl : i = hs.length := by omega
      rw [List.getElem?_append_right (Nat.le_refl _), Nat.sub_self] at h1
      rw [hlen, List.getElem?_append_right (Nat.le_refl _), Nat.sub_self] at h2
      injection h1 with h1
      injection h2 with h2
      subst h1 h2
      exact ⟨hx.own, hx.off⟩
  have hat : ∀ (i : Nat) (g : Hd), (hs ++ [x])[i]? = some g → ∃ s, (rows ++ [r])[i]? = some s := by
    intro i g h1
    have hi := (List.getElem?_eq_some_iff.1 h1).1
    exact ⟨_, List.getElem?_eq_getElem (by simp at hi ⊢; omega)⟩
  refine ⟨hown, ext_grown h.ext hg (fun g e => (h.own.lt g e).1), by simp [hlen], fun i g s h1 h2 => ?_, fun i g h1 => ?_, fun i j g f hij h1 h2 => ?_⟩
  · obtain ⟨k1, k2⟩ := key i g s h1 h2
    exact k1.kept hg k2
  · obtain ⟨s, h2⟩ := hat i g h1
    obtain ⟨k1, k2⟩ := key i g s h1 h2
    rcases hp with hp | hp
    · rcases k2 with k2 | k2
      · exact .inl k2
      · exact .inr (by rw [hp]; exact k2)
    · exact Aparts.of_lt (fun b e => (k1.lt b e).2) hp
  · by_cases hi : i < hs.length
    · rw [List.getElem?_append_left hi] at h1
      by_cases hj : j < hs.length
      · rw [List.getElem?_append_left hj] at h2
        exact h.two i j g f hij h1 h2
      · have hj2 := (List.getElem?_eq_some_iff.1 h2).1
        rw [List.length_append, List.length_singleton] at hj2
        obtain rfl : j = hs.length := by omega
        rw [List.getElem?_append_right (Nat.le_refl _), Nat.sub_self] at h2
        injection h2 with h2
        subst h2
        exact hx.two i g h1
    · have hi2 := (List.getElem?_eq_some_iff.1 h1).1
      rw [List.length_append, List.length_singleton] at hi2
      obtain rfl : i = hs.length := by omega
      rw [List.getElem?_append_right (Nat.le_refl _), Nat.sub_self] at h1
      injection h1 with h1
      subst h1
      have hj2 := (List.getElem?_eq_some_iff.1 h2).1
      rw [List.length_append, List.length_singleton] at hj2
      rw [List.getElem?_append_left (by omega)] at h2
      exact (hx.two j f h2).symm
end
/-- A new block of one element, beside a row of headers. -/
theorem Side.newN {W X : World} {E2 E k c0 n0 : Nat} {A : Option Addr} {hs : List Hd} {rows : List (List Int)} (h : AccN W X E2 E A n0 c0 hs rows) (cs : Array Value) (T : TypeId) (news : List Int) (hcs : cs.toList = news.map (Value.int .i64)) (hk : news.length = k) :
    Side (X.alloc (.cells cs T)) (X.heap.size + 1) k (some ⟨X.heap.size, 0, none⟩) 1 news A := by
  refine ⟨reads_new X cs T k news hcs hk, fun _ x hx => ?_, by simp⟩
  injection hx with hx
  subst hx
  intro e
  have := (h.own.lt X.heap.size (by rw [ownBlock_slice]; exact e)).2
  omega
theorem infoN : (Try.prog.info? 47).map (fun i => (i.zero, i.size, i.bytes)) = some (some (.slice none 0 0), 1, 24) := by kernel_rfl
theorem oneCell_hd (x : Hd) : ∀ u ∈ [x.v], u.oneCell' = true := by
  intro u hu
  obtain rfl : u = x.v := by simpa using hu
  rfl
/-- append of one row to a slice of slices of numbers. -/
theorem appN {ops : Array Oper} {rest : List Oper} {o : Oper} {a : Act} {Q : Exit → Act → World → Prop} (hgd : o.guard = none) (s x : Operand)
    (ho : o.op = .call { callee := .builtin .append, args := #[s, x], argTypes := #[52, 52] })
    {w0 w : World} {A : Option Addr} {n c : Nat} {hs : List Hd} {rows : List (List Int)} (hs' : a.eval s = .slice A n c) (hacc : AccN w0 w 47 3 A n c hs rows)
    {B c2 : Nat} {A2 : Option Addr} {y : Hd} {r : List Int} (hx : a.eval x = .slice A2 1 c2) (hr : Reads w B 1 A2 1 [y.v]) (hn : NewRow w0 w 3 A n c hs y r) (hb : n + 1 ≤ 1099511627776)
    (h : ∀ A' c' w', AccN w0 w' 47 3 A' (n + 1) c' (hs ++ [y]) (rows ++ [r]) → Pushed w w' A A' → wpList Try.prog ops Q rest (a.put o.dst (.slice A' (n + 1) c')) w') : wpList Try.prog ops Q (o :: rest) a w := by
  obtain ⟨i, hi1, hi2, hi3, hi4⟩ := info_parts infoN
  refine wpList_append_any w hgd s x _ ho w0.heap.size _ i (.slice none 0 0) 1 24 Try.underlying52 hi1 hi2 hi3 hi4 rfl (by decide) _ _ _ hs' hacc.own B A2 1 c2 _ hx hr (oneCell_hd y) (by unfold maxLen; omega) (by omega) hacc.ext.size ?_
  intro v' w' hown hg hbl
  obtain ⟨A', c', rfl⟩ := own_shape hown
  exact h A' c' w' (hacc.pushed hn (by simpa using hown) hg hbl) ⟨ownBlock_slice A n c ▸ hg, by rw [← ownBlock_slice A' (n + 1) c', ← ownBlock_slice A n c]; exact hbl⟩
theorem appN_step {ops : Array Oper} {o : Oper} {a : Act} {K : Act → World → Prop} {Q : Exit → Act → World → Prop} {F : Prop} (hgd : o.guard = none) (s x : Operand)
    (ho : o.op = .call { callee := .builtin .append, args := #[s, x], argTypes := #[52, 52] })
    {w0 w : World} {A : Option Addr} {n c : Nat} {hs : List Hd} {rows : List (List Int)} (hs' : a.eval s = .slice A n c) (hacc : AccN w0 w 47 3 A n c hs rows)
    {B c2 : Nat} {A2 : Option Addr} {y : Hd} {r : List Int} (hx : a.eval x = .slice A2 1 c2) (hr : Reads w B 1 A2 1 [y.v]) (hn : NewRow w0 w 3 A n c hs y r) (hb : n + 1 ≤ 1099511627776)
    (h : ∀ A' c' w', AccN w0 w' 47 3 A' (n + 1) c' (hs ++ [y]) (rows ++ [r]) → Pushed w w' A A' → K (a.put o.dst (.slice A' (n + 1) c')) w') :
    if Region.wanted o (yielded ops a.tmps) = true then Oper.wp Try.prog o a w K Q else F := by
  obtain ⟨i, hi1, hi2, hi3, hi4⟩ := info_parts infoN
  refine step_append_any w hgd s x _ ho w0.heap.size _ i (.slice none 0 0) 1 24 Try.underlying52 hi1 hi2 hi3 hi4 rfl (by decide) _ _ _ hs' hacc.own B A2 1 c2 _ hx hr (oneCell_hd y) (by unfold maxLen; omega) (by omega) hacc.ext.size ?_
  intro v' w' hown hg hbl
  obtain ⟨A', c', rfl⟩ := own_shape hown
  exact h A' c' w' (hacc.pushed hn (by simpa using hown) hg hbl) ⟨ownBlock_slice A n c ▸ hg, by rw [← ownBlock_slice A' (n + 1) c', ← ownBlock_slice A n c]; exact hbl⟩
end Go.Proofs.Ytbjmpllnkkfgfaa
