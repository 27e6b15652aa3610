/- What the law on fees says, without the program. No condition. -/
import Derived.Test.YtbjmpllnkkfgfaaMonths
import Derived.Test.YtbjmpllnkkfgfaaFeeTx
import Derived.Test.YtbjmpllnkkfgfaaBal
namespace Go.Proofs.Ytbjmpllnkkfgfaa
open Go.RowKit

theorem fee_less {l s price : Int} (hl : 0 ≤ l) (hl2 : l ≤ 31) (hs : 0 ≤ s) (hp : 1 ≤ price) (hp2 : price ≤ 500) : feeV l (s + 1) price ≤ feeV l s price := by
  have hw : 0 ≤ wholeV l price := by
    unfold wholeV
    have h1 := Int.mul_nonneg (show 0 ≤ price by omega) (show 0 ≤ min 8 l by omega)
    have h2 := Int.mul_nonneg (show 0 ≤ (price + 1) / 2 by omega) (show 0 ≤ max 0 (l - 8) by omega)
    omega
  unfold feeV
  exact Int.ediv_le_ediv (by omega) (Int.mul_le_mul_of_nonneg_left (by omega) hw)
theorem fee_more (p m l s d price : Int) : ∃ fee ok less one, feeT p m l s d price = .tuple #[.int .i64 fee, .bool ok] ∧ feeT p m l (wrap64 (s + 1)) d price = .tuple #[.int .i64 less, .bool one] ∧ (ok = true → one = true → less ≤ fee) := by
  by_cases h1 : accB p m l s d = true ∧ inB price 1 500 = true
  · by_cases h2 : accB p m l (wrap64 (s + 1)) d = true ∧ inB price 1 500 = true
    · refine ⟨_, _, _, _, by unfold feeT; rw [if_pos h1], by unfold feeT; rw [if_pos h2], fun _ _ => ?_⟩
      obtain ⟨_, _, _, _, l0, l1, s0, s1, _⟩ := acc_parts h1.1
      obtain ⟨p0, p1⟩ := inB_true h1.2
      rw [IntWalk.wrap64_in (s + 1) ⟨by omega, by omega⟩]
      exact fee_less l0 l1 s0 p0 p1
    · exact ⟨_, _, _, _, by unfold feeT; rw [if_pos h1], by unfold feeT; rw [if_neg h2], fun _ h => by cases h⟩
  · obtain ⟨less, one, h3⟩ : ∃ less one, feeT p m l (wrap64 (s + 1)) d price = .tuple #[.int .i64 less, .bool one] := by
      unfold feeT; split <;> exact ⟨_, _, rfl⟩
    exact ⟨_, _, _, _, by unfold feeT; rw [if_neg h1], h3, fun h => by cases h⟩
theorem feeT_ok {x : Acct} {price : Int} (h : x.ok' = true) (hp : inB price 1 500 = true) : feeT x.p x.m x.l x.s x.d price = .tuple #[.int .i64 (feeV x.l x.s price), .bool true] := by
  unfold feeT
  rw [if_pos ⟨h, hp⟩]
/-- Fees and payments of the accounts. -/
def ffS (price : Int) (xs : List Acct) : Int := feesS price xs + paidS xs
theorem ffS_at {price : Int} {xs : List Acct} {k : Nat} {x : Acct} (hx : xs[k]? = some x) : ffS price (xs.take (k + 1)) = ffS price (xs.take k) + feeV x.l x.s price + x.d := by
  unfold ffS
  rw [acctF_snoc hx, feesS_app, paidS_app]; simp [feesS, paidS]; omega
def rowS (rs : List (List Int)) : Int := match rs with
  | [] => 0
  | r :: rs => (r.sum - r.headD 0) + rowS rs
theorem rowS_app : ∀ (a b : List (List Int)), rowS (a ++ b) = rowS a + rowS b
  | [], b => by simp [rowS]
  | r :: a, b => by rw [List.cons_append, rowS, rowS, rowS_app a b]; omega
theorem rowS_at {rs : List (List Int)} {k : Nat} {r : List Int} (h : rs[k]? = some r) : rowS (rs.take (k + 1)) = rowS (rs.take k) + (r.sum - r.headD 0) := by
  rw [take_at h, rowS_app]; simp [rowS]
def monS (price : Int) (xs : List Acct) : List Int → Int
  | [] => 0
  | m :: ms => ffS price (monA m xs) + monS price xs ms
def hitS (y v : Int) : List Int → Int
  | [] => 0
  | m :: ms => (if y = m then v else 0) + hitS y v ms
theorem hitS_out {y v : Int} : ∀ {ms : List Int}, y ∉ ms → hitS y v ms = 0
  | [], _ => rfl
  | m :: ms, h => by
    rw [hitS, if_neg (show ¬ y = m from fun e => h (by rw [e]; exact List.mem_cons_self)), hitS_out (fun e => h (List.mem_cons_of_mem _ e))]; rfl
theorem hitS_in {y v : Int} : ∀ {ms : List Int}, Asc ms → y ∈ ms → hitS y v ms = v
  | m :: ms, ha, h => by
    unfold Asc at ha
    rw [List.pairwise_cons] at ha
    rw [hitS]
    by_cases e : y = m
    · rw [if_pos e, hitS_out (fun hh => by have := ha.1 y hh; omega)]; omega
    · rw [if_neg e, hitS_in (by unfold Asc; exact ha.2) (by rcases List.mem_cons.1 h with h | h; exact absurd h e; exact h)]; omega
theorem monS_nil (price : Int) : ∀ ms, monS price [] ms = 0
  | [] => rfl
  | m :: ms => by rw [monS, monS_nil price ms]; rfl
theorem monS_cons (price : Int) (x : Acct) (xs : List Acct) : ∀ ms, monS price (x :: xs) ms = hitS x.m (feeV x.l x.s price + x.d) ms + monS price xs ms
  | [] => rfl
  | m :: ms => by
    rw [monS, monS, hitS, monS_cons price x xs ms]
    by_cases e : x.m = m
    · rw [if_pos e]
      have : monA m (x :: xs) = x :: monA m xs := by simp [monA, e]
      rw [this]
      simp only [ffS, feesS, paidS]; omega
    · rw [if_neg e]
      have : monA m (x :: xs) = monA m xs := by simp [monA, e]
      rw [this]; omega
theorem monS_all {price : Int} : ∀ {xs : List Acct} {ms : List Int}, Asc ms → (∀ x ∈ xs, x.m ∈ ms) → monS price xs ms = ffS price xs
  | [], ms, _, _ => monS_nil price ms
  | x :: xs, ms, ha, h => by
    rw [monS_cons, hitS_in ha (h x List.mem_cons_self), monS_all ha (fun y hy => h y (List.mem_cons_of_mem _ hy))]
    simp only [ffS, feesS, paidS]; omega
theorem rowS_mon (price : Int) (xs : List Acct) : ∀ ms, rowS (ms.map (monRow price xs)) = monS price xs ms
  | [] => rfl
  | m :: ms => by
    rw [List.map_cons, rowS, monS, rowS_mon price xs ms]
    simp [monRow, ffS]; omega
theorem putV_keeps {m z : Int} {zs : List Int} (h : z ∈ zs) : z ∈ putV m zs := by
  unfold putV
  by_cases h1 : z < m
  · exact List.mem_append_left _ (List.mem_filter.2 ⟨h, by simp [h1]⟩)
  · by_cases h2 : m < z
    · exact List.mem_append_right _ (List.mem_cons_of_mem _ (List.mem_filter.2 ⟨h, by simp [h2]⟩))
    · obtain rfl : z = m := by omega
      simp
theorem putV_sub {m z : Int} {zs : List Int} (h : z ∈ putV m zs) : z = m ∨ z ∈ zs := by
  unfold putV at h
  rcases List.mem_append.1 h with h | h
  · exact .inr (List.mem_filter.1 h).1
  · rcases List.mem_cons.1 h with h | h
    · exact .inl h
    · exact .inr (List.mem_filter.1 h).1
theorem monthsF_keeps : ∀ (xs : List Acct) {ms : List Int} {y : Int}, y ∈ ms → y ∈ monthsF ms xs
  | [], _, _, h => h
  | x :: xs, _, _, h => monthsF_keeps xs (putV_keeps (m := x.m) h)
theorem monthsF_mem : ∀ {xs : List Acct} (ms : List Int), ∀ x ∈ xs, x.m ∈ monthsF ms xs
  | y :: xs, ms, x, h => by
    have e : monthsF ms (y :: xs) = monthsF (putV y.m ms) xs := rfl
    rw [e]
    rcases List.mem_cons.1 h with h | h
    · subst h; exact monthsF_keeps xs (putV_mem _ _)
    · exact monthsF_mem _ x h
theorem monthsF_sub : ∀ {xs : List Acct} {ms : List Int} {y : Int}, y ∈ monthsF ms xs → y ∈ ms ∨ ∃ x ∈ xs, x.m = y
  | [], _, _, h => .inl h
  | x :: xs, ms, y, h => by
    have e : monthsF ms (x :: xs) = monthsF (putV x.m ms) xs := rfl
    rw [e] at h
    rcases monthsF_sub h with h | ⟨z, hz, hy⟩
    · rcases putV_sub h with h | h
      · exact .inr ⟨x, List.mem_cons_self, h.symm⟩
      · exact .inl h
    · exact .inr ⟨z, List.mem_cons_of_mem _ hz, hy⟩
theorem monL_none {price : Int} {xs : List Acct} (h : monOk price xs = false) : monL price xs = [] := by unfold monL; rw [h]; simp
theorem monOk_parts {price : Int} {xs : List Acct} (h : monOk price xs = true) : AllOk xs ∧ xs.length ≤ 10 ∧ inB price 1 500 = true := by
  unfold monOk at h
  simp only [Bool.and_eq_true] at h
  exact ⟨(accs_ok h.1).1, (accs_ok h.1).2, h.2⟩
/-- The law's sum, in letters. -/
theorem months_letters {price : Int} {xs : List Acct} (h : monOk price xs = true) : ffS price xs - rowS (monL price xs) = 0 ∧ (∀ k, 0 ≤ ffS price (xs.take k) ∧ ffS price (xs.take k) ≤ 1097500) ∧
    (∀ k, 0 ≤ rowS ((monL price xs).take k) ∧ rowS ((monL price xs).take k) ≤ 20000000) ∧ ∀ r ∈ monL price xs, ∃ a b c : Int, r = [a, b, c] ∧ 0 ≤ a ∧ a ≤ 1200 ∧ 0 ≤ b ∧ b ≤ 97500 ∧ 0 ≤ c ∧ c ≤ 1000000 := by
  obtain ⟨hall, hl, hp⟩ := monOk_parts h
  have e : monL price xs = (monthsL xs).map (monRow price xs) := by unfold monL; rw [h]; simp
  rw [e]
  have hrow : ∀ r ∈ (monthsL xs).map (monRow price xs), ∃ a b c : Int, r = [a, b, c] ∧ 0 ≤ a ∧ a ≤ 1200 ∧ 0 ≤ b ∧ b ≤ 97500 ∧ 0 ≤ c ∧ c ≤ 1000000 := by
    intro r hr
    obtain ⟨m, hm, rfl⟩ := List.mem_map.1 hr
    have hb := mon_bd (m := m) hall hp hl xs.length
    rw [List.take_length] at hb
    rcases monthsF_sub hm with hm | ⟨x, hx, rfl⟩
    · cases hm
    · have hx' := acc_parts (hall x hx)
      exact ⟨_, _, _, rfl, by omega, by omega, by omega, by omega, by omega, by omega⟩
  have hbd : ∀ (rs : List (List Int)), (∀ r ∈ rs, ∃ a b c : Int, r = [a, b, c] ∧ 0 ≤ a ∧ a ≤ 1200 ∧ 0 ≤ b ∧ b ≤ 97500 ∧ 0 ≤ c ∧ c ≤ 1000000) → 0 ≤ rowS rs ∧ rowS rs ≤ 1097500 * (rs.length : Int) := by
    intro rs
    induction rs with
    | nil => intro _; simp [rowS]
    | cons r rs ih =>
      intro hr
      obtain ⟨i1, i2⟩ := ih (fun s hs => hr s (List.mem_cons_of_mem _ hs))
      obtain ⟨a, b, c, rfl, _, _, h3, h4, h5, h6⟩ := hr r List.mem_cons_self
      rw [rowS, List.length_cons]
      simp
      omega
  refine ⟨by rw [rowS_mon, monS_all (months_asc xs) (monthsF_mem [])]; omega, fun k => ?_, fun k => ?_, hrow⟩
  · have h1 := paidS_bd (hall.take k)
    have h2 := feesS_bd hp (hall.take k)
    have h3 : (xs.take k).length ≤ 10 := by rw [List.length_take]; omega
    unfold ffS
    omega
  · have h1 := hbd (((monthsL xs).map (monRow price xs)).take k) (fun r hr => hrow r (List.mem_of_mem_take hr))
    have h2 := months_len xs
    have h3 : (((monthsL xs).map (monRow price xs)).take k).length ≤ 10 := by rw [List.length_take, List.length_map]; omega
    omega
theorem months_rows (price : Int) (xs : List Acct) : (∀ k, 0 ≤ rowS ((monL price xs).take k) ∧ rowS ((monL price xs).take k) ≤ 20000000) ∧ ∀ r ∈ monL price xs, ∃ a b c : Int, r = [a, b, c] ∧ 0 ≤ a ∧ a ≤ 1200 ∧ 0 ≤ b ∧ b ≤ 97500 ∧ 0 ≤ c ∧ c ≤ 1000000 := by
  cases h : monOk price xs
  · rw [monL_none h]; simp [rowS]
  · exact (months_letters h).2.2
theorem balT_parts {pupil price : Int} {xs : List Acct} : ∃ r ok, balT pupil price xs = .tuple #[.int .i64 r, .bool ok] ∧ (ok = true → AllOk xs ∧ xs.length ≤ 10 ∧ inB price 1 500 = true ∧ r = balV pupil price xs) := by
  unfold balT
  split
  · rename_i h
    exact ⟨_, _, rfl, fun _ => ⟨(accs_ok h.1).1, (accs_ok h.1).2, h.2.1, rfl⟩⟩
  · exact ⟨_, _, rfl, fun h => by cases h⟩
end Go.Proofs.Ytbjmpllnkkfgfaa
