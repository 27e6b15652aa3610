/- The digits of a number (to base 10, to base 100), from the left: plain law and walks. No condition. -/
import Derived.Test.YtiephmkokkjbaaaAppend
namespace Go.Proofs.Ytiephmkokkjbaaa
open Go.RowKit

def dg (b : Nat) : Nat → Nat → List Int
  | 0, _ => []
  | f + 1, n => if n = 0 then [] else dg b f (n / b) ++ [((n % b : Nat) : Int)]
/-- The digits of n to base b. -/
def digs (b n : Nat) : List Int := dg b n n
theorem dg_zero (b f : Nat) : dg b f 0 = [] := by cases f <;> simp [dg]
theorem dg_fuel (b : Nat) (hb : 2 ≤ b) : ∀ f n, n ≤ f → dg b f n = dg b n n := by
  intro f
  induction f using Nat.strongRecOn with
  | ind f ih =>
    intro n hn
    rcases Nat.eq_zero_or_pos n with rfl | hp
    · rw [dg_zero, dg_zero]
    · obtain ⟨f', rfl⟩ : ∃ f', f = f' + 1 := ⟨f - 1, by omega⟩
      obtain ⟨n', rfl⟩ : ∃ n', n = n' + 1 := ⟨n - 1, by omega⟩
      have hd : (n' + 1) / b ≤ n' := by
        have := Nat.div_lt_self (show 0 < n' + 1 by omega) (show 1 < b by omega)
        omega
      rw [dg, dg, if_neg (by omega), if_neg (by omega), ih f' (by omega) _ (by omega), ← ih n' (by omega) _ hd]
theorem digs_zero (b : Nat) : digs b 0 = [] := rfl
theorem digs_step {b n : Nat} (hb : 2 ≤ b) (hn : 0 < n) : digs b n = digs b (n / b) ++ [((n % b : Nat) : Int)] := by
  obtain ⟨n', rfl⟩ : ∃ n', n = n' + 1 := ⟨n - 1, by omega⟩
  have hd : (n' + 1) / b ≤ n' := by
    have := Nat.div_lt_self (show 0 < n' + 1 by omega) (show 1 < b by omega)
    omega
  unfold digs
  rw [dg, if_neg (by omega), dg_fuel b hb n' _ hd]
theorem digs_len {b : Nat} (hb : 2 ≤ b) : ∀ k n, n < b ^ k → (digs b n).length ≤ k := by
  intro k
  induction k with
  | zero => intro n hn; have : n = 0 := by simpa using hn
            subst this; simp [digs_zero]
  | succ k ih =>
    intro n hn
    rcases Nat.eq_zero_or_pos n with rfl | hp
    · simp [digs_zero]
    · rw [digs_step hb hp]
      have : n / b < b ^ k := by rw [Nat.div_lt_iff_lt_mul (by omega), ← Nat.pow_succ]; exact hn
      have := ih _ this
      simp; omega
theorem digs_bd {b : Nat} (hb : 2 ≤ b) : ∀ n, ∀ d ∈ digs b n, 0 ≤ d ∧ d < b := by
  intro n
  induction n using Nat.strongRecOn with
  | ind n ih =>
    rcases Nat.eq_zero_or_pos n with rfl | hp
    · simp [digs_zero]
    · rw [digs_step hb hp]
      intro d hd
      rcases List.mem_append.1 hd with hd | hd
      · exact ih _ (Nat.div_lt_self hp (by omega)) d hd
      · simp at hd
        subst hd
        have := Nat.mod_lt n (show 0 < b by omega)
        omega
theorem digs_cons {b n m : Nat} {S : List Int} (hb : 2 ≤ b) (h : digs b n = digs b m ++ S) (hm : 0 < m) : digs b n = digs b (m / b) ++ ([((m : Int) % (b : Int))] ++ S) := by
  rw [h, digs_step hb hm, List.append_assoc]; simp

set_option maxHeartbeats 1000000 in
theorem pairsOf_any (n : Nat) (hn : n ≤ 1000000000000000000) (w : World) :
    Calls Try.prog 57 #[.int .i64 (n : Int)] w (GivesS 3 1 (digs 100 n) w) := by
  have h20 := digs_len (b := 100) (by omega) 10 n (by omega)
  have H20 := Lib.hid h20
  clear h20
  go_enter Try.func57, Try.ntmps57
  go_wp2
  go_loopw [0, 3] (fun t v wr => ∃ (m k c : Nat) (A : Option Addr) (S : List Int), t = .int .i64 (m : Int) ∧ m ≤ 1000000000000000000 ∧ v = .slice A k c ∧ digs 100 n = digs 100 m ++ S ∧ Acc w wr 3 1 A k c S) (fun t _ _ => (intOf t).toNat)
  case atStart => exact ⟨n, _, _, _, [], rfl, hn, rfl, by simp, Acc.nil (Below.refl _ _)⟩
  case round =>
    obtain ⟨m, k, c, A, S, rfl, hm, rfl, hS, hacc⟩ := hrel
    have hk : k ≤ 19 := by
      have h1 := hacc.len
      have h2 := H20.out
      rw [hS] at h2
      simp at h2
      omega
    have HS := Lib.hid hS
    clear hS
    by_cases hp : 0 < m
    · have hp' : (0 : Int) < (m : Int) := by omega
      go_wp2_with (at_builtin; refine appI rfl _ _ rfl rfl (Acc.one hacc.ext) rfl (hacc.reads.alloc (Nat.le_refl _) _) (by omega) ?_; intro A' c' w' hacc' _)
      go_roundw
      case rel => exact ⟨m / 100, _, _, _, _, by simp, by omega, rfl, digs_cons (by omega) HS.out hp, hacc'⟩
      case measure => simp [intOf]; omega
    · have h0 : m = 0 := by omega
      subst h0
      go_wp2
      go_ret
      exact ⟨A, k, c, rfl, by rw [HS.out, digs_zero]; exact hacc⟩
set_option maxHeartbeats 1000000 in
theorem l12Pairs_any (n : Nat) (hn : n ≤ 1000000000000000000) (w : World) :
    Calls Try.prog 56 #[.int .i64 (n : Int)] w (GivesS 3 1 (digs 100 n) w) := by
  have h20 := digs_len (b := 100) (by omega) 10 n (by omega)
  have H20 := Lib.hid h20
  clear h20
  go_enter Try.func56, Try.ntmps56
  go_wp2
  go_loopw [0, 3] (fun t v wr => ∃ (m k c : Nat) (A : Option Addr) (S : List Int), t = .int .i64 (m : Int) ∧ m ≤ 1000000000000000000 ∧ v = .slice A k c ∧ digs 100 n = digs 100 m ++ S ∧ Acc w wr 3 1 A k c S) (fun t _ _ => (intOf t).toNat)
  case atStart => exact ⟨n, _, _, _, [], rfl, hn, rfl, by simp, Acc.empty (Below.refl _ _)⟩
  case round =>
    obtain ⟨m, k, c, A, S, rfl, hm, rfl, hS, hacc⟩ := hrel
    have hk : k ≤ 19 := by
      have h1 := hacc.len
      have h2 := H20.out
      rw [hS] at h2
      simp at h2
      omega
    have HS := Lib.hid hS
    clear hS
    by_cases hp : 0 < m
    · have hp' : (0 : Int) < (m : Int) := by omega
      go_wp2_with (at_builtin; refine appI rfl _ _ rfl rfl (Acc.one hacc.ext) rfl (hacc.reads.alloc (Nat.le_refl _) _) (by omega) ?_; intro A' c' w' hacc' _)
      go_roundw
      case rel => exact ⟨m / 100, _, _, _, _, by simp, by omega, rfl, digs_cons (by omega) HS.out hp, hacc'⟩
      case measure => simp [intOf]; omega
    · have h0 : m = 0 := by omega
      subst h0
      go_wp2
      go_ret
      exact ⟨A, k, c, rfl, by rw [HS.out, digs_zero]; exact hacc⟩
end Go.Proofs.Ytiephmkokkjbaaa
