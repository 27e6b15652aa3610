/- The laws' own tests: too long a code, rows of numbers, tables, members, sums, lists of structs. No condition. -/
import Derived.Test.YtbjmpllnkkfgfaaSS
import Derived.Test.YtbjmpllnkkfgfaaCurL
import Derived.Test.YtbjmpllnkkfgfaaAccS
namespace Go.Proofs.Ytbjmpllnkkfgfaa
open Go.RowKit

def bigR (n : Nat) : Bool := decide ((65536 : Int) < n)
set_option maxHeartbeats 400000 in
theorem rBig_any (A : Option Addr) (n c : Nat) (w : World) :
    Calls Try.prog 47 #[.slice A n c] w fun e w' => e = .returned (.bool (bigR n)) ∧ w = w' := by
  go_enter Try.func47, Try.ntmps47
  go_wp2
  go_ret
  exact ⟨rfl, rfl⟩
set_option maxHeartbeats 1000000 in
theorem rInts_any (A1 A2 : Option Addr) (n1 n2 c1 c2 B1 B2 : Nat) (xs ys : List Int) (w : World) (h1 : Reads w B1 1 A1 n1 (xs.map (Value.int .i64))) (h2 : Reads w B2 1 A2 n2 (ys.map (Value.int .i64))) (hn1 : n1 ≤ maxLen) (hn2 : n2 ≤ maxLen) :
    Calls Try.prog 49 #[.slice A1 n1 c1, .slice A2 n2 c2] w fun e w' => e = .returned (.bool (eqB xs ys)) ∧ ∃ m, w' = w.drewN m := by
  unfold maxLen at hn1 hn2
  have l1 := h1.len
  have l2 := h2.len
  have H1 := Lib.hid h1
  have H2 := Lib.hid h2
  have L1 := Lib.hid l1
  have L2 := Lib.hid l2
  clear h1 h2 l1 l2
  by_cases hne : n1 = n2
  · subst hne
    go_enter Try.func49, Try.ntmps49
    go_wp2
    go_loopw [5] (fun i wr => ∃ k m : Nat, i = .int .i64 k ∧ k ≤ n1 ∧ xs.take k = ys.take k ∧ wr = w.drewN m) (fun i _ => n1 - (intOf i).toNat)
    case atStart => exact ⟨0, 0, rfl, by omega, rfl, rfl⟩
    case round =>
      obtain ⟨k, m, rfl, hk, hh, rfl⟩ := hrel
      have HH := Lib.hid hh
      clear hh
      by_cases hlt : k < n1
      · obtain ⟨b, o, x, rfl, hx, hcell⟩ := H1.out.int hlt
        obtain ⟨b', o', y, rfl, hy, hcell'⟩ := H2.out.int hlt
        have HX := Lib.hid hx
        have HY := Lib.hid hy
        clear hx hy
        have hlt' : (k : Int) < n1 := by omega
        have hk0 : (0 : Int) ≤ k := by omega
        cases he : (x == y)
        · go_wp2
          go_quiet (fail)
          go_wp2
          go_ret
          exact ⟨by rw [eq_miss HX.out HY.out he]; rfl, _, World.drewN_drewN _ _ _⟩
        · go_wp2
          go_quiet (fail)
          go_wp2
          go_roundw
          case rel => exact ⟨k + 1, _, by go_num, by omega, eq_step HX.out HY.out HH.out he, rfl⟩
          case measure => simp [intOf]; omega
      · go_wp2
        go_ret
        have hf : eqB xs ys = true := by
          have := HH.out
          rw [List.take_of_length_le (by have := L1.out; omega), List.take_of_length_le (by have := L2.out; omega)] at this
          rw [this]; exact eqB_self _
        exact ⟨by rw [hf]; rfl, _, rfl⟩
  · have hne' : ((n1 : Int) == (n2 : Int)) = false := by simp; omega
    go_enter Try.func49, Try.ntmps49
    go_wp2
    go_ret
    have hf : eqB xs ys = false := by
      unfold eqB
      rw [beq_eq_false_iff_ne]
      intro h
      have := L1.out
      have := L2.out
      rw [h] at *
      omega
    exact ⟨by rw [hf]; rfl, 0, rfl⟩
set_option maxHeartbeats 1000000 in
theorem rTable_any (A1 A2 : Option Addr) (n1 n2 c1 c2 B1 B2 : Nat) (hs1 hs2 : List Hd) (xs ys : List (List Int)) (w : World) (h1 : ReadsN w B1 A1 n1 hs1 xs) (h2 : ReadsN w B2 A2 n2 hs2 ys) (hn1 : n1 ≤ maxLen) (hn2 : n2 ≤ maxLen) :
    Calls Try.prog 58 #[.slice A1 n1 c1, .slice A2 n2 c2] w fun e w' => e = .returned (.bool (decide (xs = ys))) ∧ ∃ m, w' = w.drewN m := by
  unfold maxLen at hn1 hn2
  have l1 := h1.rlen
  have l2 := h2.rlen
  have H1 := Lib.hid h1
  have H2 := Lib.hid h2
  have L1 := Lib.hid l1
  have L2 := Lib.hid l2
  clear h1 h2 l1 l2
  by_cases hne : n1 = n2
  · subst hne
    go_enter Try.func58, Try.ntmps58
    go_wp2
    go_loopw [5] (fun i wr => ∃ k m : Nat, i = .int .i64 k ∧ k ≤ n1 ∧ xs.take k = ys.take k ∧ wr = w.drewN m) (fun i _ => n1 - (intOf i).toNat)
    case atStart => exact ⟨0, 0, rfl, by omega, rfl, rfl⟩
    case round =>
      obtain ⟨k, m, rfl, hk, hh, hwm⟩ := hrel
      have HH := Lib.hid hh
      have HM := Lib.hid hwm
      have G1 := Lib.hid (show ReadsN wr B1 A1 n1 hs1 xs by rw [hwm]; exact H1.out.drewN m)
      have G2 := Lib.hid (show ReadsN wr B2 A2 n1 hs2 ys by rw [hwm]; exact H2.out.drewN m)
      clear hh hwm
      by_cases hlt : k < n1
      · obtain ⟨b, o, ra, rn, rc, x, rfl, hx, hcell, hrx, hmx, _⟩ := G1.out.at hlt
        obtain ⟨b', o', ra', rn', rc', y, rfl, hy, hcell', hry, hmy, _⟩ := G2.out.at hlt
        have HX := Lib.hid hx
        have HY := Lib.hid hy
        have HQ := Lib.hid (fun n => rInts_any ra ra' rn rn' rc rc' B1 B2 x y (wr.drewN n) (hrx.drewN n) (hry.drewN n) hmx hmy)
        clear hx hy hrx hry hmx hmy
        have hlt' : (k : Int) < n1 := by omega
        have hk0 : (0 : Int) ≤ k := by omega
        cases he : eqB x y
        · rw [he] at HQ
          go_wp2
          go_quiet ((go_at_call 49; exact quiet_n (HQ.out _)))
          go_wp2
          go_ret
          exact ⟨by rw [eqSS_miss HX.out HY.out he]; rfl, _, by rw [HM.out]; exact World.drewN_drewN _ _ _⟩
        · rw [he] at HQ
          go_wp2
          go_quiet ((go_at_call 49; exact quiet_n (HQ.out _)))
          go_wp2
          go_roundw
          case rel => exact ⟨k + 1, _, by go_num, by omega, eqSS_step HX.out HY.out HH.out he, by rw [HM.out]; exact World.drewN_drewN _ _ _⟩
          case measure => simp [intOf]; omega
      · go_wp2
        go_ret
        have hf : decide (xs = ys) = true := by
          have := HH.out
          rw [List.take_of_length_le (by have := L1.out; omega), List.take_of_length_le (by have := L2.out; omega)] at this
          rw [this]; simp
        exact ⟨by rw [hf]; rfl, _, HM.out⟩
  · have hne' : ((n1 : Int) == (n2 : Int)) = false := by simp; omega
    go_enter Try.func58, Try.ntmps58
    go_wp2
    go_ret
    have hf : decide (xs = ys) = false := by
      rw [decide_eq_false_iff_not]
      intro h
      have := L1.out
      have := L2.out
      rw [h] at *
      omega
    exact ⟨by rw [hf]; rfl, 0, rfl⟩
set_option maxHeartbeats 400000 in
theorem rHas_any (A : Option Addr) (n c B : Nat) (zs : List Int) (m : Int) (w : World) (hr : Reads w B 1 A n (zs.map (Value.int .i64))) (hn : n ≤ maxLen) :
    Calls Try.prog 50 #[.slice A n c, .int .i64 m] w fun e w' => e = .returned (.bool (hasB zs m)) ∧ w = w' := by
  unfold maxLen at hn
  have hl := hr.len
  have HR := Lib.hid hr
  have HL := Lib.hid hl
  clear hr hl
  go_enter Try.func50, Try.ntmps50
  go_wp2
  go_loop [5] (fun i => ∃ k : Nat, i = .int .i64 k ∧ k ≤ n ∧ hasB (zs.take k) m = false) (fun i => n - (intOf i).toNat)
  case atStart => exact ⟨0, rfl, by omega, rfl⟩
  case round =>
    obtain ⟨k, rfl, hk, hh⟩ := hrel
    have HH := Lib.hid hh
    clear hh
    by_cases hlt : k < n
    · obtain ⟨b, o, z, rfl, hz, hcell⟩ := HR.out.int hlt
      have HZ := Lib.hid hz
      clear hz
      go_wp2
      · have he : (z == m) = true := by assumption
        go_ret
        exact ⟨by rw [hasB_hit HZ.out he]; rfl, rfl⟩
      · have he : (z == m) = false := by assumption
        go_round
        case rel => exact ⟨k + 1, by go_num, by omega, hasB_step HZ.out HH.out he⟩
        case measure => simp [intOf]; omega
    · go_wp2
      go_ret
      have hf : hasB zs m = false := by rw [← HH.out, List.take_of_length_le (by have := HL.out; omega)]
      exact ⟨by rw [hf]; rfl, rfl⟩
theorem sum_at {zs : List Int} {k : Nat} {z : Int} (h : zs[k]? = some z) : (zs.take (k + 1)).sum = (zs.take k).sum + z := by
  rw [take_at h, List.sum_append]; simp
set_option maxHeartbeats 1000000 in
theorem rSum_any (A : Option Addr) (n c B : Nat) (zs : List Int) (w : World) (h : Reads w B 1 A n (zs.map (Value.int .i64))) (hn : n ≤ 1000000) (hb : ∀ k, 0 ≤ (zs.take k).sum ∧ (zs.take k).sum ≤ 1000000000000000) :
    Calls Try.prog 59 #[.slice A n c] w fun e w' => e = .returned (.int .i64 zs.sum) ∧ w = w' := by
  have hl := h.len
  have H := Lib.hid h
  have HL := Lib.hid hl
  have HB := Lib.hid hb
  clear h hl hb
  go_enter Try.func59, Try.ntmps59
  go_wp2
  go_loop [3, 4] (fun t i => ∃ k : Nat, i = .int .i64 k ∧ k ≤ n ∧ t = .int .i64 (zs.take k).sum) (fun _ i => n - (intOf i).toNat)
  case atStart => exact ⟨0, rfl, by omega, rfl⟩
  case round =>
    obtain ⟨k, rfl, hk, rfl⟩ := hrel
    obtain ⟨b0, b1⟩ := HB.out k
    obtain ⟨d0, d1⟩ := HB.out (k + 1)
    have k0 : (0 : Int) ≤ k := by omega
    by_cases hlt : k < n
    · obtain ⟨b, o, z, rfl, hz, hcell⟩ := H.out.int hlt
      have HN := Lib.hid (sum_at hz)
      have k1 : (k : Int) < n := by omega
      have z0 : -1000000000000000 ≤ z := by have := HN.out; omega
      have z1 : z ≤ 1000000000000000 := by have := HN.out; omega
      clear hz d0 d1
      generalize (zs.take k).sum = s at *
      go_wp2
      go_round
      case rel => exact ⟨k + 1, by go_num, by omega, by rw [HN.out]⟩
      case measure => simp [intOf]; omega
    · have hk' : zs.take k = zs := List.take_of_length_le (by have := HL.out; omega)
      rw [hk']
      go_wp2
      go_ret
      exact ⟨rfl, rfl⟩
set_option maxRecDepth 100000 in
set_option maxHeartbeats 2000000 in
theorem rAccounts_same (A1 A2 : Option Addr) (n c1 c2 B1 B2 : Nat) (xs : List Acct) (w : World) (h1 : Reads w B1 5 A1 n ((acctF xs).map (Value.int .i64))) (h2 : Reads w B2 5 A2 n ((acctF xs).map (Value.int .i64))) (hn1 : n ≤ 1048577) :
    Calls Try.prog 53 #[.slice A1 n c1, .slice A2 n c2] w fun e w' => e = .returned (.bool true) ∧ ∃ m, w' = w.drewN m := by
  have H1 := Lib.hid h1
  have H2 := Lib.hid h2
  clear h1 h2
  go_enter Try.func53, Try.ntmps53
  go_wp2_with fail
  go_loopw [5] (fun i wr => ∃ j m : Nat, i = .int .i64 j ∧ j ≤ n ∧ wr = w.drewN m) (fun i _ => n - (intOf i).toNat)
  case atStart => exact ⟨0, 0, rfl, by omega, rfl⟩
  case round =>
    obtain ⟨j, m, rfl, hj, rfl⟩ := hrel
    by_cases hlt : j < n
    · have hj1 : (j : Int) < n := by omega
      have hj0 : (0 : Int) ≤ j := by omega
      obtain ⟨b, o, x, hAx, hx, hc0, hc1, hc2, hc3, hc4⟩ := H1.out.acct hlt
      obtain ⟨b', o', y, hAy, hy, hd0, hd1, hd2, hd3, hd4⟩ := H2.out.acct hlt
      rw [hx] at hy
      injection hy with hy
      subst hy hAx hAy
      clear hx
      go_wp2_with fail
      go_quiet (fail)
      go_wp2_with fail
      go_roundw
      case rel => exact ⟨j + 1, _, by go_num, by omega, rfl⟩
      case measure => simp [intOf]; omega
    · go_wp2_with fail
      go_ret
      exact ⟨rfl, _, rfl⟩
end Go.Proofs.Ytbjmpllnkkfgfaa
