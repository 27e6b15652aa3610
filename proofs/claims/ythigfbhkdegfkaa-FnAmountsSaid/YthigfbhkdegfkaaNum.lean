/- The text of a number that is not negative. No condition. -/
import Derived.Test.YthigfbhkdegfkaaBase
import Derived.Test.YthigfbhkdegfkaaSlices
import Derived.Laws.IdiomStrings
import Derived.Laws.Concat
namespace Go.Proofs.Ythigfbhkdegfkaa
open Go.RowKit

def digC (n : Nat) : UInt8 := UInt8.ofNat (48 + n)
def numL (n : Nat) : List UInt8 := if n < 10 then [digC n] else numL (n / 10) ++ [digC (n % 10)]
theorem numL_lt {n : Nat} (h : n < 10) : numL n = [digC n] := by rw [numL, if_pos h]
theorem numL_ge {n : Nat} (h : ¬ n < 10) : numL n = numL (n / 10) ++ [digC (n % 10)] := by rw [numL, if_neg h]
theorem numL_len : ∀ (k n : Nat), n < 10 ^ (k + 1) → (numL n).length ≤ k + 1
  | 0, n, h => by rw [numL_lt (by simpa using h)]; simp
  | k + 1, n, h => by
    by_cases h10 : n < 10
    · rw [numL_lt h10]; simp
    · have := numL_len k (n / 10) (by rw [Nat.div_lt_iff_lt_mul (by omega)]; rw [Nat.pow_succ] at h; exact h)
      rw [numL_ge h10, List.length_append]
      simp only [List.length_cons, List.length_nil]
      omega
/-- One digit. -/
def digB (d : Int) : ByteArray := ⟨#[digC d.toNat]⟩
/-- The text of a number. -/
def numB (n : Int) : ByteArray := ⟨(numL n.toNat).toArray⟩
theorem digB_size (d : Int) : (digB d).size = 1 := rfl
theorem numB_lt {n : Int} (h : n < 10) : numB n = digB n := by
  unfold numB digB
  rw [numL_lt (by omega)]
theorem numB_ge {n : Int} (h : 10 ≤ n) : numB n = numB (n / 10) ++ digB (n % 10) := by
  unfold numB digB
  rw [numL_ge (by omega), show (#[digC (n % 10).toNat] : Array UInt8) = [digC (n % 10).toNat].toArray from rfl, ByteArray.mk_append_mk, show (n / 10).toNat = n.toNat / 10 from by omega, show (n % 10).toNat = n.toNat % 10 from by omega]
theorem numB_size {n : Int} (h : n ≤ 9999999999) : (numB n).size ≤ 10 := by
  unfold numB
  have := numL_len 9 n.toNat (by have : (10 : Nat) ^ (9 + 1) = 10000000000 := by decide
                                 omega)
  show (numL n.toNat).toArray.size ≤ 10
  simpa using this
theorem digits_at {d : Int} (h0 : 0 ≤ d) (h9 : d ≤ 9) : (ByteArray.mk #[48, 49, 50, 51, 52, 53, 54, 55, 56, 57]).extract d.toNat (d + 1).toNat = digB d := by
  obtain ⟨k, rfl⟩ := Int.eq_ofNat_of_zero_le h0
  have hk : k < 10 := by omega
  match k, hk with
  | 0, _ => rfl
  | 1, _ => rfl
  | 2, _ => rfl
  | 3, _ => rfl
  | 4, _ => rfl
  | 5, _ => rfl
  | 6, _ => rfl
  | 7, _ => rfl
  | 8, _ => rfl
  | 9, _ => rfl
  | k + 10, h => omega
theorem digC_nat {d : Int} (h0 : 0 ≤ d) (h9 : d ≤ 9) : ((digC d.toNat).toNat : Int) = 48 + d := by
  unfold digC
  rw [UInt8.toNat_ofNat']
  omega
theorem quiet_more {P : Program} {f : FuncId} {args : Array Value} {v : Value} (h : ∀ w, Calls P f args w fun e w' => e = .returned v ∧ ∃ m, w' = w.drewN m) (w : World) (n : Nat) :
    Calls P f args (w.drewN n) fun e w'' => e = .returned v ∧ ∃ m, w'' = w.drewN m :=
  (h (w.drewN n)).mono fun _ _ ⟨he, _, hm⟩ => ⟨he, _, hm.trans (World.drewN_drewN _ _ _)⟩
theorem digit_slice {d : Int} (h0 : 0 ≤ d) (h9 : d ≤ 9) (w : World) :
    (Instr.slice 9 (.string ⟨#[48, 49, 50, 51, 52, 53, 54, 55, 56, 57]⟩) (some (.int .i64 d)) (some (.int .i64 (d + 1))) none).run Try.prog w = .ok (.string (digB d)) w := by
  rw [← digits_at h0 h9]
  exact run_slice_string w _ _ _ _ _ _ Try.underlying9 h0 (by omega) (by show d + 1 ≤ 10; omega)
set_option maxHeartbeats 1000000 in
theorem l1Num_any : ∀ (k : Nat) (n : Int) (w : World), n.toNat ≤ k → 0 ≤ n → n ≤ 9999999999 →
    Calls Try.prog 62 #[.int .i64 n] w fun e w' => e = .returned (.string (numB n)) ∧ ∃ m, w' = w.drewN m := by
  intro k
  induction k with
  | zero =>
    intro n w hk h0 h1
    have h10 : n < 10 := by omega
    have hd := digit_slice h0 (show n ≤ 9 by omega)
    have HB := Lib.hid (numB_lt h10)
    go_enter Try.func62, Try.ntmps62
    go_wp2
    go_ret
    exact ⟨by rw [HB.out]; rfl, 0, rfl⟩
  | succ k ih =>
    intro n w hk h0 h1
    by_cases h10 : n < 10
    · have hd := digit_slice h0 (show n ≤ 9 by omega)
      have HB := Lib.hid (numB_lt h10)
      go_enter Try.func62, Try.ntmps62
      go_wp2
      go_ret
      exact ⟨by rw [HB.out]; rfl, 0, rfl⟩
    · have ih := fun w => ih (n / 10) w (by omega) (by omega) (by omega)
      have hd := digit_slice (show 0 ≤ n % 10 by omega) (show n % 10 ≤ 9 by omega)
      have HB := Lib.hid (numB_ge (show 10 ≤ n by omega))
      have hs := numB_size (show n / 10 ≤ 9999999999 by omega)
      have hg := digB_size (n % 10)
      have m0 : 0 ≤ n % 10 := by omega
      have m1 : n % 10 ≤ 9 := by omega
      have wq : IntKind.i64.wrap (n.tdiv 10) = n / 10 := wquo h0 (by omega) (by omega)
      have wr : n.tmod 10 = n % 10 := wrem h0
      have w1 : IntKind.i64.wrap (n % 10 + 1) = n % 10 + 1 := IntWalk.i64_in _ ⟨by omega, by omega⟩
      generalize numB (n / 10) = s at ih HB hs
      generalize digB (n % 10) = g at hd HB hg
      go_enter Try.func62, Try.ntmps62
      go_wp2
      go_quiet ((go_at_call 62; exact quiet_more ih _ _))
      go_wp2
      go_ret
      exact ⟨by rw [HB.out]; rfl, _, rfl⟩
set_option maxHeartbeats 1000000 in
theorem text_any (n : Int) (w : World) (h0 : 0 ≤ n) (h1 : n ≤ 9999999999) :
    Calls Try.prog 60 #[.int .i64 n] w fun e w' => e = .returned (.string (numB n)) ∧ Below w.heap.size w w' := by
  have hsz := numB_size h1
  go_enter Try.func60, Try.ntmps60
  go_wp2
  go_loopw [0, 3] (fun a t wr => ∃ (k : Int) (s : ByteArray), a = .int .i64 k ∧ 0 ≤ k ∧ k ≤ n ∧ t = .string s ∧ numB k ++ s = numB n ∧ Below w.heap.size w wr) (fun a _ _ => (intOf a).toNat)
  case atStart => exact ⟨n, ⟨#[]⟩, rfl, h0, by omega, rfl, by apply ByteArray.ext; simp [ByteArray.data_append], Below.refl _ _⟩
  case round =>
    obtain ⟨k, s, rfl, k0, k1, rfl, hs, hb⟩ := hrel
    have hss : s.size ≤ 10 := by rw [← hs, ByteArray.size_append] at hsz; omega
    have HS := Lib.hid hs
    have HB := Lib.hid hb
    clear hs hb hsz
    have m0 : 0 ≤ k % 10 := by omega
    have m1 : k % 10 ≤ 9 := by omega
    have hg := digB_size (k % 10)
    have kc : (convert 39 9 (.slice (some ⟨wr.heap.size, 0, none⟩) 1 1)).run Try.prog (wr.alloc (.cells #[.int .u8 (48 + k % 10)] 5)) = .ok (.string (digB (k % 10))) (wr.alloc (.cells #[.int .u8 (48 + k % 10)] 5)) :=
      run_convert_bytes_back (wr.alloc (.cells #[.int .u8 (48 + k % 10)] 5)) 39 9 5 ⟨wr.heap.size, 0, none⟩ 1 [digC (k % 10).toNat] Try.underlying39 Try.underlying5 Try.underlying9 (fun j hj => by
        obtain rfl : j = 0 := by simpa using hj
        rw [Addr.add_lit, Nat.add_zero, World.cell?_alloc_new]
        show some (Value.int .u8 (48 + k % 10)) = some (Value.int .u8 ((digC (k % 10).toNat).toNat : Int))
        rw [digC_nat m0 m1])
    by_cases h10 : k < 10
    · have HN := Lib.hid (show numB k = digB (k % 10) by rw [numB_lt h10, Int.emod_eq_of_lt k0 h10])
      generalize digB (k % 10) = g at kc hg HN
      go_wp2
      go_ret
      exact ⟨by rw [← HS.out, HN.out]; rfl, ext_alloc HB.out _⟩
    · have HN := Lib.hid (numB_ge (show 10 ≤ k by omega))
      generalize digB (k % 10) = g at kc hg HN
      go_wp2
      go_roundw
      case rel => exact ⟨k / 10, _, rfl, by omega, by omega, rfl, by rw [← HS.out, HN.out, ByteArray.append_assoc], ext_alloc HB.out _⟩
      case measure => simp [intOf]; omega
end Go.Proofs.Ythigfbhkdegfkaa
