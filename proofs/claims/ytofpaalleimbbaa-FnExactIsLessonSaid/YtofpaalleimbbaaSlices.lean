/- Slices that read as lists: a predicate and its small laws; membership. No condition. -/
import Derived.Test.YtofpaalleimbbaaBase
import Derived.Deep.AppendLies
import Derived.Deep.Draws
import Derived.Lib.Hide
namespace Go.Proofs.Ytofpaalleimbbaa
open Go.RowKit

theorem block_of_add (a : Addr) (n : Nat) : (a.add n).block = a.block := by unfold Addr.add; split <;> rfl
theorem add_of_add (a : Addr) (i j : Nat) : (a.add i).add j = a.add (i + j) := by
  unfold Addr.add
  by_cases hi : i = 0 <;> by_cases hj : j = 0 <;> simp [hi, hj, Nat.add_assoc]

/-- The slice value of n elements at A holds the cells xs, below block B. -/
def Reads (w : World) (B size : Nat) (A : Option Addr) (n : Nat) (xs : List Value) : Prop :=
  xs.length = n * size ∧ (0 < n → ∃ ad, A = some ad ∧ ad.block < B ∧ ∀ j u, xs[j]? = some u → w.cell? (ad.add j) = some u)

section
variable {w w' : World} {B B' size n : Nat} {A : Option Addr} {xs : List Value}
theorem Reads.none_ : Reads w B size A 0 [] := ⟨by simp, fun h => absurd h (by omega)⟩
theorem Reads.keep (h : Reads w B size A n xs) (hk : ∀ p : Addr, p.block < B → w'.cell? p = w.cell? p) : Reads w' B size A n xs :=
  ⟨h.1, fun hn => by
    obtain ⟨ad, e, hb, hc⟩ := h.2 hn
    exact ⟨ad, e, hb, fun j u hu => (hk _ (by rw [block_of_add]; exact hb)).trans (hc j u hu)⟩⟩
theorem Reads.more (h : Reads w B size A n xs) (hB : B ≤ B') : Reads w B' size A n xs :=
  ⟨h.1, fun hn => by
    obtain ⟨ad, e, hb, hc⟩ := h.2 hn
    exact ⟨ad, e, by omega, hc⟩⟩
theorem Reads.below (h : Reads w B size A n xs) (hb : Below B w w') : Reads w' B size A n xs := h.keep fun _ hp => hb.cell hp
theorem Reads.drew (h : Reads w B size A n xs) : Reads w.drew B size A n xs := h
theorem Reads.drewN (h : Reads w B size A n xs) (k : Nat) : Reads (w.drewN k) B size A n xs := h
theorem Reads.alloc (h : Reads w B size A n xs) (hB : B ≤ w.heap.size) (o : Obj) : Reads (w.alloc o) B size A n xs := h.keep fun p hp => World.cell?_alloc_lt w o p (by omega)
theorem Reads.setCell (h : Reads w B size A n xs) {p : Addr} (hB : B ≤ p.block) (u : Value) : Reads (w.setCell p u) B size A n xs :=
  h.keep fun q hq => World.cell?_setCell_other w p q u (fun e => by subst e; omega)
theorem Reads.cut (h : Reads w B size A n xs) {k cap : Nat} (hk : k ≤ n) (hc : n ≤ cap) :
    Reads w B size (if cap = k then A else A.map (·.add (k * size))) (n - k) (xs.drop (k * size)) := by
  refine ⟨by rw [List.length_drop, h.1, Nat.sub_mul], fun hn => ?_⟩
  obtain ⟨ad, rfl, hb, hcell⟩ := h.2 (by omega)
  rw [if_neg (by omega)]
  refine ⟨ad.add (k * size), rfl, by rw [block_of_add]; exact hb, fun j u hu => ?_⟩
  rw [add_of_add]
  exact hcell _ u (by rw [← hu, List.getElem?_drop])
theorem Reads.of_own {base : Nat} {e : TypeId} {c : Nat} (h : w.ownsRow base e size (.slice A n c) n xs) : Reads w w.heap.size size A n xs := by
  refine ⟨h.1, fun hn => ?_⟩
  obtain ⟨g, cap, hv, _, hlt⟩ := h.form hn
  have hA : A = some ⟨g, 0, none⟩ := by injection hv
  subst hA
  exact ⟨_, rfl, hlt, h.cells (g := g) rfl⟩
/-- A row of numbers: its length. -/
theorem Reads.len {zs : List Int} (h : Reads w B 1 A n (zs.map (Value.int .i64))) : zs.length = n := by simpa using h.1
/-- The cell of number k. -/
theorem Reads.int {zs : List Int} (h : Reads w B 1 A n (zs.map (Value.int .i64))) {k : Nat} (hk : k < n) :
    ∃ b o s z, A = some ⟨b, o, s⟩ ∧ zs[k]? = some z ∧ w.cell? ((⟨b, o, s⟩ : Addr).add k) = some (.int .i64 z) := by
  obtain ⟨ad, e, _, hc⟩ := h.2 (by omega)
  have hl := h.len
  obtain ⟨b, o, s⟩ := ad
  have hz : zs[k]? = some (zs[k]'(by omega)) := List.getElem?_eq_getElem (by omega)
  exact ⟨b, o, s, _, e, hz, hc k _ (by simp [hz])⟩
end
theorem take_snoc {α : Type} (l : List α) (k : Nat) (h : k < l.length) : l.take (k + 1) = l.take k ++ [l[k]] := by
  rw [List.take_succ_eq_append_getElem h]
theorem take_at {α : Type} {l : List α} {k : Nat} {z : α} (h : l[k]? = some z) : l.take (k + 1) = l.take k ++ [z] := by
  obtain ⟨hk, e⟩ := List.getElem?_eq_some_iff.1 h
  rw [take_snoc l k hk, e]

/-- Is n in the list? -/
def hasB (zs : List Int) (n : Int) : Bool := zs.contains n
theorem hasB_step {zs : List Int} {k : Nat} {z m : Int} (hz : zs[k]? = some z) (h : hasB (zs.take k) m = false) (h2 : (z == m) = false) : hasB (zs.take (k + 1)) m = false := by
  rw [take_at hz]
  unfold hasB at *
  simp at h h2 ⊢
  exact ⟨h, fun e => h2 e.symm⟩
theorem hasB_hit {zs : List Int} {k : Nat} {z m : Int} (hz : zs[k]? = some z) (h2 : (z == m) = true) : hasB zs m = true := by
  obtain ⟨hk, e⟩ := List.getElem?_eq_some_iff.1 hz
  simp at h2
  unfold hasB
  simp [← h2, ← e]

set_option maxHeartbeats 400000 in
theorem has_any (A : Option Addr) (n c B : Nat) (zs : List Int) (m : Int) (w : World) (hr : Reads w B 1 A n (zs.map (Value.int .i64))) (hn : n ≤ maxLen) :
    Calls Try.prog 43 #[.slice A n c, .int .i64 m] w fun e w' => e = .returned (.bool (hasB zs m)) ∧ w = w' := by
  unfold maxLen at hn
  have hl := hr.len
  have HR := Lib.hid hr
  have HL := Lib.hid hl
  clear hr hl
  go_enter Try.func43, Try.ntmps43
  go_wp2
  go_loop [9] (fun i => ∃ k : Nat, i = .int .i64 k ∧ k ≤ n ∧ hasB (zs.take k) m = false) (fun i => n - (intOf i).toNat)
  case atStart => exact ⟨0, rfl, by omega, rfl⟩
  case round =>
    obtain ⟨k, rfl, hk, hh⟩ := hrel
    have HH := Lib.hid hh
    clear hh
    by_cases hlt : k < n
    · obtain ⟨b, o, s, z, rfl, hz, hcell⟩ := HR.out.int hlt
      have HZ := Lib.hid hz
      clear hz
      go_wp2
      · have he : (z == m) = true := by assumption
        go_ret
        exact ⟨by rw [hasB_hit HZ.out he]; rfl, rfl⟩
      · have he : (z == m) = false := by assumption
        go_round
        case rel => exact ⟨k + 1, by go_num, by omega, hasB_step HZ.out HH.out he⟩
        case measure => simp [intOf]; omega
    · go_wp2
      go_ret
      have hf : hasB zs m = false := by rw [← HH.out, List.take_of_length_le (by have := HL.out; omega)]
      exact ⟨by rw [hf]; rfl, rfl⟩
set_option maxHeartbeats 400000 in
theorem l1Has_any (A : Option Addr) (n c B : Nat) (zs : List Int) (m : Int) (w : World) (hr : Reads w B 1 A n (zs.map (Value.int .i64))) (hn : n ≤ maxLen) :
    Calls Try.prog 44 #[.slice A n c, .int .i64 m] w fun e w' => e = .returned (.bool (hasB zs m)) ∧ w = w' := by
  unfold maxLen at hn
  have hl := hr.len
  have HR := Lib.hid hr
  have HL := Lib.hid hl
  clear hr hl
  go_enter Try.func44, Try.ntmps44
  go_wp2
  go_loop [5] (fun i => ∃ k : Nat, i = .int .i64 k ∧ k ≤ n ∧ hasB (zs.take k) m = false) (fun i => n - (intOf i).toNat)
  case atStart => exact ⟨0, rfl, by omega, rfl⟩
  case round =>
    obtain ⟨k, rfl, hk, hh⟩ := hrel
    have HH := Lib.hid hh
    clear hh
    by_cases hlt : k < n
    · obtain ⟨b, o, s, z, rfl, hz, hcell⟩ := HR.out.int hlt
      have HZ := Lib.hid hz
      clear hz
      go_wp2
      · have he : (z == m) = true := by assumption
        go_ret
        exact ⟨by rw [hasB_hit HZ.out he]; rfl, rfl⟩
      · have he : (z == m) = false := by assumption
        go_round
        case rel => exact ⟨k + 1, by go_num, by omega, hasB_step HZ.out HH.out he⟩
        case measure => simp [intOf]; omega
    · go_wp2
      go_ret
      have hf : hasB zs m = false := by rw [← HH.out, List.take_of_length_le (by have := HL.out; omega)]
      exact ⟨by rw [hf]; rfl, rfl⟩
end Go.Proofs.Ytofpaalleimbbaa
