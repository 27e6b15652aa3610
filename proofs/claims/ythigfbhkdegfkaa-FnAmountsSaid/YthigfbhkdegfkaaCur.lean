/- The cursor by which the laws draw their arguments: it reads bytes and goes on; what it draws is a number. No condition. -/
import Derived.Test.YthigfbhkdegfkaaAppend
namespace Go.Proofs.Ythigfbhkdegfkaa
open Go.RowKit

/-- Block g is just the cells cs of type t, none frozen. -/
def Blk (w : World) (g : Nat) (t : TypeId) (cs : Array Value) : Prop := w.heap[g]? = some (.cells cs t (0, 0))

section
variable {w w' : World} {g : Nat} {t : TypeId} {cs : Array Value}
theorem Blk.lt (h : Blk w g t cs) : g < w.heap.size := by
  rcases Nat.lt_or_ge g w.heap.size with hlt | hge
  · exact hlt
  · unfold Blk at h; rw [Array.getElem?_eq_none hge] at h; cases h
theorem Blk.cell (h : Blk w g t cs) (i : Nat) : w.cell? ⟨g, i, none⟩ = cs[i]? := cell_of_row w g i cs t (0, 0) h
theorem Blk.frozen (h : Blk w g t cs) (i : Nat) : w.frozen? ⟨g, i, none⟩ = false := by
  unfold Blk at h
  simp [World.frozen?, h]
theorem Blk.new (w : World) (t : TypeId) (cs : Array Value) : Blk (w.alloc (.cells cs t)) w.heap.size t cs := heap_alloc_new w _
theorem Blk.drew (h : Blk w g t cs) : Blk w.drew g t cs := h
theorem Blk.drewN (h : Blk w g t cs) (n : Nat) : Blk (w.drewN n) g t cs := h
theorem Blk.alloc (h : Blk w g t cs) (o : Obj) : Blk (w.alloc o) g t cs := (Below.heap_alloc w o g h.lt).trans h
theorem Blk.set_ (h : Blk w g t cs) (i : Nat) (u : Value) : Blk (w.setCell ⟨g, i, none⟩ u) g t (cs.setIfInBounds i u) := by
  unfold Blk at h ⊢
  simp [World.setCell, Array.getElem?_modify, h]
theorem Blk.far (h : Blk w g t cs) {p : Addr} (hp : g ≠ p.block) (u : Value) : Blk (w.setCell p u) g t cs := (Below.heap_setCell w p u g hp).trans h
theorem Blk.below {B : Nat} (h : Blk w g t cs) (hb : Below B w w') (hg : g < B) : Blk w' g t cs := (hb.block g hg).trans h
theorem Blk.grown {row : Option Nat} (h : Blk w g t cs) (hb : w.grownBy w' row) (hg : some g ≠ row) : Blk w' g t cs := (hb.block g h.lt hg).trans h
theorem Blk.ne_ {g' : Nat} {t' : TypeId} {cs' : Array Value} (h : Blk w g t cs) (h' : Blk w g' t' cs') (hne : t ≠ t') : g ≠ g' := by
  rintro rfl
  unfold Blk at h h'
  rw [h] at h'
  injection h' with h'
  injection h' with _ ht
  exact hne ht
end

/-- Bytes that can be read, below block B. -/
def CodeOk (w : World) (B : Nat) (A : Option Addr) (n : Nat) : Prop :=
  n ≤ 9223372036854775807 ∧ ∀ k, k < n → ∃ b o v, A = some ⟨b, o, none⟩ ∧ b < B ∧ w.cell? ⟨b, o + k, none⟩ = some (.int .u8 v) ∧ 0 ≤ v ∧ v ≤ 255
theorem CodeOk.below {w w' : World} {B : Nat} {A : Option Addr} {n : Nat} (h : CodeOk w B A n) (hb : Below B w w') : CodeOk w' B A n :=
  ⟨h.1, fun k hk => by
    obtain ⟨b, o, v, e, hlt, hc, hv⟩ := h.2 k hk
    exact ⟨b, o, v, e, hlt, (hb.cell (p := ⟨b, o + k, none⟩) hlt).trans hc, hv⟩⟩
theorem CodeOk.more {w : World} {B B' : Nat} {A : Option Addr} {n : Nat} (h : CodeOk w B A n) (hB : B ≤ B') : CodeOk w B' A n :=
  ⟨h.1, fun k hk => by
    obtain ⟨b, o, v, e, hlt, hc, hv⟩ := h.2 k hk
    exact ⟨b, o, v, e, by omega, hc, hv⟩⟩

/-- A cursor at block g that has gone on at most t times. -/
def CurOk (w : World) (g t : Nat) : Prop :=
  ∃ (A : Option Addr) (n c : Nat) (p : Int) (s : Int), Blk w g 75 #[.slice A n c, .int .i64 p, .int .u64 s] ∧ 0 ≤ p ∧ p ≤ t ∧ 0 ≤ s ∧ s ≤ 18446744073709551615 ∧ CodeOk w g A n
theorem CurOk.below {w w' : World} {g t : Nat} (h : CurOk w g t) (hb : Below w.heap.size w w') : CurOk w' g t := by
  obtain ⟨A, n, c, p, s, h1, h2, h3, h4, h5, h6⟩ := h
  exact ⟨A, n, c, p, s, h1.below hb h1.lt, h2, h3, h4, h5, h6.below (hb.mono (by have := h1.lt; omega))⟩
theorem CurOk.lt {w : World} {g t : Nat} (h : CurOk w g t) : g < w.heap.size := by
  obtain ⟨A, n, c, p, s, h1, _⟩ := h
  exact h1.lt
theorem CurOk.up {w : World} {g t t' : Nat} (h : CurOk w g t) (ht : t ≤ t') : CurOk w g t' := by
  obtain ⟨A, m, c, p, s, h1, h2, h3, h4⟩ := h
  exact ⟨A, m, c, p, s, h1, h2, by omega, h4⟩
theorem u64_bd (x : Int) : 0 ≤ IntKind.u64.wrap x ∧ IntKind.u64.wrap x ≤ 18446744073709551615 := by
  simp [IntKind.wrap, IntKind.bits, IntKind.signed]; omega
theorem low8 (x : Int) : 0 ≤ wrap64 (bits .and .u64 (IntKind.u64.wrap x / 1099511627776) 255) ∧ wrap64 (bits .and .u64 (IntKind.u64.wrap x / 1099511627776) 255) ≤ 255 := by
  have h := u64_bd x
  generalize IntKind.u64.wrap x = y at *
  rw [u64_and _ _ (Int.ediv_nonneg h.1 (by omega)) (by omega) (by omega) (by omega)]
  have : (y / 1099511627776).toNat &&& (255 : Int).toNat ≤ 255 := Nat.and_le_right
  rw [IntWalk.wrap64_in _ ⟨by omega, by omega⟩]
  omega
/-- What is left behind a step of the cursor. -/
theorem cur_next {w : World} {A : Option Addr} {n c g t : Nat} {p s : Int} (hB : Blk w g 75 #[.slice A n c, .int .i64 p, .int .u64 s]) (p0 : 0 ≤ p) (p1 : p ≤ t) (hC : CodeOk w g A n) (a b : Nat) (x : Int) :
    CurOk ((((w.drewN a).setCell ⟨g, 1, none⟩ (.int .i64 (p + 1))).setCell ⟨g, 2, none⟩ (.int .u64 (IntKind.u64.wrap x))).drewN b) g (t + 1) ∧
      w.grownBy ((((w.drewN a).setCell ⟨g, 1, none⟩ (.int .i64 (p + 1))).setCell ⟨g, 2, none⟩ (.int .u64 (IntKind.u64.wrap x))).drewN b) (some g) := by
  have h := u64_bd x
  have hg : w.grownBy ((((w.drewN a).setCell ⟨g, 1, none⟩ (.int .i64 (p + 1))).setCell ⟨g, 2, none⟩ (.int .u64 (IntKind.u64.wrap x))).drewN b) (some g) := by
    refine grownBy_drewN ?_ b
    refine ⟨rfl, rfl, rfl, by simp [World.setCell], fun k hk hne => ?_⟩
    have hk' : k ≠ g := fun e => hne (by rw [e])
    rw [Below.heap_setCell _ _ _ _ hk', Below.heap_setCell _ _ _ _ hk']
    rfl
  refine ⟨⟨A, n, c, p + 1, IntKind.u64.wrap x, ?_, by omega, by omega, h.1, h.2, ?_⟩, hg⟩
  · exact ((hB.drewN a).set_ 1 (.int .i64 (p + 1))).set_ 2 (.int .u64 (IntKind.u64.wrap x))
  · exact hC.below ⟨hg.os, hg.tape, hg.output, hg.size, fun k hk => hg.block k (by have := hB.lt; omega) (fun e => by injection e with e; omega)⟩
set_option maxHeartbeats 2000000 in
theorem next_any (g t : Nat) (ht : t ≤ 1000000000000) (w : World) (h : CurOk w g t) :
    Calls Try.prog 65 #[.pointer (some ⟨g, 0, none⟩)] w fun e w' => ∃ x, e = .returned (.int .i64 x) ∧ 0 ≤ x ∧ x ≤ 255 ∧ CurOk w' g (t + 1) ∧ w.grownBy w' (some g) := by
  obtain ⟨A, n, c, p, s, hB, p0, p1, s0, s1, hcode⟩ := h
  have c0 : w.cell? ⟨g, 0, none⟩ = some (.slice A n c) := hB.cell 0
  have c1 : w.cell? ⟨g, 1, none⟩ = some (.int .i64 p) := hB.cell 1
  have c2 : w.cell? ⟨g, 2, none⟩ = some (.int .u64 s) := hB.cell 2
  have f1 := hB.frozen 1
  have f2 := hB.frozen 2
  have hn := hcode.1
  by_cases hlt : p < n
  · obtain ⟨b, o, v, rfl, hb, hc, v0, v1⟩ := hcode.2 p.toNat (by omega)
    have HB := Lib.hid hB
    have HC := Lib.hid hcode
    clear hB hcode
    go_enter Try.func65, Try.ntmps65
    go_wp2_with fail
    go_quiet (fail)
    go_wp2_with fail
    go_quiet (fail)
    go_wp2_with fail
    go_quiet (fail)
    go_wp2_with fail
    go_ret
    obtain ⟨h1, h2⟩ := cur_next HB.out p0 p1 HC.out _ _ _
    exact ⟨v, rfl, v0, v1, h1, h2⟩
  · have HB := Lib.hid hB
    have HC := Lib.hid hcode
    clear hB hcode
    go_enter Try.func65, Try.ntmps65
    go_wp2_with fail
    go_quiet (fail)
    go_wp2_with fail
    go_quiet (fail)
    go_wp2_with fail
    go_ret
    obtain ⟨h1, h2⟩ := cur_next HB.out p0 p1 HC.out _ _ _
    exact ⟨_, rfl, (low8 _).1, (low8 _).2, h1, h2⟩
set_option maxHeartbeats 2000000 in
theorem pick_any (g t : Nat) (ht : t ≤ 100000000000) (n : Int) (hn : n ≤ 4611686018427387904) (w : World) (h : CurOk w g t) :
    Calls Try.prog 54 #[.pointer (some ⟨g, 0, none⟩), .int .i64 n] w fun e w' => ∃ x, e = .returned (.int .i64 x) ∧ 0 ≤ x ∧ x < max n 1 ∧ CurOk w' g (t + 2) ∧ w.grownBy w' (some g) := by
  by_cases h1 : n ≤ 1
  · have H := Lib.hid h
    clear h
    go_enter Try.func54, Try.ntmps54
    go_wp2_with fail
    go_ret
    exact ⟨0, rfl, by omega, by omega, H.out.up (by omega), World.grownBy.refl _ _⟩
  · have hnz : (n == 0) = false := by simp; omega
    by_cases h2 : n ≤ 200
    · have H := Lib.hid h
      clear h
      go_enter Try.func54, Try.ntmps54
      go_wp2_with fail
      refine (next_any g t (by omega) _ H.out).mono ?_
      rintro e w1 ⟨x, rfl, x0, x1, hc1, hg1⟩
      go_wp2_with fail
      go_ret
      exact ⟨_, rfl, Int.emod_nonneg _ (by omega), by have := Int.emod_lt_of_pos x (show 0 < n by omega); omega, hc1.up (by omega), hg1⟩
    · have H := Lib.hid h
      clear h
      go_enter Try.func54, Try.ntmps54
      go_wp2_with fail
      refine (next_any g t (by omega) _ H.out).mono ?_
      rintro e w1 ⟨x, rfl, x0, x1, hc1, hg1⟩
      go_wp2_with fail
      refine (next_any g (t + 1) (by omega) _ hc1).mono ?_
      rintro e w2 ⟨y, rfl, y0, y1, hc2, hg2⟩
      go_wp2_with fail
      go_ret
      exact ⟨_, rfl, Int.emod_nonneg _ (by omega), by have := Int.emod_lt_of_pos (x * 256 + y) (show 0 < n by omega); omega, hc2, grownBy_trans hg1 hg2⟩
def isInt : Value → Bool
  | .int .i64 _ => true
  | _ => false
theorem isInt_eq {u : Value} (h : isInt u = true) : ∃ z, u = .int .i64 z := by
  unfold isInt at h
  split at h
  · exact ⟨_, rfl⟩
  · cases h
set_option maxHeartbeats 2000000 in
theorem among_any (g t : Nat) (ht : t ≤ 10000000000) (A : Option Addr) (n c : Nat) (xs : List Value) (w : World) (h : CurOk w g t) (hown : w.ownsRow (g + 1) 3 1 (.slice A n c) n xs) (hi : xs.all isInt = true) (hn : 0 < n) (hn' : n ≤ 1000000) :
    Calls Try.prog 53 #[.pointer (some ⟨g, 0, none⟩), .slice A n c] w fun e w' => ∃ x, e = .returned (.int .i64 x) ∧ CurOk w' g (t + 2) ∧ w.grownBy w' (some g) := by
  obtain ⟨b, cap, hv, hb, hlt⟩ := hown.form (by omega)
  have hA : A = some ⟨b, 0, none⟩ := by injection hv
  subst hA
  clear hv
  have H := Lib.hid h
  have HO := Lib.hid hown
  have HI := Lib.hid hi
  clear h hown hi
  have hlt' : (1 : Int) ≤ n := by omega
  go_enter Try.func53, Try.ntmps53
  go_wp2_with fail
  refine (pick_any g t (by omega) n (by omega) _ H.out).mono ?_
  rintro e w1 ⟨x, rfl, x0, x1, hc1, hg1⟩
  have hx : x < (n : Int) := by omega
  have ho := HO.out.kept hg1 (.inr (by simp [Value.ownBlock]; omega))
  have hxl : x.toNat < xs.length := by have := ho.1; omega
  have hcell := ho.cellAt x.toNat (by omega)
  rw [List.getElem?_eq_getElem hxl] at hcell
  obtain ⟨z, hz⟩ := isInt_eq (List.all_eq_true.1 HI.out _ (List.getElem_mem hxl))
  rw [hz] at hcell
  clear hz ho
  go_wp2_with fail
  go_ret
  exact ⟨z, rfl, hc1, hg1⟩
/-- A literal slice at an address that is spelled otherwise. -/
theorem ownsRow_litAt {base : Nat} {e : TypeId} {size : Nat} (w : World) (cs : Array Value) (n g : Nat) (hg : g = w.heap.size) (hb : base ≤ w.heap.size) (hm : n ≤ maxLen) (hc : cs.size = n * size) : (w.alloc (.cells cs e)).ownsRow base e size (.slice (some ⟨g, 0, none⟩) n n) n cs.toList := by
  subst hg
  exact World.ownsRow_lit w cs n hb hm hc
/-- A new cursor. -/
theorem cur_new {w : World} {A : Option Addr} {n c : Nat} {B : Nat} (h : CodeOk w B A n) (hB : B ≤ w.heap.size) : CurOk (w.alloc (.cells #[.slice A n c, .int .i64 0, .int .u64 0] 75)) w.heap.size 0 :=
  ⟨A, n, c, 0, 0, Blk.new _ _ _, by omega, by omega, by omega, by omega, (h.below (w' := w.alloc (.cells #[.slice A n c, .int .i64 0, .int .u64 0] 75)) ((Below.refl _ _).alloc hB _)).more hB⟩
theorem grownBy_alloc_trans {w w' : World} {g : Nat} {o : Obj} (h : (w.alloc o).grownBy w' (some g)) : w.grownBy w' (some g) := grownBy_trans (World.grownBy_alloc w o _) h
/-- The draw's whole way, seen from outside. -/
theorem draw_below {w w' : World} {o : Obj} (h : (w.alloc o).grownBy w' (some w.heap.size)) : Below w.heap.size w w' :=
  ext_grown (ext_alloc (Below.refl _ _) o) h fun g hg => by injection hg with hg; omega
end Go.Proofs.Ythigfbhkdegfkaa
