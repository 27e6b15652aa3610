/- Lists that are gathered while the cursor goes on. No condition. -/
import Derived.Test.YthigfbhkdegfkaaCur
import Derived.Test.YthigfbhkdegfkaaVs
namespace Go.Proofs.Ythigfbhkdegfkaa
open Go.RowKit

theorem grownBy_set {a b : World} {row : Option Nat} (h : a.grownBy b row) {p : Addr} (hp : a.heap.size ≤ p.block) (u : Value) : a.grownBy (b.setCell p u) row := by
  refine ⟨h.os, h.tape, h.output, by have := h.size; simpa [World.setCell] using this, fun k hk hne => ?_⟩
  rw [Below.heap_setCell _ _ _ _ (show k ≠ p.block by omega)]
  exact h.block k hk hne
theorem grownBy_alloc_ {a b : World} {row : Option Nat} (h : a.grownBy b row) (o : Obj) : a.grownBy (b.alloc o) row := grownBy_trans h (World.grownBy_alloc b o _)
theorem grownBy_any {a b : World} {row row' : Option Nat} (h : a.grownBy b row) (hr : ∀ g, row = some g → a.heap.size ≤ g) : a.grownBy b row' :=
  ⟨h.os, h.tape, h.output, h.size, fun k hk _ => h.block k hk (fun e => by have := hr k e.symm; omega)⟩
theorem grownBy_row {w a b : World} {g : Nat} {row : Option Nat} (h : w.grownBy a (some g)) (k : a.grownBy b row) (hr : ∀ r, row = some r → w.heap.size ≤ r) : w.grownBy b (some g) :=
  ⟨k.os.trans h.os, k.tape.trans h.tape, k.output.trans h.output, Nat.le_trans h.size k.size, fun i hi hne => (k.block i (Nat.lt_of_lt_of_le hi h.size) (fun e => by have := hr i e.symm; omega)).trans (h.block i hi hne)⟩
def sliceLen (v : Value) : Nat := match v with
  | .slice _ n _ => n
  | _ => 0
theorem CodeOk.cut {w w' : World} {B : Nat} {A : Option Addr} {n : Nat} (h : CodeOk w B A n) (hc : ∀ k, k < B → w'.heap[k]? = w.heap[k]?) : CodeOk w' B A n :=
  ⟨h.1, fun k hk => by
    obtain ⟨b, o, v, e, hlt, hcell, hv⟩ := h.2 k hk
    exact ⟨b, o, v, e, hlt, (World.cell?_of_block (a := ⟨b, o + k, none⟩) (hc b hlt)).trans hcell, hv⟩⟩
section
variable {w w' : World} {g t : Nat}
theorem CurOk.grown (h : CurOk w g t) {row : Option Nat} (hg : w.grownBy w' row) (hr : ∀ b, row = some b → g < b) : CurOk w' g t := by
  obtain ⟨A, n, c, p, s, h1, h2, h3, h4, h5, h6⟩ := h
  have hlt := h1.lt
  exact ⟨A, n, c, p, s, h1.grown hg (fun e => by have := hr g e.symm; omega), h2, h3, h4, h5, h6.cut (fun k hk => hg.block k (by omega) (fun e => by have := hr k e.symm; omega))⟩
theorem CurOk.set (h : CurOk w g t) {p : Addr} (hp : g < p.block) (u : Value) : CurOk (w.setCell p u) g t := by
  obtain ⟨A, n, c, q, s, h1, h2, h3, h4, h5, h6⟩ := h
  exact ⟨A, n, c, q, s, h1.far (by omega) u, h2, h3, h4, h5, h6.cut (fun k hk => Below.heap_setCell _ _ _ _ (by omega))⟩
theorem CurOk.alloc (h : CurOk w g t) (o : Obj) : CurOk (w.alloc o) g t := h.below (ext_alloc (Below.refl _ _) o)
end
/-- What is owned while the cursor at g goes on. -/
structure AccG (w : World) (g E k : Nat) (A : Option Addr) (n c : Nat) (zs : List Int) : Prop where
  own : w.ownsRow (g + 1) E k (.slice A n c) n (zs.map (Value.int .i64))
  lt : g < w.heap.size
section
variable {w0 w w' : World} {g E k n c : Nat} {A : Option Addr} {zs : List Int}
theorem AccG.acc (h : AccG w g E k A n c zs) : ∃ w0 : World, w0.heap.size = g + 1 ∧ Acc w0 w E k A n c zs := by
  obtain ⟨w0, hw0⟩ : ∃ w0 : World, w0 = { w with heap := w.heap.extract 0 (g + 1) } := ⟨_, rfl⟩
  have hlt := h.lt
  have hs : w0.heap.size = g + 1 := by rw [hw0]; simp; omega
  refine ⟨w0, hs, by rw [hs]; exact h.own, ?_⟩
  rw [hs, hw0]
  refine ⟨rfl, rfl, rfl, by simp; omega, fun k hk => ?_⟩
  show w.heap[k]? = (w.heap.extract 0 (g + 1))[k]?
  rw [Array.getElem?_extract]
  simp
  omega
theorem AccG.of (h : Acc w0 w E k A n c zs) (hs : w0.heap.size = g + 1) : AccG w g E k A n c zs := ⟨hs ▸ h.own, by have := h.ext.size; omega⟩
theorem AccG.kept (h : AccG w g E k A n c zs) (hg : w.grownBy w' (some g)) : AccG w' g E k A n c zs := by
  refine ⟨h.own.kept hg ?_, Nat.lt_of_lt_of_le h.lt hg.size⟩
  cases hv : (Value.slice A n c).ownBlock with
  | none => exact .inl rfl
  | some b => exact .inr (fun e => by have := (h.own.lt b hv).1; injection e with e; omega)
theorem AccG.alloc (h : AccG w g E k A n c zs) (o : Obj) : AccG (w.alloc o) g E k A n c zs := ⟨h.own.alloc o, by have := h.lt; simp; omega⟩
theorem AccG.reads (h : AccG w g E k A n c zs) : Reads w w.heap.size k A n (zs.map (Value.int .i64)) := Reads.of_own h.own
theorem AccG.empty (h : g < w.heap.size) : AccG (w.alloc (.cells #[] E)) g E k (some ⟨w.heap.size, 0, none⟩) 0 0 [] :=
  ⟨World.ownsRow_made w #[] 0 (by omega) (by simp [maxLen]) (by simp), by simp; omega⟩
end
/-- A list that a draw hands over. -/
structure Drawn (w w' : World) (k : Nat) (A : Option Addr) (n c : Nat) (zs : List Int) : Prop where
  reads : Reads w' w'.heap.size k A n (zs.map (Value.int .i64))
  cap : n ≤ c
  max : c ≤ maxLen
  ext : Below w.heap.size w w'
theorem drawn_of {w w' : World} {o : Obj} {E k : Nat} {A : Option Addr} {n c : Nat} {zs : List Int} (h : AccG w' w.heap.size E k A n c zs) (hg : (w.alloc o).grownBy w' (some w.heap.size)) : Drawn w w' k A n c zs := by
  have hc : n ≤ c ∧ c ≤ maxLen := by
    rcases h.own.2 with ⟨h1, h2⟩ | ⟨g, cap, cur, hv, _, _, h1, h2, _⟩
    · injection h1 with _ h3 h4; subst h4; unfold maxLen; omega
    · injection hv with _ _ h3; subst h3; exact ⟨h1, h2⟩
  exact ⟨h.reads, hc.1, hc.2, draw_below hg⟩
set_option maxHeartbeats 1000000 in
theorem one_any (g t : Nat) (ht : t ≤ 100000000000) (n : Int) (hn : n ≤ 4611686018427387904) (w : World) (h : CurOk w g t) :
    Calls Try.prog 64 #[.pointer (some ⟨g, 0, none⟩), .int .i64 n] w fun e w' => ∃ b, e = .returned (.bool b) ∧ CurOk w' g (t + 2) ∧ w.grownBy w' (some g) := by
  go_enter Try.func64, Try.ntmps64
  go_wp2_with fail
  refine (pick_any g t ht n hn _ h).mono ?_
  rintro e w1 ⟨x, rfl, _, _, hc, hg⟩
  go_wp2_with fail
  go_ret
  exact ⟨_, rfl, hc, hg⟩
theorem lit_ints (w : World) (T : TypeId) (cs : Array Value) (n : Nat) (hi : cs.toList.all isInt = true) (hn : n ≤ cs.size) : ∀ j, j < n → ∃ z, (w.alloc (.cells cs T)).cell? ⟨w.heap.size, j, none⟩ = some (.int .i64 z) := by
  intro j hj
  have hj' : j < cs.toList.length := by rw [Array.length_toList]; omega
  obtain ⟨z, hz⟩ := isInt_eq (List.all_eq_true.1 hi _ (List.getElem_mem hj'))
  refine ⟨z, ?_⟩
  rw [World.cell?_alloc_new, ← hz]
  simp at hj' ⊢
set_option maxHeartbeats 2000000 in
theorem amongB_any (g t : Nat) (ht : t ≤ 10000000000) (b n c : Nat) (w : World) (h : CurOk w g t) (hbg : b ≠ g) (hi : ∀ j, j < n → ∃ z, w.cell? ⟨b, j, none⟩ = some (.int .i64 z)) (hn : 0 < n) (hn' : n ≤ 1000000) :
    Calls Try.prog 53 #[.pointer (some ⟨g, 0, none⟩), .slice (some ⟨b, 0, none⟩) n c] w fun e w' => ∃ x, e = .returned (.int .i64 x) ∧ CurOk w' g (t + 2) ∧ w.grownBy w' (some g) := by
  have H := Lib.hid h
  have HI := Lib.hid hi
  clear h hi
  have hlt' : (1 : Int) ≤ n := by omega
  go_enter Try.func53, Try.ntmps53
  go_wp2_with fail
  refine (pick_any g t (by omega) n (by omega) _ H.out).mono ?_
  rintro e w1 ⟨x, rfl, x0, x1, hc1, hg1⟩
  have hx : x < (n : Int) := by omega
  obtain ⟨z, hz⟩ := HI.out x.toNat (by omega)
  have hbl : b < w.heap.size := World.block_lt_of_cell? _ _ hz
  have hcell : w1.cell? ⟨b, x.toNat, none⟩ = some (.int .i64 z) := (World.cell?_of_block (hg1.block b hbl (by intro e; injection e with e; exact hbg e))).trans hz
  clear hz
  go_wp2_with fail
  go_ret
  exact ⟨z, rfl, hc1, hg1⟩
end Go.Proofs.Ythigfbhkdegfkaa
