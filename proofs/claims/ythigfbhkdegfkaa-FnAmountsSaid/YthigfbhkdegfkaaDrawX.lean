/- The draws of chapter 7: a system, an amount, a number, a name. No condition. -/
import Derived.Test.YthigfbhkdegfkaaDrawW
namespace Go.Proofs.Ythigfbhkdegfkaa
open Go.RowKit

/-- What a draw hands over: a system; an amount. -/
structure DrU (w : World) (b : Nat) (A : Option Addr) (n c : Nat) (us : List Unt) : Prop where
  row : RowR w b 2 A n c (untF us)
  few : n ≤ 8
  nm : ∀ x ∈ us, x.nm.size ≤ 1048576
structure DrA (w : World) (b : Nat) (D : Option Addr) (m k : Nat) (zs : List Int) : Prop where
  row : RowR w b 1 D m k (zs.map (Value.int .i64))
  few : m ≤ 9
section
variable {w w' : World} {A D : Option Addr} {n c m b b' k g : Nat} {us : List Unt} {zs : List Int} {vs : List Value}
theorem RowR.weak {k : Nat} (h : RowR w b k A n c vs) (hb : b' ≤ b) : RowR w b' k A n c vs := ⟨h.reads, h.cap, h.max, fun x hx => Nat.le_trans hb (h.low x hx), Nat.le_trans hb h.lt⟩
theorem DrU.later (h : DrU w b A n c us) (hb : Below w.heap.size w w') : DrU w' b A n c us := ⟨h.row.later hb, h.few, h.nm⟩
theorem DrA.later (h : DrA w b D m k zs) (hb : Below w.heap.size w w') : DrA w' b D m k zs := ⟨h.row.later hb, h.few⟩
theorem DrU.of (h : RowR w b 2 A n c (untF us)) (hn : n ≤ 8) (hnm : ∀ x ∈ us, x.nm.size ≤ 20) (hb : b' ≤ b) : DrU w b' A n c us := ⟨h.weak hb, hn, fun x hx => by have := hnm x hx; omega⟩
theorem DrA.of (h : RowR w b 1 D m k (zs.map (Value.int .i64))) (hm : m ≤ 9) (hb : b' ≤ b) : DrA w b' D m k zs := ⟨h.weak hb, hm⟩
theorem RowR.set {k : Nat} (h : RowR w b k A n c vs) {p : Addr} (hp : p.block < b) (v : Value) : RowR (w.setCell p v) b k A n c vs := h.kept (grown_set w p v) hp
end
set_option maxRecDepth 100000 in
set_option maxHeartbeats 8000000 in
theorem DrawIsAmount_any (A : Option Addr) (n c B : Nat) (w : World) (h : CodeOk w B A n) (hB : B ≤ w.heap.size) :
    Calls Try.prog 59 #[.slice A n c] w fun e w' => ∃ (A' : Option Addr) (n' c' : Nat) (us : List Unt) (D : Option Addr) (m k : Nat) (zs : List Int), e = .returned (.tuple #[.slice A' n' c', .agg #[.slice D m k]]) ∧ DrU w' w.heap.size A' n' c' us ∧ DrA w' w.heap.size D m k zs ∧ Below w.heap.size w w' := by
  have hb0 := ext_alloc (Below.refl w.heap.size w) (.cells #[.slice none 0 0] 28)
  have hk3 := (Blk.new w 28 #[.slice none 0 0]).alloc (.cells #[.slice A n c, .int .i64 0, .int .u64 0] 75)
  have hcur := cur_new (c := c) (h.below (hb0.mono hB)) (Nat.le_trans hB hb0.size)
  rw [show (w.alloc (.cells #[.slice none 0 0] 28)).heap.size = w.heap.size + 1 by simp] at hcur
  have hb1 := ext_alloc hb0 (.cells #[.slice A n c, .int .i64 0, .int .u64 0] 75)
  generalize hw1 : (w.alloc (.cells #[.slice none 0 0] 28)).alloc (.cells #[.slice A n c, .int .i64 0, .int .u64 0] 75) = w1 at hk3 hcur hb1
  have K31 := Lib.hid hk3
  have H1 := Lib.hid hcur
  have B1 := Lib.hid hb1
  have HW := Lib.hid hw1
  have hg1 := hcur.lt
  clear h hcur hb1 hw1 hb0 hk3
  go_enter Try.func59, Try.ntmps59
  go_wp2_with fail
  rw [HW.out]
  refine (system7_any (w.heap.size + 1) 0 (by omega) w1 H1.out).mono ?_
  rintro e w2 ⟨A', n', c', us, rfl, r1, hn', hnm, hc, hg⟩
  have H2 := Lib.hid hc
  have R1 := Lib.hid r1
  have G2 := Lib.hid hg
  have HNM := Lib.hid hnm
  have K32 := Lib.hid (K31.out.grown hg (by intro e; injection e with e; omega))
  clear hc r1 hg hnm
  go_wp2_with fail
  refine (amount7_any (w.heap.size + 1) (0 + 100) (by omega) A' n' c' hn' w2 H2.out).mono ?_
  rintro e w3 ⟨D, m, k, zs, rfl, r2, hm, hc, hg⟩
  have H3 := Lib.hid hc
  have R2 := Lib.hid r2
  have R13 := Lib.hid (R1.out.kept hg (by omega))
  have hg2 := G2.out.size
  have G3 := Lib.hid (grownBy_trans G2.out hg)
  have k3 := K32.out.grown hg (by intro e; injection e with e; omega)
  have K33 := Lib.hid k3
  clear hc r2 hg k3
  have v3 := K33.out.cell 0
  have f3 := K33.out.frozen 0
  simp only [List.getElem?_toArray, List.getElem?_cons_zero] at v3
  go_wp2_with fail
  have k3 := K33.out
  have r1 := R13.out.set (p := ⟨w.heap.size, 0, none⟩) (by dsimp only; omega) (.slice D m k)
  have r2 := R2.out.set (p := ⟨w.heap.size, 0, none⟩) (by dsimp only; omega) (.slice D m k)
  have hb := ext_set (ext_grown B1.out G3.out (fun q e => by injection e with e; omega)) (p := ⟨w.heap.size, 0, none⟩) (Nat.le_refl _) (.slice D m k)
  have k3 := k3.set_ 0 (.slice D m k)
  simp only [List.setIfInBounds_toArray, List.set_cons_zero] at k3
  generalize World.setCell w3 ⟨w.heap.size, 0, none⟩ (.slice D m k) = WZ at k3 r1 r2 hb ⊢
  have rz := k3.cell 0
  simp only [List.getElem?_toArray, List.getElem?_cons_zero] at rz
  refine bodyPost_ret (v := .tuple #[.slice A' n' c', .agg #[.slice D m k]]) (by simp [results, Try.results59, go_sem, rz]) rfl ?_
  exact ⟨A', n', c', us, D, m, k, zs, rfl, DrU.of r1 hn' HNM.out B1.out.size, DrA.of r2 hm (Nat.le_trans B1.out.size hg2), hb⟩
set_option maxRecDepth 100000 in
set_option maxHeartbeats 4000000 in
theorem DrawAmountText_any (A : Option Addr) (n c B : Nat) (w : World) (h : CodeOk w B A n) (hB : B ≤ w.heap.size) :
    Calls Try.prog 29 #[.slice A n c] w fun e w' => ∃ (A' : Option Addr) (n' c' : Nat) (us : List Unt) (D : Option Addr) (m k : Nat) (zs : List Int), e = .returned (.tuple #[.slice A' n' c', .agg #[.slice D m k]]) ∧ DrU w' w.heap.size A' n' c' us ∧ DrA w' w.heap.size D m k zs ∧ Below w.heap.size w w' := by
  have hb0 := ext_alloc (Below.refl w.heap.size w) (.cells #[.slice none 0 0] 28)
  have hk3 := Blk.new w 28 #[.slice none 0 0]
  have hc0 := h.below (hb0.mono hB)
  have hz0 := Nat.le_trans hB hb0.size
  generalize hw1 : w.alloc (.cells #[.slice none 0 0] 28) = w1 at hb0 hk3 hc0 hz0
  have B0 := Lib.hid hb0
  have K3 := Lib.hid hk3
  have HC := Lib.hid hc0
  have HW := Lib.hid hw1
  clear h hb0 hk3 hc0 hw1
  go_enter Try.func29, Try.ntmps29
  go_wp2_with fail
  rw [HW.out]
  refine (DrawIsAmount_any A n c B w1 HC.out hz0).mono ?_
  rintro e w3 ⟨A', n', c', us, D, m, k, zs, rfl, r1, r2, hb⟩
  have hsz : w.heap.size < w1.heap.size := K3.out.lt
  have k3 := K3.out.below hb hsz
  have v3 := k3.cell 0
  have f3 := k3.frozen 0
  simp only [List.getElem?_toArray, List.getElem?_cons_zero] at v3
  have K33 := Lib.hid k3
  have R1 := Lib.hid r1
  have R2 := Lib.hid r2
  have HB := Lib.hid (ext_trans B0.out hb)
  clear k3 r1 r2 hb
  go_wp2_with fail
  have k3 := K33.out
  have r1 := R1.out.row.set (p := ⟨w.heap.size, 0, none⟩) hsz (.slice D m k)
  have r2 := R2.out.row.set (p := ⟨w.heap.size, 0, none⟩) hsz (.slice D m k)
  have hb := ext_set HB.out (p := ⟨w.heap.size, 0, none⟩) (Nat.le_refl _) (.slice D m k)
  have k3 := k3.set_ 0 (.slice D m k)
  simp only [List.setIfInBounds_toArray, List.set_cons_zero] at k3
  generalize World.setCell w3 ⟨w.heap.size, 0, none⟩ (.slice D m k) = WZ at k3 r1 r2 hb ⊢
  have rz := k3.cell 0
  simp only [List.getElem?_toArray, List.getElem?_cons_zero] at rz
  refine bodyPost_ret (v := .tuple #[.slice A' n' c', .agg #[.slice D m k]]) (by simp [results, Try.results29, go_sem, rz]) rfl ?_
  exact ⟨A', n', c', us, D, m, k, zs, rfl, ⟨r1.weak (Nat.le_of_lt hsz), R1.out.few, R1.out.nm⟩, ⟨r2.weak (Nat.le_of_lt hsz), R2.out.few⟩, hb⟩
set_option maxRecDepth 100000 in
set_option maxHeartbeats 4000000 in
theorem DrawValueIn_any (A : Option Addr) (n c B : Nat) (w : World) (h : CodeOk w B A n) (hB : B ≤ w.heap.size) :
    Calls Try.prog 33 #[.slice A n c] w fun e w' => ∃ (A' : Option Addr) (n' c' : Nat) (us : List Unt) (D : Option Addr) (m k : Nat) (zs : List Int), e = .returned (.tuple #[.slice A' n' c', .agg #[.slice D m k]]) ∧ DrU w' w.heap.size A' n' c' us ∧ DrA w' w.heap.size D m k zs ∧ Below w.heap.size w w' := by
  have hb0 := ext_alloc (Below.refl w.heap.size w) (.cells #[.slice none 0 0] 28)
  have hk3 := Blk.new w 28 #[.slice none 0 0]
  have hc0 := h.below (hb0.mono hB)
  have hz0 := Nat.le_trans hB hb0.size
  generalize hw1 : w.alloc (.cells #[.slice none 0 0] 28) = w1 at hb0 hk3 hc0 hz0
  have B0 := Lib.hid hb0
  have K3 := Lib.hid hk3
  have HC := Lib.hid hc0
  have HW := Lib.hid hw1
  clear h hb0 hk3 hc0 hw1
  go_enter Try.func33, Try.ntmps33
  go_wp2_with fail
  rw [HW.out]
  refine (DrawIsAmount_any A n c B w1 HC.out hz0).mono ?_
  rintro e w3 ⟨A', n', c', us, D, m, k, zs, rfl, r1, r2, hb⟩
  have hsz : w.heap.size < w1.heap.size := K3.out.lt
  have k3 := K3.out.below hb hsz
  have v3 := k3.cell 0
  have f3 := k3.frozen 0
  simp only [List.getElem?_toArray, List.getElem?_cons_zero] at v3
  have K33 := Lib.hid k3
  have R1 := Lib.hid r1
  have R2 := Lib.hid r2
  have HB := Lib.hid (ext_trans B0.out hb)
  clear k3 r1 r2 hb
  go_wp2_with fail
  have k3 := K33.out
  have r1 := R1.out.row.set (p := ⟨w.heap.size, 0, none⟩) hsz (.slice D m k)
  have r2 := R2.out.row.set (p := ⟨w.heap.size, 0, none⟩) hsz (.slice D m k)
  have hb := ext_set HB.out (p := ⟨w.heap.size, 0, none⟩) (Nat.le_refl _) (.slice D m k)
  have k3 := k3.set_ 0 (.slice D m k)
  simp only [List.setIfInBounds_toArray, List.set_cons_zero] at k3
  generalize World.setCell w3 ⟨w.heap.size, 0, none⟩ (.slice D m k) = WZ at k3 r1 r2 hb ⊢
  have rz := k3.cell 0
  simp only [List.getElem?_toArray, List.getElem?_cons_zero] at rz
  refine bodyPost_ret (v := .tuple #[.slice A' n' c', .agg #[.slice D m k]]) (by simp [results, Try.results33, go_sem, rz]) rfl ?_
  exact ⟨A', n', c', us, D, m, k, zs, rfl, ⟨r1.weak (Nat.le_of_lt hsz), R1.out.few, R1.out.nm⟩, ⟨r2.weak (Nat.le_of_lt hsz), R2.out.few⟩, hb⟩
set_option maxRecDepth 100000 in
set_option maxHeartbeats 8000000 in
theorem DrawTimesOf_any (A : Option Addr) (n c B : Nat) (w : World) (h : CodeOk w B A n) (hB : B ≤ w.heap.size) :
    Calls Try.prog 17 #[.slice A n c] w fun e w' => ∃ (A' : Option Addr) (n' c' : Nat) (us : List Unt) (D : Option Addr) (m k : Nat) (zs : List Int) (N : Int), e = .returned (.tuple #[.slice A' n' c', .agg #[.slice D m k], .int .i64 N]) ∧ DrU w' w.heap.size A' n' c' us ∧ DrA w' w.heap.size D m k zs ∧ Below w.heap.size w w' := by
  have hb0 := ext_alloc (Below.refl w.heap.size w) (.cells #[.slice none 0 0] 28)
  have hk3 := (Blk.new w 28 #[.slice none 0 0]).alloc (.cells #[.slice A n c, .int .i64 0, .int .u64 0] 75)
  have hcur := cur_new (c := c) (h.below (hb0.mono hB)) (Nat.le_trans hB hb0.size)
  rw [show (w.alloc (.cells #[.slice none 0 0] 28)).heap.size = w.heap.size + 1 by simp] at hcur
  have hb1 := ext_alloc hb0 (.cells #[.slice A n c, .int .i64 0, .int .u64 0] 75)
  generalize hw1 : (w.alloc (.cells #[.slice none 0 0] 28)).alloc (.cells #[.slice A n c, .int .i64 0, .int .u64 0] 75) = w1 at hk3 hcur hb1
  have K31 := Lib.hid hk3
  have H1 := Lib.hid hcur
  have B1 := Lib.hid hb1
  have HW := Lib.hid hw1
  have hg1 := hcur.lt
  clear h hcur hb1 hw1 hb0 hk3
  go_enter Try.func17, Try.ntmps17
  go_wp2_with fail
  rw [HW.out]
  refine (system7_any (w.heap.size + 1) 0 (by omega) w1 H1.out).mono ?_
  rintro e w2 ⟨A', n', c', us, rfl, r1, hn', hnm, hc, hg⟩
  have H2 := Lib.hid hc
  have R1 := Lib.hid r1
  have G2 := Lib.hid hg
  have HNM := Lib.hid hnm
  have K32 := Lib.hid (K31.out.grown hg (by intro e; injection e with e; omega))
  clear hc r1 hg hnm
  go_wp2_with fail
  refine (amount7_any (w.heap.size + 1) (0 + 100) (by omega) A' n' c' hn' w2 H2.out).mono ?_
  rintro e w3 ⟨D, m, k, zs, rfl, r2, hm, hc, hg⟩
  have H3 := Lib.hid hc
  have R2 := Lib.hid r2
  have R13 := Lib.hid (R1.out.kept hg (by omega))
  have hg2 := G2.out.size
  have G3 := Lib.hid (grownBy_trans G2.out hg)
  have k3 := K32.out.grown hg (by intro e; injection e with e; omega)
  have K33 := Lib.hid k3
  clear hc r2 hg k3
  go_wp2_with fail
  have hl := lit_ints w3 3 #[.int .i64 0, .int .i64 1, .int .i64 2, .int .i64 12, .int .i64 1000, .int .i64 (-1), .int .i64 1001] 7 rfl (by decide)
  have hlt := H3.out.lt
  have hb3 := ext_alloc (Below.refl w3.heap.size w3) (.cells #[.int .i64 0, .int .i64 1, .int .i64 2, .int .i64 12, .int .i64 1000, .int .i64 (-1), .int .i64 1001] 3)
  refine (pick_any (w.heap.size + 1) (0 + 100 + 100) (by omega) 24 (by omega) _ (H3.out.alloc _)).mono ?_
  rintro e w4 ⟨q, rfl, q0, q1, hc, hg⟩
  have HLI := Lib.hid (fun j (hj : j < 7) => by
    obtain ⟨z, hz⟩ := hl j hj
    exact (⟨z, (World.cell?_of_block (hg.block w3.heap.size (by simp) (by intro e; injection e with e; omega))).trans hz⟩ : ∃ z, w4.cell? ⟨w3.heap.size, j, none⟩ = some (.int .i64 z)))
  have H4 := Lib.hid hc
  have R14 := Lib.hid ((R13.out.later hb3).kept hg (by omega))
  have R24 := Lib.hid ((R2.out.later hb3).kept hg (by omega))
  have K34 := Lib.hid ((K33.out.below hb3 K33.out.lt).grown hg (by intro e; injection e with e; omega))
  have G4 := Lib.hid (grownBy_trans (grownBy_any_row G3.out hb3) hg)
  obtain ⟨Q, hQ⟩ : ∃ Q : Nat, q / 11 = (Q : Int) := ⟨(q / 11).toNat, by omega⟩
  have hQ2 : Q ≤ 2 := by omega
  clear hl hc hg hb3
  go_wp2_with fail
  refine (amongB_any (w.heap.size + 1) (0 + 100 + 100 + 2) (by omega) _ _ _ _ H4.out (by omega) (fun j hj => HLI.out j (by omega)) (by omega) (by omega)).mono ?_
  rintro e w5 ⟨N, rfl, hc, hg⟩
  have R15 := Lib.hid (R14.out.kept hg (by omega))
  have R25 := Lib.hid (R24.out.kept hg (by omega))
  have K35 := Lib.hid (K34.out.grown hg (by intro e; injection e with e; omega))
  have G5 := Lib.hid (grownBy_trans G4.out hg)
  clear hc hg HLI hlt hQ hQ2 q0 q1
  have v3 := K35.out.cell 0
  have f3 := K35.out.frozen 0
  simp only [List.getElem?_toArray, List.getElem?_cons_zero] at v3
  go_wp2_with fail
  have k3 := K35.out
  have r1 := R15.out.set (p := ⟨w.heap.size, 0, none⟩) (by dsimp only; omega) (.slice D m k)
  have r2 := R25.out.set (p := ⟨w.heap.size, 0, none⟩) (by dsimp only; omega) (.slice D m k)
  have hb := ext_set (ext_grown B1.out G5.out (fun q e => by injection e with e; omega)) (p := ⟨w.heap.size, 0, none⟩) (Nat.le_refl _) (.slice D m k)
  have k3 := k3.set_ 0 (.slice D m k)
  simp only [List.setIfInBounds_toArray, List.set_cons_zero] at k3
  generalize World.setCell w5 ⟨w.heap.size, 0, none⟩ (.slice D m k) = WZ at k3 r1 r2 hb ⊢
  have rz := k3.cell 0
  simp only [List.getElem?_toArray, List.getElem?_cons_zero] at rz
  refine bodyPost_ret (v := .tuple #[.slice A' n' c', .agg #[.slice D m k], .int .i64 N]) (by simp [results, Try.results17, go_sem, rz]) rfl ?_
  exact ⟨A', n', c', us, D, m, k, zs, N, rfl, DrU.of r1 hn' HNM.out B1.out.size, DrA.of r2 hm (Nat.le_trans B1.out.size hg2), hb⟩
set_option maxRecDepth 100000 in
set_option maxHeartbeats 8000000 in
theorem DrawUnitsIn_any (A : Option Addr) (n c B : Nat) (w : World) (h : CodeOk w B A n) (hB : B ≤ w.heap.size) :
    Calls Try.prog 22 #[.slice A n c] w fun e w' => ∃ (A' : Option Addr) (n' c' : Nat) (us : List Unt) (s : ByteArray), e = .returned (.tuple #[.slice A' n' c', .string s]) ∧ DrU w' w.heap.size A' n' c' us ∧ s.size ≤ 20 ∧ Below w.heap.size w w' := by
  have hcur := cur_new (c := c) h hB
  have hb1 := ext_alloc (Below.refl w.heap.size w) (.cells #[.slice A n c, .int .i64 0, .int .u64 0] 75)
  generalize hw1 : w.alloc (.cells #[.slice A n c, .int .i64 0, .int .u64 0] 75) = w1 at hcur hb1
  have H1 := Lib.hid hcur
  have B1 := Lib.hid hb1
  have HW := Lib.hid hw1
  have hg1 := hcur.lt
  clear h hcur hb1 hw1 
  go_enter Try.func22, Try.ntmps22
  go_wp2_with fail
  rw [HW.out]
  refine (system7_any (w.heap.size) 0 (by omega) w1 H1.out).mono ?_
  rintro e w2 ⟨A', n', c', us, rfl, r1, hn', hnm, hc, hg⟩
  have H2 := Lib.hid hc
  have R1 := Lib.hid r1
  have G2 := Lib.hid hg
  have HNM := Lib.hid hnm
  clear hc r1 hg hnm
  go_wp2_with fail
  have hlt := H2.out.lt
  refine (of_any w.heap.size (0 + 100) (by omega) w2.heap.size 7 7 _ (H2.out.alloc _) (by omega) (lit_strs w2 9 #[.string ⟨#[103, 114, 97, 105, 110]⟩, .string ⟨#[99, 117, 112]⟩, .string ⟨#[112, 111, 117, 110, 100]⟩, .string ⟨#[115, 116, 111, 110, 101]⟩, .string ⟨#[98, 97, 108, 101]⟩, .string ⟨#[110, 111, 110, 101]⟩, .string ⟨#[]⟩] 7 rfl (by decide)) (by omega) (by omega)).mono ?_
  rintro e w3 ⟨s, rfl, hss, hc, hg⟩
  have R13 := Lib.hid ((R1.out.later (ext_alloc (Below.refl w2.heap.size w2) (.cells #[.string ⟨#[103, 114, 97, 105, 110]⟩, .string ⟨#[99, 117, 112]⟩, .string ⟨#[112, 111, 117, 110, 100]⟩, .string ⟨#[115, 116, 111, 110, 101]⟩, .string ⟨#[98, 97, 108, 101]⟩, .string ⟨#[110, 111, 110, 101]⟩, .string ⟨#[]⟩] 9))).kept hg (by omega))
  have G3 := Lib.hid (grownBy_trans (grownBy_any_row G2.out (ext_alloc (Below.refl w2.heap.size w2) (.cells #[.string ⟨#[103, 114, 97, 105, 110]⟩, .string ⟨#[99, 117, 112]⟩, .string ⟨#[112, 111, 117, 110, 100]⟩, .string ⟨#[115, 116, 111, 110, 101]⟩, .string ⟨#[98, 97, 108, 101]⟩, .string ⟨#[110, 111, 110, 101]⟩, .string ⟨#[]⟩] 9))) hg)
  clear hc hg
  go_wp2_with fail
  go_ret2
  exact ⟨_, _, _, us, s, rfl, DrU.of R13.out hn' HNM.out B1.out.size, hss, ext_grown B1.out G3.out (fun q e => by injection e with e; omega)⟩
end Go.Proofs.Ythigfbhkdegfkaa
