/- The text of a lesson. No condition. -/
import Derived.Test.YtnndhgeddfghcaaNum
import Derived.Test.YtnndhgeddfghcaaLesS
import Derived.Test.YtnndhgeddfghcaaHeld
namespace Go.Proofs.Ytnndhgeddfghcaa
open Go.RowKit

def Lesn.ok (x : Lesn) : Bool := lesB x.i x.c x.t x.r x.d x.b x.m
theorem les_parts {x : Lesn} (h : x.ok = true) : 1 ≤ x.i ∧ x.i ≤ 99 ∧ 1 ≤ x.c ∧ x.c ≤ 9 ∧ 1 ≤ x.t ∧ x.t ≤ 20 ∧ 1 ≤ x.r ∧ x.r ≤ 9 ∧ 0 ≤ x.d ∧ x.d ≤ 6 ∧ 480 ≤ x.b ∧ x.b ≤ 1140 ∧ 30 ≤ x.m ∧ x.m ≤ 90 := by
  unfold Lesn.ok lesB slotB at h
  simp only [Bool.and_eq_true] at h
  obtain ⟨⟨⟨⟨⟨h1, h2⟩, h3⟩, h4⟩, h5⟩, h6, h7⟩ := h
  obtain ⟨a1, a2⟩ := inB_true h1
  obtain ⟨b1, b2⟩ := inB_true h2
  obtain ⟨c1, c2⟩ := inB_true h3
  obtain ⟨d1, d2⟩ := inB_true h4
  obtain ⟨e1, e2⟩ := inB_true h5
  obtain ⟨f1, f2⟩ := inB_true h6
  unfold hasB at h7
  simp at h7
  refine ⟨a1, a2, b1, b2, c1, c2, d1, d2, e1, e2, f1, f2, ?_, ?_⟩ <;> omega
def clkB (m : Int) : ByteArray := numB (m / 60) ++ (⟨#[58]⟩ : ByteArray) ++ numB (m % 60 / 10) ++ numB (m % 10)
theorem clkB_size {m : Int} (h : m ≤ 100000) : (clkB m).size ≤ 31 := by
  unfold clkB
  have h1 := numB_size (show m / 60 ≤ 9999999999 by omega)
  have h2 := numB_size (show m % 60 / 10 ≤ 9999999999 by omega)
  have h3 := numB_size (show m % 10 ≤ 9999999999 by omega)
  simp only [ByteArray.size_append]
  have : (⟨#[58]⟩ : ByteArray).size = 1 := rfl
  omega
theorem clk_lo {m : Int} (h : m % 60 < 10) : numB (m / 60) ++ (⟨#[58, 48]⟩ : ByteArray) ++ numB (m % 60) = clkB m := by
  unfold clkB
  rw [show m % 60 / 10 = 0 from by omega, show m % 10 = m % 60 from by omega]
  rw [show (⟨#[58, 48]⟩ : ByteArray) = (⟨#[58]⟩ : ByteArray) ++ numB 0 from by rw [numB_lt (by omega)]; rfl, ← ByteArray.append_assoc]
theorem clk_hi {m : Int} (h : 10 ≤ m % 60) : numB (m / 60) ++ (⟨#[58]⟩ : ByteArray) ++ numB (m % 60) = clkB m := by
  unfold clkB
  rw [numB_ge h, ← ByteArray.append_assoc, show m % 60 % 10 = m % 10 from by omega, ← numB_lt (show m % 10 < 10 by omega)]
def dayB : Nat → ByteArray
  | 0 => (⟨#[109, 111]⟩ : ByteArray)
  | 1 => (⟨#[116, 117]⟩ : ByteArray)
  | 2 => (⟨#[119, 101]⟩ : ByteArray)
  | 3 => (⟨#[116, 104]⟩ : ByteArray)
  | 4 => (⟨#[102, 114]⟩ : ByteArray)
  | 5 => (⟨#[115, 97]⟩ : ByteArray)
  | _ => (⟨#[115, 117]⟩ : ByteArray)
theorem dayB_size : ∀ k, (dayB k).size = 2
  | 0 => rfl
  | 1 => rfl
  | 2 => rfl
  | 3 => rfl
  | 4 => rfl
  | 5 => rfl
  | _ + 6 => rfl
theorem day_cell (w : World) (T : TypeId) (k : Nat) (hk : k < 7) : (w.alloc (.cells #[.string (⟨#[109, 111]⟩), .string (⟨#[116, 117]⟩), .string (⟨#[119, 101]⟩), .string (⟨#[116, 104]⟩), .string (⟨#[102, 114]⟩), .string (⟨#[115, 97]⟩), .string (⟨#[115, 117]⟩)] T)).cell? ⟨w.heap.size, k, none⟩ = some (.string (dayB k)) := by
  rw [World.cell?_alloc_new]
  match k, hk with
  | 0, _ => rfl
  | 1, _ => rfl
  | 2, _ => rfl
  | 3, _ => rfl
  | 4, _ => rfl
  | 5, _ => rfl
  | 6, _ => rfl
  | k + 7, h => omega
/-- The cells of a box made for a lesson. -/
theorem box_cellsL (w : World) (T : TypeId) (x : Lesn) : (w.alloc (Obj.cells #[.int .i64 x.i, .int .i64 x.c, .int .i64 x.t, .int .i64 x.r, .int .i64 x.d, .int .i64 x.b, .int .i64 x.m] T)).cell? ⟨w.heap.size, 0, none⟩ = some (.int .i64 x.i) ∧ (w.alloc (Obj.cells #[.int .i64 x.i, .int .i64 x.c, .int .i64 x.t, .int .i64 x.r, .int .i64 x.d, .int .i64 x.b, .int .i64 x.m] T)).cell? ⟨w.heap.size, 1, none⟩ = some (.int .i64 x.c) ∧ (w.alloc (Obj.cells #[.int .i64 x.i, .int .i64 x.c, .int .i64 x.t, .int .i64 x.r, .int .i64 x.d, .int .i64 x.b, .int .i64 x.m] T)).cell? ⟨w.heap.size, 2, none⟩ = some (.int .i64 x.t) ∧ (w.alloc (Obj.cells #[.int .i64 x.i, .int .i64 x.c, .int .i64 x.t, .int .i64 x.r, .int .i64 x.d, .int .i64 x.b, .int .i64 x.m] T)).cell? ⟨w.heap.size, 3, none⟩ = some (.int .i64 x.r) ∧ (w.alloc (Obj.cells #[.int .i64 x.i, .int .i64 x.c, .int .i64 x.t, .int .i64 x.r, .int .i64 x.d, .int .i64 x.b, .int .i64 x.m] T)).cell? ⟨w.heap.size, 4, none⟩ = some (.int .i64 x.d) ∧ (w.alloc (Obj.cells #[.int .i64 x.i, .int .i64 x.c, .int .i64 x.t, .int .i64 x.r, .int .i64 x.d, .int .i64 x.b, .int .i64 x.m] T)).cell? ⟨w.heap.size, 5, none⟩ = some (.int .i64 x.b) ∧ (w.alloc (Obj.cells #[.int .i64 x.i, .int .i64 x.c, .int .i64 x.t, .int .i64 x.r, .int .i64 x.d, .int .i64 x.b, .int .i64 x.m] T)).cell? ⟨w.heap.size, 6, none⟩ = some (.int .i64 x.m) := by
  refine ⟨?_, ?_, ?_, ?_, ?_, ?_, ?_⟩ <;> go_simp
def lesStr (x : Lesn) : ByteArray := (⟨#[99, 108, 97, 115, 115, 32]⟩ : ByteArray) ++ numB x.c ++ (⟨#[32]⟩ : ByteArray) ++ dayB x.d.toNat ++ (⟨#[32]⟩ : ByteArray) ++ clkB x.b ++ (⟨#[45]⟩ : ByteArray) ++ clkB (x.b + x.m) ++ (⟨#[32, 114, 111, 111, 109, 32]⟩ : ByteArray) ++ numB x.r
def lesTextT (x : Lesn) : Value := if x.ok = true then .tuple #[.string (lesStr x), .bool true] else .tuple #[.string ⟨#[]⟩, .bool false]
theorem lesTextT_form (x : Lesn) : ∃ s ok, lesTextT x = .tuple #[.string s, .bool ok] := by
  unfold lesTextT; split <;> exact ⟨_, _, rfl⟩
theorem text_v (n : Int) {s : ByteArray} (hs : numB n = s) (h0 : 0 ≤ n) (h1 : n ≤ 9999999999) (w : World) :
    Calls Try.prog 68 #[.int .i64 n] w fun e w' => e = .returned (.string s) ∧ Below w.heap.size w w' := hs ▸ text_any n w h0 h1
theorem l1Num_v (n : Int) {s : ByteArray} (hs : numB n = s) (h0 : 0 ≤ n) (h1 : n ≤ 9999999999) (w : World) :
    Calls Try.prog 66 #[.int .i64 n] w fun e w' => e = .returned (.string s) ∧ Below w.heap.size w w' :=
  (l1Num_any n.toNat n w (Nat.le_refl _) h0 h1).mono fun _ _ ⟨he, m, hm⟩ => ⟨hs ▸ he, hm ▸ ext_drewN (Below.refl _ _) m⟩
set_option maxHeartbeats 1000000 in
theorem clock_v (m : Int) {s : ByteArray} (hs : clkB m = s) (h0 : 0 ≤ m) (h1 : m ≤ 100000) (w : World) :
    Calls Try.prog 69 #[.int .i64 m] w fun e w' => e = .returned (.string s) ∧ Below w.heap.size w w' := by
  subst hs
  have m0 : 0 ≤ m % 60 := by omega
  have m1 : m % 60 < 60 := by omega
  obtain ⟨s1, hs1⟩ : ∃ s, numB (m / 60) = s := ⟨_, rfl⟩
  obtain ⟨s2, hs2⟩ : ∃ s, numB (m % 60) = s := ⟨_, rfl⟩
  have z1 : s1.size ≤ 10 := hs1 ▸ numB_size (by omega)
  have z2 : s2.size ≤ 10 := hs2 ▸ numB_size (by omega)
  have H1 := Lib.hid hs1
  have H2 := Lib.hid hs2
  clear hs1 hs2
  by_cases hlt : m % 60 < 10
  · have HC := Lib.hid (clk_lo hlt)
    go_enter Try.func69, Try.ntmps69
    go_wp2_with fail
    refine (text_v _ H1.out (by omega) (by omega) _).mono ?_
    rintro e w1 ⟨rfl, hb1⟩
    go_wp2_with fail
    refine (text_v _ H2.out (by omega) (by omega) _).mono ?_
    rintro e w2 ⟨rfl, hb2⟩
    go_wp2
    go_ret
    exact ⟨by rw [← HC.out, H1.out, H2.out]; rfl, ext_trans hb1 hb2⟩
  · have HC := Lib.hid (clk_hi (show 10 ≤ m % 60 by omega))
    have hge : 10 ≤ m % 60 := by omega
    clear hlt
    go_enter Try.func69, Try.ntmps69
    go_wp2_with fail
    refine (text_v _ H1.out (by omega) (by omega) _).mono ?_
    rintro e w1 ⟨rfl, hb1⟩
    go_wp2_with fail
    refine (text_v _ H2.out (by omega) (by omega) _).mono ?_
    rintro e w2 ⟨rfl, hb2⟩
    go_wp2
    go_ret
    exact ⟨by rw [← HC.out, H1.out, H2.out]; rfl, ext_trans hb1 hb2⟩
set_option maxHeartbeats 1000000 in
theorem l11Clock_v (m : Int) {s : ByteArray} (hs : clkB m = s) (h0 : 0 ≤ m) (h1 : m ≤ 100000) (w : World) :
    Calls Try.prog 67 #[.int .i64 m] w fun e w' => e = .returned (.string s) ∧ Below w.heap.size w w' := by
  subst hs
  have m0 : 0 ≤ m % 60 := by omega
  have m1 : m % 60 < 60 := by omega
  obtain ⟨s1, hs1⟩ : ∃ s, numB (m / 60) = s := ⟨_, rfl⟩
  obtain ⟨s2, hs2⟩ : ∃ s, numB (m % 60 / 10) = s := ⟨_, rfl⟩
  obtain ⟨s3, hs3⟩ : ∃ s, numB (m % 10) = s := ⟨_, rfl⟩
  have z1 : s1.size ≤ 10 := hs1 ▸ numB_size (by omega)
  have z2 : s2.size ≤ 10 := hs2 ▸ numB_size (by omega)
  have z3 : s3.size ≤ 10 := hs3 ▸ numB_size (by omega)
  have H1 := Lib.hid hs1
  have H2 := Lib.hid hs2
  have H3 := Lib.hid hs3
  clear hs1 hs2 hs3
  go_enter Try.func67, Try.ntmps67
  go_wp2_with fail
  refine (l1Num_v _ H1.out (by omega) (by omega) _).mono ?_
  rintro e w1 ⟨rfl, hb1⟩
  go_wp2_with fail
  refine (l1Num_v _ H2.out (by omega) (by omega) _).mono ?_
  rintro e w2 ⟨rfl, hb2⟩
  go_wp2_with fail
  refine (l1Num_v _ H3.out (by omega) (by omega) _).mono ?_
  rintro e w3 ⟨rfl, hb3⟩
  go_wp2
  go_ret
  exact ⟨by unfold clkB; rw [H1.out, H2.out, H3.out]; rfl, ext_trans (ext_trans hb1 hb2) hb3⟩
set_option maxHeartbeats 1000000 in
theorem end_any (x : Lesn) (hb : 0 ≤ x.b) (hb2 : x.b ≤ 100000) (hm : -100000 ≤ x.m) (hm2 : x.m ≤ 100000) (w : World) :
    Calls Try.prog 70 #[.agg #[.int .i64 x.i, .int .i64 x.c, .int .i64 x.t, .int .i64 x.r, .int .i64 x.d, .int .i64 x.b, .int .i64 x.m]] w fun e w' => e = .returned (.int .i64 (x.b + x.m)) ∧ Below w.heap.size w w' := by
  go_enter Try.func70, Try.ntmps70
  go_wp2
  go_ret
  exact ⟨rfl, by repeat (first | exact Below.refl _ _ | refine ext_alloc ?_ _)⟩
set_option maxHeartbeats 4000000 in
theorem iLessonText_any (x : Lesn) (w : World) :
    Calls Try.prog 19 #[.agg #[.int .i64 x.i, .int .i64 x.c, .int .i64 x.t, .int .i64 x.r, .int .i64 x.d, .int .i64 x.b, .int .i64 x.m]] w fun e w' => e = .returned (lesTextT x) ∧ Below w.heap.size w w' := by
  cases hok : x.ok
  · rw [show lesTextT x = .tuple #[.string ⟨#[]⟩, .bool false] from by simp [lesTextT, hok]]
    have hok' : lesB x.i x.c x.t x.r x.d x.b x.m = false := hok
    go_enter Try.func19, Try.ntmps19
    go_wp2_with fail
    refine (iIsLesson_any _ _ _ _ _ _ _ _).mono ?_
    rintro e w1 ⟨rfl, hb1⟩
    rw [hok']
    go_wp2_with fail
    go_ret2
    exact ⟨rfl, ext_trans (ext_alloc (Below.refl _ _) _) hb1⟩
  · rw [show lesTextT x = .tuple #[.string (lesStr x), .bool true] from by simp [lesTextT, hok]]
    obtain ⟨_, _, c0, c1, _, _, r0, r1, d0, d1, b0, b1, m0, m1⟩ := les_parts hok
    have HOK := Lib.hid (show lesB x.i x.c x.t x.r x.d x.b x.m = true from hok)
    clear hok
    obtain ⟨sc, hsc⟩ : ∃ s, numB x.c = s := ⟨_, rfl⟩
    obtain ⟨sr, hsr⟩ : ∃ s, numB x.r = s := ⟨_, rfl⟩
    obtain ⟨sb, hsb⟩ : ∃ s, clkB x.b = s := ⟨_, rfl⟩
    obtain ⟨se, hse⟩ : ∃ s, clkB (x.b + x.m) = s := ⟨_, rfl⟩
    obtain ⟨sd, hsd⟩ : ∃ s, dayB x.d.toNat = s := ⟨_, rfl⟩
    have zc : sc.size ≤ 10 := hsc ▸ numB_size (by omega)
    have zr : sr.size ≤ 10 := hsr ▸ numB_size (by omega)
    have zb : sb.size ≤ 31 := hsb ▸ clkB_size (by omega)
    have ze : se.size ≤ 31 := hse ▸ clkB_size (by omega)
    have zd : sd.size ≤ 2 := hsd ▸ Nat.le_of_eq (dayB_size _)
    have HC := Lib.hid hsc
    have HR := Lib.hid hsr
    have HB := Lib.hid hsb
    have HE := Lib.hid hse
    have HD := Lib.hid hsd
    have dk : x.d.toNat < 7 := by omega
    have wbm : IntKind.i64.wrap (x.b + x.m) = x.b + x.m := IntWalk.i64_in _ ⟨by omega, by omega⟩
    have HW := Lib.hid wbm
    clear hsc hsr hsb hse hsd wbm
    go_enter Try.func19, Try.ntmps19
    go_wp2_with fail
    refine (iIsLesson_any _ _ _ _ _ _ _ _).mono ?_
    rintro e w1 ⟨rfl, hb1⟩
    rw [HOK.out]
    have hday := day_cell w1 9 x.d.toNat dk
    rw [HD.out] at hday
    obtain ⟨x0, x1, x2, x3, x4, x5, x6⟩ := box_cellsL w 25 x
    have k0 := below_cell hb1 x0
    have k1 := below_cell hb1 x1
    have k2 := below_cell hb1 x2
    have k3 := below_cell hb1 x3
    have k4 := below_cell hb1 x4
    have k5 := below_cell hb1 x5
    have k6 := below_cell hb1 x6
    have HB1 := Lib.hid (ext_trans (ext_alloc (Below.refl w.heap.size w) _) hb1)
    have hz : w.heap.size < w1.heap.size := World.block_lt_of_cell? _ _ k0
    have d7 : x.d < 7 := by omega
    clear x0 x1 x2 x3 x4 x5 x6 hb1
    go_wp2
    obtain ⟨w3, hW3⟩ : ∃ w3, w3 = w1.alloc (Obj.cells #[.string (⟨#[109, 111]⟩), .string (⟨#[116, 117]⟩), .string (⟨#[119, 101]⟩), .string (⟨#[116, 104]⟩), .string (⟨#[102, 114]⟩), .string (⟨#[115, 97]⟩), .string (⟨#[115, 117]⟩)] 9) := ⟨_, rfl⟩
    rw [← hW3]
    have HB3 := Lib.hid (show Below w.heap.size w w3 from hW3 ▸ ext_alloc HB1.out _)
    have b13 : Below w1.heap.size w1 w3 := hW3 ▸ ext_alloc (Below.refl _ _) _
    have g0 := below_cell b13 k0
    have g1 := below_cell b13 k1
    have g2 := below_cell b13 k2
    have g3 := below_cell b13 k3
    have g4 := below_cell b13 k4
    have g5 := below_cell b13 k5
    have g6 := below_cell b13 k6
    clear k0 k1 k2 k3 k4 k5 k6 b13 hday hW3
    
    have hself : Below w3.heap.size w3 w3.drew := ext_drew (Below.refl _ _)
    refine wp_region_held_drew (S := (fun w' => w'.cell? ⟨w.heap.size, 0, none⟩ = some (.int .i64 x.i) ∧ w'.cell? ⟨w.heap.size, 1, none⟩ = some (.int .i64 x.c) ∧ w'.cell? ⟨w.heap.size, 2, none⟩ = some (.int .i64 x.t) ∧ w'.cell? ⟨w.heap.size, 3, none⟩ = some (.int .i64 x.r) ∧ w'.cell? ⟨w.heap.size, 4, none⟩ = some (.int .i64 x.d) ∧ w'.cell? ⟨w.heap.size, 5, none⟩ = some (.int .i64 x.b) ∧ w'.cell? ⟨w.heap.size, 6, none⟩ = some (.int .i64 x.m) ∧ Below w3.heap.size w3 w')) (by kernel_rfl) ?_ (fun hHeld => ?_)
    · (try dsimp only); (first | (go_keep; done) | ((try go_split_ands); (repeat' apply And.intro); all_goals first | exact ext_drew (Below.refl _ _) | exact below_cell (by assumption) (by assumption) | (refine ext_trans ?_ (by assumption); assumption) | assumption))
    refine wpAnyH_takeD (i := 0) (v := ?_) 13 rfl rfl (by kernel_rfl) (by kernel_rfl) (by kernel_rfl) (fun _ _ _ _ _ h => h) (by rfl) (by assumption) ?_ ?_
    rotate_left; focus (intro w hSw; (try dsimp only at hSw); go_simp; first | done | (with_reducible rfl) | (rw [if_neg (by omega)]; done) | (rw [if_neg (by omega)]; with_reducible rfl))
    try simp only [Act.put, List.setIfInBounds_toArray, List.set_cons_zero, List.set_cons_succ]
    refine wpAnyH_takeD (i := 1) (v := ?_) 14 rfl rfl (by kernel_rfl) (by kernel_rfl) (by kernel_rfl) (fun _ _ _ _ _ h => h) (by rfl) (by assumption) ?_ ?_
    rotate_left; focus (intro w hSw; (try dsimp only at hSw); go_simp; first | done | (with_reducible rfl) | (rw [if_neg (by omega)]; done) | (rw [if_neg (by omega)]; with_reducible rfl))
    try simp only [Act.put, List.setIfInBounds_toArray, List.set_cons_zero, List.set_cons_succ]
    refine wpAnyH_takeD (i := 5) (v := ?_) 18 rfl rfl (by kernel_rfl) (by kernel_rfl) (by kernel_rfl) (fun _ _ _ _ _ h => h) (by rfl) (by assumption) ?_ ?_
    rotate_left; focus (intro w hSw; (try dsimp only at hSw); go_simp; first | done | (with_reducible rfl) | (rw [if_neg (by omega)]; done) | (rw [if_neg (by omega)]; with_reducible rfl))
    try simp only [Act.put, List.setIfInBounds_toArray, List.set_cons_zero, List.set_cons_succ]
    refine wpAnyH_takeD (i := 8) (v := ?_) 21 rfl rfl (by kernel_rfl) (by kernel_rfl) (by kernel_rfl) (fun _ _ _ _ _ h => h) (by rfl) (by assumption) ?_ ?_
    rotate_left; focus (intro w hSw; (try dsimp only at hSw); go_simp; first | done | (with_reducible rfl) | (rw [if_neg (by omega)]; done) | (rw [if_neg (by omega)]; with_reducible rfl))
    try simp only [Act.put, List.setIfInBounds_toArray, List.set_cons_zero, List.set_cons_succ]
    refine wpAnyH_takeD (i := 9) (v := ?_) 22 rfl rfl (by kernel_rfl) (by kernel_rfl) (by kernel_rfl) (fun _ _ _ _ _ h => h) (by rfl) (by assumption) ?_ ?_
    rotate_left; focus (intro w hSw; (try dsimp only at hSw); go_simp; first | done | (with_reducible rfl) | (rw [if_neg (by omega)]; done) | (rw [if_neg (by omega)]; with_reducible rfl))
    try simp only [Act.put, List.setIfInBounds_toArray, List.set_cons_zero, List.set_cons_succ]
    refine wpAnyH_takeD (i := 13) (v := ?_) 26 rfl rfl (by kernel_rfl) (by kernel_rfl) (by kernel_rfl) (fun _ _ _ _ _ h => h) (by rfl) (by assumption) ?_ ?_
    rotate_left; focus (intro w hSw; (try dsimp only at hSw); go_simp; first | done | (with_reducible rfl) | (rw [if_neg (by omega)]; done) | (rw [if_neg (by omega)]; with_reducible rfl))
    try simp only [Act.put, List.setIfInBounds_toArray, List.set_cons_zero, List.set_cons_succ]
    refine wpAnyH_takeD (i := 18) (v := ?_) 31 rfl rfl (by kernel_rfl) (by kernel_rfl) (by kernel_rfl) (fun _ _ _ _ _ h => h) (by rfl) (by assumption) ?_ ?_
    rotate_left; focus (intro w hSw; (try dsimp only at hSw); go_simp; first | done | (with_reducible rfl) | (rw [if_neg (by omega)]; done) | (rw [if_neg (by omega)]; with_reducible rfl))
    try simp only [Act.put, List.setIfInBounds_toArray, List.set_cons_zero, List.set_cons_succ]
    refine wpAnyH_takeD (i := 19) (v := ?_) 32 rfl rfl (by kernel_rfl) (by kernel_rfl) (by kernel_rfl) (fun _ _ _ _ _ h => h) (by rfl) (by assumption) ?_ ?_
    rotate_left; focus (intro w hSw; (try dsimp only at hSw); go_simp; first | done | (with_reducible rfl) | (rw [if_neg (by omega)]; done) | (rw [if_neg (by omega)]; with_reducible rfl))
    try simp only [Act.put, List.setIfInBounds_toArray, List.set_cons_zero, List.set_cons_succ]
    refine wpAnyH_ready (rs := [2]) (by kernel_rfl) (by simp) ?_
    refine AllReadyH.cons rfl (fun K hK => ?_) AllReadyH.nil
    go_simp; (go_at_call 68; refine (text_v _ HC.out (by omega) (by omega) _).mono ?_; rintro e w' ⟨rfl, hb'⟩); (try dsimp only)
    refine hK.out _ _ ?_ (fun hHeld => ?_)
    focus ((try dsimp only); (first | (go_keep; done) | ((try go_split_ands); (repeat' apply And.intro); all_goals first | exact ext_drew (Below.refl _ _) | exact below_cell (by assumption) (by assumption) | (refine ext_trans ?_ (by assumption); assumption) | assumption)))
    clear hK K; try simp only [Act.put, List.setIfInBounds_toArray, List.set_cons_zero, List.set_cons_succ]
    refine wpAnyH_takeD (i := 3) (v := ?_) 16 rfl rfl (by kernel_rfl) (by kernel_rfl) (by kernel_rfl) (fun _ _ _ _ _ h => h) (by rfl) (by assumption) ?_ ?_
    rotate_left; focus (intro w hSw; (try dsimp only at hSw); go_simp; first | done | (with_reducible rfl) | (rw [if_neg (by omega)]; done) | (rw [if_neg (by omega)]; with_reducible rfl))
    try simp only [Act.put, List.setIfInBounds_toArray, List.set_cons_zero, List.set_cons_succ]
    refine wpAnyH_takeD (i := 4) (v := ?_) 17 rfl rfl (by kernel_rfl) (by kernel_rfl) (by kernel_rfl) (fun _ _ _ _ _ h => h) (by rfl) (by assumption) ?_ ?_
    rotate_left; focus (intro w hSw; (try dsimp only at hSw); go_simp; first | done | (with_reducible rfl) | (rw [if_neg (by omega)]; done) | (rw [if_neg (by omega)]; with_reducible rfl))
    try simp only [Act.put, List.setIfInBounds_toArray, List.set_cons_zero, List.set_cons_succ]
    refine wpAnyH_takeD (i := 6) (v := ?_) 19 rfl rfl (by kernel_rfl) (by kernel_rfl) (by kernel_rfl) (fun _ _ _ _ _ h => h) (by rfl) (by assumption) ?_ ?_
    rotate_left; focus (intro w hSw; (try dsimp only at hSw); go_simp; first | done | (with_reducible rfl) | (rw [if_neg (by omega)]; done) | (rw [if_neg (by omega)]; with_reducible rfl))
    try simp only [Act.put, List.setIfInBounds_toArray, List.set_cons_zero, List.set_cons_succ]
    refine wpAnyH_takeD (i := 7) (v := ?_) 20 rfl rfl (by kernel_rfl) (by kernel_rfl) (by kernel_rfl) (fun _ _ _ _ _ h => h) (by rfl) (by assumption) ?_ ?_
    rotate_left; focus (intro w hSw; (try dsimp only at hSw); go_simp; first | done | (with_reducible rfl) | (rw [if_neg (by omega)]; done) | (rw [if_neg (by omega)]; with_reducible rfl))
    try simp only [Act.put, List.setIfInBounds_toArray, List.set_cons_zero, List.set_cons_succ]
    refine wpAnyH_ready (rs := [10]) (by kernel_rfl) (by simp) ?_
    refine AllReadyH.cons rfl (fun K hK => ?_) AllReadyH.nil
    go_simp; (go_at_call 69; refine (clock_v _ HB.out (by omega) (by omega) _).mono ?_; rintro e w' ⟨rfl, hb'⟩); (try dsimp only)
    refine hK.out _ _ ?_ (fun hHeld => ?_)
    focus ((try dsimp only); (first | (go_keep; done) | ((try go_split_ands); (repeat' apply And.intro); all_goals first | exact ext_drew (Below.refl _ _) | exact below_cell (by assumption) (by assumption) | (refine ext_trans ?_ (by assumption); assumption) | assumption)))
    clear hK K; try simp only [Act.put, List.setIfInBounds_toArray, List.set_cons_zero, List.set_cons_succ]
    refine wpAnyH_takeD (i := 11) (v := ?_) 24 rfl rfl (by kernel_rfl) (by kernel_rfl) (by kernel_rfl) (fun _ _ _ _ _ h => h) (by rfl) (by assumption) ?_ ?_
    rotate_left; focus (intro w hSw; (try dsimp only at hSw); go_simp; first | done | (with_reducible rfl) | (rw [if_neg (by omega)]; done) | (rw [if_neg (by omega)]; with_reducible rfl))
    try simp only [Act.put, List.setIfInBounds_toArray, List.set_cons_zero, List.set_cons_succ]
    refine wpAnyH_takeD (i := 12) (v := ?_) 25 rfl rfl (by kernel_rfl) (by kernel_rfl) (by kernel_rfl) (fun _ _ _ _ _ h => h) (by rfl) (by assumption) ?_ ?_
    rotate_left; focus (intro w hSw; (try dsimp only at hSw); go_simp; first | done | (with_reducible rfl) | (rw [if_neg (by omega)]; done) | (rw [if_neg (by omega)]; with_reducible rfl))
    try simp only [Act.put, List.setIfInBounds_toArray, List.set_cons_zero, List.set_cons_succ]
    refine wpAnyH_ready (rs := [14]) (by kernel_rfl) (by simp) ?_
    refine AllReadyH.cons rfl (fun K hK => ?_) AllReadyH.nil
    go_simp; (go_at_call 70; refine (end_any x (by omega) (by omega) (by omega) (by omega) _).mono ?_; rintro e w' ⟨rfl, hb'⟩); (try dsimp only)
    refine hK.out _ _ ?_ (fun hHeld => ?_)
    focus ((try dsimp only); (first | (go_keep; done) | ((try go_split_ands); (repeat' apply And.intro); all_goals first | exact ext_drew (Below.refl _ _) | exact below_cell (by assumption) (by assumption) | (refine ext_trans ?_ (by assumption); assumption) | assumption)))
    clear hK K; try simp only [Act.put, List.setIfInBounds_toArray, List.set_cons_zero, List.set_cons_succ]
    refine wpAnyH_ready (rs := [15]) (by kernel_rfl) (by simp) ?_
    refine AllReadyH.cons rfl (fun K hK => ?_) AllReadyH.nil
    go_simp; (go_at_call 69; refine (clock_v _ HE.out (by omega) (by omega) _).mono ?_; rintro e w' ⟨rfl, hb'⟩); (try dsimp only)
    refine hK.out _ _ ?_ (fun hHeld => ?_)
    focus ((try dsimp only); (first | (go_keep; done) | ((try go_split_ands); (repeat' apply And.intro); all_goals first | exact ext_drew (Below.refl _ _) | exact below_cell (by assumption) (by assumption) | (refine ext_trans ?_ (by assumption); assumption) | assumption)))
    clear hK K; try simp only [Act.put, List.setIfInBounds_toArray, List.set_cons_zero, List.set_cons_succ]
    refine wpAnyH_takeD (i := 16) (v := ?_) 29 rfl rfl (by kernel_rfl) (by kernel_rfl) (by kernel_rfl) (fun _ _ _ _ _ h => h) (by rfl) (by assumption) ?_ ?_
    rotate_left; focus (intro w hSw; (try dsimp only at hSw); go_simp; first | done | (with_reducible rfl) | (rw [if_neg (by omega)]; done) | (rw [if_neg (by omega)]; with_reducible rfl))
    try simp only [Act.put, List.setIfInBounds_toArray, List.set_cons_zero, List.set_cons_succ]
    refine wpAnyH_takeD (i := 17) (v := ?_) 30 rfl rfl (by kernel_rfl) (by kernel_rfl) (by kernel_rfl) (fun _ _ _ _ _ h => h) (by rfl) (by assumption) ?_ ?_
    rotate_left; focus (intro w hSw; (try dsimp only at hSw); go_simp; first | done | (with_reducible rfl) | (rw [if_neg (by omega)]; done) | (rw [if_neg (by omega)]; with_reducible rfl))
    try simp only [Act.put, List.setIfInBounds_toArray, List.set_cons_zero, List.set_cons_succ]
    refine wpAnyH_ready (rs := [20]) (by kernel_rfl) (by simp) ?_
    refine AllReadyH.cons rfl (fun K hK => ?_) AllReadyH.nil
    go_simp; (go_at_call 68; refine (text_v _ HR.out (by omega) (by omega) _).mono ?_; rintro e w' ⟨rfl, hb'⟩); (try dsimp only)
    refine hK.out _ _ ?_ (fun hHeld => ?_)
    focus ((try dsimp only); (first | (go_keep; done) | ((try go_split_ands); (repeat' apply And.intro); all_goals first | exact ext_drew (Below.refl _ _) | exact below_cell (by assumption) (by assumption) | (refine ext_trans ?_ (by assumption); assumption) | assumption)))
    clear hK K; try simp only [Act.put, List.setIfInBounds_toArray, List.set_cons_zero, List.set_cons_succ]
    refine wpAnyH_takeD (i := 21) (v := ?_) 34 rfl rfl (by kernel_rfl) (by kernel_rfl) (by kernel_rfl) (fun _ _ _ _ _ h => h) (by rfl) (by assumption) ?_ ?_
    rotate_left; focus (intro w hSw; (try dsimp only at hSw); go_simp; first | done | (with_reducible rfl) | (rw [if_neg (by omega)]; done) | (rw [if_neg (by omega)]; with_reducible rfl))
    try simp only [Act.put, List.setIfInBounds_toArray, List.set_cons_zero, List.set_cons_succ]
    refine wpAnyH_takeD (i := 22) (v := ?_) 2 rfl rfl (by kernel_rfl) (by kernel_rfl) (by kernel_rfl) (fun _ _ _ _ _ h => h) (by rfl) (by assumption) ?_ ?_
    rotate_left; focus (intro w hSw; (try dsimp only at hSw); go_simp; first | done | (with_reducible rfl) | (rw [if_neg (by omega)]; done) | (rw [if_neg (by omega)]; with_reducible rfl))
    try simp only [Act.put, List.setIfInBounds_toArray, List.set_cons_zero, List.set_cons_succ]
    refine wpAnyH_takeD (i := 23) (v := ?_) 3 rfl rfl (by kernel_rfl) (by kernel_rfl) (by kernel_rfl) (fun _ _ _ _ _ h => h) (by rfl) (by assumption) ?_ ?_
    rotate_left; focus (intro w hSw; (try dsimp only at hSw); go_simp; first | done | (with_reducible rfl) | (rw [if_neg (by omega)]; done) | (rw [if_neg (by omega)]; with_reducible rfl))
    try simp only [Act.put, List.setIfInBounds_toArray, List.set_cons_zero, List.set_cons_succ]
    refine wpAnyH_done (by kernel_rfl) ?_ _
    have rb := hHeld.2.2.2.2.2.2.2
    have HBB := Lib.hid (ext_trans HB3.out rb)
    clear hself rb hHeld
    
    have HS := Lib.hid (show lesStr x = (⟨#[99, 108, 97, 115, 115, 32]⟩ : ByteArray) ++ sc ++ (⟨#[32]⟩ : ByteArray) ++ sd ++ (⟨#[32]⟩ : ByteArray) ++ sb ++ (⟨#[45]⟩ : ByteArray) ++ se ++ (⟨#[32, 114, 111, 111, 109, 32]⟩ : ByteArray) ++ sr by unfold lesStr; rw [HC.out, HD.out, HB.out, HE.out, HR.out])
    go_wp2
    go_ret2
    exact ⟨by rw [HS.out]; rfl, HBB.out⟩
set_option maxHeartbeats 4000000 in
theorem sLessonText_any (x : Lesn) (w : World) :
    Calls Try.prog 18 #[.agg #[.int .i64 x.i, .int .i64 x.c, .int .i64 x.t, .int .i64 x.r, .int .i64 x.d, .int .i64 x.b, .int .i64 x.m]] w fun e w' => e = .returned (lesTextT x) ∧ Below w.heap.size w w' := by
  cases hok : x.ok
  · rw [show lesTextT x = .tuple #[.string ⟨#[]⟩, .bool false] from by simp [lesTextT, hok]]
    have hok' : lesB x.i x.c x.t x.r x.d x.b x.m = false := hok
    go_enter Try.func18, Try.ntmps18
    go_wp2_with fail
    refine (l11One_any _ _ _ _ _ _ _ _).mono ?_
    rintro e w1 ⟨rfl, hb1⟩
    rw [hok']
    go_wp2_with fail
    go_ret2
    exact ⟨rfl, ext_trans (ext_alloc (Below.refl _ _) _) hb1⟩
  · rw [show lesTextT x = .tuple #[.string (lesStr x), .bool true] from by simp [lesTextT, hok]]
    obtain ⟨_, _, c0, c1, _, _, r0, r1, d0, d1, b0, b1, m0, m1⟩ := les_parts hok
    have HOK := Lib.hid (show lesB x.i x.c x.t x.r x.d x.b x.m = true from hok)
    clear hok
    obtain ⟨sc, hsc⟩ : ∃ s, numB x.c = s := ⟨_, rfl⟩
    obtain ⟨sr, hsr⟩ : ∃ s, numB x.r = s := ⟨_, rfl⟩
    obtain ⟨sb, hsb⟩ : ∃ s, clkB x.b = s := ⟨_, rfl⟩
    obtain ⟨se, hse⟩ : ∃ s, clkB (x.b + x.m) = s := ⟨_, rfl⟩
    obtain ⟨sd, hsd⟩ : ∃ s, dayB x.d.toNat = s := ⟨_, rfl⟩
    have zc : sc.size ≤ 10 := hsc ▸ numB_size (by omega)
    have zr : sr.size ≤ 10 := hsr ▸ numB_size (by omega)
    have zb : sb.size ≤ 31 := hsb ▸ clkB_size (by omega)
    have ze : se.size ≤ 31 := hse ▸ clkB_size (by omega)
    have zd : sd.size ≤ 2 := hsd ▸ Nat.le_of_eq (dayB_size _)
    have HC := Lib.hid hsc
    have HR := Lib.hid hsr
    have HB := Lib.hid hsb
    have HE := Lib.hid hse
    have HD := Lib.hid hsd
    have dk : x.d.toNat < 7 := by omega
    have wbm : IntKind.i64.wrap (x.b + x.m) = x.b + x.m := IntWalk.i64_in _ ⟨by omega, by omega⟩
    have HW := Lib.hid wbm
    clear hsc hsr hsb hse hsd wbm
    go_enter Try.func18, Try.ntmps18
    go_wp2_with fail
    refine (l11One_any _ _ _ _ _ _ _ _).mono ?_
    rintro e w1 ⟨rfl, hb1⟩
    rw [HOK.out]
    have hday := day_cell w1 9 x.d.toNat dk
    rw [HD.out] at hday
    obtain ⟨x0, x1, x2, x3, x4, x5, x6⟩ := box_cellsL w 25 x
    have k0 := below_cell hb1 x0
    have k1 := below_cell hb1 x1
    have k2 := below_cell hb1 x2
    have k3 := below_cell hb1 x3
    have k4 := below_cell hb1 x4
    have k5 := below_cell hb1 x5
    have k6 := below_cell hb1 x6
    have HB1 := Lib.hid (ext_trans (ext_alloc (Below.refl w.heap.size w) _) hb1)
    have hz : w.heap.size < w1.heap.size := World.block_lt_of_cell? _ _ k0
    have d7 : x.d < 7 := by omega
    clear x0 x1 x2 x3 x4 x5 x6 hb1
    go_wp2
    obtain ⟨w3, hW3⟩ : ∃ w3, w3 = w1.alloc (Obj.cells #[.string (⟨#[109, 111]⟩), .string (⟨#[116, 117]⟩), .string (⟨#[119, 101]⟩), .string (⟨#[116, 104]⟩), .string (⟨#[102, 114]⟩), .string (⟨#[115, 97]⟩), .string (⟨#[115, 117]⟩)] 9) := ⟨_, rfl⟩
    rw [← hW3]
    have HB3 := Lib.hid (show Below w.heap.size w w3 from hW3 ▸ ext_alloc HB1.out _)
    have b13 : Below w1.heap.size w1 w3 := hW3 ▸ ext_alloc (Below.refl _ _) _
    have g0 := below_cell b13 k0
    have g1 := below_cell b13 k1
    have g2 := below_cell b13 k2
    have g3 := below_cell b13 k3
    have g4 := below_cell b13 k4
    have g5 := below_cell b13 k5
    have g6 := below_cell b13 k6
    clear k0 k1 k2 k3 k4 k5 k6 b13 hday hW3
    have w1 : IntKind.i64.wrap (x.b + x.m) = x.b + x.m := HW.out
    have hself : Below w3.heap.size w3 w3.drew := ext_drew (Below.refl _ _)
    refine wp_region_held_drew (S := (fun w' => w'.cell? ⟨w.heap.size, 0, none⟩ = some (.int .i64 x.i) ∧ w'.cell? ⟨w.heap.size, 1, none⟩ = some (.int .i64 x.c) ∧ w'.cell? ⟨w.heap.size, 2, none⟩ = some (.int .i64 x.t) ∧ w'.cell? ⟨w.heap.size, 3, none⟩ = some (.int .i64 x.r) ∧ w'.cell? ⟨w.heap.size, 4, none⟩ = some (.int .i64 x.d) ∧ w'.cell? ⟨w.heap.size, 5, none⟩ = some (.int .i64 x.b) ∧ w'.cell? ⟨w.heap.size, 6, none⟩ = some (.int .i64 x.m) ∧ Below w3.heap.size w3 w')) (by kernel_rfl) ?_ (fun hHeld => ?_)
    · (try dsimp only); (first | (go_keep; done) | ((try go_split_ands); (repeat' apply And.intro); all_goals first | exact ext_drew (Below.refl _ _) | exact below_cell (by assumption) (by assumption) | (refine ext_trans ?_ (by assumption); assumption) | assumption))
    refine wpAnyH_takeD (i := 0) (v := ?_) 13 rfl rfl (by kernel_rfl) (by kernel_rfl) (by kernel_rfl) (fun _ _ _ _ _ h => h) (by rfl) (by assumption) ?_ ?_
    rotate_left; focus (intro w hSw; (try dsimp only at hSw); go_simp; first | done | (with_reducible rfl) | (rw [if_neg (by omega)]; done) | (rw [if_neg (by omega)]; with_reducible rfl))
    try simp only [Act.put, List.setIfInBounds_toArray, List.set_cons_zero, List.set_cons_succ]
    refine wpAnyH_takeD (i := 1) (v := ?_) 14 rfl rfl (by kernel_rfl) (by kernel_rfl) (by kernel_rfl) (fun _ _ _ _ _ h => h) (by rfl) (by assumption) ?_ ?_
    rotate_left; focus (intro w hSw; (try dsimp only at hSw); go_simp; first | done | (with_reducible rfl) | (rw [if_neg (by omega)]; done) | (rw [if_neg (by omega)]; with_reducible rfl))
    try simp only [Act.put, List.setIfInBounds_toArray, List.set_cons_zero, List.set_cons_succ]
    refine wpAnyH_takeD (i := 5) (v := ?_) 18 rfl rfl (by kernel_rfl) (by kernel_rfl) (by kernel_rfl) (fun _ _ _ _ _ h => h) (by rfl) (by assumption) ?_ ?_
    rotate_left; focus (intro w hSw; (try dsimp only at hSw); go_simp; first | done | (with_reducible rfl) | (rw [if_neg (by omega)]; done) | (rw [if_neg (by omega)]; with_reducible rfl))
    try simp only [Act.put, List.setIfInBounds_toArray, List.set_cons_zero, List.set_cons_succ]
    refine wpAnyH_takeD (i := 8) (v := ?_) 21 rfl rfl (by kernel_rfl) (by kernel_rfl) (by kernel_rfl) (fun _ _ _ _ _ h => h) (by rfl) (by assumption) ?_ ?_
    rotate_left; focus (intro w hSw; (try dsimp only at hSw); go_simp; first | done | (with_reducible rfl) | (rw [if_neg (by omega)]; done) | (rw [if_neg (by omega)]; with_reducible rfl))
    try simp only [Act.put, List.setIfInBounds_toArray, List.set_cons_zero, List.set_cons_succ]
    refine wpAnyH_takeD (i := 9) (v := ?_) 22 rfl rfl (by kernel_rfl) (by kernel_rfl) (by kernel_rfl) (fun _ _ _ _ _ h => h) (by rfl) (by assumption) ?_ ?_
    rotate_left; focus (intro w hSw; (try dsimp only at hSw); go_simp; first | done | (with_reducible rfl) | (rw [if_neg (by omega)]; done) | (rw [if_neg (by omega)]; with_reducible rfl))
    try simp only [Act.put, List.setIfInBounds_toArray, List.set_cons_zero, List.set_cons_succ]
    refine wpAnyH_takeD (i := 13) (v := ?_) 26 rfl rfl (by kernel_rfl) (by kernel_rfl) (by kernel_rfl) (fun _ _ _ _ _ h => h) (by rfl) (by assumption) ?_ ?_
    rotate_left; focus (intro w hSw; (try dsimp only at hSw); go_simp; first | done | (with_reducible rfl) | (rw [if_neg (by omega)]; done) | (rw [if_neg (by omega)]; with_reducible rfl))
    try simp only [Act.put, List.setIfInBounds_toArray, List.set_cons_zero, List.set_cons_succ]
    refine wpAnyH_takeD (i := 14) (v := ?_) 27 rfl rfl (by kernel_rfl) (by kernel_rfl) (by kernel_rfl) (fun _ _ _ _ _ h => h) (by rfl) (by assumption) ?_ ?_
    rotate_left; focus (intro w hSw; (try dsimp only at hSw); go_simp; first | done | (with_reducible rfl) | (rw [if_neg (by omega)]; done) | (rw [if_neg (by omega)]; with_reducible rfl))
    try simp only [Act.put, List.setIfInBounds_toArray, List.set_cons_zero, List.set_cons_succ]
    refine wpAnyH_takeD (i := 15) (v := ?_) 28 rfl rfl (by kernel_rfl) (by kernel_rfl) (by kernel_rfl) (fun _ _ _ _ _ h => h) (by rfl) (by assumption) ?_ ?_
    rotate_left; focus (intro w hSw; (try dsimp only at hSw); go_simp; first | done | (with_reducible rfl) | (rw [if_neg (by omega)]; done) | (rw [if_neg (by omega)]; with_reducible rfl))
    try simp only [Act.put, List.setIfInBounds_toArray, List.set_cons_zero, List.set_cons_succ]
    refine wpAnyH_takeD (i := 16) (v := ?_) 29 rfl rfl (by kernel_rfl) (by kernel_rfl) (by kernel_rfl) (fun _ _ _ _ _ h => h) (by rfl) (by assumption) ?_ ?_
    rotate_left; focus (intro w hSw; (try dsimp only at hSw); go_simp; first | done | (with_reducible rfl) | (rw [if_neg (by omega)]; done) | (rw [if_neg (by omega)]; with_reducible rfl))
    try simp only [Act.put, List.setIfInBounds_toArray, List.set_cons_zero, List.set_cons_succ]
    refine wpAnyH_takeD (i := 17) (v := ?_) 30 rfl rfl (by kernel_rfl) (by kernel_rfl) (by kernel_rfl) (fun _ _ _ _ _ h => h) (by rfl) (by assumption) ?_ ?_
    rotate_left; focus (intro w hSw; (try dsimp only at hSw); go_simp; first | done | (with_reducible rfl) | (rw [if_neg (by omega)]; done) | (rw [if_neg (by omega)]; with_reducible rfl))
    try simp only [Act.put, List.setIfInBounds_toArray, List.set_cons_zero, List.set_cons_succ]
    refine wpAnyH_takeD (i := 21) (v := ?_) 34 rfl rfl (by kernel_rfl) (by kernel_rfl) (by kernel_rfl) (fun _ _ _ _ _ h => h) (by rfl) (by assumption) ?_ ?_
    rotate_left; focus (intro w hSw; (try dsimp only at hSw); go_simp; first | done | (with_reducible rfl) | (rw [if_neg (by omega)]; done) | (rw [if_neg (by omega)]; with_reducible rfl))
    try simp only [Act.put, List.setIfInBounds_toArray, List.set_cons_zero, List.set_cons_succ]
    refine wpAnyH_takeD (i := 22) (v := ?_) 35 rfl rfl (by kernel_rfl) (by kernel_rfl) (by kernel_rfl) (fun _ _ _ _ _ h => h) (by rfl) (by assumption) ?_ ?_
    rotate_left; focus (intro w hSw; (try dsimp only at hSw); go_simp; first | done | (with_reducible rfl) | (rw [if_neg (by omega)]; done) | (rw [if_neg (by omega)]; with_reducible rfl))
    try simp only [Act.put, List.setIfInBounds_toArray, List.set_cons_zero, List.set_cons_succ]
    refine wpAnyH_ready (rs := [2]) (by kernel_rfl) (by simp) ?_
    refine AllReadyH.cons rfl (fun K hK => ?_) AllReadyH.nil
    go_simp; (go_at_call 66; refine (l1Num_v _ HC.out (by omega) (by omega) _).mono ?_; rintro e w' ⟨rfl, hb'⟩); (try dsimp only)
    refine hK.out _ _ ?_ (fun hHeld => ?_)
    focus ((try dsimp only); (first | (go_keep; done) | ((try go_split_ands); (repeat' apply And.intro); all_goals first | exact ext_drew (Below.refl _ _) | exact below_cell (by assumption) (by assumption) | (refine ext_trans ?_ (by assumption); assumption) | assumption)))
    clear hK K; try simp only [Act.put, List.setIfInBounds_toArray, List.set_cons_zero, List.set_cons_succ]
    refine wpAnyH_takeD (i := 3) (v := ?_) 16 rfl rfl (by kernel_rfl) (by kernel_rfl) (by kernel_rfl) (fun _ _ _ _ _ h => h) (by rfl) (by assumption) ?_ ?_
    rotate_left; focus (intro w hSw; (try dsimp only at hSw); go_simp; first | done | (with_reducible rfl) | (rw [if_neg (by omega)]; done) | (rw [if_neg (by omega)]; with_reducible rfl))
    try simp only [Act.put, List.setIfInBounds_toArray, List.set_cons_zero, List.set_cons_succ]
    refine wpAnyH_takeD (i := 4) (v := ?_) 17 rfl rfl (by kernel_rfl) (by kernel_rfl) (by kernel_rfl) (fun _ _ _ _ _ h => h) (by rfl) (by assumption) ?_ ?_
    rotate_left; focus (intro w hSw; (try dsimp only at hSw); go_simp; first | done | (with_reducible rfl) | (rw [if_neg (by omega)]; done) | (rw [if_neg (by omega)]; with_reducible rfl))
    try simp only [Act.put, List.setIfInBounds_toArray, List.set_cons_zero, List.set_cons_succ]
    refine wpAnyH_takeD (i := 6) (v := ?_) 19 rfl rfl (by kernel_rfl) (by kernel_rfl) (by kernel_rfl) (fun _ _ _ _ _ h => h) (by rfl) (by assumption) ?_ ?_
    rotate_left; focus (intro w hSw; (try dsimp only at hSw); go_simp; first | done | (with_reducible rfl) | (rw [if_neg (by omega)]; done) | (rw [if_neg (by omega)]; with_reducible rfl))
    try simp only [Act.put, List.setIfInBounds_toArray, List.set_cons_zero, List.set_cons_succ]
    refine wpAnyH_takeD (i := 7) (v := ?_) 20 rfl rfl (by kernel_rfl) (by kernel_rfl) (by kernel_rfl) (fun _ _ _ _ _ h => h) (by rfl) (by assumption) ?_ ?_
    rotate_left; focus (intro w hSw; (try dsimp only at hSw); go_simp; first | done | (with_reducible rfl) | (rw [if_neg (by omega)]; done) | (rw [if_neg (by omega)]; with_reducible rfl))
    try simp only [Act.put, List.setIfInBounds_toArray, List.set_cons_zero, List.set_cons_succ]
    refine wpAnyH_ready (rs := [10]) (by kernel_rfl) (by simp) ?_
    refine AllReadyH.cons rfl (fun K hK => ?_) AllReadyH.nil
    go_simp; (go_at_call 67; refine (l11Clock_v _ HB.out (by omega) (by omega) _).mono ?_; rintro e w' ⟨rfl, hb'⟩); (try dsimp only)
    refine hK.out _ _ ?_ (fun hHeld => ?_)
    focus ((try dsimp only); (first | (go_keep; done) | ((try go_split_ands); (repeat' apply And.intro); all_goals first | exact ext_drew (Below.refl _ _) | exact below_cell (by assumption) (by assumption) | (refine ext_trans ?_ (by assumption); assumption) | assumption)))
    clear hK K; try simp only [Act.put, List.setIfInBounds_toArray, List.set_cons_zero, List.set_cons_succ]
    refine wpAnyH_takeD (i := 11) (v := ?_) 24 rfl rfl (by kernel_rfl) (by kernel_rfl) (by kernel_rfl) (fun _ _ _ _ _ h => h) (by rfl) (by assumption) ?_ ?_
    rotate_left; focus (intro w hSw; (try dsimp only at hSw); go_simp; first | done | (with_reducible rfl) | (rw [if_neg (by omega)]; done) | (rw [if_neg (by omega)]; with_reducible rfl))
    try simp only [Act.put, List.setIfInBounds_toArray, List.set_cons_zero, List.set_cons_succ]
    refine wpAnyH_takeD (i := 12) (v := ?_) 25 rfl rfl (by kernel_rfl) (by kernel_rfl) (by kernel_rfl) (fun _ _ _ _ _ h => h) (by rfl) (by assumption) ?_ ?_
    rotate_left; focus (intro w hSw; (try dsimp only at hSw); go_simp; first | done | (with_reducible rfl) | (rw [if_neg (by omega)]; done) | (rw [if_neg (by omega)]; with_reducible rfl))
    try simp only [Act.put, List.setIfInBounds_toArray, List.set_cons_zero, List.set_cons_succ]
    refine wpAnyH_ready (rs := [18]) (by kernel_rfl) (by simp) ?_
    refine AllReadyH.cons rfl (fun K hK => ?_) AllReadyH.nil
    go_simp; (go_at_call 67; refine (l11Clock_v _ HE.out (by omega) (by omega) _).mono ?_; rintro e w' ⟨rfl, hb'⟩); (try dsimp only)
    refine hK.out _ _ ?_ (fun hHeld => ?_)
    focus ((try dsimp only); (first | (go_keep; done) | ((try go_split_ands); (repeat' apply And.intro); all_goals first | exact ext_drew (Below.refl _ _) | exact below_cell (by assumption) (by assumption) | (refine ext_trans ?_ (by assumption); assumption) | assumption)))
    clear hK K; try simp only [Act.put, List.setIfInBounds_toArray, List.set_cons_zero, List.set_cons_succ]
    refine wpAnyH_takeD (i := 19) (v := ?_) 32 rfl rfl (by kernel_rfl) (by kernel_rfl) (by kernel_rfl) (fun _ _ _ _ _ h => h) (by rfl) (by assumption) ?_ ?_
    rotate_left; focus (intro w hSw; (try dsimp only at hSw); go_simp; first | done | (with_reducible rfl) | (rw [if_neg (by omega)]; done) | (rw [if_neg (by omega)]; with_reducible rfl))
    try simp only [Act.put, List.setIfInBounds_toArray, List.set_cons_zero, List.set_cons_succ]
    refine wpAnyH_takeD (i := 20) (v := ?_) 33 rfl rfl (by kernel_rfl) (by kernel_rfl) (by kernel_rfl) (fun _ _ _ _ _ h => h) (by rfl) (by assumption) ?_ ?_
    rotate_left; focus (intro w hSw; (try dsimp only at hSw); go_simp; first | done | (with_reducible rfl) | (rw [if_neg (by omega)]; done) | (rw [if_neg (by omega)]; with_reducible rfl))
    try simp only [Act.put, List.setIfInBounds_toArray, List.set_cons_zero, List.set_cons_succ]
    refine wpAnyH_ready (rs := [23]) (by kernel_rfl) (by simp) ?_
    refine AllReadyH.cons rfl (fun K hK => ?_) AllReadyH.nil
    go_simp; (go_at_call 66; refine (l1Num_v _ HR.out (by omega) (by omega) _).mono ?_; rintro e w' ⟨rfl, hb'⟩); (try dsimp only)
    refine hK.out _ _ ?_ (fun hHeld => ?_)
    focus ((try dsimp only); (first | (go_keep; done) | ((try go_split_ands); (repeat' apply And.intro); all_goals first | exact ext_drew (Below.refl _ _) | exact below_cell (by assumption) (by assumption) | (refine ext_trans ?_ (by assumption); assumption) | assumption)))
    clear hK K; try simp only [Act.put, List.setIfInBounds_toArray, List.set_cons_zero, List.set_cons_succ]
    refine wpAnyH_takeD (i := 24) (v := ?_) 37 rfl rfl (by kernel_rfl) (by kernel_rfl) (by kernel_rfl) (fun _ _ _ _ _ h => h) (by rfl) (by assumption) ?_ ?_
    rotate_left; focus (intro w hSw; (try dsimp only at hSw); go_simp; first | done | (with_reducible rfl) | (rw [if_neg (by omega)]; done) | (rw [if_neg (by omega)]; with_reducible rfl))
    try simp only [Act.put, List.setIfInBounds_toArray, List.set_cons_zero, List.set_cons_succ]
    refine wpAnyH_takeD (i := 25) (v := ?_) 2 rfl rfl (by kernel_rfl) (by kernel_rfl) (by kernel_rfl) (fun _ _ _ _ _ h => h) (by rfl) (by assumption) ?_ ?_
    rotate_left; focus (intro w hSw; (try dsimp only at hSw); go_simp; first | done | (with_reducible rfl) | (rw [if_neg (by omega)]; done) | (rw [if_neg (by omega)]; with_reducible rfl))
    try simp only [Act.put, List.setIfInBounds_toArray, List.set_cons_zero, List.set_cons_succ]
    refine wpAnyH_takeD (i := 26) (v := ?_) 3 rfl rfl (by kernel_rfl) (by kernel_rfl) (by kernel_rfl) (fun _ _ _ _ _ h => h) (by rfl) (by assumption) ?_ ?_
    rotate_left; focus (intro w hSw; (try dsimp only at hSw); go_simp; first | done | (with_reducible rfl) | (rw [if_neg (by omega)]; done) | (rw [if_neg (by omega)]; with_reducible rfl))
    try simp only [Act.put, List.setIfInBounds_toArray, List.set_cons_zero, List.set_cons_succ]
    refine wpAnyH_done (by kernel_rfl) ?_ _
    have rb := hHeld.2.2.2.2.2.2.2
    have HBB := Lib.hid (ext_trans HB3.out rb)
    clear hself rb hHeld
    clear w1
    have HS := Lib.hid (show lesStr x = (⟨#[99, 108, 97, 115, 115, 32]⟩ : ByteArray) ++ sc ++ (⟨#[32]⟩ : ByteArray) ++ sd ++ (⟨#[32]⟩ : ByteArray) ++ sb ++ (⟨#[45]⟩ : ByteArray) ++ se ++ (⟨#[32, 114, 111, 111, 109, 32]⟩ : ByteArray) ++ sr by unfold lesStr; rw [HC.out, HD.out, HB.out, HE.out, HR.out])
    go_wp2
    go_ret2
    exact ⟨by rw [HS.out]; rfl, HBB.out⟩
set_option maxHeartbeats 1000000 in
theorem FnExactLessonText_any (i c t r d b m : Int) (_ : (Lit.int .i64 i).wf = true) (_ : (Lit.int .i64 c).wf = true) (_ : (Lit.int .i64 t).wf = true) (_ : (Lit.int .i64 r).wf = true) (_ : (Lit.int .i64 d).wf = true) (_ : (Lit.int .i64 b).wf = true) (_ : (Lit.int .i64 m).wf = true) (w : World) :
    Calls Try.prog 4 #[.agg #[.int .i64 i, .int .i64 c, .int .i64 t, .int .i64 r, .int .i64 d, .int .i64 b, .int .i64 m]] w fun e w' => e = .returned (.bool true) ∧ Below w.heap.size w w' := by
  obtain ⟨f, ok, ht⟩ := lesTextT_form ⟨i, c, t, r, d, b, m⟩
  go_enter Try.func4, Try.ntmps4
  go_wp2_with fail
  refine (toLesson_any _ _ _ _ _ _ _ _).mono ?_
  rintro e w1 ⟨rfl, hb1⟩
  go_wp2_with fail
  refine (sLessonText_any ⟨i, c, t, r, d, b, m⟩ _).mono ?_
  rintro e w2 ⟨rfl, hb2⟩
  rw [ht]
  have hb := ext_trans hb1 hb2
  obtain ⟨hc, hf⟩ := bcell hb
  clear hb1 hb2
  go_wp2_with fail
  refine (toLesson_any _ _ _ _ _ _ _ _).mono ?_
  rintro e w3 ⟨rfl, hb3⟩
  go_wp2_with fail
  refine (iLessonText_any ⟨i, c, t, r, d, b, m⟩ _).mono ?_
  rintro e w4 ⟨rfl, hb4⟩
  rw [ht]
  go_wp2_with fail
  go_ret
  exact ⟨rfl, ext_trans (ext_alloc (Below.refl _ _) _) (ext_trans hb (ext_trans hb3 hb4))⟩
end Go.Proofs.Ytnndhgeddfghcaa
