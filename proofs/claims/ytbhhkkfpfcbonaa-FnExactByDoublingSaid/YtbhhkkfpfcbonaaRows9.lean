/- Chapter 9: halves and doubles. No condition. -/
import Derived.Test.YtbhhkkfpfcbonaaA2
import Derived.Test.YtbhhkkfpfcbonaaTests
namespace Go.Proofs.Ytbhhkkfpfcbonaa
open Go.RowKit

def hv (a : Nat) : Nat → Nat
  | 0 => a
  | k + 1 => hv a k / 2
def db (b : Int) : Nat → Int
  | 0 => b
  | k + 1 => db b k * 2
theorem hv_succ (a k : Nat) : hv a (k + 1) = hv a k / 2 := rfl
theorem db_succ (b : Int) (k : Nat) : db b (k + 1) = db b k * 2 := rfl
theorem hv_zero {a k : Nat} (h : hv a k = 0) : ∀ j, hv a (k + j) = 0
  | 0 => h
  | j + 1 => by rw [← Nat.add_assoc, hv_succ, hv_zero h j]
/-- Two to the k. -/
def pow2 (k : Nat) : Nat := 2 ^ k
theorem pow2_succ (k : Nat) : pow2 (k + 1) = pow2 k * 2 := Nat.pow_succ 2 k
theorem hv_le (a : Nat) : ∀ k, hv a k ≤ a
  | 0 => Nat.le_refl _
  | k + 1 => Nat.le_trans (Nat.div_le_self _ _) (hv_le a k)
theorem hv_pow (a : Nat) : ∀ k, hv a k * pow2 k ≤ a
  | 0 => by simp [hv, pow2]
  | k + 1 => by
    have ih := hv_pow a k
    have h2 : hv a k / 2 * 2 ≤ hv a k := Nat.div_mul_le_self _ _
    have : hv a k / 2 * 2 * pow2 k ≤ hv a k * pow2 k := Nat.mul_le_mul_right _ h2
    rw [hv_succ, pow2_succ, Nat.mul_comm (pow2 k) 2, ← Nat.mul_assoc]
    omega
theorem db_pow (b : Int) : ∀ k, db b k = b * (pow2 k : Int)
  | 0 => by simp [db, pow2]
  | k + 1 => by rw [db_succ, db_pow b k, pow2_succ]; simp [Int.mul_assoc]
theorem hv_bd {a k : Nat} (ha : a ≤ 9999) (h : 1 ≤ hv a k) : pow2 k ≤ 9999 ∧ k ≤ 13 := by
  have h1 := hv_pow a k
  have h2 : 1 * pow2 k ≤ hv a k * pow2 k := Nat.mul_le_mul_right _ h
  refine ⟨by omega, ?_⟩
  rcases Nat.lt_or_ge 13 k with hk | hk
  · have : pow2 14 ≤ pow2 k := Nat.pow_le_pow_right (by omega) (show 14 ≤ k by omega)
    have e : pow2 14 = 16384 := rfl
    omega
  · exact hk
theorem db_bd {a k : Nat} {b : Int} (ha : a ≤ 9999) (hb : 0 ≤ b) (hb' : b ≤ 9999) (h : 1 ≤ hv a k) : 0 ≤ db b k ∧ db b k ≤ 99980001 := by
  obtain ⟨h1, -⟩ := hv_bd ha h
  rw [db_pow]
  exact mul_bd hb hb' (by omega) (by omega)
/-- The rows of the first k steps. -/
def rowsTo (a : Nat) (b : Int) : Nat → List Int
  | 0 => []
  | k + 1 => if 1 ≤ hv a k then rowsTo a b k ++ [(hv a k : Int), db b k] else rowsTo a b k
theorem rowsTo_yes {a k : Nat} {b : Int} (h : 1 ≤ hv a k) : rowsTo a b (k + 1) = rowsTo a b k ++ [(hv a k : Int), db b k] := by rw [rowsTo, if_pos h]
theorem rowsTo_stop {a k : Nat} {b : Int} (h : hv a k = 0) : ∀ j, rowsTo a b (k + j) = rowsTo a b k
  | 0 => rfl
  | j + 1 => by rw [← Nat.add_assoc, rowsTo, if_neg (by rw [hv_zero h j]; omega), rowsTo_stop h j]
theorem rowsTo_len (a : Nat) (b : Int) : ∀ k, (rowsTo a b k).length ≤ k * 2
  | 0 => by simp [rowsTo]
  | k + 1 => by
    have := rowsTo_len a b k
    unfold rowsTo
    split
    · simp; omega
    · omega
/-- All rows. -/
def rowsOf (a b : Int) : List Int := rowsTo a.toNat b 14
theorem rowsOf_at {a k : Nat} {b : Int} (hk : k ≤ 14) (h : hv a k = 0) : rowsOf (a : Int) b = rowsTo a b k := by
  have := rowsTo_stop (b := b) h (14 - k)
  rw [show k + (14 - k) = 14 from by omega] at this
  exact this
/-- What ByDoubling gives. -/
def dbl (a b : Int) : List Int := if (inB a 0 9999 && inB b 0 9999) = true then rowsOf a b else []
theorem dbl_len (a b : Int) : (dbl a b).length ≤ 28 := by
  unfold dbl
  split
  · exact rowsTo_len _ _ 14
  · simp

set_option maxHeartbeats 1000000 in
theorem l9Rows_any (a b : Int) (ha : 0 ≤ a) (ha' : a ≤ 9999) (hb : 0 ≤ b) (hb' : b ≤ 9999) (w : World) :
    Calls Try.prog 43 #[.int .i64 a, .int .i64 b] w (GivesS 46 2 (rowsOf a b) w) := by
  obtain ⟨m, rfl⟩ := Int.eq_ofNat_of_zero_le ha
  have ha'' : m ≤ 9999 := by omega
  go_enter Try.func43, Try.ntmps43
  go_wp2_with fail
  go_loopw [0, 1, 5] (fun x y v wr => ∃ (k n c : Nat) (A : Option Addr), x = .int .i64 (hv m k : Int) ∧ y = .int .i64 (db b k) ∧ k ≤ 14 ∧ v = .slice A n c ∧ Acc w wr 46 2 A n c (rowsTo m b k)) (fun x _ _ _ => (intOf x).toNat)
  case atStart => exact ⟨0, _, _, _, rfl, rfl, by omega, rfl, Acc.empty (Below.refl _ _)⟩
  case round =>
    obtain ⟨k, n, c, A, rfl, rfl, hk, rfl, hacc⟩ := hrel
    have hn := hacc.len
    have hl := rowsTo_len m b k
    have hv9 := hv_le m k
    by_cases hp : 1 ≤ hv m k
    · obtain ⟨d1, d2⟩ := db_bd ha'' hb hb' hp
      obtain ⟨-, k13⟩ := hv_bd ha'' hp
      have HR := Lib.hid (rowsTo_yes (b := b) hp)
      have HH := Lib.hid (hv_succ m k)
      have HB := Lib.hid (db_succ b k)
      have hp' : (1 : Int) ≤ (hv m k : Int) := by omega
      go_wp2_with (at_builtin; refine app2 rfl _ _ rfl rfl (hacc.alloc _) rfl (reads_new _ _ _ 2 [(hv m k : Int), db b k] rfl rfl) (by omega) ?_; intro A' c' w' hacc' _)
      go_roundw
      case rel => exact ⟨k + 1, _, _, _, by rw [HH.out]; simp, by rw [HB.out, Int.mul_comm], by omega, rfl, by rw [HR.out]; exact hacc'⟩
      case measure => simp [intOf]; omega
    · have h0 : hv m k = 0 := by omega
      have HR := Lib.hid (rowsOf_at (b := b) hk h0)
      have hp' : ((hv m k : Nat) : Int) < 1 := by omega
      clear h0
      go_wp2_with fail
      go_ret
      exact ⟨A, n, c, rfl, by rw [HR.out]; exact hacc⟩
set_option maxHeartbeats 1000000 in
theorem iByDoubling_any (a b : Int) (w : World) :
    Calls Try.prog 20 #[.int .i64 a, .int .i64 b] w (Gives 46 2 (dbl a b) (inB a 0 9999 && inB b 0 9999) w) := by
  cases h : (inB a 0 9999 && inB b 0 9999)
  · go_enter Try.func20, Try.ntmps20
    go_wp2_with (go_at_call 34; refine (areFactors_any _ _ _).mono ?_; rintro e w' ⟨rfl, rfl⟩)
    go_ret2
    exact ⟨_, _, _, rfl, by simp only [dbl, h, Bool.false_eq_true, if_false]; exact Acc.nil (Below.refl _ _)⟩
  · have hd : dbl a b = rowsOf a b := by simp only [dbl, if_pos h]
    have h' := h
    simp only [Bool.and_eq_true] at h'
    obtain ⟨ha, ha'⟩ := inB_true h'.1
    obtain ⟨hb, hb'⟩ := inB_true h'.2
    obtain ⟨m, rfl⟩ := Int.eq_ofNat_of_zero_le ha
    have ha'' : m ≤ 9999 := by omega
    have HD := Lib.hid hd
    clear hd h'
    go_enter Try.func20, Try.ntmps20
    go_wp2_with (go_at_call 34; refine (areFactors_any _ _ _).mono ?_; rintro e w' ⟨rfl, rfl⟩)
    go_loopw [0, 1, 6] (fun x y v wr => ∃ (k n c : Nat) (A : Option Addr), x = .int .i64 (hv m k : Int) ∧ y = .int .i64 (db b k) ∧ k ≤ 14 ∧ v = .slice A n c ∧ Acc w wr 46 2 A n c (rowsTo m b k)) (fun x _ _ _ => (intOf x).toNat)
    case atStart => exact ⟨0, _, _, _, rfl, rfl, by omega, rfl, Acc.nil (Below.refl _ _)⟩
    case round =>
      obtain ⟨k, n, c, A, rfl, rfl, hk, rfl, hacc⟩ := hrel
      have hn := hacc.len
      have hl := rowsTo_len m b k
      have hv9 := hv_le m k
      by_cases hp : 1 ≤ hv m k
      · obtain ⟨d1, d2⟩ := db_bd ha'' hb hb' hp
        obtain ⟨-, k13⟩ := hv_bd ha'' hp
        have HR := Lib.hid (rowsTo_yes (b := b) hp)
        have HH := Lib.hid (hv_succ m k)
        have HB := Lib.hid (db_succ b k)
        have hp' : (1 : Int) ≤ (hv m k : Int) := by omega
        go_wp2_with (at_builtin; refine app2 rfl _ _ rfl rfl (hacc.alloc _) rfl (reads_new _ _ _ 2 [(hv m k : Int), db b k] rfl rfl) (by omega) ?_; intro A' c' w' hacc' _)
        go_roundw
        case rel => exact ⟨k + 1, _, _, _, by rw [HH.out]; simp, by rw [HB.out], by omega, rfl, by rw [HR.out]; exact hacc'⟩
        case measure => simp [intOf]; omega
      · have h0 : hv m k = 0 := by omega
        have HR := Lib.hid (rowsOf_at (b := b) hk h0)
        have hp' : ((hv m k : Nat) : Int) < 1 := by omega
        clear h0
        go_wp2_with fail
        go_ret2
        exact ⟨A, n, c, rfl, by rw [HD.out, HR.out]; exact hacc⟩
set_option maxHeartbeats 400000 in
theorem sByDoubling_any (a b : Int) (w : World) :
    Calls Try.prog 19 #[.int .i64 a, .int .i64 b] w (Gives 46 2 (dbl a b) (inB a 0 9999 && inB b 0 9999) w) := by
  cases h : (inB a 0 9999 && inB b 0 9999)
  · go_enter Try.func19, Try.ntmps19
    go_wp2_with (go_at_call 33; refine (l9Both_any _ _ _).mono ?_; rintro e w' ⟨rfl, rfl⟩)
    go_ret2
    exact ⟨_, _, _, rfl, by simp only [dbl, h, Bool.false_eq_true, if_false]; exact Acc.empty (Below.refl _ _)⟩
  · have hd : dbl a b = rowsOf a b := by simp only [dbl, if_pos h]
    have h' := h
    simp only [Bool.and_eq_true] at h'
    obtain ⟨ha, ha'⟩ := inB_true h'.1
    obtain ⟨hb, hb'⟩ := inB_true h'.2
    have HD := Lib.hid hd
    clear hd h'
    go_enter Try.func19, Try.ntmps19
    go_wp2_with (first | (go_at_call 33; refine (l9Both_any _ _ _).mono ?_; rintro e w' ⟨rfl, rfl⟩) | (go_at_call 43; refine (l9Rows_any _ _ ha ha' hb hb' _).mono ?_; rintro e w' ⟨A, n, c, rfl, hacc⟩))
    go_ret2
    exact ⟨A, n, c, rfl, by rw [HD.out]; exact hacc⟩
set_option maxHeartbeats 1000000 in
theorem FnExactByDoubling_any (a : Int) (_ : (Lit.int .i64 a).wf = true) (b : Int) (_ : (Lit.int .i64 b).wf = true) (w : World) :
    Calls Try.prog 6 #[.int .i64 a, .int .i64 b] w fun e w' => e = .returned (.bool true) ∧ Below w.heap.size w w' := by
  have hbd : (dbl a b).length ≤ 1000000 := Nat.le_trans (dbl_len a b) (by omega)
  have hs := sByDoubling_any a b
  have hi := iByDoubling_any a b
  generalize dbl a b = zs at hs hi hbd
  generalize (inB a 0 9999 && inB b 0 9999) = ok at hs hi
  have HS := Lib.hid hs
  have HI := Lib.hid hi
  have he := eqB_self zs
  clear hs hi
  go_enter Try.func6, Try.ntmps6
  go_wp2_with fail
  refine (HS.out _).mono ?_
  rintro e w1 ⟨A0, n0, c0, rfl, h0⟩
  go_wp2_with fail
  refine (HI.out _).mono ?_
  rintro e w2 ⟨A1, n1, c1, rfl, h1⟩
  have b0 := h0.len
  have b1 := h1.len
  have b1' : n1 ≤ 1000000 := by omega
  have b0' : n0 ≤ 1000000 := by omega
  clear b0 b1
  go_wp2_with fail
  refine (eqIntA2S_any A1 A0 n1 n0 c1 c0 _ _ zs zs _ h1.reads (h0.reads.below h1.ext) (Nat.le_refl _) h1.ext.size (by unfold maxLen; omega) (by unfold maxLen; omega)).mono ?_
  rintro e w3 ⟨rfl, hb3⟩
  go_wp2_with fail
  refine (markIntA2S_any A1 n1 c1 w1.heap.size zs 1 _ (h1.later hb3).own (by omega) (by omega) (by omega)).mono ?_
  rintro e w4 ⟨rfl, hm, hg⟩
  go_wp2_with fail
  refine (heldIntA2S_any A1 n1 c1 _ 1 _ (Reads.of_own hm) (by omega) (by omega) (by omega)).mono ?_
  rintro e w' ⟨rfl, rfl⟩
  go_wp2_with fail
  refine (HI.out _).mono ?_
  rintro e w5 ⟨A2, n2, c2, rfl, h2⟩
  have b2 := h2.len
  have b2' : n2 ≤ 1000000 := by omega
  clear b2
  have z14 : w1.heap.size ≤ w4.heap.size := Nat.le_trans (Nat.le_trans h1.ext.size hb3.size) hg.size
  have r0 : Reads w5 w1.heap.size 2 A0 n0 (zs.map (Value.int .i64)) := ((((h0.reads.below h1.ext).below (hb3.mono h1.ext.size)).grown hg (Nat.le_trans h1.ext.size hb3.size) fun g hb => (h1.own.lt g hb).1).below (h2.ext.mono z14))
  have r1 := own_below hm h2.ext
  go_wp2_with fail
  refine (eqIntA2S_any A2 A0 n2 n0 c2 c0 _ _ zs zs _ h2.reads r0 (Nat.le_refl _) (Nat.le_trans z14 h2.ext.size) (by unfold maxLen; omega) (by unfold maxLen; omega)).mono ?_
  rintro e w6 ⟨rfl, hb6⟩
  go_wp2_with fail
  refine (heldIntA2S_any A1 n1 c1 _ 1 _ (Reads.of_own (own_below r1 hb6)) (by omega) (by omega) (by omega)).mono ?_
  rintro e w' ⟨rfl, rfl⟩
  go_wp2_with fail
  go_ret
  exact ⟨rfl, ext_trans (ext_trans (ext_grown (ext_trans (ext_trans h0.ext h1.ext) hb3) hg fun g hb => Nat.le_trans h0.ext.size (h1.own.lt g hb).1) h2.ext) hb6⟩
/-- The doubles beside odd halves, of the first k rows. -/
def oddTo (rs : List Int) : Nat → List Int
  | 0 => []
  | k + 1 => if (rs.getD (k * 2) 0 % 2 == 1) = true then oddTo rs k ++ [rs.getD (k * 2 + 1) 0] else oddTo rs k
theorem oddTo_len (rs : List Int) : ∀ k, (oddTo rs k).length ≤ k
  | 0 => by simp [oddTo]
  | k + 1 => by
    have := oddTo_len rs k
    unfold oddTo
    split
    · simp; omega
    · omega
theorem oddTo_yes {rs : List Int} {k : Nat} {x y : Int} (hx : rs[k * 2]? = some x) (hy : rs[k * 2 + 1]? = some y) (h : (x % 2 == 1) = true) : oddTo rs (k + 1) = oddTo rs k ++ [y] := by
  have e1 : rs.getD (k * 2) 0 = x := by simp [List.getD, hx]
  have e2 : rs.getD (k * 2 + 1) 0 = y := by simp [List.getD, hy]
  rw [oddTo, e1, e2, if_pos h]
theorem oddTo_no {rs : List Int} {k : Nat} {x : Int} (hx : rs[k * 2]? = some x) (h : (x % 2 == 1) = false) : oddTo rs (k + 1) = oddTo rs k := by
  have e1 : rs.getD (k * 2) 0 = x := by simp [List.getD, hx]
  rw [oddTo, e1, if_neg (by rw [h]; decide)]
/-- All halves are at least nought. -/
theorem rowsTo_nn {a : Nat} {b : Int} (hb : 0 ≤ b) : ∀ k, ∀ z ∈ rowsTo a b k, 0 ≤ z
  | 0 => by simp [rowsTo]
  | k + 1 => by
    have ih := rowsTo_nn (a := a) hb k
    unfold rowsTo
    split
    · intro z hz
      rcases List.mem_append.1 hz with hz | hz
      · exact ih z hz
      · simp at hz
        rcases hz with rfl | rfl
        · omega
        · rw [db_pow]; exact Int.mul_nonneg hb (by omega)
    · exact ih
theorem dbl_nn (a b : Int) : ∀ z ∈ dbl a b, 0 ≤ z := by
  unfold dbl
  split
  · next h =>
    simp only [Bool.and_eq_true] at h
    exact rowsTo_nn (inB_true h.2).1 14
  · simp
/-- What OddRows gives. -/
def odds (a b : Int) : List Int := oddTo (dbl a b) ((dbl a b).length / 2)
theorem odds_len (a b : Int) : (odds a b).length ≤ 14 := by
  have := oddTo_len (dbl a b) ((dbl a b).length / 2)
  have := dbl_len a b
  unfold odds
  omega
set_option maxHeartbeats 1000000 in
theorem iOddRows_any (a b : Int) (w : World) :
    Calls Try.prog 25 #[.int .i64 a, .int .i64 b] w (Gives 3 1 (odds a b) (inB a 0 9999 && inB b 0 9999) w) := by
  have hod : odds a b = oddTo (dbl a b) ((dbl a b).length / 2) := rfl
  have hbd := dbl_len a b
  have hnn := dbl_nn a b
  have hdb := iByDoubling_any a b
  have hno : (inB a 0 9999 && inB b 0 9999) = false → dbl a b = [] := fun h => by simp only [dbl, h, Bool.false_eq_true, if_false]
  generalize dbl a b = rs at *
  generalize (inB a 0 9999 && inB b 0 9999) = ok at *
  have HOD := Lib.hid hod
  have HNN := Lib.hid hnn
  have HDB := Lib.hid hdb
  have HNO := Lib.hid hno
  clear hod hnn hdb hno
  go_enter Try.func25, Try.ntmps25
  go_wp2_with fail
  refine (HDB.out _).mono ?_
  rintro e w1 ⟨A, n, c, rfl, h1⟩
  have hl := h1.len
  have HL := Lib.hid hl
  have hn : n ≤ 14 := by omega
  clear hl
  cases ok
  · have HN := Lib.hid (HNO.out rfl)
    go_wp2_with fail
    go_ret2
    exact ⟨_, _, _, rfl, by rw [HOD.out, HN.out]; exact Acc.nil h1.ext⟩
  · go_wp2_with fail
    go_loopw [8, 21] (fun v i wr => ∃ (k m c : Nat) (A' : Option Addr), i = .int .i64 (k : Int) ∧ k ≤ n ∧ v = .slice A' m c ∧ Acc w1 wr 3 1 A' m c (oddTo rs k)) (fun _ i _ => n - (intOf i).toNat)
    case atStart => exact ⟨0, _, _, _, rfl, by omega, rfl, Acc.nil (Below.refl _ _)⟩
    case round =>
      obtain ⟨k, m', c', A', rfl, hk, rfl, hacc⟩ := hrel
      have hm := hacc.len
      have hml := oddTo_len rs k
      by_cases hlt : k < n
      · obtain ⟨g, o, rfl, hr⟩ := (h1.reads.below hacc.ext).row hlt (by omega)
        obtain ⟨x, hx, hc0⟩ := hr 0 (by omega)
        obtain ⟨y, hy, hc1⟩ := hr 1 (by omega)
        clear hr
        simp only [Nat.add_zero, ← Nat.add_assoc] at hx hy hc0 hc1
        have hx0 := HNN.out x (List.mem_of_getElem? hx)
        cases he : (x % 2 == 1)
        · have HS := Lib.hid (oddTo_no hx he)
          clear hx hy
          go_wp2_with fail
          go_roundw
          case rel => exact ⟨k + 1, _, _, _, by go_num, by omega, rfl, by rw [HS.out]; exact hacc.alloc _⟩
          case measure => simp [intOf]; omega
        · have HS := Lib.hid (oddTo_yes hx hy he)
          clear hx hy
          go_wp2_with (at_builtin; refine appI rfl _ _ rfl rfl ((hacc.alloc _).alloc _) rfl (reads_newAt _ _ _ 1 [y] _ (by simp) rfl rfl) (by omega) ?_; intro A2 c2 w' hacc' _)
          go_roundw
          case rel => exact ⟨k + 1, _, _, _, by go_num, by omega, rfl, by rw [HS.out]; exact hacc'⟩
          case measure => simp [intOf]; omega
      · have hk' : k = n := by omega
        subst hk'
        go_wp2
        go_ret2
        exact ⟨A', m', c', rfl, by rw [HOD.out, HL.out, Nat.mul_div_cancel _ (by omega)]; exact hacc.since h1.ext⟩
set_option maxHeartbeats 1000000 in
theorem sOddRows_any (a b : Int) (w : World) :
    Calls Try.prog 24 #[.int .i64 a, .int .i64 b] w (Gives 3 1 (odds a b) (inB a 0 9999 && inB b 0 9999) w) := by
  cases h : (inB a 0 9999 && inB b 0 9999)
  · go_enter Try.func24, Try.ntmps24
    go_wp2_with (go_at_call 33; refine (l9Both_any _ _ _).mono ?_; rintro e w' ⟨rfl, rfl⟩)
    go_ret2
    exact ⟨_, _, _, rfl, by simp only [odds, dbl, h, Bool.false_eq_true, if_false]; exact Acc.empty (Below.refl _ _)⟩
  · have h' := h
    simp only [Bool.and_eq_true] at h'
    obtain ⟨ha, ha'⟩ := inB_true h'.1
    obtain ⟨hb, hb'⟩ := inB_true h'.2
    have hde : dbl a b = rowsOf a b := by simp only [dbl, if_pos h]
    have hod : odds a b = oddTo (dbl a b) ((dbl a b).length / 2) := rfl
    have hbd := dbl_len a b
    have hnn := dbl_nn a b
    have hrow := l9Rows_any a b ha ha' hb hb'
    rw [← hde] at hrow
    clear hde h'
    generalize dbl a b = rs at *
    have HOD := Lib.hid hod
    have HNN := Lib.hid hnn
    have HROW := Lib.hid hrow
    clear hod hnn hrow
    go_enter Try.func24, Try.ntmps24
    go_wp2_with (go_at_call 33; refine (l9Both_any _ _ _).mono ?_; rintro e w' ⟨rfl, rfl⟩)
    refine (HROW.out _).mono ?_
    rintro e w1 ⟨A, n, c, rfl, h1⟩
    have hl := h1.len
    have HL := Lib.hid hl
    have hn : n ≤ 14 := by omega
    clear hl
    have hA0 := (Acc.empty (E := 3) (k := 1) (Below.refl w.heap.size w)).later h1.ext
    have hS0 := Side.made (s := none) (o := 0) h1 (g := w.heap.size) (by simp)
    go_wp2_with fail
    go_loopw [6, 8] (fun v i wr => ∃ (k m c : Nat) (A' : Option Addr), i = .int .i64 (k : Int) ∧ k ≤ n ∧ v = .slice A' m c ∧ Acc w wr 3 1 A' m c (oddTo rs k) ∧ Side wr w1.heap.size 2 A n rs A') (fun _ i _ => n - (intOf i).toNat)
    case atStart => exact ⟨0, _, _, _, rfl, by omega, rfl, hA0, hS0⟩
    case round =>
      clear hA0 hS0
      obtain ⟨k, m', c', A', rfl, hk, rfl, hacc, hside⟩ := hrel
      have hm := hacc.len
      have hml := oddTo_len rs k
      by_cases hlt : k < n
      · obtain ⟨g, o, rfl, hr⟩ := hside.reads.row hlt (by omega)
        obtain ⟨x, hx, hc0⟩ := hr 0 (by omega)
        obtain ⟨y, hy, hc1⟩ := hr 1 (by omega)
        clear hr
        simp only [Nat.add_zero, ← Nat.add_assoc] at hx hy hc0 hc1
        have hx0 := HNN.out x (List.mem_of_getElem? hx)
        cases he : (x % 2 == 1)
        · have HS := Lib.hid (oddTo_no hx he)
          clear hx hy
          go_wp2_with fail
          go_roundw
          case rel => exact ⟨k + 1, _, _, _, by go_num, by omega, rfl, by rw [HS.out]; exact hacc, hside⟩
          case measure => simp [intOf]; omega
        · have HS := Lib.hid (oddTo_yes hx hy he)
          clear hx hy
          go_wp2_with (at_builtin; refine appI_b rfl _ _ rfl rfl (hacc.alloc _) rfl (reads_newAt _ _ _ 1 [y] _ (by simp) rfl rfl) (by omega) ?_; intro A2 c2 w' hacc' hpu)
          go_roundw
          case rel => exact ⟨k + 1, _, _, _, by go_num, by omega, rfl, by rw [HS.out]; exact hacc', (hside.alloc _).pushed hpu⟩
          case measure => simp [intOf]; omega
      · have hk' : k = n := by omega
        subst hk'
        go_wp2
        go_ret2
        exact ⟨A', m', c', rfl, by rw [HOD.out, HL.out, Nat.mul_div_cancel _ (by omega)]; exact hacc⟩
set_option maxHeartbeats 1000000 in
theorem FnExactOddRows_any (a : Int) (_ : (Lit.int .i64 a).wf = true) (b : Int) (_ : (Lit.int .i64 b).wf = true) (w : World) :
    Calls Try.prog 7 #[.int .i64 a, .int .i64 b] w fun e w' => e = .returned (.bool true) ∧ Below w.heap.size w w' := by
  have hbd : (odds a b).length ≤ 1000000 := Nat.le_trans (odds_len a b) (by omega)
  have hs := sOddRows_any a b
  have hi := iOddRows_any a b
  generalize odds a b = zs at hs hi hbd
  generalize (inB a 0 9999 && inB b 0 9999) = ok at hs hi
  have HS := Lib.hid hs
  have HI := Lib.hid hi
  have he := eqB_self zs
  clear hs hi
  go_enter Try.func7, Try.ntmps7
  go_wp2_with fail
  refine (HS.out _).mono ?_
  rintro e w1 ⟨A0, n0, c0, rfl, h0⟩
  go_wp2_with fail
  refine (HI.out _).mono ?_
  rintro e w2 ⟨A1, n1, c1, rfl, h1⟩
  have b0 := h0.len
  have b1 := h1.len
  have b1' : n1 ≤ 1000000 := by omega
  have b0' : n0 ≤ 1000000 := by omega
  clear b0 b1
  go_wp2_with fail
  refine (eqIntS_any A1 A0 n1 n0 c1 c0 _ _ zs zs _ h1.reads (h0.reads.below h1.ext) (by unfold maxLen; omega) (by unfold maxLen; omega)).mono ?_
  rintro e w' ⟨rfl, m, rfl⟩
  go_wp2_with fail
  refine (markIntS_any A1 n1 c1 w1.heap.size zs 1 _ (h1.drewN m).own (by omega) (by omega) (by omega)).mono ?_
  rintro e w4 ⟨rfl, hm, hg⟩
  go_wp2_with fail
  refine (heldIntS_any A1 n1 c1 _ 1 _ (Reads.of_own hm) (by omega) (by omega) (by omega)).mono ?_
  rintro e w' ⟨rfl, rfl⟩
  go_wp2_with fail
  refine (HI.out _).mono ?_
  rintro e w5 ⟨A2, n2, c2, rfl, h2⟩
  have b2 := h2.len
  have b2' : n2 ≤ 1000000 := by omega
  clear b2
  have r0 : Reads w5 w1.heap.size 1 A0 n0 (zs.map (Value.int .i64)) := ((((h0.reads.below h1.ext).drewN m).grown hg h1.ext.size fun g hb => (h1.own.lt g hb).1).below (h2.ext.mono (Nat.le_trans h1.ext.size hg.size)))
  have r1 := Reads.of_own (own_below hm h2.ext)
  go_wp2_with fail
  refine (eqIntS_any A2 A0 n2 n0 c2 c0 _ _ zs zs _ h2.reads r0 (by unfold maxLen; omega) (by unfold maxLen; omega)).mono ?_
  rintro e w' ⟨rfl, m', rfl⟩
  go_wp2_with fail
  refine (heldIntS_any A1 n1 c1 _ 1 _ (r1.drewN m') (by omega) (by omega) (by omega)).mono ?_
  rintro e w' ⟨rfl, rfl⟩
  go_wp2_with fail
  go_ret
  exact ⟨rfl, ext_drewN (ext_trans (ext_grown (ext_drewN (ext_trans h0.ext h1.ext) m) hg fun g hb => Nat.le_trans h0.ext.size (h1.own.lt g hb).1) h2.ext) m'⟩
end Go.Proofs.Ytbhhkkfpfcbonaa
