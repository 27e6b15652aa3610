/- The text of an amount: walks on both sides. No condition. -/
import Derived.Test.YthigfbhkdegfkaaTim
import Derived.Test.YthigfbhkdegfkaaAccV
import Derived.Test.YthigfbhkdegfkaaWord2
import Derived.Test.YthigfbhkdegfkaaHeld
import Derived.Laws.IdiomStrings
import Derived.Laws.Concat
namespace Go.Proofs.Ythigfbhkdegfkaa
open Go.RowKit

def sepB : ByteArray := ⟨#[44, 32]⟩
def zeroB : ByteArray := ⟨#[48, 32]⟩
def partB (x : Unt) (z : Int) : ByteArray := numB z ++ spB ++ x.nm
/-- The parts, from the last unit on. -/
def prtR : List Unt → List Int → List ByteArray
  | u :: us, z :: zs => prtR us zs ++ (if z = 0 then [] else [partB u z])
  | _, _ => []
def nm0 : List Unt → ByteArray
  | u :: _ => u.nm
  | [] => ⟨#[]⟩
theorem nm0_at {us : List Unt} {x : Unt} (h : us[0]? = some x) : nm0 us = x.nm := by
  cases us with
  | nil => simp at h
  | cons u us => obtain rfl : u = x := by simpa using h
                 rfl
def textV (us : List Unt) (zs : List Int) : ByteArray × Bool := if amtB us zs = true then (if prtR us zs = [] then zeroB ++ nm0 us else joinB sepB (prtR us zs), true) else (⟨#[]⟩, false)
theorem prtR_at {us : List Unt} {zs : List Int} {k : Nat} {x : Unt} {z : Int} (hx : us[k]? = some x) (hz : zs[k]? = some z) : prtR (us.drop k) (zs.drop k) = prtR (us.drop (k + 1)) (zs.drop (k + 1)) ++ (if z = 0 then [] else [partB x z]) := by
  obtain ⟨h1, e1⟩ := List.getElem?_eq_some_iff.1 hx
  obtain ⟨h2, e2⟩ := List.getElem?_eq_some_iff.1 hz
  rw [List.drop_eq_getElem_cons h1, List.drop_eq_getElem_cons h2, prtR, e1, e2]
theorem prtR_len : ∀ (us : List Unt) (zs : List Int), (prtR us zs).length ≤ us.length
  | [], _ => by simp [prtR]
  | u :: us, [] => by simp [prtR]
  | u :: us, z :: zs => by
    have ih := prtR_len us zs
    rw [prtR, List.length_append, List.length_cons]
    split <;> simp <;> omega
theorem partB_size {x : Unt} {z : Int} (hx : x.nm.size ≤ 10) (hz : z ≤ 9999) : (partB x z).size ≤ 21 ∧ 1 ≤ (partB x z).size := by
  have := numB_size (n := z) (by omega)
  have e : spB.size = 1 := rfl
  unfold partB
  rw [ByteArray.size_append, ByteArray.size_append]
  omega
theorem prtR_size : ∀ (us : List Unt) (zs : List Int), (∀ x ∈ us, x.nm.size ≤ 10) → (∀ z ∈ zs, z ≤ 9999) → ∀ s ∈ prtR us zs, s.size ≤ 21 ∧ 1 ≤ s.size
  | [], _, _, _, s, h => by simp [prtR] at h
  | u :: us, [], _, _, s, h => by simp [prtR] at h
  | u :: us, z :: zs, h1, h2, s, h => by
    rw [prtR] at h
    rcases List.mem_append.1 h with h | h
    · exact prtR_size us zs (fun x hx => h1 x (by simp [hx])) (fun y hy => h2 y (by simp [hy])) s h
    · split at h
      · simp at h
      · obtain rfl := List.mem_singleton.1 h
        exact partB_size (h1 u (by simp)) (h2 z (by simp))
theorem join_size2 {sep : ByteArray} {ss : List ByteArray} (hs : sep.size ≤ 2) (h : ∀ s ∈ ss, s.size ≤ 21) : ∀ k, (joinTo sep ss k).size ≤ 23 * k
  | 0 => by simp [joinTo]; rfl
  | k + 1 => by
    have ih := join_size2 hs h k
    have hl : (ss.getD k ⟨#[]⟩).size ≤ 21 := by
      rw [List.getD]
      cases he : ss[k]? with
      | none => decide
      | some s => exact h s (List.mem_of_getElem? he)
    rw [joinTo, ByteArray.size_append]
    split
    · omega
    · rw [ByteArray.size_append]; omega
theorem joinB_some {sep : ByteArray} {ss : List ByteArray} (h0 : ss ≠ []) (h : ∀ s ∈ ss, 1 ≤ s.size) : 1 ≤ (joinB sep ss).size := by
  obtain ⟨ys, y, rfl⟩ : ∃ ys y, ss = ys ++ [y] := ⟨ss.dropLast, ss.getLast h0, (List.dropLast_concat_getLast h0).symm⟩
  rw [join_snoc, ByteArray.size_append]
  have := h y (by simp)
  omega
theorem join_part {P : List ByteArray} {x : Unt} {z : Int} : joinB sepB (P ++ [partB x z]) = (if P = [] then joinB sepB P else joinB sepB P ++ sepB) ++ numB z ++ spB ++ x.nm := by
  rw [join_snoc]
  unfold partB
  by_cases h : P = []
  · subst h
    rw [if_pos rfl, if_pos rfl]
    have e : joinB sepB [] = ⟨#[]⟩ := rfl
    rw [e]
    simp only [ByteArray.append_assoc]
  · rw [if_neg h, if_neg h]
    simp only [ByteArray.append_assoc]
theorem str_isEmpty {s : ByteArray} (h : s.size = 0) : s.toList.isEmpty = true := by
  rw [ByteArray.toList_eq]
  have : s.data.toList.length = 0 := by simpa using h
  rw [List.length_eq_zero_iff.1 this]; rfl
theorem str_notEmpty {s : ByteArray} (h : 1 ≤ s.size) : s.toList.isEmpty = false := by
  rw [ByteArray.toList_eq]
  cases hl : s.data.toList with
  | nil =>
    have e : s.data.toList.length = s.size := by simp
    rw [hl] at e
    simp at e
    omega
  | cons a l => rfl
set_option maxHeartbeats 1000000 in
theorem join2_any (A : Option Addr) (n c B : Nat) (ss : List ByteArray) (sep : ByteArray) (w : World) (h : Reads w B 1 A n (ss.map Value.string)) (hn : n ≤ 4000) (hs : sep.size ≤ 2) (h80 : ∀ s ∈ ss, s.size ≤ 21) :
    Calls Try.prog 61 #[.slice A n c, .string sep] w fun e w' => e = .returned (.string (joinB sep ss)) ∧ w = w' := by
  have hl := h.strLen
  have H := Lib.hid h
  have HL := Lib.hid hl
  have HJ := Lib.hid (join_size2 (sep := sep) (ss := ss) hs h80)
  have HS := Lib.hid h80
  clear h hl h80
  go_enter Try.func61, Try.ntmps61
  go_wp2_with fail
  go_loop [5, 10] (fun t i => ∃ k : Nat, i = .int .i64 k ∧ k ≤ n ∧ t = .string (joinTo sep ss k)) (fun _ i => n - (intOf i).toNat)
  case atStart => exact ⟨0, rfl, by omega, rfl⟩
  case round =>
    obtain ⟨k, rfl, hk, rfl⟩ := hrel
    have k0 : (0 : Int) ≤ k := by omega
    by_cases hlt : k < n
    · obtain ⟨b, o, p, rfl, hp, hcell⟩ := H.out.str hlt
      have hp80 := HS.out p (List.mem_of_getElem? hp)
      have hj := HJ.out k
      have HP := Lib.hid hp
      clear hp
      have k1 : (k : Int) < n := by omega
      have hT : (joinTo sep ss k).size ≤ 324000 := by omega
      clear hj
      by_cases h0 : k = 0
      · have HN := Lib.hid (show joinTo sep ss (k + 1) = joinTo sep ss k ++ p by have := HP.out; rw [h0] at this ⊢; exact join_first this)
        have k2 : ¬ (0 : Int) < k := by omega
        clear h0
        generalize joinTo sep ss k = T at *
        go_wp2_with fail
        go_round
        case rel => exact ⟨k + 1, by go_num, by omega, by rw [HN.out]⟩
        case measure => simp [intOf]; omega
      · have HN := Lib.hid (join_next (sep := sep) (show 0 < k by omega) HP.out)
        have k2 : (0 : Int) < k := by omega
        generalize joinTo sep ss k = T at *
        go_wp2_with fail
        go_round
        case rel => exact ⟨k + 1, by go_num, by omega, by rw [HN.out]⟩
        case measure => simp [intOf]; omega
    · have hk' : k = ss.length := by have := HL.out; omega
      have HE := Lib.hid (show joinTo sep ss k = joinB sep ss by rw [hk']; rfl)
      clear hk'
      go_wp2_with fail
      go_ret
      exact ⟨by rw [← HE.out]; rfl, rfl⟩
set_option maxRecDepth 100000 in
set_option maxHeartbeats 16000000 in
theorem iAmountText_any (A : Option Addr) (n c B : Nat) (us : List Unt) (D : Option Addr) (m k B2 : Nat) (zs : List Int) (w : World) (h : Reads w B 2 A n (untF us)) (hB : B ≤ w.heap.size) (hn : n ≤ 1048576) (hnm : ∀ x ∈ us, x.nm.size ≤ 1048576) (hc : n ≤ c) (hc2 : c ≤ maxLen)
    (h2 : Reads w B2 1 D m (zs.map (Value.int .i64))) (hB2 : B2 ≤ w.heap.size) (hm : m ≤ 1048576) :
    Calls Try.prog 30 #[.slice A n c, .agg #[.slice D m k]] w fun e w' => e = .returned (.tuple #[.string (textV us zs).1, .bool (textV us zs).2]) ∧ Below w.heap.size w w' := by
  have hl := h.untLen
  have hl2 := h2.len
  have hb := ext_alloc (Below.refl w.heap.size w) (.cells #[.slice D m k] 28)
  have hk4 := Blk.new w 28 #[.slice D m k]
  generalize hw1 : w.alloc (.cells #[.slice D m k] 28) = w1 at hb hk4
  have HB := Lib.hid hb
  have K4 := Lib.hid hk4
  have HW := Lib.hid hw1
  have R1 := Lib.hid (h.below (hb.mono hB))
  have R2 := Lib.hid (h2.below (hb.mono hB2))
  have Z1 := Lib.hid (Nat.le_trans hB hb.size)
  have Z2 := Lib.hid (Nat.le_trans hB2 hb.size)
  have HQ := Lib.hid (iIsAmount_any A n c B us D m k B2 zs w1 R1.out Z1.out hn hnm hc hc2 R2.out Z2.out hm)
  have x0 := hk4.cell 0
  simp only [List.getElem?_toArray, List.getElem?_cons_zero] at x0
  clear h h2 hb hk4 hw1
  cases ha : amtB us zs
  · have HO := Lib.hid (show textV us zs = (⟨#[]⟩, false) by unfold textV; rw [ha]; rfl)
    rw [ha] at HQ
    go_enter Try.func30, Try.ntmps30
    go_wp2_with fail
    rw [HW.out]
    refine HQ.out.mono ?_
    rintro e w2 ⟨rfl, hb2⟩
    go_wp2_with fail
    go_ret2
    exact ⟨by rw [HO.out]; rfl, ext_trans HB.out hb2⟩
  · rw [ha] at HQ
    have hs : sysB us = true := by unfold amtB at ha; simp only [Bool.and_eq_true] at ha; exact ha.1
    have hi := amt_in ha
    have hmn : n = m := by have := hi.len; omega
    subst hmn
    obtain ⟨⟨l1, l6⟩, _⟩ := sysB_to hs
    have hnms := sys_nm hs
    have HNM := Lib.hid hnms
    have HZ := Lib.hid hi.ct
    have hn6 : n ≤ 6 := by omega
    have hn1 : 1 ≤ n := by omega
    have HPL := Lib.hid (fun j => prtR_len (us.drop j) (zs.drop j))
    have HPS := Lib.hid (fun j => prtR_size (us.drop j) (zs.drop j) (fun x hx => hnms x (List.mem_of_mem_drop hx)) (fun z hz => (hi.ct z (List.mem_of_mem_drop hz)).2))
    have HL := Lib.hid hl
    have HL2 := Lib.hid hl2
    have HO := Lib.hid (show textV us zs = (if prtR us zs = [] then zeroB ++ nm0 us else joinB sepB (prtR us zs), true) by unfold textV; rw [ha]; rfl)
    have HD0 := Lib.hid (show prtR (us.drop n) (zs.drop n) = [] by rw [List.drop_of_length_le (by omega)]; simp [prtR])
    clear ha hs hi hnms hl hl2 l1 l6
    go_enter Try.func30, Try.ntmps30
    go_wp2_with fail
    rw [HW.out]
    refine HQ.out.mono ?_
    rintro e w2 ⟨rfl, hb2⟩
    have K42 := Lib.hid (K4.out.below hb2 K4.out.lt)
    have R12 := Lib.hid (R1.out.below (hb2.mono Z1.out))
    have R22 := Lib.hid (R2.out.below (hb2.mono Z2.out))
    have Z12 := Lib.hid (Nat.le_trans Z1.out hb2.size)
    have Z22 := Lib.hid (Nat.le_trans Z2.out hb2.size)
    have HB2 := Lib.hid (ext_trans HB.out hb2)
    have hc0 := K42.out.cell 0
    simp only [List.getElem?_toArray, List.getElem?_cons_zero] at hc0
    have C0 := Lib.hid hc0
    obtain ⟨bf, of, xf, hAf, hxf, hcf, _⟩ := R12.out.unt (show 0 < n by omega)
    have HXF := Lib.hid (nm0_at hxf)
    have CF := Lib.hid hcf
    have HAF := Lib.hid hAf
    have hxfs := HNM.out xf (List.mem_of_getElem? hxf)
    clear x0 hb2 hc0 hcf hxf hAf
    go_wp2_with fail
    go_loopw [6, 7] (fun q i wr => ∃ (j nq cq : Nat) (P : Option Addr), i = .int .i64 ((j : Int) - 1) ∧ j ≤ n ∧ q = .slice P nq cq ∧ AccV w2 wr 9 1 P nq cq ((prtR (us.drop j) (zs.drop j)).map Value.string)) (fun _ i _ => (intOf i + 1).toNat)
    case atStart => exact ⟨n, 0, 0, none, rfl, by omega, rfl, by rw [HD0.out]; exact AccV.nil (Below.refl _ _)⟩
    case round =>
      obtain ⟨wq, rfl⟩ : ∃ wq : World, wq = wr := ⟨_, rfl⟩
      obtain ⟨j, nq, cq, P, rfl, hj, rfl, hacc⟩ := hrel
      have HA := Lib.hid hacc
      have hnq : (prtR (us.drop j) (zs.drop j)).length = nq := by have := hacc.len; simpa using this
      have hnq6 : nq ≤ 6 := by have := HPL.out j; rw [List.length_drop] at this; have := HL.out; omega
      have HNQ := Lib.hid hnq
      clear hacc hnq
      rcases Nat.eq_zero_or_pos j with h0 | h0
      · subst h0
        have e0 : us.drop 0 = us := rfl
        have e1 : zs.drop 0 = zs := rfl
        rw [e0, e1] at HA HNQ
        have hPS := HPS.out 0
        rw [e0, e1] at hPS
        by_cases hq0 : nq = 0
        · have hnil : prtR us zs = [] := by have := HNQ.out; rw [hq0] at this; exact List.length_eq_zero_iff.1 this
          have HO2 := Lib.hid (show textV us zs = (zeroB ++ xf.nm, true) by rw [HO.out, if_pos hnil, HXF.out])
          have d0 : ((nq : Int) == 0) = true := by simp [hq0]
          have hcf := below_cell HA.out.ext CF.out
          have hAf := HAF.out
          have i0 : (0 : Int) < n := by omega
          have eF : A = some ⟨bf, of, none⟩ := hAf
          clear hnil hq0 hPS e0 e1 hAf
          subst eF
          simp only [Nat.zero_mul, Nat.add_zero] at hcf
          go_wp2_with fail
          go_ret2
          exact ⟨by rw [HO2.out]; rfl, ext_trans HB2.out HA.out.ext⟩
        · have hne : prtR us zs ≠ [] := by intro e; have := HNQ.out; rw [e] at this; simp at this; omega
          have HO2 := Lib.hid (show textV us zs = (joinB sepB (prtR us zs), true) by rw [HO.out, if_neg hne])
          have HPS' := Lib.hid (fun s hs => (hPS s hs).1)
          have d0 : ((nq : Int) == 0) = false := by simp; omega
          clear hne hPS hq0 e0 e1
          go_wp2_with fail
          refine (join2_any P nq cq _ (prtR us zs) sepB wq HA.out.reads (by omega) (by decide) HPS'.out).mono ?_
          rintro e w' ⟨rfl, rfl⟩
          go_wp2_with fail
          go_ret2
          exact ⟨by rw [HO2.out]; rfl, ext_trans HB2.out HA.out.ext⟩
      · obtain ⟨i, rfl⟩ : ∃ i, j = i + 1 := ⟨j - 1, by omega⟩
        have e1 : (((i + 1 : Nat) : Int) - 1) = (i : Int) := by omega
        rw [e1]
        obtain ⟨b, o, x, hAx, hx, hcx, _⟩ := R12.out.unt (show i < n by omega)
        obtain ⟨b', o', z, hDz, hz, hcz⟩ := R22.out.int (show i < n by omega)
        have HV := Lib.hid (prtR_at hx hz)
        have C1 := Lib.hid hcz
        have C2 := Lib.hid hcx
        have hxs := HNM.out x (List.mem_of_getElem? hx)
        obtain ⟨z0, z1⟩ := HZ.out z (List.mem_of_getElem? hz)
        have x0 := below_cell HA.out.ext C0.out
        have x1 := below_cell HA.out.ext C1.out
        have i0 : (0 : Int) ≤ i := by omega
        have i1 : (i : Int) < n := by omega
        subst hAx hDz
        clear hx hz hcx hcz e1
        by_cases hz0 : z = 0
        · have HE := Lib.hid (show prtR (us.drop i) (zs.drop i) = prtR (us.drop (i + 1)) (zs.drop (i + 1)) by rw [HV.out, if_pos hz0, List.append_nil])
          have d0 : (z != 0) = false := by simp [hz0]
          clear hz0
          go_wp2_with fail
          go_roundw
          case rel => exact ⟨i, nq, cq, P, by go_num, by omega, rfl, by rw [HE.out]; exact HA.out⟩
          case measure => simp [intOf]; try omega
        · have HE := Lib.hid (show prtR (us.drop i) (zs.drop i) = prtR (us.drop (i + 1)) (zs.drop (i + 1)) ++ [partB x z] by rw [HV.out, if_neg hz0])
          have d0 : (z != 0) = true := by simp [hz0]
          have bX0 : Below w2.heap.size w2 wq.drew := ext_drew HA.out.ext
          obtain ⟨sz, hsz⟩ : ∃ s, numB z = s := ⟨_, rfl⟩
          have zsz : sz.size ≤ 10 := hsz ▸ numB_size (by omega)
          have HNB := Lib.hid hsz
          clear hz0 hsz
          generalize prtR (us.drop (i + 1)) (zs.drop (i + 1)) = PL at *
          go_wp2_with fail
          refine wp_region_held_drew (S := (fun W => W.cell? ⟨w.heap.size, 0, none⟩ = some (.slice (some ⟨b', o', none⟩) n k) ∧ W.cell? ⟨b', o' + i, none⟩ = some (.int .i64 z) ∧ W.cell? ⟨b, o + i * 2, none⟩ = some (.string x.nm))) (by kernel_rfl) ?_ (fun hHeld => ?_)
          · (try dsimp only); exact ⟨below_cell (by assumption) C0.out, below_cell (by assumption) C1.out, below_cell (by assumption) C2.out⟩
          refine wpAnyH_takeD (i := 0) (v := ?_) 25 rfl rfl (by kernel_rfl) (by kernel_rfl) (by kernel_rfl) (fun _ _ _ _ _ h => h) (by rfl) (by assumption) ?_ ?_
          rotate_left; focus (intro w hSw; (try dsimp only at hSw); go_simp; first | done | (with_reducible rfl) | (rw [if_neg (by omega)]; done) | (rw [if_neg (by omega)]; with_reducible rfl))
          (try simp only [Act.put]); (try simp only [List.setIfInBounds_toArray]); (try simp only [List.set_cons_succ]); (try simp only [List.set_cons_zero])
          refine wpAnyH_takeD (i := 1) (v := ?_) 26 rfl rfl (by kernel_rfl) (by kernel_rfl) (by kernel_rfl) (fun _ _ _ _ _ h => h) (by rfl) (by assumption) ?_ ?_
          rotate_left; focus (intro w hSw; (try dsimp only at hSw); go_simp; first | done | (with_reducible rfl) | (rw [if_neg (by omega)]; done) | (rw [if_neg (by omega)]; with_reducible rfl))
          (try simp only [Act.put]); (try simp only [List.setIfInBounds_toArray]); (try simp only [List.set_cons_succ]); (try simp only [List.set_cons_zero])
          refine wpAnyH_takeD (i := 2) (v := ?_) 27 rfl rfl (by kernel_rfl) (by kernel_rfl) (by kernel_rfl) (fun _ _ _ _ _ h => h) (by rfl) (by assumption) ?_ ?_
          rotate_left; focus (intro w hSw; (try dsimp only at hSw); go_simp; first | done | (with_reducible rfl) | (rw [if_neg (by omega)]; done) | (rw [if_neg (by omega)]; with_reducible rfl))
          (try simp only [Act.put]); (try simp only [List.setIfInBounds_toArray]); (try simp only [List.set_cons_succ]); (try simp only [List.set_cons_zero])
          refine wpAnyH_takeD (i := 3) (v := ?_) 28 rfl rfl (by kernel_rfl) (by kernel_rfl) (by kernel_rfl) (fun _ _ _ _ _ h => h) (by rfl) (by assumption) ?_ ?_
          rotate_left; focus (intro w hSw; (try dsimp only at hSw); go_simp; first | done | (with_reducible rfl) | (rw [if_neg (by omega)]; done) | (rw [if_neg (by omega)]; with_reducible rfl))
          (try simp only [Act.put]); (try simp only [List.setIfInBounds_toArray]); (try simp only [List.set_cons_succ]); (try simp only [List.set_cons_zero])
          refine wpAnyH_takeD (i := 4) (v := ?_) 29 rfl rfl (by kernel_rfl) (by kernel_rfl) (by kernel_rfl) (fun _ _ _ _ _ h => h) (by rfl) (by assumption) ?_ ?_
          rotate_left; focus (intro w hSw; (try dsimp only at hSw); go_simp; first | done | (with_reducible rfl) | (rw [if_neg (by omega)]; done) | (rw [if_neg (by omega)]; with_reducible rfl))
          (try simp only [Act.put]); (try simp only [List.setIfInBounds_toArray]); (try simp only [List.set_cons_succ]); (try simp only [List.set_cons_zero])
          refine wpAnyH_takeD (i := 5) (v := ?_) 30 rfl rfl (by kernel_rfl) (by kernel_rfl) (by kernel_rfl) (fun _ _ _ _ _ h => h) (by rfl) (by assumption) ?_ ?_
          rotate_left; focus (intro w hSw; (try dsimp only at hSw); go_simp; first | done | (with_reducible rfl) | (rw [if_neg (by omega)]; done) | (rw [if_neg (by omega)]; with_reducible rfl))
          (try simp only [Act.put]); (try simp only [List.setIfInBounds_toArray]); (try simp only [List.set_cons_succ]); (try simp only [List.set_cons_zero])
          refine wpAnyH_takeD (i := 8) (v := ?_) 33 rfl rfl (by kernel_rfl) (by kernel_rfl) (by kernel_rfl) (fun _ _ _ _ _ h => h) (by rfl) (by assumption) ?_ ?_
          rotate_left; focus (intro w hSw; (try dsimp only at hSw); go_simp; first | done | (with_reducible rfl) | (rw [if_neg (by omega)]; done) | (rw [if_neg (by omega)]; with_reducible rfl))
          (try simp only [Act.put]); (try simp only [List.setIfInBounds_toArray]); (try simp only [List.set_cons_succ]); (try simp only [List.set_cons_zero])
          refine wpAnyH_takeD (i := 9) (v := ?_) 34 rfl rfl (by kernel_rfl) (by kernel_rfl) (by kernel_rfl) (fun _ _ _ _ _ h => h) (by rfl) (by assumption) ?_ ?_
          rotate_left; focus (intro w hSw; (try dsimp only at hSw); go_simp; first | done | (with_reducible rfl) | (rw [if_neg (by omega)]; done) | (rw [if_neg (by omega)]; with_reducible rfl))
          (try simp only [Act.put]); (try simp only [List.setIfInBounds_toArray]); (try simp only [List.set_cons_succ]); (try simp only [List.set_cons_zero])
          refine wpAnyH_takeD (i := 10) (v := ?_) 35 rfl rfl (by kernel_rfl) (by kernel_rfl) (by kernel_rfl) (fun _ _ _ _ _ h => h) (by rfl) (by assumption) ?_ ?_
          rotate_left; focus (intro w hSw; (try dsimp only at hSw); go_simp; first | done | (with_reducible rfl) | (rw [if_neg (by omega)]; done) | (rw [if_neg (by omega)]; with_reducible rfl))
          (try simp only [Act.put]); (try simp only [List.setIfInBounds_toArray]); (try simp only [List.set_cons_succ]); (try simp only [List.set_cons_zero])
          refine wpAnyH_takeD (i := 11) (v := ?_) 36 rfl rfl (by kernel_rfl) (by kernel_rfl) (by kernel_rfl) (fun _ _ _ _ _ h => h) (by rfl) (by assumption) ?_ ?_
          rotate_left; focus (intro w hSw; (try dsimp only at hSw); go_simp; first | done | (with_reducible rfl) | (rw [if_neg (by omega)]; done) | (rw [if_neg (by omega)]; with_reducible rfl))
          (try simp only [Act.put]); (try simp only [List.setIfInBounds_toArray]); (try simp only [List.set_cons_succ]); (try simp only [List.set_cons_zero])
          refine wpAnyH_takeD (i := 12) (v := ?_) 37 rfl rfl (by kernel_rfl) (by kernel_rfl) (by kernel_rfl) (fun _ _ _ _ _ h => h) (by rfl) (by assumption) ?_ ?_
          rotate_left; focus (intro w hSw; (try dsimp only at hSw); go_simp; first | done | (with_reducible rfl) | (rw [if_neg (by omega)]; done) | (rw [if_neg (by omega)]; with_reducible rfl))
          (try simp only [Act.put]); (try simp only [List.setIfInBounds_toArray]); (try simp only [List.set_cons_succ]); (try simp only [List.set_cons_zero])
          refine wpAnyH_ready (rs := [6]) (by kernel_rfl) (by simp) ?_
          refine AllReadyH.cons rfl (fun K hK => ?_) AllReadyH.nil
          go_simp; (go_at_call 60; refine (text_any z _ (by omega) (by omega)).mono ?_; rintro e X1 ⟨rfl, hb1⟩); rw [HNB.out]; have bX1 := ext_trans bX0 hb1; have aX1 := HA.out.drew.later hb1; (try dsimp only)
          refine hK.out _ _ ?_ (fun hHeld => ?_)
          focus ((try dsimp only); exact ⟨below_cell (by assumption) C0.out, below_cell (by assumption) C1.out, below_cell (by assumption) C2.out⟩)
          clear hK K; (try simp only [Act.put]); (try simp only [List.setIfInBounds_toArray]); (try simp only [List.set_cons_succ]); (try simp only [List.set_cons_zero])
          refine wpAnyH_takeD (i := 7) (v := ?_) 32 rfl rfl (by kernel_rfl) (by kernel_rfl) (by kernel_rfl) (fun _ _ _ _ _ h => h) (by rfl) (by assumption) ?_ ?_
          rotate_left; focus (intro w hSw; (try dsimp only at hSw); go_simp; first | done | (with_reducible rfl) | (rw [if_neg (by omega)]; done) | (rw [if_neg (by omega)]; with_reducible rfl))
          (try simp only [Act.put]); (try simp only [List.setIfInBounds_toArray]); (try simp only [List.set_cons_succ]); (try simp only [List.set_cons_zero])
          refine wpAnyH_takeD (i := 13) (v := ?_) 38 rfl rfl (by kernel_rfl) (by kernel_rfl) (by kernel_rfl) (fun _ _ _ _ _ h => h) (by rfl) (by assumption) ?_ ?_
          rotate_left; focus (intro w hSw; (try dsimp only at hSw); go_simp; first | done | (with_reducible rfl) | (rw [if_neg (by omega)]; done) | (rw [if_neg (by omega)]; with_reducible rfl))
          (try simp only [Act.put]); (try simp only [List.setIfInBounds_toArray]); (try simp only [List.set_cons_succ]); (try simp only [List.set_cons_zero])
          refine wpAnyH_ready (rs := [14]) (by kernel_rfl) (by simp) ?_
          refine AllReadyH.cons rfl (fun K hK => ?_) AllReadyH.nil
          go_simp; obtain ⟨X2, hX2⟩ : ∃ X2, X2 = World.alloc X1 (Obj.cells #[.string (sz ++ ⟨#[32]⟩ ++ x.nm)] 9) := ⟨_, rfl⟩; rw [← hX2]; have hbe : Below X1.heap.size X1 X2 := hX2 ▸ ext_alloc (Below.refl _ _) _; have bX2 := ext_trans bX1 hbe; have aX2 := aX1.later hbe; have rX2 : Reads X2 (X1.heap.size + 1) 1 (some ⟨X1.heap.size, 0, none⟩) 1 ([sz ++ ⟨#[32]⟩ ++ x.nm].map Value.string) := hX2 ▸ reads_newV X1 #[.string (sz ++ ⟨#[32]⟩ ++ x.nm)] 9 1 _ rfl rfl; (try dsimp only)
          refine hK.out _ _ ?_ (fun hHeld => ?_)
          focus ((try dsimp only); exact ⟨below_cell (by assumption) C0.out, below_cell (by assumption) C1.out, below_cell (by assumption) C2.out⟩)
          clear hK K; (try simp only [Act.put]); (try simp only [List.setIfInBounds_toArray]); (try simp only [List.set_cons_succ]); (try simp only [List.set_cons_zero])
          refine wpAnyH_ready (rs := [15]) (by kernel_rfl) (by simp) ?_
          refine AllReadyH.cons rfl (fun K hK => ?_) AllReadyH.nil
          refine appS_step rfl (.tmp 25) (.tmp 39) rfl rfl aX2 rfl rX2 (by omega) ?_; intro P2 c2 X3 aX3 pX3; have bX3 := aX3.ext; (try dsimp only)
          refine hK.out _ _ ?_ (fun hHeld => ?_)
          focus ((try dsimp only); exact ⟨below_cell (by assumption) C0.out, below_cell (by assumption) C1.out, below_cell (by assumption) C2.out⟩)
          clear hK K; (try simp only [Act.put]); (try simp only [List.setIfInBounds_toArray]); (try simp only [List.set_cons_succ]); (try simp only [List.set_cons_zero])
          refine wpAnyH_takeD (i := 16) (v := ?_) 6 rfl rfl (by kernel_rfl) (by kernel_rfl) (by kernel_rfl) (fun _ _ _ _ _ h => h) (by rfl) (by assumption) ?_ ?_
          rotate_left; focus (intro w hSw; (try dsimp only at hSw); go_simp; first | done | (with_reducible rfl) | (rw [if_neg (by omega)]; done) | (rw [if_neg (by omega)]; with_reducible rfl))
          (try simp only [Act.put]); (try simp only [List.setIfInBounds_toArray]); (try simp only [List.set_cons_succ]); (try simp only [List.set_cons_zero])
          refine wpAnyH_done (by kernel_rfl) ?_ _
          clear hHeld
          have HA3 := Lib.hid aX3
          clear bX0 bX1 bX2 bX3 aX1 aX2 aX3 rX2 hX2 pX3 hb1 hbe x0 x1
          go_wp2_with fail
          go_roundw
          case rel => exact ⟨i, nq + 1, c2, P2, by go_num, by omega, rfl, by rw [HE.out]; unfold partB; rw [HNB.out]; exact HA3.out⟩
          case measure => simp [intOf]; try omega
set_option maxRecDepth 100000 in
set_option maxHeartbeats 16000000 in
theorem sAmountText_any (A : Option Addr) (n c B : Nat) (us : List Unt) (D : Option Addr) (m k B2 : Nat) (zs : List Int) (w : World) (h : Reads w B 2 A n (untF us)) (hB : B ≤ w.heap.size) (hn : n ≤ 1048576) (hnm : ∀ x ∈ us, x.nm.size ≤ 1048576)
    (h2 : Reads w B2 1 D m (zs.map (Value.int .i64))) (hB2 : B2 ≤ w.heap.size) (hm : m ≤ 1048576) :
    Calls Try.prog 31 #[.slice A n c, .agg #[.slice D m k]] w fun e w' => e = .returned (.tuple #[.string (textV us zs).1, .bool (textV us zs).2]) ∧ Below w.heap.size w w' := by
  have hl := h.untLen
  have hl2 := h2.len
  have hb := ext_alloc (Below.refl w.heap.size w) (.cells #[.slice D m k] 28)
  have hk4 := Blk.new w 28 #[.slice D m k]
  generalize hw1 : w.alloc (.cells #[.slice D m k] 28) = w1 at hb hk4
  have HB := Lib.hid hb
  have K4 := Lib.hid hk4
  have HW := Lib.hid hw1
  have R1 := Lib.hid (h.below (hb.mono hB))
  have R2 := Lib.hid (h2.below (hb.mono hB2))
  have Z1 := Lib.hid (Nat.le_trans hB hb.size)
  have Z2 := Lib.hid (Nat.le_trans hB2 hb.size)
  have HQ := Lib.hid (l7Amount_any A n c B us D m k B2 zs w1 R1.out Z1.out hn hnm R2.out Z2.out hm)
  have x0 := hk4.cell 0
  simp only [List.getElem?_toArray, List.getElem?_cons_zero] at x0
  clear h h2 hb hk4 hw1
  cases ha : amtB us zs
  · have HO := Lib.hid (show textV us zs = (⟨#[]⟩, false) by unfold textV; rw [ha]; rfl)
    rw [ha] at HQ
    go_enter Try.func31, Try.ntmps31
    go_wp2_with fail
    rw [HW.out]
    refine HQ.out.mono ?_
    rintro e w2 ⟨rfl, hb2⟩
    go_wp2_with fail
    go_ret2
    exact ⟨by rw [HO.out]; rfl, ext_trans HB.out hb2⟩
  · rw [ha] at HQ
    have hs : sysB us = true := by unfold amtB at ha; simp only [Bool.and_eq_true] at ha; exact ha.1
    have hi := amt_in ha
    have hmn : n = m := by have := hi.len; omega
    subst hmn
    obtain ⟨⟨l1, l6⟩, _⟩ := sysB_to hs
    have hnms := sys_nm hs
    have HNM := Lib.hid hnms
    have HZ := Lib.hid hi.ct
    have hn6 : n ≤ 6 := by omega
    have hn1 : 1 ≤ n := by omega
    have HPL := Lib.hid (fun j => prtR_len (us.drop j) (zs.drop j))
    have HPS := Lib.hid (fun j => prtR_size (us.drop j) (zs.drop j) (fun x hx => hnms x (List.mem_of_mem_drop hx)) (fun z hz => (hi.ct z (List.mem_of_mem_drop hz)).2))
    have HL := Lib.hid hl
    have HL2 := Lib.hid hl2
    have HO := Lib.hid (show textV us zs = (if prtR us zs = [] then zeroB ++ nm0 us else joinB sepB (prtR us zs), true) by unfold textV; rw [ha]; rfl)
    have HD0 := Lib.hid (show prtR (us.drop n) (zs.drop n) = [] by rw [List.drop_of_length_le (by omega)]; simp [prtR])
    clear ha hs hi hnms hl hl2 l1 l6
    go_enter Try.func31, Try.ntmps31
    go_wp2_with fail
    rw [HW.out]
    refine HQ.out.mono ?_
    rintro e w2 ⟨rfl, hb2⟩
    have K42 := Lib.hid (K4.out.below hb2 K4.out.lt)
    have R12 := Lib.hid (R1.out.below (hb2.mono Z1.out))
    have R22 := Lib.hid (R2.out.below (hb2.mono Z2.out))
    have Z12 := Lib.hid (Nat.le_trans Z1.out hb2.size)
    have Z22 := Lib.hid (Nat.le_trans Z2.out hb2.size)
    have HB2 := Lib.hid (ext_trans HB.out hb2)
    have hc0 := K42.out.cell 0
    simp only [List.getElem?_toArray, List.getElem?_cons_zero] at hc0
    have C0 := Lib.hid hc0
    obtain ⟨bf, of, xf, hAf, hxf, hcf, _⟩ := R12.out.unt (show 0 < n by omega)
    have HXF := Lib.hid (nm0_at hxf)
    have CF := Lib.hid hcf
    have HAF := Lib.hid hAf
    have hxfs := HNM.out xf (List.mem_of_getElem? hxf)
    clear x0 hb2 hc0 hcf hxf hAf
    go_wp2_with fail
    have HBX := Lib.hid (Below.refl w2.heap.size w2)
    go_loopw [6, 7] (fun q i wr => ∃ (j u : Nat), i = .int .i64 ((j : Int) - 1) ∧ j ≤ n ∧ q = .string (joinB sepB (prtR (us.drop j) (zs.drop j))) ∧ wr = w2.drewN u) (fun _ i _ => (intOf i + 1).toNat)
    case atStart => exact ⟨n, 0, rfl, by omega, by rw [HD0.out]; rfl, rfl⟩
    case round =>
      obtain ⟨j, u, rfl, hj, rfl, hwm⟩ := hrel
      have HM := Lib.hid hwm
      have HBM := Lib.hid (show Below w2.heap.size w2 wr by rw [hwm]; exact ext_drewN (Below.refl _ _) u)
      clear hwm
      have hPS := HPS.out j
      have hPL : (prtR (us.drop j) (zs.drop j)).length ≤ 6 := by have := HPL.out j; rw [List.length_drop] at this; have := HL.out; omega
      have hjs := join_size2 (sep := sepB) (by decide) (fun s hs => (hPS s hs).1) (prtR (us.drop j) (zs.drop j)).length
      have hjs : (joinB sepB (prtR (us.drop j) (zs.drop j))).size ≤ 138 := by unfold joinB; omega
      have hje := fun h => joinB_some (sep := sepB) h (fun s hs => (hPS s hs).2)
      clear hPS hPL
      rcases Nat.eq_zero_or_pos j with h0 | h0
      · subst h0
        have e0 : us.drop 0 = us := rfl
        have e1 : zs.drop 0 = zs := rfl
        rw [e0, e1] at hjs hje ⊢
        by_cases hnil : prtR us zs = []
        · have HO2 := Lib.hid (show textV us zs = (zeroB ++ xf.nm, true) by rw [HO.out, if_pos hnil, HXF.out])
          have hcf := below_cell HBM.out CF.out
          have eF := HAF.out
          have i0 : (0 : Int) < n := by omega
          have eS : joinB sepB (prtR us zs) = ⟨#[]⟩ := by rw [hnil]; rfl
          rw [eS]
          have eE : (⟨#[]⟩ : ByteArray).toList.isEmpty = true := str_isEmpty rfl
          clear hnil hje hjs e0 e1 eS
          subst eF
          simp only [Nat.zero_mul, Nat.add_zero] at hcf
          go_wp2_with fail
          go_ret2
          exact ⟨by rw [HO2.out]; rfl, ext_trans HB2.out HBM.out⟩
        · have HO2 := Lib.hid (show textV us zs = (joinB sepB (prtR us zs), true) by rw [HO.out, if_neg hnil])
          have eE := str_notEmpty (hje hnil)
          clear hnil hje e0 e1
          generalize joinB sepB (prtR us zs) = ST at *
          go_wp2_with fail
          go_ret2
          exact ⟨by rw [HO2.out]; rfl, ext_trans HB2.out HBM.out⟩
      · obtain ⟨i, rfl⟩ : ∃ i, j = i + 1 := ⟨j - 1, by omega⟩
        have e1 : (((i + 1 : Nat) : Int) - 1) = (i : Int) := by omega
        rw [e1]
        obtain ⟨b, o, x, hAx, hx, hcx, _⟩ := R12.out.unt (show i < n by omega)
        obtain ⟨b', o', z, hDz, hz, hcz⟩ := R22.out.int (show i < n by omega)
        have HV := Lib.hid (prtR_at hx hz)
        have x2 := below_cell HBM.out hcx
        have hxs := HNM.out x (List.mem_of_getElem? hx)
        obtain ⟨z0, z1⟩ := HZ.out z (List.mem_of_getElem? hz)
        have x0 := below_cell HBM.out C0.out
        have x1 := below_cell HBM.out hcz
        have i0 : (0 : Int) ≤ i := by omega
        have i1 : (i : Int) < n := by omega
        subst hAx hDz
        clear hx hz hcx hcz e1
        by_cases hz0 : z = 0
        · have HE := Lib.hid (show joinB sepB (prtR (us.drop i) (zs.drop i)) = joinB sepB (prtR (us.drop (i + 1)) (zs.drop (i + 1))) by rw [HV.out, if_pos hz0, List.append_nil])
          have d0 : (z == 0) = true := by simp [hz0]
          clear hz0 hje
          generalize joinB sepB (prtR (us.drop (i + 1)) (zs.drop (i + 1))) = ST at *
          go_wp2_with fail
          go_roundw
          case rel => exact ⟨i, u, by go_num, by omega, by rw [HE.out], HM.out⟩
          case measure => simp [intOf]; try omega
        · have HE := Lib.hid (show joinB sepB (prtR (us.drop i) (zs.drop i)) = (if prtR (us.drop (i + 1)) (zs.drop (i + 1)) = [] then joinB sepB (prtR (us.drop (i + 1)) (zs.drop (i + 1))) else joinB sepB (prtR (us.drop (i + 1)) (zs.drop (i + 1))) ++ sepB) ++ numB z ++ spB ++ x.nm by rw [HV.out, if_neg hz0, join_part])
          have d0 : (z == 0) = false := by simp [hz0]
          have HQN := Lib.hid (fun w => l1Num_any z.toNat z w (Nat.le_refl _) z0 (by omega))
          have hns := numB_size (n := z) (by omega)
          clear hz0
          by_cases hnil : prtR (us.drop (i + 1)) (zs.drop (i + 1)) = []
          · rw [if_pos hnil] at HE
            have eS : joinB sepB (prtR (us.drop (i + 1)) (zs.drop (i + 1))) = ⟨#[]⟩ := by rw [hnil]; rfl
            rw [eS] at HE ⊢
            have eE : (⟨#[]⟩ : ByteArray).toList.isEmpty = true := str_isEmpty rfl
            have hz00 : (⟨#[]⟩ : ByteArray).size = 0 := rfl
            clear hnil hje hjs eS
            generalize numB z = sz at *
            go_wp2_with fail
            go_quiet ((go_at_call 62; exact quiet_more HQN.out _ _))
            go_wp2_with fail
            go_roundw
            case rel => exact ⟨i, _, by go_num, by omega, by rw [HE.out]; rfl, by rw [HM.out]; exact World.drewN_drewN _ _ _⟩
            case measure => simp [intOf]; try omega
          · rw [if_neg hnil] at HE
            have eE := str_notEmpty (hje hnil)
            clear hnil hje
            generalize joinB sepB (prtR (us.drop (i + 1)) (zs.drop (i + 1))) = ST at *
            generalize numB z = sz at *
            have hss : (ST ++ sepB).size = ST.size + 2 := by rw [ByteArray.size_append]; rfl
            go_wp2_with fail
            go_quiet ((go_at_call 62; exact quiet_more HQN.out _ _))
            go_wp2_with fail
            go_roundw
            case rel => exact ⟨i, _, by go_num, by omega, by rw [HE.out]; rfl, by rw [HM.out]; exact World.drewN_drewN _ _ _⟩
            case measure => simp [intOf]; try omega
end Go.Proofs.Ythigfbhkdegfkaa
