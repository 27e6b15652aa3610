/- The minutes of all teachers. No condition. -/
import Derived.Test.YtnndhgeddfghcaaSS
import Derived.Test.YtnndhgeddfghcaaFree
namespace Go.Proofs.Ytnndhgeddfghcaa
open Go.RowKit

/-- The minutes of one teacher. -/
def hourV (t : Int) : List Lesn → Int
  | [] => 0
  | x :: xs => (if x.t = t then x.m else 0) + hourV t xs
theorem hourV_app (t : Int) : ∀ (xs ys : List Lesn), hourV t (xs ++ ys) = hourV t xs + hourV t ys
  | [], ys => by simp [hourV]
  | x :: xs, ys => by rw [List.cons_append, hourV, hourV, hourV_app t xs ys]; omega
theorem hourV_hit {t : Int} {xs : List Lesn} {k : Nat} {x : Lesn} (hx : xs[k]? = some x) (h : x.t = t) : hourV t (xs.take (k + 1)) = hourV t (xs.take k) + x.m := by
  rw [take_at hx, hourV_app, hourV, hourV, if_pos h]; omega
theorem hourV_miss {t : Int} {xs : List Lesn} {k : Nat} {x : Lesn} (hx : xs[k]? = some x) (h : x.t ≠ t) : hourV t (xs.take (k + 1)) = hourV t (xs.take k) := by
  rw [take_at hx, hourV_app, hourV, hourV, if_neg h]; omega
theorem hourV_bd {t : Int} : ∀ {xs : List Lesn}, (∀ x ∈ xs, x.ok = true) → 0 ≤ hourV t xs ∧ hourV t xs ≤ 90 * (xs.length : Int)
  | [], _ => by simp [hourV]
  | x :: xs, h => by
    have ih := hourV_bd (t := t) (fun y hy => h y (List.mem_cons_of_mem _ hy))
    have hx := les_parts (h x List.mem_cons_self)
    rw [hourV, List.length_cons]
    split <;> omega
/-- The rows of the first teachers. -/
def hoursTo (xs : List Lesn) : Nat → List (List Int)
  | 0 => []
  | k + 1 => hoursTo xs k ++ (if 0 < hourV ((k : Int) + 1) xs then [[(k : Int) + 1, hourV ((k : Int) + 1) xs]] else [])
theorem hours_yes {xs : List Lesn} {k : Nat} (h : 0 < hourV ((k : Int) + 1) xs) : hoursTo xs (k + 1) = hoursTo xs k ++ [[(k : Int) + 1, hourV ((k : Int) + 1) xs]] := by rw [hoursTo, if_pos h]
theorem hours_no {xs : List Lesn} {k : Nat} (h : ¬ 0 < hourV ((k : Int) + 1) xs) : hoursTo xs (k + 1) = hoursTo xs k := by rw [hoursTo, if_neg h, List.append_nil]
theorem hoursTo_len (xs : List Lesn) : ∀ k, (hoursTo xs k).length ≤ k
  | 0 => by simp [hoursTo]
  | k + 1 => by
    have := hoursTo_len xs k
    rw [hoursTo]; split <;> simp <;> omega
theorem hoursTo_tot (xs : List Lesn) : ∀ k, ((hoursTo xs k).map List.length).sum ≤ 2 * k
  | 0 => by simp [hoursTo]
  | k + 1 => by
    have := hoursTo_tot xs k
    rw [hoursTo]; split <;> simp <;> omega
def hoursL (xs : List Lesn) : List (List Int) := if lessB xs = true then hoursTo xs 20 else []
theorem hoursL_len (xs : List Lesn) : (hoursL xs).length ≤ 20 := by unfold hoursL; split; exact hoursTo_len _ _; simp
theorem hoursL_tot (xs : List Lesn) : ((hoursL xs).map List.length).sum ≤ 40 := by unfold hoursL; split; exact hoursTo_tot _ _; simp
theorem less_allH {xs : List Lesn} (h : lessB xs = true) : ∀ x ∈ xs, x.ok = true := fun x hx => by
  obtain ⟨i, hi⟩ := List.mem_iff_getElem?.1 hx
  exact less_ok h hi
set_option maxRecDepth 100000 in
set_option maxHeartbeats 4000000 in
theorem sTeacherHours_any (A : Option Addr) (n c B : Nat) (xs : List Lesn) (w : World) (h : Reads w B 7 A n ((lesnF xs).map (Value.int .i64))) (hB : B ≤ w.heap.size) (hn : n ≤ 1048576) :
    Calls Try.prog 37 #[.slice A n c] w fun e w' => GivesN 42 3 (hoursL xs) (lessB xs) w e w' := by
  have hl := h.lesnLen
  have H := Lib.hid h
  have HL := Lib.hid hl
  clear h hl
  cases ha : lessB xs
  · have HR := Lib.hid (show hoursL xs = [] by unfold hoursL; rw [ha]; simp)
    go_enter Try.func37, Try.ntmps37
    go_wp2_with fail
    refine (l11Good_any A n c B xs _ (H.out.alloc hB _) (by simp; omega) hn).mono ?_
    rintro e w2 ⟨rfl, hb2⟩
    rw [ha]
    have A0 := Lib.hid ((AccN.empty (E2 := 42) (E := 3) (Below.refl w.heap.size w)).later hb2)
    clear hb2
    go_wp2
    go_ret2
    rw [HR.out]
    exact ⟨_, _, _, _, rfl, A0.out⟩
  · have HR := Lib.hid (show hoursL xs = hoursTo xs 20 by unfold hoursL; rw [ha]; simp)
    have hn12 : n ≤ 12 := by have := less_len ha; have := HL.out; omega
    have HO := Lib.hid (less_allH ha)
    go_enter Try.func37, Try.ntmps37
    go_wp2_with fail
    refine (l11Good_any A n c B xs _ (H.out.alloc hB _) (by simp; omega) hn).mono ?_
    rintro e w2 ⟨rfl, hb2⟩
    rw [ha]
    have A0 := Lib.hid ((AccN.empty (E2 := 42) (E := 3) (Below.refl w.heap.size w)).later hb2)
    clear hb2 ha
    go_wp2
    go_loopw [4, 5] (fun p q wr => ∃ (k m cc : Nat) (P : Option Addr) (hs : List Hd), q = .int .i64 ((k : Int) + 1) ∧ k ≤ 20 ∧ p = .slice P m cc ∧ AccN w wr 42 3 P m cc hs (hoursTo xs k)) (fun _ q _ => 21 - (intOf q).toNat)
    case atStart => exact ⟨0, 0, 0, _, [], rfl, by omega, rfl, A0.out⟩
    case round =>
      obtain ⟨wo, rfl⟩ : ∃ wo : World, wo = wr := ⟨_, rfl⟩
      obtain ⟨k, m, cc, P, hs, rfl, hk, rfl, hacc⟩ := hrel
      have HA := Lib.hid hacc
      clear hacc
      have k0 : (0 : Int) ≤ k := by omega
      by_cases hlt : k < 20
      · have k1 : (k : Int) + 1 ≤ 20 := by omega
        go_wp2
        go_loopw [6, 7] (fun s q wr => ∃ j : Nat, q = .int .i64 j ∧ j ≤ n ∧ s = .int .i64 (hourV ((k : Int) + 1) (xs.take j)) ∧ Below wo.heap.size wo wr) (fun _ q _ => n - (intOf q).toNat)
        case atStart => exact ⟨0, rfl, by omega, rfl, Below.refl _ _⟩
        case round =>
          obtain ⟨wq, rfl⟩ : ∃ wq : World, wq = wr := ⟨_, rfl⟩
          obtain ⟨j, rfl, hj, rfl, hbw⟩ := hrel
          have HW := Lib.hid hbw
          clear hbw
          have RQ := Lib.hid (H.out.below ((ext_trans HA.out.ext HW.out).mono hB))
          have j0 : (0 : Int) ≤ j := by omega
          have HS := Lib.hid (hourV_bd (t := (k : Int) + 1) (xs := xs.take j) (fun x hx => HO.out x (List.mem_of_mem_take hx)))
          have s0 := HS.out.1
          have s1 : hourV ((k : Int) + 1) (xs.take j) ≤ 2000 := by have := HS.out.2; rw [List.length_take] at this; omega
          by_cases hjt : j < n
          · obtain ⟨b, o, x, hAx, hx, hc0, hc1, hc2, hc3, hc4, hc5, hc6⟩ := RQ.out.lesn hjt
            subst hAx
            have hxo := les_parts (HO.out x (List.mem_of_getElem? hx))
            have m0 : 0 ≤ x.m := by omega
            have m1 : x.m ≤ 90 := by omega
            clear hxo
            have HX := Lib.hid hx
            clear hx
            have j1 : (j : Int) < n := by omega
            by_cases hp : x.t = (k : Int) + 1
            · have HV := Lib.hid (hourV_hit HX.out hp)
              have hpb : (x.t == (k : Int) + 1) = true := by simp [hp]
              clear hp
              generalize hourV ((k : Int) + 1) (xs.take j) = sj at s0 s1 HV ⊢
              go_wp2
              go_roundw
              case rel => exact ⟨j + 1, by go_num, by omega, by rw [HV.out], HW.out⟩
              case measure => simp [intOf]; omega
            · have HV := Lib.hid (hourV_miss HX.out hp)
              have hpb : (x.t == (k : Int) + 1) = false := by simp [hp]
              clear hp
              go_wp2
              go_roundw
              case rel => exact ⟨j + 1, by go_num, by omega, by rw [HV.out], HW.out⟩
              case measure => simp [intOf]; omega
          · obtain rfl : j = n := by omega
            have HT := Lib.hid (show hourV ((k : Int) + 1) (xs.take j) = hourV ((k : Int) + 1) xs by rw [List.take_of_length_le (by have := HL.out; omega)])
            rw [HT.out] at s0 s1
            rw [HT.out]
            have A1 := Lib.hid (HA.out.later HW.out)
            by_cases hz : 0 < hourV ((k : Int) + 1) xs
            · have HN := Lib.hid (hours_yes hz)
              have BL := hoursTo_len xs k
              have BM : m ≤ 20 := by have := A1.out.reads.rlen; omega
              go_wp2_with (at_builtin; refine appN rfl _ _ rfl rfl ((A1.out.alloc _).alloc _) rfl (reads_hd _ _ ⟨some ⟨wq.heap.size, 0, none⟩, 2, 2⟩ _ (by simp)) (A1.out.newRow _ [(k : Int) + 1, hourV ((k : Int) + 1) xs] rfl (by simp [maxLen]) _) (by omega) ?_; intro A2 c2 wz A3 _)
              go_roundw
              case rel => exact ⟨k + 1, _, _, _, _, by go_num, by omega, rfl, by rw [HN.out]; exact A3⟩
              case measure => simp [intOf]; omega
            · have HN := Lib.hid (hours_no hz)
              go_wp2
              go_roundw
              case rel => exact ⟨k + 1, m, cc, _, hs, by go_num, by omega, rfl, by rw [HN.out]; exact A1.out⟩
              case measure => simp [intOf]; omega
      · obtain rfl : k = 20 := by omega
        go_wp2
        go_ret2
        rw [HR.out]
        exact ⟨_, _, _, _, rfl, HA.out⟩
set_option maxRecDepth 100000 in
set_option maxHeartbeats 4000000 in
theorem iTeacherHours_any (A : Option Addr) (n c B : Nat) (xs : List Lesn) (w : World) (h : Reads w B 7 A n ((lesnF xs).map (Value.int .i64))) (hB : B ≤ w.heap.size) (hn : n ≤ 1048576) :
    Calls Try.prog 38 #[.slice A n c] w fun e w' => GivesN 42 3 (hoursL xs) (lessB xs) w e w' := by
  have hl := h.lesnLen
  have H := Lib.hid h
  have HL := Lib.hid hl
  clear h hl
  cases ha : lessB xs
  · have HR := Lib.hid (show hoursL xs = [] by unfold hoursL; rw [ha]; simp)
    go_enter Try.func38, Try.ntmps38
    go_wp2_with fail
    refine (iAreLessons_any A n c B xs _ H.out hB hn).mono ?_
    rintro e w2 ⟨rfl, hb2⟩
    rw [ha]
    have A0 := Lib.hid (AccN.nil (E2 := 42) (E := 3) hb2)
    clear hb2
    go_wp2
    go_ret2
    rw [HR.out]
    exact ⟨_, _, _, _, rfl, A0.out⟩
  · have HR := Lib.hid (show hoursL xs = hoursTo xs 20 by unfold hoursL; rw [ha]; simp)
    have hn12 : n ≤ 12 := by have := less_len ha; have := HL.out; omega
    have HO := Lib.hid (less_allH ha)
    go_enter Try.func38, Try.ntmps38
    go_wp2_with fail
    refine (iAreLessons_any A n c B xs _ H.out hB hn).mono ?_
    rintro e w2 ⟨rfl, hb2⟩
    rw [ha]
    have A0 := Lib.hid (AccN.nil (E2 := 42) (E := 3) hb2)
    clear hb2 ha
    go_wp2
    go_loopw [4, 5] (fun p q wr => ∃ (k m cc : Nat) (P : Option Addr) (hs : List Hd), q = .int .i64 ((k : Int) + 1) ∧ k ≤ 20 ∧ p = .slice P m cc ∧ AccN w wr 42 3 P m cc hs (hoursTo xs k)) (fun _ q _ => 21 - (intOf q).toNat)
    case atStart => exact ⟨0, 0, 0, _, [], rfl, by omega, rfl, A0.out⟩
    case round =>
      obtain ⟨wo, rfl⟩ : ∃ wo : World, wo = wr := ⟨_, rfl⟩
      obtain ⟨k, m, cc, P, hs, rfl, hk, rfl, hacc⟩ := hrel
      have HA := Lib.hid hacc
      clear hacc
      have k0 : (0 : Int) ≤ k := by omega
      by_cases hlt : k < 20
      · have k1 : (k : Int) + 1 ≤ 20 := by omega
        go_wp2
        go_loopw [6, 18] (fun s q wr => ∃ j : Nat, q = .int .i64 j ∧ j ≤ n ∧ s = .int .i64 (hourV ((k : Int) + 1) (xs.take j)) ∧ Below wo.heap.size wo wr) (fun _ q _ => n - (intOf q).toNat)
        case atStart => exact ⟨0, rfl, by omega, rfl, Below.refl _ _⟩
        case round =>
          obtain ⟨wq, rfl⟩ : ∃ wq : World, wq = wr := ⟨_, rfl⟩
          obtain ⟨j, rfl, hj, rfl, hbw⟩ := hrel
          have HW := Lib.hid hbw
          clear hbw
          have RQ := Lib.hid (H.out.below ((ext_trans HA.out.ext HW.out).mono hB))
          have j0 : (0 : Int) ≤ j := by omega
          have HS := Lib.hid (hourV_bd (t := (k : Int) + 1) (xs := xs.take j) (fun x hx => HO.out x (List.mem_of_mem_take hx)))
          have s0 := HS.out.1
          have s1 : hourV ((k : Int) + 1) (xs.take j) ≤ 2000 := by have := HS.out.2; rw [List.length_take] at this; omega
          by_cases hjt : j < n
          · obtain ⟨b, o, x, hAx, hx, hc0, hc1, hc2, hc3, hc4, hc5, hc6⟩ := RQ.out.lesn hjt
            subst hAx
            have hxo := les_parts (HO.out x (List.mem_of_getElem? hx))
            have m0 : 0 ≤ x.m := by omega
            have m1 : x.m ≤ 90 := by omega
            clear hxo
            have HX := Lib.hid hx
            clear hx
            have j1 : (j : Int) < n := by omega
            by_cases hp : x.t = (k : Int) + 1
            · have HV := Lib.hid (hourV_hit HX.out hp)
              have hpb : (x.t == (k : Int) + 1) = true := by simp [hp]
              clear hp
              generalize hourV ((k : Int) + 1) (xs.take j) = sj at s0 s1 HV ⊢
              go_wp2
              go_roundw
              case rel => exact ⟨j + 1, by go_num, by omega, by rw [HV.out], ext_alloc HW.out _⟩
              case measure => simp [intOf]; omega
            · have HV := Lib.hid (hourV_miss HX.out hp)
              have hpb : (x.t == (k : Int) + 1) = false := by simp [hp]
              clear hp
              go_wp2
              go_roundw
              case rel => exact ⟨j + 1, by go_num, by omega, by rw [HV.out], ext_alloc HW.out _⟩
              case measure => simp [intOf]; omega
          · obtain rfl : j = n := by omega
            have HT := Lib.hid (show hourV ((k : Int) + 1) (xs.take j) = hourV ((k : Int) + 1) xs by rw [List.take_of_length_le (by have := HL.out; omega)])
            rw [HT.out] at s0 s1
            rw [HT.out]
            have A1 := Lib.hid (HA.out.later HW.out)
            by_cases hz : 0 < hourV ((k : Int) + 1) xs
            · have HN := Lib.hid (hours_yes hz)
              have BL := hoursTo_len xs k
              have BM : m ≤ 20 := by have := A1.out.reads.rlen; omega
              go_wp2_with (at_builtin; refine appN rfl _ _ rfl rfl ((A1.out.alloc _).alloc _) rfl (reads_hd _ _ ⟨some ⟨wq.heap.size, 0, none⟩, 2, 2⟩ _ (by simp)) (A1.out.newRow _ [(k : Int) + 1, hourV ((k : Int) + 1) xs] rfl (by simp [maxLen]) _) (by omega) ?_; intro A2 c2 wz A3 _)
              go_roundw
              case rel => exact ⟨k + 1, _, _, _, _, by go_num, by omega, rfl, by rw [HN.out]; exact A3⟩
              case measure => simp [intOf]; omega
            · have HN := Lib.hid (hours_no hz)
              go_wp2
              go_roundw
              case rel => exact ⟨k + 1, m, cc, _, hs, by go_num, by omega, rfl, by rw [HN.out]; exact A1.out⟩
              case measure => simp [intOf]; omega
      · obtain rfl : k = 20 := by omega
        go_wp2
        go_ret2
        rw [HR.out]
        exact ⟨_, _, _, _, rfl, HA.out⟩
set_option maxHeartbeats 4000000 in
theorem FnExactTeacherHours_any (A : Option Addr) (n c : Nat) (zs : List Int)  (w : World) (h : Reads w w.heap.size 7 A n (zs.map (Value.int .i64)) ∧ n ≤ maxLen) :
    Calls Try.prog 10 #[.slice A n c] w fun e w' => e = .returned (.bool true) ∧ Below w.heap.size w w' := by
  obtain ⟨h, hm⟩ := h
  obtain ⟨xs, rfl, hl⟩ := lesnF_of n zs (by simpa using h.1)
  have H := Lib.hid h
  clear h
  by_cases hn : n ≤ 1048576
  · have hzl : (hoursL xs).length ≤ 1048576 := by have := hoursL_len xs; omega
    have hzt : ((hoursL xs).map List.length).sum ≤ 1048576 := by have := hoursL_tot xs; omega
    clear hl
    have hS := fun (A : Option Addr) (n c B : Nat) (w : World) h hB hn => sTeacherHours_any A n c B xs  w h hB hn
    have hI := fun (A : Option Addr) (n c B : Nat) (w : World) h hB hn => iTeacherHours_any A n c B xs  w h hB hn
    generalize hoursL xs = zs at hS hI hzl hzt
    generalize lessB xs = ok at hS hI
    have HS := Lib.hid hS
    have HI := Lib.hid hI
    have he := decide_eq_true (rfl : zs = zs)
    clear hS hI
    go_enter Try.func10, Try.ntmps10
    go_wp2_with fail
    refine (szLessonS_any A n c hm _).mono ?_
    rintro e w' ⟨rfl, rfl⟩
    rw [if_pos hn]
    go_wp2_with fail
    refine (toLessonS_any A n c _ xs _ H.out (Nat.le_refl _) hn).mono ?_
    rintro e w1 ⟨A1, n1, c1, rfl, a1⟩
    have z1 := a1.reads.lesnLen
    have z0 := H.out.lesnLen
    obtain rfl : n1 = n := by omega
    have R1 := Lib.hid (H.out.below a1.ext)
    have E1 := Lib.hid a1.ext
    go_wp2_with fail
    refine (HS.out A1 n1 c1 _ _ a1.reads (Nat.le_refl _) hn).mono ?_
    rintro e w2 ⟨A0, n0, c0, hs0, rfl, h0⟩
    have R2 := Lib.hid (R1.out.below (h0.ext.mono E1.out.size))
    have E2 := Lib.hid (ext_trans E1.out h0.ext)
    have H0 := Lib.hid h0.reads
    have L0 : n0 ≤ 1048576 := by have := h0.reads.rlen; omega
    clear a1 z1 h0
    go_wp2_with fail
    refine (toLessonS_any A n1 c _ xs _ R2.out E2.out.size hn).mono ?_
    rintro e w3 ⟨A3, n3, c3, rfl, a3⟩
    have z3 := a3.reads.lesnLen
    obtain rfl : n3 = n1 := by omega
    have R3 := Lib.hid (R2.out.below (a3.ext.mono E2.out.size))
    have E3 := Lib.hid (ext_trans E2.out a3.ext)
    have H3 := Lib.hid (H0.out.below a3.ext)
    have O3 := Lib.hid a3
    have S23 : w2.heap.size ≤ w3.heap.size := a3.ext.size
    clear a3 z3
    go_wp2_with fail
    refine (HI.out A3 n3 c3 _ _ O3.out.reads (Nat.le_refl _) hn).mono ?_
    rintro e w4 ⟨A4, n4, c4, hs4, rfl, h4⟩
    have R4 := Lib.hid (R3.out.below (h4.ext.mono E3.out.size))
    have E4 := Lib.hid (ext_trans E3.out h4.ext)
    have H4 := Lib.hid (H3.out.below (h4.ext.mono S23))
    have O4 := Lib.hid (O3.out.later h4.ext)
    have G4 := Lib.hid h4
    have L4 : n4 ≤ 1048576 := by have := h4.reads.rlen; omega
    have T4 : (tot hs4 : Int) ≤ 1048576 := by have := h4.reads.tot; omega
    have S34 : w3.heap.size ≤ w4.heap.size := h4.ext.size
    clear h4
    go_wp2_with fail
    refine (eqIntSS_any A4 A0 n4 n0 c4 c0 _ _ _ _ zs zs _ G4.out.reads H4.out (by unfold maxLen; omega) (by unfold maxLen; omega)).mono ?_
    rintro e w' ⟨rfl, m4, rfl⟩
    go_wp2_with fail
    refine (toLessonS_any A n3 c _ xs _ (R4.out.drewN m4) E4.out.size hn).mono ?_
    rintro e w5 ⟨A5, n5, c5, rfl, a5⟩
    have z5 := a5.reads.lesnLen
    obtain rfl : n5 = n3 := by omega
    have B45 := Lib.hid (ext_trans (below_drewN (B := w4.heap.size) w4 m4) a5.ext)
    go_wp2_with fail
    refine (eqLessonS_any A3 A5 n5 n5 c3 c5 _ _ xs xs _ (O4.out.reads.below B45.out) a5.reads B45.out.size (Nat.le_refl _) (by unfold maxLen; omega) (by unfold maxLen; omega)).mono ?_
    rintro e w6 ⟨rfl, hb6⟩
    rw [decide_eq_true (rfl : xs = xs)]
    have B46 := Lib.hid (ext_trans B45.out hb6)
    have R6 := Lib.hid (R4.out.below (B46.out.mono E4.out.size))
    have E6 := Lib.hid (ext_trans E4.out B46.out)
    have H6 := Lib.hid (H4.out.below (B46.out.mono (Nat.le_trans S23 S34)))
    have O6 := Lib.hid (O4.out.later B46.out)
    have G6 := Lib.hid (G4.out.later B46.out)
    have S46 : w4.heap.size ≤ w6.heap.size := B46.out.size
    clear hb6 a5 z5
    go_wp2_with fail
    refine (markLessonS_any A3 n5 c3 _ _ 1 _ O6.out.own (by omega) (by omega) (by omega)).mono ?_
    rintro e w7 ⟨rfl, _, hg7⟩
    have hrow3 : ∀ g, (Value.slice A3 n5 c3).ownBlock = some g → w2.heap.size ≤ g ∧ g < w3.heap.size := fun g hg => O3.out.own.lt g hg
    have S26 : w2.heap.size ≤ w6.heap.size := by omega
    have H7 := Lib.hid (H6.out.grown hg7 S26 (fun g hg => (hrow3 g hg).1))
    obtain ⟨w3', z3', G7'⟩ := G6.out.moved hg7 (fun g hg => (hrow3 g hg).2)
    have G7 := Lib.hid G7'
    clear G7'
    have E7 := Lib.hid (ext_grown E6.out hg7 (fun g hg => Nat.le_trans E2.out.size (hrow3 g hg).1))
    have S67 : w6.heap.size ≤ w7.heap.size := hg7.size
    have hk1 : (0 : Int) ≤ 1 + ((n5 * 7 : Nat) : Int) := by omega
    clear hg7
    go_wp2_with fail
    refine (eqIntSS_any A4 A0 n4 n0 c4 c0 _ _ _ _ zs zs _ G7.out.reads H7.out (by unfold maxLen; omega) (by unfold maxLen; omega)).mono ?_
    rintro e w' ⟨rfl, m7, rfl⟩
    go_wp2_with fail
    refine (markIntSS_any A4 n4 c4 w3' _ hs4 zs 1 _ (G7.out.drewN m7) (by omega) (by omega) (by omega) (by omega)).mono ?_
    rintro e w8 ⟨rfl, hm8, hb8⟩
    rw [z3'] at hb8
    have H8 := Lib.hid ((H7.out.drewN m7).below (hb8.mono S23))
    have E8 := Lib.hid ((ext_drewN E7.out m7).trans (hb8.mono E3.out.size))
    have G8 := Lib.hid hm8
    have S78 : w7.heap.size ≤ w8.heap.size := hb8.size
    have R8 := Lib.hid (H.out.below E8.out)
    clear hm8 hb8
    go_wp2_with fail
    refine (heldIntSS_any A4 n4 c4 _ hs4 1 _ G8.out.reads (by omega) (by omega) (by omega) (by omega)).mono ?_
    rintro e w' ⟨rfl, rfl⟩
    go_wp2_with fail
    refine (toLessonS_any A n5 c _ xs _ R8.out E8.out.size hn).mono ?_
    rintro e w9 ⟨A9, n9, c9, rfl, a9⟩
    have z9 := a9.reads.lesnLen
    obtain rfl : n9 = n5 := by omega
    have B89 := Lib.hid a9.ext
    go_wp2_with fail
    refine (HI.out A9 n9 c9 _ _ a9.reads (Nat.le_refl _) hn).mono ?_
    rintro e w10 ⟨A10, n10, c10, hs10, rfl, h10⟩
    have B8 := Lib.hid (ext_trans B89.out h10.ext)
    have H10 := Lib.hid (H8.out.below (B8.out.mono (by omega)))
    have G10 := Lib.hid (G8.out.later B8.out)
    have E10 := Lib.hid (ext_trans E8.out B8.out)
    have L10 : n10 ≤ 1048576 := by have := h10.reads.rlen; omega
    go_wp2_with fail
    refine (eqIntSS_any A10 A0 n10 n0 c10 c0 _ _ _ _ zs zs _ h10.reads H10.out (by unfold maxLen; omega) (by unfold maxLen; omega)).mono ?_
    rintro e w' ⟨rfl, m10, rfl⟩
    go_wp2_with fail
    refine (heldIntSS_any A4 n4 c4 _ hs4 1 _ (G10.out.drewN m10).reads (by omega) (by omega) (by omega) (by omega)).mono ?_
    rintro e w' ⟨rfl, rfl⟩
    go_wp2_with fail
    go_ret
    exact ⟨rfl, ext_drewN E10.out m10⟩
  · go_enter Try.func10, Try.ntmps10
    go_wp2_with fail
    refine (szLessonS_any A n c hm _).mono ?_
    rintro e w' ⟨rfl, rfl⟩
    rw [if_neg hn]
    go_wp2_with fail
    go_ret
    exact ⟨rfl, Below.refl _ _⟩
end Go.Proofs.Ytnndhgeddfghcaa
