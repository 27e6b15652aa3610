/- The day of a class; the longest gap. No condition. -/
import Derived.Test.YtnndhgeddfghcaaDay
import Derived.Test.YtnndhgeddfghcaaFree
namespace Go.Proofs.Ytnndhgeddfghcaa
open Go.RowKit

theorem mem_insL {k : Nat} {p x : Lesn} {l : List Lesn} (h : x ∈ insAt k p l) : x = p ∨ x ∈ l := by
  unfold insAt at h
  rcases List.mem_append.1 h with h | h
  · exact .inr (List.mem_of_mem_take h)
  · rcases List.mem_cons.1 h with h | h
    · exact .inl h
    · exact .inr (List.mem_of_mem_drop h)
theorem dayS_sub {cls dy : Int} {xs : List Lesn} : ∀ x ∈ dayS cls dy xs, x ∈ xs := by
  suffices h : ∀ (xs out : List Lesn) (x : Lesn), x ∈ xs.foldl (dayStep cls dy) out → x ∈ out ∨ x ∈ xs by
    intro x hx
    rcases h xs [] x hx with h | h
    · cases h
    · exact h
  intro xs
  induction xs with
  | nil => intro out x hx; exact .inl hx
  | cons p ps ih =>
    intro out x hx
    rw [List.foldl_cons] at hx
    rcases ih _ _ hx with h | h
    · unfold dayStep at h
      split at h
      · rcases mem_insL h with h | h
        · exact .inr (by rw [h]; exact List.mem_cons_self)
        · exact .inl h
      · exact .inl h
    · exact .inr (List.mem_cons_of_mem _ h)
def dayOk (cls dy : Int) (xs : List Lesn) : Bool := lessB xs && (inB cls 1 9 && inB dy 0 6)
def dayIds (cls dy : Int) (xs : List Lesn) : List Int := if dayOk cls dy xs = true then (dayS cls dy xs).map Lesn.i else []
theorem dayIds_len (cls dy : Int) (xs : List Lesn) : (dayIds cls dy xs).length ≤ xs.length := by
  unfold dayIds
  split
  · rw [List.length_map]; exact dayS_len cls dy xs
  · simp
theorem ids_next {ds : List Lesn} {k : Nat} {x : Lesn} (hx : ds[k]? = some x) : (ds.take (k + 1)).map Lesn.i = (ds.take k).map Lesn.i ++ [x.i] := by
  rw [lesnF_snoc hx]; simp
set_option maxHeartbeats 4000000 in
theorem sDayOfClass_any (A : Option Addr) (n c B : Nat) (xs : List Lesn) (cls dy : Int) (w : World) (h : Reads w B 7 A n ((lesnF xs).map (Value.int .i64))) (hB : B ≤ w.heap.size) (hn : n ≤ 1048576) :
    Calls Try.prog 35 #[.slice A n c, .int .i64 cls, .int .i64 dy] w fun e w' => Gives 3 1 (dayIds cls dy xs) (dayOk cls dy xs) w e w' := by
  have hl := h.lesnLen
  have H := Lib.hid h
  have HL := Lib.hid hl
  clear h hl
  cases ha : lessB xs
  · rw [show dayIds cls dy xs = [] from by simp [dayIds, dayOk, ha], show dayOk cls dy xs = false from by simp [dayOk, ha]]
    go_enter Try.func35, Try.ntmps35
    go_wp2_with fail
    refine (l11Good_any A n c B xs _ (H.out.alloc hB _) (by simp; omega) hn).mono ?_
    rintro e w2 ⟨rfl, hb2⟩
    rw [ha]
    have A0 := Lib.hid ((Acc.empty (E := 3) (k := 1) (Below.refl w.heap.size w)).later hb2)
    have hg0 : w.heap.size < w2.heap.size := by have := hb2.size; simp at this; omega
    clear hb2
    go_wp2
    go_ret2
    exact ⟨_, _, _, rfl, A0.out⟩
  · cases h1 : inB cls 1 9
    · rw [show dayIds cls dy xs = [] from by simp [dayIds, dayOk, h1], show dayOk cls dy xs = false from by simp [dayOk, h1]]
      go_enter Try.func35, Try.ntmps35
      go_wp2_with fail
      refine (l11Good_any A n c B xs _ (H.out.alloc hB _) (by simp; omega) hn).mono ?_
      rintro e w2 ⟨rfl, hb2⟩
      rw [ha]
      have A0 := Lib.hid ((Acc.empty (E := 3) (k := 1) (Below.refl w.heap.size w)).later hb2)
      have hg0 : w.heap.size < w2.heap.size := by have := hb2.size; simp at this; omega
      clear hb2
      go_wp2_with (go_at_call 73; refine (l11Class_any _ _).mono ?_; rintro e w' ⟨rfl, rfl⟩; rw [h1])
      go_ret2
      exact ⟨_, _, _, rfl, A0.out⟩
    · cases h2 : inB dy 0 6
      · rw [show dayIds cls dy xs = [] from by simp [dayIds, dayOk, h2], show dayOk cls dy xs = false from by simp [dayOk, h2]]
        go_enter Try.func35, Try.ntmps35
        go_wp2_with fail
        refine (l11Good_any A n c B xs _ (H.out.alloc hB _) (by simp; omega) hn).mono ?_
        rintro e w2 ⟨rfl, hb2⟩
        rw [ha]
        have A0 := Lib.hid ((Acc.empty (E := 3) (k := 1) (Below.refl w.heap.size w)).later hb2)
        have hg0 : w.heap.size < w2.heap.size := by have := hb2.size; simp at this; omega
        clear hb2
        go_wp2_with (first | (go_at_call 73; refine (l11Class_any _ _).mono ?_; rintro e w' ⟨rfl, rfl⟩; rw [h1]) | (go_at_call 81; refine (l11Week_any _ _).mono ?_; rintro e w' ⟨rfl, rfl⟩; rw [h2]))
        go_ret2
        exact ⟨_, _, _, rfl, A0.out⟩
      · rw [show dayIds cls dy xs = (dayS cls dy xs).map Lesn.i from by simp [dayIds, dayOk, ha, h1, h2], show dayOk cls dy xs = true from by simp [dayOk, ha, h1, h2]]
        go_enter Try.func35, Try.ntmps35
        go_wp2_with fail
        refine (l11Good_any A n c B xs _ (H.out.alloc hB _) (by simp; omega) hn).mono ?_
        rintro e w2 ⟨rfl, hb2⟩
        rw [ha]
        have A0 := Lib.hid ((Acc.empty (E := 3) (k := 1) (Below.refl w.heap.size w)).later hb2)
        have hg0 : w.heap.size < w2.heap.size := by have := hb2.size; simp at this; omega
        clear hb2
        go_wp2_with (first | (go_at_call 73; refine (l11Class_any _ _).mono ?_; rintro e w' ⟨rfl, rfl⟩; rw [h1]) | (go_at_call 81; refine (l11Week_any _ _).mono ?_; rintro e w' ⟨rfl, rfl⟩; rw [h2]))
        clear ha h1 h2
        refine (l11Day_any A n c B xs cls dy _ (H.out.below (A0.out.ext.mono hB)) (Nat.le_trans hB A0.out.ext.size) hn).mono ?_
        rintro e w3 ⟨R, m, cr, rfl, h1⟩
        have hm : m ≤ n := by
          have h2 := h1.reads.lesnLen
          have h3 := dayS_len cls dy xs
          have h4 := HL.out
          omega
        have HDL := Lib.hid h1.reads.lesnLen
        have S0 := Lib.hid (Side.made (s := none) (o := 0) h1 (g := w.heap.size) hg0)
        have A1 := Lib.hid (A0.out.later h1.ext)
        generalize hD : dayS cls dy xs = D at S0 HDL
        have HD := Lib.hid hD
        clear h1 hD
        go_wp2
        go_loopw [8, 10] (fun v i wr => ∃ (k m' c' : Nat) (A' : Option Addr), i = .int .i64 (k : Int) ∧ k ≤ m ∧ v = .slice A' m' c' ∧ Acc w wr 3 1 A' m' c' ((D.take k).map Lesn.i) ∧ Side wr w3.heap.size 7 R m (lesnF D) A') (fun _ i _ => m - (intOf i).toNat)
        case atStart => exact ⟨0, _, _, _, rfl, by omega, rfl, A1.out, S0.out⟩
        case round =>
          obtain ⟨k, m', c', A', rfl, hk, rfl, hacc, hside⟩ := hrel
          have hm' : m' ≤ k := by
            have h1 := hacc.reads.len
            rw [List.length_map] at h1
            have h3 := List.length_take_le k D
            omega
          have HA := Lib.hid hacc
          have HS := Lib.hid hside
          clear hacc hside
          by_cases hlt : k < m
          · obtain ⟨b, o, x, hAx, hx, hc0, hc1, hc2, hc3, hc4, hc5, hc6⟩ := HS.out.reads.lesn hlt
            subst hAx
            have HN := Lib.hid (ids_next hx)
            clear hx
            go_wp2_with (at_builtin; refine appI_b rfl _ _ rfl rfl (HA.out.alloc _) rfl (reads_new _ _ _ 1 [x.i] rfl rfl) (by omega) ?_; intro A2 c2 w4 hacc2 hp)
            have HA2 := Lib.hid hacc2
            have HS2 := Lib.hid ((HS.out.alloc _).pushed hp)
            clear hacc2 hp
            go_wp2
            go_roundw
            case rel => exact ⟨k + 1, _, _, _, by go_num, by omega, rfl, by rw [HN.out]; exact HA2.out, HS2.out⟩
            case measure => simp [intOf]; omega
          · have hk' : k = m := by omega
            have e : D.take k = D := List.take_of_length_le (by have := HDL.out; omega)
            rw [e] at HA
            clear e
            go_wp2
            go_ret2
            exact ⟨_, _, _, rfl, by rw [HD.out]; exact HA.out⟩
set_option maxHeartbeats 4000000 in
theorem iDayOfClass_any (A : Option Addr) (n c B : Nat) (xs : List Lesn) (cls dy : Int) (w : World) (h : Reads w B 7 A n ((lesnF xs).map (Value.int .i64))) (hB : B ≤ w.heap.size) (hn : n ≤ 1048576) :
    Calls Try.prog 36 #[.slice A n c, .int .i64 cls, .int .i64 dy] w fun e w' => Gives 3 1 (dayIds cls dy xs) (dayOk cls dy xs) w e w' := by
  have hl := h.lesnLen
  have H := Lib.hid h
  have HL := Lib.hid hl
  clear h hl
  cases ha : lessB xs
  · rw [show dayIds cls dy xs = [] from by simp [dayIds, dayOk, ha], show dayOk cls dy xs = false from by simp [dayOk, ha]]
    go_enter Try.func36, Try.ntmps36
    go_wp2_with fail
    refine (iAreLessons_any A n c B xs _ H.out hB hn).mono ?_
    rintro e w2 ⟨rfl, hb2⟩
    rw [ha]
    have A0 := Lib.hid (Acc.nil (E := 3) (k := 1) hb2)
    skip
    clear hb2
    go_wp2
    go_ret2
    exact ⟨_, _, _, rfl, A0.out⟩
  · cases h1 : inB cls 1 9
    · rw [show dayIds cls dy xs = [] from by simp [dayIds, dayOk, h1], show dayOk cls dy xs = false from by simp [dayOk, h1]]
      go_enter Try.func36, Try.ntmps36
      go_wp2_with fail
      refine (iAreLessons_any A n c B xs _ H.out hB hn).mono ?_
      rintro e w2 ⟨rfl, hb2⟩
      rw [ha]
      have A0 := Lib.hid (Acc.nil (E := 3) (k := 1) hb2)
      skip
      clear hb2
      go_wp2_with (go_at_call 63; refine (isClass_any _ _).mono ?_; rintro e w' ⟨rfl, rfl⟩; rw [h1])
      go_ret2
      exact ⟨_, _, _, rfl, A0.out⟩
    · cases h2 : inB dy 0 6
      · rw [show dayIds cls dy xs = [] from by simp [dayIds, dayOk, h2], show dayOk cls dy xs = false from by simp [dayOk, h2]]
        go_enter Try.func36, Try.ntmps36
        go_wp2_with fail
        refine (iAreLessons_any A n c B xs _ H.out hB hn).mono ?_
        rintro e w2 ⟨rfl, hb2⟩
        rw [ha]
        have A0 := Lib.hid (Acc.nil (E := 3) (k := 1) hb2)
        skip
        clear hb2
        go_wp2_with (first | (go_at_call 63; refine (isClass_any _ _).mono ?_; rintro e w' ⟨rfl, rfl⟩; rw [h1]) | (go_at_call 64; refine (isWeekday_any _ _).mono ?_; rintro e w' ⟨rfl, rfl⟩; rw [h2]))
        go_ret2
        exact ⟨_, _, _, rfl, A0.out⟩
      · rw [show dayIds cls dy xs = (dayS cls dy xs).map Lesn.i from by simp [dayIds, dayOk, ha, h1, h2], show dayOk cls dy xs = true from by simp [dayOk, ha, h1, h2]]
        go_enter Try.func36, Try.ntmps36
        go_wp2_with fail
        refine (iAreLessons_any A n c B xs _ H.out hB hn).mono ?_
        rintro e w2 ⟨rfl, hb2⟩
        rw [ha]
        have A0 := Lib.hid (Acc.nil (E := 3) (k := 1) hb2)
        skip
        clear hb2
        go_wp2_with (first | (go_at_call 63; refine (isClass_any _ _).mono ?_; rintro e w' ⟨rfl, rfl⟩; rw [h1]) | (go_at_call 64; refine (isWeekday_any _ _).mono ?_; rintro e w' ⟨rfl, rfl⟩; rw [h2]))
        clear ha h1 h2
        refine (dayOfClass_any A n c B xs cls dy _ (H.out.below (A0.out.ext.mono hB)) (Nat.le_trans hB A0.out.ext.size) hn).mono ?_
        rintro e w3 ⟨R, m, cr, rfl, h1⟩
        have hm : m ≤ n := by
          have h2 := h1.reads.lesnLen
          have h3 := dayS_len cls dy xs
          have h4 := HL.out
          omega
        have HDL := Lib.hid h1.reads.lesnLen
        have S0 := Lib.hid (Side.none_ h1.reads (Nat.le_refl _))
        have A1 := Lib.hid (A0.out.later h1.ext)
        generalize hD : dayS cls dy xs = D at S0 HDL
        have HD := Lib.hid hD
        clear h1 hD
        go_wp2
        go_loopw [8, 29] (fun v i wr => ∃ (k m' c' : Nat) (A' : Option Addr), i = .int .i64 (k : Int) ∧ k ≤ m ∧ v = .slice A' m' c' ∧ Acc w wr 3 1 A' m' c' ((D.take k).map Lesn.i) ∧ Side wr w3.heap.size 7 R m (lesnF D) A') (fun _ i _ => m - (intOf i).toNat)
        case atStart => exact ⟨0, _, _, _, rfl, by omega, rfl, A1.out, S0.out⟩
        case round =>
          obtain ⟨k, m', c', A', rfl, hk, rfl, hacc, hside⟩ := hrel
          have hm' : m' ≤ k := by
            have h1 := hacc.reads.len
            rw [List.length_map] at h1
            have h3 := List.length_take_le k D
            omega
          have HA := Lib.hid hacc
          have HS := Lib.hid hside
          clear hacc hside
          by_cases hlt : k < m
          · obtain ⟨b, o, x, hAx, hx, hc0, hc1, hc2, hc3, hc4, hc5, hc6⟩ := HS.out.reads.lesn hlt
            subst hAx
            have HN := Lib.hid (ids_next hx)
            clear hx
            go_wp2_with (at_builtin; refine appI_b rfl _ _ rfl rfl ((HA.out.alloc _).alloc _) rfl (reads_newAt _ _ _ 1 [x.i] _ (by simp) rfl rfl) (by omega) ?_; intro A2 c2 w4 hacc2 hp)
            have HA2 := Lib.hid hacc2
            have HS2 := Lib.hid (((HS.out.alloc _).alloc _).pushed hp)
            clear hacc2 hp
            go_wp2
            go_roundw
            case rel => exact ⟨k + 1, _, _, _, by go_num, by omega, rfl, by rw [HN.out]; exact HA2.out, HS2.out⟩
            case measure => simp [intOf]; omega
          · have hk' : k = m := by omega
            have e : D.take k = D := List.take_of_length_le (by have := HDL.out; omega)
            rw [e] at HA
            clear e
            go_wp2
            go_ret2
            exact ⟨_, _, _, rfl, by rw [HD.out]; exact HA.out⟩
set_option maxHeartbeats 4000000 in
theorem FnExactDayOfClass_any (A : Option Addr) (n c : Nat) (zs : List Int) (cls : Int) (_ : (Lit.int .i64 cls).wf = true) (dy : Int) (_ : (Lit.int .i64 dy).wf = true) (w : World) (h : Reads w w.heap.size 7 A n (zs.map (Value.int .i64)) ∧ n ≤ maxLen) :
    Calls Try.prog 9 #[.slice A n c, .int .i64 cls, .int .i64 dy] w fun e w' => e = .returned (.bool true) ∧ Below w.heap.size w w' := by
  obtain ⟨h, hm⟩ := h
  obtain ⟨xs, rfl, hl⟩ := lesnF_of n zs (by simpa using h.1)
  have H := Lib.hid h
  clear h
  by_cases hn : n ≤ 1048576
  · have hzl : (dayIds cls dy xs).length ≤ 1048576 := by have := dayIds_len cls dy xs; omega
    clear hl
    have hS := fun (A : Option Addr) (n c B : Nat) (w : World) h hB hn => sDayOfClass_any A n c B xs cls dy w h hB hn
    have hI := fun (A : Option Addr) (n c B : Nat) (w : World) h hB hn => iDayOfClass_any A n c B xs cls dy w h hB hn
    generalize dayIds cls dy xs = zs at hS hI hzl
    generalize dayOk cls dy xs = ok at hS hI
    have HS := Lib.hid hS
    have HI := Lib.hid hI
    have he := eqB_self zs
    clear hS hI
    go_enter Try.func9, Try.ntmps9
    go_wp2_with fail
    refine (szLessonS_any A n c hm _).mono ?_
    rintro e w' ⟨rfl, rfl⟩
    rw [if_pos hn]
    go_wp2_with fail
    refine (toLessonS_any A n c _ xs _ H.out (Nat.le_refl _) hn).mono ?_
    rintro e w1 ⟨A1, n1, c1, rfl, a1⟩
    have z1 := a1.reads.lesnLen
    have z0 := H.out.lesnLen
    obtain rfl : n1 = n := by omega
    have R1 := Lib.hid (H.out.below a1.ext)
    have E1 := Lib.hid a1.ext
    go_wp2_with fail
    refine (HS.out A1 n1 c1 _ _ a1.reads (Nat.le_refl _) hn).mono ?_
    rintro e w2 ⟨A0, n0, c0, rfl, h0⟩
    have R2 := Lib.hid (R1.out.below (h0.ext.mono E1.out.size))
    have E2 := Lib.hid (ext_trans E1.out h0.ext)
    have H0 := Lib.hid h0.reads
    have L0 : n0 ≤ 1048576 := by have := h0.len; omega
    clear a1 z1 h0
    go_wp2_with fail
    refine (toLessonS_any A n1 c _ xs _ R2.out E2.out.size hn).mono ?_
    rintro e w3 ⟨A3, n3, c3, rfl, a3⟩
    have z3 := a3.reads.lesnLen
    obtain rfl : n3 = n1 := by omega
    have R3 := Lib.hid (R2.out.below (a3.ext.mono E2.out.size))
    have E3 := Lib.hid (ext_trans E2.out a3.ext)
    have H3 := Lib.hid (H0.out.below a3.ext)
    have O3 := Lib.hid a3
    have S23 : w2.heap.size ≤ w3.heap.size := a3.ext.size
    clear a3 z3
    go_wp2_with fail
    refine (HI.out A3 n3 c3 _ _ O3.out.reads (Nat.le_refl _) hn).mono ?_
    rintro e w4 ⟨A4, n4, c4, rfl, h4⟩
    have R4 := Lib.hid (R3.out.below (h4.ext.mono E3.out.size))
    have E4 := Lib.hid (ext_trans E3.out h4.ext)
    have H4 := Lib.hid (H3.out.below (h4.ext.mono S23))
    have O4 := Lib.hid (O3.out.later h4.ext)
    have G4 := Lib.hid h4
    have L4 : n4 ≤ 1048576 := by have := h4.len; omega
    have S34 : w3.heap.size ≤ w4.heap.size := h4.ext.size
    clear h4
    go_wp2_with fail
    refine (eqIntS_any A4 A0 n4 n0 c4 c0 _ _ zs zs _ G4.out.reads H4.out (by unfold maxLen; omega) (by unfold maxLen; omega)).mono ?_
    rintro e w' ⟨rfl, m4, rfl⟩
    go_wp2_with fail
    refine (toLessonS_any A n3 c _ xs _ (R4.out.drewN m4) E4.out.size hn).mono ?_
    rintro e w5 ⟨A5, n5, c5, rfl, a5⟩
    have z5 := a5.reads.lesnLen
    obtain rfl : n5 = n3 := by omega
    have B45 := Lib.hid (ext_trans (below_drewN (B := w4.heap.size) w4 m4) a5.ext)
    go_wp2_with fail
    refine (eqLessonS_any A3 A5 n5 n5 c3 c5 _ _ xs xs _ (O4.out.reads.below B45.out) a5.reads B45.out.size (Nat.le_refl _) (by unfold maxLen; omega) (by unfold maxLen; omega)).mono ?_
    rintro e w6 ⟨rfl, hb6⟩
    rw [decide_eq_true (rfl : xs = xs)]
    have B46 := Lib.hid (ext_trans B45.out hb6)
    have R6 := Lib.hid (R4.out.below (B46.out.mono E4.out.size))
    have E6 := Lib.hid (ext_trans E4.out B46.out)
    have H6 := Lib.hid (H4.out.below (B46.out.mono (Nat.le_trans S23 S34)))
    have O6 := Lib.hid (O4.out.later B46.out)
    have G6 := Lib.hid (G4.out.later B46.out)
    have S46 : w4.heap.size ≤ w6.heap.size := B46.out.size
    clear hb6 a5 z5
    go_wp2_with fail
    refine (markLessonS_any A3 n5 c3 _ _ 1 _ O6.out.own (by omega) (by omega) (by omega)).mono ?_
    rintro e w7 ⟨rfl, _, hg7⟩
    have hrow3 : ∀ g, (Value.slice A3 n5 c3).ownBlock = some g → w2.heap.size ≤ g ∧ g < w3.heap.size := fun g hg => O3.out.own.lt g hg
    have hne4 : (Value.slice A4 n4 c4).ownBlock = none ∨ (Value.slice A4 n4 c4).ownBlock ≠ (Value.slice A3 n5 c3).ownBlock := by
      cases hv : (Value.slice A4 n4 c4).ownBlock with
      | none => exact .inl rfl
      | some g => exact .inr (fun e => by have h1 := (G4.out.own.lt g hv).1; have h2 := (hrow3 g e.symm).2; omega)
    have S26 : w2.heap.size ≤ w6.heap.size := by omega
    have H7 := Lib.hid (H6.out.grown hg7 S26 (fun g hg => (hrow3 g hg).1))
    have G7 := Lib.hid (G6.out.own.kept hg7 hne4)
    have E7 := Lib.hid (ext_grown E6.out hg7 (fun g hg => Nat.le_trans E2.out.size (hrow3 g hg).1))
    have S67 : w6.heap.size ≤ w7.heap.size := hg7.size
    have hk1 : (0 : Int) ≤ 1 + ((n5 * 7 : Nat) : Int) := by omega
    clear hg7 hne4
    go_wp2_with fail
    refine (eqIntS_any A4 A0 n4 n0 c4 c0 _ _ zs zs _ (Reads.of_own G7.out) H7.out (by unfold maxLen; omega) (by unfold maxLen; omega)).mono ?_
    rintro e w' ⟨rfl, m7, rfl⟩
    go_wp2_with fail
    refine (markIntS_any A4 n4 c4 w3.heap.size zs 1 _ (ownsRow_drewN G7.out m7) (by omega) (by omega) (by omega)).mono ?_
    rintro e w8 ⟨rfl, hm8, hg8⟩
    have hrow4 : ∀ g, (Value.slice A4 n4 c4).ownBlock = some g → w3.heap.size ≤ g := fun g hg => (G4.out.own.lt g hg).1
    have H8 := Lib.hid ((H7.out.drewN m7).grown hg8 (Nat.le_trans S26 S67) (fun g hg => Nat.le_trans S23 (hrow4 g hg)))
    have E8 := Lib.hid (ext_grown (ext_drewN E7.out m7) hg8 (fun g hg => Nat.le_trans E3.out.size (hrow4 g hg)))
    have G8 := Lib.hid hm8
    have S78 : w7.heap.size ≤ w8.heap.size := hg8.size
    have R8 := Lib.hid (H.out.below E8.out)
    clear hm8 hg8
    go_wp2_with fail
    refine (heldIntS_any A4 n4 c4 _ 1 _ (Reads.of_own G8.out) (by omega) (by omega) (by omega)).mono ?_
    rintro e w' ⟨rfl, rfl⟩
    go_wp2_with fail
    refine (toLessonS_any A n5 c _ xs _ R8.out E8.out.size hn).mono ?_
    rintro e w9 ⟨A9, n9, c9, rfl, a9⟩
    have z9 := a9.reads.lesnLen
    obtain rfl : n9 = n5 := by omega
    have B89 := Lib.hid a9.ext
    go_wp2_with fail
    refine (HI.out A9 n9 c9 _ _ a9.reads (Nat.le_refl _) hn).mono ?_
    rintro e w10 ⟨A10, n10, c10, rfl, h10⟩
    have B8 := Lib.hid (ext_trans B89.out h10.ext)
    have H10 := Lib.hid (H8.out.below (B8.out.mono (by omega)))
    have G10 := Lib.hid (own_below G8.out B8.out)
    have E10 := Lib.hid (ext_trans E8.out B8.out)
    have L10 : n10 ≤ 1048576 := by have := h10.len; omega
    go_wp2_with fail
    refine (eqIntS_any A10 A0 n10 n0 c10 c0 _ _ zs zs _ h10.reads H10.out (by unfold maxLen; omega) (by unfold maxLen; omega)).mono ?_
    rintro e w' ⟨rfl, m10, rfl⟩
    go_wp2_with fail
    refine (heldIntS_any A4 n4 c4 _ 1 _ ((Reads.of_own G10.out).drewN m10) (by omega) (by omega) (by omega)).mono ?_
    rintro e w' ⟨rfl, rfl⟩
    go_wp2_with fail
    go_ret
    exact ⟨rfl, ext_drewN E10.out m10⟩
  · go_enter Try.func9, Try.ntmps9
    go_wp2_with fail
    refine (szLessonS_any A n c hm _).mono ?_
    rintro e w' ⟨rfl, rfl⟩
    rw [if_neg hn]
    go_wp2_with fail
    go_ret
    exact ⟨rfl, Below.refl _ _⟩
end Go.Proofs.Ytnndhgeddfghcaa
