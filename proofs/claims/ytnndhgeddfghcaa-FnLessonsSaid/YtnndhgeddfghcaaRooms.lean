/- The free rooms. No condition. -/
import Derived.Test.YtnndhgeddfghcaaClash
namespace Go.Proofs.Ytnndhgeddfghcaa
open Go.RowKit

def atL (d b m : Int) : Lesn := ⟨0, 0, 0, 0, d, b, m⟩
def usedB (y : Lesn) (r : Int) (x : Lesn) : Bool := (x.r == r) && meetB x y
def roomB (xs : List Lesn) (y : Lesn) (r : Int) : Bool := xs.all (fun x => !usedB y r x)
theorem room_next {xs : List Lesn} {y x : Lesn} {r : Int} {k : Nat} (hx : xs[k]? = some x) : roomB (xs.take (k + 1)) y r = (roomB (xs.take k) y r && !usedB y r x) := by
  rw [lesnF_snoc hx]; simp [roomB]
def roomsTo (xs : List Lesn) (y : Lesn) (k : Nat) : List Int := ((List.range k).map (fun i : Nat => (i : Int) + 1)).filter (roomB xs y)
theorem rooms_yes {xs : List Lesn} {y : Lesn} {k : Nat} (h : roomB xs y ((k : Int) + 1) = true) : roomsTo xs y (k + 1) = roomsTo xs y k ++ [(k : Int) + 1] := by
  unfold roomsTo; rw [List.range_succ, List.map_append, List.filter_append]; simp [h]
theorem rooms_no {xs : List Lesn} {y : Lesn} {k : Nat} (h : roomB xs y ((k : Int) + 1) = false) : roomsTo xs y (k + 1) = roomsTo xs y k := by
  unfold roomsTo; rw [List.range_succ, List.map_append, List.filter_append]; simp [h]
theorem roomsTo_len (xs : List Lesn) (y : Lesn) (k : Nat) : (roomsTo xs y k).length ≤ k := by
  unfold roomsTo
  refine Nat.le_trans (List.length_filter_le _ _) ?_
  simp
def roomsOk (xs : List Lesn) (d b m : Int) : Bool := lessB xs && (inB d 0 6 && slotB b m)
def roomsL (xs : List Lesn) (d b m : Int) : List Int := if roomsOk xs d b m = true then roomsTo xs (atL d b m) 9 else []
theorem roomsL_len (xs : List Lesn) (d b m : Int) : (roomsL xs d b m).length ≤ 9 := by
  unfold roomsL
  split
  · exact roomsTo_len _ _ _
  · simp
theorem l11Meet_v (x y : Lesn) {v : Bool} (hv : meetB x y = v) (w : World) :
    Calls Try.prog 83 #[.agg #[.int .i64 x.i, .int .i64 x.c, .int .i64 x.t, .int .i64 x.r, .int .i64 x.d, .int .i64 x.b, .int .i64 x.m], .agg #[.int .i64 y.i, .int .i64 y.c, .int .i64 y.t, .int .i64 y.r, .int .i64 y.d, .int .i64 y.b, .int .i64 y.m]] w fun e w' => e = .returned (.bool v) ∧ Below w.heap.size w w' := hv ▸ l11Meet_any x y w
theorem meets_v (x y : Lesn) {v : Bool} (hv : meetB x y = v) (w : World) :
    Calls Try.prog 84 #[.agg #[.int .i64 x.i, .int .i64 x.c, .int .i64 x.t, .int .i64 x.r, .int .i64 x.d, .int .i64 x.b, .int .i64 x.m], .agg #[.int .i64 y.i, .int .i64 y.c, .int .i64 y.t, .int .i64 y.r, .int .i64 y.d, .int .i64 y.b, .int .i64 y.m]] w fun e w' => e = .returned (.bool v) ∧ Below w.heap.size w w' := hv ▸ meets_any x y w
set_option maxHeartbeats 4000000 in
theorem sFreeRooms_any (A : Option Addr) (n c B : Nat) (xs : List Lesn) (d b m : Int) (w : World) (h : Reads w B 7 A n ((lesnF xs).map (Value.int .i64))) (hB : B ≤ w.heap.size) (hn : n ≤ 1048576) :
    Calls Try.prog 29 #[.slice A n c, .int .i64 d, .int .i64 b, .int .i64 m] w fun e w' => Gives 3 1 (roomsL xs d b m) (roomsOk xs d b m) w e w' := by
  have hl := h.lesnLen
  have H := Lib.hid h
  have HL := Lib.hid hl
  clear h hl
  cases ha : lessB xs
  · rw [show roomsL xs d b m = [] from by simp [roomsL, roomsOk, ha], show roomsOk xs d b m = false from by simp [roomsOk, ha]]
    go_enter Try.func29, Try.ntmps29
    go_wp2_with fail
    refine (l11Good_any A n c B xs _ (H.out.alloc hB _) (by simp; omega) hn).mono ?_
    rintro e w2 ⟨rfl, hb2⟩
    rw [ha]
    have A0 := Lib.hid ((Acc.empty (E := 3) (k := 1) (Below.refl w.heap.size w)).later hb2)
    clear hb2
    go_wp2
    go_ret2
    exact ⟨_, _, _, rfl, A0.out⟩
  · cases hd : inB d 0 6
    · rw [show roomsL xs d b m = [] from by simp [roomsL, roomsOk, hd], show roomsOk xs d b m = false from by simp [roomsOk, hd]]
      go_enter Try.func29, Try.ntmps29
      go_wp2_with fail
      refine (l11Good_any A n c B xs _ (H.out.alloc hB _) (by simp; omega) hn).mono ?_
      rintro e w2 ⟨rfl, hb2⟩
      rw [ha]
      have A0 := Lib.hid ((Acc.empty (E := 3) (k := 1) (Below.refl w.heap.size w)).later hb2)
      clear hb2
      go_wp2_with (go_at_call 81; refine (l11Week_any _ _).mono ?_; rintro e w' ⟨rfl, rfl⟩; rw [hd])
      go_ret2
      exact ⟨_, _, _, rfl, A0.out⟩
    · cases hs : slotB b m
      · rw [show roomsL xs d b m = [] from by simp [roomsL, roomsOk, hs], show roomsOk xs d b m = false from by simp [roomsOk, hs]]
        go_enter Try.func29, Try.ntmps29
        go_wp2_with fail
        refine (l11Good_any A n c B xs _ (H.out.alloc hB _) (by simp; omega) hn).mono ?_
        rintro e w2 ⟨rfl, hb2⟩
        rw [ha]
        have A0 := Lib.hid ((Acc.empty (E := 3) (k := 1) (Below.refl w.heap.size w)).later hb2)
        clear hb2
        go_wp2_with (go_at_call 81; refine (l11Week_any _ _).mono ?_; rintro e w' ⟨rfl, rfl⟩; rw [hd])
        refine (l11Time_any _ _ _).mono ?_
        rintro e w3 ⟨rfl, hb3⟩
        rw [hs]
        have A1 := Lib.hid (A0.out.later hb3)
        clear hb3
        go_wp2
        go_ret2
        exact ⟨_, _, _, rfl, A1.out⟩
      · rw [show roomsL xs d b m = roomsTo xs (atL d b m) 9 from by simp [roomsL, roomsOk, ha, hd, hs], show roomsOk xs d b m = true from by simp [roomsOk, ha, hd, hs]]
        go_enter Try.func29, Try.ntmps29
        go_wp2_with fail
        refine (l11Good_any A n c B xs _ (H.out.alloc hB _) (by simp; omega) hn).mono ?_
        rintro e w2 ⟨rfl, hb2⟩
        rw [ha]
        have A0 := Lib.hid ((Acc.empty (E := 3) (k := 1) (Below.refl w.heap.size w)).later hb2)
        clear hb2
        go_wp2_with (go_at_call 81; refine (l11Week_any _ _).mono ?_; rintro e w' ⟨rfl, rfl⟩; rw [hd])
        refine (l11Time_any _ _ _).mono ?_
        rintro e w3 ⟨rfl, hb3⟩
        rw [hs]
        have A1 := Lib.hid (A0.out.later hb3)
        clear hb3 ha hd hs
        go_wp2
        go_loopw [10, 11] (fun s r wr => ∃ (k : Nat) (A' : Option Addr) (n' c' : Nat), r = .int .i64 ((k : Int) + 1) ∧ k ≤ 9 ∧ s = .slice A' n' c' ∧ Acc w wr 3 1 A' n' c' (roomsTo xs (atL d b m) k)) (fun _ r _ => (11 - intOf r).toNat)
        case atStart => exact ⟨0, _, _, _, rfl, by omega, rfl, A1.out⟩
        case round =>
          obtain ⟨wo, rfl⟩ : ∃ wo : World, wo = wr := ⟨_, rfl⟩
          obtain ⟨k, A', n', c', rfl, hk, rfl, hacc⟩ := hrel
          have hn' : n' ≤ k := by
            have h1 := hacc.reads.len
            have h2 := roomsTo_len xs (atL d b m) k
            omega
          have HA := Lib.hid hacc
          have RL := Lib.hid (H.out.below (hacc.ext.mono hB))
          have hBo : B ≤ wo.heap.size := Nat.le_trans hB hacc.ext.size
          clear hacc
          by_cases hlt : k < 9
          · have k0 : (0 : Int) ≤ k := by omega
            have k9 : (k : Int) + 1 ≤ 9 := by omega
            have HK := Lib.hid hlt
            clear hlt
            go_wp2
            go_loopw [12, 13] (fun f i wi => ∃ j : Nat, i = .int .i64 j ∧ j ≤ n ∧ f = .bool (roomB (xs.take j) (atL d b m) ((k : Int) + 1)) ∧ Below wo.heap.size wo wi) (fun _ i _ => n - (intOf i).toNat)
            case atStart => exact ⟨0, rfl, by omega, rfl, Below.refl _ _⟩
            case round =>
              obtain ⟨wi, rfl⟩ : ∃ wi : World, wi = wr := ⟨_, rfl⟩
              obtain ⟨j, rfl, hj, rfl, hb⟩ := hrel
              have HBI := Lib.hid hb
              clear hb
              by_cases hlt : j < n
              · obtain ⟨b', o', x, hAx, hx, hc0, hc1, hc2, hc3, hc4, hc5, hc6⟩ := (RL.out.below (HBI.out.mono hBo)).lesn hlt
                subst hAx
                have HX := Lib.hid hx
                clear hx
                have HN := Lib.hid (room_next (y := atL d b m) (r := (k : Int) + 1) HX.out)
                generalize roomB (xs.take j) (atL d b m) ((k : Int) + 1) = fr at HN ⊢
                cases hr : (x.r == (k : Int) + 1)
                · have HU := Lib.hid (show roomB (xs.take (j + 1)) (atL d b m) ((k : Int) + 1) = fr by rw [HN.out]; simp [usedB, hr])
                  go_wp2
                  go_roundw
                  case rel => exact ⟨j + 1, by go_num, by omega, by rw [HU.out], HBI.out⟩
                  case measure => simp [intOf]; omega
                · cases hm : meetB x (atL d b m)
                  · have HU := Lib.hid (show roomB (xs.take (j + 1)) (atL d b m) ((k : Int) + 1) = fr by rw [HN.out]; simp [usedB, hr, hm])
                    go_wp2_with fail
                    refine (l11Meet_v x (atL d b m) hm _).mono ?_
                    rintro e w4 ⟨rfl, hb4⟩
                    have HB4 := Lib.hid (ext_trans HBI.out hb4)
                    clear hb4
                    go_wp2
                    go_roundw
                    case rel => exact ⟨j + 1, by go_num, by omega, by rw [HU.out], HB4.out⟩
                    case measure => simp [intOf]; omega
                  · have HU := Lib.hid (show roomB (xs.take (j + 1)) (atL d b m) ((k : Int) + 1) = false by rw [HN.out]; simp [usedB, hr, hm])
                    go_wp2_with fail
                    refine (l11Meet_v x (atL d b m) hm _).mono ?_
                    rintro e w4 ⟨rfl, hb4⟩
                    have HB4 := Lib.hid (ext_trans HBI.out hb4)
                    clear hb4
                    go_wp2
                    go_roundw
                    case rel => exact ⟨j + 1, by go_num, by omega, by rw [HU.out], HB4.out⟩
                    case measure => simp [intOf]; omega
              · have hj' : j = n := by omega
                have e : xs.take j = xs := List.take_of_length_le (by have := HL.out; omega)
                rw [e]
                clear e
                cases hr : roomB xs (atL d b m) ((k : Int) + 1)
                · have HR := Lib.hid (rooms_no hr)
                  have HBE := Lib.hid HBI.out
                  go_wp2
                  go_roundw
                  case rel => exact ⟨k + 1, _, _, _, by go_num, HK.out, rfl, by rw [HR.out]; exact HA.out.later HBE.out⟩
                  case measure => simp [intOf]; omega
                · have HR := Lib.hid (rooms_yes hr)
                  have HBE := Lib.hid HBI.out
                  go_wp2_with (at_builtin; refine appI rfl _ _ rfl rfl ((HA.out.later HBE.out).alloc _) rfl (reads_new _ _ _ 1 [(k : Int) + 1] rfl rfl) (by omega) ?_; intro A2 c2 w5 hacc2 _)
                  have HA2 := Lib.hid hacc2
                  clear hacc2
                  go_wp2
                  go_roundw
                  case rel => exact ⟨k + 1, _, _, _, by go_num, HK.out, rfl, by rw [HR.out]; exact HA2.out⟩
                  case measure => simp [intOf]; omega
          · have hk' : k = 9 := by omega
            subst hk'
            go_wp2
            go_ret2
            exact ⟨_, _, _, rfl, HA.out⟩
set_option maxHeartbeats 4000000 in
theorem iFreeRooms_any (A : Option Addr) (n c B : Nat) (xs : List Lesn) (d b m : Int) (w : World) (h : Reads w B 7 A n ((lesnF xs).map (Value.int .i64))) (hB : B ≤ w.heap.size) (hn : n ≤ 1048576) :
    Calls Try.prog 30 #[.slice A n c, .int .i64 d, .int .i64 b, .int .i64 m] w fun e w' => Gives 3 1 (roomsL xs d b m) (roomsOk xs d b m) w e w' := by
  have hl := h.lesnLen
  have H := Lib.hid h
  have HL := Lib.hid hl
  clear h hl
  cases ha : lessB xs
  · rw [show roomsL xs d b m = [] from by simp [roomsL, roomsOk, ha], show roomsOk xs d b m = false from by simp [roomsOk, ha]]
    go_enter Try.func30, Try.ntmps30
    go_wp2_with fail
    refine (iAreLessons_any A n c B xs _ H.out hB hn).mono ?_
    rintro e w2 ⟨rfl, hb2⟩
    rw [ha]
    have A0 := Lib.hid (Acc.nil (E := 3) (k := 1) hb2)
    clear hb2
    go_wp2
    go_ret2
    exact ⟨_, _, _, rfl, A0.out⟩
  · cases hd : inB d 0 6
    · rw [show roomsL xs d b m = [] from by simp [roomsL, roomsOk, hd], show roomsOk xs d b m = false from by simp [roomsOk, hd]]
      go_enter Try.func30, Try.ntmps30
      go_wp2_with fail
      refine (iAreLessons_any A n c B xs _ H.out hB hn).mono ?_
      rintro e w2 ⟨rfl, hb2⟩
      rw [ha]
      have A0 := Lib.hid (Acc.nil (E := 3) (k := 1) hb2)
      clear hb2
      go_wp2_with (go_at_call 64; refine (isWeekday_any _ _).mono ?_; rintro e w' ⟨rfl, rfl⟩; rw [hd])
      go_ret2
      exact ⟨_, _, _, rfl, A0.out⟩
    · cases hs : slotB b m
      · rw [show roomsL xs d b m = [] from by simp [roomsL, roomsOk, hs], show roomsOk xs d b m = false from by simp [roomsOk, hs]]
        go_enter Try.func30, Try.ntmps30
        go_wp2_with fail
        refine (iAreLessons_any A n c B xs _ H.out hB hn).mono ?_
        rintro e w2 ⟨rfl, hb2⟩
        rw [ha]
        have A0 := Lib.hid (Acc.nil (E := 3) (k := 1) hb2)
        clear hb2
        go_wp2_with (go_at_call 64; refine (isWeekday_any _ _).mono ?_; rintro e w' ⟨rfl, rfl⟩; rw [hd])
        refine (isSlot_any _ _ _).mono ?_
        rintro e w3 ⟨rfl, hb3⟩
        rw [hs]
        have A1 := Lib.hid (A0.out.later hb3)
        clear hb3
        go_wp2
        go_ret2
        exact ⟨_, _, _, rfl, A1.out⟩
      · rw [show roomsL xs d b m = roomsTo xs (atL d b m) 9 from by simp [roomsL, roomsOk, ha, hd, hs], show roomsOk xs d b m = true from by simp [roomsOk, ha, hd, hs]]
        go_enter Try.func30, Try.ntmps30
        go_wp2_with fail
        refine (iAreLessons_any A n c B xs _ H.out hB hn).mono ?_
        rintro e w2 ⟨rfl, hb2⟩
        rw [ha]
        have A0 := Lib.hid (Acc.nil (E := 3) (k := 1) hb2)
        clear hb2
        go_wp2_with (go_at_call 64; refine (isWeekday_any _ _).mono ?_; rintro e w' ⟨rfl, rfl⟩; rw [hd])
        refine (isSlot_any _ _ _).mono ?_
        rintro e w3 ⟨rfl, hb3⟩
        rw [hs]
        have A1 := Lib.hid (A0.out.later hb3)
        clear hb3 ha hd hs
        go_wp2
        go_loopw [10, 11] (fun s r wr => ∃ (k : Nat) (A' : Option Addr) (n' c' : Nat), r = .int .i64 ((k : Int) + 1) ∧ k ≤ 9 ∧ s = .slice A' n' c' ∧ Acc w wr 3 1 A' n' c' (roomsTo xs (atL d b m) k)) (fun _ r _ => (11 - intOf r).toNat)
        case atStart => exact ⟨0, _, _, _, rfl, by omega, rfl, A1.out⟩
        case round =>
          obtain ⟨wo, rfl⟩ : ∃ wo : World, wo = wr := ⟨_, rfl⟩
          obtain ⟨k, A', n', c', rfl, hk, rfl, hacc⟩ := hrel
          have hn' : n' ≤ k := by
            have h1 := hacc.reads.len
            have h2 := roomsTo_len xs (atL d b m) k
            omega
          have HA := Lib.hid hacc
          have RL := Lib.hid (H.out.below (hacc.ext.mono hB))
          have hBo : B ≤ wo.heap.size := Nat.le_trans hB hacc.ext.size
          clear hacc
          by_cases hlt : k < 9
          · have k0 : (0 : Int) ≤ k := by omega
            have k9 : (k : Int) + 1 ≤ 9 := by omega
            have HK := Lib.hid hlt
            clear hlt
            go_wp2
            go_loopw [12, 35] (fun f i wi => ∃ j : Nat, i = .int .i64 j ∧ j ≤ n ∧ f = .bool (roomB (xs.take j) (atL d b m) ((k : Int) + 1)) ∧ Below wo.heap.size wo wi) (fun _ i _ => n - (intOf i).toNat)
            case atStart => exact ⟨0, rfl, by omega, rfl, Below.refl _ _⟩
            case round =>
              obtain ⟨wi, rfl⟩ : ∃ wi : World, wi = wr := ⟨_, rfl⟩
              obtain ⟨j, rfl, hj, rfl, hb⟩ := hrel
              have HBI := Lib.hid hb
              clear hb
              by_cases hlt : j < n
              · obtain ⟨b', o', x, hAx, hx, hc0, hc1, hc2, hc3, hc4, hc5, hc6⟩ := (RL.out.below (HBI.out.mono hBo)).lesn hlt
                subst hAx
                have HX := Lib.hid hx
                clear hx
                have HN := Lib.hid (room_next (y := atL d b m) (r := (k : Int) + 1) HX.out)
                generalize roomB (xs.take j) (atL d b m) ((k : Int) + 1) = fr at HN ⊢
                cases hr : (x.r == (k : Int) + 1)
                · have HU := Lib.hid (show roomB (xs.take (j + 1)) (atL d b m) ((k : Int) + 1) = fr by rw [HN.out]; simp [usedB, hr])
                  go_wp2
                  go_roundw
                  case rel => exact ⟨j + 1, by go_num, by omega, by rw [HU.out], (ext_alloc HBI.out _)⟩
                  case measure => simp [intOf]; omega
                · cases hm : meetB x (atL d b m)
                  · have HU := Lib.hid (show roomB (xs.take (j + 1)) (atL d b m) ((k : Int) + 1) = fr by rw [HN.out]; simp [usedB, hr, hm])
                    go_wp2_with fail
                    refine (meets_v x (atL d b m) hm _).mono ?_
                    rintro e w4 ⟨rfl, hb4⟩
                    have HB4 := Lib.hid (ext_trans (ext_alloc HBI.out _) hb4)
                    clear hb4
                    go_wp2
                    go_roundw
                    case rel => exact ⟨j + 1, by go_num, by omega, by rw [HU.out], HB4.out⟩
                    case measure => simp [intOf]; omega
                  · have HU := Lib.hid (show roomB (xs.take (j + 1)) (atL d b m) ((k : Int) + 1) = false by rw [HN.out]; simp [usedB, hr, hm])
                    go_wp2_with fail
                    refine (meets_v x (atL d b m) hm _).mono ?_
                    rintro e w4 ⟨rfl, hb4⟩
                    have HB4 := Lib.hid (ext_trans (ext_alloc HBI.out _) hb4)
                    clear hb4
                    go_wp2
                    go_roundw
                    case rel => exact ⟨j + 1, by go_num, by omega, by rw [HU.out], HB4.out⟩
                    case measure => simp [intOf]; omega
              · have hj' : j = n := by omega
                have e : xs.take j = xs := List.take_of_length_le (by have := HL.out; omega)
                rw [e]
                clear e
                cases hr : roomB xs (atL d b m) ((k : Int) + 1)
                · have HR := Lib.hid (rooms_no hr)
                  have HBE := Lib.hid HBI.out
                  go_wp2
                  go_roundw
                  case rel => exact ⟨k + 1, _, _, _, by go_num, HK.out, rfl, by rw [HR.out]; exact HA.out.later HBE.out⟩
                  case measure => simp [intOf]; omega
                · have HR := Lib.hid (rooms_yes hr)
                  have HBE := Lib.hid HBI.out
                  go_wp2_with (at_builtin; refine appI rfl _ _ rfl rfl ((HA.out.later HBE.out).alloc _) rfl (reads_new _ _ _ 1 [(k : Int) + 1] rfl rfl) (by omega) ?_; intro A2 c2 w5 hacc2 _)
                  have HA2 := Lib.hid hacc2
                  clear hacc2
                  go_wp2
                  go_roundw
                  case rel => exact ⟨k + 1, _, _, _, by go_num, HK.out, rfl, by rw [HR.out]; exact HA2.out⟩
                  case measure => simp [intOf]; omega
          · have hk' : k = 9 := by omega
            subst hk'
            go_wp2
            go_ret2
            exact ⟨_, _, _, rfl, HA.out⟩
set_option maxHeartbeats 4000000 in
theorem FnExactFreeRooms_any (A : Option Addr) (n c : Nat) (zs : List Int) (d : Int) (_ : (Lit.int .i64 d).wf = true) (b : Int) (_ : (Lit.int .i64 b).wf = true) (m : Int) (_ : (Lit.int .i64 m).wf = true) (w : World) (h : Reads w w.heap.size 7 A n (zs.map (Value.int .i64)) ∧ n ≤ maxLen) :
    Calls Try.prog 8 #[.slice A n c, .int .i64 d, .int .i64 b, .int .i64 m] w fun e w' => e = .returned (.bool true) ∧ Below w.heap.size w w' := by
  obtain ⟨h, hm⟩ := h
  obtain ⟨xs, rfl, hl⟩ := lesnF_of n zs (by simpa using h.1)
  have H := Lib.hid h
  clear h
  by_cases hn : n ≤ 1048576
  · have hzl : (roomsL xs d b m).length ≤ 1048576 := by have := roomsL_len xs d b m; omega
    clear hl
    have hS := fun (A : Option Addr) (n c B : Nat) (w : World) h hB hn => sFreeRooms_any A n c B xs d b m w h hB hn
    have hI := fun (A : Option Addr) (n c B : Nat) (w : World) h hB hn => iFreeRooms_any A n c B xs d b m w h hB hn
    generalize roomsL xs d b m = zs at hS hI hzl
    generalize roomsOk xs d b m = ok at hS hI
    have HS := Lib.hid hS
    have HI := Lib.hid hI
    have he := eqB_self zs
    clear hS hI
    go_enter Try.func8, Try.ntmps8
    go_wp2_with fail
    refine (szLessonS_any A n c hm _).mono ?_
    rintro e w' ⟨rfl, rfl⟩
    rw [if_pos hn]
    go_wp2_with fail
    refine (toLessonS_any A n c _ xs _ H.out (Nat.le_refl _) hn).mono ?_
    rintro e w1 ⟨A1, n1, c1, rfl, a1⟩
    have z1 := a1.reads.lesnLen
    have z0 := H.out.lesnLen
    obtain rfl : n1 = n := by omega
    have R1 := Lib.hid (H.out.below a1.ext)
    have E1 := Lib.hid a1.ext
    go_wp2_with fail
    refine (HS.out A1 n1 c1 _ _ a1.reads (Nat.le_refl _) hn).mono ?_
    rintro e w2 ⟨A0, n0, c0, rfl, h0⟩
    have R2 := Lib.hid (R1.out.below (h0.ext.mono E1.out.size))
    have E2 := Lib.hid (ext_trans E1.out h0.ext)
    have H0 := Lib.hid h0.reads
    have L0 : n0 ≤ 1048576 := by have := h0.len; omega
    clear a1 z1 h0
    go_wp2_with fail
    refine (toLessonS_any A n1 c _ xs _ R2.out E2.out.size hn).mono ?_
    rintro e w3 ⟨A3, n3, c3, rfl, a3⟩
    have z3 := a3.reads.lesnLen
    obtain rfl : n3 = n1 := by omega
    have R3 := Lib.hid (R2.out.below (a3.ext.mono E2.out.size))
    have E3 := Lib.hid (ext_trans E2.out a3.ext)
    have H3 := Lib.hid (H0.out.below a3.ext)
    have O3 := Lib.hid a3
    have S23 : w2.heap.size ≤ w3.heap.size := a3.ext.size
    clear a3 z3
    go_wp2_with fail
    refine (HI.out A3 n3 c3 _ _ O3.out.reads (Nat.le_refl _) hn).mono ?_
    rintro e w4 ⟨A4, n4, c4, rfl, h4⟩
    have R4 := Lib.hid (R3.out.below (h4.ext.mono E3.out.size))
    have E4 := Lib.hid (ext_trans E3.out h4.ext)
    have H4 := Lib.hid (H3.out.below (h4.ext.mono S23))
    have O4 := Lib.hid (O3.out.later h4.ext)
    have G4 := Lib.hid h4
    have L4 : n4 ≤ 1048576 := by have := h4.len; omega
    have S34 : w3.heap.size ≤ w4.heap.size := h4.ext.size
    clear h4
    go_wp2_with fail
    refine (eqIntS_any A4 A0 n4 n0 c4 c0 _ _ zs zs _ G4.out.reads H4.out (by unfold maxLen; omega) (by unfold maxLen; omega)).mono ?_
    rintro e w' ⟨rfl, m4, rfl⟩
    go_wp2_with fail
    refine (toLessonS_any A n3 c _ xs _ (R4.out.drewN m4) E4.out.size hn).mono ?_
    rintro e w5 ⟨A5, n5, c5, rfl, a5⟩
    have z5 := a5.reads.lesnLen
    obtain rfl : n5 = n3 := by omega
    have B45 := Lib.hid (ext_trans (below_drewN (B := w4.heap.size) w4 m4) a5.ext)
    go_wp2_with fail
    refine (eqLessonS_any A3 A5 n5 n5 c3 c5 _ _ xs xs _ (O4.out.reads.below B45.out) a5.reads B45.out.size (Nat.le_refl _) (by unfold maxLen; omega) (by unfold maxLen; omega)).mono ?_
    rintro e w6 ⟨rfl, hb6⟩
    rw [decide_eq_true (rfl : xs = xs)]
    have B46 := Lib.hid (ext_trans B45.out hb6)
    have R6 := Lib.hid (R4.out.below (B46.out.mono E4.out.size))
    have E6 := Lib.hid (ext_trans E4.out B46.out)
    have H6 := Lib.hid (H4.out.below (B46.out.mono (Nat.le_trans S23 S34)))
    have O6 := Lib.hid (O4.out.later B46.out)
    have G6 := Lib.hid (G4.out.later B46.out)
    have S46 : w4.heap.size ≤ w6.heap.size := B46.out.size
    clear hb6 a5 z5
    go_wp2_with fail
    refine (markLessonS_any A3 n5 c3 _ _ 1 _ O6.out.own (by omega) (by omega) (by omega)).mono ?_
    rintro e w7 ⟨rfl, _, hg7⟩
    have hrow3 : ∀ g, (Value.slice A3 n5 c3).ownBlock = some g → w2.heap.size ≤ g ∧ g < w3.heap.size := fun g hg => O3.out.own.lt g hg
    have hne4 : (Value.slice A4 n4 c4).ownBlock = none ∨ (Value.slice A4 n4 c4).ownBlock ≠ (Value.slice A3 n5 c3).ownBlock := by
      cases hv : (Value.slice A4 n4 c4).ownBlock with
      | none => exact .inl rfl
      | some g => exact .inr (fun e => by have h1 := (G4.out.own.lt g hv).1; have h2 := (hrow3 g e.symm).2; omega)
    have S26 : w2.heap.size ≤ w6.heap.size := by omega
    have H7 := Lib.hid (H6.out.grown hg7 S26 (fun g hg => (hrow3 g hg).1))
    have G7 := Lib.hid (G6.out.own.kept hg7 hne4)
    have E7 := Lib.hid (ext_grown E6.out hg7 (fun g hg => Nat.le_trans E2.out.size (hrow3 g hg).1))
    have S67 : w6.heap.size ≤ w7.heap.size := hg7.size
    have hk1 : (0 : Int) ≤ 1 + ((n5 * 7 : Nat) : Int) := by omega
    clear hg7 hne4
    go_wp2_with fail
    refine (eqIntS_any A4 A0 n4 n0 c4 c0 _ _ zs zs _ (Reads.of_own G7.out) H7.out (by unfold maxLen; omega) (by unfold maxLen; omega)).mono ?_
    rintro e w' ⟨rfl, m7, rfl⟩
    go_wp2_with fail
    refine (markIntS_any A4 n4 c4 w3.heap.size zs 1 _ (ownsRow_drewN G7.out m7) (by omega) (by omega) (by omega)).mono ?_
    rintro e w8 ⟨rfl, hm8, hg8⟩
    have hrow4 : ∀ g, (Value.slice A4 n4 c4).ownBlock = some g → w3.heap.size ≤ g := fun g hg => (G4.out.own.lt g hg).1
    have H8 := Lib.hid ((H7.out.drewN m7).grown hg8 (Nat.le_trans S26 S67) (fun g hg => Nat.le_trans S23 (hrow4 g hg)))
    have E8 := Lib.hid (ext_grown (ext_drewN E7.out m7) hg8 (fun g hg => Nat.le_trans E3.out.size (hrow4 g hg)))
    have G8 := Lib.hid hm8
    have S78 : w7.heap.size ≤ w8.heap.size := hg8.size
    have R8 := Lib.hid (H.out.below E8.out)
    clear hm8 hg8
    go_wp2_with fail
    refine (heldIntS_any A4 n4 c4 _ 1 _ (Reads.of_own G8.out) (by omega) (by omega) (by omega)).mono ?_
    rintro e w' ⟨rfl, rfl⟩
    go_wp2_with fail
    refine (toLessonS_any A n5 c _ xs _ R8.out E8.out.size hn).mono ?_
    rintro e w9 ⟨A9, n9, c9, rfl, a9⟩
    have z9 := a9.reads.lesnLen
    obtain rfl : n9 = n5 := by omega
    have B89 := Lib.hid a9.ext
    go_wp2_with fail
    refine (HI.out A9 n9 c9 _ _ a9.reads (Nat.le_refl _) hn).mono ?_
    rintro e w10 ⟨A10, n10, c10, rfl, h10⟩
    have B8 := Lib.hid (ext_trans B89.out h10.ext)
    have H10 := Lib.hid (H8.out.below (B8.out.mono (by omega)))
    have G10 := Lib.hid (own_below G8.out B8.out)
    have E10 := Lib.hid (ext_trans E8.out B8.out)
    have L10 : n10 ≤ 1048576 := by have := h10.len; omega
    go_wp2_with fail
    refine (eqIntS_any A10 A0 n10 n0 c10 c0 _ _ zs zs _ h10.reads H10.out (by unfold maxLen; omega) (by unfold maxLen; omega)).mono ?_
    rintro e w' ⟨rfl, m10, rfl⟩
    go_wp2_with fail
    refine (heldIntS_any A4 n4 c4 _ 1 _ ((Reads.of_own G10.out).drewN m10) (by omega) (by omega) (by omega)).mono ?_
    rintro e w' ⟨rfl, rfl⟩
    go_wp2_with fail
    go_ret
    exact ⟨rfl, ext_drewN E10.out m10⟩
  · go_enter Try.func8, Try.ntmps8
    go_wp2_with fail
    refine (szLessonS_any A n c hm _).mono ?_
    rintro e w' ⟨rfl, rfl⟩
    rw [if_neg hn]
    go_wp2_with fail
    go_ret
    exact ⟨rfl, Below.refl _ _⟩
end Go.Proofs.Ytnndhgeddfghcaa
