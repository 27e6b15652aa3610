/- One lesson more in the accounts: the reference, and the law. No condition. -/
import Derived.Test.YtbjmpllnkkfgfaaBook
namespace Go.Proofs.Ytbjmpllnkkfgfaa
open Go.RowKit

theorem ins_set {k : Nat} {x : Acct} {xs : List Acct} (h : k < xs.length) : xs.take k ++ x :: xs.drop (k + 1) = xs.set k x := by
  rw [List.set_eq_take_append_cons_drop, if_pos h]
theorem reads_zero {w : World} {B : Nat} {A : Option Addr} {xs : List Acct} (h : xs.length = 0) : Reads w B 5 A 0 ((acctF xs).map (Value.int .i64)) := by
  obtain rfl : xs = [] := List.eq_nil_of_length_eq_zero h
  exact ⟨rfl, fun h => absurd h (by omega)⟩
theorem rest_all {w : World} {B b o n c k : Nat} {xs : List Acct} (h : Reads w B 5 (some ⟨b, o, none⟩) n ((acctF xs).map (Value.int .i64))) (hk : k < n) (hc : n ≤ c) :
    Reads w B 5 (some ⟨b, o + k * 5, none⟩) (n - k) ((acctF (xs.drop k)).map (Value.int .i64)) := by
  have := h.cutSAcct (k := k) (cap := c) (by omega) hc
  rwa [if_neg (by omega)] at this
theorem rest_one {w : World} {B n c k : Nat} {xs : List Acct} (hk : k < n) (hc : n ≤ c) (hl : xs.length = n) (e : c - k = 1) (RA : Option Addr) :
    Reads w B 5 RA (n - k - 1) ((acctF (xs.drop (k + 1))).map (Value.int .i64)) := by
  rw [show n - k - 1 = 0 from by omega]
  exact reads_zero (by rw [List.length_drop]; omega)
theorem rest_more {w : World} {B b o n c k : Nat} {xs : List Acct} (h : Reads w B 5 (some ⟨b, o, none⟩) n ((acctF xs).map (Value.int .i64))) (hk : k < n) (hc : n ≤ c) (e : ¬ c - k = 1) :
    Reads w B 5 (some ⟨b, o + k * 5 + 5, none⟩) (n - k - 1) ((acctF (xs.drop (k + 1))).map (Value.int .i64)) := by
  have := h.cutSAcct (k := k + 1) (cap := c) (by omega) hc
  rw [if_neg (by omega), show n - (k + 1) = n - k - 1 from by omega, show o + (k + 1) * 5 = o + k * 5 + 5 from by omega] at this
  exact this
set_option linter.unusedSimpArgs false in
set_option maxRecDepth 100000 in
set_option maxHeartbeats 8000000 in
theorem sBookLesson_any (A : Option Addr) (n c B : Nat) (xs : List Acct) (p m : Int) (w : World) (h : Reads w B 5 A n ((acctF xs).map (Value.int .i64))) (hB : B ≤ w.heap.size) (hn : n ≤ 1048576) (hnc : n ≤ c) (hcm : c ≤ maxLen) :
    Calls Try.prog 33 #[.slice A n c, .int .i64 p, .int .i64 m] w fun e w' => Gives 25 5 (acctF (bookL p m xs)) (bookOk p m xs) w e w' := by
  have hl := h.acctLen
  have H := Lib.hid h
  have HL := Lib.hid hl
  unfold maxLen at hcm
  clear h hl
  cases ha : accsB xs
  · have HR := Lib.hid (show bookOk p m xs = false ∧ bookL p m xs = [] by unfold bookL bookOk; rw [ha]; simp)
    go_enter Try.func33, Try.ntmps33
    go_wp2_with fail
    refine (l14Good_any A n c B xs _ H.out hB hn).mono ?_
    rintro e w2 ⟨rfl, hb2⟩
    rw [ha]
    go_wp2
    go_ret2
    rw [HR.out.1, HR.out.2]
    exact ⟨_, _, _, rfl, Acc.empty hb2⟩
  · have HAA := Lib.hid ha
    have hn10 : n ≤ 10 := by have := (accs_ok ha).2; have := HL.out; omega
    go_enter Try.func33, Try.ntmps33
    go_wp2_with fail
    refine (l14Good_any A n c B xs _ H.out hB hn).mono ?_
    rintro e w2 ⟨rfl, hb2⟩
    rw [ha]
    have HB2 := Lib.hid hb2
    have hB2 : B ≤ w2.heap.size := Nat.le_trans hB hb2.size
    clear ha hb2
    go_wp2
    obtain ⟨W1, hW1⟩ : ∃ W1, W1 = w2.alloc (Obj.cells #[.int .i64 p, .int .i64 m, .int .i64 0, .int .i64 0, .int .i64 0] 25) := ⟨_, rfl⟩
    rw [← hW1]
    have HX1 := Lib.hid (show Acc w W1 25 5 (some ⟨w2.heap.size, 0, none⟩) 1 1 [p, m, 0, 0, 0] from hW1 ▸ Acc.box HB2.out ⟨p, m, 0, 0, 0⟩)
    have hgB : B ≤ w2.heap.size := hB2
    generalize w2.heap.size = gb at HX1 hgB ⊢
    clear hW1
    go_loopw [9] (fun q wr => ∃ (k : Nat) (s : Int), q = .int .i64 k ∧ k ≤ n ∧ (∀ (i : Nat) (x : Acct), i < k → xs[i]? = some x → befB x.p x.m p m = true) ∧ s = sibV p xs k ∧ Acc w wr 25 5 (some ⟨gb, 0, none⟩) 1 1 [p, m, 0, s, 0]) (fun q _ => n - (intOf q).toNat)
    case atStart => exact ⟨0, 0, rfl, by omega, fun i x hi => by omega, rfl, HX1.out⟩
    case round =>
      obtain ⟨wq, rfl⟩ : ∃ wq : World, wq = wr := ⟨_, rfl⟩
      obtain ⟨k, s, rfl, hk, hh, hs, hacc⟩ := hrel
      have HX0 := Lib.hid hacc
      have HH := Lib.hid hh
      have HSB := Lib.hid hs
      have RQ := Lib.hid (H.out.below (hacc.ext.mono hB))
      have hBq : B ≤ wq.heap.size := Nat.le_trans hB hacc.ext.size
      clear hh hs hacc
      have k0 : (0 : Int) ≤ k := by omega
      have k1 : (k : Int) ≤ n := by omega
      have k2 : (n : Int) ≤ c := by omega
      have k3 : (k : Int) ≤ c := by omega
      obtain ⟨hx0, hfx0⟩ := HX0.out.cellAt (show ([p, m, 0, s, 0] : List Int)[0]? = some _ from rfl)
      obtain ⟨hx1, hfx1⟩ := HX0.out.cellAt (show ([p, m, 0, s, 0] : List Int)[1]? = some _ from rfl)
      obtain ⟨hx2, hfx2⟩ := HX0.out.cellAt (show ([p, m, 0, s, 0] : List Int)[2]? = some _ from rfl)
      obtain ⟨hx3, hfx3⟩ := HX0.out.cellAt (show ([p, m, 0, s, 0] : List Int)[3]? = some _ from rfl)
      obtain ⟨hx4, hfx4⟩ := HX0.out.cellAt (show ([p, m, 0, s, 0] : List Int)[4]? = some _ from rfl)
      by_cases hlt : k < n
      · obtain ⟨b, o, y, hAy, hy, hc0, hc1, hc2, hc3, hc4⟩ := RQ.out.acct hlt
        subst hAy
        have HY := Lib.hid hy
        have k4 : (k : Int) < n := by omega
        clear hy
        cases hbf : befB y.p y.m p m
        · have HBF := Lib.hid hbf
          have HPOS := Lib.hid (posB_stop HH.out (fun z hz => by rw [HY.out] at hz; injection hz with hz; rw [← hz]; exact hbf) (by rw [HL.out]; exact hk))
          have e1 : ¬ c = k := by omega
          have e2 : (0 : Int) < (n : Int) - k := by omega
          have e3 : ((n - k : Nat) : Int) = (n : Int) - k := by omega
          have e4 : 0 < n - k := by omega
          go_wp2_with fail
          refine (l14Before_v y p m hbf _).mono ?_
          rintro e w4 ⟨rfl, hb4⟩
          have HX4 := Lib.hid (HX0.out.later hb4)
          have RQ4 := Lib.hid (RQ.out.below (hb4.mono hBq))
          have hd0 := below_cell hb4 hc0
          have hd1 := below_cell hb4 hc1
          have hd2 := below_cell hb4 hc2
          have hd3 := below_cell hb4 hc3
          have hd4 := below_cell hb4 hc4
          have hB4 : B ≤ w4.heap.size := Nat.le_trans hBq hb4.size
          clear hb4 hc0 hc1 hc2 hc3 hc4 hx0 hx1 hx2 hx3 hx4 hfx0 hfx1 hfx2 hfx3 hfx4
          obtain ⟨hx0, hfx0⟩ := HX4.out.cellAt (show ([p, m, 0, s, 0] : List Int)[0]? = some _ from rfl)
          obtain ⟨hx1, hfx1⟩ := HX4.out.cellAt (show ([p, m, 0, s, 0] : List Int)[1]? = some _ from rfl)
          obtain ⟨hx2, hfx2⟩ := HX4.out.cellAt (show ([p, m, 0, s, 0] : List Int)[2]? = some _ from rfl)
          obtain ⟨hx3, hfx3⟩ := HX4.out.cellAt (show ([p, m, 0, s, 0] : List Int)[3]? = some _ from rfl)
          obtain ⟨hx4, hfx4⟩ := HX4.out.cellAt (show ([p, m, 0, s, 0] : List Int)[4]? = some _ from rfl)
          by_cases hyp : y.p = p
          · have hpb : (y.p == p) = true := by simp [hyp]
            by_cases hym : y.m = m
            · have hmb : (y.m == m) = true := by simp [hym]
              have HO := Lib.hid (book_hit HPOS.out HY.out ⟨hyp, hym⟩)
              obtain ⟨_, _, _, _, l0, l1, _⟩ := Acct.ok_parts ((accs_ok HAA.out).1.at HY.out)
              clear hyp hym hbf
              by_cases hck : c - k = 1
              · go_wp2
                obtain ⟨x, hxe⟩ : ∃ x : Acct, x = ⟨y.p, y.m, y.l + 1, y.s, y.d⟩ := ⟨_, rfl⟩
                obtain ⟨wz, hwz⟩ : ∃ wz : World, wz = (World.setCell (World.setCell (World.setCell (World.setCell (World.setCell (World.setCell w4 ⟨gb, 0, none⟩ (.int .i64 (y.p))) ⟨gb, 1, none⟩ (.int .i64 (y.m))) ⟨gb, 2, none⟩ (.int .i64 (y.l))) ⟨gb, 3, none⟩ (.int .i64 (y.s))) ⟨gb, 4, none⟩ (.int .i64 (y.d))) ⟨gb, 2, none⟩ (.int .i64 (y.l + 1))) := ⟨_, rfl⟩
                rw [← hwz]
                have HX9 := Lib.hid (show Acc w wz 25 5 (some ⟨gb, 0, none⟩) 1 1 x.cs by rw [hwz, hxe]; exact ((((((HX4.out.set 0 (y.p)).set 1 (y.m)).set 2 (y.l)).set 3 (y.s)).set 4 (y.d)).set 2 (y.l + 1)))
                have HI := Lib.hid (show bookO p m xs = xs.take k ++ x :: xs.drop (k + 1) by rw [hxe]; rw [HO.out, ins_set (by rw [HL.out]; exact hlt)])
                have RQ9 := Lib.hid (H.out.below (HX9.out.ext.mono hB))
                have hBq9 : B ≤ wz.heap.size := Nat.le_trans hB HX9.out.ext.size
                have RR := Lib.hid (show Reads wz B 5 _ (n - k - 1) ((acctF (xs.drop (k + 1))).map (Value.int .i64)) from rest_one hlt hnc HL.out hck (some ⟨b, o + k * 5, none⟩))
                clear hwz hxe HX4 HX0 RQ RQ4 hBq hx0 hx1 hx2 hx3 hx4 hd0 hd1 hd2 hd3 hd4 hfx0 hfx1 hfx2 hfx3 hfx4
                generalize hrn : n - k - 1 = rn at RR ⊢
                generalize (some ⟨b, o + k * 5, none⟩ : Option Addr) = RA at RR ⊢
                generalize hys : xs.drop (k + 1) = ys at RR HI
                obtain ⟨wq, rfl⟩ : ∃ wq : World, wq = wz := ⟨_, rfl⟩
                have HX0 := HX9
                have RQ := RQ9
                have hBq : B ≤ wq.heap.size := hBq9
                clear HX9 RQ9 hBq9
                obtain ⟨hx0, _⟩ := HX0.out.cellAt (show x.cs[0]? = some x.p from rfl)
                obtain ⟨hx1, _⟩ := HX0.out.cellAt (show x.cs[1]? = some x.m from rfl)
                obtain ⟨hx2, _⟩ := HX0.out.cellAt (show x.cs[2]? = some x.l from rfl)
                obtain ⟨hx3, _⟩ := HX0.out.cellAt (show x.cs[3]? = some x.s from rfl)
                obtain ⟨hx4, _⟩ := HX0.out.cellAt (show x.cs[4]? = some x.d from rfl)
                refine wp_region_held_drew (S := (fun w' => w'.cell? ⟨gb, 0, none⟩ = some (.int .i64 x.p) ∧ w'.cell? ⟨gb, 1, none⟩ = some (.int .i64 x.m) ∧ w'.cell? ⟨gb, 2, none⟩ = some (.int .i64 x.l) ∧ w'.cell? ⟨gb, 3, none⟩ = some (.int .i64 x.s) ∧ w'.cell? ⟨gb, 4, none⟩ = some (.int .i64 x.d))) (by kernel_rfl) ?_ (fun hHeld => ?_)
                · exact ⟨hx0, hx1, hx2, hx3, hx4⟩
                obtain ⟨X, hX⟩ : ∃ X, X = World.drew wq := ⟨_, rfl⟩
                rw [← hX]
                try rw [← hX] at hHeld
                have bX : Below wq.heap.size wq X := hX ▸ ext_drew (Below.refl _ _)
                clear hX
                refine wpAnyH_takeD (i := 1) (v := ?_) 79 rfl rfl (by kernel_rfl) (by kernel_rfl) (by kernel_rfl) (fun _ _ _ _ _ h => h) (by rfl) (by assumption) ?_ ?_
                rotate_left; focus (intro w hSw; (try dsimp only at hSw); go_simp; try (with_reducible rfl))
                try simp only [Act.put, List.setIfInBounds_toArray, List.set_cons_zero, List.set_cons_succ]
                refine wpAnyH_takeD (i := 2) (v := ?_) 80 rfl rfl (by kernel_rfl) (by kernel_rfl) (by kernel_rfl) (fun _ _ _ _ _ h => h) (by rfl) (by assumption) ?_ ?_
                rotate_left; focus (intro w hSw; (try dsimp only at hSw); go_simp; try (with_reducible rfl))
                try simp only [Act.put, List.setIfInBounds_toArray, List.set_cons_zero, List.set_cons_succ]
                refine wpAnyH_takeD (i := 3) (v := ?_) 81 rfl rfl (by kernel_rfl) (by kernel_rfl) (by kernel_rfl) (fun _ _ _ _ _ h => h) (by rfl) (by assumption) ?_ ?_
                rotate_left; focus (intro w hSw; (try dsimp only at hSw); go_simp; try (with_reducible rfl))
                try simp only [Act.put, List.setIfInBounds_toArray, List.set_cons_zero, List.set_cons_succ]
                refine wpAnyH_takeD (i := 5) (v := ?_) 83 rfl rfl (by kernel_rfl) (by kernel_rfl) (by kernel_rfl) (fun _ _ _ _ _ h => h) (by rfl) (by assumption) ?_ ?_
                rotate_left; focus (intro w hSw; (try dsimp only at hSw); go_simp; try (with_reducible rfl))
                try simp only [Act.put, List.setIfInBounds_toArray, List.set_cons_zero, List.set_cons_succ]
                refine wpAnyH_takeD (i := 8) (v := ?_) 86 rfl rfl (by kernel_rfl) (by kernel_rfl) (by kernel_rfl) (fun _ _ _ _ _ h => h) (by rfl) (by assumption) ?_ ?_
                rotate_left; focus (intro w hSw; (try dsimp only at hSw); go_simp; try (with_reducible rfl))
                try simp only [Act.put, List.setIfInBounds_toArray, List.set_cons_zero, List.set_cons_succ]
                refine wpAnyH_ready (rs := [0, 6]) (by kernel_rfl) (by simp) ?_
                refine AllReadyH.cons rfl (fun K hK => ?_) (AllReadyH.cons rfl (fun K hK => ?_) AllReadyH.nil)
                · go_simp
                  obtain ⟨Y, hY⟩ : ∃ Y, Y = World.alloc X (Obj.cells #[] 25) := ⟨_, rfl⟩
                  rw [← hY]
                  have bY : Below wq.heap.size wq Y := hY ▸ ext_alloc bX _
                  have a0 : Acc wq Y 25 5 (some ⟨X.heap.size, 0, none⟩) 0 0 [] := hY ▸ Acc.empty bX
                  clear hY
                  refine hK.out _ _ (by exact ⟨below_cell (by assumption) hx0, below_cell (by assumption) hx1, below_cell (by assumption) hx2, below_cell (by assumption) hx3, below_cell (by assumption) hx4⟩) (fun hHeld => ?_)
                  clear hK K; (try simp only [Act.put]); (try simp only [List.setIfInBounds_toArray]); (try simp only [List.set_cons_succ]); (try simp only [List.set_cons_zero])
                  refine wpAnyH_ready (rs := [4, 6]) (by kernel_rfl) (by simp) ?_
                  refine AllReadyH.cons rfl (fun K hK => ?_) (AllReadyH.cons rfl (fun K hK => ?_) AllReadyH.nil)
                  · refine appAcct_b_step rfl (.tmp 78) (.tmp 81) rfl rfl a0 rfl ((RQ.out.below (bY.mono hBq)).frontAcct hk) (by omega) ?_
                    intro A1 c1 Z a1 p1
                    have bZ := a1.ext
                    simp only [Nat.zero_add, List.nil_append] at a1
                    refine hK.out _ _ (by exact ⟨below_cell (by assumption) hx0, below_cell (by assumption) hx1, below_cell (by assumption) hx2, below_cell (by assumption) hx3, below_cell (by assumption) hx4⟩) (fun hHeld => ?_)
                    clear hK K; (try simp only [Act.put]); (try simp only [List.setIfInBounds_toArray]); (try simp only [List.set_cons_succ]); (try simp only [List.set_cons_zero])
                    try simp only [Nat.zero_add]
                    refine wpAnyH_ready (rs := [6]) (by kernel_rfl) (by simp) ?_
                    refine AllReadyH.cons rfl (fun K hK => ?_) AllReadyH.nil
                    go_simp
                    obtain ⟨T, hT⟩ : ∃ T, T = World.alloc Z (Obj.cells #[.int .i64 x.p, .int .i64 x.m, .int .i64 x.l, .int .i64 x.s, .int .i64 x.d] 25) := ⟨_, rfl⟩
                    rw [← hT]
                    have bT : Below wq.heap.size wq T := hT ▸ ext_alloc bZ _
                    have s1 := Side.new a1 #[.int .i64 x.p, .int .i64 x.m, .int .i64 x.l, .int .i64 x.s, .int .i64 x.d] 25 x.cs rfl rfl
                    rw [← hT] at s1
                    have a1 := a1.alloc (Obj.cells #[.int .i64 x.p, .int .i64 x.m, .int .i64 x.l, .int .i64 x.s, .int .i64 x.d] 25)
                    rw [← hT] at a1
                    clear hT
                    refine hK.out _ _ (by exact ⟨below_cell (by assumption) hx0, below_cell (by assumption) hx1, below_cell (by assumption) hx2, below_cell (by assumption) hx3, below_cell (by assumption) hx4⟩) (fun hHeld => ?_)
                    clear hK K; (try simp only [Act.put]); (try simp only [List.setIfInBounds_toArray]); (try simp only [List.set_cons_succ]); (try simp only [List.set_cons_zero])
                    refine wpAnyH_ready (rs := [7]) (by kernel_rfl) (by simp) ?_
                    refine AllReadyH.cons rfl (fun K hK => ?_) AllReadyH.nil
                    refine appAcct_b_step rfl (.tmp 82) (.tmp 84) rfl rfl a1 rfl s1.reads (by omega) ?_
                    intro A2 c2 V a2 p2
                    have bV := a2.ext
                    refine hK.out _ _ (by exact ⟨below_cell (by assumption) hx0, below_cell (by assumption) hx1, below_cell (by assumption) hx2, below_cell (by assumption) hx3, below_cell (by assumption) hx4⟩) (fun hHeld => ?_)
                    clear hK K; (try simp only [Act.put]); (try simp only [List.setIfInBounds_toArray]); (try simp only [List.set_cons_succ]); (try simp only [List.set_cons_zero])
                    refine wpAnyH_ready (rs := [9]) (by kernel_rfl) (by simp) ?_
                    refine AllReadyH.cons rfl (fun K hK => ?_) AllReadyH.nil
                    refine appAcct_b_step rfl (.tmp 85) (.tmp 86) rfl rfl a2 rfl (RR.out.below (bV.mono hBq)) (by omega) ?_
                    intro A3 c3 U a3 p3
                    have bU := a3.ext
                    refine hK.out _ _ (by exact ⟨below_cell (by assumption) hx0, below_cell (by assumption) hx1, below_cell (by assumption) hx2, below_cell (by assumption) hx3, below_cell (by assumption) hx4⟩) (fun hHeld => ?_)
                    clear hK K; (try simp only [Act.put]); (try simp only [List.setIfInBounds_toArray]); (try simp only [List.set_cons_succ]); (try simp only [List.set_cons_zero])
                    refine wpAnyH_takeD (i := 10) (v := ?_) 11 rfl rfl (by kernel_rfl) (by kernel_rfl) (by kernel_rfl) (fun _ _ _ _ _ h => h) (by rfl) (by assumption) ?_ ?_
                    rotate_left; focus (intro w hSw; (try dsimp only at hSw); go_simp; try (with_reducible rfl))
                    (try simp only [Act.put]); (try simp only [List.setIfInBounds_toArray]); (try simp only [List.set_cons_succ]); (try simp only [List.set_cons_zero])
                    refine wpAnyH_done (by kernel_rfl) ?_ _
                    simp only [List.append_assoc, List.cons_append, List.nil_append] at a3
                    have hfin : bookO p m xs = xs.take k ++ x :: ys := HI.out
                    have e3 : acctF (bookO p m xs) = acctF (xs.take k) ++ (x.cs ++ acctF ys) := by rw [hfin, acctF_app, acctF_cons]
                    have HN3 := Lib.hid (show Acc w U 25 5 A3 (k + 1 + rn) c3 (acctF (bookO p m xs)) by rw [e3]; simpa using a3.since HX0.out.ext)
                    have hn3 : k + 1 + rn ≤ 1048576 := by omega
                    clear a0 a1 a2 a3 s1 hHeld e3 hfin
                    go_wp2_with fail
                    refine (l14Good_any _ _ _ _ (bookO p m xs) _ HN3.out.reads (Nat.le_refl _) hn3).mono ?_
                    rintro e w9 ⟨rfl, hb9⟩
                    have O9 := Lib.hid (HN3.out.later hb9)
                    clear hb9
                    cases hgd : accsB (bookO p m xs)
                    · have HR := Lib.hid (show bookOk p m xs = false ∧ bookL p m xs = [] by unfold bookL bookOk; rw [hgd]; simp)
                      go_wp2
                      go_ret2
                      rw [HR.out.1, HR.out.2]
                      exact ⟨_, _, _, rfl, Acc.empty O9.out.ext⟩
                    · have HR := Lib.hid (show bookOk p m xs = true ∧ bookL p m xs = bookO p m xs by unfold bookL bookOk; rw [hgd, HAA.out]; simp)
                      go_wp2
                      go_ret2
                      rw [HR.out.1, HR.out.2]
                      exact ⟨_, _, _, rfl, O9.out⟩
                  · go_simp
                    obtain ⟨Z, hZ⟩ : ∃ Z, Z = World.alloc Y (Obj.cells #[.int .i64 x.p, .int .i64 x.m, .int .i64 x.l, .int .i64 x.s, .int .i64 x.d] 25) := ⟨_, rfl⟩
                    rw [← hZ]
                    have bZ : Below wq.heap.size wq Z := hZ ▸ ext_alloc bY _
                    have s1 := Side.new a0 #[.int .i64 x.p, .int .i64 x.m, .int .i64 x.l, .int .i64 x.s, .int .i64 x.d] 25 x.cs rfl rfl
                    rw [← hZ] at s1
                    have a0 := a0.alloc (Obj.cells #[.int .i64 x.p, .int .i64 x.m, .int .i64 x.l, .int .i64 x.s, .int .i64 x.d] 25)
                    rw [← hZ] at a0
                    clear hZ
                    refine hK.out _ _ (by exact ⟨below_cell (by assumption) hx0, below_cell (by assumption) hx1, below_cell (by assumption) hx2, below_cell (by assumption) hx3, below_cell (by assumption) hx4⟩) (fun hHeld => ?_)
                    clear hK K; (try simp only [Act.put]); (try simp only [List.setIfInBounds_toArray]); (try simp only [List.set_cons_succ]); (try simp only [List.set_cons_zero])
                    refine wpAnyH_ready (rs := [4]) (by kernel_rfl) (by simp) ?_
                    refine AllReadyH.cons rfl (fun K hK => ?_) AllReadyH.nil
                    refine appAcct_b_step rfl (.tmp 78) (.tmp 81) rfl rfl a0 rfl ((RQ.out.below (bZ.mono hBq)).frontAcct hk) (by omega) ?_
                    intro A1 c1 T a1 p1
                    have bT := a1.ext
                    simp only [Nat.zero_add, List.nil_append] at a1
                    have s1 := s1.pushed p1
                    refine hK.out _ _ (by exact ⟨below_cell (by assumption) hx0, below_cell (by assumption) hx1, below_cell (by assumption) hx2, below_cell (by assumption) hx3, below_cell (by assumption) hx4⟩) (fun hHeld => ?_)
                    clear hK K; (try simp only [Act.put]); (try simp only [List.setIfInBounds_toArray]); (try simp only [List.set_cons_succ]); (try simp only [List.set_cons_zero])
                    try simp only [Nat.zero_add]
                    refine wpAnyH_ready (rs := [7]) (by kernel_rfl) (by simp) ?_
                    refine AllReadyH.cons rfl (fun K hK => ?_) AllReadyH.nil
                    refine appAcct_b_step rfl (.tmp 82) (.tmp 84) rfl rfl a1 rfl s1.reads (by omega) ?_
                    intro A2 c2 V a2 p2
                    have bV := a2.ext
                    refine hK.out _ _ (by exact ⟨below_cell (by assumption) hx0, below_cell (by assumption) hx1, below_cell (by assumption) hx2, below_cell (by assumption) hx3, below_cell (by assumption) hx4⟩) (fun hHeld => ?_)
                    clear hK K; (try simp only [Act.put]); (try simp only [List.setIfInBounds_toArray]); (try simp only [List.set_cons_succ]); (try simp only [List.set_cons_zero])
                    refine wpAnyH_ready (rs := [9]) (by kernel_rfl) (by simp) ?_
                    refine AllReadyH.cons rfl (fun K hK => ?_) AllReadyH.nil
                    refine appAcct_b_step rfl (.tmp 85) (.tmp 86) rfl rfl a2 rfl (RR.out.below (bV.mono hBq)) (by omega) ?_
                    intro A3 c3 U a3 p3
                    have bU := a3.ext
                    refine hK.out _ _ (by exact ⟨below_cell (by assumption) hx0, below_cell (by assumption) hx1, below_cell (by assumption) hx2, below_cell (by assumption) hx3, below_cell (by assumption) hx4⟩) (fun hHeld => ?_)
                    clear hK K; (try simp only [Act.put]); (try simp only [List.setIfInBounds_toArray]); (try simp only [List.set_cons_succ]); (try simp only [List.set_cons_zero])
                    refine wpAnyH_takeD (i := 10) (v := ?_) 11 rfl rfl (by kernel_rfl) (by kernel_rfl) (by kernel_rfl) (fun _ _ _ _ _ h => h) (by rfl) (by assumption) ?_ ?_
                    rotate_left; focus (intro w hSw; (try dsimp only at hSw); go_simp; try (with_reducible rfl))
                    (try simp only [Act.put]); (try simp only [List.setIfInBounds_toArray]); (try simp only [List.set_cons_succ]); (try simp only [List.set_cons_zero])
                    refine wpAnyH_done (by kernel_rfl) ?_ _
                    simp only [List.append_assoc, List.cons_append, List.nil_append] at a3
                    have hfin : bookO p m xs = xs.take k ++ x :: ys := HI.out
                    have e3 : acctF (bookO p m xs) = acctF (xs.take k) ++ (x.cs ++ acctF ys) := by rw [hfin, acctF_app, acctF_cons]
                    have HN3 := Lib.hid (show Acc w U 25 5 A3 (k + 1 + rn) c3 (acctF (bookO p m xs)) by rw [e3]; simpa using a3.since HX0.out.ext)
                    have hn3 : k + 1 + rn ≤ 1048576 := by omega
                    clear a0 a1 a2 a3 s1 hHeld e3 hfin
                    go_wp2_with fail
                    refine (l14Good_any _ _ _ _ (bookO p m xs) _ HN3.out.reads (Nat.le_refl _) hn3).mono ?_
                    rintro e w9 ⟨rfl, hb9⟩
                    have O9 := Lib.hid (HN3.out.later hb9)
                    clear hb9
                    cases hgd : accsB (bookO p m xs)
                    · have HR := Lib.hid (show bookOk p m xs = false ∧ bookL p m xs = [] by unfold bookL bookOk; rw [hgd]; simp)
                      go_wp2
                      go_ret2
                      rw [HR.out.1, HR.out.2]
                      exact ⟨_, _, _, rfl, Acc.empty O9.out.ext⟩
                    · have HR := Lib.hid (show bookOk p m xs = true ∧ bookL p m xs = bookO p m xs by unfold bookL bookOk; rw [hgd, HAA.out]; simp)
                      go_wp2
                      go_ret2
                      rw [HR.out.1, HR.out.2]
                      exact ⟨_, _, _, rfl, O9.out⟩
                · go_simp
                  obtain ⟨Y, hY⟩ : ∃ Y, Y = World.alloc X (Obj.cells #[.int .i64 x.p, .int .i64 x.m, .int .i64 x.l, .int .i64 x.s, .int .i64 x.d] 25) := ⟨_, rfl⟩
                  rw [← hY]
                  have bY : Below wq.heap.size wq Y := hY ▸ ext_alloc bX _
                  have s1 := Side.new0 X 5 #[.int .i64 x.p, .int .i64 x.m, .int .i64 x.l, .int .i64 x.s, .int .i64 x.d] 25 x.cs rfl rfl
                  rw [← hY] at s1
                  clear hY
                  refine hK.out _ _ (by exact ⟨below_cell (by assumption) hx0, below_cell (by assumption) hx1, below_cell (by assumption) hx2, below_cell (by assumption) hx3, below_cell (by assumption) hx4⟩) (fun hHeld => ?_)
                  clear hK K; (try simp only [Act.put]); (try simp only [List.setIfInBounds_toArray]); (try simp only [List.set_cons_succ]); (try simp only [List.set_cons_zero])
                  refine wpAnyH_ready (rs := [0]) (by kernel_rfl) (by simp) ?_
                  refine AllReadyH.cons rfl (fun K hK => ?_) AllReadyH.nil
                  go_simp
                  obtain ⟨Z, hZ⟩ : ∃ Z, Z = World.alloc Y (Obj.cells #[] 25) := ⟨_, rfl⟩
                  rw [← hZ]
                  have bZ : Below wq.heap.size wq Z := hZ ▸ ext_alloc bY _
                  have a0 : Acc wq Z 25 5 (some ⟨Y.heap.size, 0, none⟩) 0 0 [] := hZ ▸ Acc.empty bY
                  have s1 := s1.row (Obj.cells #[] 25)
                  rw [← hZ] at s1
                  clear hZ
                  refine hK.out _ _ (by exact ⟨below_cell (by assumption) hx0, below_cell (by assumption) hx1, below_cell (by assumption) hx2, below_cell (by assumption) hx3, below_cell (by assumption) hx4⟩) (fun hHeld => ?_)
                  clear hK K; (try simp only [Act.put]); (try simp only [List.setIfInBounds_toArray]); (try simp only [List.set_cons_succ]); (try simp only [List.set_cons_zero])
                  refine wpAnyH_ready (rs := [4]) (by kernel_rfl) (by simp) ?_
                  refine AllReadyH.cons rfl (fun K hK => ?_) AllReadyH.nil
                  refine appAcct_b_step rfl (.tmp 78) (.tmp 81) rfl rfl a0 rfl ((RQ.out.below (bZ.mono hBq)).frontAcct hk) (by omega) ?_
                  intro A1 c1 T a1 p1
                  have bT := a1.ext
                  simp only [Nat.zero_add, List.nil_append] at a1
                  have s1 := s1.pushed p1
                  refine hK.out _ _ (by exact ⟨below_cell (by assumption) hx0, below_cell (by assumption) hx1, below_cell (by assumption) hx2, below_cell (by assumption) hx3, below_cell (by assumption) hx4⟩) (fun hHeld => ?_)
                  clear hK K; (try simp only [Act.put]); (try simp only [List.setIfInBounds_toArray]); (try simp only [List.set_cons_succ]); (try simp only [List.set_cons_zero])
                  try simp only [Nat.zero_add]
                  refine wpAnyH_ready (rs := [7]) (by kernel_rfl) (by simp) ?_
                  refine AllReadyH.cons rfl (fun K hK => ?_) AllReadyH.nil
                  refine appAcct_b_step rfl (.tmp 82) (.tmp 84) rfl rfl a1 rfl s1.reads (by omega) ?_
                  intro A2 c2 V a2 p2
                  have bV := a2.ext
                  refine hK.out _ _ (by exact ⟨below_cell (by assumption) hx0, below_cell (by assumption) hx1, below_cell (by assumption) hx2, below_cell (by assumption) hx3, below_cell (by assumption) hx4⟩) (fun hHeld => ?_)
                  clear hK K; (try simp only [Act.put]); (try simp only [List.setIfInBounds_toArray]); (try simp only [List.set_cons_succ]); (try simp only [List.set_cons_zero])
                  refine wpAnyH_ready (rs := [9]) (by kernel_rfl) (by simp) ?_
                  refine AllReadyH.cons rfl (fun K hK => ?_) AllReadyH.nil
                  refine appAcct_b_step rfl (.tmp 85) (.tmp 86) rfl rfl a2 rfl (RR.out.below (bV.mono hBq)) (by omega) ?_
                  intro A3 c3 U a3 p3
                  have bU := a3.ext
                  refine hK.out _ _ (by exact ⟨below_cell (by assumption) hx0, below_cell (by assumption) hx1, below_cell (by assumption) hx2, below_cell (by assumption) hx3, below_cell (by assumption) hx4⟩) (fun hHeld => ?_)
                  clear hK K; (try simp only [Act.put]); (try simp only [List.setIfInBounds_toArray]); (try simp only [List.set_cons_succ]); (try simp only [List.set_cons_zero])
                  refine wpAnyH_takeD (i := 10) (v := ?_) 11 rfl rfl (by kernel_rfl) (by kernel_rfl) (by kernel_rfl) (fun _ _ _ _ _ h => h) (by rfl) (by assumption) ?_ ?_
                  rotate_left; focus (intro w hSw; (try dsimp only at hSw); go_simp; try (with_reducible rfl))
                  (try simp only [Act.put]); (try simp only [List.setIfInBounds_toArray]); (try simp only [List.set_cons_succ]); (try simp only [List.set_cons_zero])
                  refine wpAnyH_done (by kernel_rfl) ?_ _
                  simp only [List.append_assoc, List.cons_append, List.nil_append] at a3
                  have hfin : bookO p m xs = xs.take k ++ x :: ys := HI.out
                  have e3 : acctF (bookO p m xs) = acctF (xs.take k) ++ (x.cs ++ acctF ys) := by rw [hfin, acctF_app, acctF_cons]
                  have HN3 := Lib.hid (show Acc w U 25 5 A3 (k + 1 + rn) c3 (acctF (bookO p m xs)) by rw [e3]; simpa using a3.since HX0.out.ext)
                  have hn3 : k + 1 + rn ≤ 1048576 := by omega
                  clear a0 a1 a2 a3 s1 hHeld e3 hfin
                  go_wp2_with fail
                  refine (l14Good_any _ _ _ _ (bookO p m xs) _ HN3.out.reads (Nat.le_refl _) hn3).mono ?_
                  rintro e w9 ⟨rfl, hb9⟩
                  have O9 := Lib.hid (HN3.out.later hb9)
                  clear hb9
                  cases hgd : accsB (bookO p m xs)
                  · have HR := Lib.hid (show bookOk p m xs = false ∧ bookL p m xs = [] by unfold bookL bookOk; rw [hgd]; simp)
                    go_wp2
                    go_ret2
                    rw [HR.out.1, HR.out.2]
                    exact ⟨_, _, _, rfl, Acc.empty O9.out.ext⟩
                  · have HR := Lib.hid (show bookOk p m xs = true ∧ bookL p m xs = bookO p m xs by unfold bookL bookOk; rw [hgd, HAA.out]; simp)
                    go_wp2
                    go_ret2
                    rw [HR.out.1, HR.out.2]
                    exact ⟨_, _, _, rfl, O9.out⟩
              · go_wp2
                obtain ⟨x, hxe⟩ : ∃ x : Acct, x = ⟨y.p, y.m, y.l + 1, y.s, y.d⟩ := ⟨_, rfl⟩
                obtain ⟨wz, hwz⟩ : ∃ wz : World, wz = (World.setCell (World.setCell (World.setCell (World.setCell (World.setCell (World.setCell w4 ⟨gb, 0, none⟩ (.int .i64 (y.p))) ⟨gb, 1, none⟩ (.int .i64 (y.m))) ⟨gb, 2, none⟩ (.int .i64 (y.l))) ⟨gb, 3, none⟩ (.int .i64 (y.s))) ⟨gb, 4, none⟩ (.int .i64 (y.d))) ⟨gb, 2, none⟩ (.int .i64 (y.l + 1))) := ⟨_, rfl⟩
                rw [← hwz]
                have HX9 := Lib.hid (show Acc w wz 25 5 (some ⟨gb, 0, none⟩) 1 1 x.cs by rw [hwz, hxe]; exact ((((((HX4.out.set 0 (y.p)).set 1 (y.m)).set 2 (y.l)).set 3 (y.s)).set 4 (y.d)).set 2 (y.l + 1)))
                have HI := Lib.hid (show bookO p m xs = xs.take k ++ x :: xs.drop (k + 1) by rw [hxe]; rw [HO.out, ins_set (by rw [HL.out]; exact hlt)])
                have RQ9 := Lib.hid (H.out.below (HX9.out.ext.mono hB))
                have hBq9 : B ≤ wz.heap.size := Nat.le_trans hB HX9.out.ext.size
                have RR := Lib.hid (show Reads wz B 5 _ (n - k - 1) ((acctF (xs.drop (k + 1))).map (Value.int .i64)) from rest_more RQ9.out hlt hnc hck)
                clear hwz hxe HX4 HX0 RQ RQ4 hBq hx0 hx1 hx2 hx3 hx4 hd0 hd1 hd2 hd3 hd4 hfx0 hfx1 hfx2 hfx3 hfx4
                generalize hrn : n - k - 1 = rn at RR ⊢
                generalize (some ⟨b, o + k * 5 + 5, none⟩ : Option Addr) = RA at RR ⊢
                generalize hys : xs.drop (k + 1) = ys at RR HI
                obtain ⟨wq, rfl⟩ : ∃ wq : World, wq = wz := ⟨_, rfl⟩
                have HX0 := HX9
                have RQ := RQ9
                have hBq : B ≤ wq.heap.size := hBq9
                clear HX9 RQ9 hBq9
                obtain ⟨hx0, _⟩ := HX0.out.cellAt (show x.cs[0]? = some x.p from rfl)
                obtain ⟨hx1, _⟩ := HX0.out.cellAt (show x.cs[1]? = some x.m from rfl)
                obtain ⟨hx2, _⟩ := HX0.out.cellAt (show x.cs[2]? = some x.l from rfl)
                obtain ⟨hx3, _⟩ := HX0.out.cellAt (show x.cs[3]? = some x.s from rfl)
                obtain ⟨hx4, _⟩ := HX0.out.cellAt (show x.cs[4]? = some x.d from rfl)
                refine wp_region_held_drew (S := (fun w' => w'.cell? ⟨gb, 0, none⟩ = some (.int .i64 x.p) ∧ w'.cell? ⟨gb, 1, none⟩ = some (.int .i64 x.m) ∧ w'.cell? ⟨gb, 2, none⟩ = some (.int .i64 x.l) ∧ w'.cell? ⟨gb, 3, none⟩ = some (.int .i64 x.s) ∧ w'.cell? ⟨gb, 4, none⟩ = some (.int .i64 x.d))) (by kernel_rfl) ?_ (fun hHeld => ?_)
                · exact ⟨hx0, hx1, hx2, hx3, hx4⟩
                obtain ⟨X, hX⟩ : ∃ X, X = World.drew wq := ⟨_, rfl⟩
                rw [← hX]
                try rw [← hX] at hHeld
                have bX : Below wq.heap.size wq X := hX ▸ ext_drew (Below.refl _ _)
                clear hX
                refine wpAnyH_takeD (i := 1) (v := ?_) 79 rfl rfl (by kernel_rfl) (by kernel_rfl) (by kernel_rfl) (fun _ _ _ _ _ h => h) (by rfl) (by assumption) ?_ ?_
                rotate_left; focus (intro w hSw; (try dsimp only at hSw); go_simp; try (with_reducible rfl))
                try simp only [Act.put, List.setIfInBounds_toArray, List.set_cons_zero, List.set_cons_succ]
                refine wpAnyH_takeD (i := 2) (v := ?_) 80 rfl rfl (by kernel_rfl) (by kernel_rfl) (by kernel_rfl) (fun _ _ _ _ _ h => h) (by rfl) (by assumption) ?_ ?_
                rotate_left; focus (intro w hSw; (try dsimp only at hSw); go_simp; try (with_reducible rfl))
                try simp only [Act.put, List.setIfInBounds_toArray, List.set_cons_zero, List.set_cons_succ]
                refine wpAnyH_takeD (i := 3) (v := ?_) 81 rfl rfl (by kernel_rfl) (by kernel_rfl) (by kernel_rfl) (fun _ _ _ _ _ h => h) (by rfl) (by assumption) ?_ ?_
                rotate_left; focus (intro w hSw; (try dsimp only at hSw); go_simp; try (with_reducible rfl))
                try simp only [Act.put, List.setIfInBounds_toArray, List.set_cons_zero, List.set_cons_succ]
                refine wpAnyH_takeD (i := 5) (v := ?_) 83 rfl rfl (by kernel_rfl) (by kernel_rfl) (by kernel_rfl) (fun _ _ _ _ _ h => h) (by rfl) (by assumption) ?_ ?_
                rotate_left; focus (intro w hSw; (try dsimp only at hSw); go_simp; try (with_reducible rfl))
                try simp only [Act.put, List.setIfInBounds_toArray, List.set_cons_zero, List.set_cons_succ]
                refine wpAnyH_takeD (i := 8) (v := ?_) 86 rfl rfl (by kernel_rfl) (by kernel_rfl) (by kernel_rfl) (fun _ _ _ _ _ h => h) (by rfl) (by assumption) ?_ ?_
                rotate_left; focus (intro w hSw; (try dsimp only at hSw); go_simp; try (with_reducible rfl))
                try simp only [Act.put, List.setIfInBounds_toArray, List.set_cons_zero, List.set_cons_succ]
                refine wpAnyH_ready (rs := [0, 6]) (by kernel_rfl) (by simp) ?_
                refine AllReadyH.cons rfl (fun K hK => ?_) (AllReadyH.cons rfl (fun K hK => ?_) AllReadyH.nil)
                · go_simp
                  obtain ⟨Y, hY⟩ : ∃ Y, Y = World.alloc X (Obj.cells #[] 25) := ⟨_, rfl⟩
                  rw [← hY]
                  have bY : Below wq.heap.size wq Y := hY ▸ ext_alloc bX _
                  have a0 : Acc wq Y 25 5 (some ⟨X.heap.size, 0, none⟩) 0 0 [] := hY ▸ Acc.empty bX
                  clear hY
                  refine hK.out _ _ (by exact ⟨below_cell (by assumption) hx0, below_cell (by assumption) hx1, below_cell (by assumption) hx2, below_cell (by assumption) hx3, below_cell (by assumption) hx4⟩) (fun hHeld => ?_)
                  clear hK K; (try simp only [Act.put]); (try simp only [List.setIfInBounds_toArray]); (try simp only [List.set_cons_succ]); (try simp only [List.set_cons_zero])
                  refine wpAnyH_ready (rs := [4, 6]) (by kernel_rfl) (by simp) ?_
                  refine AllReadyH.cons rfl (fun K hK => ?_) (AllReadyH.cons rfl (fun K hK => ?_) AllReadyH.nil)
                  · refine appAcct_b_step rfl (.tmp 78) (.tmp 81) rfl rfl a0 rfl ((RQ.out.below (bY.mono hBq)).frontAcct hk) (by omega) ?_
                    intro A1 c1 Z a1 p1
                    have bZ := a1.ext
                    simp only [Nat.zero_add, List.nil_append] at a1
                    refine hK.out _ _ (by exact ⟨below_cell (by assumption) hx0, below_cell (by assumption) hx1, below_cell (by assumption) hx2, below_cell (by assumption) hx3, below_cell (by assumption) hx4⟩) (fun hHeld => ?_)
                    clear hK K; (try simp only [Act.put]); (try simp only [List.setIfInBounds_toArray]); (try simp only [List.set_cons_succ]); (try simp only [List.set_cons_zero])
                    try simp only [Nat.zero_add]
                    refine wpAnyH_ready (rs := [6]) (by kernel_rfl) (by simp) ?_
                    refine AllReadyH.cons rfl (fun K hK => ?_) AllReadyH.nil
                    go_simp
                    obtain ⟨T, hT⟩ : ∃ T, T = World.alloc Z (Obj.cells #[.int .i64 x.p, .int .i64 x.m, .int .i64 x.l, .int .i64 x.s, .int .i64 x.d] 25) := ⟨_, rfl⟩
                    rw [← hT]
                    have bT : Below wq.heap.size wq T := hT ▸ ext_alloc bZ _
                    have s1 := Side.new a1 #[.int .i64 x.p, .int .i64 x.m, .int .i64 x.l, .int .i64 x.s, .int .i64 x.d] 25 x.cs rfl rfl
                    rw [← hT] at s1
                    have a1 := a1.alloc (Obj.cells #[.int .i64 x.p, .int .i64 x.m, .int .i64 x.l, .int .i64 x.s, .int .i64 x.d] 25)
                    rw [← hT] at a1
                    clear hT
                    refine hK.out _ _ (by exact ⟨below_cell (by assumption) hx0, below_cell (by assumption) hx1, below_cell (by assumption) hx2, below_cell (by assumption) hx3, below_cell (by assumption) hx4⟩) (fun hHeld => ?_)
                    clear hK K; (try simp only [Act.put]); (try simp only [List.setIfInBounds_toArray]); (try simp only [List.set_cons_succ]); (try simp only [List.set_cons_zero])
                    refine wpAnyH_ready (rs := [7]) (by kernel_rfl) (by simp) ?_
                    refine AllReadyH.cons rfl (fun K hK => ?_) AllReadyH.nil
                    refine appAcct_b_step rfl (.tmp 82) (.tmp 84) rfl rfl a1 rfl s1.reads (by omega) ?_
                    intro A2 c2 V a2 p2
                    have bV := a2.ext
                    refine hK.out _ _ (by exact ⟨below_cell (by assumption) hx0, below_cell (by assumption) hx1, below_cell (by assumption) hx2, below_cell (by assumption) hx3, below_cell (by assumption) hx4⟩) (fun hHeld => ?_)
                    clear hK K; (try simp only [Act.put]); (try simp only [List.setIfInBounds_toArray]); (try simp only [List.set_cons_succ]); (try simp only [List.set_cons_zero])
                    refine wpAnyH_ready (rs := [9]) (by kernel_rfl) (by simp) ?_
                    refine AllReadyH.cons rfl (fun K hK => ?_) AllReadyH.nil
                    refine appAcct_b_step rfl (.tmp 85) (.tmp 86) rfl rfl a2 rfl (RR.out.below (bV.mono hBq)) (by omega) ?_
                    intro A3 c3 U a3 p3
                    have bU := a3.ext
                    refine hK.out _ _ (by exact ⟨below_cell (by assumption) hx0, below_cell (by assumption) hx1, below_cell (by assumption) hx2, below_cell (by assumption) hx3, below_cell (by assumption) hx4⟩) (fun hHeld => ?_)
                    clear hK K; (try simp only [Act.put]); (try simp only [List.setIfInBounds_toArray]); (try simp only [List.set_cons_succ]); (try simp only [List.set_cons_zero])
                    refine wpAnyH_takeD (i := 10) (v := ?_) 11 rfl rfl (by kernel_rfl) (by kernel_rfl) (by kernel_rfl) (fun _ _ _ _ _ h => h) (by rfl) (by assumption) ?_ ?_
                    rotate_left; focus (intro w hSw; (try dsimp only at hSw); go_simp; try (with_reducible rfl))
                    (try simp only [Act.put]); (try simp only [List.setIfInBounds_toArray]); (try simp only [List.set_cons_succ]); (try simp only [List.set_cons_zero])
                    refine wpAnyH_done (by kernel_rfl) ?_ _
                    simp only [List.append_assoc, List.cons_append, List.nil_append] at a3
                    have hfin : bookO p m xs = xs.take k ++ x :: ys := HI.out
                    have e3 : acctF (bookO p m xs) = acctF (xs.take k) ++ (x.cs ++ acctF ys) := by rw [hfin, acctF_app, acctF_cons]
                    have HN3 := Lib.hid (show Acc w U 25 5 A3 (k + 1 + rn) c3 (acctF (bookO p m xs)) by rw [e3]; simpa using a3.since HX0.out.ext)
                    have hn3 : k + 1 + rn ≤ 1048576 := by omega
                    clear a0 a1 a2 a3 s1 hHeld e3 hfin
                    go_wp2_with fail
                    refine (l14Good_any _ _ _ _ (bookO p m xs) _ HN3.out.reads (Nat.le_refl _) hn3).mono ?_
                    rintro e w9 ⟨rfl, hb9⟩
                    have O9 := Lib.hid (HN3.out.later hb9)
                    clear hb9
                    cases hgd : accsB (bookO p m xs)
                    · have HR := Lib.hid (show bookOk p m xs = false ∧ bookL p m xs = [] by unfold bookL bookOk; rw [hgd]; simp)
                      go_wp2
                      go_ret2
                      rw [HR.out.1, HR.out.2]
                      exact ⟨_, _, _, rfl, Acc.empty O9.out.ext⟩
                    · have HR := Lib.hid (show bookOk p m xs = true ∧ bookL p m xs = bookO p m xs by unfold bookL bookOk; rw [hgd, HAA.out]; simp)
                      go_wp2
                      go_ret2
                      rw [HR.out.1, HR.out.2]
                      exact ⟨_, _, _, rfl, O9.out⟩
                  · go_simp
                    obtain ⟨Z, hZ⟩ : ∃ Z, Z = World.alloc Y (Obj.cells #[.int .i64 x.p, .int .i64 x.m, .int .i64 x.l, .int .i64 x.s, .int .i64 x.d] 25) := ⟨_, rfl⟩
                    rw [← hZ]
                    have bZ : Below wq.heap.size wq Z := hZ ▸ ext_alloc bY _
                    have s1 := Side.new a0 #[.int .i64 x.p, .int .i64 x.m, .int .i64 x.l, .int .i64 x.s, .int .i64 x.d] 25 x.cs rfl rfl
                    rw [← hZ] at s1
                    have a0 := a0.alloc (Obj.cells #[.int .i64 x.p, .int .i64 x.m, .int .i64 x.l, .int .i64 x.s, .int .i64 x.d] 25)
                    rw [← hZ] at a0
                    clear hZ
                    refine hK.out _ _ (by exact ⟨below_cell (by assumption) hx0, below_cell (by assumption) hx1, below_cell (by assumption) hx2, below_cell (by assumption) hx3, below_cell (by assumption) hx4⟩) (fun hHeld => ?_)
                    clear hK K; (try simp only [Act.put]); (try simp only [List.setIfInBounds_toArray]); (try simp only [List.set_cons_succ]); (try simp only [List.set_cons_zero])
                    refine wpAnyH_ready (rs := [4]) (by kernel_rfl) (by simp) ?_
                    refine AllReadyH.cons rfl (fun K hK => ?_) AllReadyH.nil
                    refine appAcct_b_step rfl (.tmp 78) (.tmp 81) rfl rfl a0 rfl ((RQ.out.below (bZ.mono hBq)).frontAcct hk) (by omega) ?_
                    intro A1 c1 T a1 p1
                    have bT := a1.ext
                    simp only [Nat.zero_add, List.nil_append] at a1
                    have s1 := s1.pushed p1
                    refine hK.out _ _ (by exact ⟨below_cell (by assumption) hx0, below_cell (by assumption) hx1, below_cell (by assumption) hx2, below_cell (by assumption) hx3, below_cell (by assumption) hx4⟩) (fun hHeld => ?_)
                    clear hK K; (try simp only [Act.put]); (try simp only [List.setIfInBounds_toArray]); (try simp only [List.set_cons_succ]); (try simp only [List.set_cons_zero])
                    try simp only [Nat.zero_add]
                    refine wpAnyH_ready (rs := [7]) (by kernel_rfl) (by simp) ?_
                    refine AllReadyH.cons rfl (fun K hK => ?_) AllReadyH.nil
                    refine appAcct_b_step rfl (.tmp 82) (.tmp 84) rfl rfl a1 rfl s1.reads (by omega) ?_
                    intro A2 c2 V a2 p2
                    have bV := a2.ext
                    refine hK.out _ _ (by exact ⟨below_cell (by assumption) hx0, below_cell (by assumption) hx1, below_cell (by assumption) hx2, below_cell (by assumption) hx3, below_cell (by assumption) hx4⟩) (fun hHeld => ?_)
                    clear hK K; (try simp only [Act.put]); (try simp only [List.setIfInBounds_toArray]); (try simp only [List.set_cons_succ]); (try simp only [List.set_cons_zero])
                    refine wpAnyH_ready (rs := [9]) (by kernel_rfl) (by simp) ?_
                    refine AllReadyH.cons rfl (fun K hK => ?_) AllReadyH.nil
                    refine appAcct_b_step rfl (.tmp 85) (.tmp 86) rfl rfl a2 rfl (RR.out.below (bV.mono hBq)) (by omega) ?_
                    intro A3 c3 U a3 p3
                    have bU := a3.ext
                    refine hK.out _ _ (by exact ⟨below_cell (by assumption) hx0, below_cell (by assumption) hx1, below_cell (by assumption) hx2, below_cell (by assumption) hx3, below_cell (by assumption) hx4⟩) (fun hHeld => ?_)
                    clear hK K; (try simp only [Act.put]); (try simp only [List.setIfInBounds_toArray]); (try simp only [List.set_cons_succ]); (try simp only [List.set_cons_zero])
                    refine wpAnyH_takeD (i := 10) (v := ?_) 11 rfl rfl (by kernel_rfl) (by kernel_rfl) (by kernel_rfl) (fun _ _ _ _ _ h => h) (by rfl) (by assumption) ?_ ?_
                    rotate_left; focus (intro w hSw; (try dsimp only at hSw); go_simp; try (with_reducible rfl))
                    (try simp only [Act.put]); (try simp only [List.setIfInBounds_toArray]); (try simp only [List.set_cons_succ]); (try simp only [List.set_cons_zero])
                    refine wpAnyH_done (by kernel_rfl) ?_ _
                    simp only [List.append_assoc, List.cons_append, List.nil_append] at a3
                    have hfin : bookO p m xs = xs.take k ++ x :: ys := HI.out
                    have e3 : acctF (bookO p m xs) = acctF (xs.take k) ++ (x.cs ++ acctF ys) := by rw [hfin, acctF_app, acctF_cons]
                    have HN3 := Lib.hid (show Acc w U 25 5 A3 (k + 1 + rn) c3 (acctF (bookO p m xs)) by rw [e3]; simpa using a3.since HX0.out.ext)
                    have hn3 : k + 1 + rn ≤ 1048576 := by omega
                    clear a0 a1 a2 a3 s1 hHeld e3 hfin
                    go_wp2_with fail
                    refine (l14Good_any _ _ _ _ (bookO p m xs) _ HN3.out.reads (Nat.le_refl _) hn3).mono ?_
                    rintro e w9 ⟨rfl, hb9⟩
                    have O9 := Lib.hid (HN3.out.later hb9)
                    clear hb9
                    cases hgd : accsB (bookO p m xs)
                    · have HR := Lib.hid (show bookOk p m xs = false ∧ bookL p m xs = [] by unfold bookL bookOk; rw [hgd]; simp)
                      go_wp2
                      go_ret2
                      rw [HR.out.1, HR.out.2]
                      exact ⟨_, _, _, rfl, Acc.empty O9.out.ext⟩
                    · have HR := Lib.hid (show bookOk p m xs = true ∧ bookL p m xs = bookO p m xs by unfold bookL bookOk; rw [hgd, HAA.out]; simp)
                      go_wp2
                      go_ret2
                      rw [HR.out.1, HR.out.2]
                      exact ⟨_, _, _, rfl, O9.out⟩
                · go_simp
                  obtain ⟨Y, hY⟩ : ∃ Y, Y = World.alloc X (Obj.cells #[.int .i64 x.p, .int .i64 x.m, .int .i64 x.l, .int .i64 x.s, .int .i64 x.d] 25) := ⟨_, rfl⟩
                  rw [← hY]
                  have bY : Below wq.heap.size wq Y := hY ▸ ext_alloc bX _
                  have s1 := Side.new0 X 5 #[.int .i64 x.p, .int .i64 x.m, .int .i64 x.l, .int .i64 x.s, .int .i64 x.d] 25 x.cs rfl rfl
                  rw [← hY] at s1
                  clear hY
                  refine hK.out _ _ (by exact ⟨below_cell (by assumption) hx0, below_cell (by assumption) hx1, below_cell (by assumption) hx2, below_cell (by assumption) hx3, below_cell (by assumption) hx4⟩) (fun hHeld => ?_)
                  clear hK K; (try simp only [Act.put]); (try simp only [List.setIfInBounds_toArray]); (try simp only [List.set_cons_succ]); (try simp only [List.set_cons_zero])
                  refine wpAnyH_ready (rs := [0]) (by kernel_rfl) (by simp) ?_
                  refine AllReadyH.cons rfl (fun K hK => ?_) AllReadyH.nil
                  go_simp
                  obtain ⟨Z, hZ⟩ : ∃ Z, Z = World.alloc Y (Obj.cells #[] 25) := ⟨_, rfl⟩
                  rw [← hZ]
                  have bZ : Below wq.heap.size wq Z := hZ ▸ ext_alloc bY _
                  have a0 : Acc wq Z 25 5 (some ⟨Y.heap.size, 0, none⟩) 0 0 [] := hZ ▸ Acc.empty bY
                  have s1 := s1.row (Obj.cells #[] 25)
                  rw [← hZ] at s1
                  clear hZ
                  refine hK.out _ _ (by exact ⟨below_cell (by assumption) hx0, below_cell (by assumption) hx1, below_cell (by assumption) hx2, below_cell (by assumption) hx3, below_cell (by assumption) hx4⟩) (fun hHeld => ?_)
                  clear hK K; (try simp only [Act.put]); (try simp only [List.setIfInBounds_toArray]); (try simp only [List.set_cons_succ]); (try simp only [List.set_cons_zero])
                  refine wpAnyH_ready (rs := [4]) (by kernel_rfl) (by simp) ?_
                  refine AllReadyH.cons rfl (fun K hK => ?_) AllReadyH.nil
                  refine appAcct_b_step rfl (.tmp 78) (.tmp 81) rfl rfl a0 rfl ((RQ.out.below (bZ.mono hBq)).frontAcct hk) (by omega) ?_
                  intro A1 c1 T a1 p1
                  have bT := a1.ext
                  simp only [Nat.zero_add, List.nil_append] at a1
                  have s1 := s1.pushed p1
                  refine hK.out _ _ (by exact ⟨below_cell (by assumption) hx0, below_cell (by assumption) hx1, below_cell (by assumption) hx2, below_cell (by assumption) hx3, below_cell (by assumption) hx4⟩) (fun hHeld => ?_)
                  clear hK K; (try simp only [Act.put]); (try simp only [List.setIfInBounds_toArray]); (try simp only [List.set_cons_succ]); (try simp only [List.set_cons_zero])
                  try simp only [Nat.zero_add]
                  refine wpAnyH_ready (rs := [7]) (by kernel_rfl) (by simp) ?_
                  refine AllReadyH.cons rfl (fun K hK => ?_) AllReadyH.nil
                  refine appAcct_b_step rfl (.tmp 82) (.tmp 84) rfl rfl a1 rfl s1.reads (by omega) ?_
                  intro A2 c2 V a2 p2
                  have bV := a2.ext
                  refine hK.out _ _ (by exact ⟨below_cell (by assumption) hx0, below_cell (by assumption) hx1, below_cell (by assumption) hx2, below_cell (by assumption) hx3, below_cell (by assumption) hx4⟩) (fun hHeld => ?_)
                  clear hK K; (try simp only [Act.put]); (try simp only [List.setIfInBounds_toArray]); (try simp only [List.set_cons_succ]); (try simp only [List.set_cons_zero])
                  refine wpAnyH_ready (rs := [9]) (by kernel_rfl) (by simp) ?_
                  refine AllReadyH.cons rfl (fun K hK => ?_) AllReadyH.nil
                  refine appAcct_b_step rfl (.tmp 85) (.tmp 86) rfl rfl a2 rfl (RR.out.below (bV.mono hBq)) (by omega) ?_
                  intro A3 c3 U a3 p3
                  have bU := a3.ext
                  refine hK.out _ _ (by exact ⟨below_cell (by assumption) hx0, below_cell (by assumption) hx1, below_cell (by assumption) hx2, below_cell (by assumption) hx3, below_cell (by assumption) hx4⟩) (fun hHeld => ?_)
                  clear hK K; (try simp only [Act.put]); (try simp only [List.setIfInBounds_toArray]); (try simp only [List.set_cons_succ]); (try simp only [List.set_cons_zero])
                  refine wpAnyH_takeD (i := 10) (v := ?_) 11 rfl rfl (by kernel_rfl) (by kernel_rfl) (by kernel_rfl) (fun _ _ _ _ _ h => h) (by rfl) (by assumption) ?_ ?_
                  rotate_left; focus (intro w hSw; (try dsimp only at hSw); go_simp; try (with_reducible rfl))
                  (try simp only [Act.put]); (try simp only [List.setIfInBounds_toArray]); (try simp only [List.set_cons_succ]); (try simp only [List.set_cons_zero])
                  refine wpAnyH_done (by kernel_rfl) ?_ _
                  simp only [List.append_assoc, List.cons_append, List.nil_append] at a3
                  have hfin : bookO p m xs = xs.take k ++ x :: ys := HI.out
                  have e3 : acctF (bookO p m xs) = acctF (xs.take k) ++ (x.cs ++ acctF ys) := by rw [hfin, acctF_app, acctF_cons]
                  have HN3 := Lib.hid (show Acc w U 25 5 A3 (k + 1 + rn) c3 (acctF (bookO p m xs)) by rw [e3]; simpa using a3.since HX0.out.ext)
                  have hn3 : k + 1 + rn ≤ 1048576 := by omega
                  clear a0 a1 a2 a3 s1 hHeld e3 hfin
                  go_wp2_with fail
                  refine (l14Good_any _ _ _ _ (bookO p m xs) _ HN3.out.reads (Nat.le_refl _) hn3).mono ?_
                  rintro e w9 ⟨rfl, hb9⟩
                  have O9 := Lib.hid (HN3.out.later hb9)
                  clear hb9
                  cases hgd : accsB (bookO p m xs)
                  · have HR := Lib.hid (show bookOk p m xs = false ∧ bookL p m xs = [] by unfold bookL bookOk; rw [hgd]; simp)
                    go_wp2
                    go_ret2
                    rw [HR.out.1, HR.out.2]
                    exact ⟨_, _, _, rfl, Acc.empty O9.out.ext⟩
                  · have HR := Lib.hid (show bookOk p m xs = true ∧ bookL p m xs = bookO p m xs by unfold bookL bookOk; rw [hgd, HAA.out]; simp)
                    go_wp2
                    go_ret2
                    rw [HR.out.1, HR.out.2]
                    exact ⟨_, _, _, rfl, O9.out⟩
            · have hmb : (y.m == m) = false := by simp [hym]
              have HO := Lib.hid (book_new HPOS.out (fun z hz => by rw [HY.out] at hz; injection hz with hz; rw [← hz]; exact fun h => hym h.2))
              clear hyp hym hbf
              go_wp2
              obtain ⟨x, hxe⟩ : ∃ x : Acct, x = ⟨p, m, 1, s, 0⟩ := ⟨_, rfl⟩
              obtain ⟨wz, hwz⟩ : ∃ wz : World, wz = (World.setCell w4 ⟨gb, 2, none⟩ (.int .i64 (1))) := ⟨_, rfl⟩
              rw [← hwz]
              have HX9 := Lib.hid (show Acc w wz 25 5 (some ⟨gb, 0, none⟩) 1 1 x.cs by rw [hwz, hxe]; exact (HX4.out.set 2 (1)))
              have HI := Lib.hid (show bookO p m xs = xs.take k ++ x :: xs.drop k by rw [hxe]; rw [HO.out, HSB.out]; rfl)
              have RQ9 := Lib.hid (H.out.below (HX9.out.ext.mono hB))
              have hBq9 : B ≤ wz.heap.size := Nat.le_trans hB HX9.out.ext.size
              have RR := Lib.hid (show Reads wz B 5 _ (n - k) ((acctF (xs.drop k)).map (Value.int .i64)) from rest_all RQ9.out hlt hnc)
              clear hwz hxe HX4 HX0 RQ RQ4 hBq hx0 hx1 hx2 hx3 hx4 hd0 hd1 hd2 hd3 hd4 hfx0 hfx1 hfx2 hfx3 hfx4
              generalize hrn : n - k = rn at RR ⊢
              generalize (some ⟨b, o + k * 5, none⟩ : Option Addr) = RA at RR ⊢
              generalize hys : xs.drop k = ys at RR HI
              obtain ⟨wq, rfl⟩ : ∃ wq : World, wq = wz := ⟨_, rfl⟩
              have HX0 := HX9
              have RQ := RQ9
              have hBq : B ≤ wq.heap.size := hBq9
              clear HX9 RQ9 hBq9
              obtain ⟨hx0, _⟩ := HX0.out.cellAt (show x.cs[0]? = some x.p from rfl)
              obtain ⟨hx1, _⟩ := HX0.out.cellAt (show x.cs[1]? = some x.m from rfl)
              obtain ⟨hx2, _⟩ := HX0.out.cellAt (show x.cs[2]? = some x.l from rfl)
              obtain ⟨hx3, _⟩ := HX0.out.cellAt (show x.cs[3]? = some x.s from rfl)
              obtain ⟨hx4, _⟩ := HX0.out.cellAt (show x.cs[4]? = some x.d from rfl)
              refine wp_region_held_drew (S := (fun w' => w'.cell? ⟨gb, 0, none⟩ = some (.int .i64 x.p) ∧ w'.cell? ⟨gb, 1, none⟩ = some (.int .i64 x.m) ∧ w'.cell? ⟨gb, 2, none⟩ = some (.int .i64 x.l) ∧ w'.cell? ⟨gb, 3, none⟩ = some (.int .i64 x.s) ∧ w'.cell? ⟨gb, 4, none⟩ = some (.int .i64 x.d))) (by kernel_rfl) ?_ (fun hHeld => ?_)
              · exact ⟨hx0, hx1, hx2, hx3, hx4⟩
              obtain ⟨X, hX⟩ : ∃ X, X = World.drew wq := ⟨_, rfl⟩
              rw [← hX]
              try rw [← hX] at hHeld
              have bX : Below wq.heap.size wq X := hX ▸ ext_drew (Below.refl _ _)
              clear hX
              refine wpAnyH_takeD (i := 1) (v := ?_) 79 rfl rfl (by kernel_rfl) (by kernel_rfl) (by kernel_rfl) (fun _ _ _ _ _ h => h) (by rfl) (by assumption) ?_ ?_
              rotate_left; focus (intro w hSw; (try dsimp only at hSw); go_simp; try (with_reducible rfl))
              try simp only [Act.put, List.setIfInBounds_toArray, List.set_cons_zero, List.set_cons_succ]
              refine wpAnyH_takeD (i := 2) (v := ?_) 80 rfl rfl (by kernel_rfl) (by kernel_rfl) (by kernel_rfl) (fun _ _ _ _ _ h => h) (by rfl) (by assumption) ?_ ?_
              rotate_left; focus (intro w hSw; (try dsimp only at hSw); go_simp; try (with_reducible rfl))
              try simp only [Act.put, List.setIfInBounds_toArray, List.set_cons_zero, List.set_cons_succ]
              refine wpAnyH_takeD (i := 3) (v := ?_) 81 rfl rfl (by kernel_rfl) (by kernel_rfl) (by kernel_rfl) (fun _ _ _ _ _ h => h) (by rfl) (by assumption) ?_ ?_
              rotate_left; focus (intro w hSw; (try dsimp only at hSw); go_simp; try (with_reducible rfl))
              try simp only [Act.put, List.setIfInBounds_toArray, List.set_cons_zero, List.set_cons_succ]
              refine wpAnyH_takeD (i := 5) (v := ?_) 83 rfl rfl (by kernel_rfl) (by kernel_rfl) (by kernel_rfl) (fun _ _ _ _ _ h => h) (by rfl) (by assumption) ?_ ?_
              rotate_left; focus (intro w hSw; (try dsimp only at hSw); go_simp; try (with_reducible rfl))
              try simp only [Act.put, List.setIfInBounds_toArray, List.set_cons_zero, List.set_cons_succ]
              refine wpAnyH_takeD (i := 8) (v := ?_) 86 rfl rfl (by kernel_rfl) (by kernel_rfl) (by kernel_rfl) (fun _ _ _ _ _ h => h) (by rfl) (by assumption) ?_ ?_
              rotate_left; focus (intro w hSw; (try dsimp only at hSw); go_simp; try (with_reducible rfl))
              try simp only [Act.put, List.setIfInBounds_toArray, List.set_cons_zero, List.set_cons_succ]
              refine wpAnyH_ready (rs := [0, 6]) (by kernel_rfl) (by simp) ?_
              refine AllReadyH.cons rfl (fun K hK => ?_) (AllReadyH.cons rfl (fun K hK => ?_) AllReadyH.nil)
              · go_simp
                obtain ⟨Y, hY⟩ : ∃ Y, Y = World.alloc X (Obj.cells #[] 25) := ⟨_, rfl⟩
                rw [← hY]
                have bY : Below wq.heap.size wq Y := hY ▸ ext_alloc bX _
                have a0 : Acc wq Y 25 5 (some ⟨X.heap.size, 0, none⟩) 0 0 [] := hY ▸ Acc.empty bX
                clear hY
                refine hK.out _ _ (by exact ⟨below_cell (by assumption) hx0, below_cell (by assumption) hx1, below_cell (by assumption) hx2, below_cell (by assumption) hx3, below_cell (by assumption) hx4⟩) (fun hHeld => ?_)
                clear hK K; (try simp only [Act.put]); (try simp only [List.setIfInBounds_toArray]); (try simp only [List.set_cons_succ]); (try simp only [List.set_cons_zero])
                refine wpAnyH_ready (rs := [4, 6]) (by kernel_rfl) (by simp) ?_
                refine AllReadyH.cons rfl (fun K hK => ?_) (AllReadyH.cons rfl (fun K hK => ?_) AllReadyH.nil)
                · refine appAcct_b_step rfl (.tmp 78) (.tmp 81) rfl rfl a0 rfl ((RQ.out.below (bY.mono hBq)).frontAcct hk) (by omega) ?_
                  intro A1 c1 Z a1 p1
                  have bZ := a1.ext
                  simp only [Nat.zero_add, List.nil_append] at a1
                  refine hK.out _ _ (by exact ⟨below_cell (by assumption) hx0, below_cell (by assumption) hx1, below_cell (by assumption) hx2, below_cell (by assumption) hx3, below_cell (by assumption) hx4⟩) (fun hHeld => ?_)
                  clear hK K; (try simp only [Act.put]); (try simp only [List.setIfInBounds_toArray]); (try simp only [List.set_cons_succ]); (try simp only [List.set_cons_zero])
                  try simp only [Nat.zero_add]
                  refine wpAnyH_ready (rs := [6]) (by kernel_rfl) (by simp) ?_
                  refine AllReadyH.cons rfl (fun K hK => ?_) AllReadyH.nil
                  go_simp
                  obtain ⟨T, hT⟩ : ∃ T, T = World.alloc Z (Obj.cells #[.int .i64 x.p, .int .i64 x.m, .int .i64 x.l, .int .i64 x.s, .int .i64 x.d] 25) := ⟨_, rfl⟩
                  rw [← hT]
                  have bT : Below wq.heap.size wq T := hT ▸ ext_alloc bZ _
                  have s1 := Side.new a1 #[.int .i64 x.p, .int .i64 x.m, .int .i64 x.l, .int .i64 x.s, .int .i64 x.d] 25 x.cs rfl rfl
                  rw [← hT] at s1
                  have a1 := a1.alloc (Obj.cells #[.int .i64 x.p, .int .i64 x.m, .int .i64 x.l, .int .i64 x.s, .int .i64 x.d] 25)
                  rw [← hT] at a1
                  clear hT
                  refine hK.out _ _ (by exact ⟨below_cell (by assumption) hx0, below_cell (by assumption) hx1, below_cell (by assumption) hx2, below_cell (by assumption) hx3, below_cell (by assumption) hx4⟩) (fun hHeld => ?_)
                  clear hK K; (try simp only [Act.put]); (try simp only [List.setIfInBounds_toArray]); (try simp only [List.set_cons_succ]); (try simp only [List.set_cons_zero])
                  refine wpAnyH_ready (rs := [7]) (by kernel_rfl) (by simp) ?_
                  refine AllReadyH.cons rfl (fun K hK => ?_) AllReadyH.nil
                  refine appAcct_b_step rfl (.tmp 82) (.tmp 84) rfl rfl a1 rfl s1.reads (by omega) ?_
                  intro A2 c2 V a2 p2
                  have bV := a2.ext
                  refine hK.out _ _ (by exact ⟨below_cell (by assumption) hx0, below_cell (by assumption) hx1, below_cell (by assumption) hx2, below_cell (by assumption) hx3, below_cell (by assumption) hx4⟩) (fun hHeld => ?_)
                  clear hK K; (try simp only [Act.put]); (try simp only [List.setIfInBounds_toArray]); (try simp only [List.set_cons_succ]); (try simp only [List.set_cons_zero])
                  refine wpAnyH_ready (rs := [9]) (by kernel_rfl) (by simp) ?_
                  refine AllReadyH.cons rfl (fun K hK => ?_) AllReadyH.nil
                  refine appAcct_b_step rfl (.tmp 85) (.tmp 86) rfl rfl a2 rfl (RR.out.below (bV.mono hBq)) (by omega) ?_
                  intro A3 c3 U a3 p3
                  have bU := a3.ext
                  refine hK.out _ _ (by exact ⟨below_cell (by assumption) hx0, below_cell (by assumption) hx1, below_cell (by assumption) hx2, below_cell (by assumption) hx3, below_cell (by assumption) hx4⟩) (fun hHeld => ?_)
                  clear hK K; (try simp only [Act.put]); (try simp only [List.setIfInBounds_toArray]); (try simp only [List.set_cons_succ]); (try simp only [List.set_cons_zero])
                  refine wpAnyH_takeD (i := 10) (v := ?_) 11 rfl rfl (by kernel_rfl) (by kernel_rfl) (by kernel_rfl) (fun _ _ _ _ _ h => h) (by rfl) (by assumption) ?_ ?_
                  rotate_left; focus (intro w hSw; (try dsimp only at hSw); go_simp; try (with_reducible rfl))
                  (try simp only [Act.put]); (try simp only [List.setIfInBounds_toArray]); (try simp only [List.set_cons_succ]); (try simp only [List.set_cons_zero])
                  refine wpAnyH_done (by kernel_rfl) ?_ _
                  simp only [List.append_assoc, List.cons_append, List.nil_append] at a3
                  have hfin : bookO p m xs = xs.take k ++ x :: ys := HI.out
                  have e3 : acctF (bookO p m xs) = acctF (xs.take k) ++ (x.cs ++ acctF ys) := by rw [hfin, acctF_app, acctF_cons]
                  have HN3 := Lib.hid (show Acc w U 25 5 A3 (k + 1 + rn) c3 (acctF (bookO p m xs)) by rw [e3]; simpa using a3.since HX0.out.ext)
                  have hn3 : k + 1 + rn ≤ 1048576 := by omega
                  clear a0 a1 a2 a3 s1 hHeld e3 hfin
                  go_wp2_with fail
                  refine (l14Good_any _ _ _ _ (bookO p m xs) _ HN3.out.reads (Nat.le_refl _) hn3).mono ?_
                  rintro e w9 ⟨rfl, hb9⟩
                  have O9 := Lib.hid (HN3.out.later hb9)
                  clear hb9
                  cases hgd : accsB (bookO p m xs)
                  · have HR := Lib.hid (show bookOk p m xs = false ∧ bookL p m xs = [] by unfold bookL bookOk; rw [hgd]; simp)
                    go_wp2
                    go_ret2
                    rw [HR.out.1, HR.out.2]
                    exact ⟨_, _, _, rfl, Acc.empty O9.out.ext⟩
                  · have HR := Lib.hid (show bookOk p m xs = true ∧ bookL p m xs = bookO p m xs by unfold bookL bookOk; rw [hgd, HAA.out]; simp)
                    go_wp2
                    go_ret2
                    rw [HR.out.1, HR.out.2]
                    exact ⟨_, _, _, rfl, O9.out⟩
                · go_simp
                  obtain ⟨Z, hZ⟩ : ∃ Z, Z = World.alloc Y (Obj.cells #[.int .i64 x.p, .int .i64 x.m, .int .i64 x.l, .int .i64 x.s, .int .i64 x.d] 25) := ⟨_, rfl⟩
                  rw [← hZ]
                  have bZ : Below wq.heap.size wq Z := hZ ▸ ext_alloc bY _
                  have s1 := Side.new a0 #[.int .i64 x.p, .int .i64 x.m, .int .i64 x.l, .int .i64 x.s, .int .i64 x.d] 25 x.cs rfl rfl
                  rw [← hZ] at s1
                  have a0 := a0.alloc (Obj.cells #[.int .i64 x.p, .int .i64 x.m, .int .i64 x.l, .int .i64 x.s, .int .i64 x.d] 25)
                  rw [← hZ] at a0
                  clear hZ
                  refine hK.out _ _ (by exact ⟨below_cell (by assumption) hx0, below_cell (by assumption) hx1, below_cell (by assumption) hx2, below_cell (by assumption) hx3, below_cell (by assumption) hx4⟩) (fun hHeld => ?_)
                  clear hK K; (try simp only [Act.put]); (try simp only [List.setIfInBounds_toArray]); (try simp only [List.set_cons_succ]); (try simp only [List.set_cons_zero])
                  refine wpAnyH_ready (rs := [4]) (by kernel_rfl) (by simp) ?_
                  refine AllReadyH.cons rfl (fun K hK => ?_) AllReadyH.nil
                  refine appAcct_b_step rfl (.tmp 78) (.tmp 81) rfl rfl a0 rfl ((RQ.out.below (bZ.mono hBq)).frontAcct hk) (by omega) ?_
                  intro A1 c1 T a1 p1
                  have bT := a1.ext
                  simp only [Nat.zero_add, List.nil_append] at a1
                  have s1 := s1.pushed p1
                  refine hK.out _ _ (by exact ⟨below_cell (by assumption) hx0, below_cell (by assumption) hx1, below_cell (by assumption) hx2, below_cell (by assumption) hx3, below_cell (by assumption) hx4⟩) (fun hHeld => ?_)
                  clear hK K; (try simp only [Act.put]); (try simp only [List.setIfInBounds_toArray]); (try simp only [List.set_cons_succ]); (try simp only [List.set_cons_zero])
                  try simp only [Nat.zero_add]
                  refine wpAnyH_ready (rs := [7]) (by kernel_rfl) (by simp) ?_
                  refine AllReadyH.cons rfl (fun K hK => ?_) AllReadyH.nil
                  refine appAcct_b_step rfl (.tmp 82) (.tmp 84) rfl rfl a1 rfl s1.reads (by omega) ?_
                  intro A2 c2 V a2 p2
                  have bV := a2.ext
                  refine hK.out _ _ (by exact ⟨below_cell (by assumption) hx0, below_cell (by assumption) hx1, below_cell (by assumption) hx2, below_cell (by assumption) hx3, below_cell (by assumption) hx4⟩) (fun hHeld => ?_)
                  clear hK K; (try simp only [Act.put]); (try simp only [List.setIfInBounds_toArray]); (try simp only [List.set_cons_succ]); (try simp only [List.set_cons_zero])
                  refine wpAnyH_ready (rs := [9]) (by kernel_rfl) (by simp) ?_
                  refine AllReadyH.cons rfl (fun K hK => ?_) AllReadyH.nil
                  refine appAcct_b_step rfl (.tmp 85) (.tmp 86) rfl rfl a2 rfl (RR.out.below (bV.mono hBq)) (by omega) ?_
                  intro A3 c3 U a3 p3
                  have bU := a3.ext
                  refine hK.out _ _ (by exact ⟨below_cell (by assumption) hx0, below_cell (by assumption) hx1, below_cell (by assumption) hx2, below_cell (by assumption) hx3, below_cell (by assumption) hx4⟩) (fun hHeld => ?_)
                  clear hK K; (try simp only [Act.put]); (try simp only [List.setIfInBounds_toArray]); (try simp only [List.set_cons_succ]); (try simp only [List.set_cons_zero])
                  refine wpAnyH_takeD (i := 10) (v := ?_) 11 rfl rfl (by kernel_rfl) (by kernel_rfl) (by kernel_rfl) (fun _ _ _ _ _ h => h) (by rfl) (by assumption) ?_ ?_
                  rotate_left; focus (intro w hSw; (try dsimp only at hSw); go_simp; try (with_reducible rfl))
                  (try simp only [Act.put]); (try simp only [List.setIfInBounds_toArray]); (try simp only [List.set_cons_succ]); (try simp only [List.set_cons_zero])
                  refine wpAnyH_done (by kernel_rfl) ?_ _
                  simp only [List.append_assoc, List.cons_append, List.nil_append] at a3
                  have hfin : bookO p m xs = xs.take k ++ x :: ys := HI.out
                  have e3 : acctF (bookO p m xs) = acctF (xs.take k) ++ (x.cs ++ acctF ys) := by rw [hfin, acctF_app, acctF_cons]
                  have HN3 := Lib.hid (show Acc w U 25 5 A3 (k + 1 + rn) c3 (acctF (bookO p m xs)) by rw [e3]; simpa using a3.since HX0.out.ext)
                  have hn3 : k + 1 + rn ≤ 1048576 := by omega
                  clear a0 a1 a2 a3 s1 hHeld e3 hfin
                  go_wp2_with fail
                  refine (l14Good_any _ _ _ _ (bookO p m xs) _ HN3.out.reads (Nat.le_refl _) hn3).mono ?_
                  rintro e w9 ⟨rfl, hb9⟩
                  have O9 := Lib.hid (HN3.out.later hb9)
                  clear hb9
                  cases hgd : accsB (bookO p m xs)
                  · have HR := Lib.hid (show bookOk p m xs = false ∧ bookL p m xs = [] by unfold bookL bookOk; rw [hgd]; simp)
                    go_wp2
                    go_ret2
                    rw [HR.out.1, HR.out.2]
                    exact ⟨_, _, _, rfl, Acc.empty O9.out.ext⟩
                  · have HR := Lib.hid (show bookOk p m xs = true ∧ bookL p m xs = bookO p m xs by unfold bookL bookOk; rw [hgd, HAA.out]; simp)
                    go_wp2
                    go_ret2
                    rw [HR.out.1, HR.out.2]
                    exact ⟨_, _, _, rfl, O9.out⟩
              · go_simp
                obtain ⟨Y, hY⟩ : ∃ Y, Y = World.alloc X (Obj.cells #[.int .i64 x.p, .int .i64 x.m, .int .i64 x.l, .int .i64 x.s, .int .i64 x.d] 25) := ⟨_, rfl⟩
                rw [← hY]
                have bY : Below wq.heap.size wq Y := hY ▸ ext_alloc bX _
                have s1 := Side.new0 X 5 #[.int .i64 x.p, .int .i64 x.m, .int .i64 x.l, .int .i64 x.s, .int .i64 x.d] 25 x.cs rfl rfl
                rw [← hY] at s1
                clear hY
                refine hK.out _ _ (by exact ⟨below_cell (by assumption) hx0, below_cell (by assumption) hx1, below_cell (by assumption) hx2, below_cell (by assumption) hx3, below_cell (by assumption) hx4⟩) (fun hHeld => ?_)
                clear hK K; (try simp only [Act.put]); (try simp only [List.setIfInBounds_toArray]); (try simp only [List.set_cons_succ]); (try simp only [List.set_cons_zero])
                refine wpAnyH_ready (rs := [0]) (by kernel_rfl) (by simp) ?_
                refine AllReadyH.cons rfl (fun K hK => ?_) AllReadyH.nil
                go_simp
                obtain ⟨Z, hZ⟩ : ∃ Z, Z = World.alloc Y (Obj.cells #[] 25) := ⟨_, rfl⟩
                rw [← hZ]
                have bZ : Below wq.heap.size wq Z := hZ ▸ ext_alloc bY _
                have a0 : Acc wq Z 25 5 (some ⟨Y.heap.size, 0, none⟩) 0 0 [] := hZ ▸ Acc.empty bY
                have s1 := s1.row (Obj.cells #[] 25)
                rw [← hZ] at s1
                clear hZ
                refine hK.out _ _ (by exact ⟨below_cell (by assumption) hx0, below_cell (by assumption) hx1, below_cell (by assumption) hx2, below_cell (by assumption) hx3, below_cell (by assumption) hx4⟩) (fun hHeld => ?_)
                clear hK K; (try simp only [Act.put]); (try simp only [List.setIfInBounds_toArray]); (try simp only [List.set_cons_succ]); (try simp only [List.set_cons_zero])
                refine wpAnyH_ready (rs := [4]) (by kernel_rfl) (by simp) ?_
                refine AllReadyH.cons rfl (fun K hK => ?_) AllReadyH.nil
                refine appAcct_b_step rfl (.tmp 78) (.tmp 81) rfl rfl a0 rfl ((RQ.out.below (bZ.mono hBq)).frontAcct hk) (by omega) ?_
                intro A1 c1 T a1 p1
                have bT := a1.ext
                simp only [Nat.zero_add, List.nil_append] at a1
                have s1 := s1.pushed p1
                refine hK.out _ _ (by exact ⟨below_cell (by assumption) hx0, below_cell (by assumption) hx1, below_cell (by assumption) hx2, below_cell (by assumption) hx3, below_cell (by assumption) hx4⟩) (fun hHeld => ?_)
                clear hK K; (try simp only [Act.put]); (try simp only [List.setIfInBounds_toArray]); (try simp only [List.set_cons_succ]); (try simp only [List.set_cons_zero])
                try simp only [Nat.zero_add]
                refine wpAnyH_ready (rs := [7]) (by kernel_rfl) (by simp) ?_
                refine AllReadyH.cons rfl (fun K hK => ?_) AllReadyH.nil
                refine appAcct_b_step rfl (.tmp 82) (.tmp 84) rfl rfl a1 rfl s1.reads (by omega) ?_
                intro A2 c2 V a2 p2
                have bV := a2.ext
                refine hK.out _ _ (by exact ⟨below_cell (by assumption) hx0, below_cell (by assumption) hx1, below_cell (by assumption) hx2, below_cell (by assumption) hx3, below_cell (by assumption) hx4⟩) (fun hHeld => ?_)
                clear hK K; (try simp only [Act.put]); (try simp only [List.setIfInBounds_toArray]); (try simp only [List.set_cons_succ]); (try simp only [List.set_cons_zero])
                refine wpAnyH_ready (rs := [9]) (by kernel_rfl) (by simp) ?_
                refine AllReadyH.cons rfl (fun K hK => ?_) AllReadyH.nil
                refine appAcct_b_step rfl (.tmp 85) (.tmp 86) rfl rfl a2 rfl (RR.out.below (bV.mono hBq)) (by omega) ?_
                intro A3 c3 U a3 p3
                have bU := a3.ext
                refine hK.out _ _ (by exact ⟨below_cell (by assumption) hx0, below_cell (by assumption) hx1, below_cell (by assumption) hx2, below_cell (by assumption) hx3, below_cell (by assumption) hx4⟩) (fun hHeld => ?_)
                clear hK K; (try simp only [Act.put]); (try simp only [List.setIfInBounds_toArray]); (try simp only [List.set_cons_succ]); (try simp only [List.set_cons_zero])
                refine wpAnyH_takeD (i := 10) (v := ?_) 11 rfl rfl (by kernel_rfl) (by kernel_rfl) (by kernel_rfl) (fun _ _ _ _ _ h => h) (by rfl) (by assumption) ?_ ?_
                rotate_left; focus (intro w hSw; (try dsimp only at hSw); go_simp; try (with_reducible rfl))
                (try simp only [Act.put]); (try simp only [List.setIfInBounds_toArray]); (try simp only [List.set_cons_succ]); (try simp only [List.set_cons_zero])
                refine wpAnyH_done (by kernel_rfl) ?_ _
                simp only [List.append_assoc, List.cons_append, List.nil_append] at a3
                have hfin : bookO p m xs = xs.take k ++ x :: ys := HI.out
                have e3 : acctF (bookO p m xs) = acctF (xs.take k) ++ (x.cs ++ acctF ys) := by rw [hfin, acctF_app, acctF_cons]
                have HN3 := Lib.hid (show Acc w U 25 5 A3 (k + 1 + rn) c3 (acctF (bookO p m xs)) by rw [e3]; simpa using a3.since HX0.out.ext)
                have hn3 : k + 1 + rn ≤ 1048576 := by omega
                clear a0 a1 a2 a3 s1 hHeld e3 hfin
                go_wp2_with fail
                refine (l14Good_any _ _ _ _ (bookO p m xs) _ HN3.out.reads (Nat.le_refl _) hn3).mono ?_
                rintro e w9 ⟨rfl, hb9⟩
                have O9 := Lib.hid (HN3.out.later hb9)
                clear hb9
                cases hgd : accsB (bookO p m xs)
                · have HR := Lib.hid (show bookOk p m xs = false ∧ bookL p m xs = [] by unfold bookL bookOk; rw [hgd]; simp)
                  go_wp2
                  go_ret2
                  rw [HR.out.1, HR.out.2]
                  exact ⟨_, _, _, rfl, Acc.empty O9.out.ext⟩
                · have HR := Lib.hid (show bookOk p m xs = true ∧ bookL p m xs = bookO p m xs by unfold bookL bookOk; rw [hgd, HAA.out]; simp)
                  go_wp2
                  go_ret2
                  rw [HR.out.1, HR.out.2]
                  exact ⟨_, _, _, rfl, O9.out⟩
          · have hpb : (y.p == p) = false := by simp [hyp]
            have HO := Lib.hid (book_new HPOS.out (fun z hz => by rw [HY.out] at hz; injection hz with hz; rw [← hz]; exact fun h => hyp h.1))
            clear hyp hbf
            go_wp2
            obtain ⟨x, hxe⟩ : ∃ x : Acct, x = ⟨p, m, 1, s, 0⟩ := ⟨_, rfl⟩
            obtain ⟨wz, hwz⟩ : ∃ wz : World, wz = (World.setCell w4 ⟨gb, 2, none⟩ (.int .i64 (1))) := ⟨_, rfl⟩
            rw [← hwz]
            have HX9 := Lib.hid (show Acc w wz 25 5 (some ⟨gb, 0, none⟩) 1 1 x.cs by rw [hwz, hxe]; exact (HX4.out.set 2 (1)))
            have HI := Lib.hid (show bookO p m xs = xs.take k ++ x :: xs.drop k by rw [hxe]; rw [HO.out, HSB.out]; rfl)
            have RQ9 := Lib.hid (H.out.below (HX9.out.ext.mono hB))
            have hBq9 : B ≤ wz.heap.size := Nat.le_trans hB HX9.out.ext.size
            have RR := Lib.hid (show Reads wz B 5 _ (n - k) ((acctF (xs.drop k)).map (Value.int .i64)) from rest_all RQ9.out hlt hnc)
            clear hwz hxe HX4 HX0 RQ RQ4 hBq hx0 hx1 hx2 hx3 hx4 hd0 hd1 hd2 hd3 hd4 hfx0 hfx1 hfx2 hfx3 hfx4
            generalize hrn : n - k = rn at RR ⊢
            generalize (some ⟨b, o + k * 5, none⟩ : Option Addr) = RA at RR ⊢
            generalize hys : xs.drop k = ys at RR HI
            obtain ⟨wq, rfl⟩ : ∃ wq : World, wq = wz := ⟨_, rfl⟩
            have HX0 := HX9
            have RQ := RQ9
            have hBq : B ≤ wq.heap.size := hBq9
            clear HX9 RQ9 hBq9
            obtain ⟨hx0, _⟩ := HX0.out.cellAt (show x.cs[0]? = some x.p from rfl)
            obtain ⟨hx1, _⟩ := HX0.out.cellAt (show x.cs[1]? = some x.m from rfl)
            obtain ⟨hx2, _⟩ := HX0.out.cellAt (show x.cs[2]? = some x.l from rfl)
            obtain ⟨hx3, _⟩ := HX0.out.cellAt (show x.cs[3]? = some x.s from rfl)
            obtain ⟨hx4, _⟩ := HX0.out.cellAt (show x.cs[4]? = some x.d from rfl)
            refine wp_region_held_drew (S := (fun w' => w'.cell? ⟨gb, 0, none⟩ = some (.int .i64 x.p) ∧ w'.cell? ⟨gb, 1, none⟩ = some (.int .i64 x.m) ∧ w'.cell? ⟨gb, 2, none⟩ = some (.int .i64 x.l) ∧ w'.cell? ⟨gb, 3, none⟩ = some (.int .i64 x.s) ∧ w'.cell? ⟨gb, 4, none⟩ = some (.int .i64 x.d))) (by kernel_rfl) ?_ (fun hHeld => ?_)
            · exact ⟨hx0, hx1, hx2, hx3, hx4⟩
            obtain ⟨X, hX⟩ : ∃ X, X = World.drew wq := ⟨_, rfl⟩
            rw [← hX]
            try rw [← hX] at hHeld
            have bX : Below wq.heap.size wq X := hX ▸ ext_drew (Below.refl _ _)
            clear hX
            refine wpAnyH_takeD (i := 1) (v := ?_) 79 rfl rfl (by kernel_rfl) (by kernel_rfl) (by kernel_rfl) (fun _ _ _ _ _ h => h) (by rfl) (by assumption) ?_ ?_
            rotate_left; focus (intro w hSw; (try dsimp only at hSw); go_simp; try (with_reducible rfl))
            try simp only [Act.put, List.setIfInBounds_toArray, List.set_cons_zero, List.set_cons_succ]
            refine wpAnyH_takeD (i := 2) (v := ?_) 80 rfl rfl (by kernel_rfl) (by kernel_rfl) (by kernel_rfl) (fun _ _ _ _ _ h => h) (by rfl) (by assumption) ?_ ?_
            rotate_left; focus (intro w hSw; (try dsimp only at hSw); go_simp; try (with_reducible rfl))
            try simp only [Act.put, List.setIfInBounds_toArray, List.set_cons_zero, List.set_cons_succ]
            refine wpAnyH_takeD (i := 3) (v := ?_) 81 rfl rfl (by kernel_rfl) (by kernel_rfl) (by kernel_rfl) (fun _ _ _ _ _ h => h) (by rfl) (by assumption) ?_ ?_
            rotate_left; focus (intro w hSw; (try dsimp only at hSw); go_simp; try (with_reducible rfl))
            try simp only [Act.put, List.setIfInBounds_toArray, List.set_cons_zero, List.set_cons_succ]
            refine wpAnyH_takeD (i := 5) (v := ?_) 83 rfl rfl (by kernel_rfl) (by kernel_rfl) (by kernel_rfl) (fun _ _ _ _ _ h => h) (by rfl) (by assumption) ?_ ?_
            rotate_left; focus (intro w hSw; (try dsimp only at hSw); go_simp; try (with_reducible rfl))
            try simp only [Act.put, List.setIfInBounds_toArray, List.set_cons_zero, List.set_cons_succ]
            refine wpAnyH_takeD (i := 8) (v := ?_) 86 rfl rfl (by kernel_rfl) (by kernel_rfl) (by kernel_rfl) (fun _ _ _ _ _ h => h) (by rfl) (by assumption) ?_ ?_
            rotate_left; focus (intro w hSw; (try dsimp only at hSw); go_simp; try (with_reducible rfl))
            try simp only [Act.put, List.setIfInBounds_toArray, List.set_cons_zero, List.set_cons_succ]
            refine wpAnyH_ready (rs := [0, 6]) (by kernel_rfl) (by simp) ?_
            refine AllReadyH.cons rfl (fun K hK => ?_) (AllReadyH.cons rfl (fun K hK => ?_) AllReadyH.nil)
            · go_simp
              obtain ⟨Y, hY⟩ : ∃ Y, Y = World.alloc X (Obj.cells #[] 25) := ⟨_, rfl⟩
              rw [← hY]
              have bY : Below wq.heap.size wq Y := hY ▸ ext_alloc bX _
              have a0 : Acc wq Y 25 5 (some ⟨X.heap.size, 0, none⟩) 0 0 [] := hY ▸ Acc.empty bX
              clear hY
              refine hK.out _ _ (by exact ⟨below_cell (by assumption) hx0, below_cell (by assumption) hx1, below_cell (by assumption) hx2, below_cell (by assumption) hx3, below_cell (by assumption) hx4⟩) (fun hHeld => ?_)
              clear hK K; (try simp only [Act.put]); (try simp only [List.setIfInBounds_toArray]); (try simp only [List.set_cons_succ]); (try simp only [List.set_cons_zero])
              refine wpAnyH_ready (rs := [4, 6]) (by kernel_rfl) (by simp) ?_
              refine AllReadyH.cons rfl (fun K hK => ?_) (AllReadyH.cons rfl (fun K hK => ?_) AllReadyH.nil)
              · refine appAcct_b_step rfl (.tmp 78) (.tmp 81) rfl rfl a0 rfl ((RQ.out.below (bY.mono hBq)).frontAcct hk) (by omega) ?_
                intro A1 c1 Z a1 p1
                have bZ := a1.ext
                simp only [Nat.zero_add, List.nil_append] at a1
                refine hK.out _ _ (by exact ⟨below_cell (by assumption) hx0, below_cell (by assumption) hx1, below_cell (by assumption) hx2, below_cell (by assumption) hx3, below_cell (by assumption) hx4⟩) (fun hHeld => ?_)
                clear hK K; (try simp only [Act.put]); (try simp only [List.setIfInBounds_toArray]); (try simp only [List.set_cons_succ]); (try simp only [List.set_cons_zero])
                try simp only [Nat.zero_add]
                refine wpAnyH_ready (rs := [6]) (by kernel_rfl) (by simp) ?_
                refine AllReadyH.cons rfl (fun K hK => ?_) AllReadyH.nil
                go_simp
                obtain ⟨T, hT⟩ : ∃ T, T = World.alloc Z (Obj.cells #[.int .i64 x.p, .int .i64 x.m, .int .i64 x.l, .int .i64 x.s, .int .i64 x.d] 25) := ⟨_, rfl⟩
                rw [← hT]
                have bT : Below wq.heap.size wq T := hT ▸ ext_alloc bZ _
                have s1 := Side.new a1 #[.int .i64 x.p, .int .i64 x.m, .int .i64 x.l, .int .i64 x.s, .int .i64 x.d] 25 x.cs rfl rfl
                rw [← hT] at s1
                have a1 := a1.alloc (Obj.cells #[.int .i64 x.p, .int .i64 x.m, .int .i64 x.l, .int .i64 x.s, .int .i64 x.d] 25)
                rw [← hT] at a1
                clear hT
                refine hK.out _ _ (by exact ⟨below_cell (by assumption) hx0, below_cell (by assumption) hx1, below_cell (by assumption) hx2, below_cell (by assumption) hx3, below_cell (by assumption) hx4⟩) (fun hHeld => ?_)
                clear hK K; (try simp only [Act.put]); (try simp only [List.setIfInBounds_toArray]); (try simp only [List.set_cons_succ]); (try simp only [List.set_cons_zero])
                refine wpAnyH_ready (rs := [7]) (by kernel_rfl) (by simp) ?_
                refine AllReadyH.cons rfl (fun K hK => ?_) AllReadyH.nil
                refine appAcct_b_step rfl (.tmp 82) (.tmp 84) rfl rfl a1 rfl s1.reads (by omega) ?_
                intro A2 c2 V a2 p2
                have bV := a2.ext
                refine hK.out _ _ (by exact ⟨below_cell (by assumption) hx0, below_cell (by assumption) hx1, below_cell (by assumption) hx2, below_cell (by assumption) hx3, below_cell (by assumption) hx4⟩) (fun hHeld => ?_)
                clear hK K; (try simp only [Act.put]); (try simp only [List.setIfInBounds_toArray]); (try simp only [List.set_cons_succ]); (try simp only [List.set_cons_zero])
                refine wpAnyH_ready (rs := [9]) (by kernel_rfl) (by simp) ?_
                refine AllReadyH.cons rfl (fun K hK => ?_) AllReadyH.nil
                refine appAcct_b_step rfl (.tmp 85) (.tmp 86) rfl rfl a2 rfl (RR.out.below (bV.mono hBq)) (by omega) ?_
                intro A3 c3 U a3 p3
                have bU := a3.ext
                refine hK.out _ _ (by exact ⟨below_cell (by assumption) hx0, below_cell (by assumption) hx1, below_cell (by assumption) hx2, below_cell (by assumption) hx3, below_cell (by assumption) hx4⟩) (fun hHeld => ?_)
                clear hK K; (try simp only [Act.put]); (try simp only [List.setIfInBounds_toArray]); (try simp only [List.set_cons_succ]); (try simp only [List.set_cons_zero])
                refine wpAnyH_takeD (i := 10) (v := ?_) 11 rfl rfl (by kernel_rfl) (by kernel_rfl) (by kernel_rfl) (fun _ _ _ _ _ h => h) (by rfl) (by assumption) ?_ ?_
                rotate_left; focus (intro w hSw; (try dsimp only at hSw); go_simp; try (with_reducible rfl))
                (try simp only [Act.put]); (try simp only [List.setIfInBounds_toArray]); (try simp only [List.set_cons_succ]); (try simp only [List.set_cons_zero])
                refine wpAnyH_done (by kernel_rfl) ?_ _
                simp only [List.append_assoc, List.cons_append, List.nil_append] at a3
                have hfin : bookO p m xs = xs.take k ++ x :: ys := HI.out
                have e3 : acctF (bookO p m xs) = acctF (xs.take k) ++ (x.cs ++ acctF ys) := by rw [hfin, acctF_app, acctF_cons]
                have HN3 := Lib.hid (show Acc w U 25 5 A3 (k + 1 + rn) c3 (acctF (bookO p m xs)) by rw [e3]; simpa using a3.since HX0.out.ext)
                have hn3 : k + 1 + rn ≤ 1048576 := by omega
                clear a0 a1 a2 a3 s1 hHeld e3 hfin
                go_wp2_with fail
                refine (l14Good_any _ _ _ _ (bookO p m xs) _ HN3.out.reads (Nat.le_refl _) hn3).mono ?_
                rintro e w9 ⟨rfl, hb9⟩
                have O9 := Lib.hid (HN3.out.later hb9)
                clear hb9
                cases hgd : accsB (bookO p m xs)
                · have HR := Lib.hid (show bookOk p m xs = false ∧ bookL p m xs = [] by unfold bookL bookOk; rw [hgd]; simp)
                  go_wp2
                  go_ret2
                  rw [HR.out.1, HR.out.2]
                  exact ⟨_, _, _, rfl, Acc.empty O9.out.ext⟩
                · have HR := Lib.hid (show bookOk p m xs = true ∧ bookL p m xs = bookO p m xs by unfold bookL bookOk; rw [hgd, HAA.out]; simp)
                  go_wp2
                  go_ret2
                  rw [HR.out.1, HR.out.2]
                  exact ⟨_, _, _, rfl, O9.out⟩
              · go_simp
                obtain ⟨Z, hZ⟩ : ∃ Z, Z = World.alloc Y (Obj.cells #[.int .i64 x.p, .int .i64 x.m, .int .i64 x.l, .int .i64 x.s, .int .i64 x.d] 25) := ⟨_, rfl⟩
                rw [← hZ]
                have bZ : Below wq.heap.size wq Z := hZ ▸ ext_alloc bY _
                have s1 := Side.new a0 #[.int .i64 x.p, .int .i64 x.m, .int .i64 x.l, .int .i64 x.s, .int .i64 x.d] 25 x.cs rfl rfl
                rw [← hZ] at s1
                have a0 := a0.alloc (Obj.cells #[.int .i64 x.p, .int .i64 x.m, .int .i64 x.l, .int .i64 x.s, .int .i64 x.d] 25)
                rw [← hZ] at a0
                clear hZ
                refine hK.out _ _ (by exact ⟨below_cell (by assumption) hx0, below_cell (by assumption) hx1, below_cell (by assumption) hx2, below_cell (by assumption) hx3, below_cell (by assumption) hx4⟩) (fun hHeld => ?_)
                clear hK K; (try simp only [Act.put]); (try simp only [List.setIfInBounds_toArray]); (try simp only [List.set_cons_succ]); (try simp only [List.set_cons_zero])
                refine wpAnyH_ready (rs := [4]) (by kernel_rfl) (by simp) ?_
                refine AllReadyH.cons rfl (fun K hK => ?_) AllReadyH.nil
                refine appAcct_b_step rfl (.tmp 78) (.tmp 81) rfl rfl a0 rfl ((RQ.out.below (bZ.mono hBq)).frontAcct hk) (by omega) ?_
                intro A1 c1 T a1 p1
                have bT := a1.ext
                simp only [Nat.zero_add, List.nil_append] at a1
                have s1 := s1.pushed p1
                refine hK.out _ _ (by exact ⟨below_cell (by assumption) hx0, below_cell (by assumption) hx1, below_cell (by assumption) hx2, below_cell (by assumption) hx3, below_cell (by assumption) hx4⟩) (fun hHeld => ?_)
                clear hK K; (try simp only [Act.put]); (try simp only [List.setIfInBounds_toArray]); (try simp only [List.set_cons_succ]); (try simp only [List.set_cons_zero])
                try simp only [Nat.zero_add]
                refine wpAnyH_ready (rs := [7]) (by kernel_rfl) (by simp) ?_
                refine AllReadyH.cons rfl (fun K hK => ?_) AllReadyH.nil
                refine appAcct_b_step rfl (.tmp 82) (.tmp 84) rfl rfl a1 rfl s1.reads (by omega) ?_
                intro A2 c2 V a2 p2
                have bV := a2.ext
                refine hK.out _ _ (by exact ⟨below_cell (by assumption) hx0, below_cell (by assumption) hx1, below_cell (by assumption) hx2, below_cell (by assumption) hx3, below_cell (by assumption) hx4⟩) (fun hHeld => ?_)
                clear hK K; (try simp only [Act.put]); (try simp only [List.setIfInBounds_toArray]); (try simp only [List.set_cons_succ]); (try simp only [List.set_cons_zero])
                refine wpAnyH_ready (rs := [9]) (by kernel_rfl) (by simp) ?_
                refine AllReadyH.cons rfl (fun K hK => ?_) AllReadyH.nil
                refine appAcct_b_step rfl (.tmp 85) (.tmp 86) rfl rfl a2 rfl (RR.out.below (bV.mono hBq)) (by omega) ?_
                intro A3 c3 U a3 p3
                have bU := a3.ext
                refine hK.out _ _ (by exact ⟨below_cell (by assumption) hx0, below_cell (by assumption) hx1, below_cell (by assumption) hx2, below_cell (by assumption) hx3, below_cell (by assumption) hx4⟩) (fun hHeld => ?_)
                clear hK K; (try simp only [Act.put]); (try simp only [List.setIfInBounds_toArray]); (try simp only [List.set_cons_succ]); (try simp only [List.set_cons_zero])
                refine wpAnyH_takeD (i := 10) (v := ?_) 11 rfl rfl (by kernel_rfl) (by kernel_rfl) (by kernel_rfl) (fun _ _ _ _ _ h => h) (by rfl) (by assumption) ?_ ?_
                rotate_left; focus (intro w hSw; (try dsimp only at hSw); go_simp; try (with_reducible rfl))
                (try simp only [Act.put]); (try simp only [List.setIfInBounds_toArray]); (try simp only [List.set_cons_succ]); (try simp only [List.set_cons_zero])
                refine wpAnyH_done (by kernel_rfl) ?_ _
                simp only [List.append_assoc, List.cons_append, List.nil_append] at a3
                have hfin : bookO p m xs = xs.take k ++ x :: ys := HI.out
                have e3 : acctF (bookO p m xs) = acctF (xs.take k) ++ (x.cs ++ acctF ys) := by rw [hfin, acctF_app, acctF_cons]
                have HN3 := Lib.hid (show Acc w U 25 5 A3 (k + 1 + rn) c3 (acctF (bookO p m xs)) by rw [e3]; simpa using a3.since HX0.out.ext)
                have hn3 : k + 1 + rn ≤ 1048576 := by omega
                clear a0 a1 a2 a3 s1 hHeld e3 hfin
                go_wp2_with fail
                refine (l14Good_any _ _ _ _ (bookO p m xs) _ HN3.out.reads (Nat.le_refl _) hn3).mono ?_
                rintro e w9 ⟨rfl, hb9⟩
                have O9 := Lib.hid (HN3.out.later hb9)
                clear hb9
                cases hgd : accsB (bookO p m xs)
                · have HR := Lib.hid (show bookOk p m xs = false ∧ bookL p m xs = [] by unfold bookL bookOk; rw [hgd]; simp)
                  go_wp2
                  go_ret2
                  rw [HR.out.1, HR.out.2]
                  exact ⟨_, _, _, rfl, Acc.empty O9.out.ext⟩
                · have HR := Lib.hid (show bookOk p m xs = true ∧ bookL p m xs = bookO p m xs by unfold bookL bookOk; rw [hgd, HAA.out]; simp)
                  go_wp2
                  go_ret2
                  rw [HR.out.1, HR.out.2]
                  exact ⟨_, _, _, rfl, O9.out⟩
            · go_simp
              obtain ⟨Y, hY⟩ : ∃ Y, Y = World.alloc X (Obj.cells #[.int .i64 x.p, .int .i64 x.m, .int .i64 x.l, .int .i64 x.s, .int .i64 x.d] 25) := ⟨_, rfl⟩
              rw [← hY]
              have bY : Below wq.heap.size wq Y := hY ▸ ext_alloc bX _
              have s1 := Side.new0 X 5 #[.int .i64 x.p, .int .i64 x.m, .int .i64 x.l, .int .i64 x.s, .int .i64 x.d] 25 x.cs rfl rfl
              rw [← hY] at s1
              clear hY
              refine hK.out _ _ (by exact ⟨below_cell (by assumption) hx0, below_cell (by assumption) hx1, below_cell (by assumption) hx2, below_cell (by assumption) hx3, below_cell (by assumption) hx4⟩) (fun hHeld => ?_)
              clear hK K; (try simp only [Act.put]); (try simp only [List.setIfInBounds_toArray]); (try simp only [List.set_cons_succ]); (try simp only [List.set_cons_zero])
              refine wpAnyH_ready (rs := [0]) (by kernel_rfl) (by simp) ?_
              refine AllReadyH.cons rfl (fun K hK => ?_) AllReadyH.nil
              go_simp
              obtain ⟨Z, hZ⟩ : ∃ Z, Z = World.alloc Y (Obj.cells #[] 25) := ⟨_, rfl⟩
              rw [← hZ]
              have bZ : Below wq.heap.size wq Z := hZ ▸ ext_alloc bY _
              have a0 : Acc wq Z 25 5 (some ⟨Y.heap.size, 0, none⟩) 0 0 [] := hZ ▸ Acc.empty bY
              have s1 := s1.row (Obj.cells #[] 25)
              rw [← hZ] at s1
              clear hZ
              refine hK.out _ _ (by exact ⟨below_cell (by assumption) hx0, below_cell (by assumption) hx1, below_cell (by assumption) hx2, below_cell (by assumption) hx3, below_cell (by assumption) hx4⟩) (fun hHeld => ?_)
              clear hK K; (try simp only [Act.put]); (try simp only [List.setIfInBounds_toArray]); (try simp only [List.set_cons_succ]); (try simp only [List.set_cons_zero])
              refine wpAnyH_ready (rs := [4]) (by kernel_rfl) (by simp) ?_
              refine AllReadyH.cons rfl (fun K hK => ?_) AllReadyH.nil
              refine appAcct_b_step rfl (.tmp 78) (.tmp 81) rfl rfl a0 rfl ((RQ.out.below (bZ.mono hBq)).frontAcct hk) (by omega) ?_
              intro A1 c1 T a1 p1
              have bT := a1.ext
              simp only [Nat.zero_add, List.nil_append] at a1
              have s1 := s1.pushed p1
              refine hK.out _ _ (by exact ⟨below_cell (by assumption) hx0, below_cell (by assumption) hx1, below_cell (by assumption) hx2, below_cell (by assumption) hx3, below_cell (by assumption) hx4⟩) (fun hHeld => ?_)
              clear hK K; (try simp only [Act.put]); (try simp only [List.setIfInBounds_toArray]); (try simp only [List.set_cons_succ]); (try simp only [List.set_cons_zero])
              try simp only [Nat.zero_add]
              refine wpAnyH_ready (rs := [7]) (by kernel_rfl) (by simp) ?_
              refine AllReadyH.cons rfl (fun K hK => ?_) AllReadyH.nil
              refine appAcct_b_step rfl (.tmp 82) (.tmp 84) rfl rfl a1 rfl s1.reads (by omega) ?_
              intro A2 c2 V a2 p2
              have bV := a2.ext
              refine hK.out _ _ (by exact ⟨below_cell (by assumption) hx0, below_cell (by assumption) hx1, below_cell (by assumption) hx2, below_cell (by assumption) hx3, below_cell (by assumption) hx4⟩) (fun hHeld => ?_)
              clear hK K; (try simp only [Act.put]); (try simp only [List.setIfInBounds_toArray]); (try simp only [List.set_cons_succ]); (try simp only [List.set_cons_zero])
              refine wpAnyH_ready (rs := [9]) (by kernel_rfl) (by simp) ?_
              refine AllReadyH.cons rfl (fun K hK => ?_) AllReadyH.nil
              refine appAcct_b_step rfl (.tmp 85) (.tmp 86) rfl rfl a2 rfl (RR.out.below (bV.mono hBq)) (by omega) ?_
              intro A3 c3 U a3 p3
              have bU := a3.ext
              refine hK.out _ _ (by exact ⟨below_cell (by assumption) hx0, below_cell (by assumption) hx1, below_cell (by assumption) hx2, below_cell (by assumption) hx3, below_cell (by assumption) hx4⟩) (fun hHeld => ?_)
              clear hK K; (try simp only [Act.put]); (try simp only [List.setIfInBounds_toArray]); (try simp only [List.set_cons_succ]); (try simp only [List.set_cons_zero])
              refine wpAnyH_takeD (i := 10) (v := ?_) 11 rfl rfl (by kernel_rfl) (by kernel_rfl) (by kernel_rfl) (fun _ _ _ _ _ h => h) (by rfl) (by assumption) ?_ ?_
              rotate_left; focus (intro w hSw; (try dsimp only at hSw); go_simp; try (with_reducible rfl))
              (try simp only [Act.put]); (try simp only [List.setIfInBounds_toArray]); (try simp only [List.set_cons_succ]); (try simp only [List.set_cons_zero])
              refine wpAnyH_done (by kernel_rfl) ?_ _
              simp only [List.append_assoc, List.cons_append, List.nil_append] at a3
              have hfin : bookO p m xs = xs.take k ++ x :: ys := HI.out
              have e3 : acctF (bookO p m xs) = acctF (xs.take k) ++ (x.cs ++ acctF ys) := by rw [hfin, acctF_app, acctF_cons]
              have HN3 := Lib.hid (show Acc w U 25 5 A3 (k + 1 + rn) c3 (acctF (bookO p m xs)) by rw [e3]; simpa using a3.since HX0.out.ext)
              have hn3 : k + 1 + rn ≤ 1048576 := by omega
              clear a0 a1 a2 a3 s1 hHeld e3 hfin
              go_wp2_with fail
              refine (l14Good_any _ _ _ _ (bookO p m xs) _ HN3.out.reads (Nat.le_refl _) hn3).mono ?_
              rintro e w9 ⟨rfl, hb9⟩
              have O9 := Lib.hid (HN3.out.later hb9)
              clear hb9
              cases hgd : accsB (bookO p m xs)
              · have HR := Lib.hid (show bookOk p m xs = false ∧ bookL p m xs = [] by unfold bookL bookOk; rw [hgd]; simp)
                go_wp2
                go_ret2
                rw [HR.out.1, HR.out.2]
                exact ⟨_, _, _, rfl, Acc.empty O9.out.ext⟩
              · have HR := Lib.hid (show bookOk p m xs = true ∧ bookL p m xs = bookO p m xs by unfold bookL bookOk; rw [hgd, HAA.out]; simp)
                go_wp2
                go_ret2
                rw [HR.out.1, HR.out.2]
                exact ⟨_, _, _, rfl, O9.out⟩
        · have HN := Lib.hid hbf
          go_wp2_with fail
          refine (l14Before_v y p m hbf _).mono ?_
          rintro e w4 ⟨rfl, hb4⟩
          have HX4 := Lib.hid (HX0.out.later hb4)
          have hd0 := below_cell hb4 hc0
          have hd3 := below_cell hb4 hc3
          have hgne : b ≠ gb := by
            obtain ⟨ad, e, hlt, _⟩ := H.out.2 (by omega)
            injection e with e
            subst e
            exact Nat.ne_of_lt (Nat.lt_of_lt_of_le hlt hgB)
          have HST := Lib.hid (sib_step HAA.out HY.out hbf HSB.out)
          clear hb4 hc0 hc1 hc2 hc3 hc4 hx0 hx1 hx2 hx3 hx4 hfx0 hfx1 hfx2 hfx3 hfx4
          obtain ⟨hx3, hf3⟩ := HX4.out.cellAt (show ([p, m, 0, s, 0] : List Int)[3]? = some s from rfl)
          have HNX := fun (h : ∀ (i : Nat) (x : Acct), i < k + 1 → xs[i]? = some x → befB x.p x.m p m = true) => h
          by_cases hyp : y.p = p
          · have HE := Lib.hid (show y.s = sibV p xs (k + 1) by rw [← HST.out, if_pos hyp])
            have HS4 := Lib.hid (HX4.out.set 3 y.s)
            have hpb : (y.p == p) = true := by simp [hyp]
            clear hyp HNX
            go_wp2
            go_roundw
            case rel => exact ⟨k + 1, y.s, by go_num, by omega, fun i x hi hx => by
              rcases Nat.lt_or_ge i k with h | h
              · exact HH.out i x h hx
              · obtain rfl : i = k := by omega
                rw [HY.out] at hx; injection hx with hx; rw [← hx]; exact HN.out, HE.out, HS4.out⟩
            case measure => simp [intOf]; omega
          · have HE := Lib.hid (show s = sibV p xs (k + 1) by rw [← HST.out, if_neg hyp])
            have hpb : (y.p == p) = false := by simp [hyp]
            clear hyp HNX
            go_wp2
            go_roundw
            case rel => exact ⟨k + 1, s, by go_num, by omega, fun i x hi hx => by
              rcases Nat.lt_or_ge i k with h | h
              · exact HH.out i x h hx
              · obtain rfl : i = k := by omega
                rw [HY.out] at hx; injection hx with hx; rw [← hx]; exact HN.out, HE.out, HX4.out⟩
            case measure => simp [intOf]; omega
      · obtain rfl : k = n := by omega
        have HPOS := Lib.hid (posB_stop HH.out (fun z hz => by have := (List.getElem?_eq_some_iff.1 hz).1; have := HL.out; omega) (by rw [HL.out]; exact hk))
        have HO := Lib.hid (book_new HPOS.out (fun z hz => by have := (List.getElem?_eq_some_iff.1 hz).1; have := HL.out; omega))
        have e9 : decide (k < k) = false := by simp
        have hd0 := (); have hd1 := (); have hd2 := (); have hd3 := (); have hd4 := (); have HX4 := (); have RQ4 := ()
        by_cases hck : c = k
        · go_wp2
          obtain ⟨x, hxe⟩ : ∃ x : Acct, x = ⟨p, m, 1, s, 0⟩ := ⟨_, rfl⟩
          obtain ⟨wz, hwz⟩ : ∃ wz : World, wz = (World.setCell wq ⟨gb, 2, none⟩ (.int .i64 (1))) := ⟨_, rfl⟩
          rw [← hwz]
          have HX9 := Lib.hid (show Acc w wz 25 5 (some ⟨gb, 0, none⟩) 1 1 x.cs by rw [hwz, hxe]; exact (HX0.out.set 2 (1)))
          have HI := Lib.hid (show bookO p m xs = xs.take k ++ x :: xs.drop k by rw [hxe]; rw [HO.out, HSB.out]; rfl)
          have RQ9 := Lib.hid (H.out.below (HX9.out.ext.mono hB))
          have hBq9 : B ≤ wz.heap.size := Nat.le_trans hB HX9.out.ext.size
          have RR := Lib.hid (show Reads wz B 5 _ (0) ((acctF (xs.drop k)).map (Value.int .i64)) from reads_zero (A := A) (by rw [List.length_drop, HL.out]; omega))
          clear hwz hxe HX4 HX0 RQ RQ4 hBq hx0 hx1 hx2 hx3 hx4 hd0 hd1 hd2 hd3 hd4 hfx0 hfx1 hfx2 hfx3 hfx4
          generalize hys : xs.drop k = ys at RR HI
          obtain ⟨wq, rfl⟩ : ∃ wq : World, wq = wz := ⟨_, rfl⟩
          have HX0 := HX9
          have RQ := RQ9
          have hBq : B ≤ wq.heap.size := hBq9
          clear HX9 RQ9 hBq9
          obtain ⟨hx0, _⟩ := HX0.out.cellAt (show x.cs[0]? = some x.p from rfl)
          obtain ⟨hx1, _⟩ := HX0.out.cellAt (show x.cs[1]? = some x.m from rfl)
          obtain ⟨hx2, _⟩ := HX0.out.cellAt (show x.cs[2]? = some x.l from rfl)
          obtain ⟨hx3, _⟩ := HX0.out.cellAt (show x.cs[3]? = some x.s from rfl)
          obtain ⟨hx4, _⟩ := HX0.out.cellAt (show x.cs[4]? = some x.d from rfl)
          refine wp_region_held_drew (S := (fun w' => w'.cell? ⟨gb, 0, none⟩ = some (.int .i64 x.p) ∧ w'.cell? ⟨gb, 1, none⟩ = some (.int .i64 x.m) ∧ w'.cell? ⟨gb, 2, none⟩ = some (.int .i64 x.l) ∧ w'.cell? ⟨gb, 3, none⟩ = some (.int .i64 x.s) ∧ w'.cell? ⟨gb, 4, none⟩ = some (.int .i64 x.d))) (by kernel_rfl) ?_ (fun hHeld => ?_)
          · exact ⟨hx0, hx1, hx2, hx3, hx4⟩
          obtain ⟨X, hX⟩ : ∃ X, X = World.drew wq := ⟨_, rfl⟩
          rw [← hX]
          try rw [← hX] at hHeld
          have bX : Below wq.heap.size wq X := hX ▸ ext_drew (Below.refl _ _)
          clear hX
          refine wpAnyH_takeD (i := 1) (v := ?_) 79 rfl rfl (by kernel_rfl) (by kernel_rfl) (by kernel_rfl) (fun _ _ _ _ _ h => h) (by rfl) (by assumption) ?_ ?_
          rotate_left; focus (intro w hSw; (try dsimp only at hSw); go_simp; try (with_reducible rfl))
          try simp only [Act.put, List.setIfInBounds_toArray, List.set_cons_zero, List.set_cons_succ]
          refine wpAnyH_takeD (i := 2) (v := ?_) 80 rfl rfl (by kernel_rfl) (by kernel_rfl) (by kernel_rfl) (fun _ _ _ _ _ h => h) (by rfl) (by assumption) ?_ ?_
          rotate_left; focus (intro w hSw; (try dsimp only at hSw); go_simp; try (with_reducible rfl))
          try simp only [Act.put, List.setIfInBounds_toArray, List.set_cons_zero, List.set_cons_succ]
          refine wpAnyH_takeD (i := 3) (v := ?_) 81 rfl rfl (by kernel_rfl) (by kernel_rfl) (by kernel_rfl) (fun _ _ _ _ _ h => h) (by rfl) (by assumption) ?_ ?_
          rotate_left; focus (intro w hSw; (try dsimp only at hSw); go_simp; try (with_reducible rfl))
          try simp only [Act.put, List.setIfInBounds_toArray, List.set_cons_zero, List.set_cons_succ]
          refine wpAnyH_takeD (i := 5) (v := ?_) 83 rfl rfl (by kernel_rfl) (by kernel_rfl) (by kernel_rfl) (fun _ _ _ _ _ h => h) (by rfl) (by assumption) ?_ ?_
          rotate_left; focus (intro w hSw; (try dsimp only at hSw); go_simp; try (with_reducible rfl))
          try simp only [Act.put, List.setIfInBounds_toArray, List.set_cons_zero, List.set_cons_succ]
          refine wpAnyH_takeD (i := 8) (v := ?_) 86 rfl rfl (by kernel_rfl) (by kernel_rfl) (by kernel_rfl) (fun _ _ _ _ _ h => h) (by rfl) (by assumption) ?_ ?_
          rotate_left; focus (intro w hSw; (try dsimp only at hSw); go_simp; try (with_reducible rfl))
          try simp only [Act.put, List.setIfInBounds_toArray, List.set_cons_zero, List.set_cons_succ]
          refine wpAnyH_ready (rs := [0, 6]) (by kernel_rfl) (by simp) ?_
          refine AllReadyH.cons rfl (fun K hK => ?_) (AllReadyH.cons rfl (fun K hK => ?_) AllReadyH.nil)
          · go_simp
            obtain ⟨Y, hY⟩ : ∃ Y, Y = World.alloc X (Obj.cells #[] 25) := ⟨_, rfl⟩
            rw [← hY]
            have bY : Below wq.heap.size wq Y := hY ▸ ext_alloc bX _
            have a0 : Acc wq Y 25 5 (some ⟨X.heap.size, 0, none⟩) 0 0 [] := hY ▸ Acc.empty bX
            clear hY
            refine hK.out _ _ (by exact ⟨below_cell (by assumption) hx0, below_cell (by assumption) hx1, below_cell (by assumption) hx2, below_cell (by assumption) hx3, below_cell (by assumption) hx4⟩) (fun hHeld => ?_)
            clear hK K; (try simp only [Act.put]); (try simp only [List.setIfInBounds_toArray]); (try simp only [List.set_cons_succ]); (try simp only [List.set_cons_zero])
            refine wpAnyH_ready (rs := [4, 6]) (by kernel_rfl) (by simp) ?_
            refine AllReadyH.cons rfl (fun K hK => ?_) (AllReadyH.cons rfl (fun K hK => ?_) AllReadyH.nil)
            · refine appAcct_b_step rfl (.tmp 78) (.tmp 81) rfl rfl a0 rfl ((RQ.out.below (bY.mono hBq)).frontAcct hk) (by omega) ?_
              intro A1 c1 Z a1 p1
              have bZ := a1.ext
              simp only [Nat.zero_add, List.nil_append] at a1
              refine hK.out _ _ (by exact ⟨below_cell (by assumption) hx0, below_cell (by assumption) hx1, below_cell (by assumption) hx2, below_cell (by assumption) hx3, below_cell (by assumption) hx4⟩) (fun hHeld => ?_)
              clear hK K; (try simp only [Act.put]); (try simp only [List.setIfInBounds_toArray]); (try simp only [List.set_cons_succ]); (try simp only [List.set_cons_zero])
              try simp only [Nat.zero_add]
              refine wpAnyH_ready (rs := [6]) (by kernel_rfl) (by simp) ?_
              refine AllReadyH.cons rfl (fun K hK => ?_) AllReadyH.nil
              go_simp
              obtain ⟨T, hT⟩ : ∃ T, T = World.alloc Z (Obj.cells #[.int .i64 x.p, .int .i64 x.m, .int .i64 x.l, .int .i64 x.s, .int .i64 x.d] 25) := ⟨_, rfl⟩
              rw [← hT]
              have bT : Below wq.heap.size wq T := hT ▸ ext_alloc bZ _
              have s1 := Side.new a1 #[.int .i64 x.p, .int .i64 x.m, .int .i64 x.l, .int .i64 x.s, .int .i64 x.d] 25 x.cs rfl rfl
              rw [← hT] at s1
              have a1 := a1.alloc (Obj.cells #[.int .i64 x.p, .int .i64 x.m, .int .i64 x.l, .int .i64 x.s, .int .i64 x.d] 25)
              rw [← hT] at a1
              clear hT
              refine hK.out _ _ (by exact ⟨below_cell (by assumption) hx0, below_cell (by assumption) hx1, below_cell (by assumption) hx2, below_cell (by assumption) hx3, below_cell (by assumption) hx4⟩) (fun hHeld => ?_)
              clear hK K; (try simp only [Act.put]); (try simp only [List.setIfInBounds_toArray]); (try simp only [List.set_cons_succ]); (try simp only [List.set_cons_zero])
              refine wpAnyH_ready (rs := [7]) (by kernel_rfl) (by simp) ?_
              refine AllReadyH.cons rfl (fun K hK => ?_) AllReadyH.nil
              refine appAcct_b_step rfl (.tmp 82) (.tmp 84) rfl rfl a1 rfl s1.reads (by omega) ?_
              intro A2 c2 V a2 p2
              have bV := a2.ext
              refine hK.out _ _ (by exact ⟨below_cell (by assumption) hx0, below_cell (by assumption) hx1, below_cell (by assumption) hx2, below_cell (by assumption) hx3, below_cell (by assumption) hx4⟩) (fun hHeld => ?_)
              clear hK K; (try simp only [Act.put]); (try simp only [List.setIfInBounds_toArray]); (try simp only [List.set_cons_succ]); (try simp only [List.set_cons_zero])
              refine wpAnyH_ready (rs := [9]) (by kernel_rfl) (by simp) ?_
              refine AllReadyH.cons rfl (fun K hK => ?_) AllReadyH.nil
              refine appAcct_b_step rfl (.tmp 85) (.tmp 86) rfl rfl a2 rfl (RR.out.below (bV.mono hBq)) (by omega) ?_
              intro A3 c3 U a3 p3
              have bU := a3.ext
              refine hK.out _ _ (by exact ⟨below_cell (by assumption) hx0, below_cell (by assumption) hx1, below_cell (by assumption) hx2, below_cell (by assumption) hx3, below_cell (by assumption) hx4⟩) (fun hHeld => ?_)
              clear hK K; (try simp only [Act.put]); (try simp only [List.setIfInBounds_toArray]); (try simp only [List.set_cons_succ]); (try simp only [List.set_cons_zero])
              refine wpAnyH_takeD (i := 10) (v := ?_) 11 rfl rfl (by kernel_rfl) (by kernel_rfl) (by kernel_rfl) (fun _ _ _ _ _ h => h) (by rfl) (by assumption) ?_ ?_
              rotate_left; focus (intro w hSw; (try dsimp only at hSw); go_simp; try (with_reducible rfl))
              (try simp only [Act.put]); (try simp only [List.setIfInBounds_toArray]); (try simp only [List.set_cons_succ]); (try simp only [List.set_cons_zero])
              refine wpAnyH_done (by kernel_rfl) ?_ _
              simp only [List.append_assoc, List.cons_append, List.nil_append] at a3
              have hfin : bookO p m xs = xs.take k ++ x :: ys := HI.out
              have e3 : acctF (bookO p m xs) = acctF (xs.take k) ++ (x.cs ++ acctF ys) := by rw [hfin, acctF_app, acctF_cons]
              have HN3 := Lib.hid (show Acc w U 25 5 A3 (k + 1 + 0) c3 (acctF (bookO p m xs)) by rw [e3]; simpa using a3.since HX0.out.ext)
              have hn3 : k + 1 + 0 ≤ 1048576 := by omega
              clear a0 a1 a2 a3 s1 hHeld e3 hfin
              go_wp2_with fail
              refine (l14Good_any _ _ _ _ (bookO p m xs) _ HN3.out.reads (Nat.le_refl _) hn3).mono ?_
              rintro e w9 ⟨rfl, hb9⟩
              have O9 := Lib.hid (HN3.out.later hb9)
              clear hb9
              cases hgd : accsB (bookO p m xs)
              · have HR := Lib.hid (show bookOk p m xs = false ∧ bookL p m xs = [] by unfold bookL bookOk; rw [hgd]; simp)
                go_wp2
                go_ret2
                rw [HR.out.1, HR.out.2]
                exact ⟨_, _, _, rfl, Acc.empty O9.out.ext⟩
              · have HR := Lib.hid (show bookOk p m xs = true ∧ bookL p m xs = bookO p m xs by unfold bookL bookOk; rw [hgd, HAA.out]; simp)
                go_wp2
                go_ret2
                rw [HR.out.1, HR.out.2]
                exact ⟨_, _, _, rfl, O9.out⟩
            · go_simp
              obtain ⟨Z, hZ⟩ : ∃ Z, Z = World.alloc Y (Obj.cells #[.int .i64 x.p, .int .i64 x.m, .int .i64 x.l, .int .i64 x.s, .int .i64 x.d] 25) := ⟨_, rfl⟩
              rw [← hZ]
              have bZ : Below wq.heap.size wq Z := hZ ▸ ext_alloc bY _
              have s1 := Side.new a0 #[.int .i64 x.p, .int .i64 x.m, .int .i64 x.l, .int .i64 x.s, .int .i64 x.d] 25 x.cs rfl rfl
              rw [← hZ] at s1
              have a0 := a0.alloc (Obj.cells #[.int .i64 x.p, .int .i64 x.m, .int .i64 x.l, .int .i64 x.s, .int .i64 x.d] 25)
              rw [← hZ] at a0
              clear hZ
              refine hK.out _ _ (by exact ⟨below_cell (by assumption) hx0, below_cell (by assumption) hx1, below_cell (by assumption) hx2, below_cell (by assumption) hx3, below_cell (by assumption) hx4⟩) (fun hHeld => ?_)
              clear hK K; (try simp only [Act.put]); (try simp only [List.setIfInBounds_toArray]); (try simp only [List.set_cons_succ]); (try simp only [List.set_cons_zero])
              refine wpAnyH_ready (rs := [4]) (by kernel_rfl) (by simp) ?_
              refine AllReadyH.cons rfl (fun K hK => ?_) AllReadyH.nil
              refine appAcct_b_step rfl (.tmp 78) (.tmp 81) rfl rfl a0 rfl ((RQ.out.below (bZ.mono hBq)).frontAcct hk) (by omega) ?_
              intro A1 c1 T a1 p1
              have bT := a1.ext
              simp only [Nat.zero_add, List.nil_append] at a1
              have s1 := s1.pushed p1
              refine hK.out _ _ (by exact ⟨below_cell (by assumption) hx0, below_cell (by assumption) hx1, below_cell (by assumption) hx2, below_cell (by assumption) hx3, below_cell (by assumption) hx4⟩) (fun hHeld => ?_)
              clear hK K; (try simp only [Act.put]); (try simp only [List.setIfInBounds_toArray]); (try simp only [List.set_cons_succ]); (try simp only [List.set_cons_zero])
              try simp only [Nat.zero_add]
              refine wpAnyH_ready (rs := [7]) (by kernel_rfl) (by simp) ?_
              refine AllReadyH.cons rfl (fun K hK => ?_) AllReadyH.nil
              refine appAcct_b_step rfl (.tmp 82) (.tmp 84) rfl rfl a1 rfl s1.reads (by omega) ?_
              intro A2 c2 V a2 p2
              have bV := a2.ext
              refine hK.out _ _ (by exact ⟨below_cell (by assumption) hx0, below_cell (by assumption) hx1, below_cell (by assumption) hx2, below_cell (by assumption) hx3, below_cell (by assumption) hx4⟩) (fun hHeld => ?_)
              clear hK K; (try simp only [Act.put]); (try simp only [List.setIfInBounds_toArray]); (try simp only [List.set_cons_succ]); (try simp only [List.set_cons_zero])
              refine wpAnyH_ready (rs := [9]) (by kernel_rfl) (by simp) ?_
              refine AllReadyH.cons rfl (fun K hK => ?_) AllReadyH.nil
              refine appAcct_b_step rfl (.tmp 85) (.tmp 86) rfl rfl a2 rfl (RR.out.below (bV.mono hBq)) (by omega) ?_
              intro A3 c3 U a3 p3
              have bU := a3.ext
              refine hK.out _ _ (by exact ⟨below_cell (by assumption) hx0, below_cell (by assumption) hx1, below_cell (by assumption) hx2, below_cell (by assumption) hx3, below_cell (by assumption) hx4⟩) (fun hHeld => ?_)
              clear hK K; (try simp only [Act.put]); (try simp only [List.setIfInBounds_toArray]); (try simp only [List.set_cons_succ]); (try simp only [List.set_cons_zero])
              refine wpAnyH_takeD (i := 10) (v := ?_) 11 rfl rfl (by kernel_rfl) (by kernel_rfl) (by kernel_rfl) (fun _ _ _ _ _ h => h) (by rfl) (by assumption) ?_ ?_
              rotate_left; focus (intro w hSw; (try dsimp only at hSw); go_simp; try (with_reducible rfl))
              (try simp only [Act.put]); (try simp only [List.setIfInBounds_toArray]); (try simp only [List.set_cons_succ]); (try simp only [List.set_cons_zero])
              refine wpAnyH_done (by kernel_rfl) ?_ _
              simp only [List.append_assoc, List.cons_append, List.nil_append] at a3
              have hfin : bookO p m xs = xs.take k ++ x :: ys := HI.out
              have e3 : acctF (bookO p m xs) = acctF (xs.take k) ++ (x.cs ++ acctF ys) := by rw [hfin, acctF_app, acctF_cons]
              have HN3 := Lib.hid (show Acc w U 25 5 A3 (k + 1 + 0) c3 (acctF (bookO p m xs)) by rw [e3]; simpa using a3.since HX0.out.ext)
              have hn3 : k + 1 + 0 ≤ 1048576 := by omega
              clear a0 a1 a2 a3 s1 hHeld e3 hfin
              go_wp2_with fail
              refine (l14Good_any _ _ _ _ (bookO p m xs) _ HN3.out.reads (Nat.le_refl _) hn3).mono ?_
              rintro e w9 ⟨rfl, hb9⟩
              have O9 := Lib.hid (HN3.out.later hb9)
              clear hb9
              cases hgd : accsB (bookO p m xs)
              · have HR := Lib.hid (show bookOk p m xs = false ∧ bookL p m xs = [] by unfold bookL bookOk; rw [hgd]; simp)
                go_wp2
                go_ret2
                rw [HR.out.1, HR.out.2]
                exact ⟨_, _, _, rfl, Acc.empty O9.out.ext⟩
              · have HR := Lib.hid (show bookOk p m xs = true ∧ bookL p m xs = bookO p m xs by unfold bookL bookOk; rw [hgd, HAA.out]; simp)
                go_wp2
                go_ret2
                rw [HR.out.1, HR.out.2]
                exact ⟨_, _, _, rfl, O9.out⟩
          · go_simp
            obtain ⟨Y, hY⟩ : ∃ Y, Y = World.alloc X (Obj.cells #[.int .i64 x.p, .int .i64 x.m, .int .i64 x.l, .int .i64 x.s, .int .i64 x.d] 25) := ⟨_, rfl⟩
            rw [← hY]
            have bY : Below wq.heap.size wq Y := hY ▸ ext_alloc bX _
            have s1 := Side.new0 X 5 #[.int .i64 x.p, .int .i64 x.m, .int .i64 x.l, .int .i64 x.s, .int .i64 x.d] 25 x.cs rfl rfl
            rw [← hY] at s1
            clear hY
            refine hK.out _ _ (by exact ⟨below_cell (by assumption) hx0, below_cell (by assumption) hx1, below_cell (by assumption) hx2, below_cell (by assumption) hx3, below_cell (by assumption) hx4⟩) (fun hHeld => ?_)
            clear hK K; (try simp only [Act.put]); (try simp only [List.setIfInBounds_toArray]); (try simp only [List.set_cons_succ]); (try simp only [List.set_cons_zero])
            refine wpAnyH_ready (rs := [0]) (by kernel_rfl) (by simp) ?_
            refine AllReadyH.cons rfl (fun K hK => ?_) AllReadyH.nil
            go_simp
            obtain ⟨Z, hZ⟩ : ∃ Z, Z = World.alloc Y (Obj.cells #[] 25) := ⟨_, rfl⟩
            rw [← hZ]
            have bZ : Below wq.heap.size wq Z := hZ ▸ ext_alloc bY _
            have a0 : Acc wq Z 25 5 (some ⟨Y.heap.size, 0, none⟩) 0 0 [] := hZ ▸ Acc.empty bY
            have s1 := s1.row (Obj.cells #[] 25)
            rw [← hZ] at s1
            clear hZ
            refine hK.out _ _ (by exact ⟨below_cell (by assumption) hx0, below_cell (by assumption) hx1, below_cell (by assumption) hx2, below_cell (by assumption) hx3, below_cell (by assumption) hx4⟩) (fun hHeld => ?_)
            clear hK K; (try simp only [Act.put]); (try simp only [List.setIfInBounds_toArray]); (try simp only [List.set_cons_succ]); (try simp only [List.set_cons_zero])
            refine wpAnyH_ready (rs := [4]) (by kernel_rfl) (by simp) ?_
            refine AllReadyH.cons rfl (fun K hK => ?_) AllReadyH.nil
            refine appAcct_b_step rfl (.tmp 78) (.tmp 81) rfl rfl a0 rfl ((RQ.out.below (bZ.mono hBq)).frontAcct hk) (by omega) ?_
            intro A1 c1 T a1 p1
            have bT := a1.ext
            simp only [Nat.zero_add, List.nil_append] at a1
            have s1 := s1.pushed p1
            refine hK.out _ _ (by exact ⟨below_cell (by assumption) hx0, below_cell (by assumption) hx1, below_cell (by assumption) hx2, below_cell (by assumption) hx3, below_cell (by assumption) hx4⟩) (fun hHeld => ?_)
            clear hK K; (try simp only [Act.put]); (try simp only [List.setIfInBounds_toArray]); (try simp only [List.set_cons_succ]); (try simp only [List.set_cons_zero])
            try simp only [Nat.zero_add]
            refine wpAnyH_ready (rs := [7]) (by kernel_rfl) (by simp) ?_
            refine AllReadyH.cons rfl (fun K hK => ?_) AllReadyH.nil
            refine appAcct_b_step rfl (.tmp 82) (.tmp 84) rfl rfl a1 rfl s1.reads (by omega) ?_
            intro A2 c2 V a2 p2
            have bV := a2.ext
            refine hK.out _ _ (by exact ⟨below_cell (by assumption) hx0, below_cell (by assumption) hx1, below_cell (by assumption) hx2, below_cell (by assumption) hx3, below_cell (by assumption) hx4⟩) (fun hHeld => ?_)
            clear hK K; (try simp only [Act.put]); (try simp only [List.setIfInBounds_toArray]); (try simp only [List.set_cons_succ]); (try simp only [List.set_cons_zero])
            refine wpAnyH_ready (rs := [9]) (by kernel_rfl) (by simp) ?_
            refine AllReadyH.cons rfl (fun K hK => ?_) AllReadyH.nil
            refine appAcct_b_step rfl (.tmp 85) (.tmp 86) rfl rfl a2 rfl (RR.out.below (bV.mono hBq)) (by omega) ?_
            intro A3 c3 U a3 p3
            have bU := a3.ext
            refine hK.out _ _ (by exact ⟨below_cell (by assumption) hx0, below_cell (by assumption) hx1, below_cell (by assumption) hx2, below_cell (by assumption) hx3, below_cell (by assumption) hx4⟩) (fun hHeld => ?_)
            clear hK K; (try simp only [Act.put]); (try simp only [List.setIfInBounds_toArray]); (try simp only [List.set_cons_succ]); (try simp only [List.set_cons_zero])
            refine wpAnyH_takeD (i := 10) (v := ?_) 11 rfl rfl (by kernel_rfl) (by kernel_rfl) (by kernel_rfl) (fun _ _ _ _ _ h => h) (by rfl) (by assumption) ?_ ?_
            rotate_left; focus (intro w hSw; (try dsimp only at hSw); go_simp; try (with_reducible rfl))
            (try simp only [Act.put]); (try simp only [List.setIfInBounds_toArray]); (try simp only [List.set_cons_succ]); (try simp only [List.set_cons_zero])
            refine wpAnyH_done (by kernel_rfl) ?_ _
            simp only [List.append_assoc, List.cons_append, List.nil_append] at a3
            have hfin : bookO p m xs = xs.take k ++ x :: ys := HI.out
            have e3 : acctF (bookO p m xs) = acctF (xs.take k) ++ (x.cs ++ acctF ys) := by rw [hfin, acctF_app, acctF_cons]
            have HN3 := Lib.hid (show Acc w U 25 5 A3 (k + 1 + 0) c3 (acctF (bookO p m xs)) by rw [e3]; simpa using a3.since HX0.out.ext)
            have hn3 : k + 1 + 0 ≤ 1048576 := by omega
            clear a0 a1 a2 a3 s1 hHeld e3 hfin
            go_wp2_with fail
            refine (l14Good_any _ _ _ _ (bookO p m xs) _ HN3.out.reads (Nat.le_refl _) hn3).mono ?_
            rintro e w9 ⟨rfl, hb9⟩
            have O9 := Lib.hid (HN3.out.later hb9)
            clear hb9
            cases hgd : accsB (bookO p m xs)
            · have HR := Lib.hid (show bookOk p m xs = false ∧ bookL p m xs = [] by unfold bookL bookOk; rw [hgd]; simp)
              go_wp2
              go_ret2
              rw [HR.out.1, HR.out.2]
              exact ⟨_, _, _, rfl, Acc.empty O9.out.ext⟩
            · have HR := Lib.hid (show bookOk p m xs = true ∧ bookL p m xs = bookO p m xs by unfold bookL bookOk; rw [hgd, HAA.out]; simp)
              go_wp2
              go_ret2
              rw [HR.out.1, HR.out.2]
              exact ⟨_, _, _, rfl, O9.out⟩
        · go_wp2
          obtain ⟨x, hxe⟩ : ∃ x : Acct, x = ⟨p, m, 1, s, 0⟩ := ⟨_, rfl⟩
          obtain ⟨wz, hwz⟩ : ∃ wz : World, wz = (World.setCell wq ⟨gb, 2, none⟩ (.int .i64 (1))) := ⟨_, rfl⟩
          rw [← hwz]
          have HX9 := Lib.hid (show Acc w wz 25 5 (some ⟨gb, 0, none⟩) 1 1 x.cs by rw [hwz, hxe]; exact (HX0.out.set 2 (1)))
          have HI := Lib.hid (show bookO p m xs = xs.take k ++ x :: xs.drop k by rw [hxe]; rw [HO.out, HSB.out]; rfl)
          have RQ9 := Lib.hid (H.out.below (HX9.out.ext.mono hB))
          have hBq9 : B ≤ wz.heap.size := Nat.le_trans hB HX9.out.ext.size
          have RR := Lib.hid (show Reads wz B 5 _ (0) ((acctF (xs.drop k)).map (Value.int .i64)) from reads_zero (A := Option.map (fun x => x.add (k * 5)) A) (by rw [List.length_drop, HL.out]; omega))
          clear hwz hxe HX4 HX0 RQ RQ4 hBq hx0 hx1 hx2 hx3 hx4 hd0 hd1 hd2 hd3 hd4 hfx0 hfx1 hfx2 hfx3 hfx4
          generalize (Option.map (fun x => x.add (k * 5)) A : Option Addr) = RA at RR ⊢
          generalize hys : xs.drop k = ys at RR HI
          obtain ⟨wq, rfl⟩ : ∃ wq : World, wq = wz := ⟨_, rfl⟩
          have HX0 := HX9
          have RQ := RQ9
          have hBq : B ≤ wq.heap.size := hBq9
          clear HX9 RQ9 hBq9
          obtain ⟨hx0, _⟩ := HX0.out.cellAt (show x.cs[0]? = some x.p from rfl)
          obtain ⟨hx1, _⟩ := HX0.out.cellAt (show x.cs[1]? = some x.m from rfl)
          obtain ⟨hx2, _⟩ := HX0.out.cellAt (show x.cs[2]? = some x.l from rfl)
          obtain ⟨hx3, _⟩ := HX0.out.cellAt (show x.cs[3]? = some x.s from rfl)
          obtain ⟨hx4, _⟩ := HX0.out.cellAt (show x.cs[4]? = some x.d from rfl)
          refine wp_region_held_drew (S := (fun w' => w'.cell? ⟨gb, 0, none⟩ = some (.int .i64 x.p) ∧ w'.cell? ⟨gb, 1, none⟩ = some (.int .i64 x.m) ∧ w'.cell? ⟨gb, 2, none⟩ = some (.int .i64 x.l) ∧ w'.cell? ⟨gb, 3, none⟩ = some (.int .i64 x.s) ∧ w'.cell? ⟨gb, 4, none⟩ = some (.int .i64 x.d))) (by kernel_rfl) ?_ (fun hHeld => ?_)
          · exact ⟨hx0, hx1, hx2, hx3, hx4⟩
          obtain ⟨X, hX⟩ : ∃ X, X = World.drew wq := ⟨_, rfl⟩
          rw [← hX]
          try rw [← hX] at hHeld
          have bX : Below wq.heap.size wq X := hX ▸ ext_drew (Below.refl _ _)
          clear hX
          refine wpAnyH_takeD (i := 1) (v := ?_) 79 rfl rfl (by kernel_rfl) (by kernel_rfl) (by kernel_rfl) (fun _ _ _ _ _ h => h) (by rfl) (by assumption) ?_ ?_
          rotate_left; focus (intro w hSw; (try dsimp only at hSw); go_simp; try (with_reducible rfl))
          try simp only [Act.put, List.setIfInBounds_toArray, List.set_cons_zero, List.set_cons_succ]
          refine wpAnyH_takeD (i := 2) (v := ?_) 80 rfl rfl (by kernel_rfl) (by kernel_rfl) (by kernel_rfl) (fun _ _ _ _ _ h => h) (by rfl) (by assumption) ?_ ?_
          rotate_left; focus (intro w hSw; (try dsimp only at hSw); go_simp; try (with_reducible rfl))
          try simp only [Act.put, List.setIfInBounds_toArray, List.set_cons_zero, List.set_cons_succ]
          refine wpAnyH_takeD (i := 3) (v := ?_) 81 rfl rfl (by kernel_rfl) (by kernel_rfl) (by kernel_rfl) (fun _ _ _ _ _ h => h) (by rfl) (by assumption) ?_ ?_
          rotate_left; focus (intro w hSw; (try dsimp only at hSw); go_simp; try (with_reducible rfl))
          try simp only [Act.put, List.setIfInBounds_toArray, List.set_cons_zero, List.set_cons_succ]
          refine wpAnyH_takeD (i := 5) (v := ?_) 83 rfl rfl (by kernel_rfl) (by kernel_rfl) (by kernel_rfl) (fun _ _ _ _ _ h => h) (by rfl) (by assumption) ?_ ?_
          rotate_left; focus (intro w hSw; (try dsimp only at hSw); go_simp; try (with_reducible rfl))
          try simp only [Act.put, List.setIfInBounds_toArray, List.set_cons_zero, List.set_cons_succ]
          refine wpAnyH_takeD (i := 8) (v := ?_) 86 rfl rfl (by kernel_rfl) (by kernel_rfl) (by kernel_rfl) (fun _ _ _ _ _ h => h) (by rfl) (by assumption) ?_ ?_
          rotate_left; focus (intro w hSw; (try dsimp only at hSw); go_simp; try (with_reducible rfl))
          try simp only [Act.put, List.setIfInBounds_toArray, List.set_cons_zero, List.set_cons_succ]
          refine wpAnyH_ready (rs := [0, 6]) (by kernel_rfl) (by simp) ?_
          refine AllReadyH.cons rfl (fun K hK => ?_) (AllReadyH.cons rfl (fun K hK => ?_) AllReadyH.nil)
          · go_simp
            obtain ⟨Y, hY⟩ : ∃ Y, Y = World.alloc X (Obj.cells #[] 25) := ⟨_, rfl⟩
            rw [← hY]
            have bY : Below wq.heap.size wq Y := hY ▸ ext_alloc bX _
            have a0 : Acc wq Y 25 5 (some ⟨X.heap.size, 0, none⟩) 0 0 [] := hY ▸ Acc.empty bX
            clear hY
            refine hK.out _ _ (by exact ⟨below_cell (by assumption) hx0, below_cell (by assumption) hx1, below_cell (by assumption) hx2, below_cell (by assumption) hx3, below_cell (by assumption) hx4⟩) (fun hHeld => ?_)
            clear hK K; (try simp only [Act.put]); (try simp only [List.setIfInBounds_toArray]); (try simp only [List.set_cons_succ]); (try simp only [List.set_cons_zero])
            refine wpAnyH_ready (rs := [4, 6]) (by kernel_rfl) (by simp) ?_
            refine AllReadyH.cons rfl (fun K hK => ?_) (AllReadyH.cons rfl (fun K hK => ?_) AllReadyH.nil)
            · refine appAcct_b_step rfl (.tmp 78) (.tmp 81) rfl rfl a0 rfl ((RQ.out.below (bY.mono hBq)).frontAcct hk) (by omega) ?_
              intro A1 c1 Z a1 p1
              have bZ := a1.ext
              simp only [Nat.zero_add, List.nil_append] at a1
              refine hK.out _ _ (by exact ⟨below_cell (by assumption) hx0, below_cell (by assumption) hx1, below_cell (by assumption) hx2, below_cell (by assumption) hx3, below_cell (by assumption) hx4⟩) (fun hHeld => ?_)
              clear hK K; (try simp only [Act.put]); (try simp only [List.setIfInBounds_toArray]); (try simp only [List.set_cons_succ]); (try simp only [List.set_cons_zero])
              try simp only [Nat.zero_add]
              refine wpAnyH_ready (rs := [6]) (by kernel_rfl) (by simp) ?_
              refine AllReadyH.cons rfl (fun K hK => ?_) AllReadyH.nil
              go_simp
              obtain ⟨T, hT⟩ : ∃ T, T = World.alloc Z (Obj.cells #[.int .i64 x.p, .int .i64 x.m, .int .i64 x.l, .int .i64 x.s, .int .i64 x.d] 25) := ⟨_, rfl⟩
              rw [← hT]
              have bT : Below wq.heap.size wq T := hT ▸ ext_alloc bZ _
              have s1 := Side.new a1 #[.int .i64 x.p, .int .i64 x.m, .int .i64 x.l, .int .i64 x.s, .int .i64 x.d] 25 x.cs rfl rfl
              rw [← hT] at s1
              have a1 := a1.alloc (Obj.cells #[.int .i64 x.p, .int .i64 x.m, .int .i64 x.l, .int .i64 x.s, .int .i64 x.d] 25)
              rw [← hT] at a1
              clear hT
              refine hK.out _ _ (by exact ⟨below_cell (by assumption) hx0, below_cell (by assumption) hx1, below_cell (by assumption) hx2, below_cell (by assumption) hx3, below_cell (by assumption) hx4⟩) (fun hHeld => ?_)
              clear hK K; (try simp only [Act.put]); (try simp only [List.setIfInBounds_toArray]); (try simp only [List.set_cons_succ]); (try simp only [List.set_cons_zero])
              refine wpAnyH_ready (rs := [7]) (by kernel_rfl) (by simp) ?_
              refine AllReadyH.cons rfl (fun K hK => ?_) AllReadyH.nil
              refine appAcct_b_step rfl (.tmp 82) (.tmp 84) rfl rfl a1 rfl s1.reads (by omega) ?_
              intro A2 c2 V a2 p2
              have bV := a2.ext
              refine hK.out _ _ (by exact ⟨below_cell (by assumption) hx0, below_cell (by assumption) hx1, below_cell (by assumption) hx2, below_cell (by assumption) hx3, below_cell (by assumption) hx4⟩) (fun hHeld => ?_)
              clear hK K; (try simp only [Act.put]); (try simp only [List.setIfInBounds_toArray]); (try simp only [List.set_cons_succ]); (try simp only [List.set_cons_zero])
              refine wpAnyH_ready (rs := [9]) (by kernel_rfl) (by simp) ?_
              refine AllReadyH.cons rfl (fun K hK => ?_) AllReadyH.nil
              refine appAcct_b_step rfl (.tmp 85) (.tmp 86) rfl rfl a2 rfl (RR.out.below (bV.mono hBq)) (by omega) ?_
              intro A3 c3 U a3 p3
              have bU := a3.ext
              refine hK.out _ _ (by exact ⟨below_cell (by assumption) hx0, below_cell (by assumption) hx1, below_cell (by assumption) hx2, below_cell (by assumption) hx3, below_cell (by assumption) hx4⟩) (fun hHeld => ?_)
              clear hK K; (try simp only [Act.put]); (try simp only [List.setIfInBounds_toArray]); (try simp only [List.set_cons_succ]); (try simp only [List.set_cons_zero])
              refine wpAnyH_takeD (i := 10) (v := ?_) 11 rfl rfl (by kernel_rfl) (by kernel_rfl) (by kernel_rfl) (fun _ _ _ _ _ h => h) (by rfl) (by assumption) ?_ ?_
              rotate_left; focus (intro w hSw; (try dsimp only at hSw); go_simp; try (with_reducible rfl))
              (try simp only [Act.put]); (try simp only [List.setIfInBounds_toArray]); (try simp only [List.set_cons_succ]); (try simp only [List.set_cons_zero])
              refine wpAnyH_done (by kernel_rfl) ?_ _
              simp only [List.append_assoc, List.cons_append, List.nil_append] at a3
              have hfin : bookO p m xs = xs.take k ++ x :: ys := HI.out
              have e3 : acctF (bookO p m xs) = acctF (xs.take k) ++ (x.cs ++ acctF ys) := by rw [hfin, acctF_app, acctF_cons]
              have HN3 := Lib.hid (show Acc w U 25 5 A3 (k + 1 + 0) c3 (acctF (bookO p m xs)) by rw [e3]; simpa using a3.since HX0.out.ext)
              have hn3 : k + 1 + 0 ≤ 1048576 := by omega
              clear a0 a1 a2 a3 s1 hHeld e3 hfin
              go_wp2_with fail
              refine (l14Good_any _ _ _ _ (bookO p m xs) _ HN3.out.reads (Nat.le_refl _) hn3).mono ?_
              rintro e w9 ⟨rfl, hb9⟩
              have O9 := Lib.hid (HN3.out.later hb9)
              clear hb9
              cases hgd : accsB (bookO p m xs)
              · have HR := Lib.hid (show bookOk p m xs = false ∧ bookL p m xs = [] by unfold bookL bookOk; rw [hgd]; simp)
                go_wp2
                go_ret2
                rw [HR.out.1, HR.out.2]
                exact ⟨_, _, _, rfl, Acc.empty O9.out.ext⟩
              · have HR := Lib.hid (show bookOk p m xs = true ∧ bookL p m xs = bookO p m xs by unfold bookL bookOk; rw [hgd, HAA.out]; simp)
                go_wp2
                go_ret2
                rw [HR.out.1, HR.out.2]
                exact ⟨_, _, _, rfl, O9.out⟩
            · go_simp
              obtain ⟨Z, hZ⟩ : ∃ Z, Z = World.alloc Y (Obj.cells #[.int .i64 x.p, .int .i64 x.m, .int .i64 x.l, .int .i64 x.s, .int .i64 x.d] 25) := ⟨_, rfl⟩
              rw [← hZ]
              have bZ : Below wq.heap.size wq Z := hZ ▸ ext_alloc bY _
              have s1 := Side.new a0 #[.int .i64 x.p, .int .i64 x.m, .int .i64 x.l, .int .i64 x.s, .int .i64 x.d] 25 x.cs rfl rfl
              rw [← hZ] at s1
              have a0 := a0.alloc (Obj.cells #[.int .i64 x.p, .int .i64 x.m, .int .i64 x.l, .int .i64 x.s, .int .i64 x.d] 25)
              rw [← hZ] at a0
              clear hZ
              refine hK.out _ _ (by exact ⟨below_cell (by assumption) hx0, below_cell (by assumption) hx1, below_cell (by assumption) hx2, below_cell (by assumption) hx3, below_cell (by assumption) hx4⟩) (fun hHeld => ?_)
              clear hK K; (try simp only [Act.put]); (try simp only [List.setIfInBounds_toArray]); (try simp only [List.set_cons_succ]); (try simp only [List.set_cons_zero])
              refine wpAnyH_ready (rs := [4]) (by kernel_rfl) (by simp) ?_
              refine AllReadyH.cons rfl (fun K hK => ?_) AllReadyH.nil
              refine appAcct_b_step rfl (.tmp 78) (.tmp 81) rfl rfl a0 rfl ((RQ.out.below (bZ.mono hBq)).frontAcct hk) (by omega) ?_
              intro A1 c1 T a1 p1
              have bT := a1.ext
              simp only [Nat.zero_add, List.nil_append] at a1
              have s1 := s1.pushed p1
              refine hK.out _ _ (by exact ⟨below_cell (by assumption) hx0, below_cell (by assumption) hx1, below_cell (by assumption) hx2, below_cell (by assumption) hx3, below_cell (by assumption) hx4⟩) (fun hHeld => ?_)
              clear hK K; (try simp only [Act.put]); (try simp only [List.setIfInBounds_toArray]); (try simp only [List.set_cons_succ]); (try simp only [List.set_cons_zero])
              try simp only [Nat.zero_add]
              refine wpAnyH_ready (rs := [7]) (by kernel_rfl) (by simp) ?_
              refine AllReadyH.cons rfl (fun K hK => ?_) AllReadyH.nil
              refine appAcct_b_step rfl (.tmp 82) (.tmp 84) rfl rfl a1 rfl s1.reads (by omega) ?_
              intro A2 c2 V a2 p2
              have bV := a2.ext
              refine hK.out _ _ (by exact ⟨below_cell (by assumption) hx0, below_cell (by assumption) hx1, below_cell (by assumption) hx2, below_cell (by assumption) hx3, below_cell (by assumption) hx4⟩) (fun hHeld => ?_)
              clear hK K; (try simp only [Act.put]); (try simp only [List.setIfInBounds_toArray]); (try simp only [List.set_cons_succ]); (try simp only [List.set_cons_zero])
              refine wpAnyH_ready (rs := [9]) (by kernel_rfl) (by simp) ?_
              refine AllReadyH.cons rfl (fun K hK => ?_) AllReadyH.nil
              refine appAcct_b_step rfl (.tmp 85) (.tmp 86) rfl rfl a2 rfl (RR.out.below (bV.mono hBq)) (by omega) ?_
              intro A3 c3 U a3 p3
              have bU := a3.ext
              refine hK.out _ _ (by exact ⟨below_cell (by assumption) hx0, below_cell (by assumption) hx1, below_cell (by assumption) hx2, below_cell (by assumption) hx3, below_cell (by assumption) hx4⟩) (fun hHeld => ?_)
              clear hK K; (try simp only [Act.put]); (try simp only [List.setIfInBounds_toArray]); (try simp only [List.set_cons_succ]); (try simp only [List.set_cons_zero])
              refine wpAnyH_takeD (i := 10) (v := ?_) 11 rfl rfl (by kernel_rfl) (by kernel_rfl) (by kernel_rfl) (fun _ _ _ _ _ h => h) (by rfl) (by assumption) ?_ ?_
              rotate_left; focus (intro w hSw; (try dsimp only at hSw); go_simp; try (with_reducible rfl))
              (try simp only [Act.put]); (try simp only [List.setIfInBounds_toArray]); (try simp only [List.set_cons_succ]); (try simp only [List.set_cons_zero])
              refine wpAnyH_done (by kernel_rfl) ?_ _
              simp only [List.append_assoc, List.cons_append, List.nil_append] at a3
              have hfin : bookO p m xs = xs.take k ++ x :: ys := HI.out
              have e3 : acctF (bookO p m xs) = acctF (xs.take k) ++ (x.cs ++ acctF ys) := by rw [hfin, acctF_app, acctF_cons]
              have HN3 := Lib.hid (show Acc w U 25 5 A3 (k + 1 + 0) c3 (acctF (bookO p m xs)) by rw [e3]; simpa using a3.since HX0.out.ext)
              have hn3 : k + 1 + 0 ≤ 1048576 := by omega
              clear a0 a1 a2 a3 s1 hHeld e3 hfin
              go_wp2_with fail
              refine (l14Good_any _ _ _ _ (bookO p m xs) _ HN3.out.reads (Nat.le_refl _) hn3).mono ?_
              rintro e w9 ⟨rfl, hb9⟩
              have O9 := Lib.hid (HN3.out.later hb9)
              clear hb9
              cases hgd : accsB (bookO p m xs)
              · have HR := Lib.hid (show bookOk p m xs = false ∧ bookL p m xs = [] by unfold bookL bookOk; rw [hgd]; simp)
                go_wp2
                go_ret2
                rw [HR.out.1, HR.out.2]
                exact ⟨_, _, _, rfl, Acc.empty O9.out.ext⟩
              · have HR := Lib.hid (show bookOk p m xs = true ∧ bookL p m xs = bookO p m xs by unfold bookL bookOk; rw [hgd, HAA.out]; simp)
                go_wp2
                go_ret2
                rw [HR.out.1, HR.out.2]
                exact ⟨_, _, _, rfl, O9.out⟩
          · go_simp
            obtain ⟨Y, hY⟩ : ∃ Y, Y = World.alloc X (Obj.cells #[.int .i64 x.p, .int .i64 x.m, .int .i64 x.l, .int .i64 x.s, .int .i64 x.d] 25) := ⟨_, rfl⟩
            rw [← hY]
            have bY : Below wq.heap.size wq Y := hY ▸ ext_alloc bX _
            have s1 := Side.new0 X 5 #[.int .i64 x.p, .int .i64 x.m, .int .i64 x.l, .int .i64 x.s, .int .i64 x.d] 25 x.cs rfl rfl
            rw [← hY] at s1
            clear hY
            refine hK.out _ _ (by exact ⟨below_cell (by assumption) hx0, below_cell (by assumption) hx1, below_cell (by assumption) hx2, below_cell (by assumption) hx3, below_cell (by assumption) hx4⟩) (fun hHeld => ?_)
            clear hK K; (try simp only [Act.put]); (try simp only [List.setIfInBounds_toArray]); (try simp only [List.set_cons_succ]); (try simp only [List.set_cons_zero])
            refine wpAnyH_ready (rs := [0]) (by kernel_rfl) (by simp) ?_
            refine AllReadyH.cons rfl (fun K hK => ?_) AllReadyH.nil
            go_simp
            obtain ⟨Z, hZ⟩ : ∃ Z, Z = World.alloc Y (Obj.cells #[] 25) := ⟨_, rfl⟩
            rw [← hZ]
            have bZ : Below wq.heap.size wq Z := hZ ▸ ext_alloc bY _
            have a0 : Acc wq Z 25 5 (some ⟨Y.heap.size, 0, none⟩) 0 0 [] := hZ ▸ Acc.empty bY
            have s1 := s1.row (Obj.cells #[] 25)
            rw [← hZ] at s1
            clear hZ
            refine hK.out _ _ (by exact ⟨below_cell (by assumption) hx0, below_cell (by assumption) hx1, below_cell (by assumption) hx2, below_cell (by assumption) hx3, below_cell (by assumption) hx4⟩) (fun hHeld => ?_)
            clear hK K; (try simp only [Act.put]); (try simp only [List.setIfInBounds_toArray]); (try simp only [List.set_cons_succ]); (try simp only [List.set_cons_zero])
            refine wpAnyH_ready (rs := [4]) (by kernel_rfl) (by simp) ?_
            refine AllReadyH.cons rfl (fun K hK => ?_) AllReadyH.nil
            refine appAcct_b_step rfl (.tmp 78) (.tmp 81) rfl rfl a0 rfl ((RQ.out.below (bZ.mono hBq)).frontAcct hk) (by omega) ?_
            intro A1 c1 T a1 p1
            have bT := a1.ext
            simp only [Nat.zero_add, List.nil_append] at a1
            have s1 := s1.pushed p1
            refine hK.out _ _ (by exact ⟨below_cell (by assumption) hx0, below_cell (by assumption) hx1, below_cell (by assumption) hx2, below_cell (by assumption) hx3, below_cell (by assumption) hx4⟩) (fun hHeld => ?_)
            clear hK K; (try simp only [Act.put]); (try simp only [List.setIfInBounds_toArray]); (try simp only [List.set_cons_succ]); (try simp only [List.set_cons_zero])
            try simp only [Nat.zero_add]
            refine wpAnyH_ready (rs := [7]) (by kernel_rfl) (by simp) ?_
            refine AllReadyH.cons rfl (fun K hK => ?_) AllReadyH.nil
            refine appAcct_b_step rfl (.tmp 82) (.tmp 84) rfl rfl a1 rfl s1.reads (by omega) ?_
            intro A2 c2 V a2 p2
            have bV := a2.ext
            refine hK.out _ _ (by exact ⟨below_cell (by assumption) hx0, below_cell (by assumption) hx1, below_cell (by assumption) hx2, below_cell (by assumption) hx3, below_cell (by assumption) hx4⟩) (fun hHeld => ?_)
            clear hK K; (try simp only [Act.put]); (try simp only [List.setIfInBounds_toArray]); (try simp only [List.set_cons_succ]); (try simp only [List.set_cons_zero])
            refine wpAnyH_ready (rs := [9]) (by kernel_rfl) (by simp) ?_
            refine AllReadyH.cons rfl (fun K hK => ?_) AllReadyH.nil
            refine appAcct_b_step rfl (.tmp 85) (.tmp 86) rfl rfl a2 rfl (RR.out.below (bV.mono hBq)) (by omega) ?_
            intro A3 c3 U a3 p3
            have bU := a3.ext
            refine hK.out _ _ (by exact ⟨below_cell (by assumption) hx0, below_cell (by assumption) hx1, below_cell (by assumption) hx2, below_cell (by assumption) hx3, below_cell (by assumption) hx4⟩) (fun hHeld => ?_)
            clear hK K; (try simp only [Act.put]); (try simp only [List.setIfInBounds_toArray]); (try simp only [List.set_cons_succ]); (try simp only [List.set_cons_zero])
            refine wpAnyH_takeD (i := 10) (v := ?_) 11 rfl rfl (by kernel_rfl) (by kernel_rfl) (by kernel_rfl) (fun _ _ _ _ _ h => h) (by rfl) (by assumption) ?_ ?_
            rotate_left; focus (intro w hSw; (try dsimp only at hSw); go_simp; try (with_reducible rfl))
            (try simp only [Act.put]); (try simp only [List.setIfInBounds_toArray]); (try simp only [List.set_cons_succ]); (try simp only [List.set_cons_zero])
            refine wpAnyH_done (by kernel_rfl) ?_ _
            simp only [List.append_assoc, List.cons_append, List.nil_append] at a3
            have hfin : bookO p m xs = xs.take k ++ x :: ys := HI.out
            have e3 : acctF (bookO p m xs) = acctF (xs.take k) ++ (x.cs ++ acctF ys) := by rw [hfin, acctF_app, acctF_cons]
            have HN3 := Lib.hid (show Acc w U 25 5 A3 (k + 1 + 0) c3 (acctF (bookO p m xs)) by rw [e3]; simpa using a3.since HX0.out.ext)
            have hn3 : k + 1 + 0 ≤ 1048576 := by omega
            clear a0 a1 a2 a3 s1 hHeld e3 hfin
            go_wp2_with fail
            refine (l14Good_any _ _ _ _ (bookO p m xs) _ HN3.out.reads (Nat.le_refl _) hn3).mono ?_
            rintro e w9 ⟨rfl, hb9⟩
            have O9 := Lib.hid (HN3.out.later hb9)
            clear hb9
            cases hgd : accsB (bookO p m xs)
            · have HR := Lib.hid (show bookOk p m xs = false ∧ bookL p m xs = [] by unfold bookL bookOk; rw [hgd]; simp)
              go_wp2
              go_ret2
              rw [HR.out.1, HR.out.2]
              exact ⟨_, _, _, rfl, Acc.empty O9.out.ext⟩
            · have HR := Lib.hid (show bookOk p m xs = true ∧ bookL p m xs = bookO p m xs by unfold bookL bookOk; rw [hgd, HAA.out]; simp)
              go_wp2
              go_ret2
              rw [HR.out.1, HR.out.2]
              exact ⟨_, _, _, rfl, O9.out⟩
set_option maxHeartbeats 4000000 in
theorem FnExactBookLesson_any (A : Option Addr) (n c : Nat) (zs : List Int) (p : Int) (_ : (Lit.int .i64 p).wf = true) (m : Int) (_ : (Lit.int .i64 m).wf = true) (w : World) (h : Reads w w.heap.size 5 A n (zs.map (Value.int .i64)) ∧ n ≤ maxLen) :
    Calls Try.prog 10 #[.slice A n c, .int .i64 p, .int .i64 m] w fun e w' => e = .returned (.bool true) ∧ Below w.heap.size w w' := by
  obtain ⟨h, hm⟩ := h
  obtain ⟨xs, rfl, hl⟩ := acctF_of n zs (by simpa using h.1)
  have H := Lib.hid h
  clear h
  by_cases hn : n ≤ 1048576
  · have hzl : (bookL p m xs).length ≤ 1048577 := by have := bookL_len p m xs; omega
    clear hl
    have hS := fun (A : Option Addr) (n c B : Nat) (w : World) h hB hn h1 h2 => sBookLesson_any A n c B xs p m w h hB hn h1 h2
    have hI := fun (A : Option Addr) (n c B : Nat) (w : World) h hB hn => iBookLesson_any A n c B xs p m w h hB hn
    generalize bookL p m xs = ys at hS hI hzl
    generalize bookOk p m xs = ok at hS hI
    have HS := Lib.hid hS
    have HI := Lib.hid hI
    clear hS hI
    go_enter Try.func10, Try.ntmps10
    go_wp2_with fail
    refine (szAccountS_any A n c hm _).mono ?_
    rintro e w' ⟨rfl, rfl⟩
    rw [if_pos hn]
    go_wp2_with fail
    refine (toAccountS_any A n c _ xs _ H.out (Nat.le_refl _) hn).mono ?_
    rintro e w1 ⟨A1, n1, c1, rfl, a1⟩
    have z1 := a1.reads.acctLen
    have z0 := H.out.acctLen
    obtain rfl : n1 = n := by omega
    have R1 := Lib.hid (H.out.below a1.ext)
    have E1 := Lib.hid a1.ext
    go_wp2_with fail
    refine (HS.out A1 n1 c1 _ _ a1.reads (Nat.le_refl _) hn a1.cap.1 a1.cap.2).mono ?_
    rintro e w2 ⟨A0, n0, c0, rfl, h0⟩
    have R2 := Lib.hid (R1.out.below (h0.ext.mono E1.out.size))
    have E2 := Lib.hid (ext_trans E1.out h0.ext)
    have H0 := Lib.hid h0.reads
    have L0 : n0 ≤ 1048577 := by have := h0.reads.acctLen; omega
    clear a1 z1 h0
    go_wp2_with fail
    refine (toAccountS_any A n1 c _ xs _ R2.out E2.out.size hn).mono ?_
    rintro e w3 ⟨A3, n3, c3, rfl, a3⟩
    have z3 := a3.reads.acctLen
    obtain rfl : n3 = n1 := by omega
    have R3 := Lib.hid (R2.out.below (a3.ext.mono E2.out.size))
    have E3 := Lib.hid (ext_trans E2.out a3.ext)
    have H3 := Lib.hid (H0.out.below a3.ext)
    have O3 := Lib.hid a3
    have S23 : w2.heap.size ≤ w3.heap.size := a3.ext.size
    clear a3 z3
    go_wp2_with fail
    refine (HI.out A3 n3 c3 _ _ O3.out.reads (Nat.le_refl _) hn).mono ?_
    rintro e w4 ⟨A4, n4, c4, rfl, h4⟩
    have R4 := Lib.hid (R3.out.below (h4.ext.mono E3.out.size))
    have E4 := Lib.hid (ext_trans E3.out h4.ext)
    have H4 := Lib.hid (H3.out.below (h4.ext.mono S23))
    have O4 := Lib.hid (O3.out.later h4.ext)
    have G4 := Lib.hid h4
    have L4 : n4 ≤ 1048577 := by have := h4.reads.acctLen; omega
    have S34 : w3.heap.size ≤ w4.heap.size := h4.ext.size
    have S24 : w2.heap.size ≤ w4.heap.size := Nat.le_trans S23 S34
    clear h4
    go_wp2_with fail
    refine (eqAccountS_any A4 A0 n4 n0 c4 c0 _ _ ys ys _ G4.out.reads H4.out (Nat.le_refl _) S24 (by unfold maxLen; omega) (by unfold maxLen; omega)).mono ?_
    rintro e v4 ⟨rfl, hv4⟩
    rw [decide_eq_true (rfl : ys = ys)]
    have V4 := Lib.hid hv4
    clear hv4
    go_wp2_with fail
    refine (toAccountS_any A n3 c _ xs _ (R4.out.below (V4.out.mono E4.out.size)) (Nat.le_trans E4.out.size V4.out.size) hn).mono ?_
    rintro e w5 ⟨A5, n5, c5, rfl, a5⟩
    have z5 := a5.reads.acctLen
    obtain rfl : n5 = n3 := by omega
    have B45 := Lib.hid (ext_trans V4.out a5.ext)
    go_wp2_with fail
    refine (eqAccountS_any A3 A5 n5 n5 c3 c5 _ _ xs xs _ (O4.out.reads.below B45.out) a5.reads B45.out.size (Nat.le_refl _) (by unfold maxLen; omega) (by unfold maxLen; omega)).mono ?_
    rintro e w6 ⟨rfl, hb6⟩
    rw [decide_eq_true (rfl : xs = xs)]
    have B46 := Lib.hid (ext_trans B45.out hb6)
    have R6 := Lib.hid (R4.out.below (B46.out.mono E4.out.size))
    have E6 := Lib.hid (ext_trans E4.out B46.out)
    have H6 := Lib.hid (H4.out.below (B46.out.mono S24))
    have O6 := Lib.hid (O4.out.later B46.out)
    have G6 := Lib.hid (G4.out.later B46.out)
    have S46 : w4.heap.size ≤ w6.heap.size := B46.out.size
    clear hb6 a5 z5
    go_wp2_with fail
    refine (markAccountS_any A3 n5 c3 _ _ 1 _ O6.out.own (by omega) (by omega) (by omega)).mono ?_
    rintro e w7 ⟨rfl, _, hg7⟩
    have hrow3 : ∀ g, (Value.slice A3 n5 c3).ownBlock = some g → w2.heap.size ≤ g ∧ g < w3.heap.size := fun g hg => O3.out.own.lt g hg
    have hne4 : (Value.slice A4 n4 c4).ownBlock = none ∨ (Value.slice A4 n4 c4).ownBlock ≠ (Value.slice A3 n5 c3).ownBlock := by
      cases hv : (Value.slice A4 n4 c4).ownBlock with
      | none => exact .inl rfl
      | some g => exact .inr (fun e => by have h1 := (G4.out.own.lt g hv).1; have h2 := (hrow3 g e.symm).2; omega)
    have S26 : w2.heap.size ≤ w6.heap.size := by omega
    have H7 := Lib.hid (H6.out.grown hg7 S26 (fun g hg => (hrow3 g hg).1))
    have G7 := Lib.hid (G6.out.own.kept hg7 hne4)
    have E7 := Lib.hid (ext_grown E6.out hg7 (fun g hg => Nat.le_trans E2.out.size (hrow3 g hg).1))
    have S67 : w6.heap.size ≤ w7.heap.size := hg7.size
    have S27 : w2.heap.size ≤ w7.heap.size := Nat.le_trans S26 S67
    have hk1 : (0 : Int) ≤ 1 + ((n5 * 5 : Nat) : Int) := by omega
    clear hg7 hne4
    go_wp2_with fail
    refine (eqAccountS_any A4 A0 n4 n0 c4 c0 _ _ ys ys _ (Reads.of_own G7.out) H7.out (Nat.le_refl _) S27 (by unfold maxLen; omega) (by unfold maxLen; omega)).mono ?_
    rintro e v7 ⟨rfl, hv7⟩
    rw [decide_eq_true (rfl : ys = ys)]
    have V7 := Lib.hid hv7
    have S7v : w7.heap.size ≤ v7.heap.size := hv7.size
    clear hv7
    go_wp2_with fail
    refine (markAccountS_any A4 n4 c4 w3.heap.size (acctF ys) 1 _ (own_below G7.out V7.out) (by omega) (by omega) (by omega)).mono ?_
    rintro e w8 ⟨rfl, hm8, hg8⟩
    have hrow4 : ∀ g, (Value.slice A4 n4 c4).ownBlock = some g → w3.heap.size ≤ g := fun g hg => (G4.out.own.lt g hg).1
    have H8 := Lib.hid ((H7.out.below (V7.out.mono S27)).grown hg8 (Nat.le_trans S27 S7v) (fun g hg => Nat.le_trans S23 (hrow4 g hg)))
    have E8 := Lib.hid (ext_grown (ext_trans E7.out V7.out) hg8 (fun g hg => Nat.le_trans E3.out.size (hrow4 g hg)))
    have G8 := Lib.hid hm8
    have S78 : v7.heap.size ≤ w8.heap.size := hg8.size
    have R8 := Lib.hid (H.out.below E8.out)
    clear hm8 hg8
    go_wp2_with fail
    refine (heldAccountS_any A4 n4 c4 _ 1 _ (Reads.of_own G8.out) (by omega) (by omega) (by omega)).mono ?_
    rintro e w' ⟨rfl, rfl⟩
    have hq1 : (0 : Int) ≤ 1 + ((n4 * 5 : Nat) : Int) := by omega
    go_wp2_with fail
    refine (toAccountS_any A n5 c _ xs _ R8.out E8.out.size hn).mono ?_
    rintro e w9 ⟨A9, n9, c9, rfl, a9⟩
    have z9 := a9.reads.acctLen
    obtain rfl : n9 = n5 := by omega
    have B89 := Lib.hid a9.ext
    go_wp2_with fail
    refine (HI.out A9 n9 c9 _ _ a9.reads (Nat.le_refl _) hn).mono ?_
    rintro e w10 ⟨A10, n10, c10, rfl, h10⟩
    have B8 := Lib.hid (ext_trans B89.out h10.ext)
    have S8 : w8.heap.size ≤ w10.heap.size := B8.out.size
    have H10 := Lib.hid (H8.out.below (B8.out.mono (by omega)))
    have G10 := Lib.hid (own_below G8.out B8.out)
    have E10 := Lib.hid (ext_trans E8.out B8.out)
    have L10 : n10 ≤ 1048577 := by have := h10.reads.acctLen; omega
    go_wp2_with fail
    refine (eqAccountS_any A10 A0 n10 n0 c10 c0 _ _ ys ys _ h10.reads H10.out (Nat.le_refl _) (by omega) (by unfold maxLen; omega) (by unfold maxLen; omega)).mono ?_
    rintro e v10 ⟨rfl, hv10⟩
    rw [decide_eq_true (rfl : ys = ys)]
    go_wp2_with fail
    refine (heldAccountS_any A4 n4 c4 _ 1 _ (Reads.of_own (own_below G10.out hv10)) (by omega) (by omega) (by omega)).mono ?_
    rintro e w' ⟨rfl, rfl⟩
    go_wp2_with fail
    go_ret
    exact ⟨rfl, ext_trans E10.out hv10⟩
  · go_enter Try.func10, Try.ntmps10
    go_wp2_with fail
    refine (szAccountS_any A n c hm _).mono ?_
    rintro e w' ⟨rfl, rfl⟩
    rw [if_neg hn]
    go_wp2_with fail
    go_ret
    exact ⟨rfl, Below.refl _ _⟩
end Go.Proofs.Ytbjmpllnkkfgfaa
