/- Fewest beads, fewest moves, the nearest target and the moves to it: the reference's walks. No condition. -/
import Derived.Test.YtkgbcjiinicffaaNst
namespace Go.Proofs.Ytkgbcjiinicffaa
open Go.RowKit

def fewV (u l : Int) (xs : List Rod) (N : Int) : Way := if (frameB u l xs && decide (0 ≤ N)) = true then bestP fewerB u l xs xs.length N else way0
def nearV (u l : Int) (xs : List Rod) (N : Int) : Way := if (frameB u l xs && decide (0 ≤ N)) = true then bestP nearerB u l xs xs.length N else way0
theorem pick_near {u l : Int} {xs : List Rod} {n : Nat} (hn : xs.length = n) (N : Int) : pickL nearerB xs (tgts u l n N) = bestP nearerB u l xs n N :=
  nearer_one (tgts_each u l n N) (pickL_bst nearer_swo xs _ n (tgts_each u l n N)) (bestP_bst nearer_swo u l xs n N (by omega))
theorem pick_few {u l : Int} {xs : List Rod} {n : Nat} (hn : xs.length = n) (N : Int) : (pickL fewerB xs (tgts u l n N)).ok = (bestP fewerB u l xs n N).ok ∧ (pickL fewerB xs (tgts u l n N)).b = (bestP fewerB u l xs n N).b :=
  fewer_one (pickL_bst fewer_swo xs _ n (tgts_each u l n N)) (bestP_bst fewer_swo u l xs n N (by omega))
/-- What is known of a best way. -/
theorem best_way {lt : Way → Way → Bool} (hlt : Swo lt) {u l : Int} {xs : List Rod} (h0 : 0 ≤ u) (h1 : u ≤ 2) (h2 : l ≤ 5) (r : Nat) (N : Int) (hr : r ≤ xs.length) :
    bestP lt u l xs r N = way0 ∨ ∃ s, s.length = r ∧ (∀ x ∈ s, RodIn x) ∧ bestP lt u l xs r N = wayOf xs s := by
  rcases bestP_bst hlt u l xs r N hr with ⟨_, h⟩ | ⟨s, hs, h, _⟩
  · exact .inl h
  · exact .inr ⟨s, tgts_each u l r N s hs, tgts_in h0 h1 h2 r N s hs, h⟩
def leastV (W : Way) : Int := if W.ok = true then W.b else -1
set_option maxRecDepth 100000 in
set_option maxHeartbeats 8000000 in
theorem sFewestBeads_any (u l : Int) (A : Option Addr) (n c B : Nat) (xs : List Rod) (N : Int) (w : World) (h : Reads w B 2 A n ((rodF xs).map (Value.int .i64))) (hB : B ≤ w.heap.size) (hn : n ≤ 1048576) (hN2 : N ≤ 9223372036854775807) :
    Calls Try.prog 19 #[.agg #[.int .i64 u, .int .i64 l, .slice A n c], .int .i64 N] w fun e w' => e = .returned (.tuple #[.int .i64 (fewV u l xs N).b, .bool (fewV u l xs N).ok]) ∧ Below w.heap.size w w' := by
  have hlx := h.rodLen
  have hb := ext_alloc (Below.refl w.heap.size w) (.cells #[.int .i64 u, .int .i64 l, .slice A n c] 33)
  have hBk := Blk.new w 33 #[.int .i64 u, .int .i64 l, .slice A n c]
  have hq := l13Asked_any u l A n c B xs N _ (h.below (hb.mono hB)) (Nat.le_trans hB hb.size) hn
  generalize hw1 : w.alloc (.cells #[.int .i64 u, .int .i64 l, .slice A n c] 33) = w1 at hb hBk hq
  have HB := Lib.hid hb
  have HK := Lib.hid hBk
  have HW := Lib.hid hw1
  have HQA := Lib.hid hq
  have RX := Lib.hid (h.below (hb.mono hB))
  have Z1 := Lib.hid (Nat.le_trans hB hb.size)
  clear h hb hBk hw1 hq
  cases hf : frameB u l xs && decide (0 ≤ N)
  · rw [hf] at HQA
    have HV := Lib.hid (show fewV u l xs N = way0 by unfold fewV; rw [hf]; rfl)
    go_enter Try.func19, Try.ntmps19
    go_wp2_with fail
    rw [HW.out]
    refine HQA.out.mono ?_
    rintro e w' ⟨rfl, hb⟩
    go_wp2_with fail
    go_ret2
    exact ⟨by rw [HV.out]; rfl, ext_trans HB.out hb⟩
  · rw [hf] at HQA
    have HV := Lib.hid (show fewV u l xs N = bestP fewerB u l xs n N by unfold fewV; rw [hf, hlx]; rfl)
    have hf' := hf
    simp only [Bool.and_eq_true, decide_eq_true_eq] at hf'
    obtain ⟨hfr, hN⟩ := hf'
    obtain ⟨⟨u0, u1⟩, ⟨l0, l1⟩, k1, k2⟩ := frame_bd hfr
    have hn8 : n ≤ 8 := by omega
    have HXI := Lib.hid (frame_in hfr)
    have HTI := Lib.hid (tgts_in (u := u) (l := l) u0 u1 l1 n N)
    have HTE := Lib.hid (tgts_each u l n N)
    have HPF := Lib.hid (pick_few (u := u) (l := l) hlx N)
    have hlen : (tgts u l n N).length ≤ 10077696 := by
      have tl := tgts_len u l n N
      have tb := tgt_bd (l := l) u0 u1 n N
      have hp6 := pow6 (k := n) (by omega)
      omega
    go_enter Try.func19, Try.ntmps19
    go_wp2_with fail
    rw [HW.out]
    refine HQA.out.mono ?_
    rintro e w2 ⟨rfl, hb⟩
    have HK2 := Lib.hid (HK.out.below hb HK.out.lt)
    have RX2 := Lib.hid (RX.out.below (hb.mono Z1.out))
    have Z2 := Lib.hid (Nat.le_trans Z1.out hb.size)
    have HB2 := Lib.hid (ext_trans HB.out hb)
    have x0 := HK2.out.cell 0
    have x1 := HK2.out.cell 1
    have x2 := HK2.out.cell 2
    simp only [List.getElem?_toArray, List.getElem?_cons_zero, List.getElem?_cons_succ] at x0 x1 x2
    clear hb
    go_wp2_with fail
    refine (l13All_any u l A n c u0 u1 N _ hn8 hN hN2).mono ?_
    rintro e w3 ⟨tA, tn, tc, ths, rfl, htacc⟩
    generalize hts : tgts u l n N = ts at htacc HTI HTE hlen HPF
    have HTS := Lib.hid hts
    have htn : ts.length = tn := by have := htacc.len; have := htacc.hlen; omega
    have hb3 := htacc.ext
    have HL3 := Lib.hid (htacc.side (A' := none) (fun _ h => by cases h))
    clear x0 x1 x2
    have hl2 := HK2.out.lt
    have HK3 := Lib.hid (HK2.out.below hb3 hl2)
    have RX3 := Lib.hid (RX2.out.below (hb3.mono Z2.out))
    have Z3 := Lib.hid (Nat.le_trans Z2.out hb3.size)
    have HB3 := Lib.hid (ext_trans HB2.out hb3)
    have x0 := HK3.out.cell 0
    have x1 := HK3.out.cell 1
    have x2 := HK3.out.cell 2
    simp only [List.getElem?_toArray, List.getElem?_cons_zero, List.getElem?_cons_succ] at x0 x1 x2
    clear hts htacc hb3 x0 x1 x2
    go_wp2_with fail
    go_loopw [7, 8] (fun p i wr => ∃ k : Nat, i = .int .i64 (k : Int) ∧ k ≤ tn ∧ p = .int .i64 (leastV (pickL fewerB xs (ts.take k))) ∧ Below w3.heap.size w3 wr) (fun _ i _ => tn - (intOf i).toNat)
    case atStart => exact ⟨0, rfl, by omega, rfl, Below.refl _ _⟩
    case round =>
      obtain ⟨wq, rfl⟩ : ∃ wq : World, wq = wr := ⟨_, rfl⟩
      obtain ⟨k, rfl, hk, rfl, hbw⟩ := hrel
      have HQ := Lib.hid hbw
      have HLQ := Lib.hid (HL3.out.later hbw)
      have HKQ := Lib.hid (HK3.out.below hbw HK3.out.lt)
      have RXQ := Lib.hid (RX3.out.below (hbw.mono Z3.out))
      have ZQ := Lib.hid (Nat.le_trans Z3.out hbw.size)
      have k0 : (0 : Int) ≤ k := by omega
      clear hbw
      by_cases hlt : k < tn
      · have k1' : (k : Int) < tn := by omega
        obtain ⟨b, o, y, t, hAy, hy, ht, hsy, hcy⟩ := HLQ.out.at_ (frC_len u l) (by omega) hlt
        subst hAy
        have HTM := Lib.hid (List.mem_of_getElem? ht)
        have htl := HTE.out t HTM.out
        have hyn : y.n = n := by have h1 := hsy.reads.rodLen; omega
        have hS := hsy.reads
        rw [hyn] at hS
        have HS := Lib.hid hS
        have D0 := Lib.hid (hcy 0 _ rfl)
        have D1 := Lib.hid (hcy 1 _ rfl)
        have d2 := hcy 2 _ rfl
        rw [show y.v = .slice y.a n y.c by rw [← hyn]] at d2
        have D2 := Lib.hid d2
        have c0 := HKQ.out.cell 0
        have c1 := HKQ.out.cell 1
        have c2 := HKQ.out.cell 2
        simp only [List.getElem?_toArray, List.getElem?_cons_zero, List.getElem?_cons_succ] at c0 c1 c2
        have C0 := Lib.hid c0
        have C1 := Lib.hid c1
        have C2 := Lib.hid c2
        have HNX := Lib.hid (pickL_next (lt := fewerB) (xs := xs) ht)
        have hbd := wayOf_bd HXI.out (HTI.out t HTM.out) (by omega)
        have hml : (mvL xs t).length ≤ 16 := by have h1 := hbd.1.2; unfold wayOf at h1; simp only at h1; omega
        have hbt : 0 ≤ bdS (mvL xs t) ∧ bdS (mvL xs t) ≤ 144 := hbd.2
        have bX : Below wq.heap.size wq wq.drew := ext_drew (Below.refl _ _)
        obtain ⟨cur, hcur⟩ : ∃ cur, cur = pickL fewerB xs (ts.take k) := ⟨_, rfl⟩
        rw [← hcur] at HNX ⊢
        have hpk2 : (cur.ok = false ∧ leastV cur = -1) ∨ (cur.ok = true ∧ leastV cur = cur.b ∧ 0 ≤ leastV cur ∧ leastV cur ≤ 144) := by
          rcases pick_bd (lt := fewerB) (xs := xs) (ts.take k) cur hcur with rfl | ⟨s, hs, rfl⟩
          · exact .inl ⟨rfl, rfl⟩
          · have hm := List.mem_of_mem_take hs
            have e : leastV (wayOf xs s) = (wayOf xs s).b := by unfold leastV; rw [if_pos (show (wayOf xs s).ok = true from rfl)]
            have := (wayOf_bd HXI.out (HTI.out s hm) (by have := HTE.out s hm; omega)).2
            exact .inr ⟨rfl, e, by rw [e]; exact this.1, by rw [e]; exact this.2⟩
        have HPK := Lib.hid hpk2
        clear hcur hpk2 ht hy hsy hcy hyn hS d2 c0 c1 c2 hbd
        go_wp2_with fail
        refine wp_region_held_drew (S := (fun W => (W.cell? ⟨w.heap.size, 0, none⟩ = some (.int .i64 u) ∧ W.cell? ⟨w.heap.size, 1, none⟩ = some (.int .i64 l) ∧ W.cell? ⟨w.heap.size, 2, none⟩ = some (.slice A n c)) ∧ W.cell? ⟨b, o + k * 3, none⟩ = some (.int .i64 u) ∧ W.cell? ⟨b, o + k * 3 + 1, none⟩ = some (.int .i64 l) ∧ W.cell? ⟨b, o + k * 3 + 2, none⟩ = some (.slice y.a n y.c))) (by kernel_rfl) ?_ (fun hHeld => ?_)
        · (try dsimp only); exact ⟨⟨below_cell (by assumption) C0.out, below_cell (by assumption) C1.out, below_cell (by assumption) C2.out⟩, below_cell (by assumption) D0.out, below_cell (by assumption) D1.out, below_cell (by assumption) D2.out⟩
        refine wpAnyH_takeD (i := 0) (v := ?_) 23 rfl rfl (by kernel_rfl) (by kernel_rfl) (by kernel_rfl) (fun _ _ _ _ _ h => h) (by rfl) (by assumption) ?_ ?_
        rotate_left; focus (intro w hSw; (try dsimp only at hSw); go_simp; try (with_reducible rfl))
        try simp only [Act.put, List.setIfInBounds_toArray, List.set_cons_zero, List.set_cons_succ]
        refine wpAnyH_takeD (i := 1) (v := ?_) 24 rfl rfl (by kernel_rfl) (by kernel_rfl) (by kernel_rfl) (fun _ _ _ _ _ h => h) (by rfl) (by assumption) ?_ ?_
        rotate_left; focus (intro w hSw; (try dsimp only at hSw); go_simp; try (with_reducible rfl))
        try simp only [Act.put, List.setIfInBounds_toArray, List.set_cons_zero, List.set_cons_succ]
        refine wpAnyH_takeD (i := 2) (v := ?_) 25 rfl rfl (by kernel_rfl) (by kernel_rfl) (by kernel_rfl) (fun _ _ _ _ _ h => h) (by rfl) (by assumption) ?_ ?_
        rotate_left; focus (intro w hSw; (try dsimp only at hSw); go_simp; try (with_reducible rfl))
        try simp only [Act.put, List.setIfInBounds_toArray, List.set_cons_zero, List.set_cons_succ]
        refine wpAnyH_takeD (i := 3) (v := ?_) 26 rfl rfl (by kernel_rfl) (by kernel_rfl) (by kernel_rfl) (fun _ _ _ _ _ h => h) (by rfl) (by assumption) ?_ ?_
        rotate_left; focus (intro w hSw; (try dsimp only at hSw); go_simp; try (with_reducible rfl))
        try simp only [Act.put, List.setIfInBounds_toArray, List.set_cons_zero, List.set_cons_succ]
        refine wpAnyH_takeD (i := 4) (v := ?_) 27 rfl rfl (by kernel_rfl) (by kernel_rfl) (by kernel_rfl) (fun _ _ _ _ _ h => h) (by rfl) (by assumption) ?_ ?_
        rotate_left; focus (intro w hSw; (try dsimp only at hSw); go_simp; try (with_reducible rfl))
        try simp only [Act.put, List.setIfInBounds_toArray, List.set_cons_zero, List.set_cons_succ]
        refine wpAnyH_ready (rs := [5]) (by kernel_rfl) (by simp) ?_
        refine AllReadyH.cons rfl (fun K hK => ?_) AllReadyH.nil
        go_simp; (go_at_call 44; refine (l4Between_any u l u l A y.a n c y.c _ _ xs t _ (RXQ.out.below (bX.mono ZQ.out)) (HS.out.below (bX.mono HQ.out.size)) (Nat.le_trans ZQ.out bX.size) (Nat.le_trans HQ.out.size bX.size) hn8 HXI.out (HTI.out t HTM.out)).mono ?_; rintro e w6 ⟨A6, n6, c6, rfl, a6⟩); have b6 := ext_trans bX a6.ext; have hn6 : (mvL xs t).length = n6 := (by have h1 := a6.len; rw [bmvF_len] at h1; omega); (try dsimp only)
        refine hK.out _ _ ?_ (fun hHeld => ?_)
        focus ((try dsimp only); exact ⟨⟨below_cell (by assumption) C0.out, below_cell (by assumption) C1.out, below_cell (by assumption) C2.out⟩, below_cell (by assumption) D0.out, below_cell (by assumption) D1.out, below_cell (by assumption) D2.out⟩)
        clear hK K; try simp only [Act.put, List.setIfInBounds_toArray, List.set_cons_zero, List.set_cons_succ]
        refine wpAnyH_ready (rs := [6]) (by kernel_rfl) (by simp) ?_
        refine AllReadyH.cons rfl (fun K hK => ?_) AllReadyH.nil
        go_simp; (go_at_call 43; refine (l4Beads_any A6 n6 c6 _ (mvL xs t) w6 a6.reads (by omega) (mvFr_in 0 xs t HXI.out (HTI.out t HTM.out))).mono ?_; rintro e w7 ⟨rfl, m7, hw7⟩); have b7 : Below wq.heap.size wq w7 := (by rw [hw7]; exact ext_drewN b6 _); clear hw7; (try dsimp only)
        refine hK.out _ _ ?_ (fun hHeld => ?_)
        focus ((try dsimp only); exact ⟨⟨below_cell (by assumption) C0.out, below_cell (by assumption) C1.out, below_cell (by assumption) C2.out⟩, below_cell (by assumption) D0.out, below_cell (by assumption) D1.out, below_cell (by assumption) D2.out⟩)
        clear hK K; try simp only [Act.put, List.setIfInBounds_toArray, List.set_cons_zero, List.set_cons_succ]
        refine wpAnyH_takeD (i := 7) (v := ?_) 9 rfl rfl (by kernel_rfl) (by kernel_rfl) (by kernel_rfl) (fun _ _ _ _ _ h => h) (by rfl) (by assumption) ?_ ?_
        rotate_left; focus (intro w hSw; (try dsimp only at hSw); go_simp; try (with_reducible rfl))
        try simp only [Act.put, List.setIfInBounds_toArray, List.set_cons_zero, List.set_cons_succ]
        refine wpAnyH_done (by kernel_rfl) ?_ _
        clear hHeld
        have HQ7 := Lib.hid (HQ.out.trans (b7.mono HQ.out.size))
        have HWT := Lib.hid (show (wayOf xs t).b = bdS (mvL xs t) ∧ (wayOf xs t).ok = true from ⟨rfl, rfl⟩)
        generalize wayOf xs t = wt at HNX HWT
        generalize bdS (mvL xs t) = BT at hbt HWT ⊢
        clear a6 b6 b7 hn6 bX
        rcases HPK.out with ⟨h1, h2⟩ | ⟨h1, h2, h3, h4⟩
        · have HN2 := Lib.hid (show leastV (pickL fewerB xs (ts.take (k + 1))) = BT by
            rw [HNX.out, if_pos (by unfold fewerB; rw [HWT.out.2, h1]; rfl)]; unfold leastV; rw [if_pos HWT.out.2, HWT.out.1])
          have d1 : decide (leastV cur < 0) = true := by rw [h2]; rfl
          have d1' : leastV cur < 0 := by omega
          clear h1 h2
          go_wp2_with fail
          go_roundw
          case rel => exact ⟨k + 1, by go_num, by omega, by rw [HN2.out], HQ7.out⟩
          case measure => simp [intOf]; omega
        · have d1 : decide (leastV cur < 0) = false := by simp; omega
          by_cases hm : BT < leastV cur
          · have HN2 := Lib.hid (show leastV (pickL fewerB xs (ts.take (k + 1))) = BT by
              rw [HNX.out, if_pos (by unfold fewerB; rw [HWT.out.2, h1, HWT.out.1]; simp; omega)]; unfold leastV; rw [if_pos HWT.out.2, HWT.out.1])
            have d2 : decide (BT < leastV cur) = true := by simp; omega
            clear h1 h2
            go_wp2_with fail
            go_roundw
            case rel => exact ⟨k + 1, by go_num, by omega, by rw [HN2.out], HQ7.out⟩
            case measure => simp [intOf]; omega
          · have HN2 := Lib.hid (show pickL fewerB xs (ts.take (k + 1)) = cur by
              rw [HNX.out, if_neg (by unfold fewerB; rw [HWT.out.2, h1, HWT.out.1]; simp; omega)])
            have d2 : decide (BT < leastV cur) = false := by simp; omega
            clear h1 h2
            go_wp2_with fail
            go_roundw
            case rel => exact ⟨k + 1, by go_num, by omega, by rw [HN2.out], HQ7.out⟩
            case measure => simp [intOf]; omega
      · have hkn : k = tn := by omega
        subst hkn
        have HE := Lib.hid (show ts.take k = ts by rw [List.take_of_length_le (by omega)])
        rw [HE.out]
        have HV2 := Lib.hid (show (fewV u l xs N).ok = (pickL fewerB xs ts).ok ∧ (fewV u l xs N).b = (pickL fewerB xs ts).b by rw [HV.out]; exact ⟨HPF.out.1.symm, HPF.out.2.symm⟩)
        have hpk2 : (pickL fewerB xs ts = way0 ∧ leastV (pickL fewerB xs ts) < 0) ∨ ((pickL fewerB xs ts).ok = true ∧ leastV (pickL fewerB xs ts) = (pickL fewerB xs ts).b ∧ 0 ≤ leastV (pickL fewerB xs ts)) := by
          rcases pick_bd (lt := fewerB) (xs := xs) ts _ rfl with h | ⟨s, hs, h⟩
          · exact .inl ⟨h, by rw [h]; decide⟩
          · rw [h]
            have e : leastV (wayOf xs s) = (wayOf xs s).b := by unfold leastV; rw [if_pos (show (wayOf xs s).ok = true from rfl)]
            have := (wayOf_bd HXI.out (HTI.out s hs) (by have := HTE.out s hs; omega)).2
            exact .inr ⟨rfl, e, by rw [e]; exact this.1⟩
        generalize pickL fewerB xs ts = cur at HV2 hpk2 ⊢
        rcases hpk2 with ⟨h1, h2⟩ | ⟨h1, h2, h3⟩
        · have H1 := Lib.hid h1
          clear h1
          go_wp2_with fail
          go_ret2
          exact ⟨by rw [HV2.out.1, HV2.out.2, H1.out]; rfl, HB3.out.trans (HQ.out.mono HB3.out.size)⟩
        · have H1 := Lib.hid h1
          have H2 := Lib.hid h2
          have d1 : ¬ leastV cur < 0 := by omega
          clear h1 h2
          go_wp2_with fail
          go_ret2
          exact ⟨by rw [HV2.out.1, HV2.out.2, H1.out, ← H2.out]; rfl, HB3.out.trans (HQ.out.mono HB3.out.size)⟩
set_option maxRecDepth 100000 in
set_option maxHeartbeats 8000000 in
theorem sFewestMoves_any (u l : Int) (A : Option Addr) (n c B : Nat) (xs : List Rod) (N : Int) (w : World) (h : Reads w B 2 A n ((rodF xs).map (Value.int .i64))) (hB : B ≤ w.heap.size) (hn : n ≤ 1048576) (hN2 : N ≤ 9223372036854775807) :
    Calls Try.prog 21 #[.agg #[.int .i64 u, .int .i64 l, .slice A n c], .int .i64 N] w fun e w' => e = .returned (.tuple #[.int .i64 (nearV u l xs N).m, .bool (nearV u l xs N).ok]) ∧ Below w.heap.size w w' := by
  have hlx := h.rodLen
  have hb := ext_alloc (Below.refl w.heap.size w) (.cells #[.int .i64 u, .int .i64 l, .slice A n c] 33)
  have hBk := Blk.new w 33 #[.int .i64 u, .int .i64 l, .slice A n c]
  have hq := l13Asked_any u l A n c B xs N _ (h.below (hb.mono hB)) (Nat.le_trans hB hb.size) hn
  generalize hw1 : w.alloc (.cells #[.int .i64 u, .int .i64 l, .slice A n c] 33) = w1 at hb hBk hq
  have HB := Lib.hid hb
  have HK := Lib.hid hBk
  have HW := Lib.hid hw1
  have HQA := Lib.hid hq
  have RX := Lib.hid (h.below (hb.mono hB))
  have Z1 := Lib.hid (Nat.le_trans hB hb.size)
  clear h hb hBk hw1 hq
  cases hf : frameB u l xs && decide (0 ≤ N)
  · rw [hf] at HQA
    have HV := Lib.hid (show nearV u l xs N = way0 by unfold nearV; rw [hf]; rfl)
    go_enter Try.func21, Try.ntmps21
    go_wp2_with fail
    rw [HW.out]
    refine HQA.out.mono ?_
    rintro e w' ⟨rfl, hb⟩
    go_wp2_with fail
    go_ret2
    exact ⟨by rw [HV.out]; rfl, ext_trans HB.out hb⟩
  · rw [hf] at HQA
    have HV := Lib.hid (show nearV u l xs N = bestP nearerB u l xs n N by unfold nearV; rw [hf, hlx]; rfl)
    have hf' := hf
    simp only [Bool.and_eq_true, decide_eq_true_eq] at hf'
    obtain ⟨hfr, hN⟩ := hf'
    obtain ⟨⟨u0, u1⟩, ⟨l0, l1⟩, k1, k2⟩ := frame_bd hfr
    have hn8 : n ≤ 8 := by omega
    have HXI := Lib.hid (frame_in hfr)
    have HTI := Lib.hid (best_way nearer_swo (u := u) (l := l) (xs := xs) u0 u1 l1 n N (by omega))
    have HPN := Lib.hid (pick_near (u := u) (l := l) hlx N)
    go_enter Try.func21, Try.ntmps21
    go_wp2_with fail
    rw [HW.out]
    refine HQA.out.mono ?_
    rintro e w2 ⟨rfl, hb⟩
    have HK2 := Lib.hid (HK.out.below hb HK.out.lt)
    have RX2 := Lib.hid (RX.out.below (hb.mono Z1.out))
    have Z2 := Lib.hid (Nat.le_trans Z1.out hb.size)
    have HB2 := Lib.hid (ext_trans HB.out hb)
    have x0 := HK2.out.cell 0
    have x1 := HK2.out.cell 1
    have x2 := HK2.out.cell 2
    simp only [List.getElem?_toArray, List.getElem?_cons_zero, List.getElem?_cons_succ] at x0 x1 x2
    clear hb
    go_wp2_with fail
    refine (l13Best_any u l A n c B xs N _ RX2.out Z2.out hfr hN hN2).mono ?_
    rintro e w3 ⟨U, L, a, m, k, rfl, hfo, hb3⟩
    rw [HPN.out] at hfo ⊢
    have HBW := Lib.hid (HTI.out)
    clear x0 x1 x2
    have hl2 := HK2.out.lt
    have HK3 := Lib.hid (HK2.out.below hb3 hl2)
    have RX3 := Lib.hid (RX2.out.below (hb3.mono Z2.out))
    have Z3 := Lib.hid (Nat.le_trans Z2.out hb3.size)
    have HB3 := Lib.hid (ext_trans HB2.out hb3)
    have x0 := HK3.out.cell 0
    have x1 := HK3.out.cell 1
    have x2 := HK3.out.cell 2
    simp only [List.getElem?_toArray, List.getElem?_cons_zero, List.getElem?_cons_succ] at x0 x1 x2
    have HFO := Lib.hid hfo
    have hbox := ext_alloc (Below.refl w3.heap.size w3) (.cells #[.int .i64 U, .int .i64 L, .slice a m k] 33)
    have hbk := Blk.new w3 33 #[.int .i64 U, .int .i64 L, .slice a m k]
    generalize hw4 : w3.alloc (.cells #[.int .i64 U, .int .i64 L, .slice a m k] 33) = w4 at hbox hbk
    have HW4 := Lib.hid hw4
    have HBK := Lib.hid hbk
    have HBOX := Lib.hid hbox
    have HK4 := Lib.hid (HK3.out.below hbox HK3.out.lt)
    have RX4 := Lib.hid (RX3.out.below (hbox.mono Z3.out))
    have Z4 := Lib.hid (Nat.le_trans Z3.out hbox.size)
    have HB4 := Lib.hid (ext_trans HB3.out hbox)
    have hl4 := HK4.out.lt
    have hl3 := hbk.lt
    have y0 := HK4.out.cell 0
    have y1 := HK4.out.cell 1
    have y2 := HK4.out.cell 2
    have z0 := hbk.cell 0
    have z1 := hbk.cell 1
    have z2 := hbk.cell 2
    simp only [List.getElem?_toArray, List.getElem?_cons_zero, List.getElem?_cons_succ] at y0 y1 y2 z0 z1 z2
    have hl33 := HK3.out.lt
    clear hfo hb3 hbox hbk hw4
    obtain ⟨W, hWW⟩ : ∃ W, W = bestP nearerB u l xs n N := ⟨_, rfl⟩
    rw [← hWW] at HFO HV HBW ⊢
    clear hWW
    rcases HBW.out with h | ⟨s, hsl, hsi, h⟩
    · have HH := Lib.hid h
      have hok : W.ok = false := by rw [h]; rfl
      clear h
      rw [hok]
      go_wp2_with fail
      go_ret2
      exact ⟨by rw [HV.out, HH.out]; rfl, HW4.out ▸ HB4.out⟩
    · have HH := Lib.hid h
      have hok : W.ok = true := by rw [h]; rfl
      have hrd : W.rods = s := by rw [h]; rfl
      obtain ⟨rfl, rfl, hr⟩ := HFO.out.yes hok
      rw [hrd] at hr
      have hmn : n = m := by have := hr.rodLen; omega
      subst hmn
      have HR4 := Lib.hid (hr.below HBOX.out)
      have hml : ((mvL xs s).length : Int) = W.m := by rw [h]; rfl
      have HML := Lib.hid hml
      have HOK := Lib.hid hok
      rw [hok]
      clear h hr hok hrd hml
      go_wp2_with fail
      rw [HW4.out]
      refine (l4Between_any U L U L A a n c k _ _ xs s _ RX4.out HR4.out Z4.out HBOX.out.size hn8 HXI.out hsi).mono ?_
      rintro e w6 ⟨A6, n6, c6, rfl, a6⟩
      have hn6 : (mvL xs s).length = n6 := by have h1 := a6.len; rw [bmvF_len] at h1; omega
      have HN6 := Lib.hid hn6
      clear hn6
      go_wp2_with fail
      go_ret2
      exact ⟨by rw [HV.out, HOK.out, ← HML.out, HN6.out]; rfl, ext_trans HB4.out a6.ext⟩
set_option maxRecDepth 100000 in
set_option maxHeartbeats 8000000 in
theorem sNearestTarget_any (u l : Int) (A : Option Addr) (n c B : Nat) (xs : List Rod) (N : Int) (w : World) (h : Reads w B 2 A n ((rodF xs).map (Value.int .i64))) (hB : B ≤ w.heap.size) (hn : n ≤ 1048576) (hN2 : N ≤ 9223372036854775807) :
    Calls Try.prog 23 #[.agg #[.int .i64 u, .int .i64 l, .slice A n c], .int .i64 N] w fun e w' => ∃ (U L : Int) (a : Option Addr) (m k : Nat), e = .returned (.tuple #[.agg #[.int .i64 U, .int .i64 L, .slice a m k], .bool (nearV u l xs N).ok]) ∧ FrOk w' w'.heap.size w.heap.size u l (nearV u l xs N) U L a m k ∧ Below w.heap.size w w' := by
  have hlx := h.rodLen
  have hb := ext_alloc (Below.refl w.heap.size w) (.cells #[.int .i64 u, .int .i64 l, .slice A n c] 33)
  have hBk := Blk.new w 33 #[.int .i64 u, .int .i64 l, .slice A n c]
  have hb := ext_alloc hb (.cells #[.int .i64 0, .int .i64 0, .slice none 0 0] 33)
  have hBk := hBk.alloc (.cells #[.int .i64 0, .int .i64 0, .slice none 0 0] 33)
  have hB4 := Blk.new (w.alloc (.cells #[.int .i64 u, .int .i64 l, .slice A n c] 33)) 33 #[.int .i64 0, .int .i64 0, .slice none 0 0]
  have hz1 : (w.alloc (.cells #[.int .i64 u, .int .i64 l, .slice A n c] 33)).heap.size = w.heap.size + 1 := by simp
  rw [hz1] at hB4
  have hq := l13Asked_any u l A n c B xs N _ (h.below (hb.mono hB)) (Nat.le_trans hB hb.size) hn
  generalize hw1 : (w.alloc (.cells #[.int .i64 u, .int .i64 l, .slice A n c] 33)).alloc (.cells #[.int .i64 0, .int .i64 0, .slice none 0 0] 33) = w1 at hb hBk hB4 hq
  have HB := Lib.hid hb
  have HK := Lib.hid hBk
  have H4 := Lib.hid hB4
  have HW := Lib.hid hw1
  have HZ1 := Lib.hid (show w1.heap.size = w.heap.size + 1 + 1 by rw [← hw1]; simp)
  have HQA := Lib.hid hq
  have RX := Lib.hid (h.below (hb.mono hB))
  have Z1 := Lib.hid (Nat.le_trans hB hb.size)
  have HLO := Lib.hid (show w.heap.size + 1 < w1.heap.size by rw [HZ1.out]; omega)
  clear h hb hBk hB4 hz1 hw1 hq
  cases hf : frameB u l xs && decide (0 ≤ N)
  · rw [hf] at HQA
    have HV := Lib.hid (show nearV u l xs N = way0 by unfold nearV; rw [hf]; rfl)
    go_enter Try.func23, Try.ntmps23
    go_wp2_with fail
    rw [HW.out]
    refine HQA.out.mono ?_
    rintro e w2 ⟨rfl, hb⟩
    have h4 := H4.out.below hb H4.out.lt
    have f0 := h4.frozen 0
    have f1 := h4.frozen 1
    have f2 := h4.frozen 2
    have v0 := h4.cell 0
    have v1 := h4.cell 1
    have v2 := h4.cell 2
    simp only [List.getElem?_toArray, List.getElem?_cons_zero, List.getElem?_cons_succ] at v0 v1 v2
    have H42 := Lib.hid h4
    have HB2 := Lib.hid (ext_trans HB.out hb)
    clear h4 hb
    go_wp2_with fail
    have h4 := H42.out
    have hF0 : FrOk w2 w2.heap.size w1.heap.size u l way0 0 0 none 0 0 := ⟨fun h => (by cases h), fun _ => ⟨rfl, rfl, rfl, rfl, rfl⟩, fun h => (by cases h)⟩
    have hBZ := ((h4.set_ 0 (.int .i64 0)).set_ 1 (.int .i64 0)).set_ 2 (.slice none 0 0)
    have hGZ := ext_set (ext_set (ext_set HB2.out (p := ⟨w.heap.size + 1, 0, none⟩) (by show w.heap.size ≤ w.heap.size + 1; omega) (.int .i64 0)) (p := ⟨w.heap.size + 1, 1, none⟩) (by show w.heap.size ≤ w.heap.size + 1; omega) (.int .i64 0)) (p := ⟨w.heap.size + 1, 2, none⟩) (by show w.heap.size ≤ w.heap.size + 1; omega) (.slice none 0 0)
    have hFZ := ((hF0.setLow (p := ⟨w.heap.size + 1, 0, none⟩) HLO.out (.int .i64 0)).setLow (p := ⟨w.heap.size + 1, 1, none⟩) HLO.out (.int .i64 0)).setLow (p := ⟨w.heap.size + 1, 2, none⟩) HLO.out (.slice none 0 0)
    simp only [List.setIfInBounds_toArray, List.set_cons_zero, List.set_cons_succ] at hBZ
    have hsz : w2.heap.size ≤ (((w2.setCell ⟨w.heap.size + 1, 0, none⟩ (.int .i64 0)).setCell ⟨w.heap.size + 1, 1, none⟩ (.int .i64 0)).setCell ⟨w.heap.size + 1, 2, none⟩ (.slice none 0 0)).heap.size := by simp [World.setCell]
    generalize ((w2.setCell ⟨w.heap.size + 1, 0, none⟩ (.int .i64 0)).setCell ⟨w.heap.size + 1, 1, none⟩ (.int .i64 0)).setCell ⟨w.heap.size + 1, 2, none⟩ (.slice none 0 0) = WZ at hBZ hGZ hFZ hsz ⊢
    have r0 := hBZ.cell 0
    have r1 := hBZ.cell 1
    have r2 := hBZ.cell 2
    simp only [List.getElem?_toArray, List.getElem?_cons_zero, List.getElem?_cons_succ] at r0 r1 r2
    refine bodyPost_ret (v := .tuple #[.agg #[.int .i64 0, .int .i64 0, .slice none 0 0], .bool false]) ?_ rfl ?_
    · simp [results, Try.results23, go_sem, r0, r1, r2]
    · exact ⟨0, 0, none, 0, 0, by rw [HV.out]; rfl, by rw [HV.out]; exact hFZ.raise hsz HB.out.size, hGZ⟩
  · rw [hf] at HQA
    have HV := Lib.hid (show nearV u l xs N = bestP nearerB u l xs n N by unfold nearV; rw [hf, hlx]; rfl)
    have hf' := hf
    simp only [Bool.and_eq_true, decide_eq_true_eq] at hf'
    obtain ⟨hfr, hN⟩ := hf'
    obtain ⟨⟨u0, u1⟩, ⟨l0, l1⟩, k1, k2⟩ := frame_bd hfr
    have hn8 : n ≤ 8 := by omega
    have HXI := Lib.hid (frame_in hfr)
    have HTI := Lib.hid (best_way nearer_swo (u := u) (l := l) (xs := xs) u0 u1 l1 n N (by omega))
    have HPN := Lib.hid (pick_near (u := u) (l := l) hlx N)
    go_enter Try.func23, Try.ntmps23
    go_wp2_with fail
    rw [HW.out]
    refine HQA.out.mono ?_
    rintro e w2 ⟨rfl, hb⟩
    have HK2 := Lib.hid (HK.out.below hb HK.out.lt)
    have RX2 := Lib.hid (RX.out.below (hb.mono Z1.out))
    have Z2 := Lib.hid (Nat.le_trans Z1.out hb.size)
    have HB2 := Lib.hid (ext_trans HB.out hb)
    have x0 := HK2.out.cell 0
    have x1 := HK2.out.cell 1
    have x2 := HK2.out.cell 2
    simp only [List.getElem?_toArray, List.getElem?_cons_zero, List.getElem?_cons_succ] at x0 x1 x2
    have H42 := Lib.hid (H4.out.below hb H4.out.lt)
    have HS12 := Lib.hid hb.size
    clear hb
    go_wp2_with fail
    refine (l13Best_any u l A n c B xs N _ RX2.out Z2.out hfr hN hN2).mono ?_
    rintro e w3 ⟨U, L, a, m, k, rfl, hfo, hb3⟩
    rw [HPN.out] at hfo ⊢
    have HBW := Lib.hid (HTI.out)
    clear x0 x1 x2
    have hl2 := HK2.out.lt
    have HK3 := Lib.hid (HK2.out.below hb3 hl2)
    have RX3 := Lib.hid (RX2.out.below (hb3.mono Z2.out))
    have Z3 := Lib.hid (Nat.le_trans Z2.out hb3.size)
    have HB3 := Lib.hid (ext_trans HB2.out hb3)
    have x0 := HK3.out.cell 0
    have x1 := HK3.out.cell 1
    have x2 := HK3.out.cell 2
    simp only [List.getElem?_toArray, List.getElem?_cons_zero, List.getElem?_cons_succ] at x0 x1 x2
    have HFO := Lib.hid hfo
    have H43 := Lib.hid (H42.out.below hb3 H42.out.lt)
    have hbox := ext_alloc (Below.refl w3.heap.size w3) (.cells #[.int .i64 U, .int .i64 L, .slice a m k] 33)
    have hbk := Blk.new w3 33 #[.int .i64 U, .int .i64 L, .slice a m k]
    generalize hw4 : w3.alloc (.cells #[.int .i64 U, .int .i64 L, .slice a m k] 33) = w4 at hbox hbk
    have HW4 := Lib.hid hw4
    have HBK := Lib.hid hbk
    have HBOX := Lib.hid hbox
    have HK4 := Lib.hid (HK3.out.below hbox HK3.out.lt)
    have RX4 := Lib.hid (RX3.out.below (hbox.mono Z3.out))
    have Z4 := Lib.hid (Nat.le_trans Z3.out hbox.size)
    have HB4 := Lib.hid (ext_trans HB3.out hbox)
    have hl4 := HK4.out.lt
    have hl3 := hbk.lt
    have y0 := HK4.out.cell 0
    have y1 := HK4.out.cell 1
    have y2 := HK4.out.cell 2
    have z0 := hbk.cell 0
    have z1 := hbk.cell 1
    have z2 := hbk.cell 2
    simp only [List.getElem?_toArray, List.getElem?_cons_zero, List.getElem?_cons_succ] at y0 y1 y2 z0 z1 z2
    have hl33 := HK3.out.lt
    clear hfo hb3 hbox hbk hw4
    have hg4 := H43.out.lt
    have f0 := H43.out.frozen 0
    have f1 := H43.out.frozen 1
    have f2 := H43.out.frozen 2
    have v0 := H43.out.cell 0
    have v1 := H43.out.cell 1
    have v2 := H43.out.cell 2
    simp only [List.getElem?_toArray, List.getElem?_cons_zero, List.getElem?_cons_succ] at v0 v1 v2
    obtain ⟨W, hWW⟩ : ∃ W, W = bestP nearerB u l xs n N := ⟨_, rfl⟩
    rw [← hWW] at HFO HV ⊢
    clear hWW HPN HBW HTI
    obtain ⟨ok, hok⟩ : ∃ ok, ok = W.ok := ⟨_, rfl⟩
    rw [← hok]
    have HOK := Lib.hid hok
    clear hok
    go_wp2_with fail
    have h4 := H43.out
    have hF0 : FrOk w3 w3.heap.size w1.heap.size u l W U L a m k := HFO.out.raise (Nat.le_refl _) HS12.out
    have hBZ := ((h4.set_ 0 (.int .i64 U)).set_ 1 (.int .i64 L)).set_ 2 (.slice a m k)
    have hGZ := ext_set (ext_set (ext_set HB3.out (p := ⟨w.heap.size + 1, 0, none⟩) (by show w.heap.size ≤ w.heap.size + 1; omega) (.int .i64 U)) (p := ⟨w.heap.size + 1, 1, none⟩) (by show w.heap.size ≤ w.heap.size + 1; omega) (.int .i64 L)) (p := ⟨w.heap.size + 1, 2, none⟩) (by show w.heap.size ≤ w.heap.size + 1; omega) (.slice a m k)
    have hFZ := ((hF0.setLow (p := ⟨w.heap.size + 1, 0, none⟩) HLO.out (.int .i64 U)).setLow (p := ⟨w.heap.size + 1, 1, none⟩) HLO.out (.int .i64 L)).setLow (p := ⟨w.heap.size + 1, 2, none⟩) HLO.out (.slice a m k)
    simp only [List.setIfInBounds_toArray, List.set_cons_zero, List.set_cons_succ] at hBZ
    have hsz : w3.heap.size ≤ (((w3.setCell ⟨w.heap.size + 1, 0, none⟩ (.int .i64 U)).setCell ⟨w.heap.size + 1, 1, none⟩ (.int .i64 L)).setCell ⟨w.heap.size + 1, 2, none⟩ (.slice a m k)).heap.size := by simp [World.setCell]
    generalize ((w3.setCell ⟨w.heap.size + 1, 0, none⟩ (.int .i64 U)).setCell ⟨w.heap.size + 1, 1, none⟩ (.int .i64 L)).setCell ⟨w.heap.size + 1, 2, none⟩ (.slice a m k) = W0 at hBZ hGZ hFZ hsz ⊢
    have hFZ := hFZ.below ((Below.refl w3.heap.size W0).alloc hsz (Obj.cells #[.int .i64 U, .int .i64 L, .slice a m k] 33))
    have hBZ := hBZ.alloc (Obj.cells #[.int .i64 U, .int .i64 L, .slice a m k] 33)
    have hGZ := ext_alloc hGZ (Obj.cells #[.int .i64 U, .int .i64 L, .slice a m k] 33)
    have hsz : w3.heap.size ≤ (W0.alloc (Obj.cells #[.int .i64 U, .int .i64 L, .slice a m k] 33)).heap.size := by have := hsz; simp; omega
    generalize W0.alloc (Obj.cells #[.int .i64 U, .int .i64 L, .slice a m k] 33) = WZ at hBZ hGZ hFZ hsz ⊢
    have r0 := hBZ.cell 0
    have r1 := hBZ.cell 1
    have r2 := hBZ.cell 2
    simp only [List.getElem?_toArray, List.getElem?_cons_zero, List.getElem?_cons_succ] at r0 r1 r2
    refine bodyPost_ret (v := .tuple #[.agg #[.int .i64 U, .int .i64 L, .slice a m k], .bool ok]) ?_ rfl ?_
    · simp [results, Try.results23, go_sem, r0, r1, r2]
    · exact ⟨U, L, a, m, k, by rw [HV.out, HOK.out], by rw [HV.out]; exact hFZ.raise hsz HB.out.size, hGZ⟩
/-- The moves to the nearest target. -/
def toV (u l : Int) (xs : List Rod) (N : Int) : List Bmv := if (nearV u l xs N).ok = true then mvL xs (nearV u l xs N).rods else []
set_option maxRecDepth 100000 in
set_option maxHeartbeats 8000000 in
theorem sMovesTo_any (u l : Int) (A : Option Addr) (n c B : Nat) (xs : List Rod) (N : Int) (w : World) (h : Reads w B 2 A n ((rodF xs).map (Value.int .i64))) (hB : B ≤ w.heap.size) (hn : n ≤ 1048576) (hN2 : N ≤ 9223372036854775807) :
    Calls Try.prog 27 #[.agg #[.int .i64 u, .int .i64 l, .slice A n c], .int .i64 N] w fun e w' => Gives 63 3 (bmvF (toV u l xs N)) (nearV u l xs N).ok w e w' := by
  have hlx := h.rodLen
  have hb := ext_alloc (Below.refl w.heap.size w) (.cells #[.int .i64 u, .int .i64 l, .slice A n c] 33)
  have hBk := Blk.new w 33 #[.int .i64 u, .int .i64 l, .slice A n c]
  have hq := l13Asked_any u l A n c B xs N _ (h.below (hb.mono hB)) (Nat.le_trans hB hb.size) hn
  generalize hw1 : w.alloc (.cells #[.int .i64 u, .int .i64 l, .slice A n c] 33) = w1 at hb hBk hq
  have HB := Lib.hid hb
  have HK := Lib.hid hBk
  have HW := Lib.hid hw1
  have HQA := Lib.hid hq
  have RX := Lib.hid (h.below (hb.mono hB))
  have Z1 := Lib.hid (Nat.le_trans hB hb.size)
  clear h hb hBk hw1 hq
  cases hf : frameB u l xs && decide (0 ≤ N)
  · rw [hf] at HQA
    have HV := Lib.hid (show nearV u l xs N = way0 by unfold nearV; rw [hf]; rfl)
    have HT := Lib.hid (show toV u l xs N = [] by unfold toV; rw [HV.out]; rfl)
    go_enter Try.func27, Try.ntmps27
    go_wp2_with fail
    rw [HW.out]
    refine HQA.out.mono ?_
    rintro e w' ⟨rfl, hb⟩
    go_wp2_with fail
    go_ret2
    rw [HT.out, HV.out]
    exact ⟨_, _, _, rfl, Acc.empty (ext_trans HB.out hb)⟩
  · rw [hf] at HQA
    have HV := Lib.hid (show nearV u l xs N = bestP nearerB u l xs n N by unfold nearV; rw [hf, hlx]; rfl)
    have HT := Lib.hid (show toV u l xs N = if (bestP nearerB u l xs n N).ok = true then mvL xs (bestP nearerB u l xs n N).rods else [] by unfold toV; rw [HV.out])
    have hf' := hf
    simp only [Bool.and_eq_true, decide_eq_true_eq] at hf'
    obtain ⟨hfr, hN⟩ := hf'
    obtain ⟨⟨u0, u1⟩, ⟨l0, l1⟩, k1, k2⟩ := frame_bd hfr
    have hn8 : n ≤ 8 := by omega
    have HXI := Lib.hid (frame_in hfr)
    have HTI := Lib.hid (best_way nearer_swo (u := u) (l := l) (xs := xs) u0 u1 l1 n N (by omega))
    have HPN := Lib.hid (pick_near (u := u) (l := l) hlx N)
    go_enter Try.func27, Try.ntmps27
    go_wp2_with fail
    rw [HW.out]
    refine HQA.out.mono ?_
    rintro e w2 ⟨rfl, hb⟩
    have HK2 := Lib.hid (HK.out.below hb HK.out.lt)
    have RX2 := Lib.hid (RX.out.below (hb.mono Z1.out))
    have Z2 := Lib.hid (Nat.le_trans Z1.out hb.size)
    have HB2 := Lib.hid (ext_trans HB.out hb)
    have x0 := HK2.out.cell 0
    have x1 := HK2.out.cell 1
    have x2 := HK2.out.cell 2
    simp only [List.getElem?_toArray, List.getElem?_cons_zero, List.getElem?_cons_succ] at x0 x1 x2
    clear hb
    go_wp2_with fail
    refine (l13Best_any u l A n c B xs N _ RX2.out Z2.out hfr hN hN2).mono ?_
    rintro e w3 ⟨U, L, a, m, k, rfl, hfo, hb3⟩
    rw [HPN.out] at hfo ⊢
    have HBW := Lib.hid (HTI.out)
    clear x0 x1 x2
    have hl2 := HK2.out.lt
    have HK3 := Lib.hid (HK2.out.below hb3 hl2)
    have RX3 := Lib.hid (RX2.out.below (hb3.mono Z2.out))
    have Z3 := Lib.hid (Nat.le_trans Z2.out hb3.size)
    have HB3 := Lib.hid (ext_trans HB2.out hb3)
    have x0 := HK3.out.cell 0
    have x1 := HK3.out.cell 1
    have x2 := HK3.out.cell 2
    simp only [List.getElem?_toArray, List.getElem?_cons_zero, List.getElem?_cons_succ] at x0 x1 x2
    have HFO := Lib.hid hfo
    have hbox := ext_alloc (Below.refl w3.heap.size w3) (.cells #[.int .i64 U, .int .i64 L, .slice a m k] 33)
    have hbk := Blk.new w3 33 #[.int .i64 U, .int .i64 L, .slice a m k]
    generalize hw4 : w3.alloc (.cells #[.int .i64 U, .int .i64 L, .slice a m k] 33) = w4 at hbox hbk
    have HW4 := Lib.hid hw4
    have HBK := Lib.hid hbk
    have HBOX := Lib.hid hbox
    have HK4 := Lib.hid (HK3.out.below hbox HK3.out.lt)
    have RX4 := Lib.hid (RX3.out.below (hbox.mono Z3.out))
    have Z4 := Lib.hid (Nat.le_trans Z3.out hbox.size)
    have HB4 := Lib.hid (ext_trans HB3.out hbox)
    have hl4 := HK4.out.lt
    have hl3 := hbk.lt
    have y0 := HK4.out.cell 0
    have y1 := HK4.out.cell 1
    have y2 := HK4.out.cell 2
    have z0 := hbk.cell 0
    have z1 := hbk.cell 1
    have z2 := hbk.cell 2
    simp only [List.getElem?_toArray, List.getElem?_cons_zero, List.getElem?_cons_succ] at y0 y1 y2 z0 z1 z2
    have hl33 := HK3.out.lt
    clear hfo hb3 hbox hbk hw4
    obtain ⟨W, hWW⟩ : ∃ W, W = bestP nearerB u l xs n N := ⟨_, rfl⟩
    rw [← hWW] at HFO HV HBW HT ⊢
    clear hWW
    rcases HBW.out with h | ⟨s, hsl, hsi, h⟩
    · have HH := Lib.hid h
      have hok : W.ok = false := by rw [h]; rfl
      have HT2 := Lib.hid (show toV u l xs N = [] by rw [HT.out, hok]; rfl)
      have HO2 := Lib.hid (show (nearV u l xs N).ok = false by rw [HV.out, hok])
      clear h
      rw [hok]
      go_wp2_with fail
      rw [HW4.out]
      go_ret2
      rw [HT2.out, HO2.out]
      have hE := Acc.empty (E := 63) (k := 3) HB4.out
      rw [show w4.heap.size = w3.heap.size + 1 by rw [← HW4.out]; simp] at hE
      exact ⟨_, _, _, rfl, hE⟩
    · have hok : W.ok = true := by rw [h]; rfl
      have hrd : W.rods = s := by rw [h]; rfl
      have HT2 := Lib.hid (show toV u l xs N = mvL xs s by rw [HT.out, hok, hrd]; rfl)
      have HO2 := Lib.hid (show (nearV u l xs N).ok = true by rw [HV.out, hok])
      obtain ⟨rfl, rfl, hr⟩ := HFO.out.yes hok
      rw [hrd] at hr
      have hmn : n = m := by have := hr.rodLen; omega
      subst hmn
      have HR4 := Lib.hid (hr.below HBOX.out)
      rw [hok]
      clear h hr hok hrd
      go_wp2_with fail
      rw [HW4.out]
      refine (l4Between_any U L U L A a n c k _ _ xs s _ RX4.out HR4.out Z4.out HBOX.out.size hn8 HXI.out hsi).mono ?_
      rintro e w6 ⟨A6, n6, c6, rfl, a6⟩
      go_wp2_with fail
      go_ret2
      rw [HT2.out, HO2.out]
      exact ⟨_, _, _, rfl, a6.since HB4.out⟩
end Go.Proofs.Ytkgbcjiinicffaa
