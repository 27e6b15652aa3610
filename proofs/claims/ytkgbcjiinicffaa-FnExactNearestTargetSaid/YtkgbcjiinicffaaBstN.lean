/- The program's best way, by 'nearer'. No condition. -/
import Derived.Test.YtkgbcjiinicffaaBst
import Derived.Test.YtkgbcjiinicffaaIns
import Derived.Test.YtkgbcjiinicffaaHeld
import Derived.Deep.CutRange
namespace Go.Proofs.Ytkgbcjiinicffaa
open Go.RowKit

set_option maxRecDepth 100000 in
set_option maxHeartbeats 16000000 in
theorem best_near_any (u l : Int) (A : Option Addr) (n c Bd : Nat) (xs : List Rod) (h0 : 0 ≤ u) (h1 : u ≤ 2) (h2 : l ≤ 5) (hx : ∀ x ∈ xs, RodIn x) (hn : n ≤ 8) (r : Nat) : ∀ (N : Int) (w : World), Reads w Bd 2 A n ((rodF xs).map (Value.int .i64)) → Bd ≤ w.heap.size → r ≤ n → 0 ≤ N → N ≤ 9223372036854775807 →
    Calls Try.prog 45 #[.agg #[.int .i64 u, .int .i64 l, .slice A n c], .int .i64 (r : Int), .int .i64 N, .func (.func 58) #[] #[]] w fun e w' => ∃ (a : Option Addr) (m c' : Nat), e = .returned ((bestP nearerB u l xs r N).val a m c') ∧ Acc w w' 47 2 a m c' (rodF (bestP nearerB u l xs r N).rods) := by
  induction r with
  | zero =>
    intro N w _ _ _ hN hN2
    have hb := ext_alloc (ext_alloc (Below.refl w.heap.size w) (.cells #[.int .i64 u, .int .i64 l, .slice A n c] 33))
    by_cases hz : N = 0
    · subst hz
      go_enter Try.func45, Try.ntmps45
      go_wp2_with fail
      refine bodyPost_ret (v := .agg #[.slice none 0 0, .int .i64 0, .int .i64 0, .bool true]) (by simp [results, Try.results45, go_sem]) rfl ?_
      exact ⟨none, 0, 0, rfl, Acc.nil (hb _)⟩
    · have e : (N == 0) = false := by simp [hz]
      go_enter Try.func45, Try.ntmps45
      go_wp2_with fail
      refine bodyPost_ret (v := .agg #[.slice none 0 0, .int .i64 0, .int .i64 0, .bool false]) (by simp [results, Try.results45, go_sem]) rfl ?_
      exact ⟨none, 0, 0, by simp [bestP, Way.val, hz], by simpa [bestP, rodF] using Acc.nil (hb _)⟩
  | succ r ih =>
    intro N w h hB hr hN hN2
    have IH := Lib.hid ih
    have hlx := h.rodLen
    obtain ⟨x, hxr⟩ : ∃ x, xs[r]? = some x := ⟨_, List.getElem?_eq_getElem (by omega)⟩
    have HXR := Lib.hid hxr
    have HXI := Lib.hid (hx x (List.mem_of_getElem? hxr))
    have HXA := Lib.hid hx
    have e1 : (((r + 1 : Nat) : Int) == 0) = false := by simp; omega
    have e2 : IntKind.i64.wrap (((r + 1 : Nat) : Int) - 1) = (r : Int) := by rw [IntWalk.i64_in _ ⟨by omega, by omega⟩]; omega
    have hm : N.tmod 10 = N % 10 := wrem hN
    have hb := ext_alloc (ext_alloc (ext_alloc (Below.refl w.heap.size w) (.cells #[.int .i64 u, .int .i64 l, .slice A n c] 33)) (.cells #[.slice none 0 0, .int .i64 0, .int .i64 0, .bool false] 57)) (.cells #[.slice none 0 0, .int .i64 0, .int .i64 0, .bool false] 57)
    have hk1 := ((Blk.new w 33 #[.int .i64 u, .int .i64 l, .slice A n c]).alloc (.cells #[.slice none 0 0, .int .i64 0, .int .i64 0, .bool false] 57)).alloc (.cells #[.slice none 0 0, .int .i64 0, .int .i64 0, .bool false] 57)
    have hk8 := (Blk.new (w.alloc (.cells #[.int .i64 u, .int .i64 l, .slice A n c] 33)) 57 #[.slice none 0 0, .int .i64 0, .int .i64 0, .bool false]).alloc (.cells #[.slice none 0 0, .int .i64 0, .int .i64 0, .bool false] 57)
    have hk9 := Blk.new ((w.alloc (.cells #[.int .i64 u, .int .i64 l, .slice A n c] 33)).alloc (.cells #[.slice none 0 0, .int .i64 0, .int .i64 0, .bool false] 57)) 57 #[.slice none 0 0, .int .i64 0, .int .i64 0, .bool false]
    have hz1 : (w.alloc (.cells #[.int .i64 u, .int .i64 l, .slice A n c] 33)).heap.size = w.heap.size + 1 := by simp
    have hz2 : ((w.alloc (.cells #[.int .i64 u, .int .i64 l, .slice A n c] 33)).alloc (.cells #[.slice none 0 0, .int .i64 0, .int .i64 0, .bool false] 57)).heap.size = w.heap.size + 1 + 1 := by simp
    rw [hz1] at hk8
    rw [hz2] at hk9
    generalize hw1 : ((w.alloc (.cells #[.int .i64 u, .int .i64 l, .slice A n c] 33)).alloc (.cells #[.slice none 0 0, .int .i64 0, .int .i64 0, .bool false] 57)).alloc (.cells #[.slice none 0 0, .int .i64 0, .int .i64 0, .bool false] 57) = w1 at hb hk1 hk8 hk9
    generalize hK : ((r + 1 : Nat) : Int) = K at e1 e2 ⊢
    have HB := Lib.hid hb
    have K1 := Lib.hid hk1
    have K8 := Lib.hid hk8
    have K9 := Lib.hid hk9
    have HW := Lib.hid hw1
    have RX := Lib.hid (h.below (hb.mono hB))
    have Z1 := Lib.hid (Nat.le_trans hB hb.size)
    have ZS := Lib.hid (show w1.heap.size = w.heap.size + 1 + 1 + 1 by rw [← hw1]; simp)
    clear hb hk1 hk8 hk9 hw1 hz1 hz2 ih h hxr hK
    go_enter Try.func45, Try.ntmps45
    go_wp2_with fail
    rw [HW.out]
    go_loopw [10] (fun v wr => ∃ (val : Int) (cur : Way) (a : Option Addr) (m c' : Nat), v = .int .i64 val ∧ StW nearerB u l xs r N val cur ∧ WayIn (r + 1) cur ∧
      Blk wr (w.heap.size + 1 + 1) 57 #[.slice a m c', .int .i64 cur.m, .int .i64 cur.b, .bool cur.ok] ∧ Acc w wr 47 2 a m c' (rodF cur.rods) ∧ w1.grownBy wr (some (w.heap.size + 1 + 1))) (fun v _ => (40 - intOf v).toNat)
    case atStart => exact ⟨N % 10, way0, none, 0, 0, by rfl, ⟨.inl ⟨rfl, rfl⟩⟩, wayIn0 _, K9.out, by simpa [way0, rodF] using Acc.nil HB.out, World.grownBy.refl _ _⟩
    case round =>
      obtain ⟨wq, rfl⟩ : ∃ wq : World, wq = wr := ⟨_, rfl⟩
      obtain ⟨val, cur, a, m, c', rfl, hst, hin, hbk, hacc, hgr⟩ := hrel
      obtain ⟨v0, v1⟩ := hst.bd
      have HST := Lib.hid hst
      have HIN := Lib.hid hin
      have HBK := Lib.hid hbk
      have HA := Lib.hid hacc
      have HG := Lib.hid hgr
      have ZQ := Lib.hid (show w1.heap.size ≤ wq.heap.size from hgr.size)
      have KF := Lib.hid (K1.out.grown hgr (by intro e; injection e with e; omega))
      have K8Q := Lib.hid (K8.out.grown hgr (by intro e; injection e with e; omega))
      have x0 := KF.out.cell 0
      have x1 := KF.out.cell 1
      have x2 := KF.out.cell 2
      simp only [List.getElem?_toArray, List.getElem?_cons_zero, List.getElem?_cons_succ] at x0 x1 x2
      have RXQ := Lib.hid (RX.out.past hgr Z1.out (RX.out.lowOf (by omega)))
      clear hst hin hbk hacc hgr
      by_cases hc : val ≤ 15 ∧ val ≤ N
      · obtain ⟨d1, d2⟩ := hc
        have hq := wquo (x := N - val) (y := 10) (by omega) (by omega) (by omega)
        have HV := Lib.hid (HST.out.next d1 d2 hN HXR.out)
        have HPI := Lib.hid (bestP_in (lt := nearerB) h0 h1 h2 hx r ((N - val) / 10) (by omega))
        have hfi := formsR_in (v := val) h0 h1 h2
        have hfl := formsR_le (l := l) (v := val) h0 h1
        have hff := formsR_flat u l val
        go_wp2_with fail
        refine (IH.out ((N - val) / 10) wq RXQ.out (Nat.le_trans Z1.out ZQ.out) (by omega) (by omega) (by omega)).mono ?_
        rintro e w3 ⟨bA, bn, bc, rfl, bacc⟩
        have HZ3 := Lib.hid bacc.ext.size
        generalize hBW : bestP nearerB u l xs r ((N - val) / 10) = B at bacc HV HPI
        clear x0 x1 x2
        dsimp only [Way.val]
        cases hbo : B.ok
        · have HV' := Lib.hid (show StW nearerB u l xs r N (val + 10) cur by have h := HV.out; rwa [stepW_no hbo] at h)
          have HBO := Lib.hid hbo
          clear hbo
          have hb3 := bacc.ext
          have hax := ext_alloc hb3 (.cells #[.slice bA bn bc, .int .i64 B.m, .int .i64 B.b, .bool false] 57)
          have hkb := Blk.new w3 57 #[.slice bA bn bc, .int .i64 B.m, .int .i64 B.b, .bool false]
          have h4s : (w3.alloc (.cells #[.slice bA bn bc, .int .i64 B.m, .int .i64 B.b, .bool false] 57)).heap.size = w3.heap.size + 1 := by simp
          have hba := bacc.alloc (.cells #[.slice bA bn bc, .int .i64 B.m, .int .i64 B.b, .bool false] 57)
          generalize hw4 : w3.alloc (.cells #[.slice bA bn bc, .int .i64 B.m, .int .i64 B.b, .bool false] 57) = w4 at hax hkb h4s hba
          have HW4 := Lib.hid hw4
          have KB := Lib.hid hkb
          have BA := Lib.hid hba
          have S4 := Lib.hid h4s
          have K94 := Lib.hid (HBK.out.below hax HBK.out.lt)
          have KF3 := KF.out.below hb3 KF.out.lt
          have KF4 := Lib.hid (KF.out.below hax KF.out.lt)
          have hl3 := KF3.lt
          have K84 := Lib.hid (K8Q.out.below hax K8Q.out.lt)
          have RX4 := Lib.hid (RXQ.out.below (hax.mono (Nat.le_trans Z1.out ZQ.out)))
          have HA4 := Lib.hid (HA.out.later hax)
          have HG4 := Lib.hid (grownBy_trans HG.out (below_any hax _))
          have Z4 := Lib.hid (Nat.le_trans ZQ.out hax.size)
          have x0 := KF3.cell 0
          have x1 := KF3.cell 1
          have x2 := KF3.cell 2
          simp only [List.getElem?_toArray, List.getElem?_cons_zero, List.getElem?_cons_succ] at x0 x1 x2
          clear hb3 hax hkb h4s hba hw4 bacc KF3
          go_wp2_with fail
          go_roundw
          case rel => exact ⟨val + 10, cur, a, m, c', by go_num, HV'.out, HIN.out, HW4.out ▸ K94.out, HW4.out ▸ HA4.out, HW4.out ▸ HG4.out⟩
          case measure => simp [intOf]; omega
        · have HV' := Lib.hid (show StW nearerB u l xs r N (val + 10) (foldW nearerB (r : Int) x B (formsR u l val) cur) by have h := HV.out; rwa [stepW_ok hbo] at h)
          have HBO := Lib.hid hbo
          clear hbo
          have hb3 := bacc.ext
          have hax := ext_alloc hb3 (.cells #[.slice bA bn bc, .int .i64 B.m, .int .i64 B.b, .bool true] 57)
          have hkb := Blk.new w3 57 #[.slice bA bn bc, .int .i64 B.m, .int .i64 B.b, .bool true]
          have h4s : (w3.alloc (.cells #[.slice bA bn bc, .int .i64 B.m, .int .i64 B.b, .bool true] 57)).heap.size = w3.heap.size + 1 := by simp
          have hba := bacc.alloc (.cells #[.slice bA bn bc, .int .i64 B.m, .int .i64 B.b, .bool true] 57)
          generalize hw4 : w3.alloc (.cells #[.slice bA bn bc, .int .i64 B.m, .int .i64 B.b, .bool true] 57) = w4 at hax hkb h4s hba
          have HW4 := Lib.hid hw4
          have KB := Lib.hid hkb
          have BA := Lib.hid hba
          have S4 := Lib.hid h4s
          have K94 := Lib.hid (HBK.out.below hax HBK.out.lt)
          have KF3 := KF.out.below hb3 KF.out.lt
          have KF4 := Lib.hid (KF.out.below hax KF.out.lt)
          have hl3 := KF3.lt
          have K84 := Lib.hid (K8Q.out.below hax K8Q.out.lt)
          have RX4 := Lib.hid (RXQ.out.below (hax.mono (Nat.le_trans Z1.out ZQ.out)))
          have HA4 := Lib.hid (HA.out.later hax)
          have HG4 := Lib.hid (grownBy_trans HG.out (below_any hax _))
          have Z4 := Lib.hid (Nat.le_trans ZQ.out hax.size)
          have x0 := KF3.cell 0
          have x1 := KF3.cell 1
          have x2 := KF3.cell 2
          simp only [List.getElem?_toArray, List.getElem?_cons_zero, List.getElem?_cons_succ] at x0 x1 x2
          clear hb3 hax hkb h4s hba hw4 bacc KF3
          go_wp2_with fail
          rw [HW4.out]
          refine (formsOf_any u l val _ h0 (by omega) (by omega) (by omega)).mono ?_
          rintro e w5 ⟨fA, fn, fc, rfl, facc⟩
          rw [← hff] at facc
          have hfn : (formsR u l val).length = fn := by have h1 := facc.len; rw [rodF_len] at h1; omega
          generalize formsR u l val = fs at facc HV' hfi hfl hfn
          have HFI := Lib.hid hfi
          have HFN := Lib.hid hfn
          have hb5 := facc.ext
          have Z45 := Lib.hid (Nat.le_trans Z4.out hb5.size)
          have KB5 := Lib.hid (KB.out.below hb5 KB.out.lt)
          have K95 := Lib.hid (K94.out.below hb5 K94.out.lt)
          have KF5 := Lib.hid (KF4.out.below hb5 KF4.out.lt)
          have RX5 := Lib.hid (RX4.out.below (hb5.mono (Nat.le_trans Z1.out Z4.out)))
          have HA5 := Lib.hid (HA4.out.later hb5)
          have HG5 := Lib.hid (grownBy_trans HG4.out (below_any hb5 _))
          have BR5 := Lib.hid ((BA.out.reads).below hb5)
          have BN5 := Lib.hid (fun (_ : 0 < bn) y (hy : bA = some y) => show y.block ≠ w.heap.size + 1 + 1 by have h1 := BA.out.newBlock y hy; have h2 := HBK.out.lt; omega)
          have FR5 := Lib.hid facc.reads
          have FN5 := Lib.hid (fun (_ : 0 < fn) y (hy : fA = some y) => show y.block ≠ w.heap.size + 1 + 1 by have h1 := facc.newBlock y hy; have h2 := K94.out.lt; omega)
          have FL := Lib.hid (show (fs.length : Int) ≤ 3 by omega)
          have hfn3 : fn ≤ 3 := by omega
          have hl35 : w3.heap.size < w5.heap.size := KB5.out.lt
          have hS5 : w3.heap.size ≠ w.heap.size + 1 + 1 := by have h1 := HBK.out.lt; have h2 := HZ3.out; omega
          have hS4 := S4.out
          have hf9 : w.heap.size ≠ w.heap.size + 1 + 1 := by omega
          have Z1' := Lib.hid (Nat.le_trans Z1.out Z45.out)
          clear hfi hfn facc hff hfl x0 x1 x2
          go_wp2_with fail
          go_loopw [51] (fun i wr => ∃ (k : Nat) (a : Option Addr) (m c' : Nat), i = .int .i64 (k : Int) ∧ k ≤ fn ∧
            Blk wr (w.heap.size + 1 + 1) 57 #[.slice a m c', .int .i64 (foldW nearerB (r : Int) x B (fs.take k) cur).m, .int .i64 (foldW nearerB (r : Int) x B (fs.take k) cur).b, .bool (foldW nearerB (r : Int) x B (fs.take k) cur).ok] ∧
            Acc w wr 47 2 a m c' (rodF (foldW nearerB (r : Int) x B (fs.take k) cur).rods) ∧ w5.grownBy wr (some (w.heap.size + 1 + 1))) (fun i _ => fn - (intOf i).toNat)
          case atStart => exact ⟨0, a, m, c', rfl, by omega, K95.out, HA5.out, World.grownBy.refl _ _⟩
          case round =>
            obtain ⟨wo, rfl⟩ : ∃ wo : World, wo = wr := ⟨_, rfl⟩
            obtain ⟨k, a, m, c', rfl, hk, hbk, hacc, hgr⟩ := hrel
            have K9O := Lib.hid hbk
            have HAO := Lib.hid hacc
            have HGO := Lib.hid hgr
            have ZO := Lib.hid hgr.size
            have KFO := Lib.hid (KF5.out.grown hgr (by intro e; injection e with e; exact hf9 e))
            have KBO := Lib.hid (KB5.out.grown hgr (by intro e; injection e with e; exact hS5 e))
            have RXO := Lib.hid (RX5.out.past hgr Z1'.out (RX5.out.lowOf (by omega)))
            have BRO := Lib.hid (BR5.out.past hgr (by have := hb5.size; omega) BN5.out)
            have FRO := Lib.hid (FR5.out.past hgr (Nat.le_refl _) FN5.out)
            have k0 : (0 : Int) ≤ k := by omega
            clear hbk hacc hgr
            by_cases hlt : k < fn
            · have k1 : (k : Int) < fn := by omega
              obtain ⟨fb, fo, f, hfA, hfx, hc0, hc1⟩ := FRO.out.rod hlt
              subst hfA
              obtain ⟨xb, xo, x', hxA, hxx, hd0, hd1⟩ := RXO.out.rod (show r < n by omega)
              rw [HXR.out] at hxx
              injection hxx with hxx
              subst hxA hxx
              have HFX := Lib.hid hfx
              have HNX := Lib.hid (foldW_next (lt := nearerB) (k := (r : Int)) (x := x) (B := B) (W := cur) hfx)
              have HFf := HFI.out f (List.mem_of_getElem? hfx)
              obtain ⟨c6, hc6⟩ : ∃ c6, c6 = foldW nearerB (r : Int) x B (fs.take k) cur := ⟨_, rfl⟩
              have HI6 := Lib.hid (show WayIn (r + 1) c6 by rw [hc6]; exact foldW_in HPI.out HBO.out HXI.out _ _ (fun g hg => HFI.out g (List.mem_of_mem_take hg)) HIN.out)
              rw [← hc6] at HNX K9O HAO
              clear hc6
              have b6 := ext_alloc (Below.refl wo.heap.size wo) (.cells #[.int .i64 f.a, .int .i64 f.b] 47)
              have hkf := Blk.new wo 47 #[.int .i64 f.a, .int .i64 f.b]
              generalize hw6 : wo.alloc (.cells #[.int .i64 f.a, .int .i64 f.b] 47) = w6 at b6 hkf
              have HW6 := Lib.hid hw6
              have K13 := Lib.hid hkf
              have B6 := Lib.hid b6
              have KF6 := Lib.hid (KFO.out.below b6 KFO.out.lt)
              have KB6 := Lib.hid (KBO.out.below b6 KBO.out.lt)
              have K96 := Lib.hid (K9O.out.below b6 K9O.out.lt)
              have BR6 := Lib.hid ((BRO.out.below (b6.mono (Nat.le_trans hb5.size ZO.out))).more (Nat.le_refl _))
              have HA6 := Lib.hid (HAO.out.later b6)
              have HG6 := Lib.hid (grownBy_trans HGO.out (below_any b6 _))
              have hf2 := KF6.out.cell 2
              have hk0 := K13.out.cell 0
              have hk1 := K13.out.cell 1
              have hq0 := KB6.out.cell 0
              have hq1 := KB6.out.cell 1
              have hq2 := KB6.out.cell 2
              simp only [List.getElem?_toArray, List.getElem?_cons_zero, List.getElem?_cons_succ] at hf2 hk0 hk1 hq0 hq1 hq2
              have C0 := Lib.hid hf2
              have C1 := Lib.hid (below_cell b6 hd0)
              have C2 := Lib.hid (below_cell b6 hd1)
              have C3 := Lib.hid hk0
              have C4 := Lib.hid hk1
              have D0 := Lib.hid hq0
              have D1 := Lib.hid hq1
              have D2 := Lib.hid hq2
              have bX : Below w6.heap.size w6 w6.drew := ext_drew (Below.refl _ _)
              have hr0 : (0 : Int) ≤ (r : Int) := by omega
              have hr1 : (r : Int) < (n : Int) := by omega
              have hr2 : r < n := by omega
              have BZ6 := Lib.hid (show w5.heap.size ≤ w6.heap.size from Nat.le_trans ZO.out B6.out.size)
              have HMV := Lib.hid (rodMoves_any (r : Int) x f HXI.out HFf)
              clear hf2 hk0 hk1 hq0 hq1 hq2 hd0 hd1 hfx hkf hw6 b6
              go_wp2_with fail
              rw [HW6.out]
              refine wp_region_held_drew (S := (fun W => (W.cell? ⟨w.heap.size, 2, none⟩ = some (.slice (some ⟨xb, xo, none⟩) n c) ∧ W.cell? ⟨xb, xo + r * 2, none⟩ = some (.int .i64 x.a) ∧ W.cell? ⟨xb, xo + r * 2 + 1, none⟩ = some (.int .i64 x.b)) ∧ W.cell? ⟨wo.heap.size, 0, none⟩ = some (.int .i64 f.a) ∧ W.cell? ⟨wo.heap.size, 1, none⟩ = some (.int .i64 f.b))) (by kernel_rfl) ?_ (fun hHeld => ?_)
              · (try dsimp only); exact ⟨⟨below_cell (by assumption) C0.out, below_cell (by assumption) C1.out, below_cell (by assumption) C2.out⟩, below_cell (by assumption) C3.out, below_cell (by assumption) C4.out⟩
              refine wpAnyH_takeD (i := 0) (v := ?_) 55 rfl rfl (by kernel_rfl) (by kernel_rfl) (by kernel_rfl) (fun _ _ _ _ _ h => h) (by rfl) (by assumption) ?_ ?_
              rotate_left; focus (intro w hSw; (try dsimp only at hSw); go_simp; try (with_reducible rfl))
              try simp only [Act.put, List.setIfInBounds_toArray, List.set_cons_zero, List.set_cons_succ]
              refine wpAnyH_takeD (i := 1) (v := ?_) 56 rfl rfl (by kernel_rfl) (by kernel_rfl) (by kernel_rfl) (fun _ _ _ _ _ h => h) (by rfl) (by assumption) ?_ ?_
              rotate_left; focus (intro w hSw; (try dsimp only at hSw); go_simp; try (with_reducible rfl))
              try simp only [Act.put, List.setIfInBounds_toArray, List.set_cons_zero, List.set_cons_succ]
              refine wpAnyH_takeD (i := 2) (v := ?_) 57 rfl rfl (by kernel_rfl) (by kernel_rfl) (by kernel_rfl) (fun _ _ _ _ _ h => h) (by rfl) (by assumption) ?_ ?_
              rotate_left; focus (intro w hSw; (try dsimp only at hSw); go_simp; try (with_reducible rfl))
              try simp only [Act.put, List.setIfInBounds_toArray, List.set_cons_zero, List.set_cons_succ]
              refine wpAnyH_takeD (i := 3) (v := ?_) 58 rfl rfl (by kernel_rfl) (by kernel_rfl) (by kernel_rfl) (fun _ _ _ _ _ h => h) (by rfl) (by assumption) ?_ ?_
              rotate_left; focus (intro w hSw; (try dsimp only at hSw); go_simp; try (with_reducible rfl))
              try simp only [Act.put, List.setIfInBounds_toArray, List.set_cons_zero, List.set_cons_succ]
              refine wpAnyH_takeD (i := 4) (v := ?_) 59 rfl rfl (by kernel_rfl) (by kernel_rfl) (by kernel_rfl) (fun _ _ _ _ _ h => h) (by rfl) (by assumption) ?_ ?_
              rotate_left; focus (intro w hSw; (try dsimp only at hSw); go_simp; try (with_reducible rfl))
              try simp only [Act.put, List.setIfInBounds_toArray, List.set_cons_zero, List.set_cons_succ]
              refine wpAnyH_takeD (i := 5) (v := ?_) 60 rfl rfl (by kernel_rfl) (by kernel_rfl) (by kernel_rfl) (fun _ _ _ _ _ h => h) (by rfl) (by assumption) ?_ ?_
              rotate_left; focus (intro w hSw; (try dsimp only at hSw); go_simp; try (with_reducible rfl))
              try simp only [Act.put, List.setIfInBounds_toArray, List.set_cons_zero, List.set_cons_succ]
              refine wpAnyH_takeD (i := 6) (v := ?_) 61 rfl rfl (by kernel_rfl) (by kernel_rfl) (by kernel_rfl) (fun _ _ _ _ _ h => h) (by rfl) (by assumption) ?_ ?_
              rotate_left; focus (intro w hSw; (try dsimp only at hSw); go_simp; try (with_reducible rfl))
              try simp only [Act.put, List.setIfInBounds_toArray, List.set_cons_zero, List.set_cons_succ]
              refine wpAnyH_takeD (i := 7) (v := ?_) 62 rfl rfl (by kernel_rfl) (by kernel_rfl) (by kernel_rfl) (fun _ _ _ _ _ h => h) (by rfl) (by assumption) ?_ ?_
              rotate_left; focus (intro w hSw; (try dsimp only at hSw); go_simp; try (with_reducible rfl))
              try simp only [Act.put, List.setIfInBounds_toArray, List.set_cons_zero, List.set_cons_succ]
              refine wpAnyH_takeD (i := 8) (v := ?_) 63 rfl rfl (by kernel_rfl) (by kernel_rfl) (by kernel_rfl) (fun _ _ _ _ _ h => h) (by rfl) (by assumption) ?_ ?_
              rotate_left; focus (intro w hSw; (try dsimp only at hSw); go_simp; try (with_reducible rfl))
              try simp only [Act.put, List.setIfInBounds_toArray, List.set_cons_zero, List.set_cons_succ]
              refine wpAnyH_ready (rs := [9]) (by kernel_rfl) (by simp) ?_
              refine AllReadyH.cons rfl (fun K hK => ?_) AllReadyH.nil
              go_simp; (go_at_call 55; refine (HMV.out _).mono ?_; rintro e w7 ⟨oA, on, oc, rfl, oacc⟩); have b7 := ext_trans bX oacc.ext; (try dsimp only)
              refine hK.out _ _ ?_ (fun hHeld => ?_)
              focus ((try dsimp only); exact ⟨⟨below_cell (by assumption) C0.out, below_cell (by assumption) C1.out, below_cell (by assumption) C2.out⟩, below_cell (by assumption) C3.out, below_cell (by assumption) C4.out⟩)
              clear hK K; try simp only [Act.put, List.setIfInBounds_toArray, List.set_cons_zero, List.set_cons_succ]
              refine wpAnyH_takeD (i := 10) (v := ?_) 14 rfl rfl (by kernel_rfl) (by kernel_rfl) (by kernel_rfl) (fun _ _ _ _ _ h => h) (by rfl) (by assumption) ?_ ?_
              rotate_left; focus (intro w hSw; (try dsimp only at hSw); go_simp; try (with_reducible rfl))
              try simp only [Act.put, List.setIfInBounds_toArray, List.set_cons_zero, List.set_cons_succ]
              refine wpAnyH_done (by kernel_rfl) ?_ _
              clear hHeld
              have hon : (mvR (r : Int) x f).length = on := by have h1 := oacc.len; rw [bmvF_len] at h1; omega
              have hon2 := mvR_len (r : Int) x f
              have OR7 := Lib.hid oacc.reads
              have HMI := Lib.hid (mvR_in (k := (r : Int)) HXI.out HFf)
              have hbt := bdS_bd _ (mvR_in (k := (r : Int)) HXI.out HFf)
              have HNW := Lib.hid (show nextW (r : Int) x B f = ⟨B.rods ++ [f], B.m + (on : Int), B.b + bdS (mvR (r : Int) x f), true⟩ by unfold nextW; rw [hon])
              have HNI := Lib.hid (HPI.out.next HBO.out HXI.out HFf (r : Int))
              obtain ⟨hm0, hm1⟩ := HPI.out.m
              obtain ⟨hb0, hb1⟩ := HPI.out.b
              have hbl := HPI.out.yes HBO.out
              have HBN := Lib.hid (show bn = r by have h1 := BR6.out.rodLen; omega)
              have hbn8 : bn + 1 ≤ 8 := by have := HBN.out; omega
              have K97 := Lib.hid (K96.out.below b7 K96.out.lt)
              have HA7 := Lib.hid (HA6.out.later b7)
              have HG7 := Lib.hid (grownBy_trans HG6.out (below_any b7 _))
              have KB7 := Lib.hid (KB6.out.below b7 KB6.out.lt)
              have BR7 := Lib.hid ((BR6.out.below (b7.mono (Nat.le_trans hb5.size BZ6.out))).more (Nat.le_trans (Nat.le_trans hb5.size BZ6.out) b7.size))
              have E0 := Lib.hid (below_cell b7 D0.out)
              have E1 := Lib.hid (below_cell b7 D1.out)
              have E2 := Lib.hid (below_cell b7 D2.out)
              have E3 := Lib.hid (below_cell b7 C3.out)
              have E4 := Lib.hid (below_cell b7 C4.out)
              have bX0 : Below w7.heap.size w7 w7.drew := ext_drew (Below.refl _ _)
              generalize hBT : bdS (mvR (r : Int) x f) = BT at hbt HNW
              have hwm : IntKind.i64.wrap (B.m + (on : Int)) = B.m + (on : Int) := IntWalk.i64_in _ ⟨by omega, by omega⟩
              have hwb : IntKind.i64.wrap (B.b + BT) = B.b + BT := IntWalk.i64_in _ ⟨by omega, by omega⟩
              clear oacc HMV bX b7
              go_wp2_with fail
              go_cut [15] from 65 to 82 (fun s wx => ∃ (g : Nat) (rA : Option Addr) (rc : Nat), s = .pointer (some ⟨g, 0, none⟩) ∧ Blk wx g 57 #[.slice rA (bn + 1) rc, .int .i64 (B.m + (on : Int)), .int .i64 (B.b + BT), .bool true] ∧ Acc w7 wx 47 2 rA (bn + 1) rc (rodF (B.rods ++ [f])) ∧ Below w7.heap.size w7 wx)
              case first =>
                refine wp_region_held_drew (S := (fun W => (W.cell? ⟨w3.heap.size, 0, none⟩ = some (.slice bA bn bc) ∧ W.cell? ⟨w3.heap.size, 1, none⟩ = some (.int .i64 B.m) ∧ W.cell? ⟨w3.heap.size, 2, none⟩ = some (.int .i64 B.b)) ∧ W.cell? ⟨wo.heap.size, 0, none⟩ = some (.int .i64 f.a) ∧ W.cell? ⟨wo.heap.size, 1, none⟩ = some (.int .i64 f.b))) (by kernel_rfl) ?_ (fun hHeld => ?_)
                · (try dsimp only); exact ⟨⟨below_cell (by assumption) E0.out, below_cell (by assumption) E1.out, below_cell (by assumption) E2.out⟩, below_cell (by assumption) E3.out, below_cell (by assumption) E4.out⟩
                obtain ⟨X, hX⟩ : ∃ X, X = World.drew w7 := ⟨_, rfl⟩
                rw [← hX]
                try rw [← hX] at hHeld
                have bX : Below w7.heap.size w7 X := hX ▸ ext_drew (Below.refl _ _)
                clear hX
                refine wpAnyH_takeD (i := 1) (v := ?_) 66 rfl rfl (by kernel_rfl) (by kernel_rfl) (by kernel_rfl) (fun _ _ _ _ _ h => h) (by rfl) (by assumption) ?_ ?_
                rotate_left; focus (intro w hSw; (try dsimp only at hSw); go_simp; try (with_reducible rfl))
                (try simp only [Act.put]); (try simp only [List.setIfInBounds_toArray]); (try simp only [List.set_cons_succ]); (try simp only [List.set_cons_zero])
                refine wpAnyH_takeD (i := 2) (v := ?_) 67 rfl rfl (by kernel_rfl) (by kernel_rfl) (by kernel_rfl) (fun _ _ _ _ _ h => h) (by rfl) (by assumption) ?_ ?_
                rotate_left; focus (intro w hSw; (try dsimp only at hSw); go_simp; try (with_reducible rfl))
                (try simp only [Act.put]); (try simp only [List.setIfInBounds_toArray]); (try simp only [List.set_cons_succ]); (try simp only [List.set_cons_zero])
                refine wpAnyH_takeD (i := 4) (v := ?_) 69 rfl rfl (by kernel_rfl) (by kernel_rfl) (by kernel_rfl) (fun _ _ _ _ _ h => h) (by rfl) (by assumption) ?_ ?_
                rotate_left; focus (intro w hSw; (try dsimp only at hSw); go_simp; try (with_reducible rfl))
                (try simp only [Act.put]); (try simp only [List.setIfInBounds_toArray]); (try simp only [List.set_cons_succ]); (try simp only [List.set_cons_zero])
                refine wpAnyH_takeD (i := 7) (v := ?_) 72 rfl rfl (by kernel_rfl) (by kernel_rfl) (by kernel_rfl) (fun _ _ _ _ _ h => h) (by rfl) (by assumption) ?_ ?_
                rotate_left; focus (intro w hSw; (try dsimp only at hSw); go_simp; try (with_reducible rfl))
                (try simp only [Act.put]); (try simp only [List.setIfInBounds_toArray]); (try simp only [List.set_cons_succ]); (try simp only [List.set_cons_zero])
                refine wpAnyH_takeD (i := 8) (v := ?_) 73 rfl rfl (by kernel_rfl) (by kernel_rfl) (by kernel_rfl) (fun _ _ _ _ _ h => h) (by rfl) (by assumption) ?_ ?_
                rotate_left; focus (intro w hSw; (try dsimp only at hSw); go_simp; try (with_reducible rfl))
                (try simp only [Act.put]); (try simp only [List.setIfInBounds_toArray]); (try simp only [List.set_cons_succ]); (try simp only [List.set_cons_zero])
                refine wpAnyH_takeD (i := 9) (v := ?_) 74 rfl rfl (by kernel_rfl) (by kernel_rfl) (by kernel_rfl) (fun _ _ _ _ _ h => h) (by rfl) (by assumption) ?_ ?_
                rotate_left; focus (intro w hSw; (try dsimp only at hSw); go_simp; try (with_reducible rfl))
                (try simp only [Act.put]); (try simp only [List.setIfInBounds_toArray]); (try simp only [List.set_cons_succ]); (try simp only [List.set_cons_zero])
                refine wpAnyH_takeD (i := 10) (v := ?_) 75 rfl rfl (by kernel_rfl) (by kernel_rfl) (by kernel_rfl) (fun _ _ _ _ _ h => h) (by rfl) (by assumption) ?_ ?_
                rotate_left; focus (intro w hSw; (try dsimp only at hSw); go_simp; try (with_reducible rfl))
                (try simp only [Act.put]); (try simp only [List.setIfInBounds_toArray]); (try simp only [List.set_cons_succ]); (try simp only [List.set_cons_zero])
                refine wpAnyH_takeD (i := 11) (v := ?_) 76 rfl rfl (by kernel_rfl) (by kernel_rfl) (by kernel_rfl) (fun _ _ _ _ _ h => h) (by rfl) (by assumption) ?_ ?_
                rotate_left; focus (intro w hSw; (try dsimp only at hSw); go_simp; try (with_reducible rfl))
                (try simp only [Act.put]); (try simp only [List.setIfInBounds_toArray]); (try simp only [List.set_cons_succ]); (try simp only [List.set_cons_zero])
                refine wpAnyH_takeD (i := 12) (v := ?_) 77 rfl rfl (by kernel_rfl) (by kernel_rfl) (by kernel_rfl) (fun _ _ _ _ _ h => h) (by rfl) (by assumption) ?_ ?_
                rotate_left; focus (intro w hSw; (try dsimp only at hSw); go_simp; try (with_reducible rfl))
                (try simp only [Act.put]); (try simp only [List.setIfInBounds_toArray]); (try simp only [List.set_cons_succ]); (try simp only [List.set_cons_zero])
                refine wpAnyH_takeD (i := 13) (v := ?_) 78 rfl rfl (by kernel_rfl) (by kernel_rfl) (by kernel_rfl) (fun _ _ _ _ _ h => h) (by rfl) (by assumption) ?_ ?_
                rotate_left; focus (intro w hSw; (try dsimp only at hSw); go_simp; try (with_reducible rfl))
                (try simp only [Act.put]); (try simp only [List.setIfInBounds_toArray]); (try simp only [List.set_cons_succ]); (try simp only [List.set_cons_zero])
                refine wpAnyH_takeD (i := 14) (v := ?_) 79 rfl rfl (by kernel_rfl) (by kernel_rfl) (by kernel_rfl) (fun _ _ _ _ _ h => h) (by rfl) (by assumption) ?_ ?_
                rotate_left; focus (intro w hSw; (try dsimp only at hSw); go_simp; try (with_reducible rfl))
                (try simp only [Act.put]); (try simp only [List.setIfInBounds_toArray]); (try simp only [List.set_cons_succ]); (try simp only [List.set_cons_zero])
                refine wpAnyH_ready (rs := [0, 5, 18]) (by kernel_rfl) (by simp) ?_
                refine AllReadyH.cons rfl (fun K hK => ?_) (AllReadyH.cons rfl (fun K hK => ?_) (AllReadyH.cons rfl (fun K hK => ?_) AllReadyH.nil))
                · go_simp
                  obtain ⟨X1, hX1⟩ : ∃ X1, X1 = World.alloc X (Obj.cells #[] 47) := ⟨_, rfl⟩
                  rw [← hX1]
                  have bX1 : Below w7.heap.size w7 X1 := hX1 ▸ ext_alloc bX _
                  have a0 : Acc w7 X1 47 2 (some ⟨X.heap.size, 0, none⟩) 0 0 [] := hX1 ▸ Acc.empty bX
                  clear hX1
                  refine hK.out _ _ (by exact ⟨⟨below_cell (by assumption) E0.out, below_cell (by assumption) E1.out, below_cell (by assumption) E2.out⟩, below_cell (by assumption) E3.out, below_cell (by assumption) E4.out⟩) (fun hHeld => ?_)
                  clear hK K; (try simp only [Act.put]); (try simp only [List.setIfInBounds_toArray]); (try simp only [List.set_cons_succ]); (try simp only [List.set_cons_zero])
                  refine wpAnyH_ready (rs := [3, 5, 18]) (by kernel_rfl) (by simp) ?_
                  refine AllReadyH.cons rfl (fun K hK => ?_) (AllReadyH.cons rfl (fun K hK => ?_) (AllReadyH.cons rfl (fun K hK => ?_) AllReadyH.nil))
                  · refine app2_b_step rfl (.tmp 65) (.tmp 67) rfl rfl a0 rfl (BR7.out.below bX1) (by omega) ?_
                    intro A1 c1 X2 a1 p1
                    have bX2 := a1.ext
                    simp only [Nat.zero_add, List.nil_append] at a1
                    refine hK.out _ _ (by exact ⟨⟨below_cell (by assumption) E0.out, below_cell (by assumption) E1.out, below_cell (by assumption) E2.out⟩, below_cell (by assumption) E3.out, below_cell (by assumption) E4.out⟩) (fun hHeld => ?_)
                    clear hK K; (try simp only [Act.put]); (try simp only [List.setIfInBounds_toArray]); (try simp only [List.set_cons_succ]); (try simp only [List.set_cons_zero])
                    try simp only [Nat.zero_add]
                    refine wpAnyH_ready (rs := [5, 18]) (by kernel_rfl) (by simp) ?_
                    refine AllReadyH.cons rfl (fun K hK => ?_) (AllReadyH.cons rfl (fun K hK => ?_) AllReadyH.nil)
                    · go_simp
                      obtain ⟨X3, hX3⟩ : ∃ X3, X3 = World.alloc X2 (Obj.cells #[.int .i64 f.a, .int .i64 f.b] 47) := ⟨_, rfl⟩
                      rw [← hX3]
                      have bX3 : Below w7.heap.size w7 X3 := hX3 ▸ ext_alloc bX2 _
                      have s1 := Side.new a1 #[.int .i64 f.a, .int .i64 f.b] 47 [f.a, f.b] rfl rfl
                      rw [← hX3] at s1
                      have a1 := a1.alloc (Obj.cells #[.int .i64 f.a, .int .i64 f.b] 47)
                      rw [← hX3] at a1
                      clear hX3
                      refine hK.out _ _ (by exact ⟨⟨below_cell (by assumption) E0.out, below_cell (by assumption) E1.out, below_cell (by assumption) E2.out⟩, below_cell (by assumption) E3.out, below_cell (by assumption) E4.out⟩) (fun hHeld => ?_)
                      clear hK K; (try simp only [Act.put]); (try simp only [List.setIfInBounds_toArray]); (try simp only [List.set_cons_succ]); (try simp only [List.set_cons_zero])
                      refine wpAnyH_ready (rs := [6, 18]) (by kernel_rfl) (by simp) ?_
                      refine AllReadyH.cons rfl (fun K hK => ?_) (AllReadyH.cons rfl (fun K hK => ?_) AllReadyH.nil)
                      · refine app2_b_step rfl (.tmp 68) (.tmp 70) rfl rfl a1 rfl s1.reads (by omega) ?_
                        intro A2 c2 X4 a2 p2
                        have bX4 := a2.ext
                        refine hK.out _ _ (by exact ⟨⟨below_cell (by assumption) E0.out, below_cell (by assumption) E1.out, below_cell (by assumption) E2.out⟩, below_cell (by assumption) E3.out, below_cell (by assumption) E4.out⟩) (fun hHeld => ?_)
                        clear hK K; (try simp only [Act.put]); (try simp only [List.setIfInBounds_toArray]); (try simp only [List.set_cons_succ]); (try simp only [List.set_cons_zero])
                        refine wpAnyH_ready (rs := [15, 18]) (by kernel_rfl) (by simp) ?_
                        refine AllReadyH.cons rfl (fun K hK => ?_) (AllReadyH.cons rfl (fun K hK => ?_) AllReadyH.nil)
                        · go_simp; (go_at_call 56; refine (beadsOf_any oA on oc _ (mvR (r : Int) x f) _ (OR7.out.below bX4) bX4.size (by omega) HMI.out).mono ?_; rintro e X5 ⟨rfl, hb15⟩); (try dsimp only)
                          have bX5 := ext_trans bX4 hb15
                          have a2 := a2.later hb15
                          clear hb15
                          refine hK.out _ _ (by exact ⟨⟨below_cell (by assumption) E0.out, below_cell (by assumption) E1.out, below_cell (by assumption) E2.out⟩, below_cell (by assumption) E3.out, below_cell (by assumption) E4.out⟩) (fun hHeld => ?_)
                          clear hK K; (try simp only [Act.put]); (try simp only [List.setIfInBounds_toArray]); (try simp only [List.set_cons_succ]); (try simp only [List.set_cons_zero])
                          refine wpAnyH_takeD (i := 16) (v := ?_) 81 rfl rfl (by kernel_rfl) (by kernel_rfl) (by kernel_rfl) (fun _ _ _ _ _ h => h) (by rfl) (by assumption) ?_ ?_
                          rotate_left; focus (intro w hSw; (try dsimp only at hSw); go_simp; try (with_reducible rfl))
                          (try simp only [Act.put]); (try simp only [List.setIfInBounds_toArray]); (try simp only [List.set_cons_succ]); (try simp only [List.set_cons_zero])
                          refine wpAnyH_takeD (i := 17) (v := ?_) 82 rfl rfl (by kernel_rfl) (by kernel_rfl) (by kernel_rfl) (fun _ _ _ _ _ h => h) (by rfl) (by assumption) ?_ ?_
                          rotate_left; focus (intro w hSw; (try dsimp only at hSw); go_simp; try (with_reducible rfl))
                          (try simp only [Act.put]); (try simp only [List.setIfInBounds_toArray]); (try simp only [List.set_cons_succ]); (try simp only [List.set_cons_zero])
                          refine wpAnyH_ready (rs := [18]) (by kernel_rfl) (by simp) ?_
                          refine AllReadyH.cons rfl (fun K hK => ?_) AllReadyH.nil
                          go_simp
                          obtain ⟨X6, hX6⟩ : ∃ X6, X6 = World.alloc X5 (Obj.cells #[.slice none 0 0, .int .i64 0, .int .i64 0, .bool false] 57) := ⟨_, rfl⟩
                          rw [← hX6]
                          have bX6 : Below w7.heap.size w7 X6 := hX6 ▸ ext_alloc bX5 _
                          have a2 := a2.alloc (Obj.cells #[.slice none 0 0, .int .i64 0, .int .i64 0, .bool false] 57)
                          rw [← hX6] at a2
                          have k15 := Blk.new X5 57 #[.slice none 0 0, .int .i64 0, .int .i64 0, .bool false]
                          rw [← hX6] at k15
                          have hgl : w7.heap.size ≤ X5.heap.size := bX5.size
                          clear hX6
                          refine hK.out _ _ (by exact ⟨⟨below_cell (by assumption) E0.out, below_cell (by assumption) E1.out, below_cell (by assumption) E2.out⟩, below_cell (by assumption) E3.out, below_cell (by assumption) E4.out⟩) (fun hHeld => ?_)
                          clear hK K; (try simp only [Act.put]); (try simp only [List.setIfInBounds_toArray]); (try simp only [List.set_cons_succ]); (try simp only [List.set_cons_zero])
                          refine wpAnyH_ready (rs := [19]) (by kernel_rfl) (by simp) ?_
                          refine AllReadyH.cons rfl (fun K hK => ?_) AllReadyH.nil
                          have v0 := k15.cell 0
                          have v1 := k15.cell 1
                          have v2 := k15.cell 2
                          have v3 := k15.cell 3
                          have f0 := k15.frozen 0
                          have f1 := k15.frozen 1
                          have f2 := k15.frozen 2
                          have f3 := k15.frozen 3
                          simp only [List.getElem?_toArray, List.getElem?_cons_zero, List.getElem?_cons_succ] at v0 v1 v2 v3
                          go_simp
                          clear v0 v1 v2 v3 f0 f1 f2 f3
                          have a2 := a2.setOther k15 (by decide) hgl 0 (.slice A2 (bn + 1) c2)
                          have k15 := k15.set_ 0 (.slice A2 (bn + 1) c2)
                          have bX6 := ext_set bX6 (p := ⟨X5.heap.size, 0, none⟩) hgl (.slice A2 (bn + 1) c2)
                          have a2 := a2.setOther k15 (by decide) hgl 1 (.int .i64 (B.m + (on : Int)))
                          have k15 := k15.set_ 1 (.int .i64 (B.m + (on : Int)))
                          have bX6 := ext_set bX6 (p := ⟨X5.heap.size, 1, none⟩) hgl (.int .i64 (B.m + (on : Int)))
                          have a2 := a2.setOther k15 (by decide) hgl 2 (.int .i64 (B.b + BT))
                          have k15 := k15.set_ 2 (.int .i64 (B.b + BT))
                          have bX6 := ext_set bX6 (p := ⟨X5.heap.size, 2, none⟩) hgl (.int .i64 (B.b + BT))
                          have a2 := a2.setOther k15 (by decide) hgl 3 (.bool true)
                          have k15 := k15.set_ 3 (.bool true)
                          have bX6 := ext_set bX6 (p := ⟨X5.heap.size, 3, none⟩) hgl (.bool true)
                          simp only [List.setIfInBounds_toArray, List.set_cons_zero, List.set_cons_succ] at k15
                          generalize ((((X6.setCell ⟨X5.heap.size, 0, none⟩ (.slice A2 (bn + 1) c2)).setCell ⟨X5.heap.size, 1, none⟩ (.int .i64 (B.m + (on : Int)))).setCell ⟨X5.heap.size, 2, none⟩ (.int .i64 (B.b + BT))).setCell ⟨X5.heap.size, 3, none⟩ (.bool true)) = X7 at a2 k15 bX6 ⊢
                          have bX7 := bX6
                          refine hK.out _ _ (by exact ⟨⟨below_cell (by assumption) E0.out, below_cell (by assumption) E1.out, below_cell (by assumption) E2.out⟩, below_cell (by assumption) E3.out, below_cell (by assumption) E4.out⟩) (fun hHeld => ?_)
                          clear hK K; (try simp only [Act.put]); (try simp only [List.setIfInBounds_toArray]); (try simp only [List.set_cons_succ]); (try simp only [List.set_cons_zero])
                          refine wpAnyH_done (by kernel_rfl) ?_ _
                          clear hHeld
                          go_wp2_with fail
                          go_meet
                          exact ⟨X5.heap.size, A2, c2, rfl, k15, by rw [rodF_app]; exact a2, bX7⟩
                        · go_simp
                          obtain ⟨X8, hX8⟩ : ∃ X8, X8 = World.alloc X4 (Obj.cells #[.slice none 0 0, .int .i64 0, .int .i64 0, .bool false] 57) := ⟨_, rfl⟩
                          rw [← hX8]
                          have bX8 : Below w7.heap.size w7 X8 := hX8 ▸ ext_alloc bX4 _
                          have a2 := a2.alloc (Obj.cells #[.slice none 0 0, .int .i64 0, .int .i64 0, .bool false] 57)
                          rw [← hX8] at a2
                          have k15 := Blk.new X4 57 #[.slice none 0 0, .int .i64 0, .int .i64 0, .bool false]
                          rw [← hX8] at k15
                          have hgl : w7.heap.size ≤ X4.heap.size := bX4.size
                          clear hX8
                          refine hK.out _ _ (by exact ⟨⟨below_cell (by assumption) E0.out, below_cell (by assumption) E1.out, below_cell (by assumption) E2.out⟩, below_cell (by assumption) E3.out, below_cell (by assumption) E4.out⟩) (fun hHeld => ?_)
                          clear hK K; (try simp only [Act.put]); (try simp only [List.setIfInBounds_toArray]); (try simp only [List.set_cons_succ]); (try simp only [List.set_cons_zero])
                          refine wpAnyH_ready (rs := [15]) (by kernel_rfl) (by simp) ?_
                          refine AllReadyH.cons rfl (fun K hK => ?_) AllReadyH.nil
                          go_simp; (go_at_call 56; refine (beadsOf_any oA on oc _ (mvR (r : Int) x f) _ (OR7.out.below bX8) bX8.size (by omega) HMI.out).mono ?_; rintro e X9 ⟨rfl, hb15⟩); (try dsimp only)
                          have bX9 := ext_trans bX8 hb15
                          have a2 := a2.later hb15
                          have k15 := k15.below hb15 k15.lt
                          clear hb15
                          refine hK.out _ _ (by exact ⟨⟨below_cell (by assumption) E0.out, below_cell (by assumption) E1.out, below_cell (by assumption) E2.out⟩, below_cell (by assumption) E3.out, below_cell (by assumption) E4.out⟩) (fun hHeld => ?_)
                          clear hK K; (try simp only [Act.put]); (try simp only [List.setIfInBounds_toArray]); (try simp only [List.set_cons_succ]); (try simp only [List.set_cons_zero])
                          refine wpAnyH_takeD (i := 16) (v := ?_) 81 rfl rfl (by kernel_rfl) (by kernel_rfl) (by kernel_rfl) (fun _ _ _ _ _ h => h) (by rfl) (by assumption) ?_ ?_
                          rotate_left; focus (intro w hSw; (try dsimp only at hSw); go_simp; try (with_reducible rfl))
                          (try simp only [Act.put]); (try simp only [List.setIfInBounds_toArray]); (try simp only [List.set_cons_succ]); (try simp only [List.set_cons_zero])
                          refine wpAnyH_takeD (i := 17) (v := ?_) 82 rfl rfl (by kernel_rfl) (by kernel_rfl) (by kernel_rfl) (fun _ _ _ _ _ h => h) (by rfl) (by assumption) ?_ ?_
                          rotate_left; focus (intro w hSw; (try dsimp only at hSw); go_simp; try (with_reducible rfl))
                          (try simp only [Act.put]); (try simp only [List.setIfInBounds_toArray]); (try simp only [List.set_cons_succ]); (try simp only [List.set_cons_zero])
                          refine wpAnyH_ready (rs := [19]) (by kernel_rfl) (by simp) ?_
                          refine AllReadyH.cons rfl (fun K hK => ?_) AllReadyH.nil
                          have v0 := k15.cell 0
                          have v1 := k15.cell 1
                          have v2 := k15.cell 2
                          have v3 := k15.cell 3
                          have f0 := k15.frozen 0
                          have f1 := k15.frozen 1
                          have f2 := k15.frozen 2
                          have f3 := k15.frozen 3
                          simp only [List.getElem?_toArray, List.getElem?_cons_zero, List.getElem?_cons_succ] at v0 v1 v2 v3
                          go_simp
                          clear v0 v1 v2 v3 f0 f1 f2 f3
                          have a2 := a2.setOther k15 (by decide) hgl 0 (.slice A2 (bn + 1) c2)
                          have k15 := k15.set_ 0 (.slice A2 (bn + 1) c2)
                          have bX9 := ext_set bX9 (p := ⟨X4.heap.size, 0, none⟩) hgl (.slice A2 (bn + 1) c2)
                          have a2 := a2.setOther k15 (by decide) hgl 1 (.int .i64 (B.m + (on : Int)))
                          have k15 := k15.set_ 1 (.int .i64 (B.m + (on : Int)))
                          have bX9 := ext_set bX9 (p := ⟨X4.heap.size, 1, none⟩) hgl (.int .i64 (B.m + (on : Int)))
                          have a2 := a2.setOther k15 (by decide) hgl 2 (.int .i64 (B.b + BT))
                          have k15 := k15.set_ 2 (.int .i64 (B.b + BT))
                          have bX9 := ext_set bX9 (p := ⟨X4.heap.size, 2, none⟩) hgl (.int .i64 (B.b + BT))
                          have a2 := a2.setOther k15 (by decide) hgl 3 (.bool true)
                          have k15 := k15.set_ 3 (.bool true)
                          have bX9 := ext_set bX9 (p := ⟨X4.heap.size, 3, none⟩) hgl (.bool true)
                          simp only [List.setIfInBounds_toArray, List.set_cons_zero, List.set_cons_succ] at k15
                          generalize ((((X9.setCell ⟨X4.heap.size, 0, none⟩ (.slice A2 (bn + 1) c2)).setCell ⟨X4.heap.size, 1, none⟩ (.int .i64 (B.m + (on : Int)))).setCell ⟨X4.heap.size, 2, none⟩ (.int .i64 (B.b + BT))).setCell ⟨X4.heap.size, 3, none⟩ (.bool true)) = X10 at a2 k15 bX9 ⊢
                          have bX10 := bX9
                          refine hK.out _ _ (by exact ⟨⟨below_cell (by assumption) E0.out, below_cell (by assumption) E1.out, below_cell (by assumption) E2.out⟩, below_cell (by assumption) E3.out, below_cell (by assumption) E4.out⟩) (fun hHeld => ?_)
                          clear hK K; (try simp only [Act.put]); (try simp only [List.setIfInBounds_toArray]); (try simp only [List.set_cons_succ]); (try simp only [List.set_cons_zero])
                          refine wpAnyH_done (by kernel_rfl) ?_ _
                          clear hHeld
                          go_wp2_with fail
                          go_meet
                          exact ⟨X4.heap.size, A2, c2, rfl, k15, by rw [rodF_app]; exact a2, bX10⟩
                      · go_simp
                        obtain ⟨X11, hX11⟩ : ∃ X11, X11 = World.alloc X3 (Obj.cells #[.slice none 0 0, .int .i64 0, .int .i64 0, .bool false] 57) := ⟨_, rfl⟩
                        rw [← hX11]
                        have bX11 : Below w7.heap.size w7 X11 := hX11 ▸ ext_alloc bX3 _
                        have a1 := a1.alloc (Obj.cells #[.slice none 0 0, .int .i64 0, .int .i64 0, .bool false] 57)
                        rw [← hX11] at a1
                        have s1 := s1.alloc (Obj.cells #[.slice none 0 0, .int .i64 0, .int .i64 0, .bool false] 57)
                        rw [← hX11] at s1
                        have k15 := Blk.new X3 57 #[.slice none 0 0, .int .i64 0, .int .i64 0, .bool false]
                        rw [← hX11] at k15
                        have hgl : w7.heap.size ≤ X3.heap.size := bX3.size
                        clear hX11
                        refine hK.out _ _ (by exact ⟨⟨below_cell (by assumption) E0.out, below_cell (by assumption) E1.out, below_cell (by assumption) E2.out⟩, below_cell (by assumption) E3.out, below_cell (by assumption) E4.out⟩) (fun hHeld => ?_)
                        clear hK K; (try simp only [Act.put]); (try simp only [List.setIfInBounds_toArray]); (try simp only [List.set_cons_succ]); (try simp only [List.set_cons_zero])
                        refine wpAnyH_ready (rs := [6]) (by kernel_rfl) (by simp) ?_
                        refine AllReadyH.cons rfl (fun K hK => ?_) AllReadyH.nil
                        have hne := own_ne_blk a1.own k15 (by decide)
                        refine app2_b_step rfl (.tmp 68) (.tmp 70) rfl rfl a1 rfl s1.reads (by omega) ?_
                        intro A2 c2 X12 a2 p2
                        have bX12 := a2.ext
                        have k15 := k15.pushed p2 hne
                        clear hne
                        refine hK.out _ _ (by exact ⟨⟨below_cell (by assumption) E0.out, below_cell (by assumption) E1.out, below_cell (by assumption) E2.out⟩, below_cell (by assumption) E3.out, below_cell (by assumption) E4.out⟩) (fun hHeld => ?_)
                        clear hK K; (try simp only [Act.put]); (try simp only [List.setIfInBounds_toArray]); (try simp only [List.set_cons_succ]); (try simp only [List.set_cons_zero])
                        refine wpAnyH_ready (rs := [15]) (by kernel_rfl) (by simp) ?_
                        refine AllReadyH.cons rfl (fun K hK => ?_) AllReadyH.nil
                        go_simp; (go_at_call 56; refine (beadsOf_any oA on oc _ (mvR (r : Int) x f) _ (OR7.out.below bX12) bX12.size (by omega) HMI.out).mono ?_; rintro e X13 ⟨rfl, hb15⟩); (try dsimp only)
                        have bX13 := ext_trans bX12 hb15
                        have a2 := a2.later hb15
                        have k15 := k15.below hb15 k15.lt
                        clear hb15
                        refine hK.out _ _ (by exact ⟨⟨below_cell (by assumption) E0.out, below_cell (by assumption) E1.out, below_cell (by assumption) E2.out⟩, below_cell (by assumption) E3.out, below_cell (by assumption) E4.out⟩) (fun hHeld => ?_)
                        clear hK K; (try simp only [Act.put]); (try simp only [List.setIfInBounds_toArray]); (try simp only [List.set_cons_succ]); (try simp only [List.set_cons_zero])
                        refine wpAnyH_takeD (i := 16) (v := ?_) 81 rfl rfl (by kernel_rfl) (by kernel_rfl) (by kernel_rfl) (fun _ _ _ _ _ h => h) (by rfl) (by assumption) ?_ ?_
                        rotate_left; focus (intro w hSw; (try dsimp only at hSw); go_simp; try (with_reducible rfl))
                        (try simp only [Act.put]); (try simp only [List.setIfInBounds_toArray]); (try simp only [List.set_cons_succ]); (try simp only [List.set_cons_zero])
                        refine wpAnyH_takeD (i := 17) (v := ?_) 82 rfl rfl (by kernel_rfl) (by kernel_rfl) (by kernel_rfl) (fun _ _ _ _ _ h => h) (by rfl) (by assumption) ?_ ?_
                        rotate_left; focus (intro w hSw; (try dsimp only at hSw); go_simp; try (with_reducible rfl))
                        (try simp only [Act.put]); (try simp only [List.setIfInBounds_toArray]); (try simp only [List.set_cons_succ]); (try simp only [List.set_cons_zero])
                        refine wpAnyH_ready (rs := [19]) (by kernel_rfl) (by simp) ?_
                        refine AllReadyH.cons rfl (fun K hK => ?_) AllReadyH.nil
                        have v0 := k15.cell 0
                        have v1 := k15.cell 1
                        have v2 := k15.cell 2
                        have v3 := k15.cell 3
                        have f0 := k15.frozen 0
                        have f1 := k15.frozen 1
                        have f2 := k15.frozen 2
                        have f3 := k15.frozen 3
                        simp only [List.getElem?_toArray, List.getElem?_cons_zero, List.getElem?_cons_succ] at v0 v1 v2 v3
                        go_simp
                        clear v0 v1 v2 v3 f0 f1 f2 f3
                        have a2 := a2.setOther k15 (by decide) hgl 0 (.slice A2 (bn + 1) c2)
                        have k15 := k15.set_ 0 (.slice A2 (bn + 1) c2)
                        have bX13 := ext_set bX13 (p := ⟨X3.heap.size, 0, none⟩) hgl (.slice A2 (bn + 1) c2)
                        have a2 := a2.setOther k15 (by decide) hgl 1 (.int .i64 (B.m + (on : Int)))
                        have k15 := k15.set_ 1 (.int .i64 (B.m + (on : Int)))
                        have bX13 := ext_set bX13 (p := ⟨X3.heap.size, 1, none⟩) hgl (.int .i64 (B.m + (on : Int)))
                        have a2 := a2.setOther k15 (by decide) hgl 2 (.int .i64 (B.b + BT))
                        have k15 := k15.set_ 2 (.int .i64 (B.b + BT))
                        have bX13 := ext_set bX13 (p := ⟨X3.heap.size, 2, none⟩) hgl (.int .i64 (B.b + BT))
                        have a2 := a2.setOther k15 (by decide) hgl 3 (.bool true)
                        have k15 := k15.set_ 3 (.bool true)
                        have bX13 := ext_set bX13 (p := ⟨X3.heap.size, 3, none⟩) hgl (.bool true)
                        simp only [List.setIfInBounds_toArray, List.set_cons_zero, List.set_cons_succ] at k15
                        generalize ((((X13.setCell ⟨X3.heap.size, 0, none⟩ (.slice A2 (bn + 1) c2)).setCell ⟨X3.heap.size, 1, none⟩ (.int .i64 (B.m + (on : Int)))).setCell ⟨X3.heap.size, 2, none⟩ (.int .i64 (B.b + BT))).setCell ⟨X3.heap.size, 3, none⟩ (.bool true)) = X14 at a2 k15 bX13 ⊢
                        have bX14 := bX13
                        refine hK.out _ _ (by exact ⟨⟨below_cell (by assumption) E0.out, below_cell (by assumption) E1.out, below_cell (by assumption) E2.out⟩, below_cell (by assumption) E3.out, below_cell (by assumption) E4.out⟩) (fun hHeld => ?_)
                        clear hK K; (try simp only [Act.put]); (try simp only [List.setIfInBounds_toArray]); (try simp only [List.set_cons_succ]); (try simp only [List.set_cons_zero])
                        refine wpAnyH_done (by kernel_rfl) ?_ _
                        clear hHeld
                        go_wp2_with fail
                        go_meet
                        exact ⟨X3.heap.size, A2, c2, rfl, k15, by rw [rodF_app]; exact a2, bX14⟩
                    · go_simp
                      obtain ⟨X15, hX15⟩ : ∃ X15, X15 = World.alloc X2 (Obj.cells #[.slice none 0 0, .int .i64 0, .int .i64 0, .bool false] 57) := ⟨_, rfl⟩
                      rw [← hX15]
                      have bX15 : Below w7.heap.size w7 X15 := hX15 ▸ ext_alloc bX2 _
                      have a1 := a1.alloc (Obj.cells #[.slice none 0 0, .int .i64 0, .int .i64 0, .bool false] 57)
                      rw [← hX15] at a1
                      have k15 := Blk.new X2 57 #[.slice none 0 0, .int .i64 0, .int .i64 0, .bool false]
                      rw [← hX15] at k15
                      have hgl : w7.heap.size ≤ X2.heap.size := bX2.size
                      clear hX15
                      refine hK.out _ _ (by exact ⟨⟨below_cell (by assumption) E0.out, below_cell (by assumption) E1.out, below_cell (by assumption) E2.out⟩, below_cell (by assumption) E3.out, below_cell (by assumption) E4.out⟩) (fun hHeld => ?_)
                      clear hK K; (try simp only [Act.put]); (try simp only [List.setIfInBounds_toArray]); (try simp only [List.set_cons_succ]); (try simp only [List.set_cons_zero])
                      refine wpAnyH_ready (rs := [5]) (by kernel_rfl) (by simp) ?_
                      refine AllReadyH.cons rfl (fun K hK => ?_) AllReadyH.nil
                      go_simp
                      obtain ⟨X16, hX16⟩ : ∃ X16, X16 = World.alloc X15 (Obj.cells #[.int .i64 f.a, .int .i64 f.b] 47) := ⟨_, rfl⟩
                      rw [← hX16]
                      have bX16 : Below w7.heap.size w7 X16 := hX16 ▸ ext_alloc bX15 _
                      have s1 := Side.new a1 #[.int .i64 f.a, .int .i64 f.b] 47 [f.a, f.b] rfl rfl
                      rw [← hX16] at s1
                      have a1 := a1.alloc (Obj.cells #[.int .i64 f.a, .int .i64 f.b] 47)
                      rw [← hX16] at a1
                      have k15 := k15.alloc (Obj.cells #[.int .i64 f.a, .int .i64 f.b] 47)
                      rw [← hX16] at k15
                      clear hX16
                      refine hK.out _ _ (by exact ⟨⟨below_cell (by assumption) E0.out, below_cell (by assumption) E1.out, below_cell (by assumption) E2.out⟩, below_cell (by assumption) E3.out, below_cell (by assumption) E4.out⟩) (fun hHeld => ?_)
                      clear hK K; (try simp only [Act.put]); (try simp only [List.setIfInBounds_toArray]); (try simp only [List.set_cons_succ]); (try simp only [List.set_cons_zero])
                      refine wpAnyH_ready (rs := [6]) (by kernel_rfl) (by simp) ?_
                      refine AllReadyH.cons rfl (fun K hK => ?_) AllReadyH.nil
                      have hne := own_ne_blk a1.own k15 (by decide)
                      refine app2_b_step rfl (.tmp 68) (.tmp 70) rfl rfl a1 rfl s1.reads (by omega) ?_
                      intro A2 c2 X17 a2 p2
                      have bX17 := a2.ext
                      have k15 := k15.pushed p2 hne
                      clear hne
                      refine hK.out _ _ (by exact ⟨⟨below_cell (by assumption) E0.out, below_cell (by assumption) E1.out, below_cell (by assumption) E2.out⟩, below_cell (by assumption) E3.out, below_cell (by assumption) E4.out⟩) (fun hHeld => ?_)
                      clear hK K; (try simp only [Act.put]); (try simp only [List.setIfInBounds_toArray]); (try simp only [List.set_cons_succ]); (try simp only [List.set_cons_zero])
                      refine wpAnyH_ready (rs := [15]) (by kernel_rfl) (by simp) ?_
                      refine AllReadyH.cons rfl (fun K hK => ?_) AllReadyH.nil
                      go_simp; (go_at_call 56; refine (beadsOf_any oA on oc _ (mvR (r : Int) x f) _ (OR7.out.below bX17) bX17.size (by omega) HMI.out).mono ?_; rintro e X18 ⟨rfl, hb15⟩); (try dsimp only)
                      have bX18 := ext_trans bX17 hb15
                      have a2 := a2.later hb15
                      have k15 := k15.below hb15 k15.lt
                      clear hb15
                      refine hK.out _ _ (by exact ⟨⟨below_cell (by assumption) E0.out, below_cell (by assumption) E1.out, below_cell (by assumption) E2.out⟩, below_cell (by assumption) E3.out, below_cell (by assumption) E4.out⟩) (fun hHeld => ?_)
                      clear hK K; (try simp only [Act.put]); (try simp only [List.setIfInBounds_toArray]); (try simp only [List.set_cons_succ]); (try simp only [List.set_cons_zero])
                      refine wpAnyH_takeD (i := 16) (v := ?_) 81 rfl rfl (by kernel_rfl) (by kernel_rfl) (by kernel_rfl) (fun _ _ _ _ _ h => h) (by rfl) (by assumption) ?_ ?_
                      rotate_left; focus (intro w hSw; (try dsimp only at hSw); go_simp; try (with_reducible rfl))
                      (try simp only [Act.put]); (try simp only [List.setIfInBounds_toArray]); (try simp only [List.set_cons_succ]); (try simp only [List.set_cons_zero])
                      refine wpAnyH_takeD (i := 17) (v := ?_) 82 rfl rfl (by kernel_rfl) (by kernel_rfl) (by kernel_rfl) (fun _ _ _ _ _ h => h) (by rfl) (by assumption) ?_ ?_
                      rotate_left; focus (intro w hSw; (try dsimp only at hSw); go_simp; try (with_reducible rfl))
                      (try simp only [Act.put]); (try simp only [List.setIfInBounds_toArray]); (try simp only [List.set_cons_succ]); (try simp only [List.set_cons_zero])
                      refine wpAnyH_ready (rs := [19]) (by kernel_rfl) (by simp) ?_
                      refine AllReadyH.cons rfl (fun K hK => ?_) AllReadyH.nil
                      have v0 := k15.cell 0
                      have v1 := k15.cell 1
                      have v2 := k15.cell 2
                      have v3 := k15.cell 3
                      have f0 := k15.frozen 0
                      have f1 := k15.frozen 1
                      have f2 := k15.frozen 2
                      have f3 := k15.frozen 3
                      simp only [List.getElem?_toArray, List.getElem?_cons_zero, List.getElem?_cons_succ] at v0 v1 v2 v3
                      go_simp
                      clear v0 v1 v2 v3 f0 f1 f2 f3
                      have a2 := a2.setOther k15 (by decide) hgl 0 (.slice A2 (bn + 1) c2)
                      have k15 := k15.set_ 0 (.slice A2 (bn + 1) c2)
                      have bX18 := ext_set bX18 (p := ⟨X2.heap.size, 0, none⟩) hgl (.slice A2 (bn + 1) c2)
                      have a2 := a2.setOther k15 (by decide) hgl 1 (.int .i64 (B.m + (on : Int)))
                      have k15 := k15.set_ 1 (.int .i64 (B.m + (on : Int)))
                      have bX18 := ext_set bX18 (p := ⟨X2.heap.size, 1, none⟩) hgl (.int .i64 (B.m + (on : Int)))
                      have a2 := a2.setOther k15 (by decide) hgl 2 (.int .i64 (B.b + BT))
                      have k15 := k15.set_ 2 (.int .i64 (B.b + BT))
                      have bX18 := ext_set bX18 (p := ⟨X2.heap.size, 2, none⟩) hgl (.int .i64 (B.b + BT))
                      have a2 := a2.setOther k15 (by decide) hgl 3 (.bool true)
                      have k15 := k15.set_ 3 (.bool true)
                      have bX18 := ext_set bX18 (p := ⟨X2.heap.size, 3, none⟩) hgl (.bool true)
                      simp only [List.setIfInBounds_toArray, List.set_cons_zero, List.set_cons_succ] at k15
                      generalize ((((X18.setCell ⟨X2.heap.size, 0, none⟩ (.slice A2 (bn + 1) c2)).setCell ⟨X2.heap.size, 1, none⟩ (.int .i64 (B.m + (on : Int)))).setCell ⟨X2.heap.size, 2, none⟩ (.int .i64 (B.b + BT))).setCell ⟨X2.heap.size, 3, none⟩ (.bool true)) = X19 at a2 k15 bX18 ⊢
                      have bX19 := bX18
                      refine hK.out _ _ (by exact ⟨⟨below_cell (by assumption) E0.out, below_cell (by assumption) E1.out, below_cell (by assumption) E2.out⟩, below_cell (by assumption) E3.out, below_cell (by assumption) E4.out⟩) (fun hHeld => ?_)
                      clear hK K; (try simp only [Act.put]); (try simp only [List.setIfInBounds_toArray]); (try simp only [List.set_cons_succ]); (try simp only [List.set_cons_zero])
                      refine wpAnyH_done (by kernel_rfl) ?_ _
                      clear hHeld
                      go_wp2_with fail
                      go_meet
                      exact ⟨X2.heap.size, A2, c2, rfl, k15, by rw [rodF_app]; exact a2, bX19⟩
                  · go_simp
                    obtain ⟨X20, hX20⟩ : ∃ X20, X20 = World.alloc X1 (Obj.cells #[.int .i64 f.a, .int .i64 f.b] 47) := ⟨_, rfl⟩
                    rw [← hX20]
                    have bX20 : Below w7.heap.size w7 X20 := hX20 ▸ ext_alloc bX1 _
                    have s1 := Side.new a0 #[.int .i64 f.a, .int .i64 f.b] 47 [f.a, f.b] rfl rfl
                    rw [← hX20] at s1
                    have a0 := a0.alloc (Obj.cells #[.int .i64 f.a, .int .i64 f.b] 47)
                    rw [← hX20] at a0
                    clear hX20
                    refine hK.out _ _ (by exact ⟨⟨below_cell (by assumption) E0.out, below_cell (by assumption) E1.out, below_cell (by assumption) E2.out⟩, below_cell (by assumption) E3.out, below_cell (by assumption) E4.out⟩) (fun hHeld => ?_)
                    clear hK K; (try simp only [Act.put]); (try simp only [List.setIfInBounds_toArray]); (try simp only [List.set_cons_succ]); (try simp only [List.set_cons_zero])
                    refine wpAnyH_ready (rs := [3, 18]) (by kernel_rfl) (by simp) ?_
                    refine AllReadyH.cons rfl (fun K hK => ?_) (AllReadyH.cons rfl (fun K hK => ?_) AllReadyH.nil)
                    · refine app2_b_step rfl (.tmp 65) (.tmp 67) rfl rfl a0 rfl (BR7.out.below bX20) (by omega) ?_
                      intro A1 c1 X21 a1 p1
                      have bX21 := a1.ext
                      simp only [Nat.zero_add, List.nil_append] at a1
                      have s1 := s1.pushed p1
                      refine hK.out _ _ (by exact ⟨⟨below_cell (by assumption) E0.out, below_cell (by assumption) E1.out, below_cell (by assumption) E2.out⟩, below_cell (by assumption) E3.out, below_cell (by assumption) E4.out⟩) (fun hHeld => ?_)
                      clear hK K; (try simp only [Act.put]); (try simp only [List.setIfInBounds_toArray]); (try simp only [List.set_cons_succ]); (try simp only [List.set_cons_zero])
                      try simp only [Nat.zero_add]
                      refine wpAnyH_ready (rs := [6, 18]) (by kernel_rfl) (by simp) ?_
                      refine AllReadyH.cons rfl (fun K hK => ?_) (AllReadyH.cons rfl (fun K hK => ?_) AllReadyH.nil)
                      · refine app2_b_step rfl (.tmp 68) (.tmp 70) rfl rfl a1 rfl s1.reads (by omega) ?_
                        intro A2 c2 X22 a2 p2
                        have bX22 := a2.ext
                        refine hK.out _ _ (by exact ⟨⟨below_cell (by assumption) E0.out, below_cell (by assumption) E1.out, below_cell (by assumption) E2.out⟩, below_cell (by assumption) E3.out, below_cell (by assumption) E4.out⟩) (fun hHeld => ?_)
                        clear hK K; (try simp only [Act.put]); (try simp only [List.setIfInBounds_toArray]); (try simp only [List.set_cons_succ]); (try simp only [List.set_cons_zero])
                        refine wpAnyH_ready (rs := [15, 18]) (by kernel_rfl) (by simp) ?_
                        refine AllReadyH.cons rfl (fun K hK => ?_) (AllReadyH.cons rfl (fun K hK => ?_) AllReadyH.nil)
                        · go_simp; (go_at_call 56; refine (beadsOf_any oA on oc _ (mvR (r : Int) x f) _ (OR7.out.below bX22) bX22.size (by omega) HMI.out).mono ?_; rintro e X23 ⟨rfl, hb15⟩); (try dsimp only)
                          have bX23 := ext_trans bX22 hb15
                          have a2 := a2.later hb15
                          clear hb15
                          refine hK.out _ _ (by exact ⟨⟨below_cell (by assumption) E0.out, below_cell (by assumption) E1.out, below_cell (by assumption) E2.out⟩, below_cell (by assumption) E3.out, below_cell (by assumption) E4.out⟩) (fun hHeld => ?_)
                          clear hK K; (try simp only [Act.put]); (try simp only [List.setIfInBounds_toArray]); (try simp only [List.set_cons_succ]); (try simp only [List.set_cons_zero])
                          refine wpAnyH_takeD (i := 16) (v := ?_) 81 rfl rfl (by kernel_rfl) (by kernel_rfl) (by kernel_rfl) (fun _ _ _ _ _ h => h) (by rfl) (by assumption) ?_ ?_
                          rotate_left; focus (intro w hSw; (try dsimp only at hSw); go_simp; try (with_reducible rfl))
                          (try simp only [Act.put]); (try simp only [List.setIfInBounds_toArray]); (try simp only [List.set_cons_succ]); (try simp only [List.set_cons_zero])
                          refine wpAnyH_takeD (i := 17) (v := ?_) 82 rfl rfl (by kernel_rfl) (by kernel_rfl) (by kernel_rfl) (fun _ _ _ _ _ h => h) (by rfl) (by assumption) ?_ ?_
                          rotate_left; focus (intro w hSw; (try dsimp only at hSw); go_simp; try (with_reducible rfl))
                          (try simp only [Act.put]); (try simp only [List.setIfInBounds_toArray]); (try simp only [List.set_cons_succ]); (try simp only [List.set_cons_zero])
                          refine wpAnyH_ready (rs := [18]) (by kernel_rfl) (by simp) ?_
                          refine AllReadyH.cons rfl (fun K hK => ?_) AllReadyH.nil
                          go_simp
                          obtain ⟨X24, hX24⟩ : ∃ X24, X24 = World.alloc X23 (Obj.cells #[.slice none 0 0, .int .i64 0, .int .i64 0, .bool false] 57) := ⟨_, rfl⟩
                          rw [← hX24]
                          have bX24 : Below w7.heap.size w7 X24 := hX24 ▸ ext_alloc bX23 _
                          have a2 := a2.alloc (Obj.cells #[.slice none 0 0, .int .i64 0, .int .i64 0, .bool false] 57)
                          rw [← hX24] at a2
                          have k15 := Blk.new X23 57 #[.slice none 0 0, .int .i64 0, .int .i64 0, .bool false]
                          rw [← hX24] at k15
                          have hgl : w7.heap.size ≤ X23.heap.size := bX23.size
                          clear hX24
                          refine hK.out _ _ (by exact ⟨⟨below_cell (by assumption) E0.out, below_cell (by assumption) E1.out, below_cell (by assumption) E2.out⟩, below_cell (by assumption) E3.out, below_cell (by assumption) E4.out⟩) (fun hHeld => ?_)
                          clear hK K; (try simp only [Act.put]); (try simp only [List.setIfInBounds_toArray]); (try simp only [List.set_cons_succ]); (try simp only [List.set_cons_zero])
                          refine wpAnyH_ready (rs := [19]) (by kernel_rfl) (by simp) ?_
                          refine AllReadyH.cons rfl (fun K hK => ?_) AllReadyH.nil
                          have v0 := k15.cell 0
                          have v1 := k15.cell 1
                          have v2 := k15.cell 2
                          have v3 := k15.cell 3
                          have f0 := k15.frozen 0
                          have f1 := k15.frozen 1
                          have f2 := k15.frozen 2
                          have f3 := k15.frozen 3
                          simp only [List.getElem?_toArray, List.getElem?_cons_zero, List.getElem?_cons_succ] at v0 v1 v2 v3
                          go_simp
                          clear v0 v1 v2 v3 f0 f1 f2 f3
                          have a2 := a2.setOther k15 (by decide) hgl 0 (.slice A2 (bn + 1) c2)
                          have k15 := k15.set_ 0 (.slice A2 (bn + 1) c2)
                          have bX24 := ext_set bX24 (p := ⟨X23.heap.size, 0, none⟩) hgl (.slice A2 (bn + 1) c2)
                          have a2 := a2.setOther k15 (by decide) hgl 1 (.int .i64 (B.m + (on : Int)))
                          have k15 := k15.set_ 1 (.int .i64 (B.m + (on : Int)))
                          have bX24 := ext_set bX24 (p := ⟨X23.heap.size, 1, none⟩) hgl (.int .i64 (B.m + (on : Int)))
                          have a2 := a2.setOther k15 (by decide) hgl 2 (.int .i64 (B.b + BT))
                          have k15 := k15.set_ 2 (.int .i64 (B.b + BT))
                          have bX24 := ext_set bX24 (p := ⟨X23.heap.size, 2, none⟩) hgl (.int .i64 (B.b + BT))
                          have a2 := a2.setOther k15 (by decide) hgl 3 (.bool true)
                          have k15 := k15.set_ 3 (.bool true)
                          have bX24 := ext_set bX24 (p := ⟨X23.heap.size, 3, none⟩) hgl (.bool true)
                          simp only [List.setIfInBounds_toArray, List.set_cons_zero, List.set_cons_succ] at k15
                          generalize ((((X24.setCell ⟨X23.heap.size, 0, none⟩ (.slice A2 (bn + 1) c2)).setCell ⟨X23.heap.size, 1, none⟩ (.int .i64 (B.m + (on : Int)))).setCell ⟨X23.heap.size, 2, none⟩ (.int .i64 (B.b + BT))).setCell ⟨X23.heap.size, 3, none⟩ (.bool true)) = X25 at a2 k15 bX24 ⊢
                          have bX25 := bX24
                          refine hK.out _ _ (by exact ⟨⟨below_cell (by assumption) E0.out, below_cell (by assumption) E1.out, below_cell (by assumption) E2.out⟩, below_cell (by assumption) E3.out, below_cell (by assumption) E4.out⟩) (fun hHeld => ?_)
                          clear hK K; (try simp only [Act.put]); (try simp only [List.setIfInBounds_toArray]); (try simp only [List.set_cons_succ]); (try simp only [List.set_cons_zero])
                          refine wpAnyH_done (by kernel_rfl) ?_ _
                          clear hHeld
                          go_wp2_with fail
                          go_meet
                          exact ⟨X23.heap.size, A2, c2, rfl, k15, by rw [rodF_app]; exact a2, bX25⟩
                        · go_simp
                          obtain ⟨X26, hX26⟩ : ∃ X26, X26 = World.alloc X22 (Obj.cells #[.slice none 0 0, .int .i64 0, .int .i64 0, .bool false] 57) := ⟨_, rfl⟩
                          rw [← hX26]
                          have bX26 : Below w7.heap.size w7 X26 := hX26 ▸ ext_alloc bX22 _
                          have a2 := a2.alloc (Obj.cells #[.slice none 0 0, .int .i64 0, .int .i64 0, .bool false] 57)
                          rw [← hX26] at a2
                          have k15 := Blk.new X22 57 #[.slice none 0 0, .int .i64 0, .int .i64 0, .bool false]
                          rw [← hX26] at k15
                          have hgl : w7.heap.size ≤ X22.heap.size := bX22.size
                          clear hX26
                          refine hK.out _ _ (by exact ⟨⟨below_cell (by assumption) E0.out, below_cell (by assumption) E1.out, below_cell (by assumption) E2.out⟩, below_cell (by assumption) E3.out, below_cell (by assumption) E4.out⟩) (fun hHeld => ?_)
                          clear hK K; (try simp only [Act.put]); (try simp only [List.setIfInBounds_toArray]); (try simp only [List.set_cons_succ]); (try simp only [List.set_cons_zero])
                          refine wpAnyH_ready (rs := [15]) (by kernel_rfl) (by simp) ?_
                          refine AllReadyH.cons rfl (fun K hK => ?_) AllReadyH.nil
                          go_simp; (go_at_call 56; refine (beadsOf_any oA on oc _ (mvR (r : Int) x f) _ (OR7.out.below bX26) bX26.size (by omega) HMI.out).mono ?_; rintro e X27 ⟨rfl, hb15⟩); (try dsimp only)
                          have bX27 := ext_trans bX26 hb15
                          have a2 := a2.later hb15
                          have k15 := k15.below hb15 k15.lt
                          clear hb15
                          refine hK.out _ _ (by exact ⟨⟨below_cell (by assumption) E0.out, below_cell (by assumption) E1.out, below_cell (by assumption) E2.out⟩, below_cell (by assumption) E3.out, below_cell (by assumption) E4.out⟩) (fun hHeld => ?_)
                          clear hK K; (try simp only [Act.put]); (try simp only [List.setIfInBounds_toArray]); (try simp only [List.set_cons_succ]); (try simp only [List.set_cons_zero])
                          refine wpAnyH_takeD (i := 16) (v := ?_) 81 rfl rfl (by kernel_rfl) (by kernel_rfl) (by kernel_rfl) (fun _ _ _ _ _ h => h) (by rfl) (by assumption) ?_ ?_
                          rotate_left; focus (intro w hSw; (try dsimp only at hSw); go_simp; try (with_reducible rfl))
                          (try simp only [Act.put]); (try simp only [List.setIfInBounds_toArray]); (try simp only [List.set_cons_succ]); (try simp only [List.set_cons_zero])
                          refine wpAnyH_takeD (i := 17) (v := ?_) 82 rfl rfl (by kernel_rfl) (by kernel_rfl) (by kernel_rfl) (fun _ _ _ _ _ h => h) (by rfl) (by assumption) ?_ ?_
                          rotate_left; focus (intro w hSw; (try dsimp only at hSw); go_simp; try (with_reducible rfl))
                          (try simp only [Act.put]); (try simp only [List.setIfInBounds_toArray]); (try simp only [List.set_cons_succ]); (try simp only [List.set_cons_zero])
                          refine wpAnyH_ready (rs := [19]) (by kernel_rfl) (by simp) ?_
                          refine AllReadyH.cons rfl (fun K hK => ?_) AllReadyH.nil
                          have v0 := k15.cell 0
                          have v1 := k15.cell 1
                          have v2 := k15.cell 2
                          have v3 := k15.cell 3
                          have f0 := k15.frozen 0
                          have f1 := k15.frozen 1
                          have f2 := k15.frozen 2
                          have f3 := k15.frozen 3
                          simp only [List.getElem?_toArray, List.getElem?_cons_zero, List.getElem?_cons_succ] at v0 v1 v2 v3
                          go_simp
                          clear v0 v1 v2 v3 f0 f1 f2 f3
                          have a2 := a2.setOther k15 (by decide) hgl 0 (.slice A2 (bn + 1) c2)
                          have k15 := k15.set_ 0 (.slice A2 (bn + 1) c2)
                          have bX27 := ext_set bX27 (p := ⟨X22.heap.size, 0, none⟩) hgl (.slice A2 (bn + 1) c2)
                          have a2 := a2.setOther k15 (by decide) hgl 1 (.int .i64 (B.m + (on : Int)))
                          have k15 := k15.set_ 1 (.int .i64 (B.m + (on : Int)))
                          have bX27 := ext_set bX27 (p := ⟨X22.heap.size, 1, none⟩) hgl (.int .i64 (B.m + (on : Int)))
                          have a2 := a2.setOther k15 (by decide) hgl 2 (.int .i64 (B.b + BT))
                          have k15 := k15.set_ 2 (.int .i64 (B.b + BT))
                          have bX27 := ext_set bX27 (p := ⟨X22.heap.size, 2, none⟩) hgl (.int .i64 (B.b + BT))
                          have a2 := a2.setOther k15 (by decide) hgl 3 (.bool true)
                          have k15 := k15.set_ 3 (.bool true)
                          have bX27 := ext_set bX27 (p := ⟨X22.heap.size, 3, none⟩) hgl (.bool true)
                          simp only [List.setIfInBounds_toArray, List.set_cons_zero, List.set_cons_succ] at k15
                          generalize ((((X27.setCell ⟨X22.heap.size, 0, none⟩ (.slice A2 (bn + 1) c2)).setCell ⟨X22.heap.size, 1, none⟩ (.int .i64 (B.m + (on : Int)))).setCell ⟨X22.heap.size, 2, none⟩ (.int .i64 (B.b + BT))).setCell ⟨X22.heap.size, 3, none⟩ (.bool true)) = X28 at a2 k15 bX27 ⊢
                          have bX28 := bX27
                          refine hK.out _ _ (by exact ⟨⟨below_cell (by assumption) E0.out, below_cell (by assumption) E1.out, below_cell (by assumption) E2.out⟩, below_cell (by assumption) E3.out, below_cell (by assumption) E4.out⟩) (fun hHeld => ?_)
                          clear hK K; (try simp only [Act.put]); (try simp only [List.setIfInBounds_toArray]); (try simp only [List.set_cons_succ]); (try simp only [List.set_cons_zero])
                          refine wpAnyH_done (by kernel_rfl) ?_ _
                          clear hHeld
                          go_wp2_with fail
                          go_meet
                          exact ⟨X22.heap.size, A2, c2, rfl, k15, by rw [rodF_app]; exact a2, bX28⟩
                      · go_simp
                        obtain ⟨X29, hX29⟩ : ∃ X29, X29 = World.alloc X21 (Obj.cells #[.slice none 0 0, .int .i64 0, .int .i64 0, .bool false] 57) := ⟨_, rfl⟩
                        rw [← hX29]
                        have bX29 : Below w7.heap.size w7 X29 := hX29 ▸ ext_alloc bX21 _
                        have a1 := a1.alloc (Obj.cells #[.slice none 0 0, .int .i64 0, .int .i64 0, .bool false] 57)
                        rw [← hX29] at a1
                        have s1 := s1.alloc (Obj.cells #[.slice none 0 0, .int .i64 0, .int .i64 0, .bool false] 57)
                        rw [← hX29] at s1
                        have k15 := Blk.new X21 57 #[.slice none 0 0, .int .i64 0, .int .i64 0, .bool false]
                        rw [← hX29] at k15
                        have hgl : w7.heap.size ≤ X21.heap.size := bX21.size
                        clear hX29
                        refine hK.out _ _ (by exact ⟨⟨below_cell (by assumption) E0.out, below_cell (by assumption) E1.out, below_cell (by assumption) E2.out⟩, below_cell (by assumption) E3.out, below_cell (by assumption) E4.out⟩) (fun hHeld => ?_)
                        clear hK K; (try simp only [Act.put]); (try simp only [List.setIfInBounds_toArray]); (try simp only [List.set_cons_succ]); (try simp only [List.set_cons_zero])
                        refine wpAnyH_ready (rs := [6]) (by kernel_rfl) (by simp) ?_
                        refine AllReadyH.cons rfl (fun K hK => ?_) AllReadyH.nil
                        have hne := own_ne_blk a1.own k15 (by decide)
                        refine app2_b_step rfl (.tmp 68) (.tmp 70) rfl rfl a1 rfl s1.reads (by omega) ?_
                        intro A2 c2 X30 a2 p2
                        have bX30 := a2.ext
                        have k15 := k15.pushed p2 hne
                        clear hne
                        refine hK.out _ _ (by exact ⟨⟨below_cell (by assumption) E0.out, below_cell (by assumption) E1.out, below_cell (by assumption) E2.out⟩, below_cell (by assumption) E3.out, below_cell (by assumption) E4.out⟩) (fun hHeld => ?_)
                        clear hK K; (try simp only [Act.put]); (try simp only [List.setIfInBounds_toArray]); (try simp only [List.set_cons_succ]); (try simp only [List.set_cons_zero])
                        refine wpAnyH_ready (rs := [15]) (by kernel_rfl) (by simp) ?_
                        refine AllReadyH.cons rfl (fun K hK => ?_) AllReadyH.nil
                        go_simp; (go_at_call 56; refine (beadsOf_any oA on oc _ (mvR (r : Int) x f) _ (OR7.out.below bX30) bX30.size (by omega) HMI.out).mono ?_; rintro e X31 ⟨rfl, hb15⟩); (try dsimp only)
                        have bX31 := ext_trans bX30 hb15
                        have a2 := a2.later hb15
                        have k15 := k15.below hb15 k15.lt
                        clear hb15
                        refine hK.out _ _ (by exact ⟨⟨below_cell (by assumption) E0.out, below_cell (by assumption) E1.out, below_cell (by assumption) E2.out⟩, below_cell (by assumption) E3.out, below_cell (by assumption) E4.out⟩) (fun hHeld => ?_)
                        clear hK K; (try simp only [Act.put]); (try simp only [List.setIfInBounds_toArray]); (try simp only [List.set_cons_succ]); (try simp only [List.set_cons_zero])
                        refine wpAnyH_takeD (i := 16) (v := ?_) 81 rfl rfl (by kernel_rfl) (by kernel_rfl) (by kernel_rfl) (fun _ _ _ _ _ h => h) (by rfl) (by assumption) ?_ ?_
                        rotate_left; focus (intro w hSw; (try dsimp only at hSw); go_simp; try (with_reducible rfl))
                        (try simp only [Act.put]); (try simp only [List.setIfInBounds_toArray]); (try simp only [List.set_cons_succ]); (try simp only [List.set_cons_zero])
                        refine wpAnyH_takeD (i := 17) (v := ?_) 82 rfl rfl (by kernel_rfl) (by kernel_rfl) (by kernel_rfl) (fun _ _ _ _ _ h => h) (by rfl) (by assumption) ?_ ?_
                        rotate_left; focus (intro w hSw; (try dsimp only at hSw); go_simp; try (with_reducible rfl))
                        (try simp only [Act.put]); (try simp only [List.setIfInBounds_toArray]); (try simp only [List.set_cons_succ]); (try simp only [List.set_cons_zero])
                        refine wpAnyH_ready (rs := [19]) (by kernel_rfl) (by simp) ?_
                        refine AllReadyH.cons rfl (fun K hK => ?_) AllReadyH.nil
                        have v0 := k15.cell 0
                        have v1 := k15.cell 1
                        have v2 := k15.cell 2
                        have v3 := k15.cell 3
                        have f0 := k15.frozen 0
                        have f1 := k15.frozen 1
                        have f2 := k15.frozen 2
                        have f3 := k15.frozen 3
                        simp only [List.getElem?_toArray, List.getElem?_cons_zero, List.getElem?_cons_succ] at v0 v1 v2 v3
                        go_simp
                        clear v0 v1 v2 v3 f0 f1 f2 f3
                        have a2 := a2.setOther k15 (by decide) hgl 0 (.slice A2 (bn + 1) c2)
                        have k15 := k15.set_ 0 (.slice A2 (bn + 1) c2)
                        have bX31 := ext_set bX31 (p := ⟨X21.heap.size, 0, none⟩) hgl (.slice A2 (bn + 1) c2)
                        have a2 := a2.setOther k15 (by decide) hgl 1 (.int .i64 (B.m + (on : Int)))
                        have k15 := k15.set_ 1 (.int .i64 (B.m + (on : Int)))
                        have bX31 := ext_set bX31 (p := ⟨X21.heap.size, 1, none⟩) hgl (.int .i64 (B.m + (on : Int)))
                        have a2 := a2.setOther k15 (by decide) hgl 2 (.int .i64 (B.b + BT))
                        have k15 := k15.set_ 2 (.int .i64 (B.b + BT))
                        have bX31 := ext_set bX31 (p := ⟨X21.heap.size, 2, none⟩) hgl (.int .i64 (B.b + BT))
                        have a2 := a2.setOther k15 (by decide) hgl 3 (.bool true)
                        have k15 := k15.set_ 3 (.bool true)
                        have bX31 := ext_set bX31 (p := ⟨X21.heap.size, 3, none⟩) hgl (.bool true)
                        simp only [List.setIfInBounds_toArray, List.set_cons_zero, List.set_cons_succ] at k15
                        generalize ((((X31.setCell ⟨X21.heap.size, 0, none⟩ (.slice A2 (bn + 1) c2)).setCell ⟨X21.heap.size, 1, none⟩ (.int .i64 (B.m + (on : Int)))).setCell ⟨X21.heap.size, 2, none⟩ (.int .i64 (B.b + BT))).setCell ⟨X21.heap.size, 3, none⟩ (.bool true)) = X32 at a2 k15 bX31 ⊢
                        have bX32 := bX31
                        refine hK.out _ _ (by exact ⟨⟨below_cell (by assumption) E0.out, below_cell (by assumption) E1.out, below_cell (by assumption) E2.out⟩, below_cell (by assumption) E3.out, below_cell (by assumption) E4.out⟩) (fun hHeld => ?_)
                        clear hK K; (try simp only [Act.put]); (try simp only [List.setIfInBounds_toArray]); (try simp only [List.set_cons_succ]); (try simp only [List.set_cons_zero])
                        refine wpAnyH_done (by kernel_rfl) ?_ _
                        clear hHeld
                        go_wp2_with fail
                        go_meet
                        exact ⟨X21.heap.size, A2, c2, rfl, k15, by rw [rodF_app]; exact a2, bX32⟩
                    · go_simp
                      obtain ⟨X33, hX33⟩ : ∃ X33, X33 = World.alloc X20 (Obj.cells #[.slice none 0 0, .int .i64 0, .int .i64 0, .bool false] 57) := ⟨_, rfl⟩
                      rw [← hX33]
                      have bX33 : Below w7.heap.size w7 X33 := hX33 ▸ ext_alloc bX20 _
                      have a0 := a0.alloc (Obj.cells #[.slice none 0 0, .int .i64 0, .int .i64 0, .bool false] 57)
                      rw [← hX33] at a0
                      have s1 := s1.alloc (Obj.cells #[.slice none 0 0, .int .i64 0, .int .i64 0, .bool false] 57)
                      rw [← hX33] at s1
                      have k15 := Blk.new X20 57 #[.slice none 0 0, .int .i64 0, .int .i64 0, .bool false]
                      rw [← hX33] at k15
                      have hgl : w7.heap.size ≤ X20.heap.size := bX20.size
                      clear hX33
                      refine hK.out _ _ (by exact ⟨⟨below_cell (by assumption) E0.out, below_cell (by assumption) E1.out, below_cell (by assumption) E2.out⟩, below_cell (by assumption) E3.out, below_cell (by assumption) E4.out⟩) (fun hHeld => ?_)
                      clear hK K; (try simp only [Act.put]); (try simp only [List.setIfInBounds_toArray]); (try simp only [List.set_cons_succ]); (try simp only [List.set_cons_zero])
                      refine wpAnyH_ready (rs := [3]) (by kernel_rfl) (by simp) ?_
                      refine AllReadyH.cons rfl (fun K hK => ?_) AllReadyH.nil
                      have hne := own_ne_blk a0.own k15 (by decide)
                      refine app2_b_step rfl (.tmp 65) (.tmp 67) rfl rfl a0 rfl (BR7.out.below bX33) (by omega) ?_
                      intro A1 c1 X34 a1 p1
                      have bX34 := a1.ext
                      simp only [Nat.zero_add, List.nil_append] at a1
                      have s1 := s1.pushed p1
                      have k15 := k15.pushed p1 hne
                      clear hne
                      refine hK.out _ _ (by exact ⟨⟨below_cell (by assumption) E0.out, below_cell (by assumption) E1.out, below_cell (by assumption) E2.out⟩, below_cell (by assumption) E3.out, below_cell (by assumption) E4.out⟩) (fun hHeld => ?_)
                      clear hK K; (try simp only [Act.put]); (try simp only [List.setIfInBounds_toArray]); (try simp only [List.set_cons_succ]); (try simp only [List.set_cons_zero])
                      try simp only [Nat.zero_add]
                      refine wpAnyH_ready (rs := [6]) (by kernel_rfl) (by simp) ?_
                      refine AllReadyH.cons rfl (fun K hK => ?_) AllReadyH.nil
                      have hne := own_ne_blk a1.own k15 (by decide)
                      refine app2_b_step rfl (.tmp 68) (.tmp 70) rfl rfl a1 rfl s1.reads (by omega) ?_
                      intro A2 c2 X35 a2 p2
                      have bX35 := a2.ext
                      have k15 := k15.pushed p2 hne
                      clear hne
                      refine hK.out _ _ (by exact ⟨⟨below_cell (by assumption) E0.out, below_cell (by assumption) E1.out, below_cell (by assumption) E2.out⟩, below_cell (by assumption) E3.out, below_cell (by assumption) E4.out⟩) (fun hHeld => ?_)
                      clear hK K; (try simp only [Act.put]); (try simp only [List.setIfInBounds_toArray]); (try simp only [List.set_cons_succ]); (try simp only [List.set_cons_zero])
                      refine wpAnyH_ready (rs := [15]) (by kernel_rfl) (by simp) ?_
                      refine AllReadyH.cons rfl (fun K hK => ?_) AllReadyH.nil
                      go_simp; (go_at_call 56; refine (beadsOf_any oA on oc _ (mvR (r : Int) x f) _ (OR7.out.below bX35) bX35.size (by omega) HMI.out).mono ?_; rintro e X36 ⟨rfl, hb15⟩); (try dsimp only)
                      have bX36 := ext_trans bX35 hb15
                      have a2 := a2.later hb15
                      have k15 := k15.below hb15 k15.lt
                      clear hb15
                      refine hK.out _ _ (by exact ⟨⟨below_cell (by assumption) E0.out, below_cell (by assumption) E1.out, below_cell (by assumption) E2.out⟩, below_cell (by assumption) E3.out, below_cell (by assumption) E4.out⟩) (fun hHeld => ?_)
                      clear hK K; (try simp only [Act.put]); (try simp only [List.setIfInBounds_toArray]); (try simp only [List.set_cons_succ]); (try simp only [List.set_cons_zero])
                      refine wpAnyH_takeD (i := 16) (v := ?_) 81 rfl rfl (by kernel_rfl) (by kernel_rfl) (by kernel_rfl) (fun _ _ _ _ _ h => h) (by rfl) (by assumption) ?_ ?_
                      rotate_left; focus (intro w hSw; (try dsimp only at hSw); go_simp; try (with_reducible rfl))
                      (try simp only [Act.put]); (try simp only [List.setIfInBounds_toArray]); (try simp only [List.set_cons_succ]); (try simp only [List.set_cons_zero])
                      refine wpAnyH_takeD (i := 17) (v := ?_) 82 rfl rfl (by kernel_rfl) (by kernel_rfl) (by kernel_rfl) (fun _ _ _ _ _ h => h) (by rfl) (by assumption) ?_ ?_
                      rotate_left; focus (intro w hSw; (try dsimp only at hSw); go_simp; try (with_reducible rfl))
                      (try simp only [Act.put]); (try simp only [List.setIfInBounds_toArray]); (try simp only [List.set_cons_succ]); (try simp only [List.set_cons_zero])
                      refine wpAnyH_ready (rs := [19]) (by kernel_rfl) (by simp) ?_
                      refine AllReadyH.cons rfl (fun K hK => ?_) AllReadyH.nil
                      have v0 := k15.cell 0
                      have v1 := k15.cell 1
                      have v2 := k15.cell 2
                      have v3 := k15.cell 3
                      have f0 := k15.frozen 0
                      have f1 := k15.frozen 1
                      have f2 := k15.frozen 2
                      have f3 := k15.frozen 3
                      simp only [List.getElem?_toArray, List.getElem?_cons_zero, List.getElem?_cons_succ] at v0 v1 v2 v3
                      go_simp
                      clear v0 v1 v2 v3 f0 f1 f2 f3
                      have a2 := a2.setOther k15 (by decide) hgl 0 (.slice A2 (bn + 1) c2)
                      have k15 := k15.set_ 0 (.slice A2 (bn + 1) c2)
                      have bX36 := ext_set bX36 (p := ⟨X20.heap.size, 0, none⟩) hgl (.slice A2 (bn + 1) c2)
                      have a2 := a2.setOther k15 (by decide) hgl 1 (.int .i64 (B.m + (on : Int)))
                      have k15 := k15.set_ 1 (.int .i64 (B.m + (on : Int)))
                      have bX36 := ext_set bX36 (p := ⟨X20.heap.size, 1, none⟩) hgl (.int .i64 (B.m + (on : Int)))
                      have a2 := a2.setOther k15 (by decide) hgl 2 (.int .i64 (B.b + BT))
                      have k15 := k15.set_ 2 (.int .i64 (B.b + BT))
                      have bX36 := ext_set bX36 (p := ⟨X20.heap.size, 2, none⟩) hgl (.int .i64 (B.b + BT))
                      have a2 := a2.setOther k15 (by decide) hgl 3 (.bool true)
                      have k15 := k15.set_ 3 (.bool true)
                      have bX36 := ext_set bX36 (p := ⟨X20.heap.size, 3, none⟩) hgl (.bool true)
                      simp only [List.setIfInBounds_toArray, List.set_cons_zero, List.set_cons_succ] at k15
                      generalize ((((X36.setCell ⟨X20.heap.size, 0, none⟩ (.slice A2 (bn + 1) c2)).setCell ⟨X20.heap.size, 1, none⟩ (.int .i64 (B.m + (on : Int)))).setCell ⟨X20.heap.size, 2, none⟩ (.int .i64 (B.b + BT))).setCell ⟨X20.heap.size, 3, none⟩ (.bool true)) = X37 at a2 k15 bX36 ⊢
                      have bX37 := bX36
                      refine hK.out _ _ (by exact ⟨⟨below_cell (by assumption) E0.out, below_cell (by assumption) E1.out, below_cell (by assumption) E2.out⟩, below_cell (by assumption) E3.out, below_cell (by assumption) E4.out⟩) (fun hHeld => ?_)
                      clear hK K; (try simp only [Act.put]); (try simp only [List.setIfInBounds_toArray]); (try simp only [List.set_cons_succ]); (try simp only [List.set_cons_zero])
                      refine wpAnyH_done (by kernel_rfl) ?_ _
                      clear hHeld
                      go_wp2_with fail
                      go_meet
                      exact ⟨X20.heap.size, A2, c2, rfl, k15, by rw [rodF_app]; exact a2, bX37⟩
                  · go_simp
                    obtain ⟨X38, hX38⟩ : ∃ X38, X38 = World.alloc X1 (Obj.cells #[.slice none 0 0, .int .i64 0, .int .i64 0, .bool false] 57) := ⟨_, rfl⟩
                    rw [← hX38]
                    have bX38 : Below w7.heap.size w7 X38 := hX38 ▸ ext_alloc bX1 _
                    have a0 := a0.alloc (Obj.cells #[.slice none 0 0, .int .i64 0, .int .i64 0, .bool false] 57)
                    rw [← hX38] at a0
                    have k15 := Blk.new X1 57 #[.slice none 0 0, .int .i64 0, .int .i64 0, .bool false]
                    rw [← hX38] at k15
                    have hgl : w7.heap.size ≤ X1.heap.size := bX1.size
                    clear hX38
                    refine hK.out _ _ (by exact ⟨⟨below_cell (by assumption) E0.out, below_cell (by assumption) E1.out, below_cell (by assumption) E2.out⟩, below_cell (by assumption) E3.out, below_cell (by assumption) E4.out⟩) (fun hHeld => ?_)
                    clear hK K; (try simp only [Act.put]); (try simp only [List.setIfInBounds_toArray]); (try simp only [List.set_cons_succ]); (try simp only [List.set_cons_zero])
                    refine wpAnyH_ready (rs := [3, 5]) (by kernel_rfl) (by simp) ?_
                    refine AllReadyH.cons rfl (fun K hK => ?_) (AllReadyH.cons rfl (fun K hK => ?_) AllReadyH.nil)
                    · have hne := own_ne_blk a0.own k15 (by decide)
                      refine app2_b_step rfl (.tmp 65) (.tmp 67) rfl rfl a0 rfl (BR7.out.below bX38) (by omega) ?_
                      intro A1 c1 X39 a1 p1
                      have bX39 := a1.ext
                      simp only [Nat.zero_add, List.nil_append] at a1
                      have k15 := k15.pushed p1 hne
                      clear hne
                      refine hK.out _ _ (by exact ⟨⟨below_cell (by assumption) E0.out, below_cell (by assumption) E1.out, below_cell (by assumption) E2.out⟩, below_cell (by assumption) E3.out, below_cell (by assumption) E4.out⟩) (fun hHeld => ?_)
                      clear hK K; (try simp only [Act.put]); (try simp only [List.setIfInBounds_toArray]); (try simp only [List.set_cons_succ]); (try simp only [List.set_cons_zero])
                      try simp only [Nat.zero_add]
                      refine wpAnyH_ready (rs := [5]) (by kernel_rfl) (by simp) ?_
                      refine AllReadyH.cons rfl (fun K hK => ?_) AllReadyH.nil
                      go_simp
                      obtain ⟨X40, hX40⟩ : ∃ X40, X40 = World.alloc X39 (Obj.cells #[.int .i64 f.a, .int .i64 f.b] 47) := ⟨_, rfl⟩
                      rw [← hX40]
                      have bX40 : Below w7.heap.size w7 X40 := hX40 ▸ ext_alloc bX39 _
                      have s1 := Side.new a1 #[.int .i64 f.a, .int .i64 f.b] 47 [f.a, f.b] rfl rfl
                      rw [← hX40] at s1
                      have a1 := a1.alloc (Obj.cells #[.int .i64 f.a, .int .i64 f.b] 47)
                      rw [← hX40] at a1
                      have k15 := k15.alloc (Obj.cells #[.int .i64 f.a, .int .i64 f.b] 47)
                      rw [← hX40] at k15
                      clear hX40
                      refine hK.out _ _ (by exact ⟨⟨below_cell (by assumption) E0.out, below_cell (by assumption) E1.out, below_cell (by assumption) E2.out⟩, below_cell (by assumption) E3.out, below_cell (by assumption) E4.out⟩) (fun hHeld => ?_)
                      clear hK K; (try simp only [Act.put]); (try simp only [List.setIfInBounds_toArray]); (try simp only [List.set_cons_succ]); (try simp only [List.set_cons_zero])
                      refine wpAnyH_ready (rs := [6]) (by kernel_rfl) (by simp) ?_
                      refine AllReadyH.cons rfl (fun K hK => ?_) AllReadyH.nil
                      have hne := own_ne_blk a1.own k15 (by decide)
                      refine app2_b_step rfl (.tmp 68) (.tmp 70) rfl rfl a1 rfl s1.reads (by omega) ?_
                      intro A2 c2 X41 a2 p2
                      have bX41 := a2.ext
                      have k15 := k15.pushed p2 hne
                      clear hne
                      refine hK.out _ _ (by exact ⟨⟨below_cell (by assumption) E0.out, below_cell (by assumption) E1.out, below_cell (by assumption) E2.out⟩, below_cell (by assumption) E3.out, below_cell (by assumption) E4.out⟩) (fun hHeld => ?_)
                      clear hK K; (try simp only [Act.put]); (try simp only [List.setIfInBounds_toArray]); (try simp only [List.set_cons_succ]); (try simp only [List.set_cons_zero])
                      refine wpAnyH_ready (rs := [15]) (by kernel_rfl) (by simp) ?_
                      refine AllReadyH.cons rfl (fun K hK => ?_) AllReadyH.nil
                      go_simp; (go_at_call 56; refine (beadsOf_any oA on oc _ (mvR (r : Int) x f) _ (OR7.out.below bX41) bX41.size (by omega) HMI.out).mono ?_; rintro e X42 ⟨rfl, hb15⟩); (try dsimp only)
                      have bX42 := ext_trans bX41 hb15
                      have a2 := a2.later hb15
                      have k15 := k15.below hb15 k15.lt
                      clear hb15
                      refine hK.out _ _ (by exact ⟨⟨below_cell (by assumption) E0.out, below_cell (by assumption) E1.out, below_cell (by assumption) E2.out⟩, below_cell (by assumption) E3.out, below_cell (by assumption) E4.out⟩) (fun hHeld => ?_)
                      clear hK K; (try simp only [Act.put]); (try simp only [List.setIfInBounds_toArray]); (try simp only [List.set_cons_succ]); (try simp only [List.set_cons_zero])
                      refine wpAnyH_takeD (i := 16) (v := ?_) 81 rfl rfl (by kernel_rfl) (by kernel_rfl) (by kernel_rfl) (fun _ _ _ _ _ h => h) (by rfl) (by assumption) ?_ ?_
                      rotate_left; focus (intro w hSw; (try dsimp only at hSw); go_simp; try (with_reducible rfl))
                      (try simp only [Act.put]); (try simp only [List.setIfInBounds_toArray]); (try simp only [List.set_cons_succ]); (try simp only [List.set_cons_zero])
                      refine wpAnyH_takeD (i := 17) (v := ?_) 82 rfl rfl (by kernel_rfl) (by kernel_rfl) (by kernel_rfl) (fun _ _ _ _ _ h => h) (by rfl) (by assumption) ?_ ?_
                      rotate_left; focus (intro w hSw; (try dsimp only at hSw); go_simp; try (with_reducible rfl))
                      (try simp only [Act.put]); (try simp only [List.setIfInBounds_toArray]); (try simp only [List.set_cons_succ]); (try simp only [List.set_cons_zero])
                      refine wpAnyH_ready (rs := [19]) (by kernel_rfl) (by simp) ?_
                      refine AllReadyH.cons rfl (fun K hK => ?_) AllReadyH.nil
                      have v0 := k15.cell 0
                      have v1 := k15.cell 1
                      have v2 := k15.cell 2
                      have v3 := k15.cell 3
                      have f0 := k15.frozen 0
                      have f1 := k15.frozen 1
                      have f2 := k15.frozen 2
                      have f3 := k15.frozen 3
                      simp only [List.getElem?_toArray, List.getElem?_cons_zero, List.getElem?_cons_succ] at v0 v1 v2 v3
                      go_simp
                      clear v0 v1 v2 v3 f0 f1 f2 f3
                      have a2 := a2.setOther k15 (by decide) hgl 0 (.slice A2 (bn + 1) c2)
                      have k15 := k15.set_ 0 (.slice A2 (bn + 1) c2)
                      have bX42 := ext_set bX42 (p := ⟨X1.heap.size, 0, none⟩) hgl (.slice A2 (bn + 1) c2)
                      have a2 := a2.setOther k15 (by decide) hgl 1 (.int .i64 (B.m + (on : Int)))
                      have k15 := k15.set_ 1 (.int .i64 (B.m + (on : Int)))
                      have bX42 := ext_set bX42 (p := ⟨X1.heap.size, 1, none⟩) hgl (.int .i64 (B.m + (on : Int)))
                      have a2 := a2.setOther k15 (by decide) hgl 2 (.int .i64 (B.b + BT))
                      have k15 := k15.set_ 2 (.int .i64 (B.b + BT))
                      have bX42 := ext_set bX42 (p := ⟨X1.heap.size, 2, none⟩) hgl (.int .i64 (B.b + BT))
                      have a2 := a2.setOther k15 (by decide) hgl 3 (.bool true)
                      have k15 := k15.set_ 3 (.bool true)
                      have bX42 := ext_set bX42 (p := ⟨X1.heap.size, 3, none⟩) hgl (.bool true)
                      simp only [List.setIfInBounds_toArray, List.set_cons_zero, List.set_cons_succ] at k15
                      generalize ((((X42.setCell ⟨X1.heap.size, 0, none⟩ (.slice A2 (bn + 1) c2)).setCell ⟨X1.heap.size, 1, none⟩ (.int .i64 (B.m + (on : Int)))).setCell ⟨X1.heap.size, 2, none⟩ (.int .i64 (B.b + BT))).setCell ⟨X1.heap.size, 3, none⟩ (.bool true)) = X43 at a2 k15 bX42 ⊢
                      have bX43 := bX42
                      refine hK.out _ _ (by exact ⟨⟨below_cell (by assumption) E0.out, below_cell (by assumption) E1.out, below_cell (by assumption) E2.out⟩, below_cell (by assumption) E3.out, below_cell (by assumption) E4.out⟩) (fun hHeld => ?_)
                      clear hK K; (try simp only [Act.put]); (try simp only [List.setIfInBounds_toArray]); (try simp only [List.set_cons_succ]); (try simp only [List.set_cons_zero])
                      refine wpAnyH_done (by kernel_rfl) ?_ _
                      clear hHeld
                      go_wp2_with fail
                      go_meet
                      exact ⟨X1.heap.size, A2, c2, rfl, k15, by rw [rodF_app]; exact a2, bX43⟩
                    · go_simp
                      obtain ⟨X44, hX44⟩ : ∃ X44, X44 = World.alloc X38 (Obj.cells #[.int .i64 f.a, .int .i64 f.b] 47) := ⟨_, rfl⟩
                      rw [← hX44]
                      have bX44 : Below w7.heap.size w7 X44 := hX44 ▸ ext_alloc bX38 _
                      have s1 := Side.new a0 #[.int .i64 f.a, .int .i64 f.b] 47 [f.a, f.b] rfl rfl
                      rw [← hX44] at s1
                      have a0 := a0.alloc (Obj.cells #[.int .i64 f.a, .int .i64 f.b] 47)
                      rw [← hX44] at a0
                      have k15 := k15.alloc (Obj.cells #[.int .i64 f.a, .int .i64 f.b] 47)
                      rw [← hX44] at k15
                      clear hX44
                      refine hK.out _ _ (by exact ⟨⟨below_cell (by assumption) E0.out, below_cell (by assumption) E1.out, below_cell (by assumption) E2.out⟩, below_cell (by assumption) E3.out, below_cell (by assumption) E4.out⟩) (fun hHeld => ?_)
                      clear hK K; (try simp only [Act.put]); (try simp only [List.setIfInBounds_toArray]); (try simp only [List.set_cons_succ]); (try simp only [List.set_cons_zero])
                      refine wpAnyH_ready (rs := [3]) (by kernel_rfl) (by simp) ?_
                      refine AllReadyH.cons rfl (fun K hK => ?_) AllReadyH.nil
                      have hne := own_ne_blk a0.own k15 (by decide)
                      refine app2_b_step rfl (.tmp 65) (.tmp 67) rfl rfl a0 rfl (BR7.out.below bX44) (by omega) ?_
                      intro A1 c1 X45 a1 p1
                      have bX45 := a1.ext
                      simp only [Nat.zero_add, List.nil_append] at a1
                      have s1 := s1.pushed p1
                      have k15 := k15.pushed p1 hne
                      clear hne
                      refine hK.out _ _ (by exact ⟨⟨below_cell (by assumption) E0.out, below_cell (by assumption) E1.out, below_cell (by assumption) E2.out⟩, below_cell (by assumption) E3.out, below_cell (by assumption) E4.out⟩) (fun hHeld => ?_)
                      clear hK K; (try simp only [Act.put]); (try simp only [List.setIfInBounds_toArray]); (try simp only [List.set_cons_succ]); (try simp only [List.set_cons_zero])
                      try simp only [Nat.zero_add]
                      refine wpAnyH_ready (rs := [6]) (by kernel_rfl) (by simp) ?_
                      refine AllReadyH.cons rfl (fun K hK => ?_) AllReadyH.nil
                      have hne := own_ne_blk a1.own k15 (by decide)
                      refine app2_b_step rfl (.tmp 68) (.tmp 70) rfl rfl a1 rfl s1.reads (by omega) ?_
                      intro A2 c2 X46 a2 p2
                      have bX46 := a2.ext
                      have k15 := k15.pushed p2 hne
                      clear hne
                      refine hK.out _ _ (by exact ⟨⟨below_cell (by assumption) E0.out, below_cell (by assumption) E1.out, below_cell (by assumption) E2.out⟩, below_cell (by assumption) E3.out, below_cell (by assumption) E4.out⟩) (fun hHeld => ?_)
                      clear hK K; (try simp only [Act.put]); (try simp only [List.setIfInBounds_toArray]); (try simp only [List.set_cons_succ]); (try simp only [List.set_cons_zero])
                      refine wpAnyH_ready (rs := [15]) (by kernel_rfl) (by simp) ?_
                      refine AllReadyH.cons rfl (fun K hK => ?_) AllReadyH.nil
                      go_simp; (go_at_call 56; refine (beadsOf_any oA on oc _ (mvR (r : Int) x f) _ (OR7.out.below bX46) bX46.size (by omega) HMI.out).mono ?_; rintro e X47 ⟨rfl, hb15⟩); (try dsimp only)
                      have bX47 := ext_trans bX46 hb15
                      have a2 := a2.later hb15
                      have k15 := k15.below hb15 k15.lt
                      clear hb15
                      refine hK.out _ _ (by exact ⟨⟨below_cell (by assumption) E0.out, below_cell (by assumption) E1.out, below_cell (by assumption) E2.out⟩, below_cell (by assumption) E3.out, below_cell (by assumption) E4.out⟩) (fun hHeld => ?_)
                      clear hK K; (try simp only [Act.put]); (try simp only [List.setIfInBounds_toArray]); (try simp only [List.set_cons_succ]); (try simp only [List.set_cons_zero])
                      refine wpAnyH_takeD (i := 16) (v := ?_) 81 rfl rfl (by kernel_rfl) (by kernel_rfl) (by kernel_rfl) (fun _ _ _ _ _ h => h) (by rfl) (by assumption) ?_ ?_
                      rotate_left; focus (intro w hSw; (try dsimp only at hSw); go_simp; try (with_reducible rfl))
                      (try simp only [Act.put]); (try simp only [List.setIfInBounds_toArray]); (try simp only [List.set_cons_succ]); (try simp only [List.set_cons_zero])
                      refine wpAnyH_takeD (i := 17) (v := ?_) 82 rfl rfl (by kernel_rfl) (by kernel_rfl) (by kernel_rfl) (fun _ _ _ _ _ h => h) (by rfl) (by assumption) ?_ ?_
                      rotate_left; focus (intro w hSw; (try dsimp only at hSw); go_simp; try (with_reducible rfl))
                      (try simp only [Act.put]); (try simp only [List.setIfInBounds_toArray]); (try simp only [List.set_cons_succ]); (try simp only [List.set_cons_zero])
                      refine wpAnyH_ready (rs := [19]) (by kernel_rfl) (by simp) ?_
                      refine AllReadyH.cons rfl (fun K hK => ?_) AllReadyH.nil
                      have v0 := k15.cell 0
                      have v1 := k15.cell 1
                      have v2 := k15.cell 2
                      have v3 := k15.cell 3
                      have f0 := k15.frozen 0
                      have f1 := k15.frozen 1
                      have f2 := k15.frozen 2
                      have f3 := k15.frozen 3
                      simp only [List.getElem?_toArray, List.getElem?_cons_zero, List.getElem?_cons_succ] at v0 v1 v2 v3
                      go_simp
                      clear v0 v1 v2 v3 f0 f1 f2 f3
                      have a2 := a2.setOther k15 (by decide) hgl 0 (.slice A2 (bn + 1) c2)
                      have k15 := k15.set_ 0 (.slice A2 (bn + 1) c2)
                      have bX47 := ext_set bX47 (p := ⟨X1.heap.size, 0, none⟩) hgl (.slice A2 (bn + 1) c2)
                      have a2 := a2.setOther k15 (by decide) hgl 1 (.int .i64 (B.m + (on : Int)))
                      have k15 := k15.set_ 1 (.int .i64 (B.m + (on : Int)))
                      have bX47 := ext_set bX47 (p := ⟨X1.heap.size, 1, none⟩) hgl (.int .i64 (B.m + (on : Int)))
                      have a2 := a2.setOther k15 (by decide) hgl 2 (.int .i64 (B.b + BT))
                      have k15 := k15.set_ 2 (.int .i64 (B.b + BT))
                      have bX47 := ext_set bX47 (p := ⟨X1.heap.size, 2, none⟩) hgl (.int .i64 (B.b + BT))
                      have a2 := a2.setOther k15 (by decide) hgl 3 (.bool true)
                      have k15 := k15.set_ 3 (.bool true)
                      have bX47 := ext_set bX47 (p := ⟨X1.heap.size, 3, none⟩) hgl (.bool true)
                      simp only [List.setIfInBounds_toArray, List.set_cons_zero, List.set_cons_succ] at k15
                      generalize ((((X47.setCell ⟨X1.heap.size, 0, none⟩ (.slice A2 (bn + 1) c2)).setCell ⟨X1.heap.size, 1, none⟩ (.int .i64 (B.m + (on : Int)))).setCell ⟨X1.heap.size, 2, none⟩ (.int .i64 (B.b + BT))).setCell ⟨X1.heap.size, 3, none⟩ (.bool true)) = X48 at a2 k15 bX47 ⊢
                      have bX48 := bX47
                      refine hK.out _ _ (by exact ⟨⟨below_cell (by assumption) E0.out, below_cell (by assumption) E1.out, below_cell (by assumption) E2.out⟩, below_cell (by assumption) E3.out, below_cell (by assumption) E4.out⟩) (fun hHeld => ?_)
                      clear hK K; (try simp only [Act.put]); (try simp only [List.setIfInBounds_toArray]); (try simp only [List.set_cons_succ]); (try simp only [List.set_cons_zero])
                      refine wpAnyH_done (by kernel_rfl) ?_ _
                      clear hHeld
                      go_wp2_with fail
                      go_meet
                      exact ⟨X1.heap.size, A2, c2, rfl, k15, by rw [rodF_app]; exact a2, bX48⟩
                · go_simp
                  obtain ⟨X49, hX49⟩ : ∃ X49, X49 = World.alloc X (Obj.cells #[.int .i64 f.a, .int .i64 f.b] 47) := ⟨_, rfl⟩
                  rw [← hX49]
                  have bX49 : Below w7.heap.size w7 X49 := hX49 ▸ ext_alloc bX _
                  have s1 := Side.new0 X 2 #[.int .i64 f.a, .int .i64 f.b] 47 [f.a, f.b] rfl rfl
                  rw [← hX49] at s1
                  clear hX49
                  refine hK.out _ _ (by exact ⟨⟨below_cell (by assumption) E0.out, below_cell (by assumption) E1.out, below_cell (by assumption) E2.out⟩, below_cell (by assumption) E3.out, below_cell (by assumption) E4.out⟩) (fun hHeld => ?_)
                  clear hK K; (try simp only [Act.put]); (try simp only [List.setIfInBounds_toArray]); (try simp only [List.set_cons_succ]); (try simp only [List.set_cons_zero])
                  refine wpAnyH_ready (rs := [0, 18]) (by kernel_rfl) (by simp) ?_
                  refine AllReadyH.cons rfl (fun K hK => ?_) (AllReadyH.cons rfl (fun K hK => ?_) AllReadyH.nil)
                  · go_simp
                    obtain ⟨X50, hX50⟩ : ∃ X50, X50 = World.alloc X49 (Obj.cells #[] 47) := ⟨_, rfl⟩
                    rw [← hX50]
                    have bX50 : Below w7.heap.size w7 X50 := hX50 ▸ ext_alloc bX49 _
                    have a0 : Acc w7 X50 47 2 (some ⟨X49.heap.size, 0, none⟩) 0 0 [] := hX50 ▸ Acc.empty bX49
                    have s1 := s1.row (Obj.cells #[] 47)
                    rw [← hX50] at s1
                    clear hX50
                    refine hK.out _ _ (by exact ⟨⟨below_cell (by assumption) E0.out, below_cell (by assumption) E1.out, below_cell (by assumption) E2.out⟩, below_cell (by assumption) E3.out, below_cell (by assumption) E4.out⟩) (fun hHeld => ?_)
                    clear hK K; (try simp only [Act.put]); (try simp only [List.setIfInBounds_toArray]); (try simp only [List.set_cons_succ]); (try simp only [List.set_cons_zero])
                    refine wpAnyH_ready (rs := [3, 18]) (by kernel_rfl) (by simp) ?_
                    refine AllReadyH.cons rfl (fun K hK => ?_) (AllReadyH.cons rfl (fun K hK => ?_) AllReadyH.nil)
                    · refine app2_b_step rfl (.tmp 65) (.tmp 67) rfl rfl a0 rfl (BR7.out.below bX50) (by omega) ?_
                      intro A1 c1 X51 a1 p1
                      have bX51 := a1.ext
                      simp only [Nat.zero_add, List.nil_append] at a1
                      have s1 := s1.pushed p1
                      refine hK.out _ _ (by exact ⟨⟨below_cell (by assumption) E0.out, below_cell (by assumption) E1.out, below_cell (by assumption) E2.out⟩, below_cell (by assumption) E3.out, below_cell (by assumption) E4.out⟩) (fun hHeld => ?_)
                      clear hK K; (try simp only [Act.put]); (try simp only [List.setIfInBounds_toArray]); (try simp only [List.set_cons_succ]); (try simp only [List.set_cons_zero])
                      try simp only [Nat.zero_add]
                      refine wpAnyH_ready (rs := [6, 18]) (by kernel_rfl) (by simp) ?_
                      refine AllReadyH.cons rfl (fun K hK => ?_) (AllReadyH.cons rfl (fun K hK => ?_) AllReadyH.nil)
                      · refine app2_b_step rfl (.tmp 68) (.tmp 70) rfl rfl a1 rfl s1.reads (by omega) ?_
                        intro A2 c2 X52 a2 p2
                        have bX52 := a2.ext
                        refine hK.out _ _ (by exact ⟨⟨below_cell (by assumption) E0.out, below_cell (by assumption) E1.out, below_cell (by assumption) E2.out⟩, below_cell (by assumption) E3.out, below_cell (by assumption) E4.out⟩) (fun hHeld => ?_)
                        clear hK K; (try simp only [Act.put]); (try simp only [List.setIfInBounds_toArray]); (try simp only [List.set_cons_succ]); (try simp only [List.set_cons_zero])
                        refine wpAnyH_ready (rs := [15, 18]) (by kernel_rfl) (by simp) ?_
                        refine AllReadyH.cons rfl (fun K hK => ?_) (AllReadyH.cons rfl (fun K hK => ?_) AllReadyH.nil)
                        · go_simp; (go_at_call 56; refine (beadsOf_any oA on oc _ (mvR (r : Int) x f) _ (OR7.out.below bX52) bX52.size (by omega) HMI.out).mono ?_; rintro e X53 ⟨rfl, hb15⟩); (try dsimp only)
                          have bX53 := ext_trans bX52 hb15
                          have a2 := a2.later hb15
                          clear hb15
                          refine hK.out _ _ (by exact ⟨⟨below_cell (by assumption) E0.out, below_cell (by assumption) E1.out, below_cell (by assumption) E2.out⟩, below_cell (by assumption) E3.out, below_cell (by assumption) E4.out⟩) (fun hHeld => ?_)
                          clear hK K; (try simp only [Act.put]); (try simp only [List.setIfInBounds_toArray]); (try simp only [List.set_cons_succ]); (try simp only [List.set_cons_zero])
                          refine wpAnyH_takeD (i := 16) (v := ?_) 81 rfl rfl (by kernel_rfl) (by kernel_rfl) (by kernel_rfl) (fun _ _ _ _ _ h => h) (by rfl) (by assumption) ?_ ?_
                          rotate_left; focus (intro w hSw; (try dsimp only at hSw); go_simp; try (with_reducible rfl))
                          (try simp only [Act.put]); (try simp only [List.setIfInBounds_toArray]); (try simp only [List.set_cons_succ]); (try simp only [List.set_cons_zero])
                          refine wpAnyH_takeD (i := 17) (v := ?_) 82 rfl rfl (by kernel_rfl) (by kernel_rfl) (by kernel_rfl) (fun _ _ _ _ _ h => h) (by rfl) (by assumption) ?_ ?_
                          rotate_left; focus (intro w hSw; (try dsimp only at hSw); go_simp; try (with_reducible rfl))
                          (try simp only [Act.put]); (try simp only [List.setIfInBounds_toArray]); (try simp only [List.set_cons_succ]); (try simp only [List.set_cons_zero])
                          refine wpAnyH_ready (rs := [18]) (by kernel_rfl) (by simp) ?_
                          refine AllReadyH.cons rfl (fun K hK => ?_) AllReadyH.nil
                          go_simp
                          obtain ⟨X54, hX54⟩ : ∃ X54, X54 = World.alloc X53 (Obj.cells #[.slice none 0 0, .int .i64 0, .int .i64 0, .bool false] 57) := ⟨_, rfl⟩
                          rw [← hX54]
                          have bX54 : Below w7.heap.size w7 X54 := hX54 ▸ ext_alloc bX53 _
                          have a2 := a2.alloc (Obj.cells #[.slice none 0 0, .int .i64 0, .int .i64 0, .bool false] 57)
                          rw [← hX54] at a2
                          have k15 := Blk.new X53 57 #[.slice none 0 0, .int .i64 0, .int .i64 0, .bool false]
                          rw [← hX54] at k15
                          have hgl : w7.heap.size ≤ X53.heap.size := bX53.size
                          clear hX54
                          refine hK.out _ _ (by exact ⟨⟨below_cell (by assumption) E0.out, below_cell (by assumption) E1.out, below_cell (by assumption) E2.out⟩, below_cell (by assumption) E3.out, below_cell (by assumption) E4.out⟩) (fun hHeld => ?_)
                          clear hK K; (try simp only [Act.put]); (try simp only [List.setIfInBounds_toArray]); (try simp only [List.set_cons_succ]); (try simp only [List.set_cons_zero])
                          refine wpAnyH_ready (rs := [19]) (by kernel_rfl) (by simp) ?_
                          refine AllReadyH.cons rfl (fun K hK => ?_) AllReadyH.nil
                          have v0 := k15.cell 0
                          have v1 := k15.cell 1
                          have v2 := k15.cell 2
                          have v3 := k15.cell 3
                          have f0 := k15.frozen 0
                          have f1 := k15.frozen 1
                          have f2 := k15.frozen 2
                          have f3 := k15.frozen 3
                          simp only [List.getElem?_toArray, List.getElem?_cons_zero, List.getElem?_cons_succ] at v0 v1 v2 v3
                          go_simp
                          clear v0 v1 v2 v3 f0 f1 f2 f3
                          have a2 := a2.setOther k15 (by decide) hgl 0 (.slice A2 (bn + 1) c2)
                          have k15 := k15.set_ 0 (.slice A2 (bn + 1) c2)
                          have bX54 := ext_set bX54 (p := ⟨X53.heap.size, 0, none⟩) hgl (.slice A2 (bn + 1) c2)
                          have a2 := a2.setOther k15 (by decide) hgl 1 (.int .i64 (B.m + (on : Int)))
                          have k15 := k15.set_ 1 (.int .i64 (B.m + (on : Int)))
                          have bX54 := ext_set bX54 (p := ⟨X53.heap.size, 1, none⟩) hgl (.int .i64 (B.m + (on : Int)))
                          have a2 := a2.setOther k15 (by decide) hgl 2 (.int .i64 (B.b + BT))
                          have k15 := k15.set_ 2 (.int .i64 (B.b + BT))
                          have bX54 := ext_set bX54 (p := ⟨X53.heap.size, 2, none⟩) hgl (.int .i64 (B.b + BT))
                          have a2 := a2.setOther k15 (by decide) hgl 3 (.bool true)
                          have k15 := k15.set_ 3 (.bool true)
                          have bX54 := ext_set bX54 (p := ⟨X53.heap.size, 3, none⟩) hgl (.bool true)
                          simp only [List.setIfInBounds_toArray, List.set_cons_zero, List.set_cons_succ] at k15
                          generalize ((((X54.setCell ⟨X53.heap.size, 0, none⟩ (.slice A2 (bn + 1) c2)).setCell ⟨X53.heap.size, 1, none⟩ (.int .i64 (B.m + (on : Int)))).setCell ⟨X53.heap.size, 2, none⟩ (.int .i64 (B.b + BT))).setCell ⟨X53.heap.size, 3, none⟩ (.bool true)) = X55 at a2 k15 bX54 ⊢
                          have bX55 := bX54
                          refine hK.out _ _ (by exact ⟨⟨below_cell (by assumption) E0.out, below_cell (by assumption) E1.out, below_cell (by assumption) E2.out⟩, below_cell (by assumption) E3.out, below_cell (by assumption) E4.out⟩) (fun hHeld => ?_)
                          clear hK K; (try simp only [Act.put]); (try simp only [List.setIfInBounds_toArray]); (try simp only [List.set_cons_succ]); (try simp only [List.set_cons_zero])
                          refine wpAnyH_done (by kernel_rfl) ?_ _
                          clear hHeld
                          go_wp2_with fail
                          go_meet
                          exact ⟨X53.heap.size, A2, c2, rfl, k15, by rw [rodF_app]; exact a2, bX55⟩
                        · go_simp
                          obtain ⟨X56, hX56⟩ : ∃ X56, X56 = World.alloc X52 (Obj.cells #[.slice none 0 0, .int .i64 0, .int .i64 0, .bool false] 57) := ⟨_, rfl⟩
                          rw [← hX56]
                          have bX56 : Below w7.heap.size w7 X56 := hX56 ▸ ext_alloc bX52 _
                          have a2 := a2.alloc (Obj.cells #[.slice none 0 0, .int .i64 0, .int .i64 0, .bool false] 57)
                          rw [← hX56] at a2
                          have k15 := Blk.new X52 57 #[.slice none 0 0, .int .i64 0, .int .i64 0, .bool false]
                          rw [← hX56] at k15
                          have hgl : w7.heap.size ≤ X52.heap.size := bX52.size
                          clear hX56
                          refine hK.out _ _ (by exact ⟨⟨below_cell (by assumption) E0.out, below_cell (by assumption) E1.out, below_cell (by assumption) E2.out⟩, below_cell (by assumption) E3.out, below_cell (by assumption) E4.out⟩) (fun hHeld => ?_)
                          clear hK K; (try simp only [Act.put]); (try simp only [List.setIfInBounds_toArray]); (try simp only [List.set_cons_succ]); (try simp only [List.set_cons_zero])
                          refine wpAnyH_ready (rs := [15]) (by kernel_rfl) (by simp) ?_
                          refine AllReadyH.cons rfl (fun K hK => ?_) AllReadyH.nil
                          go_simp; (go_at_call 56; refine (beadsOf_any oA on oc _ (mvR (r : Int) x f) _ (OR7.out.below bX56) bX56.size (by omega) HMI.out).mono ?_; rintro e X57 ⟨rfl, hb15⟩); (try dsimp only)
                          have bX57 := ext_trans bX56 hb15
                          have a2 := a2.later hb15
                          have k15 := k15.below hb15 k15.lt
                          clear hb15
                          refine hK.out _ _ (by exact ⟨⟨below_cell (by assumption) E0.out, below_cell (by assumption) E1.out, below_cell (by assumption) E2.out⟩, below_cell (by assumption) E3.out, below_cell (by assumption) E4.out⟩) (fun hHeld => ?_)
                          clear hK K; (try simp only [Act.put]); (try simp only [List.setIfInBounds_toArray]); (try simp only [List.set_cons_succ]); (try simp only [List.set_cons_zero])
                          refine wpAnyH_takeD (i := 16) (v := ?_) 81 rfl rfl (by kernel_rfl) (by kernel_rfl) (by kernel_rfl) (fun _ _ _ _ _ h => h) (by rfl) (by assumption) ?_ ?_
                          rotate_left; focus (intro w hSw; (try dsimp only at hSw); go_simp; try (with_reducible rfl))
                          (try simp only [Act.put]); (try simp only [List.setIfInBounds_toArray]); (try simp only [List.set_cons_succ]); (try simp only [List.set_cons_zero])
                          refine wpAnyH_takeD (i := 17) (v := ?_) 82 rfl rfl (by kernel_rfl) (by kernel_rfl) (by kernel_rfl) (fun _ _ _ _ _ h => h) (by rfl) (by assumption) ?_ ?_
                          rotate_left; focus (intro w hSw; (try dsimp only at hSw); go_simp; try (with_reducible rfl))
                          (try simp only [Act.put]); (try simp only [List.setIfInBounds_toArray]); (try simp only [List.set_cons_succ]); (try simp only [List.set_cons_zero])
                          refine wpAnyH_ready (rs := [19]) (by kernel_rfl) (by simp) ?_
                          refine AllReadyH.cons rfl (fun K hK => ?_) AllReadyH.nil
                          have v0 := k15.cell 0
                          have v1 := k15.cell 1
                          have v2 := k15.cell 2
                          have v3 := k15.cell 3
                          have f0 := k15.frozen 0
                          have f1 := k15.frozen 1
                          have f2 := k15.frozen 2
                          have f3 := k15.frozen 3
                          simp only [List.getElem?_toArray, List.getElem?_cons_zero, List.getElem?_cons_succ] at v0 v1 v2 v3
                          go_simp
                          clear v0 v1 v2 v3 f0 f1 f2 f3
                          have a2 := a2.setOther k15 (by decide) hgl 0 (.slice A2 (bn + 1) c2)
                          have k15 := k15.set_ 0 (.slice A2 (bn + 1) c2)
                          have bX57 := ext_set bX57 (p := ⟨X52.heap.size, 0, none⟩) hgl (.slice A2 (bn + 1) c2)
                          have a2 := a2.setOther k15 (by decide) hgl 1 (.int .i64 (B.m + (on : Int)))
                          have k15 := k15.set_ 1 (.int .i64 (B.m + (on : Int)))
                          have bX57 := ext_set bX57 (p := ⟨X52.heap.size, 1, none⟩) hgl (.int .i64 (B.m + (on : Int)))
                          have a2 := a2.setOther k15 (by decide) hgl 2 (.int .i64 (B.b + BT))
                          have k15 := k15.set_ 2 (.int .i64 (B.b + BT))
                          have bX57 := ext_set bX57 (p := ⟨X52.heap.size, 2, none⟩) hgl (.int .i64 (B.b + BT))
                          have a2 := a2.setOther k15 (by decide) hgl 3 (.bool true)
                          have k15 := k15.set_ 3 (.bool true)
                          have bX57 := ext_set bX57 (p := ⟨X52.heap.size, 3, none⟩) hgl (.bool true)
                          simp only [List.setIfInBounds_toArray, List.set_cons_zero, List.set_cons_succ] at k15
                          generalize ((((X57.setCell ⟨X52.heap.size, 0, none⟩ (.slice A2 (bn + 1) c2)).setCell ⟨X52.heap.size, 1, none⟩ (.int .i64 (B.m + (on : Int)))).setCell ⟨X52.heap.size, 2, none⟩ (.int .i64 (B.b + BT))).setCell ⟨X52.heap.size, 3, none⟩ (.bool true)) = X58 at a2 k15 bX57 ⊢
                          have bX58 := bX57
                          refine hK.out _ _ (by exact ⟨⟨below_cell (by assumption) E0.out, below_cell (by assumption) E1.out, below_cell (by assumption) E2.out⟩, below_cell (by assumption) E3.out, below_cell (by assumption) E4.out⟩) (fun hHeld => ?_)
                          clear hK K; (try simp only [Act.put]); (try simp only [List.setIfInBounds_toArray]); (try simp only [List.set_cons_succ]); (try simp only [List.set_cons_zero])
                          refine wpAnyH_done (by kernel_rfl) ?_ _
                          clear hHeld
                          go_wp2_with fail
                          go_meet
                          exact ⟨X52.heap.size, A2, c2, rfl, k15, by rw [rodF_app]; exact a2, bX58⟩
                      · go_simp
                        obtain ⟨X59, hX59⟩ : ∃ X59, X59 = World.alloc X51 (Obj.cells #[.slice none 0 0, .int .i64 0, .int .i64 0, .bool false] 57) := ⟨_, rfl⟩
                        rw [← hX59]
                        have bX59 : Below w7.heap.size w7 X59 := hX59 ▸ ext_alloc bX51 _
                        have a1 := a1.alloc (Obj.cells #[.slice none 0 0, .int .i64 0, .int .i64 0, .bool false] 57)
                        rw [← hX59] at a1
                        have s1 := s1.alloc (Obj.cells #[.slice none 0 0, .int .i64 0, .int .i64 0, .bool false] 57)
                        rw [← hX59] at s1
                        have k15 := Blk.new X51 57 #[.slice none 0 0, .int .i64 0, .int .i64 0, .bool false]
                        rw [← hX59] at k15
                        have hgl : w7.heap.size ≤ X51.heap.size := bX51.size
                        clear hX59
                        refine hK.out _ _ (by exact ⟨⟨below_cell (by assumption) E0.out, below_cell (by assumption) E1.out, below_cell (by assumption) E2.out⟩, below_cell (by assumption) E3.out, below_cell (by assumption) E4.out⟩) (fun hHeld => ?_)
                        clear hK K; (try simp only [Act.put]); (try simp only [List.setIfInBounds_toArray]); (try simp only [List.set_cons_succ]); (try simp only [List.set_cons_zero])
                        refine wpAnyH_ready (rs := [6]) (by kernel_rfl) (by simp) ?_
                        refine AllReadyH.cons rfl (fun K hK => ?_) AllReadyH.nil
                        have hne := own_ne_blk a1.own k15 (by decide)
                        refine app2_b_step rfl (.tmp 68) (.tmp 70) rfl rfl a1 rfl s1.reads (by omega) ?_
                        intro A2 c2 X60 a2 p2
                        have bX60 := a2.ext
                        have k15 := k15.pushed p2 hne
                        clear hne
                        refine hK.out _ _ (by exact ⟨⟨below_cell (by assumption) E0.out, below_cell (by assumption) E1.out, below_cell (by assumption) E2.out⟩, below_cell (by assumption) E3.out, below_cell (by assumption) E4.out⟩) (fun hHeld => ?_)
                        clear hK K; (try simp only [Act.put]); (try simp only [List.setIfInBounds_toArray]); (try simp only [List.set_cons_succ]); (try simp only [List.set_cons_zero])
                        refine wpAnyH_ready (rs := [15]) (by kernel_rfl) (by simp) ?_
                        refine AllReadyH.cons rfl (fun K hK => ?_) AllReadyH.nil
                        go_simp; (go_at_call 56; refine (beadsOf_any oA on oc _ (mvR (r : Int) x f) _ (OR7.out.below bX60) bX60.size (by omega) HMI.out).mono ?_; rintro e X61 ⟨rfl, hb15⟩); (try dsimp only)
                        have bX61 := ext_trans bX60 hb15
                        have a2 := a2.later hb15
                        have k15 := k15.below hb15 k15.lt
                        clear hb15
                        refine hK.out _ _ (by exact ⟨⟨below_cell (by assumption) E0.out, below_cell (by assumption) E1.out, below_cell (by assumption) E2.out⟩, below_cell (by assumption) E3.out, below_cell (by assumption) E4.out⟩) (fun hHeld => ?_)
                        clear hK K; (try simp only [Act.put]); (try simp only [List.setIfInBounds_toArray]); (try simp only [List.set_cons_succ]); (try simp only [List.set_cons_zero])
                        refine wpAnyH_takeD (i := 16) (v := ?_) 81 rfl rfl (by kernel_rfl) (by kernel_rfl) (by kernel_rfl) (fun _ _ _ _ _ h => h) (by rfl) (by assumption) ?_ ?_
                        rotate_left; focus (intro w hSw; (try dsimp only at hSw); go_simp; try (with_reducible rfl))
                        (try simp only [Act.put]); (try simp only [List.setIfInBounds_toArray]); (try simp only [List.set_cons_succ]); (try simp only [List.set_cons_zero])
                        refine wpAnyH_takeD (i := 17) (v := ?_) 82 rfl rfl (by kernel_rfl) (by kernel_rfl) (by kernel_rfl) (fun _ _ _ _ _ h => h) (by rfl) (by assumption) ?_ ?_
                        rotate_left; focus (intro w hSw; (try dsimp only at hSw); go_simp; try (with_reducible rfl))
                        (try simp only [Act.put]); (try simp only [List.setIfInBounds_toArray]); (try simp only [List.set_cons_succ]); (try simp only [List.set_cons_zero])
                        refine wpAnyH_ready (rs := [19]) (by kernel_rfl) (by simp) ?_
                        refine AllReadyH.cons rfl (fun K hK => ?_) AllReadyH.nil
                        have v0 := k15.cell 0
                        have v1 := k15.cell 1
                        have v2 := k15.cell 2
                        have v3 := k15.cell 3
                        have f0 := k15.frozen 0
                        have f1 := k15.frozen 1
                        have f2 := k15.frozen 2
                        have f3 := k15.frozen 3
                        simp only [List.getElem?_toArray, List.getElem?_cons_zero, List.getElem?_cons_succ] at v0 v1 v2 v3
                        go_simp
                        clear v0 v1 v2 v3 f0 f1 f2 f3
                        have a2 := a2.setOther k15 (by decide) hgl 0 (.slice A2 (bn + 1) c2)
                        have k15 := k15.set_ 0 (.slice A2 (bn + 1) c2)
                        have bX61 := ext_set bX61 (p := ⟨X51.heap.size, 0, none⟩) hgl (.slice A2 (bn + 1) c2)
                        have a2 := a2.setOther k15 (by decide) hgl 1 (.int .i64 (B.m + (on : Int)))
                        have k15 := k15.set_ 1 (.int .i64 (B.m + (on : Int)))
                        have bX61 := ext_set bX61 (p := ⟨X51.heap.size, 1, none⟩) hgl (.int .i64 (B.m + (on : Int)))
                        have a2 := a2.setOther k15 (by decide) hgl 2 (.int .i64 (B.b + BT))
                        have k15 := k15.set_ 2 (.int .i64 (B.b + BT))
                        have bX61 := ext_set bX61 (p := ⟨X51.heap.size, 2, none⟩) hgl (.int .i64 (B.b + BT))
                        have a2 := a2.setOther k15 (by decide) hgl 3 (.bool true)
                        have k15 := k15.set_ 3 (.bool true)
                        have bX61 := ext_set bX61 (p := ⟨X51.heap.size, 3, none⟩) hgl (.bool true)
                        simp only [List.setIfInBounds_toArray, List.set_cons_zero, List.set_cons_succ] at k15
                        generalize ((((X61.setCell ⟨X51.heap.size, 0, none⟩ (.slice A2 (bn + 1) c2)).setCell ⟨X51.heap.size, 1, none⟩ (.int .i64 (B.m + (on : Int)))).setCell ⟨X51.heap.size, 2, none⟩ (.int .i64 (B.b + BT))).setCell ⟨X51.heap.size, 3, none⟩ (.bool true)) = X62 at a2 k15 bX61 ⊢
                        have bX62 := bX61
                        refine hK.out _ _ (by exact ⟨⟨below_cell (by assumption) E0.out, below_cell (by assumption) E1.out, below_cell (by assumption) E2.out⟩, below_cell (by assumption) E3.out, below_cell (by assumption) E4.out⟩) (fun hHeld => ?_)
                        clear hK K; (try simp only [Act.put]); (try simp only [List.setIfInBounds_toArray]); (try simp only [List.set_cons_succ]); (try simp only [List.set_cons_zero])
                        refine wpAnyH_done (by kernel_rfl) ?_ _
                        clear hHeld
                        go_wp2_with fail
                        go_meet
                        exact ⟨X51.heap.size, A2, c2, rfl, k15, by rw [rodF_app]; exact a2, bX62⟩
                    · go_simp
                      obtain ⟨X63, hX63⟩ : ∃ X63, X63 = World.alloc X50 (Obj.cells #[.slice none 0 0, .int .i64 0, .int .i64 0, .bool false] 57) := ⟨_, rfl⟩
                      rw [← hX63]
                      have bX63 : Below w7.heap.size w7 X63 := hX63 ▸ ext_alloc bX50 _
                      have a0 := a0.alloc (Obj.cells #[.slice none 0 0, .int .i64 0, .int .i64 0, .bool false] 57)
                      rw [← hX63] at a0
                      have s1 := s1.alloc (Obj.cells #[.slice none 0 0, .int .i64 0, .int .i64 0, .bool false] 57)
                      rw [← hX63] at s1
                      have k15 := Blk.new X50 57 #[.slice none 0 0, .int .i64 0, .int .i64 0, .bool false]
                      rw [← hX63] at k15
                      have hgl : w7.heap.size ≤ X50.heap.size := bX50.size
                      clear hX63
                      refine hK.out _ _ (by exact ⟨⟨below_cell (by assumption) E0.out, below_cell (by assumption) E1.out, below_cell (by assumption) E2.out⟩, below_cell (by assumption) E3.out, below_cell (by assumption) E4.out⟩) (fun hHeld => ?_)
                      clear hK K; (try simp only [Act.put]); (try simp only [List.setIfInBounds_toArray]); (try simp only [List.set_cons_succ]); (try simp only [List.set_cons_zero])
                      refine wpAnyH_ready (rs := [3]) (by kernel_rfl) (by simp) ?_
                      refine AllReadyH.cons rfl (fun K hK => ?_) AllReadyH.nil
                      have hne := own_ne_blk a0.own k15 (by decide)
                      refine app2_b_step rfl (.tmp 65) (.tmp 67) rfl rfl a0 rfl (BR7.out.below bX63) (by omega) ?_
                      intro A1 c1 X64 a1 p1
                      have bX64 := a1.ext
                      simp only [Nat.zero_add, List.nil_append] at a1
                      have s1 := s1.pushed p1
                      have k15 := k15.pushed p1 hne
                      clear hne
                      refine hK.out _ _ (by exact ⟨⟨below_cell (by assumption) E0.out, below_cell (by assumption) E1.out, below_cell (by assumption) E2.out⟩, below_cell (by assumption) E3.out, below_cell (by assumption) E4.out⟩) (fun hHeld => ?_)
                      clear hK K; (try simp only [Act.put]); (try simp only [List.setIfInBounds_toArray]); (try simp only [List.set_cons_succ]); (try simp only [List.set_cons_zero])
                      try simp only [Nat.zero_add]
                      refine wpAnyH_ready (rs := [6]) (by kernel_rfl) (by simp) ?_
                      refine AllReadyH.cons rfl (fun K hK => ?_) AllReadyH.nil
                      have hne := own_ne_blk a1.own k15 (by decide)
                      refine app2_b_step rfl (.tmp 68) (.tmp 70) rfl rfl a1 rfl s1.reads (by omega) ?_
                      intro A2 c2 X65 a2 p2
                      have bX65 := a2.ext
                      have k15 := k15.pushed p2 hne
                      clear hne
                      refine hK.out _ _ (by exact ⟨⟨below_cell (by assumption) E0.out, below_cell (by assumption) E1.out, below_cell (by assumption) E2.out⟩, below_cell (by assumption) E3.out, below_cell (by assumption) E4.out⟩) (fun hHeld => ?_)
                      clear hK K; (try simp only [Act.put]); (try simp only [List.setIfInBounds_toArray]); (try simp only [List.set_cons_succ]); (try simp only [List.set_cons_zero])
                      refine wpAnyH_ready (rs := [15]) (by kernel_rfl) (by simp) ?_
                      refine AllReadyH.cons rfl (fun K hK => ?_) AllReadyH.nil
                      go_simp; (go_at_call 56; refine (beadsOf_any oA on oc _ (mvR (r : Int) x f) _ (OR7.out.below bX65) bX65.size (by omega) HMI.out).mono ?_; rintro e X66 ⟨rfl, hb15⟩); (try dsimp only)
                      have bX66 := ext_trans bX65 hb15
                      have a2 := a2.later hb15
                      have k15 := k15.below hb15 k15.lt
                      clear hb15
                      refine hK.out _ _ (by exact ⟨⟨below_cell (by assumption) E0.out, below_cell (by assumption) E1.out, below_cell (by assumption) E2.out⟩, below_cell (by assumption) E3.out, below_cell (by assumption) E4.out⟩) (fun hHeld => ?_)
                      clear hK K; (try simp only [Act.put]); (try simp only [List.setIfInBounds_toArray]); (try simp only [List.set_cons_succ]); (try simp only [List.set_cons_zero])
                      refine wpAnyH_takeD (i := 16) (v := ?_) 81 rfl rfl (by kernel_rfl) (by kernel_rfl) (by kernel_rfl) (fun _ _ _ _ _ h => h) (by rfl) (by assumption) ?_ ?_
                      rotate_left; focus (intro w hSw; (try dsimp only at hSw); go_simp; try (with_reducible rfl))
                      (try simp only [Act.put]); (try simp only [List.setIfInBounds_toArray]); (try simp only [List.set_cons_succ]); (try simp only [List.set_cons_zero])
                      refine wpAnyH_takeD (i := 17) (v := ?_) 82 rfl rfl (by kernel_rfl) (by kernel_rfl) (by kernel_rfl) (fun _ _ _ _ _ h => h) (by rfl) (by assumption) ?_ ?_
                      rotate_left; focus (intro w hSw; (try dsimp only at hSw); go_simp; try (with_reducible rfl))
                      (try simp only [Act.put]); (try simp only [List.setIfInBounds_toArray]); (try simp only [List.set_cons_succ]); (try simp only [List.set_cons_zero])
                      refine wpAnyH_ready (rs := [19]) (by kernel_rfl) (by simp) ?_
                      refine AllReadyH.cons rfl (fun K hK => ?_) AllReadyH.nil
                      have v0 := k15.cell 0
                      have v1 := k15.cell 1
                      have v2 := k15.cell 2
                      have v3 := k15.cell 3
                      have f0 := k15.frozen 0
                      have f1 := k15.frozen 1
                      have f2 := k15.frozen 2
                      have f3 := k15.frozen 3
                      simp only [List.getElem?_toArray, List.getElem?_cons_zero, List.getElem?_cons_succ] at v0 v1 v2 v3
                      go_simp
                      clear v0 v1 v2 v3 f0 f1 f2 f3
                      have a2 := a2.setOther k15 (by decide) hgl 0 (.slice A2 (bn + 1) c2)
                      have k15 := k15.set_ 0 (.slice A2 (bn + 1) c2)
                      have bX66 := ext_set bX66 (p := ⟨X50.heap.size, 0, none⟩) hgl (.slice A2 (bn + 1) c2)
                      have a2 := a2.setOther k15 (by decide) hgl 1 (.int .i64 (B.m + (on : Int)))
                      have k15 := k15.set_ 1 (.int .i64 (B.m + (on : Int)))
                      have bX66 := ext_set bX66 (p := ⟨X50.heap.size, 1, none⟩) hgl (.int .i64 (B.m + (on : Int)))
                      have a2 := a2.setOther k15 (by decide) hgl 2 (.int .i64 (B.b + BT))
                      have k15 := k15.set_ 2 (.int .i64 (B.b + BT))
                      have bX66 := ext_set bX66 (p := ⟨X50.heap.size, 2, none⟩) hgl (.int .i64 (B.b + BT))
                      have a2 := a2.setOther k15 (by decide) hgl 3 (.bool true)
                      have k15 := k15.set_ 3 (.bool true)
                      have bX66 := ext_set bX66 (p := ⟨X50.heap.size, 3, none⟩) hgl (.bool true)
                      simp only [List.setIfInBounds_toArray, List.set_cons_zero, List.set_cons_succ] at k15
                      generalize ((((X66.setCell ⟨X50.heap.size, 0, none⟩ (.slice A2 (bn + 1) c2)).setCell ⟨X50.heap.size, 1, none⟩ (.int .i64 (B.m + (on : Int)))).setCell ⟨X50.heap.size, 2, none⟩ (.int .i64 (B.b + BT))).setCell ⟨X50.heap.size, 3, none⟩ (.bool true)) = X67 at a2 k15 bX66 ⊢
                      have bX67 := bX66
                      refine hK.out _ _ (by exact ⟨⟨below_cell (by assumption) E0.out, below_cell (by assumption) E1.out, below_cell (by assumption) E2.out⟩, below_cell (by assumption) E3.out, below_cell (by assumption) E4.out⟩) (fun hHeld => ?_)
                      clear hK K; (try simp only [Act.put]); (try simp only [List.setIfInBounds_toArray]); (try simp only [List.set_cons_succ]); (try simp only [List.set_cons_zero])
                      refine wpAnyH_done (by kernel_rfl) ?_ _
                      clear hHeld
                      go_wp2_with fail
                      go_meet
                      exact ⟨X50.heap.size, A2, c2, rfl, k15, by rw [rodF_app]; exact a2, bX67⟩
                  · go_simp
                    obtain ⟨X68, hX68⟩ : ∃ X68, X68 = World.alloc X49 (Obj.cells #[.slice none 0 0, .int .i64 0, .int .i64 0, .bool false] 57) := ⟨_, rfl⟩
                    rw [← hX68]
                    have bX68 : Below w7.heap.size w7 X68 := hX68 ▸ ext_alloc bX49 _
                    have s1 := s1.alloc (Obj.cells #[.slice none 0 0, .int .i64 0, .int .i64 0, .bool false] 57)
                    rw [← hX68] at s1
                    have k15 := Blk.new X49 57 #[.slice none 0 0, .int .i64 0, .int .i64 0, .bool false]
                    rw [← hX68] at k15
                    have hgl : w7.heap.size ≤ X49.heap.size := bX49.size
                    clear hX68
                    refine hK.out _ _ (by exact ⟨⟨below_cell (by assumption) E0.out, below_cell (by assumption) E1.out, below_cell (by assumption) E2.out⟩, below_cell (by assumption) E3.out, below_cell (by assumption) E4.out⟩) (fun hHeld => ?_)
                    clear hK K; (try simp only [Act.put]); (try simp only [List.setIfInBounds_toArray]); (try simp only [List.set_cons_succ]); (try simp only [List.set_cons_zero])
                    refine wpAnyH_ready (rs := [0]) (by kernel_rfl) (by simp) ?_
                    refine AllReadyH.cons rfl (fun K hK => ?_) AllReadyH.nil
                    go_simp
                    obtain ⟨X69, hX69⟩ : ∃ X69, X69 = World.alloc X68 (Obj.cells #[] 47) := ⟨_, rfl⟩
                    rw [← hX69]
                    have bX69 : Below w7.heap.size w7 X69 := hX69 ▸ ext_alloc bX68 _
                    have a0 : Acc w7 X69 47 2 (some ⟨X68.heap.size, 0, none⟩) 0 0 [] := hX69 ▸ Acc.empty bX68
                    have s1 := s1.row (Obj.cells #[] 47)
                    rw [← hX69] at s1
                    have k15 := k15.alloc (Obj.cells #[] 47)
                    rw [← hX69] at k15
                    clear hX69
                    refine hK.out _ _ (by exact ⟨⟨below_cell (by assumption) E0.out, below_cell (by assumption) E1.out, below_cell (by assumption) E2.out⟩, below_cell (by assumption) E3.out, below_cell (by assumption) E4.out⟩) (fun hHeld => ?_)
                    clear hK K; (try simp only [Act.put]); (try simp only [List.setIfInBounds_toArray]); (try simp only [List.set_cons_succ]); (try simp only [List.set_cons_zero])
                    refine wpAnyH_ready (rs := [3]) (by kernel_rfl) (by simp) ?_
                    refine AllReadyH.cons rfl (fun K hK => ?_) AllReadyH.nil
                    have hne := own_ne_blk a0.own k15 (by decide)
                    refine app2_b_step rfl (.tmp 65) (.tmp 67) rfl rfl a0 rfl (BR7.out.below bX69) (by omega) ?_
                    intro A1 c1 X70 a1 p1
                    have bX70 := a1.ext
                    simp only [Nat.zero_add, List.nil_append] at a1
                    have s1 := s1.pushed p1
                    have k15 := k15.pushed p1 hne
                    clear hne
                    refine hK.out _ _ (by exact ⟨⟨below_cell (by assumption) E0.out, below_cell (by assumption) E1.out, below_cell (by assumption) E2.out⟩, below_cell (by assumption) E3.out, below_cell (by assumption) E4.out⟩) (fun hHeld => ?_)
                    clear hK K; (try simp only [Act.put]); (try simp only [List.setIfInBounds_toArray]); (try simp only [List.set_cons_succ]); (try simp only [List.set_cons_zero])
                    try simp only [Nat.zero_add]
                    refine wpAnyH_ready (rs := [6]) (by kernel_rfl) (by simp) ?_
                    refine AllReadyH.cons rfl (fun K hK => ?_) AllReadyH.nil
                    have hne := own_ne_blk a1.own k15 (by decide)
                    refine app2_b_step rfl (.tmp 68) (.tmp 70) rfl rfl a1 rfl s1.reads (by omega) ?_
                    intro A2 c2 X71 a2 p2
                    have bX71 := a2.ext
                    have k15 := k15.pushed p2 hne
                    clear hne
                    refine hK.out _ _ (by exact ⟨⟨below_cell (by assumption) E0.out, below_cell (by assumption) E1.out, below_cell (by assumption) E2.out⟩, below_cell (by assumption) E3.out, below_cell (by assumption) E4.out⟩) (fun hHeld => ?_)
                    clear hK K; (try simp only [Act.put]); (try simp only [List.setIfInBounds_toArray]); (try simp only [List.set_cons_succ]); (try simp only [List.set_cons_zero])
                    refine wpAnyH_ready (rs := [15]) (by kernel_rfl) (by simp) ?_
                    refine AllReadyH.cons rfl (fun K hK => ?_) AllReadyH.nil
                    go_simp; (go_at_call 56; refine (beadsOf_any oA on oc _ (mvR (r : Int) x f) _ (OR7.out.below bX71) bX71.size (by omega) HMI.out).mono ?_; rintro e X72 ⟨rfl, hb15⟩); (try dsimp only)
                    have bX72 := ext_trans bX71 hb15
                    have a2 := a2.later hb15
                    have k15 := k15.below hb15 k15.lt
                    clear hb15
                    refine hK.out _ _ (by exact ⟨⟨below_cell (by assumption) E0.out, below_cell (by assumption) E1.out, below_cell (by assumption) E2.out⟩, below_cell (by assumption) E3.out, below_cell (by assumption) E4.out⟩) (fun hHeld => ?_)
                    clear hK K; (try simp only [Act.put]); (try simp only [List.setIfInBounds_toArray]); (try simp only [List.set_cons_succ]); (try simp only [List.set_cons_zero])
                    refine wpAnyH_takeD (i := 16) (v := ?_) 81 rfl rfl (by kernel_rfl) (by kernel_rfl) (by kernel_rfl) (fun _ _ _ _ _ h => h) (by rfl) (by assumption) ?_ ?_
                    rotate_left; focus (intro w hSw; (try dsimp only at hSw); go_simp; try (with_reducible rfl))
                    (try simp only [Act.put]); (try simp only [List.setIfInBounds_toArray]); (try simp only [List.set_cons_succ]); (try simp only [List.set_cons_zero])
                    refine wpAnyH_takeD (i := 17) (v := ?_) 82 rfl rfl (by kernel_rfl) (by kernel_rfl) (by kernel_rfl) (fun _ _ _ _ _ h => h) (by rfl) (by assumption) ?_ ?_
                    rotate_left; focus (intro w hSw; (try dsimp only at hSw); go_simp; try (with_reducible rfl))
                    (try simp only [Act.put]); (try simp only [List.setIfInBounds_toArray]); (try simp only [List.set_cons_succ]); (try simp only [List.set_cons_zero])
                    refine wpAnyH_ready (rs := [19]) (by kernel_rfl) (by simp) ?_
                    refine AllReadyH.cons rfl (fun K hK => ?_) AllReadyH.nil
                    have v0 := k15.cell 0
                    have v1 := k15.cell 1
                    have v2 := k15.cell 2
                    have v3 := k15.cell 3
                    have f0 := k15.frozen 0
                    have f1 := k15.frozen 1
                    have f2 := k15.frozen 2
                    have f3 := k15.frozen 3
                    simp only [List.getElem?_toArray, List.getElem?_cons_zero, List.getElem?_cons_succ] at v0 v1 v2 v3
                    go_simp
                    clear v0 v1 v2 v3 f0 f1 f2 f3
                    have a2 := a2.setOther k15 (by decide) hgl 0 (.slice A2 (bn + 1) c2)
                    have k15 := k15.set_ 0 (.slice A2 (bn + 1) c2)
                    have bX72 := ext_set bX72 (p := ⟨X49.heap.size, 0, none⟩) hgl (.slice A2 (bn + 1) c2)
                    have a2 := a2.setOther k15 (by decide) hgl 1 (.int .i64 (B.m + (on : Int)))
                    have k15 := k15.set_ 1 (.int .i64 (B.m + (on : Int)))
                    have bX72 := ext_set bX72 (p := ⟨X49.heap.size, 1, none⟩) hgl (.int .i64 (B.m + (on : Int)))
                    have a2 := a2.setOther k15 (by decide) hgl 2 (.int .i64 (B.b + BT))
                    have k15 := k15.set_ 2 (.int .i64 (B.b + BT))
                    have bX72 := ext_set bX72 (p := ⟨X49.heap.size, 2, none⟩) hgl (.int .i64 (B.b + BT))
                    have a2 := a2.setOther k15 (by decide) hgl 3 (.bool true)
                    have k15 := k15.set_ 3 (.bool true)
                    have bX72 := ext_set bX72 (p := ⟨X49.heap.size, 3, none⟩) hgl (.bool true)
                    simp only [List.setIfInBounds_toArray, List.set_cons_zero, List.set_cons_succ] at k15
                    generalize ((((X72.setCell ⟨X49.heap.size, 0, none⟩ (.slice A2 (bn + 1) c2)).setCell ⟨X49.heap.size, 1, none⟩ (.int .i64 (B.m + (on : Int)))).setCell ⟨X49.heap.size, 2, none⟩ (.int .i64 (B.b + BT))).setCell ⟨X49.heap.size, 3, none⟩ (.bool true)) = X73 at a2 k15 bX72 ⊢
                    have bX73 := bX72
                    refine hK.out _ _ (by exact ⟨⟨below_cell (by assumption) E0.out, below_cell (by assumption) E1.out, below_cell (by assumption) E2.out⟩, below_cell (by assumption) E3.out, below_cell (by assumption) E4.out⟩) (fun hHeld => ?_)
                    clear hK K; (try simp only [Act.put]); (try simp only [List.setIfInBounds_toArray]); (try simp only [List.set_cons_succ]); (try simp only [List.set_cons_zero])
                    refine wpAnyH_done (by kernel_rfl) ?_ _
                    clear hHeld
                    go_wp2_with fail
                    go_meet
                    exact ⟨X49.heap.size, A2, c2, rfl, k15, by rw [rodF_app]; exact a2, bX73⟩
                · go_simp
                  obtain ⟨X74, hX74⟩ : ∃ X74, X74 = World.alloc X (Obj.cells #[.slice none 0 0, .int .i64 0, .int .i64 0, .bool false] 57) := ⟨_, rfl⟩
                  rw [← hX74]
                  have bX74 : Below w7.heap.size w7 X74 := hX74 ▸ ext_alloc bX _
                  have k15 := Blk.new X 57 #[.slice none 0 0, .int .i64 0, .int .i64 0, .bool false]
                  rw [← hX74] at k15
                  have hgl : w7.heap.size ≤ X.heap.size := bX.size
                  clear hX74
                  refine hK.out _ _ (by exact ⟨⟨below_cell (by assumption) E0.out, below_cell (by assumption) E1.out, below_cell (by assumption) E2.out⟩, below_cell (by assumption) E3.out, below_cell (by assumption) E4.out⟩) (fun hHeld => ?_)
                  clear hK K; (try simp only [Act.put]); (try simp only [List.setIfInBounds_toArray]); (try simp only [List.set_cons_succ]); (try simp only [List.set_cons_zero])
                  refine wpAnyH_ready (rs := [0, 5]) (by kernel_rfl) (by simp) ?_
                  refine AllReadyH.cons rfl (fun K hK => ?_) (AllReadyH.cons rfl (fun K hK => ?_) AllReadyH.nil)
                  · go_simp
                    obtain ⟨X75, hX75⟩ : ∃ X75, X75 = World.alloc X74 (Obj.cells #[] 47) := ⟨_, rfl⟩
                    rw [← hX75]
                    have bX75 : Below w7.heap.size w7 X75 := hX75 ▸ ext_alloc bX74 _
                    have a0 : Acc w7 X75 47 2 (some ⟨X74.heap.size, 0, none⟩) 0 0 [] := hX75 ▸ Acc.empty bX74
                    have k15 := k15.alloc (Obj.cells #[] 47)
                    rw [← hX75] at k15
                    clear hX75
                    refine hK.out _ _ (by exact ⟨⟨below_cell (by assumption) E0.out, below_cell (by assumption) E1.out, below_cell (by assumption) E2.out⟩, below_cell (by assumption) E3.out, below_cell (by assumption) E4.out⟩) (fun hHeld => ?_)
                    clear hK K; (try simp only [Act.put]); (try simp only [List.setIfInBounds_toArray]); (try simp only [List.set_cons_succ]); (try simp only [List.set_cons_zero])
                    refine wpAnyH_ready (rs := [3, 5]) (by kernel_rfl) (by simp) ?_
                    refine AllReadyH.cons rfl (fun K hK => ?_) (AllReadyH.cons rfl (fun K hK => ?_) AllReadyH.nil)
                    · have hne := own_ne_blk a0.own k15 (by decide)
                      refine app2_b_step rfl (.tmp 65) (.tmp 67) rfl rfl a0 rfl (BR7.out.below bX75) (by omega) ?_
                      intro A1 c1 X76 a1 p1
                      have bX76 := a1.ext
                      simp only [Nat.zero_add, List.nil_append] at a1
                      have k15 := k15.pushed p1 hne
                      clear hne
                      refine hK.out _ _ (by exact ⟨⟨below_cell (by assumption) E0.out, below_cell (by assumption) E1.out, below_cell (by assumption) E2.out⟩, below_cell (by assumption) E3.out, below_cell (by assumption) E4.out⟩) (fun hHeld => ?_)
                      clear hK K; (try simp only [Act.put]); (try simp only [List.setIfInBounds_toArray]); (try simp only [List.set_cons_succ]); (try simp only [List.set_cons_zero])
                      try simp only [Nat.zero_add]
                      refine wpAnyH_ready (rs := [5]) (by kernel_rfl) (by simp) ?_
                      refine AllReadyH.cons rfl (fun K hK => ?_) AllReadyH.nil
                      go_simp
                      obtain ⟨X77, hX77⟩ : ∃ X77, X77 = World.alloc X76 (Obj.cells #[.int .i64 f.a, .int .i64 f.b] 47) := ⟨_, rfl⟩
                      rw [← hX77]
                      have bX77 : Below w7.heap.size w7 X77 := hX77 ▸ ext_alloc bX76 _
                      have s1 := Side.new a1 #[.int .i64 f.a, .int .i64 f.b] 47 [f.a, f.b] rfl rfl
                      rw [← hX77] at s1
                      have a1 := a1.alloc (Obj.cells #[.int .i64 f.a, .int .i64 f.b] 47)
                      rw [← hX77] at a1
                      have k15 := k15.alloc (Obj.cells #[.int .i64 f.a, .int .i64 f.b] 47)
                      rw [← hX77] at k15
                      clear hX77
                      refine hK.out _ _ (by exact ⟨⟨below_cell (by assumption) E0.out, below_cell (by assumption) E1.out, below_cell (by assumption) E2.out⟩, below_cell (by assumption) E3.out, below_cell (by assumption) E4.out⟩) (fun hHeld => ?_)
                      clear hK K; (try simp only [Act.put]); (try simp only [List.setIfInBounds_toArray]); (try simp only [List.set_cons_succ]); (try simp only [List.set_cons_zero])
                      refine wpAnyH_ready (rs := [6]) (by kernel_rfl) (by simp) ?_
                      refine AllReadyH.cons rfl (fun K hK => ?_) AllReadyH.nil
                      have hne := own_ne_blk a1.own k15 (by decide)
                      refine app2_b_step rfl (.tmp 68) (.tmp 70) rfl rfl a1 rfl s1.reads (by omega) ?_
                      intro A2 c2 X78 a2 p2
                      have bX78 := a2.ext
                      have k15 := k15.pushed p2 hne
                      clear hne
                      refine hK.out _ _ (by exact ⟨⟨below_cell (by assumption) E0.out, below_cell (by assumption) E1.out, below_cell (by assumption) E2.out⟩, below_cell (by assumption) E3.out, below_cell (by assumption) E4.out⟩) (fun hHeld => ?_)
                      clear hK K; (try simp only [Act.put]); (try simp only [List.setIfInBounds_toArray]); (try simp only [List.set_cons_succ]); (try simp only [List.set_cons_zero])
                      refine wpAnyH_ready (rs := [15]) (by kernel_rfl) (by simp) ?_
                      refine AllReadyH.cons rfl (fun K hK => ?_) AllReadyH.nil
                      go_simp; (go_at_call 56; refine (beadsOf_any oA on oc _ (mvR (r : Int) x f) _ (OR7.out.below bX78) bX78.size (by omega) HMI.out).mono ?_; rintro e X79 ⟨rfl, hb15⟩); (try dsimp only)
                      have bX79 := ext_trans bX78 hb15
                      have a2 := a2.later hb15
                      have k15 := k15.below hb15 k15.lt
                      clear hb15
                      refine hK.out _ _ (by exact ⟨⟨below_cell (by assumption) E0.out, below_cell (by assumption) E1.out, below_cell (by assumption) E2.out⟩, below_cell (by assumption) E3.out, below_cell (by assumption) E4.out⟩) (fun hHeld => ?_)
                      clear hK K; (try simp only [Act.put]); (try simp only [List.setIfInBounds_toArray]); (try simp only [List.set_cons_succ]); (try simp only [List.set_cons_zero])
                      refine wpAnyH_takeD (i := 16) (v := ?_) 81 rfl rfl (by kernel_rfl) (by kernel_rfl) (by kernel_rfl) (fun _ _ _ _ _ h => h) (by rfl) (by assumption) ?_ ?_
                      rotate_left; focus (intro w hSw; (try dsimp only at hSw); go_simp; try (with_reducible rfl))
                      (try simp only [Act.put]); (try simp only [List.setIfInBounds_toArray]); (try simp only [List.set_cons_succ]); (try simp only [List.set_cons_zero])
                      refine wpAnyH_takeD (i := 17) (v := ?_) 82 rfl rfl (by kernel_rfl) (by kernel_rfl) (by kernel_rfl) (fun _ _ _ _ _ h => h) (by rfl) (by assumption) ?_ ?_
                      rotate_left; focus (intro w hSw; (try dsimp only at hSw); go_simp; try (with_reducible rfl))
                      (try simp only [Act.put]); (try simp only [List.setIfInBounds_toArray]); (try simp only [List.set_cons_succ]); (try simp only [List.set_cons_zero])
                      refine wpAnyH_ready (rs := [19]) (by kernel_rfl) (by simp) ?_
                      refine AllReadyH.cons rfl (fun K hK => ?_) AllReadyH.nil
                      have v0 := k15.cell 0
                      have v1 := k15.cell 1
                      have v2 := k15.cell 2
                      have v3 := k15.cell 3
                      have f0 := k15.frozen 0
                      have f1 := k15.frozen 1
                      have f2 := k15.frozen 2
                      have f3 := k15.frozen 3
                      simp only [List.getElem?_toArray, List.getElem?_cons_zero, List.getElem?_cons_succ] at v0 v1 v2 v3
                      go_simp
                      clear v0 v1 v2 v3 f0 f1 f2 f3
                      have a2 := a2.setOther k15 (by decide) hgl 0 (.slice A2 (bn + 1) c2)
                      have k15 := k15.set_ 0 (.slice A2 (bn + 1) c2)
                      have bX79 := ext_set bX79 (p := ⟨X.heap.size, 0, none⟩) hgl (.slice A2 (bn + 1) c2)
                      have a2 := a2.setOther k15 (by decide) hgl 1 (.int .i64 (B.m + (on : Int)))
                      have k15 := k15.set_ 1 (.int .i64 (B.m + (on : Int)))
                      have bX79 := ext_set bX79 (p := ⟨X.heap.size, 1, none⟩) hgl (.int .i64 (B.m + (on : Int)))
                      have a2 := a2.setOther k15 (by decide) hgl 2 (.int .i64 (B.b + BT))
                      have k15 := k15.set_ 2 (.int .i64 (B.b + BT))
                      have bX79 := ext_set bX79 (p := ⟨X.heap.size, 2, none⟩) hgl (.int .i64 (B.b + BT))
                      have a2 := a2.setOther k15 (by decide) hgl 3 (.bool true)
                      have k15 := k15.set_ 3 (.bool true)
                      have bX79 := ext_set bX79 (p := ⟨X.heap.size, 3, none⟩) hgl (.bool true)
                      simp only [List.setIfInBounds_toArray, List.set_cons_zero, List.set_cons_succ] at k15
                      generalize ((((X79.setCell ⟨X.heap.size, 0, none⟩ (.slice A2 (bn + 1) c2)).setCell ⟨X.heap.size, 1, none⟩ (.int .i64 (B.m + (on : Int)))).setCell ⟨X.heap.size, 2, none⟩ (.int .i64 (B.b + BT))).setCell ⟨X.heap.size, 3, none⟩ (.bool true)) = X80 at a2 k15 bX79 ⊢
                      have bX80 := bX79
                      refine hK.out _ _ (by exact ⟨⟨below_cell (by assumption) E0.out, below_cell (by assumption) E1.out, below_cell (by assumption) E2.out⟩, below_cell (by assumption) E3.out, below_cell (by assumption) E4.out⟩) (fun hHeld => ?_)
                      clear hK K; (try simp only [Act.put]); (try simp only [List.setIfInBounds_toArray]); (try simp only [List.set_cons_succ]); (try simp only [List.set_cons_zero])
                      refine wpAnyH_done (by kernel_rfl) ?_ _
                      clear hHeld
                      go_wp2_with fail
                      go_meet
                      exact ⟨X.heap.size, A2, c2, rfl, k15, by rw [rodF_app]; exact a2, bX80⟩
                    · go_simp
                      obtain ⟨X81, hX81⟩ : ∃ X81, X81 = World.alloc X75 (Obj.cells #[.int .i64 f.a, .int .i64 f.b] 47) := ⟨_, rfl⟩
                      rw [← hX81]
                      have bX81 : Below w7.heap.size w7 X81 := hX81 ▸ ext_alloc bX75 _
                      have s1 := Side.new a0 #[.int .i64 f.a, .int .i64 f.b] 47 [f.a, f.b] rfl rfl
                      rw [← hX81] at s1
                      have a0 := a0.alloc (Obj.cells #[.int .i64 f.a, .int .i64 f.b] 47)
                      rw [← hX81] at a0
                      have k15 := k15.alloc (Obj.cells #[.int .i64 f.a, .int .i64 f.b] 47)
                      rw [← hX81] at k15
                      clear hX81
                      refine hK.out _ _ (by exact ⟨⟨below_cell (by assumption) E0.out, below_cell (by assumption) E1.out, below_cell (by assumption) E2.out⟩, below_cell (by assumption) E3.out, below_cell (by assumption) E4.out⟩) (fun hHeld => ?_)
                      clear hK K; (try simp only [Act.put]); (try simp only [List.setIfInBounds_toArray]); (try simp only [List.set_cons_succ]); (try simp only [List.set_cons_zero])
                      refine wpAnyH_ready (rs := [3]) (by kernel_rfl) (by simp) ?_
                      refine AllReadyH.cons rfl (fun K hK => ?_) AllReadyH.nil
                      have hne := own_ne_blk a0.own k15 (by decide)
                      refine app2_b_step rfl (.tmp 65) (.tmp 67) rfl rfl a0 rfl (BR7.out.below bX81) (by omega) ?_
                      intro A1 c1 X82 a1 p1
                      have bX82 := a1.ext
                      simp only [Nat.zero_add, List.nil_append] at a1
                      have s1 := s1.pushed p1
                      have k15 := k15.pushed p1 hne
                      clear hne
                      refine hK.out _ _ (by exact ⟨⟨below_cell (by assumption) E0.out, below_cell (by assumption) E1.out, below_cell (by assumption) E2.out⟩, below_cell (by assumption) E3.out, below_cell (by assumption) E4.out⟩) (fun hHeld => ?_)
                      clear hK K; (try simp only [Act.put]); (try simp only [List.setIfInBounds_toArray]); (try simp only [List.set_cons_succ]); (try simp only [List.set_cons_zero])
                      try simp only [Nat.zero_add]
                      refine wpAnyH_ready (rs := [6]) (by kernel_rfl) (by simp) ?_
                      refine AllReadyH.cons rfl (fun K hK => ?_) AllReadyH.nil
                      have hne := own_ne_blk a1.own k15 (by decide)
                      refine app2_b_step rfl (.tmp 68) (.tmp 70) rfl rfl a1 rfl s1.reads (by omega) ?_
                      intro A2 c2 X83 a2 p2
                      have bX83 := a2.ext
                      have k15 := k15.pushed p2 hne
                      clear hne
                      refine hK.out _ _ (by exact ⟨⟨below_cell (by assumption) E0.out, below_cell (by assumption) E1.out, below_cell (by assumption) E2.out⟩, below_cell (by assumption) E3.out, below_cell (by assumption) E4.out⟩) (fun hHeld => ?_)
                      clear hK K; (try simp only [Act.put]); (try simp only [List.setIfInBounds_toArray]); (try simp only [List.set_cons_succ]); (try simp only [List.set_cons_zero])
                      refine wpAnyH_ready (rs := [15]) (by kernel_rfl) (by simp) ?_
                      refine AllReadyH.cons rfl (fun K hK => ?_) AllReadyH.nil
                      go_simp; (go_at_call 56; refine (beadsOf_any oA on oc _ (mvR (r : Int) x f) _ (OR7.out.below bX83) bX83.size (by omega) HMI.out).mono ?_; rintro e X84 ⟨rfl, hb15⟩); (try dsimp only)
                      have bX84 := ext_trans bX83 hb15
                      have a2 := a2.later hb15
                      have k15 := k15.below hb15 k15.lt
                      clear hb15
                      refine hK.out _ _ (by exact ⟨⟨below_cell (by assumption) E0.out, below_cell (by assumption) E1.out, below_cell (by assumption) E2.out⟩, below_cell (by assumption) E3.out, below_cell (by assumption) E4.out⟩) (fun hHeld => ?_)
                      clear hK K; (try simp only [Act.put]); (try simp only [List.setIfInBounds_toArray]); (try simp only [List.set_cons_succ]); (try simp only [List.set_cons_zero])
                      refine wpAnyH_takeD (i := 16) (v := ?_) 81 rfl rfl (by kernel_rfl) (by kernel_rfl) (by kernel_rfl) (fun _ _ _ _ _ h => h) (by rfl) (by assumption) ?_ ?_
                      rotate_left; focus (intro w hSw; (try dsimp only at hSw); go_simp; try (with_reducible rfl))
                      (try simp only [Act.put]); (try simp only [List.setIfInBounds_toArray]); (try simp only [List.set_cons_succ]); (try simp only [List.set_cons_zero])
                      refine wpAnyH_takeD (i := 17) (v := ?_) 82 rfl rfl (by kernel_rfl) (by kernel_rfl) (by kernel_rfl) (fun _ _ _ _ _ h => h) (by rfl) (by assumption) ?_ ?_
                      rotate_left; focus (intro w hSw; (try dsimp only at hSw); go_simp; try (with_reducible rfl))
                      (try simp only [Act.put]); (try simp only [List.setIfInBounds_toArray]); (try simp only [List.set_cons_succ]); (try simp only [List.set_cons_zero])
                      refine wpAnyH_ready (rs := [19]) (by kernel_rfl) (by simp) ?_
                      refine AllReadyH.cons rfl (fun K hK => ?_) AllReadyH.nil
                      have v0 := k15.cell 0
                      have v1 := k15.cell 1
                      have v2 := k15.cell 2
                      have v3 := k15.cell 3
                      have f0 := k15.frozen 0
                      have f1 := k15.frozen 1
                      have f2 := k15.frozen 2
                      have f3 := k15.frozen 3
                      simp only [List.getElem?_toArray, List.getElem?_cons_zero, List.getElem?_cons_succ] at v0 v1 v2 v3
                      go_simp
                      clear v0 v1 v2 v3 f0 f1 f2 f3
                      have a2 := a2.setOther k15 (by decide) hgl 0 (.slice A2 (bn + 1) c2)
                      have k15 := k15.set_ 0 (.slice A2 (bn + 1) c2)
                      have bX84 := ext_set bX84 (p := ⟨X.heap.size, 0, none⟩) hgl (.slice A2 (bn + 1) c2)
                      have a2 := a2.setOther k15 (by decide) hgl 1 (.int .i64 (B.m + (on : Int)))
                      have k15 := k15.set_ 1 (.int .i64 (B.m + (on : Int)))
                      have bX84 := ext_set bX84 (p := ⟨X.heap.size, 1, none⟩) hgl (.int .i64 (B.m + (on : Int)))
                      have a2 := a2.setOther k15 (by decide) hgl 2 (.int .i64 (B.b + BT))
                      have k15 := k15.set_ 2 (.int .i64 (B.b + BT))
                      have bX84 := ext_set bX84 (p := ⟨X.heap.size, 2, none⟩) hgl (.int .i64 (B.b + BT))
                      have a2 := a2.setOther k15 (by decide) hgl 3 (.bool true)
                      have k15 := k15.set_ 3 (.bool true)
                      have bX84 := ext_set bX84 (p := ⟨X.heap.size, 3, none⟩) hgl (.bool true)
                      simp only [List.setIfInBounds_toArray, List.set_cons_zero, List.set_cons_succ] at k15
                      generalize ((((X84.setCell ⟨X.heap.size, 0, none⟩ (.slice A2 (bn + 1) c2)).setCell ⟨X.heap.size, 1, none⟩ (.int .i64 (B.m + (on : Int)))).setCell ⟨X.heap.size, 2, none⟩ (.int .i64 (B.b + BT))).setCell ⟨X.heap.size, 3, none⟩ (.bool true)) = X85 at a2 k15 bX84 ⊢
                      have bX85 := bX84
                      refine hK.out _ _ (by exact ⟨⟨below_cell (by assumption) E0.out, below_cell (by assumption) E1.out, below_cell (by assumption) E2.out⟩, below_cell (by assumption) E3.out, below_cell (by assumption) E4.out⟩) (fun hHeld => ?_)
                      clear hK K; (try simp only [Act.put]); (try simp only [List.setIfInBounds_toArray]); (try simp only [List.set_cons_succ]); (try simp only [List.set_cons_zero])
                      refine wpAnyH_done (by kernel_rfl) ?_ _
                      clear hHeld
                      go_wp2_with fail
                      go_meet
                      exact ⟨X.heap.size, A2, c2, rfl, k15, by rw [rodF_app]; exact a2, bX85⟩
                  · go_simp
                    obtain ⟨X86, hX86⟩ : ∃ X86, X86 = World.alloc X74 (Obj.cells #[.int .i64 f.a, .int .i64 f.b] 47) := ⟨_, rfl⟩
                    rw [← hX86]
                    have bX86 : Below w7.heap.size w7 X86 := hX86 ▸ ext_alloc bX74 _
                    have s1 := Side.new0 X74 2 #[.int .i64 f.a, .int .i64 f.b] 47 [f.a, f.b] rfl rfl
                    rw [← hX86] at s1
                    have k15 := k15.alloc (Obj.cells #[.int .i64 f.a, .int .i64 f.b] 47)
                    rw [← hX86] at k15
                    clear hX86
                    refine hK.out _ _ (by exact ⟨⟨below_cell (by assumption) E0.out, below_cell (by assumption) E1.out, below_cell (by assumption) E2.out⟩, below_cell (by assumption) E3.out, below_cell (by assumption) E4.out⟩) (fun hHeld => ?_)
                    clear hK K; (try simp only [Act.put]); (try simp only [List.setIfInBounds_toArray]); (try simp only [List.set_cons_succ]); (try simp only [List.set_cons_zero])
                    refine wpAnyH_ready (rs := [0]) (by kernel_rfl) (by simp) ?_
                    refine AllReadyH.cons rfl (fun K hK => ?_) AllReadyH.nil
                    go_simp
                    obtain ⟨X87, hX87⟩ : ∃ X87, X87 = World.alloc X86 (Obj.cells #[] 47) := ⟨_, rfl⟩
                    rw [← hX87]
                    have bX87 : Below w7.heap.size w7 X87 := hX87 ▸ ext_alloc bX86 _
                    have a0 : Acc w7 X87 47 2 (some ⟨X86.heap.size, 0, none⟩) 0 0 [] := hX87 ▸ Acc.empty bX86
                    have s1 := s1.row (Obj.cells #[] 47)
                    rw [← hX87] at s1
                    have k15 := k15.alloc (Obj.cells #[] 47)
                    rw [← hX87] at k15
                    clear hX87
                    refine hK.out _ _ (by exact ⟨⟨below_cell (by assumption) E0.out, below_cell (by assumption) E1.out, below_cell (by assumption) E2.out⟩, below_cell (by assumption) E3.out, below_cell (by assumption) E4.out⟩) (fun hHeld => ?_)
                    clear hK K; (try simp only [Act.put]); (try simp only [List.setIfInBounds_toArray]); (try simp only [List.set_cons_succ]); (try simp only [List.set_cons_zero])
                    refine wpAnyH_ready (rs := [3]) (by kernel_rfl) (by simp) ?_
                    refine AllReadyH.cons rfl (fun K hK => ?_) AllReadyH.nil
                    have hne := own_ne_blk a0.own k15 (by decide)
                    refine app2_b_step rfl (.tmp 65) (.tmp 67) rfl rfl a0 rfl (BR7.out.below bX87) (by omega) ?_
                    intro A1 c1 X88 a1 p1
                    have bX88 := a1.ext
                    simp only [Nat.zero_add, List.nil_append] at a1
                    have s1 := s1.pushed p1
                    have k15 := k15.pushed p1 hne
                    clear hne
                    refine hK.out _ _ (by exact ⟨⟨below_cell (by assumption) E0.out, below_cell (by assumption) E1.out, below_cell (by assumption) E2.out⟩, below_cell (by assumption) E3.out, below_cell (by assumption) E4.out⟩) (fun hHeld => ?_)
                    clear hK K; (try simp only [Act.put]); (try simp only [List.setIfInBounds_toArray]); (try simp only [List.set_cons_succ]); (try simp only [List.set_cons_zero])
                    try simp only [Nat.zero_add]
                    refine wpAnyH_ready (rs := [6]) (by kernel_rfl) (by simp) ?_
                    refine AllReadyH.cons rfl (fun K hK => ?_) AllReadyH.nil
                    have hne := own_ne_blk a1.own k15 (by decide)
                    refine app2_b_step rfl (.tmp 68) (.tmp 70) rfl rfl a1 rfl s1.reads (by omega) ?_
                    intro A2 c2 X89 a2 p2
                    have bX89 := a2.ext
                    have k15 := k15.pushed p2 hne
                    clear hne
                    refine hK.out _ _ (by exact ⟨⟨below_cell (by assumption) E0.out, below_cell (by assumption) E1.out, below_cell (by assumption) E2.out⟩, below_cell (by assumption) E3.out, below_cell (by assumption) E4.out⟩) (fun hHeld => ?_)
                    clear hK K; (try simp only [Act.put]); (try simp only [List.setIfInBounds_toArray]); (try simp only [List.set_cons_succ]); (try simp only [List.set_cons_zero])
                    refine wpAnyH_ready (rs := [15]) (by kernel_rfl) (by simp) ?_
                    refine AllReadyH.cons rfl (fun K hK => ?_) AllReadyH.nil
                    go_simp; (go_at_call 56; refine (beadsOf_any oA on oc _ (mvR (r : Int) x f) _ (OR7.out.below bX89) bX89.size (by omega) HMI.out).mono ?_; rintro e X90 ⟨rfl, hb15⟩); (try dsimp only)
                    have bX90 := ext_trans bX89 hb15
                    have a2 := a2.later hb15
                    have k15 := k15.below hb15 k15.lt
                    clear hb15
                    refine hK.out _ _ (by exact ⟨⟨below_cell (by assumption) E0.out, below_cell (by assumption) E1.out, below_cell (by assumption) E2.out⟩, below_cell (by assumption) E3.out, below_cell (by assumption) E4.out⟩) (fun hHeld => ?_)
                    clear hK K; (try simp only [Act.put]); (try simp only [List.setIfInBounds_toArray]); (try simp only [List.set_cons_succ]); (try simp only [List.set_cons_zero])
                    refine wpAnyH_takeD (i := 16) (v := ?_) 81 rfl rfl (by kernel_rfl) (by kernel_rfl) (by kernel_rfl) (fun _ _ _ _ _ h => h) (by rfl) (by assumption) ?_ ?_
                    rotate_left; focus (intro w hSw; (try dsimp only at hSw); go_simp; try (with_reducible rfl))
                    (try simp only [Act.put]); (try simp only [List.setIfInBounds_toArray]); (try simp only [List.set_cons_succ]); (try simp only [List.set_cons_zero])
                    refine wpAnyH_takeD (i := 17) (v := ?_) 82 rfl rfl (by kernel_rfl) (by kernel_rfl) (by kernel_rfl) (fun _ _ _ _ _ h => h) (by rfl) (by assumption) ?_ ?_
                    rotate_left; focus (intro w hSw; (try dsimp only at hSw); go_simp; try (with_reducible rfl))
                    (try simp only [Act.put]); (try simp only [List.setIfInBounds_toArray]); (try simp only [List.set_cons_succ]); (try simp only [List.set_cons_zero])
                    refine wpAnyH_ready (rs := [19]) (by kernel_rfl) (by simp) ?_
                    refine AllReadyH.cons rfl (fun K hK => ?_) AllReadyH.nil
                    have v0 := k15.cell 0
                    have v1 := k15.cell 1
                    have v2 := k15.cell 2
                    have v3 := k15.cell 3
                    have f0 := k15.frozen 0
                    have f1 := k15.frozen 1
                    have f2 := k15.frozen 2
                    have f3 := k15.frozen 3
                    simp only [List.getElem?_toArray, List.getElem?_cons_zero, List.getElem?_cons_succ] at v0 v1 v2 v3
                    go_simp
                    clear v0 v1 v2 v3 f0 f1 f2 f3
                    have a2 := a2.setOther k15 (by decide) hgl 0 (.slice A2 (bn + 1) c2)
                    have k15 := k15.set_ 0 (.slice A2 (bn + 1) c2)
                    have bX90 := ext_set bX90 (p := ⟨X.heap.size, 0, none⟩) hgl (.slice A2 (bn + 1) c2)
                    have a2 := a2.setOther k15 (by decide) hgl 1 (.int .i64 (B.m + (on : Int)))
                    have k15 := k15.set_ 1 (.int .i64 (B.m + (on : Int)))
                    have bX90 := ext_set bX90 (p := ⟨X.heap.size, 1, none⟩) hgl (.int .i64 (B.m + (on : Int)))
                    have a2 := a2.setOther k15 (by decide) hgl 2 (.int .i64 (B.b + BT))
                    have k15 := k15.set_ 2 (.int .i64 (B.b + BT))
                    have bX90 := ext_set bX90 (p := ⟨X.heap.size, 2, none⟩) hgl (.int .i64 (B.b + BT))
                    have a2 := a2.setOther k15 (by decide) hgl 3 (.bool true)
                    have k15 := k15.set_ 3 (.bool true)
                    have bX90 := ext_set bX90 (p := ⟨X.heap.size, 3, none⟩) hgl (.bool true)
                    simp only [List.setIfInBounds_toArray, List.set_cons_zero, List.set_cons_succ] at k15
                    generalize ((((X90.setCell ⟨X.heap.size, 0, none⟩ (.slice A2 (bn + 1) c2)).setCell ⟨X.heap.size, 1, none⟩ (.int .i64 (B.m + (on : Int)))).setCell ⟨X.heap.size, 2, none⟩ (.int .i64 (B.b + BT))).setCell ⟨X.heap.size, 3, none⟩ (.bool true)) = X91 at a2 k15 bX90 ⊢
                    have bX91 := bX90
                    refine hK.out _ _ (by exact ⟨⟨below_cell (by assumption) E0.out, below_cell (by assumption) E1.out, below_cell (by assumption) E2.out⟩, below_cell (by assumption) E3.out, below_cell (by assumption) E4.out⟩) (fun hHeld => ?_)
                    clear hK K; (try simp only [Act.put]); (try simp only [List.setIfInBounds_toArray]); (try simp only [List.set_cons_succ]); (try simp only [List.set_cons_zero])
                    refine wpAnyH_done (by kernel_rfl) ?_ _
                    clear hHeld
                    go_wp2_with fail
                    go_meet
                    exact ⟨X.heap.size, A2, c2, rfl, k15, by rw [rodF_app]; exact a2, bX91⟩
              case rest =>
                obtain ⟨g, rA, rc, rfl, hkg, hag, hbg⟩ := hcut
                have KG := Lib.hid hkg
                have K9C := Lib.hid (K97.out.below hbg K97.out.lt)
                have HAC := Lib.hid (HA7.out.later hbg)
                have HGC := Lib.hid (grownBy_trans HG7.out (below_any hbg _))
                have AGC := Lib.hid (hag.since HA7.out.ext)
                have q0 := KG.out.cell 0
                have q1 := KG.out.cell 1
                have q2 := KG.out.cell 2
                have q3 := KG.out.cell 3
                have o0 := K9C.out.cell 0
                have o1 := K9C.out.cell 1
                have o2 := K9C.out.cell 2
                have o3 := K9C.out.cell 3
                simp only [List.getElem?_toArray, List.getElem?_cons_zero, List.getElem?_cons_succ] at q0 q1 q2 q3 o0 o1 o2 o3
                have HC := Lib.hid (nearer_any (⟨B.rods ++ [f], B.m + (on : Int), B.b + BT, true⟩ : Way) c6 rA a (bn + 1) rc m c' _ _ wc AGC.out.reads HAC.out.reads (Nat.le_refl _) (Nat.le_refl _) (by omega) (fun _ ho => by have h0 := HBN.out; have h1 := HI6.out.yes ho; have h2 := HAC.out.reads.rodLen; omega) (by have h1 := HNI.out.rods; rw [HNW.out] at h1; exact h1) HI6.out.rods)
                have HLT := Lib.hid (show foldW nearerB (r : Int) x B (fs.take (k + 1)) cur = (if nearerB ⟨B.rods ++ [f], B.m + (on : Int), B.b + BT, true⟩ c6 = true then ⟨B.rods ++ [f], B.m + (on : Int), B.b + BT, true⟩ else c6) by rw [HNX.out, HNW.out])
                clear hkg hag hbg
                go_wp2_with fail
                refine HC.out.mono ?_
                rintro e w8 ⟨rfl, hb8⟩
                have K98 := Lib.hid (K9C.out.below hb8 K9C.out.lt)
                have KG8 := Lib.hid (KG.out.below hb8 KG.out.lt)
                have HA8 := Lib.hid (HAC.out.later hb8)
                have AG8 := Lib.hid (AGC.out.later hb8)
                have HG8 := Lib.hid (grownBy_trans HGC.out (below_any hb8 _))
                clear q0 q1 q2 q3 o0 o1 o2 o3 hb8
                cases hlb : nearerB ⟨B.rods ++ [f], B.m + (on : Int), B.b + BT, true⟩ c6
                · have HE := Lib.hid (show foldW nearerB (r : Int) x B (fs.take (k + 1)) cur = c6 by rw [HLT.out, hlb]; rfl)
                  clear hlb
                  go_wp2_with fail
                  go_roundw
                  case rel => exact ⟨k + 1, a, m, c', by go_num, by omega, by rw [HE.out]; exact K98.out, by rw [HE.out]; exact HA8.out, HG8.out⟩
                  case measure => simp [intOf]; omega
                · have HE := Lib.hid (show foldW nearerB (r : Int) x B (fs.take (k + 1)) cur = ⟨B.rods ++ [f], B.m + (on : Int), B.b + BT, true⟩ by rw [HLT.out, hlb]; rfl)
                  clear hlb
                  have q0 := KG8.out.cell 0
                  have q1 := KG8.out.cell 1
                  have q2 := KG8.out.cell 2
                  have q3 := KG8.out.cell 3
                  have o0 := K98.out.cell 0
                  have o1 := K98.out.cell 1
                  have o2 := K98.out.cell 2
                  have o3 := K98.out.cell 3
                  have v0 := K98.out.frozen 0
                  have v1 := K98.out.frozen 1
                  have v2 := K98.out.frozen 2
                  have v3 := K98.out.frozen 3
                  simp only [List.getElem?_toArray, List.getElem?_cons_zero, List.getElem?_cons_succ] at q0 q1 q2 q3 o0 o1 o2 o3
                  go_wp2_with fail
                  have k9 := K98.out
                  have ag := AG8.out
                  have hg := HG8.out
                  have hge : w.heap.size ≤ w.heap.size + 1 + 1 := by omega
                  have ag := ag.setOther k9 (by decide) hge 0 (.slice rA (bn + 1) rc)
                  have k9 := k9.set_ 0 (.slice rA (bn + 1) rc)
                  have hg := grownBy_trans hg (grown_set _ ⟨w.heap.size + 1 + 1, 0, none⟩ (.slice rA (bn + 1) rc))
                  have ag := ag.setOther k9 (by decide) hge 1 (.int .i64 (B.m + (on : Int)))
                  have k9 := k9.set_ 1 (.int .i64 (B.m + (on : Int)))
                  have hg := grownBy_trans hg (grown_set _ ⟨w.heap.size + 1 + 1, 1, none⟩ (.int .i64 (B.m + (on : Int))))
                  have ag := ag.setOther k9 (by decide) hge 2 (.int .i64 (B.b + BT))
                  have k9 := k9.set_ 2 (.int .i64 (B.b + BT))
                  have hg := grownBy_trans hg (grown_set _ ⟨w.heap.size + 1 + 1, 2, none⟩ (.int .i64 (B.b + BT)))
                  have ag := ag.setOther k9 (by decide) hge 3 (.bool true)
                  have k9 := k9.set_ 3 (.bool true)
                  have hg := grownBy_trans hg (grown_set _ ⟨w.heap.size + 1 + 1, 3, none⟩ (.bool true))
                  simp only [List.setIfInBounds_toArray, List.set_cons_zero, List.set_cons_succ] at k9
                  go_roundw
                  case rel => exact ⟨k + 1, rA, bn + 1, rc, by go_num, by omega, by rw [HE.out]; exact k9, by rw [HE.out]; exact ag, hg⟩
                  case measure => simp [intOf]; omega
            · have hkn : k = fn := by omega
              subst hkn
              have HE := Lib.hid (show fs.take k = fs by rw [List.take_of_length_le (by have := HFN.out; omega)])
              have hin' := Lib.hid (show WayIn (r + 1) (foldW nearerB (r : Int) x B fs cur) from foldW_in HPI.out HBO.out HXI.out _ _ HFI.out HIN.out)
              rw [HE.out] at K9O HAO
              go_wp2_with fail
              go_roundw
              case rel => exact ⟨val + 10, _, a, m, c', by go_num, HV'.out, hin'.out, K9O.out, HAO.out, grownBy_trans HG5.out HGO.out⟩
              case measure => simp [intOf]; omega
      · have HE := Lib.hid (HST.out.done hc hN)
        have q0 := HBK.out.cell 0
        have q1 := HBK.out.cell 1
        have q2 := HBK.out.cell 2
        have q3 := HBK.out.cell 3
        have o0 := K8Q.out.cell 0
        have o1 := K8Q.out.cell 1
        have o2 := K8Q.out.cell 2
        have o3 := K8Q.out.cell 3
        have f0 := K8Q.out.frozen 0
        have f1 := K8Q.out.frozen 1
        have f2 := K8Q.out.frozen 2
        have f3 := K8Q.out.frozen 3
        simp only [List.getElem?_toArray, List.getElem?_cons_zero, List.getElem?_cons_succ] at q0 q1 q2 q3 o0 o1 o2 o3
        by_cases d1 : val ≤ 15
        · have d2 : ¬ val ≤ N := fun h => hc ⟨d1, h⟩
          clear hc
          go_wp2_with fail
          have k8 := K8Q.out
          have ag := HA.out
          have hge : w.heap.size ≤ w.heap.size + 1 := by omega
          have ag := ag.setOther k8 (by decide) hge 0 (.slice a m c')
          have k8 := k8.set_ 0 (.slice a m c')
          have ag := ag.setOther k8 (by decide) hge 1 (.int .i64 cur.m)
          have k8 := k8.set_ 1 (.int .i64 cur.m)
          have ag := ag.setOther k8 (by decide) hge 2 (.int .i64 cur.b)
          have k8 := k8.set_ 2 (.int .i64 cur.b)
          have ag := ag.setOther k8 (by decide) hge 3 (.bool cur.ok)
          have k8 := k8.set_ 3 (.bool cur.ok)
          simp only [List.setIfInBounds_toArray, List.set_cons_zero, List.set_cons_succ] at k8
          generalize ((((wq.setCell ⟨w.heap.size + 1, 0, none⟩ (.slice a m c')).setCell ⟨w.heap.size + 1, 1, none⟩ (.int .i64 cur.m)).setCell ⟨w.heap.size + 1, 2, none⟩ (.int .i64 cur.b)).setCell ⟨w.heap.size + 1, 3, none⟩ (.bool cur.ok)) = WZ at k8 ag ⊢
          have r0 := k8.cell 0
          have r1 := k8.cell 1
          have r2 := k8.cell 2
          have r3 := k8.cell 3
          simp only [List.getElem?_toArray, List.getElem?_cons_zero, List.getElem?_cons_succ] at r0 r1 r2 r3
          refine bodyPost_ret (v := .agg #[.slice a m c', .int .i64 cur.m, .int .i64 cur.b, .bool cur.ok]) ?_ rfl ?_
          · simp [results, Try.results45, go_sem, r0, r1, r2, r3]
          · exact ⟨a, m, c', by rw [← HE.out], by rw [← HE.out]; exact ag⟩
        · clear hc
          go_wp2_with fail
          have k8 := K8Q.out
          have ag := HA.out
          have hge : w.heap.size ≤ w.heap.size + 1 := by omega
          have ag := ag.setOther k8 (by decide) hge 0 (.slice a m c')
          have k8 := k8.set_ 0 (.slice a m c')
          have ag := ag.setOther k8 (by decide) hge 1 (.int .i64 cur.m)
          have k8 := k8.set_ 1 (.int .i64 cur.m)
          have ag := ag.setOther k8 (by decide) hge 2 (.int .i64 cur.b)
          have k8 := k8.set_ 2 (.int .i64 cur.b)
          have ag := ag.setOther k8 (by decide) hge 3 (.bool cur.ok)
          have k8 := k8.set_ 3 (.bool cur.ok)
          simp only [List.setIfInBounds_toArray, List.set_cons_zero, List.set_cons_succ] at k8
          generalize ((((wq.setCell ⟨w.heap.size + 1, 0, none⟩ (.slice a m c')).setCell ⟨w.heap.size + 1, 1, none⟩ (.int .i64 cur.m)).setCell ⟨w.heap.size + 1, 2, none⟩ (.int .i64 cur.b)).setCell ⟨w.heap.size + 1, 3, none⟩ (.bool cur.ok)) = WZ at k8 ag ⊢
          have r0 := k8.cell 0
          have r1 := k8.cell 1
          have r2 := k8.cell 2
          have r3 := k8.cell 3
          simp only [List.getElem?_toArray, List.getElem?_cons_zero, List.getElem?_cons_succ] at r0 r1 r2 r3
          refine bodyPost_ret (v := .agg #[.slice a m c', .int .i64 cur.m, .int .i64 cur.b, .bool cur.ok]) ?_ rfl ?_
          · simp [results, Try.results45, go_sem, r0, r1, r2, r3]
          · exact ⟨a, m, c', by rw [← HE.out], by rw [← HE.out]; exact ag⟩
end Go.Proofs.Ytkgbcjiinicffaa
