/- All targets as frames: the reference's list; TargetCount on both sides. No condition. -/
import Derived.Test.YtkgbcjiinicffaaTgs
import Derived.Test.YtkgbcjiinicffaaFrmG
namespace Go.Proofs.Ytkgbcjiinicffaa
open Go.RowKit

section
variable {w0 w w' : World} {E k1 : Nat} {f : Hdr → List Value} {A A' : Option Addr} {n c : Nat} {hs : List Hdr} {rows : List (List Rod)}
/-- Read beside a row that is made later. -/
theorem AccL.sideNew (h : AccL w0 w E k1 f A n c hs rows) (hA : ∀ x, A' = some x → w.heap.size ≤ x.block) : SideL w w.heap.size k1 f A n hs rows A' := by
  have key : ∀ (x : Addr), x.block < w.heap.size → A'.map (·.block) ≠ some x.block := by
    intro x hx e
    cases A' with
    | none => cases e
    | some y =>
      have := hA y rfl
      injection e with e
      have e : y.block = x.block := e
      omega
  refine ⟨⟨Reads.of_own h.own, fun _ x hx => key x (h.lt x hx), Nat.le_refl _⟩, h.hlen, h.len, fun i x r h1 h2 => ?_⟩
  have hs := h.row i x r h1 h2
  refine ⟨hs.reads, fun hm y hy => key y ?_, hs.size⟩
  obtain ⟨ad, e, hb, _⟩ := hs.reads.2 hm
  rw [hy] at e
  injection e with e
  subst e
  exact hb
end
set_option maxRecDepth 100000 in
set_option maxHeartbeats 8000000 in
theorem l13All_any (u l : Int) (A : Option Addr) (n c : Nat) (h0 : 0 ≤ u) (h1 : u ≤ 2) (N : Int) (w : World) (hn : n ≤ 8) (hN : 0 ≤ N) (hN2 : N ≤ 9223372036854775807) :
    Calls Try.prog 39 #[.agg #[.int .i64 u, .int .i64 l, .slice A n c], .int .i64 N] w fun e w' => ∃ A' n' c' hs, e = .returned (.slice A' n' c') ∧ AccL w w' 33 3 (frC u l) A' n' c' hs (tgts u l n N) := by
  have hb := ext_alloc (Below.refl w.heap.size w) (.cells #[.int .i64 u, .int .i64 l, .slice A n c] 33)
  have hB := Blk.new w 33 #[.int .i64 u, .int .i64 l, .slice A n c]
  generalize hw1 : w.alloc (.cells #[.int .i64 u, .int .i64 l, .slice A n c] 33) = w1 at hb hB
  have HB := Lib.hid hb
  have HK := Lib.hid hB
  have HW := Lib.hid hw1
  have tl := tgts_len u l n N
  have tb := tgt_bd (l := l) h0 h1 n N
  have hp6 := pow6 (k := n) (by omega)
  have hlen : (tgts u l n N).length ≤ 10077696 := by omega
  clear hb hB hw1 tl tb hp6
  go_enter Try.func39, Try.ntmps39
  go_wp2_with fail
  rw [HW.out]
  refine (l13Targets_any u l A n c h0 h1 n N _ hn hN hN2).mono ?_
  rintro e w2 ⟨tA, tn, tc, ths, rfl, htacc⟩
  generalize hts : tgts u l n N = ts at htacc hlen
  have HTS := Lib.hid hts
  clear hts
  have htn : ts.length = tn := by have := htacc.len; have := htacc.hlen; omega
  have HNEW := Lib.hid htacc.new
  have HX := Lib.hid (HK.out.below htacc.ext HK.out.lt)
  have hxl := HX.out.lt
  have HR0 := Lib.hid ((htacc.sideNew (A' := some ⟨w2.heap.size, 0, none⟩) (fun x hx => by injection hx with hx; subst hx; exact Nat.le_refl _)).later (ext_alloc (Below.refl _ _) (.cells #[] 33)))
  have HA0 := Lib.hid (AccL.empty (E := 33) (f := frC u l) (k1 := 3) htacc.ext)
  have HS2 := Lib.hid htacc.ext
  clear htacc
  go_wp2_with fail
  go_loopw [6, 7] (fun p q wr => ∃ (i m c : Nat) (P : Option Addr) (hs : List Hdr), q = .int .i64 (i : Int) ∧ i ≤ tn ∧ p = .slice P m c ∧ AccL w1 wr 33 3 (frC u l) P m c hs (ts.take i) ∧ SideL wr w2.heap.size 1 hdC tA tn ths ts P) (fun _ q _ => tn - (intOf q).toNat)
  case atStart => exact ⟨0, 0, 0, _, [], rfl, by omega, rfl, HA0.out, HR0.out⟩
  case round =>
    obtain ⟨wk, rfl⟩ : ∃ wk : World, wk = wr := ⟨_, rfl⟩
    obtain ⟨i, m, c, P, hs, rfl, hi, rfl, hacc, hsr⟩ := hrel
    have HA := Lib.hid hacc
    have HR := Lib.hid hsr
    clear hacc hsr
    have i0 : (0 : Int) ≤ m := by omega
    obtain rfl : m = i := by have := HA.out.len; have := HA.out.hlen; rw [List.length_take] at *; omega
    by_cases hlt : m < tn
    · obtain ⟨b, o, y, t, rfl, hy, ht, hsy, hcy⟩ := HR.out.at_ hdC_len (by omega) hlt
      have C0 : wk.cell? ⟨b, o + m, none⟩ = some (.slice y.a y.n y.c) := by have := hcy 0 y.v rfl; simpa using this
      have HY := Lib.hid hy
      have HT := Lib.hid ht
      have HS := Lib.hid hsy
      have i1 : (m : Int) < tn := by omega
      have HKQ := HK.out.below HA.out.ext HK.out.lt
      have z0 := HKQ.cell 0
      have z1 := HKQ.cell 1
      simp only [List.getElem?_toArray, List.getElem?_cons_zero, List.getElem?_cons_succ] at z0 z1
      have HE := Lib.hid (show ts.take (m + 1) = ts.take m ++ [t] by rw [List.take_add_one, HT.out]; rfl)
      clear hcy hy ht hsy HKQ
      obtain ⟨wb, hwb⟩ : ∃ wb, wb = (wk.alloc (.cells #[.int .i64 u, .int .i64 l, .slice y.a y.n y.c] 33)).drew := ⟨_, rfl⟩
      have bS : Below wk.heap.size wk wb := hwb ▸ ext_drew (ext_alloc (Below.refl _ _) _)
      have aO := HA.out.later bS
      have aR := HR.out.later bS
      have sY := (HS.out.raise HS.out.size (Nat.le_refl _)).later bS
      have rb := (SideV.box (X := wk) (A := none) (k := 3) #[.int .i64 u, .int .i64 l, .slice y.a y.n y.c] 33 rfl (fun _ h => by cases h)).reads.drew
      rw [← hwb] at rb
      have HO := Lib.hid aO
      have HR2 := Lib.hid aR
      have HY2 := Lib.hid (sY.raise (B' := wb.heap.size) sY.size (Nat.le_refl _))
      have HRB := Lib.hid rb
      have HWB := Lib.hid hwb
      clear bS aO aR sY rb hwb
      go_wp2_with fail
      go_region_law (refine accL_app_step (w := _) (y := y) (r := t) Try.underlying49 infoF rfl (by decide) (frC_one u l) rfl (.tmp 21) (.tmp 31) rfl rfl (HWB.out ▸ HO.out) rfl (HWB.out ▸ HRB.out) (HWB.out ▸ HY2.out) (fun hp x hx => HNEW.out m y HY.out hp x hx) (by unfold maxLen; omega) (by omega) ?_; intro A3 c3 U a3 p3)
      all_goals go_wp2
      all_goals
        go_roundw
        case rel => exact ⟨m + 1, _, _, _, _, by go_num, by omega, rfl, by rw [HE.out]; exact a3, HR2.out.pushed (HWB.out ▸ p3)⟩
        case measure => simp [intOf]; omega
    · have hin : m = tn := by omega
      subst hin
      have HE := Lib.hid (show ts.take m = ts by rw [List.take_of_length_le (by omega)])
      go_wp2_with fail
      go_ret
      exact ⟨_, _, _, _, rfl, by rw [HTS.out, ← HE.out]; exact HA.out.since HB.out⟩
set_option maxRecDepth 100000 in
set_option maxHeartbeats 2000000 in
theorem l13Asked_any (u l : Int) (A : Option Addr) (n c B : Nat) (xs : List Rod) (N : Int) (w : World) (h : Reads w B 2 A n ((rodF xs).map (Value.int .i64))) (hB : B ≤ w.heap.size) (hn : n ≤ 1048576) :
    Calls Try.prog 38 #[.agg #[.int .i64 u, .int .i64 l, .slice A n c], .int .i64 N] w fun e w' => e = .returned (.bool (frameB u l xs && decide (0 ≤ N))) ∧ Below w.heap.size w w' := by
  have hb := ext_alloc (Below.refl w.heap.size w) (.cells #[.int .i64 u, .int .i64 l, .slice A n c] 33)
  have HQ := Lib.hid (l2Good_any u l A n c B xs _ (h.below (hb.mono hB)) (Nat.le_trans hB hb.size) hn)
  have HB := Lib.hid hb
  clear h hb
  cases hf : frameB u l xs
  · rw [hf] at HQ
    go_enter Try.func38, Try.ntmps38
    go_wp2_with fail
    refine HQ.out.mono ?_
    rintro e w' ⟨rfl, hb⟩
    go_wp2_with fail
    go_ret
    exact ⟨rfl, ext_trans HB.out hb⟩
  · rw [hf] at HQ
    by_cases hN : 0 ≤ N
    · go_enter Try.func38, Try.ntmps38
      go_wp2_with fail
      refine HQ.out.mono ?_
      rintro e w' ⟨rfl, hb⟩
      go_wp2_with fail
      go_ret
      exact ⟨by simp [hN], ext_trans HB.out hb⟩
    · go_enter Try.func38, Try.ntmps38
      go_wp2_with fail
      refine HQ.out.mono ?_
      rintro e w' ⟨rfl, hb⟩
      go_wp2_with fail
      go_ret
      exact ⟨by simp, ext_trans HB.out hb⟩
theorem frame_bd {u l : Int} {xs : List Rod} (h : frameB u l xs = true) : (0 ≤ u ∧ u ≤ 2) ∧ (4 ≤ l ∧ l ≤ 5) ∧ 1 ≤ xs.length ∧ xs.length ≤ 8 := by
  unfold frameB at h
  simp only [Bool.and_eq_true] at h
  have h1 := inB_true h.1.1
  have h2 := inB_true h.1.2.1
  have h3 := inB_true h.1.2.2
  omega
/-- How many targets has a number? -/
def tgtV (u l : Int) (xs : List Rod) (N : Int) : Int := if frameB u l xs && decide (0 ≤ N) then tgt u l xs.length N else 0
set_option maxRecDepth 100000 in
set_option maxHeartbeats 2000000 in
theorem sTargetCount_any (u l : Int) (A : Option Addr) (n c B : Nat) (xs : List Rod) (N : Int) (w : World) (h : Reads w B 2 A n ((rodF xs).map (Value.int .i64))) (hB : B ≤ w.heap.size) (hn : n ≤ 1048576) (hN2 : N ≤ 9223372036854775807) :
    Calls Try.prog 15 #[.agg #[.int .i64 u, .int .i64 l, .slice A n c], .int .i64 N] w fun e w' => e = .returned (.tuple #[.int .i64 (tgtV u l xs N), .bool (frameB u l xs && decide (0 ≤ N))]) ∧ Below w.heap.size w w' := by
  have hl := h.rodLen
  have hb := ext_alloc (Below.refl w.heap.size w) (.cells #[.int .i64 u, .int .i64 l, .slice A n c] 33)
  have hBk := Blk.new w 33 #[.int .i64 u, .int .i64 l, .slice A n c]
  have hq := l13Asked_any u l A n c B xs N _ (h.below (hb.mono hB)) (Nat.le_trans hB hb.size) hn
  generalize hw1 : w.alloc (.cells #[.int .i64 u, .int .i64 l, .slice A n c] 33) = w1 at hb hBk hq
  have HB := Lib.hid hb
  have HK := Lib.hid hBk
  have HW := Lib.hid hw1
  have HQ := Lib.hid hq
  clear h hb hBk hw1 hq
  cases hf : frameB u l xs && decide (0 ≤ N)
  · rw [hf] at HQ
    have HV := Lib.hid (show tgtV u l xs N = 0 by simp only [tgtV, hf]; rfl)
    go_enter Try.func15, Try.ntmps15
    go_wp2_with fail
    rw [HW.out]
    refine HQ.out.mono ?_
    rintro e w' ⟨rfl, hb⟩
    go_wp2_with fail
    go_ret2
    exact ⟨by rw [HV.out]; rfl, ext_trans HB.out hb⟩
  · rw [hf] at HQ
    have hf' := hf
    simp only [Bool.and_eq_true, decide_eq_true_eq] at hf'
    obtain ⟨hfr, hN⟩ := hf'
    obtain ⟨⟨u0, u1⟩, _, k1, k2⟩ := frame_bd hfr
    have HV := Lib.hid (show tgtV u l xs N = tgt u l n N by simp only [tgtV, hf, hl]; rfl)
    have tl := tgts_len u l n N
    go_enter Try.func15, Try.ntmps15
    go_wp2_with fail
    rw [HW.out]
    refine HQ.out.mono ?_
    rintro e w2 ⟨rfl, hb⟩
    have HX := Lib.hid (HK.out.below hb HK.out.lt)
    have x0 := HX.out.cell 0
    have x1 := HX.out.cell 1
    have x2 := HX.out.cell 2
    simp only [List.getElem?_toArray, List.getElem?_cons_zero, List.getElem?_cons_succ] at x0 x1 x2
    go_wp2_with fail
    refine (l13All_any u l A n c u0 u1 N _ (by omega) hN hN2).mono ?_
    rintro e w3 ⟨tA, tn, tc, ths, rfl, htacc⟩
    have htn : tgt u l n N = (tn : Int) := by have := htacc.len; have := htacc.hlen; omega
    go_wp2_with fail
    go_ret2
    exact ⟨by rw [HV.out, htn]; rfl, ext_trans (ext_trans HB.out hb) htacc.ext⟩
set_option maxRecDepth 100000 in
set_option maxHeartbeats 2000000 in
theorem iTargetCount_any (u l : Int) (A : Option Addr) (n c B : Nat) (xs : List Rod) (N : Int) (w : World) (h : Reads w B 2 A n ((rodF xs).map (Value.int .i64))) (hB : B ≤ w.heap.size) (hn : n ≤ 1048576) (hN2 : N ≤ 9223372036854775807) :
    Calls Try.prog 17 #[.agg #[.int .i64 u, .int .i64 l, .slice A n c], .int .i64 N] w fun e w' => e = .returned (.tuple #[.int .i64 (tgtV u l xs N), .bool (frameB u l xs && decide (0 ≤ N))]) ∧ Below w.heap.size w w' := by
  have hl := h.rodLen
  have hb := ext_alloc (Below.refl w.heap.size w) (.cells #[.int .i64 u, .int .i64 l, .slice A n c] 33)
  have hBk := Blk.new w 33 #[.int .i64 u, .int .i64 l, .slice A n c]
  have hq := iIsFrame_any u l A n c B xs _ (h.below (hb.mono hB)) (Nat.le_trans hB hb.size) hn
  generalize hw1 : w.alloc (.cells #[.int .i64 u, .int .i64 l, .slice A n c] 33) = w1 at hb hBk hq
  have HB := Lib.hid hb
  have HK := Lib.hid hBk
  have HW := Lib.hid hw1
  have HQ := Lib.hid hq
  clear h hb hBk hw1 hq
  cases hf : frameB u l xs
  · rw [hf] at HQ
    have HV := Lib.hid (show tgtV u l xs N = 0 by simp only [tgtV, hf]; rfl)
    go_enter Try.func17, Try.ntmps17
    go_wp2_with fail
    rw [HW.out]
    refine HQ.out.mono ?_
    rintro e w' ⟨rfl, hb⟩
    go_wp2_with fail
    go_ret2
    exact ⟨by rw [HV.out]; rfl, ext_trans HB.out hb⟩
  · rw [hf] at HQ
    by_cases hN : 0 ≤ N
    · obtain ⟨⟨u0, u1⟩, _, k1, k2⟩ := frame_bd hf
      have HV := Lib.hid (show tgtV u l xs N = tgt u l n N by simp only [tgtV, hf, hl, hN]; rfl)
      have HD := Lib.hid (show (true && decide (0 ≤ N)) = true by simp [hN])
      have hnl : decide (N < 0) = false := by simp; omega
      go_enter Try.func17, Try.ntmps17
      go_wp2_with fail
      rw [HW.out]
      refine HQ.out.mono ?_
      rintro e w2 ⟨rfl, hb⟩
      have HX := Lib.hid (HK.out.below hb HK.out.lt)
      have x0 := HX.out.cell 0
      have x1 := HX.out.cell 1
      have x2 := HX.out.cell 2
      simp only [List.getElem?_toArray, List.getElem?_cons_zero, List.getElem?_cons_succ] at x0 x1 x2
      go_wp2_with fail
      refine (targets_any u l A n c u0 u1 n N _ (by omega) hN hN2).mono ?_
      rintro e w3 ⟨rfl, h3⟩
      go_wp2_with fail
      go_ret2
      exact ⟨by rw [HV.out, HD.out]; rfl, ext_trans (ext_trans HB.out hb) h3⟩
    · have HV := Lib.hid (show tgtV u l xs N = 0 by simp only [tgtV, hf, hN]; rfl)
      have HD := Lib.hid (show (true && decide (0 ≤ N)) = false by simp [hN])
      have hnl : decide (N < 0) = true := by simp; omega
      go_enter Try.func17, Try.ntmps17
      go_wp2_with fail
      rw [HW.out]
      refine HQ.out.mono ?_
      rintro e w2 ⟨rfl, hb⟩
      go_wp2_with fail
      go_ret2
      exact ⟨by rw [HV.out, HD.out]; rfl, ext_trans HB.out hb⟩
end Go.Proofs.Ytkgbcjiinicffaa
