/- FnHours: hours of all teachers are all minutes, shifting back is no change, and no gap is negative. No condition. -/
import Derived.Test.YtnndhgeddfghcaaHoursP
import Derived.Test.YtnndhgeddfghcaaDrawL
import Derived.Test.YtnndhgeddfghcaaRsL
namespace Go.Proofs.Ytnndhgeddfghcaa
open Go.RowKit

theorem quiet_r {P : Program} {f : FuncId} {args : Array Value} {w : World} {n : Nat} {v : Value}
    (h : Calls P f args (w.drewN n) fun e w' => e = .returned v ∧ w.drewN n = w') : Calls P f args (w.drewN n) fun e w'' => e = .returned v ∧ ∃ m, w'' = w.drewN m :=
  h.mono fun _ _ ⟨he, hm⟩ => ⟨he, n, hm.symm⟩
set_option maxRecDepth 100000 in
set_option maxHeartbeats 16000000 in
theorem FnHours_any (A : Option Addr) (n c : Nat) (w : World) (hcode : CodeOk w w.heap.size A n) :
    Calls Try.prog 14 #[.slice A n c] w fun e w' => e = .returned (.bool true) ∧ Below w.heap.size w w' := by
  have HC := Lib.hid hcode
  clear hcode
  cases hbig : bigR n
  rotate_left
  · go_enter Try.func14, Try.ntmps14
    go_wp2_with fail
    refine (rBig_any A n c _).mono ?_
    rintro e w' ⟨rfl, rfl⟩
    go_wp2_with fail
    go_ret
    exact ⟨rfl, Below.refl _ _⟩
  · go_enter Try.func14, Try.ntmps14
    go_wp2_with fail
    refine (rBig_any A n c _).mono ?_
    rintro e w' ⟨rfl, rfl⟩
    go_wp2_with fail
    refine (DrawTeacherHours_any A n c w.heap.size _ HC.out (Nat.le_refl _)).mono ?_
    rintro e a1 ⟨aA, an, ac, al, rfl, ad, ah⟩
    have R1 := Lib.hid ad.reads
    have J1 := Lib.hid ad.ext
    have hal := ad.reads.lesnLen
    have hi := fun (A : Option Addr) (n c B : Nat) (w : World) h hB hn => iTeacherHours_any A n c B al w h hB hn
    have hs := fun (A : Option Addr) (n c B : Nat) (w : World) h hB hn => sTeacherHours_any A n c B al w h hB hn
    have hrl := hoursL_len al
    clear ad hbig
    cases hl : lessB al
    · rw [hoursL_none hl, hl] at hi hs
      have HI := Lib.hid hi
      have HS := Lib.hid hs
      have hpos := less_ne hl
      have hd0 : 0 < an := by omega
      have hd1 : (0 : Int) < an := by omega
      have hd2 : decide ((0 : Int) < an) = true := by simp; omega
      clear hi hs hl hrl
      go_wp2_with fail
      refine (HI.out aA an ac _ _ R1.out (Nat.le_refl _) (by omega)).mono ?_
      rintro e a2 ⟨rA, rn, rc, hs1, rfl, h2⟩
      have R2 := Lib.hid (R1.out.below h2.ext)
      go_wp2_with fail
      refine (HS.out aA an ac _ _ R2.out h2.ext.size (by omega)).mono ?_
      rintro e a3 ⟨uA, un, uc, hs2, rfl, h3⟩
      obtain rfl : rn = 0 := by have := h2.reads.rlen; simpa using this.symm
      obtain rfl : un = 0 := by have := h3.reads.rlen; simpa using this.symm
      have Q1 := Lib.hid (h2.reads.below h3.ext)
      have Q2 := Lib.hid h3.reads
      have J3 := Lib.hid (ext_trans J1.out (ext_trans h2.ext h3.ext))
      have te : decide (([] : List (List Int)) = []) = true := rfl
      clear h2 h3 R1 R2 J1 HI HS hpos hal
      go_wp2_with fail
      refine (rTable_any rA uA 0 0 rc uc _ _ hs1 hs2 [] [] _ Q1.out Q2.out (by simp) (by simp)).mono ?_
      rintro e w' ⟨rfl, u, rfl⟩
      have JA := Lib.hid (ext_drewN J3.out u)
      clear Q1 Q2 J3
      generalize a3.drewN u = a4 at *
      go_wp2_with fail
      go_loopw [8, 9] (fun s i wr => ∃ m : Nat, s = .int .i64 0 ∧ i = .int .i64 0 ∧ wr = a4.drewN m) (fun _ _ _ => 0)
      case atStart => exact ⟨0, rfl, rfl, rfl⟩
      case round =>
        obtain ⟨m, rfl, rfl, rfl⟩ := hrel
        have JA := Lib.hid (ext_drewN JA.out m)
        go_wp2_with fail
        go_loopw [8, 10] (fun s i wr' => s = .int .i64 0 ∧ i = .int .i64 0 ∧ Below w.heap.size w wr') (fun _ _ _ => 0)
        case atStart => exact ⟨rfl, rfl, JA.out⟩
        case round =>
          obtain ⟨rfl, rfl, hja⟩ := hrel
          have JA := Lib.hid hja
          clear hja
          go_wp2_with fail
          refine (DrawShiftLesson_any A n c w.heap.size _ (HC.out.below JA.out) JA.out.size).mono ?_
          rintro e d1 ⟨dA, dn, dc, dl, did, dd, db, rfl, dw, dh⟩
          have R1 := Lib.hid dw.reads
          have J1 := Lib.hid (ext_trans JA.out dw.ext)
          have hi := fun (A : Option Addr) (n c B : Nat) (w : World) h hB hn => iShiftLesson_any A n c B dl did dd db w h hB hn
          have hs := fun (A : Option Addr) (n c B : Nat) (w : World) h hB hn => sShiftLesson_any A n c B dl did dd db w h hB hn
          have hback := fun (hk : shiftOk dl did dd db = true) (k : Nat) (x : Lesn) (hx : dl[k]? = some x) (hid : x.i = did) => shift_back hk hx hid
          have hml := shift_len dl did dd db
          have hdl := dw.reads.lesnLen
          generalize shiftL dl did dd db = ms at *
          generalize shiftOk dl did dd db = fine at *
          have HI := Lib.hid hi
          have HS := Lib.hid hs
          have fk : (fine != fine) = false := by simp
          clear hi hs dw JA
          go_wp2_with fail
          refine (HI.out dA dn dc _ _ R1.out (Nat.le_refl _) (by omega)).mono ?_
          rintro e d2 ⟨mA, mn, mc, rfl, h2⟩
          have R2 := Lib.hid (R1.out.below h2.ext)
          go_wp2_with fail
          refine (HS.out dA dn dc _ _ R2.out h2.ext.size (by omega)).mono ?_
          rintro e d3 ⟨qA, qn, qc, rfl, h3⟩
          have hmn : ms.length = mn := h2.reads.lesnLen
          have hqn : ms.length = qn := h3.reads.lesnLen
          obtain rfl : qn = mn := by omega
          have hm13 : qn ≤ 13 := by omega
          have R3 := Lib.hid (R2.out.below (h3.ext.mono h2.ext.size))
          have M3 := Lib.hid (h2.reads.below h3.ext)
          have N3 := Lib.hid h3.reads
          have J3 := Lib.hid (ext_trans J1.out (ext_trans h2.ext h3.ext))
          have Z3 := Lib.hid (show d1.heap.size ≤ d3.heap.size from Nat.le_trans h2.ext.size h3.ext.size)
          have Z2 := Lib.hid h3.ext.size
          clear h2 h3 R1 R2 J1 HI HS hml hmn hqn hdl
          go_wp2_with fail
          refine (rLessons_same mA qA qn mc qc _ _ ms _ M3.out N3.out (by omega)).mono ?_
          rintro e w' ⟨rfl, u, rfl⟩
          have R5 := Lib.hid ((R3.out.drewN u).more Z3.out)
          have M5 := Lib.hid ((M3.out.drewN u).more Z2.out)
          have J5 := Lib.hid (ext_drewN J3.out u)
          clear R3 M3 N3 J3 Z2 Z3
          generalize hd5 : d3.drewN u = d5 at R5 M5 J5 ⊢
          rw [show d3.heap.size = d5.heap.size by rw [← hd5]; rfl] at R5 M5
          clear hd5
          cases fine
          · clear hback
            by_cases hd0 : 0 < dn
            · have hd1 : (0 : Int) < dn := by omega
              have hd2 : decide ((0 : Int) < dn) = true := by simp; omega
              go_wp2_with fail
              go_loopw [19] (fun i wr => i = .int .i64 0 ∧ Below d5.heap.size d5 wr) (fun _ _ => 0)
              case atStart => exact ⟨rfl, Below.refl _ _⟩
              case round =>
                obtain ⟨rfl, hb⟩ := hrel
                have JB := Lib.hid (ext_trans J5.out hb)
                clear hb J5
                go_wp2_with fail
                refine (DrawLongestGap_any A n c w.heap.size _ (HC.out.below JB.out) JB.out.size).mono ?_
                rintro e g1 ⟨gA, gn, gc, gl, cls, rfl, gd, gh⟩
                have gR := Lib.hid gd.reads
                have gJ := Lib.hid (ext_trans JB.out gd.ext)
                obtain ⟨gr, gok, hg, hg0⟩ := gapT_pos (cls := cls) (xs := gl)
                have hi := fun (A : Option Addr) (n c B : Nat) (w : World) h hB hn => iLongestGap_any A n c B gl cls w h hB hn
                have hs := fun (A : Option Addr) (n c B : Nat) (w : World) h hB hn => sLongestGap_any A n c B gl cls w h hB hn
                rw [hg] at hi hs
                have HI := Lib.hid hi
                have HS := Lib.hid hs
                have gk : (gok != gok) = false := by simp
                have gk2 : (gr != gr) = false := by simp
                have gneg : ¬ gr < 0 := by omega
                clear hi hs gd hg
                go_wp2_with fail
                refine (HI.out gA gn gc _ _ gR.out (Nat.le_refl _) (by omega)).mono ?_
                rintro e g2 ⟨rfl, h2⟩
                have R2 := Lib.hid (gR.out.below h2)
                go_wp2_with fail
                refine (HS.out gA gn gc _ _ R2.out h2.size (by omega)).mono ?_
                rintro e g3 ⟨rfl, h3⟩
                have JZ := Lib.hid (ext_trans gJ.out (ext_trans h2 h3))
                clear h2 h3 R2 gR gJ HI HS JB
                go_wp2_with fail
                refine (DrawLessonText_any A n c w.heap.size _ (HC.out.below JZ.out) JZ.out.size).mono ?_
                rintro e t1 ⟨z0, z1, z2, z3, z4, z5, z6, rfl, th⟩
                have JT := Lib.hid (ext_trans JZ.out th)
                obtain ⟨st, hst⟩ := lesTextT_ok ⟨z0, z1, z2, z3, z4, z5, z6⟩
                have hi := fun (w : World) => iLessonText_any ⟨z0, z1, z2, z3, z4, z5, z6⟩ w
                have hs := fun (w : World) => sLessonText_any ⟨z0, z1, z2, z3, z4, z5, z6⟩ w
                rw [hst] at hi hs
                have hl := fun (w : World) => iIsLesson_v ⟨z0, z1, z2, z3, z4, z5, z6⟩ rfl w
                generalize (⟨z0, z1, z2, z3, z4, z5, z6⟩ : Lesn).ok = tok at hi hs hl
                dsimp only at hi hs hl
                have HI := Lib.hid hi
                have HS := Lib.hid hs
                have HL := Lib.hid hl
                have tk : (tok == tok) = true := by simp
                have tk2 : (st.toList == st.toList) = true := by simp
                clear hi hs hl hst th JZ
                obtain ⟨x0, x1, x2, x3, x4, x5, x6⟩ := box_cellsL t1 25 ⟨z0, z1, z2, z3, z4, z5, z6⟩
                dsimp only at x0 x1 x2 x3 x4 x5 x6
                go_wp2_with fail
                refine (HI.out _).mono ?_
                rintro e t2 ⟨rfl, h2⟩
                have y0 := below_cell h2 x0
                have y1 := below_cell h2 x1
                have y2 := below_cell h2 x2
                have y3 := below_cell h2 x3
                have y4 := below_cell h2 x4
                have y5 := below_cell h2 x5
                have y6 := below_cell h2 x6
                clear x0 x1 x2 x3 x4 x5 x6
                go_wp2_with fail
                refine (HS.out _).mono ?_
                rintro e t3 ⟨rfl, h3⟩
                have x0 := below_cell h3 y0
                have x1 := below_cell h3 y1
                have x2 := below_cell h3 y2
                have x3 := below_cell h3 y3
                have x4 := below_cell h3 y4
                have x5 := below_cell h3 y5
                have x6 := below_cell h3 y6
                clear y0 y1 y2 y3 y4 y5 y6
                go_wp2_with fail
                refine (HL.out _).mono ?_
                rintro e t4 ⟨rfl, h4⟩
                go_wp2_with fail
                go_ret
                exact ⟨by simp, ext_trans (ext_alloc JT.out _) (ext_trans h2 (ext_trans h3 h4))⟩
            · have hd1 : ¬ (0 : Int) < dn := by omega
              have hd2 : decide ((0 : Int) < dn) = false := by simp; omega
              go_wp2_with fail
              go_loopw [19] (fun i wr => i = .int .i64 0 ∧ Below d5.heap.size d5 wr) (fun _ _ => 0)
              case atStart => exact ⟨rfl, Below.refl _ _⟩
              case round =>
                obtain ⟨rfl, hb⟩ := hrel
                have JB := Lib.hid (ext_trans J5.out hb)
                clear hb J5
                go_wp2_with fail
                refine (DrawLongestGap_any A n c w.heap.size _ (HC.out.below JB.out) JB.out.size).mono ?_
                rintro e g1 ⟨gA, gn, gc, gl, cls, rfl, gd, gh⟩
                have gR := Lib.hid gd.reads
                have gJ := Lib.hid (ext_trans JB.out gd.ext)
                obtain ⟨gr, gok, hg, hg0⟩ := gapT_pos (cls := cls) (xs := gl)
                have hi := fun (A : Option Addr) (n c B : Nat) (w : World) h hB hn => iLongestGap_any A n c B gl cls w h hB hn
                have hs := fun (A : Option Addr) (n c B : Nat) (w : World) h hB hn => sLongestGap_any A n c B gl cls w h hB hn
                rw [hg] at hi hs
                have HI := Lib.hid hi
                have HS := Lib.hid hs
                have gk : (gok != gok) = false := by simp
                have gk2 : (gr != gr) = false := by simp
                have gneg : ¬ gr < 0 := by omega
                clear hi hs gd hg
                go_wp2_with fail
                refine (HI.out gA gn gc _ _ gR.out (Nat.le_refl _) (by omega)).mono ?_
                rintro e g2 ⟨rfl, h2⟩
                have R2 := Lib.hid (gR.out.below h2)
                go_wp2_with fail
                refine (HS.out gA gn gc _ _ R2.out h2.size (by omega)).mono ?_
                rintro e g3 ⟨rfl, h3⟩
                have JZ := Lib.hid (ext_trans gJ.out (ext_trans h2 h3))
                clear h2 h3 R2 gR gJ HI HS JB
                go_wp2_with fail
                refine (DrawLessonText_any A n c w.heap.size _ (HC.out.below JZ.out) JZ.out.size).mono ?_
                rintro e t1 ⟨z0, z1, z2, z3, z4, z5, z6, rfl, th⟩
                have JT := Lib.hid (ext_trans JZ.out th)
                obtain ⟨st, hst⟩ := lesTextT_ok ⟨z0, z1, z2, z3, z4, z5, z6⟩
                have hi := fun (w : World) => iLessonText_any ⟨z0, z1, z2, z3, z4, z5, z6⟩ w
                have hs := fun (w : World) => sLessonText_any ⟨z0, z1, z2, z3, z4, z5, z6⟩ w
                rw [hst] at hi hs
                have hl := fun (w : World) => iIsLesson_v ⟨z0, z1, z2, z3, z4, z5, z6⟩ rfl w
                generalize (⟨z0, z1, z2, z3, z4, z5, z6⟩ : Lesn).ok = tok at hi hs hl
                dsimp only at hi hs hl
                have HI := Lib.hid hi
                have HS := Lib.hid hs
                have HL := Lib.hid hl
                have tk : (tok == tok) = true := by simp
                have tk2 : (st.toList == st.toList) = true := by simp
                clear hi hs hl hst th JZ
                obtain ⟨x0, x1, x2, x3, x4, x5, x6⟩ := box_cellsL t1 25 ⟨z0, z1, z2, z3, z4, z5, z6⟩
                dsimp only at x0 x1 x2 x3 x4 x5 x6
                go_wp2_with fail
                refine (HI.out _).mono ?_
                rintro e t2 ⟨rfl, h2⟩
                have y0 := below_cell h2 x0
                have y1 := below_cell h2 x1
                have y2 := below_cell h2 x2
                have y3 := below_cell h2 x3
                have y4 := below_cell h2 x4
                have y5 := below_cell h2 x5
                have y6 := below_cell h2 x6
                clear x0 x1 x2 x3 x4 x5 x6
                go_wp2_with fail
                refine (HS.out _).mono ?_
                rintro e t3 ⟨rfl, h3⟩
                have x0 := below_cell h3 y0
                have x1 := below_cell h3 y1
                have x2 := below_cell h3 y2
                have x3 := below_cell h3 y3
                have x4 := below_cell h3 y4
                have x5 := below_cell h3 y5
                have x6 := below_cell h3 y6
                clear y0 y1 y2 y3 y4 y5 y6
                go_wp2_with fail
                refine (HL.out _).mono ?_
                rintro e t4 ⟨rfl, h4⟩
                go_wp2_with fail
                go_ret
                exact ⟨by simp, ext_trans (ext_alloc JT.out _) (ext_trans h2 (ext_trans h3 h4))⟩
          · have HBACK := Lib.hid (hback rfl)
            clear hback
            go_wp2_with fail
            go_loopw [19] (fun i wr => ∃ k : Nat, i = .int .i64 (k : Int) ∧ k ≤ dn ∧ Below d5.heap.size d5 wr) (fun i _ => dn - (intOf i).toNat)
            case atStart => exact ⟨0, rfl, by omega, Below.refl _ _⟩
            case round =>
              obtain ⟨wq, rfl⟩ : ∃ wq : World, wq = wr := ⟨_, rfl⟩
              obtain ⟨k, rfl, hk, hb⟩ := hrel
              have HBQ := Lib.hid hb
              have RQ := Lib.hid (R5.out.below hb)
              have MQ := Lib.hid (M5.out.below hb)
              clear hb
              have k0 : (0 : Int) ≤ k := by omega
              by_cases hlt : k < dn
              · obtain ⟨b, o, x, hAx, hx, hc0, hc1, hc2, hc3, hc4, hc5, hc6⟩ := RQ.out.lesn hlt
                subst hAx
                have k1 : (k : Int) < dn := by omega
                by_cases hid : x.i = did
                · have hib : (x.i == did) = true := by simp [hid]
                  obtain ⟨sok, hsok⟩ : ∃ v, shiftOk ms did x.d x.b = v := ⟨_, rfl⟩
                  have HBK := Lib.hid (HBACK.out k x hx hid)
                  have hkq := fun (wz : World) (hz : Below wq.heap.size wq wz) => iShiftLesson_any mA qn mc d5.heap.size ms did x.d x.b wz (MQ.out.below (hz.mono HBQ.out.size)) (Nat.le_trans HBQ.out.size hz.size) (by omega)
                  rw [hsok] at hkq
                  have HKQ := Lib.hid hkq
                  have hself : Below wq.heap.size wq wq.drew := ext_drew (Below.refl _ _)
                  clear hid hx hkq
                  go_wp2_with fail
                  refine wp_region_held_drew (S := (fun w' => w'.cell? ⟨b, o + k * 7 + 4, none⟩ = some (.int .i64 x.d) ∧ w'.cell? ⟨b, o + k * 7 + 5, none⟩ = some (.int .i64 x.b) ∧ Below wq.heap.size wq w')) (by kernel_rfl) ?_ (fun hHeld => ?_)
                  · (try dsimp only); (first | (go_keep; done) | ((try go_split_ands); (repeat' apply And.intro); all_goals first | exact ext_drew (Below.refl _ _) | exact below_cell (by assumption) (by assumption) | (refine ext_trans ?_ (by assumption); assumption) | assumption))
                  refine wpAnyH_takeD (i := 0) (v := ?_) 143 rfl rfl (by kernel_rfl) (by kernel_rfl) (by kernel_rfl) (fun _ _ _ _ _ h => h) (by rfl) (by assumption) ?_ ?_
                  rotate_left; focus (intro w hSw; (try dsimp only at hSw); go_simp; try (with_reducible rfl))
                  try simp only [Act.put, List.setIfInBounds_toArray, List.set_cons_zero, List.set_cons_succ]
                  refine wpAnyH_takeD (i := 1) (v := ?_) 144 rfl rfl (by kernel_rfl) (by kernel_rfl) (by kernel_rfl) (fun _ _ _ _ _ h => h) (by rfl) (by assumption) ?_ ?_
                  rotate_left; focus (intro w hSw; (try dsimp only at hSw); go_simp; try (with_reducible rfl))
                  try simp only [Act.put, List.setIfInBounds_toArray, List.set_cons_zero, List.set_cons_succ]
                  refine wpAnyH_takeD (i := 2) (v := ?_) 145 rfl rfl (by kernel_rfl) (by kernel_rfl) (by kernel_rfl) (fun _ _ _ _ _ h => h) (by rfl) (by assumption) ?_ ?_
                  rotate_left; focus (intro w hSw; (try dsimp only at hSw); go_simp; try (with_reducible rfl))
                  try simp only [Act.put, List.setIfInBounds_toArray, List.set_cons_zero, List.set_cons_succ]
                  refine wpAnyH_takeD (i := 3) (v := ?_) 146 rfl rfl (by kernel_rfl) (by kernel_rfl) (by kernel_rfl) (fun _ _ _ _ _ h => h) (by rfl) (by assumption) ?_ ?_
                  rotate_left; focus (intro w hSw; (try dsimp only at hSw); go_simp; try (with_reducible rfl))
                  try simp only [Act.put, List.setIfInBounds_toArray, List.set_cons_zero, List.set_cons_succ]
                  refine wpAnyH_takeD (i := 4) (v := ?_) 147 rfl rfl (by kernel_rfl) (by kernel_rfl) (by kernel_rfl) (fun _ _ _ _ _ h => h) (by rfl) (by assumption) ?_ ?_
                  rotate_left; focus (intro w hSw; (try dsimp only at hSw); go_simp; try (with_reducible rfl))
                  try simp only [Act.put, List.setIfInBounds_toArray, List.set_cons_zero, List.set_cons_succ]
                  refine wpAnyH_takeD (i := 5) (v := ?_) 148 rfl rfl (by kernel_rfl) (by kernel_rfl) (by kernel_rfl) (fun _ _ _ _ _ h => h) (by rfl) (by assumption) ?_ ?_
                  rotate_left; focus (intro w hSw; (try dsimp only at hSw); go_simp; try (with_reducible rfl))
                  try simp only [Act.put, List.setIfInBounds_toArray, List.set_cons_zero, List.set_cons_succ]
                  refine wpAnyH_takeD (i := 6) (v := ?_) 149 rfl rfl (by kernel_rfl) (by kernel_rfl) (by kernel_rfl) (fun _ _ _ _ _ h => h) (by rfl) (by assumption) ?_ ?_
                  rotate_left; focus (intro w hSw; (try dsimp only at hSw); go_simp; try (with_reducible rfl))
                  try simp only [Act.put, List.setIfInBounds_toArray, List.set_cons_zero, List.set_cons_succ]
                  refine wpAnyH_takeD (i := 7) (v := ?_) 150 rfl rfl (by kernel_rfl) (by kernel_rfl) (by kernel_rfl) (fun _ _ _ _ _ h => h) (by rfl) (by assumption) ?_ ?_
                  rotate_left; focus (intro w hSw; (try dsimp only at hSw); go_simp; try (with_reducible rfl))
                  try simp only [Act.put, List.setIfInBounds_toArray, List.set_cons_zero, List.set_cons_succ]
                  refine wpAnyH_takeD (i := 8) (v := ?_) 151 rfl rfl (by kernel_rfl) (by kernel_rfl) (by kernel_rfl) (fun _ _ _ _ _ h => h) (by rfl) (by assumption) ?_ ?_
                  rotate_left; focus (intro w hSw; (try dsimp only at hSw); go_simp; try (with_reducible rfl))
                  try simp only [Act.put, List.setIfInBounds_toArray, List.set_cons_zero, List.set_cons_succ]
                  refine wpAnyH_takeD (i := 9) (v := ?_) 152 rfl rfl (by kernel_rfl) (by kernel_rfl) (by kernel_rfl) (fun _ _ _ _ _ h => h) (by rfl) (by assumption) ?_ ?_
                  rotate_left; focus (intro w hSw; (try dsimp only at hSw); go_simp; try (with_reducible rfl))
                  try simp only [Act.put, List.setIfInBounds_toArray, List.set_cons_zero, List.set_cons_succ]
                  refine wpAnyH_takeD (i := 10) (v := ?_) 153 rfl rfl (by kernel_rfl) (by kernel_rfl) (by kernel_rfl) (fun _ _ _ _ _ h => h) (by rfl) (by assumption) ?_ ?_
                  rotate_left; focus (intro w hSw; (try dsimp only at hSw); go_simp; try (with_reducible rfl))
                  try simp only [Act.put, List.setIfInBounds_toArray, List.set_cons_zero, List.set_cons_succ]
                  refine wpAnyH_takeD (i := 11) (v := ?_) 154 rfl rfl (by kernel_rfl) (by kernel_rfl) (by kernel_rfl) (fun _ _ _ _ _ h => h) (by rfl) (by assumption) ?_ ?_
                  rotate_left; focus (intro w hSw; (try dsimp only at hSw); go_simp; try (with_reducible rfl))
                  try simp only [Act.put, List.setIfInBounds_toArray, List.set_cons_zero, List.set_cons_succ]
                  refine wpAnyH_ready (rs := [12]) (by kernel_rfl) (by simp) ?_
                  refine AllReadyH.cons rfl (fun K hK => ?_) AllReadyH.nil
                  go_simp; (go_at_call 45; refine (HKQ.out _ hHeld.2.2).mono ?_; rintro e w' ⟨bA, bn, bc, rfl, hb'⟩; have hbe := hb'.ext); (try dsimp only)
                  refine hK.out _ _ ?_ (fun hHeld => ?_)
                  focus ((try dsimp only); (first | (go_keep; done) | ((try go_split_ands); (repeat' apply And.intro); all_goals first | exact ext_drew (Below.refl _ _) | exact below_cell (by assumption) (by assumption) | (refine ext_trans ?_ (by assumption); assumption) | assumption)))
                  clear hK K; try simp only [Act.put, List.setIfInBounds_toArray, List.set_cons_zero, List.set_cons_succ]
                  refine wpAnyH_takeD (i := 13) (v := ?_) 142 rfl rfl (by kernel_rfl) (by kernel_rfl) (by kernel_rfl) (fun _ _ _ _ _ h => h) (by rfl) (by assumption) ?_ ?_
                  rotate_left; focus (intro w hSw; (try dsimp only at hSw); go_simp; try (with_reducible rfl))
                  try simp only [Act.put, List.setIfInBounds_toArray, List.set_cons_zero, List.set_cons_succ]
                  refine wpAnyH_takeD (i := 14) (v := ?_) 156 rfl rfl (by kernel_rfl) (by kernel_rfl) (by kernel_rfl) (fun _ _ _ _ _ h => h) (by rfl) (by assumption) ?_ ?_
                  rotate_left; focus (intro w hSw; (try dsimp only at hSw); go_simp; try (with_reducible rfl))
                  try simp only [Act.put, List.setIfInBounds_toArray, List.set_cons_zero, List.set_cons_succ]
                  refine wpAnyH_takeD (i := 15) (v := ?_) 157 rfl rfl (by kernel_rfl) (by kernel_rfl) (by kernel_rfl) (fun _ _ _ _ _ h => h) (by rfl) (by assumption) ?_ ?_
                  rotate_left; focus (intro w hSw; (try dsimp only at hSw); go_simp; try (with_reducible rfl))
                  try simp only [Act.put, List.setIfInBounds_toArray, List.set_cons_zero, List.set_cons_succ]
                  refine wpAnyH_takeD (i := 16) (v := ?_) 20 rfl rfl (by kernel_rfl) (by kernel_rfl) (by kernel_rfl) (fun _ _ _ _ _ h => h) (by rfl) (by assumption) ?_ ?_
                  rotate_left; focus (intro w hSw; (try dsimp only at hSw); go_simp; try (with_reducible rfl))
                  try simp only [Act.put, List.setIfInBounds_toArray, List.set_cons_zero, List.set_cons_succ]
                  refine wpAnyH_takeD (i := 17) (v := ?_) 21 rfl rfl (by kernel_rfl) (by kernel_rfl) (by kernel_rfl) (fun _ _ _ _ _ h => h) (by rfl) (by assumption) ?_ ?_
                  rotate_left; focus (intro w hSw; (try dsimp only at hSw); go_simp; try (with_reducible rfl))
                  try simp only [Act.put, List.setIfInBounds_toArray, List.set_cons_zero, List.set_cons_succ]
                  refine wpAnyH_done (by kernel_rfl) ?_ _

                  clear hself
                  cases sok
                  · have HNX := Lib.hid hHeld.2.2
                    clear hHeld hb'
                    go_wp2_with fail
                    go_roundw
                    case rel => exact ⟨k + 1, by go_num, by omega, ext_trans HBQ.out HNX.out⟩
                    case measure => simp [intOf]; omega
                  · have he := HBK.out hsok
                    rw [he] at hb'
                    have HBS := Lib.hid hb'.reads
                    have HNX := Lib.hid hHeld.2.2
                    have hbn : bn = dn := by have h1 := hb'.reads.lesnLen; have h2 := RQ.out.lesnLen; omega
                    subst hbn
                    have RZ := Lib.hid (RQ.out.below (HNX.out.mono HBQ.out.size))
                    clear hHeld hb' he
                    go_wp2_with fail
                    refine (rLessons_same _ _ bn _ _ _ _ dl _ HBS.out RZ.out (by omega)).mono ?_
                    rintro e w5 ⟨rfl, u, rfl⟩
                    go_wp2_with fail
                    go_roundw
                    case rel => exact ⟨k + 1, by go_num, by omega, ext_drewN (ext_trans HBQ.out HNX.out) u⟩
                    case measure => simp [intOf]; omega
                · have hib : (x.i == did) = false := by simp [hid]
                  clear hid hx
                  go_wp2_with fail
                  go_roundw
                  case rel => exact ⟨k + 1, by go_num, by omega, HBQ.out⟩
                  case measure => simp [intOf]; omega
              · have JB := Lib.hid (ext_trans J5.out HBQ.out)
                have hnk : ¬ (k : Int) < dn := by omega
                clear RQ MQ R5 M5 HBACK J5 HBQ
                go_wp2_with fail
                refine (DrawLongestGap_any A n c w.heap.size _ (HC.out.below JB.out) JB.out.size).mono ?_
                rintro e g1 ⟨gA, gn, gc, gl, cls, rfl, gd, gh⟩
                have gR := Lib.hid gd.reads
                have gJ := Lib.hid (ext_trans JB.out gd.ext)
                obtain ⟨gr, gok, hg, hg0⟩ := gapT_pos (cls := cls) (xs := gl)
                have hi := fun (A : Option Addr) (n c B : Nat) (w : World) h hB hn => iLongestGap_any A n c B gl cls w h hB hn
                have hs := fun (A : Option Addr) (n c B : Nat) (w : World) h hB hn => sLongestGap_any A n c B gl cls w h hB hn
                rw [hg] at hi hs
                have HI := Lib.hid hi
                have HS := Lib.hid hs
                have gk : (gok != gok) = false := by simp
                have gk2 : (gr != gr) = false := by simp
                have gneg : ¬ gr < 0 := by omega
                clear hi hs gd hg
                go_wp2_with fail
                refine (HI.out gA gn gc _ _ gR.out (Nat.le_refl _) (by omega)).mono ?_
                rintro e g2 ⟨rfl, h2⟩
                have R2 := Lib.hid (gR.out.below h2)
                go_wp2_with fail
                refine (HS.out gA gn gc _ _ R2.out h2.size (by omega)).mono ?_
                rintro e g3 ⟨rfl, h3⟩
                have JZ := Lib.hid (ext_trans gJ.out (ext_trans h2 h3))
                clear h2 h3 R2 gR gJ HI HS JB
                go_wp2_with fail
                refine (DrawLessonText_any A n c w.heap.size _ (HC.out.below JZ.out) JZ.out.size).mono ?_
                rintro e t1 ⟨z0, z1, z2, z3, z4, z5, z6, rfl, th⟩
                have JT := Lib.hid (ext_trans JZ.out th)
                obtain ⟨st, hst⟩ := lesTextT_ok ⟨z0, z1, z2, z3, z4, z5, z6⟩
                have hi := fun (w : World) => iLessonText_any ⟨z0, z1, z2, z3, z4, z5, z6⟩ w
                have hs := fun (w : World) => sLessonText_any ⟨z0, z1, z2, z3, z4, z5, z6⟩ w
                rw [hst] at hi hs
                have hl := fun (w : World) => iIsLesson_v ⟨z0, z1, z2, z3, z4, z5, z6⟩ rfl w
                generalize (⟨z0, z1, z2, z3, z4, z5, z6⟩ : Lesn).ok = tok at hi hs hl
                dsimp only at hi hs hl
                have HI := Lib.hid hi
                have HS := Lib.hid hs
                have HL := Lib.hid hl
                have tk : (tok == tok) = true := by simp
                have tk2 : (st.toList == st.toList) = true := by simp
                clear hi hs hl hst th JZ
                obtain ⟨x0, x1, x2, x3, x4, x5, x6⟩ := box_cellsL t1 25 ⟨z0, z1, z2, z3, z4, z5, z6⟩
                dsimp only at x0 x1 x2 x3 x4 x5 x6
                go_wp2_with fail
                refine (HI.out _).mono ?_
                rintro e t2 ⟨rfl, h2⟩
                have y0 := below_cell h2 x0
                have y1 := below_cell h2 x1
                have y2 := below_cell h2 x2
                have y3 := below_cell h2 x3
                have y4 := below_cell h2 x4
                have y5 := below_cell h2 x5
                have y6 := below_cell h2 x6
                clear x0 x1 x2 x3 x4 x5 x6
                go_wp2_with fail
                refine (HS.out _).mono ?_
                rintro e t3 ⟨rfl, h3⟩
                have x0 := below_cell h3 y0
                have x1 := below_cell h3 y1
                have x2 := below_cell h3 y2
                have x3 := below_cell h3 y3
                have x4 := below_cell h3 y4
                have x5 := below_cell h3 y5
                have x6 := below_cell h3 y6
                clear y0 y1 y2 y3 y4 y5 y6
                go_wp2_with fail
                refine (HL.out _).mono ?_
                rintro e t4 ⟨rfl, h4⟩
                go_wp2_with fail
                go_ret
                exact ⟨by simp, ext_trans (ext_alloc JT.out _) (ext_trans h2 (ext_trans h3 h4))⟩
    · obtain ⟨e0, e1, e2, e3⟩ := hours_letters hl
      have hok := less_allH hl
      rw [hl] at hi hs
      generalize hoursL al = rows at *
      have HI := Lib.hid hi
      have HS := Lib.hid hs
      have E0 := Lib.hid e0
      have E1 := Lib.hid e1
      have E2 := Lib.hid e2
      have E3 := Lib.hid e3
      have HOK := Lib.hid hok
      have te := decide_eq_true (rfl : rows = rows)
      have HAL := Lib.hid hal
      clear hi hs hl e0 e1 e2 e3 hok hal
      go_wp2_with fail
      refine (HI.out aA an ac _ _ R1.out (Nat.le_refl _) (by omega)).mono ?_
      rintro e a2 ⟨rA, rn, rc, hs1, rfl, h2⟩
      have R2 := Lib.hid (R1.out.below h2.ext)
      go_wp2_with fail
      refine (HS.out aA an ac _ _ R2.out h2.ext.size (by omega)).mono ?_
      rintro e a3 ⟨uA, un, uc, hs2, rfl, h3⟩
      have hrn : rn ≤ 20 := by have := h2.reads.rlen; omega
      have hun : un ≤ 20 := by have := h3.reads.rlen; omega
      have hrr : rows.length = rn := h2.reads.rlen
      have Q1 := Lib.hid (h2.reads.below h3.ext)
      have Q2 := Lib.hid h3.reads
      have J3 := Lib.hid (ext_trans J1.out (ext_trans h2.ext h3.ext))
      have R3 := Lib.hid (R2.out.below (h3.ext.mono h2.ext.size))
      have HRR := Lib.hid hrr
      clear h2 h3 R1 R2 J1 HI HS hrl hrr
      go_wp2_with fail
      refine (rTable_any rA uA rn un rc uc _ _ hs1 hs2 rows rows _ Q1.out Q2.out (by unfold maxLen; omega) (by unfold maxLen; omega)).mono ?_
      rintro e w' ⟨rfl, u, rfl⟩
      have JA := Lib.hid (ext_drewN J3.out u)
      have R4 := Lib.hid (R3.out.drewN u)
      have Q4 := Lib.hid (Q1.out.drewN u)
      clear Q1 Q2 J3 R3
      generalize a3.drewN u = a4 at *
      go_wp2_with fail
      go_loopw [8, 9] (fun s i wr => ∃ k m : Nat, i = .int .i64 (k : Int) ∧ k ≤ an ∧ s = .int .i64 (minS (al.take k)) ∧ wr = a4.drewN m) (fun _ i _ => an - (intOf i).toNat)
      case atStart => exact ⟨0, 0, rfl, by omega, rfl, rfl⟩
      case round =>
        obtain ⟨k, m, rfl, hk, rfl, rfl⟩ := hrel
        have k0 : (0 : Int) ≤ k := by omega
        obtain ⟨s0, s1⟩ := E1.out k
        have R5 := Lib.hid (R4.out.drewN m)
        have Q5 := Lib.hid (Q4.out.drewN m)
        have J5 := Lib.hid (ext_drewN JA.out m)
        by_cases hlt : k < an
        · obtain ⟨b, o, x, hAx, hx, hc0, hc1, hc2, hc3, hc4, hc5, hc6⟩ := R4.out.lesn hlt
          subst hAx
          have hxo := les_parts (HOK.out x (List.mem_of_getElem? hx))
          have HN := Lib.hid (minS_at hx)
          have m0 : 0 ≤ x.m := by omega
          have m1 : x.m ≤ 90 := by omega
          have k1 : (k : Int) < an := by omega
          clear hxo hx
          generalize minS (al.take k) = sk at *
          go_wp2_with fail
          go_roundw
          case rel => exact ⟨k + 1, m, by go_num, by omega, by rw [HN.out], rfl⟩
          case measure => simp [intOf]; omega
        · have hk' : al.take k = al := List.take_of_length_le (by have := HAL.out; omega)
          rw [hk']
          have hnk : ¬ (k : Int) < an := by omega
          rw [hk'] at s0 s1
          have E0' := E0.out
          clear JA Q4 R4 E1 HOK HAL hk' hk hlt k0
          generalize minS al = S at *
          have HE0 := Lib.hid E0'
          clear E0 E0'
          generalize a4.drewN m = a5 at *
          go_wp2_with fail
          go_loopw [8, 10] (fun s i wr => ∃ k m : Nat, i = .int .i64 (k : Int) ∧ k ≤ rn ∧ s = .int .i64 (S - rowS (rows.take k)) ∧ wr = a5.drewN m) (fun _ i _ => rn - (intOf i).toNat)
          case atStart => exact ⟨0, 0, rfl, by omega, by simp [rowS], rfl⟩
          case round =>
            obtain ⟨k, m, rfl, hk, rfl, hwm⟩ := hrel
            have k0 : (0 : Int) ≤ k := by omega
            obtain ⟨t0, t1⟩ := E2.out k
            have Q6 := Lib.hid (show ReadsN wr a2.heap.size rA rn hs1 rows by rw [hwm]; exact Q5.out.drewN m)
            have HM := Lib.hid hwm
            clear hwm
            by_cases hlt : k < rn
            · obtain ⟨b, o, ra, rm, rc', r, rfl, hr, hcell, hrr, hrm, _⟩ := Q6.out.at hlt
              obtain ⟨x, y, rfl, x0, x1, y0, y1⟩ := E3.out r (List.mem_of_getElem? hr)
              have hrm2 : rm = 2 := by have := hrr.len; simpa using this.symm
              subst hrm2
              obtain ⟨b', o', z, rfl, hz, hzc⟩ := hrr.int (show 0 < 2 by omega)
              obtain rfl : x = z := by simpa using hz
              have HN := Lib.hid (rowS_at hr)
              have hq := fun m' => rSum_any (some ⟨b', o', none⟩) 2 rc' _ [x, y] (wr.drewN m') (hrr.drewN m') (by omega) (fun j => by
                match j with
                | 0 => simp
                | 1 => simp; omega
                | j + 2 => simp; omega)
              have HQ := Lib.hid hq
              have hsum : [x, y].sum = x + y := by simp
              have k1 : (k : Int) < rn := by omega
              simp only [hsum, Nat.add_zero] at HQ hzc
              clear hr hrr hz hq
              generalize rowS (rows.take k) = tk at *
              have w1 : IntKind.i64.wrap (S - tk - (x + y)) = S - tk - (x + y) := IntWalk.i64_in _ ⟨by omega, by omega⟩
              have w2 : IntKind.i64.wrap (S - tk - (x + y) + x) = S - tk - (x + y) + x := IntWalk.i64_in _ ⟨by omega, by omega⟩
              have HEQ := Lib.hid (show S - tk - (x + y) + x = S - rowS (rows.take (k + 1)) by rw [HN.out, hsum]; simp; omega)
              go_wp2_with fail
              go_quiet ((go_at_call 56; exact quiet_r (HQ.out _)))
              go_wp2_with fail
              go_roundw
              case rel => exact ⟨k + 1, _, by go_num, by omega, by rw [HEQ.out], by rw [HM.out]; exact World.drewN_drewN _ _ _⟩
              case measure => simp [intOf]; omega
            · have hk' : rows.take k = rows := List.take_of_length_le (by have := HRR.out; omega)
              rw [hk']
              have hnk2 : ¬ (k : Int) < rn := by omega
              have JA := Lib.hid (show Below w.heap.size w wr by rw [HM.out]; exact ext_drewN J5.out m)
              clear HM Q6 t0 t1 R5 Q5 J5 E2 E3 HRR hk' hk hlt k0
              rw [HE0.out]
              go_wp2_with fail
              refine (DrawShiftLesson_any A n c w.heap.size _ (HC.out.below JA.out) JA.out.size).mono ?_
              rintro e d1 ⟨dA, dn, dc, dl, did, dd, db, rfl, dw, dh⟩
              have R1 := Lib.hid dw.reads
              have J1 := Lib.hid (ext_trans JA.out dw.ext)
              have hi := fun (A : Option Addr) (n c B : Nat) (w : World) h hB hn => iShiftLesson_any A n c B dl did dd db w h hB hn
              have hs := fun (A : Option Addr) (n c B : Nat) (w : World) h hB hn => sShiftLesson_any A n c B dl did dd db w h hB hn
              have hback := fun (hk : shiftOk dl did dd db = true) (k : Nat) (x : Lesn) (hx : dl[k]? = some x) (hid : x.i = did) => shift_back hk hx hid
              have hml := shift_len dl did dd db
              have hdl := dw.reads.lesnLen
              generalize shiftL dl did dd db = ms at *
              generalize shiftOk dl did dd db = fine at *
              have HI := Lib.hid hi
              have HS := Lib.hid hs
              have fk : (fine != fine) = false := by simp
              clear hi hs dw JA
              go_wp2_with fail
              refine (HI.out dA dn dc _ _ R1.out (Nat.le_refl _) (by omega)).mono ?_
              rintro e d2 ⟨mA, mn, mc, rfl, h2⟩
              have R2 := Lib.hid (R1.out.below h2.ext)
              go_wp2_with fail
              refine (HS.out dA dn dc _ _ R2.out h2.ext.size (by omega)).mono ?_
              rintro e d3 ⟨qA, qn, qc, rfl, h3⟩
              have hmn : ms.length = mn := h2.reads.lesnLen
              have hqn : ms.length = qn := h3.reads.lesnLen
              obtain rfl : qn = mn := by omega
              have hm13 : qn ≤ 13 := by omega
              have R3 := Lib.hid (R2.out.below (h3.ext.mono h2.ext.size))
              have M3 := Lib.hid (h2.reads.below h3.ext)
              have N3 := Lib.hid h3.reads
              have J3 := Lib.hid (ext_trans J1.out (ext_trans h2.ext h3.ext))
              have Z3 := Lib.hid (show d1.heap.size ≤ d3.heap.size from Nat.le_trans h2.ext.size h3.ext.size)
              have Z2 := Lib.hid h3.ext.size
              clear h2 h3 R1 R2 J1 HI HS hml hmn hqn hdl
              go_wp2_with fail
              refine (rLessons_same mA qA qn mc qc _ _ ms _ M3.out N3.out (by omega)).mono ?_
              rintro e w' ⟨rfl, u, rfl⟩
              have R5 := Lib.hid ((R3.out.drewN u).more Z3.out)
              have M5 := Lib.hid ((M3.out.drewN u).more Z2.out)
              have J5 := Lib.hid (ext_drewN J3.out u)
              clear R3 M3 N3 J3 Z2 Z3
              generalize hd5 : d3.drewN u = d5 at R5 M5 J5 ⊢
              rw [show d3.heap.size = d5.heap.size by rw [← hd5]; rfl] at R5 M5
              clear hd5
              cases fine
              · clear hback
                by_cases hd0 : 0 < dn
                · have hd1 : (0 : Int) < dn := by omega
                  have hd2 : decide ((0 : Int) < dn) = true := by simp; omega
                  go_wp2_with fail
                  go_loopw [19] (fun i wr => i = .int .i64 0 ∧ Below d5.heap.size d5 wr) (fun _ _ => 0)
                  case atStart => exact ⟨rfl, Below.refl _ _⟩
                  case round =>
                    obtain ⟨rfl, hb⟩ := hrel
                    have JB := Lib.hid (ext_trans J5.out hb)
                    clear hb J5
                    go_wp2_with fail
                    refine (DrawLongestGap_any A n c w.heap.size _ (HC.out.below JB.out) JB.out.size).mono ?_
                    rintro e g1 ⟨gA, gn, gc, gl, cls, rfl, gd, gh⟩
                    have gR := Lib.hid gd.reads
                    have gJ := Lib.hid (ext_trans JB.out gd.ext)
                    obtain ⟨gr, gok, hg, hg0⟩ := gapT_pos (cls := cls) (xs := gl)
                    have hi := fun (A : Option Addr) (n c B : Nat) (w : World) h hB hn => iLongestGap_any A n c B gl cls w h hB hn
                    have hs := fun (A : Option Addr) (n c B : Nat) (w : World) h hB hn => sLongestGap_any A n c B gl cls w h hB hn
                    rw [hg] at hi hs
                    have HI := Lib.hid hi
                    have HS := Lib.hid hs
                    have gk : (gok != gok) = false := by simp
                    have gk2 : (gr != gr) = false := by simp
                    have gneg : ¬ gr < 0 := by omega
                    clear hi hs gd hg
                    go_wp2_with fail
                    refine (HI.out gA gn gc _ _ gR.out (Nat.le_refl _) (by omega)).mono ?_
                    rintro e g2 ⟨rfl, h2⟩
                    have R2 := Lib.hid (gR.out.below h2)
                    go_wp2_with fail
                    refine (HS.out gA gn gc _ _ R2.out h2.size (by omega)).mono ?_
                    rintro e g3 ⟨rfl, h3⟩
                    have JZ := Lib.hid (ext_trans gJ.out (ext_trans h2 h3))
                    clear h2 h3 R2 gR gJ HI HS JB
                    go_wp2_with fail
                    refine (DrawLessonText_any A n c w.heap.size _ (HC.out.below JZ.out) JZ.out.size).mono ?_
                    rintro e t1 ⟨z0, z1, z2, z3, z4, z5, z6, rfl, th⟩
                    have JT := Lib.hid (ext_trans JZ.out th)
                    obtain ⟨st, hst⟩ := lesTextT_ok ⟨z0, z1, z2, z3, z4, z5, z6⟩
                    have hi := fun (w : World) => iLessonText_any ⟨z0, z1, z2, z3, z4, z5, z6⟩ w
                    have hs := fun (w : World) => sLessonText_any ⟨z0, z1, z2, z3, z4, z5, z6⟩ w
                    rw [hst] at hi hs
                    have hl := fun (w : World) => iIsLesson_v ⟨z0, z1, z2, z3, z4, z5, z6⟩ rfl w
                    generalize (⟨z0, z1, z2, z3, z4, z5, z6⟩ : Lesn).ok = tok at hi hs hl
                    dsimp only at hi hs hl
                    have HI := Lib.hid hi
                    have HS := Lib.hid hs
                    have HL := Lib.hid hl
                    have tk : (tok == tok) = true := by simp
                    have tk2 : (st.toList == st.toList) = true := by simp
                    clear hi hs hl hst th JZ
                    obtain ⟨x0, x1, x2, x3, x4, x5, x6⟩ := box_cellsL t1 25 ⟨z0, z1, z2, z3, z4, z5, z6⟩
                    dsimp only at x0 x1 x2 x3 x4 x5 x6
                    go_wp2_with fail
                    refine (HI.out _).mono ?_
                    rintro e t2 ⟨rfl, h2⟩
                    have y0 := below_cell h2 x0
                    have y1 := below_cell h2 x1
                    have y2 := below_cell h2 x2
                    have y3 := below_cell h2 x3
                    have y4 := below_cell h2 x4
                    have y5 := below_cell h2 x5
                    have y6 := below_cell h2 x6
                    clear x0 x1 x2 x3 x4 x5 x6
                    go_wp2_with fail
                    refine (HS.out _).mono ?_
                    rintro e t3 ⟨rfl, h3⟩
                    have x0 := below_cell h3 y0
                    have x1 := below_cell h3 y1
                    have x2 := below_cell h3 y2
                    have x3 := below_cell h3 y3
                    have x4 := below_cell h3 y4
                    have x5 := below_cell h3 y5
                    have x6 := below_cell h3 y6
                    clear y0 y1 y2 y3 y4 y5 y6
                    go_wp2_with fail
                    refine (HL.out _).mono ?_
                    rintro e t4 ⟨rfl, h4⟩
                    go_wp2_with fail
                    go_ret
                    exact ⟨by simp, ext_trans (ext_alloc JT.out _) (ext_trans h2 (ext_trans h3 h4))⟩
                · have hd1 : ¬ (0 : Int) < dn := by omega
                  have hd2 : decide ((0 : Int) < dn) = false := by simp; omega
                  go_wp2_with fail
                  go_loopw [19] (fun i wr => i = .int .i64 0 ∧ Below d5.heap.size d5 wr) (fun _ _ => 0)
                  case atStart => exact ⟨rfl, Below.refl _ _⟩
                  case round =>
                    obtain ⟨rfl, hb⟩ := hrel
                    have JB := Lib.hid (ext_trans J5.out hb)
                    clear hb J5
                    go_wp2_with fail
                    refine (DrawLongestGap_any A n c w.heap.size _ (HC.out.below JB.out) JB.out.size).mono ?_
                    rintro e g1 ⟨gA, gn, gc, gl, cls, rfl, gd, gh⟩
                    have gR := Lib.hid gd.reads
                    have gJ := Lib.hid (ext_trans JB.out gd.ext)
                    obtain ⟨gr, gok, hg, hg0⟩ := gapT_pos (cls := cls) (xs := gl)
                    have hi := fun (A : Option Addr) (n c B : Nat) (w : World) h hB hn => iLongestGap_any A n c B gl cls w h hB hn
                    have hs := fun (A : Option Addr) (n c B : Nat) (w : World) h hB hn => sLongestGap_any A n c B gl cls w h hB hn
                    rw [hg] at hi hs
                    have HI := Lib.hid hi
                    have HS := Lib.hid hs
                    have gk : (gok != gok) = false := by simp
                    have gk2 : (gr != gr) = false := by simp
                    have gneg : ¬ gr < 0 := by omega
                    clear hi hs gd hg
                    go_wp2_with fail
                    refine (HI.out gA gn gc _ _ gR.out (Nat.le_refl _) (by omega)).mono ?_
                    rintro e g2 ⟨rfl, h2⟩
                    have R2 := Lib.hid (gR.out.below h2)
                    go_wp2_with fail
                    refine (HS.out gA gn gc _ _ R2.out h2.size (by omega)).mono ?_
                    rintro e g3 ⟨rfl, h3⟩
                    have JZ := Lib.hid (ext_trans gJ.out (ext_trans h2 h3))
                    clear h2 h3 R2 gR gJ HI HS JB
                    go_wp2_with fail
                    refine (DrawLessonText_any A n c w.heap.size _ (HC.out.below JZ.out) JZ.out.size).mono ?_
                    rintro e t1 ⟨z0, z1, z2, z3, z4, z5, z6, rfl, th⟩
                    have JT := Lib.hid (ext_trans JZ.out th)
                    obtain ⟨st, hst⟩ := lesTextT_ok ⟨z0, z1, z2, z3, z4, z5, z6⟩
                    have hi := fun (w : World) => iLessonText_any ⟨z0, z1, z2, z3, z4, z5, z6⟩ w
                    have hs := fun (w : World) => sLessonText_any ⟨z0, z1, z2, z3, z4, z5, z6⟩ w
                    rw [hst] at hi hs
                    have hl := fun (w : World) => iIsLesson_v ⟨z0, z1, z2, z3, z4, z5, z6⟩ rfl w
                    generalize (⟨z0, z1, z2, z3, z4, z5, z6⟩ : Lesn).ok = tok at hi hs hl
                    dsimp only at hi hs hl
                    have HI := Lib.hid hi
                    have HS := Lib.hid hs
                    have HL := Lib.hid hl
                    have tk : (tok == tok) = true := by simp
                    have tk2 : (st.toList == st.toList) = true := by simp
                    clear hi hs hl hst th JZ
                    obtain ⟨x0, x1, x2, x3, x4, x5, x6⟩ := box_cellsL t1 25 ⟨z0, z1, z2, z3, z4, z5, z6⟩
                    dsimp only at x0 x1 x2 x3 x4 x5 x6
                    go_wp2_with fail
                    refine (HI.out _).mono ?_
                    rintro e t2 ⟨rfl, h2⟩
                    have y0 := below_cell h2 x0
                    have y1 := below_cell h2 x1
                    have y2 := below_cell h2 x2
                    have y3 := below_cell h2 x3
                    have y4 := below_cell h2 x4
                    have y5 := below_cell h2 x5
                    have y6 := below_cell h2 x6
                    clear x0 x1 x2 x3 x4 x5 x6
                    go_wp2_with fail
                    refine (HS.out _).mono ?_
                    rintro e t3 ⟨rfl, h3⟩
                    have x0 := below_cell h3 y0
                    have x1 := below_cell h3 y1
                    have x2 := below_cell h3 y2
                    have x3 := below_cell h3 y3
                    have x4 := below_cell h3 y4
                    have x5 := below_cell h3 y5
                    have x6 := below_cell h3 y6
                    clear y0 y1 y2 y3 y4 y5 y6
                    go_wp2_with fail
                    refine (HL.out _).mono ?_
                    rintro e t4 ⟨rfl, h4⟩
                    go_wp2_with fail
                    go_ret
                    exact ⟨by simp, ext_trans (ext_alloc JT.out _) (ext_trans h2 (ext_trans h3 h4))⟩
              · have HBACK := Lib.hid (hback rfl)
                clear hback
                go_wp2_with fail
                go_loopw [19] (fun i wr => ∃ k : Nat, i = .int .i64 (k : Int) ∧ k ≤ dn ∧ Below d5.heap.size d5 wr) (fun i _ => dn - (intOf i).toNat)
                case atStart => exact ⟨0, rfl, by omega, Below.refl _ _⟩
                case round =>
                  obtain ⟨wq, rfl⟩ : ∃ wq : World, wq = wr := ⟨_, rfl⟩
                  obtain ⟨k, rfl, hk, hb⟩ := hrel
                  have HBQ := Lib.hid hb
                  have RQ := Lib.hid (R5.out.below hb)
                  have MQ := Lib.hid (M5.out.below hb)
                  clear hb
                  have k0 : (0 : Int) ≤ k := by omega
                  by_cases hlt : k < dn
                  · obtain ⟨b, o, x, hAx, hx, hc0, hc1, hc2, hc3, hc4, hc5, hc6⟩ := RQ.out.lesn hlt
                    subst hAx
                    have k1 : (k : Int) < dn := by omega
                    by_cases hid : x.i = did
                    · have hib : (x.i == did) = true := by simp [hid]
                      obtain ⟨sok, hsok⟩ : ∃ v, shiftOk ms did x.d x.b = v := ⟨_, rfl⟩
                      have HBK := Lib.hid (HBACK.out k x hx hid)
                      have hkq := fun (wz : World) (hz : Below wq.heap.size wq wz) => iShiftLesson_any mA qn mc d5.heap.size ms did x.d x.b wz (MQ.out.below (hz.mono HBQ.out.size)) (Nat.le_trans HBQ.out.size hz.size) (by omega)
                      rw [hsok] at hkq
                      have HKQ := Lib.hid hkq
                      have hself : Below wq.heap.size wq wq.drew := ext_drew (Below.refl _ _)
                      clear hid hx hkq
                      go_wp2_with fail
                      refine wp_region_held_drew (S := (fun w' => w'.cell? ⟨b, o + k * 7 + 4, none⟩ = some (.int .i64 x.d) ∧ w'.cell? ⟨b, o + k * 7 + 5, none⟩ = some (.int .i64 x.b) ∧ Below wq.heap.size wq w')) (by kernel_rfl) ?_ (fun hHeld => ?_)
                      · (try dsimp only); (first | (go_keep; done) | ((try go_split_ands); (repeat' apply And.intro); all_goals first | exact ext_drew (Below.refl _ _) | exact below_cell (by assumption) (by assumption) | (refine ext_trans ?_ (by assumption); assumption) | assumption))
                      refine wpAnyH_takeD (i := 0) (v := ?_) 143 rfl rfl (by kernel_rfl) (by kernel_rfl) (by kernel_rfl) (fun _ _ _ _ _ h => h) (by rfl) (by assumption) ?_ ?_
                      rotate_left; focus (intro w hSw; (try dsimp only at hSw); go_simp; try (with_reducible rfl))
                      try simp only [Act.put, List.setIfInBounds_toArray, List.set_cons_zero, List.set_cons_succ]
                      refine wpAnyH_takeD (i := 1) (v := ?_) 144 rfl rfl (by kernel_rfl) (by kernel_rfl) (by kernel_rfl) (fun _ _ _ _ _ h => h) (by rfl) (by assumption) ?_ ?_
                      rotate_left; focus (intro w hSw; (try dsimp only at hSw); go_simp; try (with_reducible rfl))
                      try simp only [Act.put, List.setIfInBounds_toArray, List.set_cons_zero, List.set_cons_succ]
                      refine wpAnyH_takeD (i := 2) (v := ?_) 145 rfl rfl (by kernel_rfl) (by kernel_rfl) (by kernel_rfl) (fun _ _ _ _ _ h => h) (by rfl) (by assumption) ?_ ?_
                      rotate_left; focus (intro w hSw; (try dsimp only at hSw); go_simp; try (with_reducible rfl))
                      try simp only [Act.put, List.setIfInBounds_toArray, List.set_cons_zero, List.set_cons_succ]
                      refine wpAnyH_takeD (i := 3) (v := ?_) 146 rfl rfl (by kernel_rfl) (by kernel_rfl) (by kernel_rfl) (fun _ _ _ _ _ h => h) (by rfl) (by assumption) ?_ ?_
                      rotate_left; focus (intro w hSw; (try dsimp only at hSw); go_simp; try (with_reducible rfl))
                      try simp only [Act.put, List.setIfInBounds_toArray, List.set_cons_zero, List.set_cons_succ]
                      refine wpAnyH_takeD (i := 4) (v := ?_) 147 rfl rfl (by kernel_rfl) (by kernel_rfl) (by kernel_rfl) (fun _ _ _ _ _ h => h) (by rfl) (by assumption) ?_ ?_
                      rotate_left; focus (intro w hSw; (try dsimp only at hSw); go_simp; try (with_reducible rfl))
                      try simp only [Act.put, List.setIfInBounds_toArray, List.set_cons_zero, List.set_cons_succ]
                      refine wpAnyH_takeD (i := 5) (v := ?_) 148 rfl rfl (by kernel_rfl) (by kernel_rfl) (by kernel_rfl) (fun _ _ _ _ _ h => h) (by rfl) (by assumption) ?_ ?_
                      rotate_left; focus (intro w hSw; (try dsimp only at hSw); go_simp; try (with_reducible rfl))
                      try simp only [Act.put, List.setIfInBounds_toArray, List.set_cons_zero, List.set_cons_succ]
                      refine wpAnyH_takeD (i := 6) (v := ?_) 149 rfl rfl (by kernel_rfl) (by kernel_rfl) (by kernel_rfl) (fun _ _ _ _ _ h => h) (by rfl) (by assumption) ?_ ?_
                      rotate_left; focus (intro w hSw; (try dsimp only at hSw); go_simp; try (with_reducible rfl))
                      try simp only [Act.put, List.setIfInBounds_toArray, List.set_cons_zero, List.set_cons_succ]
                      refine wpAnyH_takeD (i := 7) (v := ?_) 150 rfl rfl (by kernel_rfl) (by kernel_rfl) (by kernel_rfl) (fun _ _ _ _ _ h => h) (by rfl) (by assumption) ?_ ?_
                      rotate_left; focus (intro w hSw; (try dsimp only at hSw); go_simp; try (with_reducible rfl))
                      try simp only [Act.put, List.setIfInBounds_toArray, List.set_cons_zero, List.set_cons_succ]
                      refine wpAnyH_takeD (i := 8) (v := ?_) 151 rfl rfl (by kernel_rfl) (by kernel_rfl) (by kernel_rfl) (fun _ _ _ _ _ h => h) (by rfl) (by assumption) ?_ ?_
                      rotate_left; focus (intro w hSw; (try dsimp only at hSw); go_simp; try (with_reducible rfl))
                      try simp only [Act.put, List.setIfInBounds_toArray, List.set_cons_zero, List.set_cons_succ]
                      refine wpAnyH_takeD (i := 9) (v := ?_) 152 rfl rfl (by kernel_rfl) (by kernel_rfl) (by kernel_rfl) (fun _ _ _ _ _ h => h) (by rfl) (by assumption) ?_ ?_
                      rotate_left; focus (intro w hSw; (try dsimp only at hSw); go_simp; try (with_reducible rfl))
                      try simp only [Act.put, List.setIfInBounds_toArray, List.set_cons_zero, List.set_cons_succ]
                      refine wpAnyH_takeD (i := 10) (v := ?_) 153 rfl rfl (by kernel_rfl) (by kernel_rfl) (by kernel_rfl) (fun _ _ _ _ _ h => h) (by rfl) (by assumption) ?_ ?_
                      rotate_left; focus (intro w hSw; (try dsimp only at hSw); go_simp; try (with_reducible rfl))
                      try simp only [Act.put, List.setIfInBounds_toArray, List.set_cons_zero, List.set_cons_succ]
                      refine wpAnyH_takeD (i := 11) (v := ?_) 154 rfl rfl (by kernel_rfl) (by kernel_rfl) (by kernel_rfl) (fun _ _ _ _ _ h => h) (by rfl) (by assumption) ?_ ?_
                      rotate_left; focus (intro w hSw; (try dsimp only at hSw); go_simp; try (with_reducible rfl))
                      try simp only [Act.put, List.setIfInBounds_toArray, List.set_cons_zero, List.set_cons_succ]
                      refine wpAnyH_ready (rs := [12]) (by kernel_rfl) (by simp) ?_
                      refine AllReadyH.cons rfl (fun K hK => ?_) AllReadyH.nil
                      go_simp; (go_at_call 45; refine (HKQ.out _ hHeld.2.2).mono ?_; rintro e w' ⟨bA, bn, bc, rfl, hb'⟩; have hbe := hb'.ext); (try dsimp only)
                      refine hK.out _ _ ?_ (fun hHeld => ?_)
                      focus ((try dsimp only); (first | (go_keep; done) | ((try go_split_ands); (repeat' apply And.intro); all_goals first | exact ext_drew (Below.refl _ _) | exact below_cell (by assumption) (by assumption) | (refine ext_trans ?_ (by assumption); assumption) | assumption)))
                      clear hK K; try simp only [Act.put, List.setIfInBounds_toArray, List.set_cons_zero, List.set_cons_succ]
                      refine wpAnyH_takeD (i := 13) (v := ?_) 142 rfl rfl (by kernel_rfl) (by kernel_rfl) (by kernel_rfl) (fun _ _ _ _ _ h => h) (by rfl) (by assumption) ?_ ?_
                      rotate_left; focus (intro w hSw; (try dsimp only at hSw); go_simp; try (with_reducible rfl))
                      try simp only [Act.put, List.setIfInBounds_toArray, List.set_cons_zero, List.set_cons_succ]
                      refine wpAnyH_takeD (i := 14) (v := ?_) 156 rfl rfl (by kernel_rfl) (by kernel_rfl) (by kernel_rfl) (fun _ _ _ _ _ h => h) (by rfl) (by assumption) ?_ ?_
                      rotate_left; focus (intro w hSw; (try dsimp only at hSw); go_simp; try (with_reducible rfl))
                      try simp only [Act.put, List.setIfInBounds_toArray, List.set_cons_zero, List.set_cons_succ]
                      refine wpAnyH_takeD (i := 15) (v := ?_) 157 rfl rfl (by kernel_rfl) (by kernel_rfl) (by kernel_rfl) (fun _ _ _ _ _ h => h) (by rfl) (by assumption) ?_ ?_
                      rotate_left; focus (intro w hSw; (try dsimp only at hSw); go_simp; try (with_reducible rfl))
                      try simp only [Act.put, List.setIfInBounds_toArray, List.set_cons_zero, List.set_cons_succ]
                      refine wpAnyH_takeD (i := 16) (v := ?_) 20 rfl rfl (by kernel_rfl) (by kernel_rfl) (by kernel_rfl) (fun _ _ _ _ _ h => h) (by rfl) (by assumption) ?_ ?_
                      rotate_left; focus (intro w hSw; (try dsimp only at hSw); go_simp; try (with_reducible rfl))
                      try simp only [Act.put, List.setIfInBounds_toArray, List.set_cons_zero, List.set_cons_succ]
                      refine wpAnyH_takeD (i := 17) (v := ?_) 21 rfl rfl (by kernel_rfl) (by kernel_rfl) (by kernel_rfl) (fun _ _ _ _ _ h => h) (by rfl) (by assumption) ?_ ?_
                      rotate_left; focus (intro w hSw; (try dsimp only at hSw); go_simp; try (with_reducible rfl))
                      try simp only [Act.put, List.setIfInBounds_toArray, List.set_cons_zero, List.set_cons_succ]
                      refine wpAnyH_done (by kernel_rfl) ?_ _

                      clear hself
                      cases sok
                      · have HNX := Lib.hid hHeld.2.2
                        clear hHeld hb'
                        go_wp2_with fail
                        go_roundw
                        case rel => exact ⟨k + 1, by go_num, by omega, ext_trans HBQ.out HNX.out⟩
                        case measure => simp [intOf]; omega
                      · have he := HBK.out hsok
                        rw [he] at hb'
                        have HBS := Lib.hid hb'.reads
                        have HNX := Lib.hid hHeld.2.2
                        have hbn : bn = dn := by have h1 := hb'.reads.lesnLen; have h2 := RQ.out.lesnLen; omega
                        subst hbn
                        have RZ := Lib.hid (RQ.out.below (HNX.out.mono HBQ.out.size))
                        clear hHeld hb' he
                        go_wp2_with fail
                        refine (rLessons_same _ _ bn _ _ _ _ dl _ HBS.out RZ.out (by omega)).mono ?_
                        rintro e w5 ⟨rfl, u, rfl⟩
                        go_wp2_with fail
                        go_roundw
                        case rel => exact ⟨k + 1, by go_num, by omega, ext_drewN (ext_trans HBQ.out HNX.out) u⟩
                        case measure => simp [intOf]; omega
                    · have hib : (x.i == did) = false := by simp [hid]
                      clear hid hx
                      go_wp2_with fail
                      go_roundw
                      case rel => exact ⟨k + 1, by go_num, by omega, HBQ.out⟩
                      case measure => simp [intOf]; omega
                  · have JB := Lib.hid (ext_trans J5.out HBQ.out)
                    have hnk : ¬ (k : Int) < dn := by omega
                    clear RQ MQ R5 M5 HBACK J5 HBQ
                    go_wp2_with fail
                    refine (DrawLongestGap_any A n c w.heap.size _ (HC.out.below JB.out) JB.out.size).mono ?_
                    rintro e g1 ⟨gA, gn, gc, gl, cls, rfl, gd, gh⟩
                    have gR := Lib.hid gd.reads
                    have gJ := Lib.hid (ext_trans JB.out gd.ext)
                    obtain ⟨gr, gok, hg, hg0⟩ := gapT_pos (cls := cls) (xs := gl)
                    have hi := fun (A : Option Addr) (n c B : Nat) (w : World) h hB hn => iLongestGap_any A n c B gl cls w h hB hn
                    have hs := fun (A : Option Addr) (n c B : Nat) (w : World) h hB hn => sLongestGap_any A n c B gl cls w h hB hn
                    rw [hg] at hi hs
                    have HI := Lib.hid hi
                    have HS := Lib.hid hs
                    have gk : (gok != gok) = false := by simp
                    have gk2 : (gr != gr) = false := by simp
                    have gneg : ¬ gr < 0 := by omega
                    clear hi hs gd hg
                    go_wp2_with fail
                    refine (HI.out gA gn gc _ _ gR.out (Nat.le_refl _) (by omega)).mono ?_
                    rintro e g2 ⟨rfl, h2⟩
                    have R2 := Lib.hid (gR.out.below h2)
                    go_wp2_with fail
                    refine (HS.out gA gn gc _ _ R2.out h2.size (by omega)).mono ?_
                    rintro e g3 ⟨rfl, h3⟩
                    have JZ := Lib.hid (ext_trans gJ.out (ext_trans h2 h3))
                    clear h2 h3 R2 gR gJ HI HS JB
                    go_wp2_with fail
                    refine (DrawLessonText_any A n c w.heap.size _ (HC.out.below JZ.out) JZ.out.size).mono ?_
                    rintro e t1 ⟨z0, z1, z2, z3, z4, z5, z6, rfl, th⟩
                    have JT := Lib.hid (ext_trans JZ.out th)
                    obtain ⟨st, hst⟩ := lesTextT_ok ⟨z0, z1, z2, z3, z4, z5, z6⟩
                    have hi := fun (w : World) => iLessonText_any ⟨z0, z1, z2, z3, z4, z5, z6⟩ w
                    have hs := fun (w : World) => sLessonText_any ⟨z0, z1, z2, z3, z4, z5, z6⟩ w
                    rw [hst] at hi hs
                    have hl := fun (w : World) => iIsLesson_v ⟨z0, z1, z2, z3, z4, z5, z6⟩ rfl w
                    generalize (⟨z0, z1, z2, z3, z4, z5, z6⟩ : Lesn).ok = tok at hi hs hl
                    dsimp only at hi hs hl
                    have HI := Lib.hid hi
                    have HS := Lib.hid hs
                    have HL := Lib.hid hl
                    have tk : (tok == tok) = true := by simp
                    have tk2 : (st.toList == st.toList) = true := by simp
                    clear hi hs hl hst th JZ
                    obtain ⟨x0, x1, x2, x3, x4, x5, x6⟩ := box_cellsL t1 25 ⟨z0, z1, z2, z3, z4, z5, z6⟩
                    dsimp only at x0 x1 x2 x3 x4 x5 x6
                    go_wp2_with fail
                    refine (HI.out _).mono ?_
                    rintro e t2 ⟨rfl, h2⟩
                    have y0 := below_cell h2 x0
                    have y1 := below_cell h2 x1
                    have y2 := below_cell h2 x2
                    have y3 := below_cell h2 x3
                    have y4 := below_cell h2 x4
                    have y5 := below_cell h2 x5
                    have y6 := below_cell h2 x6
                    clear x0 x1 x2 x3 x4 x5 x6
                    go_wp2_with fail
                    refine (HS.out _).mono ?_
                    rintro e t3 ⟨rfl, h3⟩
                    have x0 := below_cell h3 y0
                    have x1 := below_cell h3 y1
                    have x2 := below_cell h3 y2
                    have x3 := below_cell h3 y3
                    have x4 := below_cell h3 y4
                    have x5 := below_cell h3 y5
                    have x6 := below_cell h3 y6
                    clear y0 y1 y2 y3 y4 y5 y6
                    go_wp2_with fail
                    refine (HL.out _).mono ?_
                    rintro e t4 ⟨rfl, h4⟩
                    go_wp2_with fail
                    go_ret
                    exact ⟨by simp, ext_trans (ext_alloc JT.out _) (ext_trans h2 (ext_trans h3 h4))⟩
end Go.Proofs.Ytnndhgeddfghcaa
