/- The text of a fee. No condition. -/
import Derived.Test.YtbjmpllnkkfgfaaNum
import Derived.Test.YtbjmpllnkkfgfaaFee
import Derived.Test.YtbjmpllnkkfgfaaAccs2
import Derived.Test.YtbjmpllnkkfgfaaHeld
namespace Go.Proofs.Ytbjmpllnkkfgfaa
open Go.RowKit

def feeHead (p m f : ByteArray) : ByteArray := (⟨#[112, 117, 112, 105, 108, 32]⟩ : ByteArray) ++ p ++ (⟨#[44, 32, 109, 111, 110, 116, 104, 32]⟩ : ByteArray) ++ m ++ (⟨#[58, 32]⟩ : ByteArray) ++ f
def feeStr (p m f d : Int) : ByteArray :=
  if f < d then feeHead (numB p) (numB m) (numB f) ++ (⟨#[32, 40]⟩ : ByteArray) ++ numB (d - f) ++ (⟨#[32, 109, 111, 114, 101, 41]⟩ : ByteArray)
  else if d < f then feeHead (numB p) (numB m) (numB f) ++ (⟨#[32, 40]⟩ : ByteArray) ++ numB (f - d) ++ (⟨#[32, 108, 101, 115, 115, 41]⟩ : ByteArray)
  else feeHead (numB p) (numB m) (numB f)
def feeTextT (x : Acct) (price : Int) : Value := if x.ok' = true ∧ inB price 1 500 = true then .tuple #[.string (feeStr x.p x.m (feeV x.l x.s price) x.d), .bool true] else .tuple #[.string ⟨#[]⟩, .bool false]
theorem feeTextT_form (x : Acct) (price : Int) : ∃ s ok, feeTextT x price = .tuple #[.string s, .bool ok] := by
  unfold feeTextT; split <;> exact ⟨_, _, rfl⟩
theorem text_v (n : Int) {s : ByteArray} (hs : numB n = s) (h0 : 0 ≤ n) (h1 : n ≤ 9999999999) (w : World) :
    Calls Try.prog 73 #[.int .i64 n] w fun e w' => e = .returned (.string s) ∧ Below w.heap.size w w' := hs ▸ text_any n w h0 h1
theorem l1Num_v (n : Int) {s : ByteArray} (hs : numB n = s) (h0 : 0 ≤ n) (h1 : n ≤ 9999999999) (w : World) :
    Calls Try.prog 72 #[.int .i64 n] w fun e w' => e = .returned (.string s) ∧ Below w.heap.size w w' :=
  (l1Num_any n.toNat n w (Nat.le_refl _) h0 h1).mono fun _ _ ⟨he, m, hm⟩ => ⟨hs ▸ he, hm ▸ ext_drewN (Below.refl _ _) m⟩
set_option maxHeartbeats 4000000 in
theorem iFeeText_any (x : Acct) (price : Int) (w : World) :
    Calls Try.prog 26 #[.agg #[.int .i64 x.p, .int .i64 x.m, .int .i64 x.l, .int .i64 x.s, .int .i64 x.d], .int .i64 price] w fun e w' => e = .returned (feeTextT x price) ∧ Below w.heap.size w w' := by
  by_cases hh : x.ok' = true ∧ inB price 1 500 = true
  · obtain ⟨ha, hp⟩ := hh
    rw [show feeTextT x price = .tuple #[.string (feeStr x.p x.m (feeV x.l x.s price) x.d), .bool true] from if_pos ⟨ha, hp⟩]
    obtain ⟨p0, p1, m0, m1, l0, l1, s0, s1, d0, d1⟩ := acc_parts ha
    obtain ⟨q0, q1⟩ := inB_true hp
    obtain ⟨f0, f1⟩ := fee_bd l0 l1 s0 q0 q1
    have hF := feeOf_any x price ha hp
    have ha' : accB x.p x.m x.l x.s x.d = true := ha
    clear ha
    generalize feeV x.l x.s price = f at hF f0 f1 ⊢
    have HA := Lib.hid ha'
    clear ha'
    go_enter Try.func26, Try.ntmps26
    go_wp2_with fail
    refine (iIsAccount_any _ _ _ _ _ _).mono ?_
    rintro e w1 ⟨rfl, hb1⟩
    rw [HA.out]
    have hbx := box_cells w 25 x
    have hcx := (bcell hb1).1
    have k0 := hcx w.heap.size 0 (by simp)
    have k1 := hcx w.heap.size 1 (by simp)
    have k2 := hcx w.heap.size 2 (by simp)
    have k3 := hcx w.heap.size 3 (by simp)
    have k4 := hcx w.heap.size 4 (by simp)
    rw [hbx.1] at k0
    rw [hbx.2.1] at k1
    rw [hbx.2.2.1] at k2
    rw [hbx.2.2.2.1] at k3
    rw [hbx.2.2.2.2] at k4
    have HB1 := Lib.hid (ext_trans (ext_alloc (Below.refl w.heap.size w) _) hb1)
    clear hbx hcx hb1
    go_wp2_with (go_at_call 67; refine (isPrice_v _ hp _).mono ?_; rintro e w' ⟨rfl, rfl⟩)
    refine (hF _).mono ?_
    rintro e w2 ⟨rfl, hb2⟩
    have g0 := below_cell hb2 k0
    have g1 := below_cell hb2 k1
    have g4 := below_cell hb2 k4
    have HB2 := Lib.hid (ext_trans HB1.out hb2)
    clear k0 k1 k2 k3 k4 hb2 hF hp
    go_wp2
    obtain ⟨sp, hsp⟩ : ∃ s, numB x.p = s := ⟨_, rfl⟩
    obtain ⟨sm, hsm⟩ : ∃ s, numB x.m = s := ⟨_, rfl⟩
    obtain ⟨sf, hsf⟩ : ∃ s, numB f = s := ⟨_, rfl⟩
    have zp : sp.size ≤ 10 := hsp ▸ numB_size (by omega)
    have zm : sm.size ≤ 10 := hsm ▸ numB_size (by omega)
    have zf : sf.size ≤ 10 := hsf ▸ numB_size (by omega)
    have HP := Lib.hid hsp
    have HM := Lib.hid hsm
    have HF := Lib.hid hsf
    clear hsp hsm hsf
    have hself : Below w2.heap.size w2 w2.drew := ext_drew (Below.refl _ _)
    refine wp_region_held_drew (S := (fun w' => w'.cell? ⟨w.heap.size, 0, none⟩ = some (.int .i64 x.p) ∧ w'.cell? ⟨w.heap.size, 1, none⟩ = some (.int .i64 x.m) ∧ w'.cell? ⟨w.heap.size, 4, none⟩ = some (.int .i64 x.d) ∧ Below w2.heap.size w2 w')) (by kernel_rfl) ?_ (fun hHeld => ?_)
    · (try dsimp only); (first | (go_keep; done) | ((try go_split_ands); (repeat' apply And.intro); all_goals first | exact ext_drew (Below.refl _ _) | exact below_cell (by assumption) (by assumption) | (refine ext_trans ?_ (by assumption); assumption) | assumption))
    refine wpAnyH_takeD (i := 0) (v := ?_) 19 rfl rfl (by kernel_rfl) (by kernel_rfl) (by kernel_rfl) (fun _ _ _ _ _ h => h) (by rfl) (by assumption) ?_ ?_
    rotate_left; focus (intro w hSw; (try dsimp only at hSw); go_simp; first | done | (with_reducible rfl) | (rw [if_neg (by omega)]; done) | (rw [if_neg (by omega)]; with_reducible rfl))
    try simp only [Act.put, List.setIfInBounds_toArray, List.set_cons_zero, List.set_cons_succ]
    refine wpAnyH_takeD (i := 1) (v := ?_) 20 rfl rfl (by kernel_rfl) (by kernel_rfl) (by kernel_rfl) (fun _ _ _ _ _ h => h) (by rfl) (by assumption) ?_ ?_
    rotate_left; focus (intro w hSw; (try dsimp only at hSw); go_simp; first | done | (with_reducible rfl) | (rw [if_neg (by omega)]; done) | (rw [if_neg (by omega)]; with_reducible rfl))
    try simp only [Act.put, List.setIfInBounds_toArray, List.set_cons_zero, List.set_cons_succ]
    refine wpAnyH_takeD (i := 5) (v := ?_) 24 rfl rfl (by kernel_rfl) (by kernel_rfl) (by kernel_rfl) (fun _ _ _ _ _ h => h) (by rfl) (by assumption) ?_ ?_
    rotate_left; focus (intro w hSw; (try dsimp only at hSw); go_simp; first | done | (with_reducible rfl) | (rw [if_neg (by omega)]; done) | (rw [if_neg (by omega)]; with_reducible rfl))
    try simp only [Act.put, List.setIfInBounds_toArray, List.set_cons_zero, List.set_cons_succ]
    refine wpAnyH_takeD (i := 6) (v := ?_) 25 rfl rfl (by kernel_rfl) (by kernel_rfl) (by kernel_rfl) (fun _ _ _ _ _ h => h) (by rfl) (by assumption) ?_ ?_
    rotate_left; focus (intro w hSw; (try dsimp only at hSw); go_simp; first | done | (with_reducible rfl) | (rw [if_neg (by omega)]; done) | (rw [if_neg (by omega)]; with_reducible rfl))
    try simp only [Act.put, List.setIfInBounds_toArray, List.set_cons_zero, List.set_cons_succ]
    refine wpAnyH_takeD (i := 10) (v := ?_) 29 rfl rfl (by kernel_rfl) (by kernel_rfl) (by kernel_rfl) (fun _ _ _ _ _ h => h) (by rfl) (by assumption) ?_ ?_
    rotate_left; focus (intro w hSw; (try dsimp only at hSw); go_simp; first | done | (with_reducible rfl) | (rw [if_neg (by omega)]; done) | (rw [if_neg (by omega)]; with_reducible rfl))
    try simp only [Act.put, List.setIfInBounds_toArray, List.set_cons_zero, List.set_cons_succ]
    refine wpAnyH_ready (rs := [2]) (by kernel_rfl) (by simp) ?_
    refine AllReadyH.cons rfl (fun K hK => ?_) AllReadyH.nil
    go_simp; (go_at_call 73; refine (text_v _ HP.out (by omega) (by omega) _).mono ?_; rintro e w' ⟨rfl, hb'⟩); (try dsimp only)
    refine hK.out _ _ ?_ (fun hHeld => ?_)
    focus ((try dsimp only); (first | (go_keep; done) | ((try go_split_ands); (repeat' apply And.intro); all_goals first | exact ext_drew (Below.refl _ _) | exact below_cell (by assumption) (by assumption) | (refine ext_trans ?_ (by assumption); assumption) | assumption)))
    clear hK K; try simp only [Act.put, List.setIfInBounds_toArray, List.set_cons_zero, List.set_cons_succ]
    refine wpAnyH_takeD (i := 3) (v := ?_) 22 rfl rfl (by kernel_rfl) (by kernel_rfl) (by kernel_rfl) (fun _ _ _ _ _ h => h) (by rfl) (by assumption) ?_ ?_
    rotate_left; focus (intro w hSw; (try dsimp only at hSw); go_simp; first | done | (with_reducible rfl) | (rw [if_neg (by omega)]; done) | (rw [if_neg (by omega)]; with_reducible rfl))
    try simp only [Act.put, List.setIfInBounds_toArray, List.set_cons_zero, List.set_cons_succ]
    refine wpAnyH_takeD (i := 4) (v := ?_) 23 rfl rfl (by kernel_rfl) (by kernel_rfl) (by kernel_rfl) (fun _ _ _ _ _ h => h) (by rfl) (by assumption) ?_ ?_
    rotate_left; focus (intro w hSw; (try dsimp only at hSw); go_simp; first | done | (with_reducible rfl) | (rw [if_neg (by omega)]; done) | (rw [if_neg (by omega)]; with_reducible rfl))
    try simp only [Act.put, List.setIfInBounds_toArray, List.set_cons_zero, List.set_cons_succ]
    refine wpAnyH_ready (rs := [7]) (by kernel_rfl) (by simp) ?_
    refine AllReadyH.cons rfl (fun K hK => ?_) AllReadyH.nil
    go_simp; (go_at_call 73; refine (text_v _ HM.out (by omega) (by omega) _).mono ?_; rintro e w' ⟨rfl, hb'⟩); (try dsimp only)
    refine hK.out _ _ ?_ (fun hHeld => ?_)
    focus ((try dsimp only); (first | (go_keep; done) | ((try go_split_ands); (repeat' apply And.intro); all_goals first | exact ext_drew (Below.refl _ _) | exact below_cell (by assumption) (by assumption) | (refine ext_trans ?_ (by assumption); assumption) | assumption)))
    clear hK K; try simp only [Act.put, List.setIfInBounds_toArray, List.set_cons_zero, List.set_cons_succ]
    refine wpAnyH_takeD (i := 8) (v := ?_) 27 rfl rfl (by kernel_rfl) (by kernel_rfl) (by kernel_rfl) (fun _ _ _ _ _ h => h) (by rfl) (by assumption) ?_ ?_
    rotate_left; focus (intro w hSw; (try dsimp only at hSw); go_simp; first | done | (with_reducible rfl) | (rw [if_neg (by omega)]; done) | (rw [if_neg (by omega)]; with_reducible rfl))
    try simp only [Act.put, List.setIfInBounds_toArray, List.set_cons_zero, List.set_cons_succ]
    refine wpAnyH_takeD (i := 9) (v := ?_) 28 rfl rfl (by kernel_rfl) (by kernel_rfl) (by kernel_rfl) (fun _ _ _ _ _ h => h) (by rfl) (by assumption) ?_ ?_
    rotate_left; focus (intro w hSw; (try dsimp only at hSw); go_simp; first | done | (with_reducible rfl) | (rw [if_neg (by omega)]; done) | (rw [if_neg (by omega)]; with_reducible rfl))
    try simp only [Act.put, List.setIfInBounds_toArray, List.set_cons_zero, List.set_cons_succ]
    refine wpAnyH_ready (rs := [11]) (by kernel_rfl) (by simp) ?_
    refine AllReadyH.cons rfl (fun K hK => ?_) AllReadyH.nil
    go_simp; (go_at_call 73; refine (text_v _ HF.out (by omega) (by omega) _).mono ?_; rintro e w' ⟨rfl, hb'⟩); (try dsimp only)
    refine hK.out _ _ ?_ (fun hHeld => ?_)
    focus ((try dsimp only); (first | (go_keep; done) | ((try go_split_ands); (repeat' apply And.intro); all_goals first | exact ext_drew (Below.refl _ _) | exact below_cell (by assumption) (by assumption) | (refine ext_trans ?_ (by assumption); assumption) | assumption)))
    clear hK K; try simp only [Act.put, List.setIfInBounds_toArray, List.set_cons_zero, List.set_cons_succ]
    refine wpAnyH_takeD (i := 12) (v := ?_) 31 rfl rfl (by kernel_rfl) (by kernel_rfl) (by kernel_rfl) (fun _ _ _ _ _ h => h) (by rfl) (by assumption) ?_ ?_
    rotate_left; focus (intro w hSw; (try dsimp only at hSw); go_simp; first | done | (with_reducible rfl) | (rw [if_neg (by omega)]; done) | (rw [if_neg (by omega)]; with_reducible rfl))
    try simp only [Act.put, List.setIfInBounds_toArray, List.set_cons_zero, List.set_cons_succ]
    refine wpAnyH_takeD (i := 13) (v := ?_) 7 rfl rfl (by kernel_rfl) (by kernel_rfl) (by kernel_rfl) (fun _ _ _ _ _ h => h) (by rfl) (by assumption) ?_ ?_
    rotate_left; focus (intro w hSw; (try dsimp only at hSw); go_simp; first | done | (with_reducible rfl) | (rw [if_neg (by omega)]; done) | (rw [if_neg (by omega)]; with_reducible rfl))
    try simp only [Act.put, List.setIfInBounds_toArray, List.set_cons_zero, List.set_cons_succ]
    refine wpAnyH_done (by kernel_rfl) ?_ _
    obtain ⟨r0, r1, r4, rb⟩ := hHeld
    have HB3 := Lib.hid (ext_trans HB2.out rb)
    clear hself r0 r1 rb
    clear hb'
    rcases (show f < x.d ∨ x.d < f ∨ f = x.d by omega) with hlt | hlt | heq
    · obtain ⟨sd, hsd⟩ : ∃ s, numB (x.d - f) = s := ⟨_, rfl⟩
      have zd : sd.size ≤ 10 := hsd ▸ numB_size (by omega)
      have HD := Lib.hid hsd
      clear hsd
      have HE : feeStr x.p x.m f x.d = feeHead sp sm sf ++ (⟨#[32, 40]⟩ : ByteArray) ++ sd ++ (⟨#[32, 109, 111, 114, 101, 41]⟩ : ByteArray) := by
        unfold feeStr; rw [if_pos hlt, HP.out, HM.out, HF.out, HD.out]
      have HE' := Lib.hid HE
      clear HE
      unfold feeHead at HE'
      go_wp2_with (go_at_call 73; refine (text_v _ HD.out (by omega) (by omega) _).mono ?_; rintro e w' ⟨rfl, hb'⟩)
      go_ret2
      exact ⟨by rw [HE'.out]; rfl, ext_trans HB3.out (by assumption)⟩
    · obtain ⟨sd, hsd⟩ : ∃ s, numB (f - x.d) = s := ⟨_, rfl⟩
      have zd : sd.size ≤ 10 := hsd ▸ numB_size (by omega)
      have HD := Lib.hid hsd
      clear hsd
      have HE : feeStr x.p x.m f x.d = feeHead sp sm sf ++ (⟨#[32, 40]⟩ : ByteArray) ++ sd ++ (⟨#[32, 108, 101, 115, 115, 41]⟩ : ByteArray) := by
        unfold feeStr; rw [if_neg (by omega), if_pos hlt, HP.out, HM.out, HF.out, HD.out]
      have HE' := Lib.hid HE
      clear HE
      unfold feeHead at HE'
      go_wp2_with (go_at_call 73; refine (text_v _ HD.out (by omega) (by omega) _).mono ?_; rintro e w' ⟨rfl, hb'⟩)
      go_ret2
      exact ⟨by rw [HE'.out]; rfl, ext_trans HB3.out (by assumption)⟩
    · have HE : feeStr x.p x.m f x.d = feeHead sp sm sf := by
        unfold feeStr; rw [if_neg (by omega), if_neg (by omega), HP.out, HM.out, HF.out]
      have HE' := Lib.hid HE
      clear HE
      unfold feeHead at HE'
      have h1 : f ≤ x.d := by omega
      have h2 : x.d ≤ f := by omega
      clear heq
      go_wp2
      go_ret2
      exact ⟨by rw [HE'.out]; rfl, HB3.out⟩
  · rw [show feeTextT x price = .tuple #[.string ⟨#[]⟩, .bool false] from if_neg hh]
    cases ha : accB x.p x.m x.l x.s x.d
    · go_enter Try.func26, Try.ntmps26
      go_wp2_with fail
      refine (iIsAccount_any _ _ _ _ _ _).mono ?_
      rintro e w1 ⟨rfl, hb1⟩
      rw [ha]
      go_wp2_with fail
      go_ret2
      exact ⟨rfl, ext_trans (ext_alloc (Below.refl _ _) _) hb1⟩
    · cases hp : inB price 1 500
      · go_enter Try.func26, Try.ntmps26
        go_wp2_with fail
        refine (iIsAccount_any _ _ _ _ _ _).mono ?_
        rintro e w1 ⟨rfl, hb1⟩
        rw [ha]
        go_wp2_with (go_at_call 67; refine (isPrice_v _ hp _).mono ?_; rintro e w' ⟨rfl, rfl⟩)
        go_ret2
        exact ⟨rfl, ext_trans (ext_alloc (Below.refl _ _) _) hb1⟩
      · exact absurd ⟨ha, hp⟩ hh
set_option maxHeartbeats 4000000 in
theorem sFeeText_any (x : Acct) (price : Int) (w : World) :
    Calls Try.prog 25 #[.agg #[.int .i64 x.p, .int .i64 x.m, .int .i64 x.l, .int .i64 x.s, .int .i64 x.d], .int .i64 price] w fun e w' => e = .returned (feeTextT x price) ∧ Below w.heap.size w w' := by
  by_cases hh : x.ok' = true ∧ inB price 1 500 = true
  · obtain ⟨ha, hp⟩ := hh
    have hT : feeT x.p x.m x.l x.s x.d price = .tuple #[.int .i64 (feeV x.l x.s price), .bool true] := if_pos ⟨ha, hp⟩
    rw [show feeTextT x price = .tuple #[.string (feeStr x.p x.m (feeV x.l x.s price) x.d), .bool true] from if_pos ⟨ha, hp⟩]
    obtain ⟨p0, p1, m0, m1, l0, l1, s0, s1, d0, d1⟩ := acc_parts ha
    obtain ⟨q0, q1⟩ := inB_true hp
    obtain ⟨f0, f1⟩ := fee_bd l0 l1 s0 q0 q1
    clear ha hp
    generalize feeV x.l x.s price = f at hT f0 f1 ⊢
    have HT := Lib.hid hT
    clear hT
    go_enter Try.func25, Try.ntmps25
    go_wp2_with fail
    refine (sFeeOf_any _ _ _ _ _ _ _).mono ?_
    rintro e w2 ⟨rfl, hb1⟩
    rw [HT.out]
    have hbx := box_cells w 25 x
    have hcx := (bcell hb1).1
    have k0 := hcx w.heap.size 0 (by simp)
    have k1 := hcx w.heap.size 1 (by simp)
    have k4 := hcx w.heap.size 4 (by simp)
    rw [hbx.1] at k0
    rw [hbx.2.1] at k1
    rw [hbx.2.2.2.2] at k4
    have HB2 := Lib.hid (ext_trans (ext_alloc (Below.refl w.heap.size w) _) hb1)
    clear hbx hcx hb1
    go_wp2
    obtain ⟨sp, hsp⟩ : ∃ s, numB x.p = s := ⟨_, rfl⟩
    obtain ⟨sm, hsm⟩ : ∃ s, numB x.m = s := ⟨_, rfl⟩
    obtain ⟨sf, hsf⟩ : ∃ s, numB f = s := ⟨_, rfl⟩
    have zp : sp.size ≤ 10 := hsp ▸ numB_size (by omega)
    have zm : sm.size ≤ 10 := hsm ▸ numB_size (by omega)
    have zf : sf.size ≤ 10 := hsf ▸ numB_size (by omega)
    have HP := Lib.hid hsp
    have HM := Lib.hid hsm
    have HF := Lib.hid hsf
    clear hsp hsm hsf
    have hself : Below w2.heap.size w2 w2.drew := ext_drew (Below.refl _ _)
    refine wp_region_held_drew (S := (fun w' => w'.cell? ⟨w.heap.size, 0, none⟩ = some (.int .i64 x.p) ∧ w'.cell? ⟨w.heap.size, 1, none⟩ = some (.int .i64 x.m) ∧ w'.cell? ⟨w.heap.size, 4, none⟩ = some (.int .i64 x.d) ∧ Below w2.heap.size w2 w')) (by kernel_rfl) ?_ (fun hHeld => ?_)
    · (try dsimp only); (first | (go_keep; done) | ((try go_split_ands); (repeat' apply And.intro); all_goals first | exact ext_drew (Below.refl _ _) | exact below_cell (by assumption) (by assumption) | (refine ext_trans ?_ (by assumption); assumption) | assumption))
    refine wpAnyH_takeD (i := 0) (v := ?_) 17 rfl rfl (by kernel_rfl) (by kernel_rfl) (by kernel_rfl) (fun _ _ _ _ _ h => h) (by rfl) (by assumption) ?_ ?_
    rotate_left; focus (intro w hSw; (try dsimp only at hSw); go_simp; first | done | (with_reducible rfl) | (rw [if_neg (by omega)]; done) | (rw [if_neg (by omega)]; with_reducible rfl))
    try simp only [Act.put, List.setIfInBounds_toArray, List.set_cons_zero, List.set_cons_succ]
    refine wpAnyH_takeD (i := 1) (v := ?_) 18 rfl rfl (by kernel_rfl) (by kernel_rfl) (by kernel_rfl) (fun _ _ _ _ _ h => h) (by rfl) (by assumption) ?_ ?_
    rotate_left; focus (intro w hSw; (try dsimp only at hSw); go_simp; first | done | (with_reducible rfl) | (rw [if_neg (by omega)]; done) | (rw [if_neg (by omega)]; with_reducible rfl))
    try simp only [Act.put, List.setIfInBounds_toArray, List.set_cons_zero, List.set_cons_succ]
    refine wpAnyH_takeD (i := 5) (v := ?_) 22 rfl rfl (by kernel_rfl) (by kernel_rfl) (by kernel_rfl) (fun _ _ _ _ _ h => h) (by rfl) (by assumption) ?_ ?_
    rotate_left; focus (intro w hSw; (try dsimp only at hSw); go_simp; first | done | (with_reducible rfl) | (rw [if_neg (by omega)]; done) | (rw [if_neg (by omega)]; with_reducible rfl))
    try simp only [Act.put, List.setIfInBounds_toArray, List.set_cons_zero, List.set_cons_succ]
    refine wpAnyH_takeD (i := 6) (v := ?_) 23 rfl rfl (by kernel_rfl) (by kernel_rfl) (by kernel_rfl) (fun _ _ _ _ _ h => h) (by rfl) (by assumption) ?_ ?_
    rotate_left; focus (intro w hSw; (try dsimp only at hSw); go_simp; first | done | (with_reducible rfl) | (rw [if_neg (by omega)]; done) | (rw [if_neg (by omega)]; with_reducible rfl))
    try simp only [Act.put, List.setIfInBounds_toArray, List.set_cons_zero, List.set_cons_succ]
    refine wpAnyH_takeD (i := 10) (v := ?_) 27 rfl rfl (by kernel_rfl) (by kernel_rfl) (by kernel_rfl) (fun _ _ _ _ _ h => h) (by rfl) (by assumption) ?_ ?_
    rotate_left; focus (intro w hSw; (try dsimp only at hSw); go_simp; first | done | (with_reducible rfl) | (rw [if_neg (by omega)]; done) | (rw [if_neg (by omega)]; with_reducible rfl))
    try simp only [Act.put, List.setIfInBounds_toArray, List.set_cons_zero, List.set_cons_succ]
    refine wpAnyH_ready (rs := [2]) (by kernel_rfl) (by simp) ?_
    refine AllReadyH.cons rfl (fun K hK => ?_) AllReadyH.nil
    go_simp; (go_at_call 72; refine (l1Num_v _ HP.out (by omega) (by omega) _).mono ?_; rintro e w' ⟨rfl, hb'⟩); (try dsimp only)
    refine hK.out _ _ ?_ (fun hHeld => ?_)
    focus ((try dsimp only); (first | (go_keep; done) | ((try go_split_ands); (repeat' apply And.intro); all_goals first | exact ext_drew (Below.refl _ _) | exact below_cell (by assumption) (by assumption) | (refine ext_trans ?_ (by assumption); assumption) | assumption)))
    clear hK K; try simp only [Act.put, List.setIfInBounds_toArray, List.set_cons_zero, List.set_cons_succ]
    refine wpAnyH_takeD (i := 3) (v := ?_) 20 rfl rfl (by kernel_rfl) (by kernel_rfl) (by kernel_rfl) (fun _ _ _ _ _ h => h) (by rfl) (by assumption) ?_ ?_
    rotate_left; focus (intro w hSw; (try dsimp only at hSw); go_simp; first | done | (with_reducible rfl) | (rw [if_neg (by omega)]; done) | (rw [if_neg (by omega)]; with_reducible rfl))
    try simp only [Act.put, List.setIfInBounds_toArray, List.set_cons_zero, List.set_cons_succ]
    refine wpAnyH_takeD (i := 4) (v := ?_) 21 rfl rfl (by kernel_rfl) (by kernel_rfl) (by kernel_rfl) (fun _ _ _ _ _ h => h) (by rfl) (by assumption) ?_ ?_
    rotate_left; focus (intro w hSw; (try dsimp only at hSw); go_simp; first | done | (with_reducible rfl) | (rw [if_neg (by omega)]; done) | (rw [if_neg (by omega)]; with_reducible rfl))
    try simp only [Act.put, List.setIfInBounds_toArray, List.set_cons_zero, List.set_cons_succ]
    refine wpAnyH_ready (rs := [7]) (by kernel_rfl) (by simp) ?_
    refine AllReadyH.cons rfl (fun K hK => ?_) AllReadyH.nil
    go_simp; (go_at_call 72; refine (l1Num_v _ HM.out (by omega) (by omega) _).mono ?_; rintro e w' ⟨rfl, hb'⟩); (try dsimp only)
    refine hK.out _ _ ?_ (fun hHeld => ?_)
    focus ((try dsimp only); (first | (go_keep; done) | ((try go_split_ands); (repeat' apply And.intro); all_goals first | exact ext_drew (Below.refl _ _) | exact below_cell (by assumption) (by assumption) | (refine ext_trans ?_ (by assumption); assumption) | assumption)))
    clear hK K; try simp only [Act.put, List.setIfInBounds_toArray, List.set_cons_zero, List.set_cons_succ]
    refine wpAnyH_takeD (i := 8) (v := ?_) 25 rfl rfl (by kernel_rfl) (by kernel_rfl) (by kernel_rfl) (fun _ _ _ _ _ h => h) (by rfl) (by assumption) ?_ ?_
    rotate_left; focus (intro w hSw; (try dsimp only at hSw); go_simp; first | done | (with_reducible rfl) | (rw [if_neg (by omega)]; done) | (rw [if_neg (by omega)]; with_reducible rfl))
    try simp only [Act.put, List.setIfInBounds_toArray, List.set_cons_zero, List.set_cons_succ]
    refine wpAnyH_takeD (i := 9) (v := ?_) 26 rfl rfl (by kernel_rfl) (by kernel_rfl) (by kernel_rfl) (fun _ _ _ _ _ h => h) (by rfl) (by assumption) ?_ ?_
    rotate_left; focus (intro w hSw; (try dsimp only at hSw); go_simp; first | done | (with_reducible rfl) | (rw [if_neg (by omega)]; done) | (rw [if_neg (by omega)]; with_reducible rfl))
    try simp only [Act.put, List.setIfInBounds_toArray, List.set_cons_zero, List.set_cons_succ]
    refine wpAnyH_ready (rs := [11]) (by kernel_rfl) (by simp) ?_
    refine AllReadyH.cons rfl (fun K hK => ?_) AllReadyH.nil
    go_simp; (go_at_call 72; refine (l1Num_v _ HF.out (by omega) (by omega) _).mono ?_; rintro e w' ⟨rfl, hb'⟩); (try dsimp only)
    refine hK.out _ _ ?_ (fun hHeld => ?_)
    focus ((try dsimp only); (first | (go_keep; done) | ((try go_split_ands); (repeat' apply And.intro); all_goals first | exact ext_drew (Below.refl _ _) | exact below_cell (by assumption) (by assumption) | (refine ext_trans ?_ (by assumption); assumption) | assumption)))
    clear hK K; try simp only [Act.put, List.setIfInBounds_toArray, List.set_cons_zero, List.set_cons_succ]
    refine wpAnyH_takeD (i := 12) (v := ?_) 29 rfl rfl (by kernel_rfl) (by kernel_rfl) (by kernel_rfl) (fun _ _ _ _ _ h => h) (by rfl) (by assumption) ?_ ?_
    rotate_left; focus (intro w hSw; (try dsimp only at hSw); go_simp; first | done | (with_reducible rfl) | (rw [if_neg (by omega)]; done) | (rw [if_neg (by omega)]; with_reducible rfl))
    try simp only [Act.put, List.setIfInBounds_toArray, List.set_cons_zero, List.set_cons_succ]
    refine wpAnyH_takeD (i := 13) (v := ?_) 8 rfl rfl (by kernel_rfl) (by kernel_rfl) (by kernel_rfl) (fun _ _ _ _ _ h => h) (by rfl) (by assumption) ?_ ?_
    rotate_left; focus (intro w hSw; (try dsimp only at hSw); go_simp; first | done | (with_reducible rfl) | (rw [if_neg (by omega)]; done) | (rw [if_neg (by omega)]; with_reducible rfl))
    try simp only [Act.put, List.setIfInBounds_toArray, List.set_cons_zero, List.set_cons_succ]
    refine wpAnyH_done (by kernel_rfl) ?_ _
    obtain ⟨r0, r1, r4, rb⟩ := hHeld
    have HB3 := Lib.hid (ext_trans HB2.out rb)
    clear hself r0 r1 rb
    clear hb'
    rcases (show f < x.d ∨ x.d < f ∨ f = x.d by omega) with hlt | hlt | heq
    · obtain ⟨sd, hsd⟩ : ∃ s, numB (x.d - f) = s := ⟨_, rfl⟩
      have zd : sd.size ≤ 10 := hsd ▸ numB_size (by omega)
      have HD := Lib.hid hsd
      clear hsd
      have HE : feeStr x.p x.m f x.d = feeHead sp sm sf ++ (⟨#[32, 40]⟩ : ByteArray) ++ sd ++ (⟨#[32, 109, 111, 114, 101, 41]⟩ : ByteArray) := by
        unfold feeStr; rw [if_pos hlt, HP.out, HM.out, HF.out, HD.out]
      have HE' := Lib.hid HE
      clear HE
      unfold feeHead at HE'
      go_wp2_with (go_at_call 72; refine (l1Num_v _ HD.out (by omega) (by omega) _).mono ?_; rintro e w' ⟨rfl, hb'⟩)
      go_ret2
      exact ⟨by rw [HE'.out]; rfl, ext_trans HB3.out (by assumption)⟩
    · obtain ⟨sd, hsd⟩ : ∃ s, numB (f - x.d) = s := ⟨_, rfl⟩
      have zd : sd.size ≤ 10 := hsd ▸ numB_size (by omega)
      have HD := Lib.hid hsd
      clear hsd
      have HE : feeStr x.p x.m f x.d = feeHead sp sm sf ++ (⟨#[32, 40]⟩ : ByteArray) ++ sd ++ (⟨#[32, 108, 101, 115, 115, 41]⟩ : ByteArray) := by
        unfold feeStr; rw [if_neg (by omega), if_pos hlt, HP.out, HM.out, HF.out, HD.out]
      have HE' := Lib.hid HE
      clear HE
      unfold feeHead at HE'
      go_wp2_with (go_at_call 72; refine (l1Num_v _ HD.out (by omega) (by omega) _).mono ?_; rintro e w' ⟨rfl, hb'⟩)
      go_ret2
      exact ⟨by rw [HE'.out]; rfl, ext_trans HB3.out (by assumption)⟩
    · have HE : feeStr x.p x.m f x.d = feeHead sp sm sf := by
        unfold feeStr; rw [if_neg (by omega), if_neg (by omega), HP.out, HM.out, HF.out]
      have HE' := Lib.hid HE
      clear HE
      unfold feeHead at HE'
      have h1 : f ≤ x.d := by omega
      have h2 : x.d ≤ f := by omega
      clear heq
      go_wp2
      go_ret2
      exact ⟨by rw [HE'.out]; rfl, HB3.out⟩
  · have hT : feeT x.p x.m x.l x.s x.d price = .tuple #[.int .i64 0, .bool false] := if_neg hh
    rw [show feeTextT x price = .tuple #[.string ⟨#[]⟩, .bool false] from if_neg hh]
    have HT := Lib.hid hT
    clear hT hh
    go_enter Try.func25, Try.ntmps25
    go_wp2_with fail
    refine (sFeeOf_any _ _ _ _ _ _ _).mono ?_
    rintro e w1 ⟨rfl, hb1⟩
    rw [HT.out]
    go_wp2_with fail
    go_ret2
    exact ⟨rfl, ext_trans (ext_alloc (Below.refl _ _) _) hb1⟩
set_option maxHeartbeats 1000000 in
theorem FnExactFeeText_any (p m l s d : Int) (_ : (Lit.int .i64 p).wf = true) (_ : (Lit.int .i64 m).wf = true) (_ : (Lit.int .i64 l).wf = true) (_ : (Lit.int .i64 s).wf = true) (_ : (Lit.int .i64 d).wf = true) (price : Int) (_ : (Lit.int .i64 price).wf = true) (w : World) :
    Calls Try.prog 6 #[.agg #[.int .i64 p, .int .i64 m, .int .i64 l, .int .i64 s, .int .i64 d], .int .i64 price] w fun e w' => e = .returned (.bool true) ∧ Below w.heap.size w w' := by
  obtain ⟨f, ok, ht⟩ := feeTextT_form ⟨p, m, l, s, d⟩ price
  go_enter Try.func6, Try.ntmps6
  go_wp2_with fail
  refine (toAccount_any _ _ _ _ _ _).mono ?_
  rintro e w1 ⟨rfl, hb1⟩
  go_wp2_with fail
  refine (sFeeText_any ⟨p, m, l, s, d⟩ price _).mono ?_
  rintro e w2 ⟨rfl, hb2⟩
  rw [ht]
  have hb := ext_trans hb1 hb2
  obtain ⟨hc, hf⟩ := bcell hb
  clear hb1 hb2
  go_wp2_with fail
  refine (toAccount_any _ _ _ _ _ _).mono ?_
  rintro e w3 ⟨rfl, hb3⟩
  go_wp2_with fail
  refine (iFeeText_any ⟨p, m, l, s, d⟩ price _).mono ?_
  rintro e w4 ⟨rfl, hb4⟩
  rw [ht]
  go_wp2_with fail
  go_ret
  exact ⟨rfl, ext_trans (ext_alloc (Below.refl _ _) _) (ext_trans hb (ext_trans hb3 hb4))⟩
end Go.Proofs.Ytbjmpllnkkfgfaa
