/- The fee of an account. No condition. -/
import Derived.Test.YtbjmpllnkkfgfaaAccS
import Derived.Test.YtbjmpllnkkfgfaaTests
import Derived.Test.YtbjmpllnkkfgfaaHeld
namespace Go.Proofs.Ytbjmpllnkkfgfaa
open Go.RowKit

def Acct.ok' (x : Acct) : Bool := accB x.p x.m x.l x.s x.d
def wholeV (l price : Int) : Int := price * min 8 l + (price + 1) / 2 * max 0 (l - 8)
def feeV (l s price : Int) : Int := wholeV l price * (100 - 10 * min 3 s) / 100
theorem acc_parts {p m l s d : Int} (h : accB p m l s d = true) : 1 ≤ p ∧ p ≤ 999 ∧ 0 ≤ m ∧ m ≤ 1200 ∧ 0 ≤ l ∧ l ≤ 31 ∧ 0 ≤ s ∧ s ≤ 5 ∧ 0 ≤ d ∧ d ≤ 100000 := by
  unfold accB at h
  simp only [Bool.and_eq_true] at h
  obtain ⟨⟨⟨⟨h1, h2⟩, h3⟩, h4⟩, h5⟩ := h
  obtain ⟨a1, a2⟩ := inB_true h1
  obtain ⟨b1, b2⟩ := inB_true h2
  obtain ⟨c1, c2⟩ := inB_true h3
  obtain ⟨d1, d2⟩ := inB_true h4
  obtain ⟨e1, e2⟩ := inB_true h5
  exact ⟨a1, a2, b1, b2, c1, c2, d1, d2, e1, e2⟩
theorem mul_in {a b A B : Int} (a0 : 0 ≤ a) (a1 : a ≤ A) (b0 : 0 ≤ b) (b1 : b ≤ B) : 0 ≤ a * b ∧ a * b ≤ A * B :=
  ⟨Int.mul_nonneg a0 b0, Int.mul_le_mul a1 b1 b0 (Int.le_trans a0 a1)⟩
/-- The numbers of a fee, each with its bounds: a lesson's part, the cheaper part, the siblings. -/
theorem fee_parts {l s price : Int} (hl : 0 ≤ l) (hl2 : l ≤ 31) (hs : 0 ≤ s) (hp : 1 ≤ price) (hp2 : price ≤ 500) :
    ∃ a b q t u v n, min 8 l = a ∧ max 0 (l - 8) = b ∧ (price + 1) / 2 = q ∧ min 3 s = t ∧ price * a = u ∧ q * b = v ∧ u + v = n ∧
      0 ≤ a ∧ a ≤ 8 ∧ 0 ≤ b ∧ b ≤ 23 ∧ 0 ≤ q ∧ q ≤ 250 ∧ 0 ≤ t ∧ t ≤ 3 ∧ 0 ≤ u ∧ u ≤ 4000 ∧ 0 ≤ v ∧ v ≤ 5750 ∧ 0 ≤ n ∧ n ≤ 9750 ∧
      n * (100 - 10 * t) / 100 = feeV l s price ∧ n * (10 - t) / 10 = feeV l s price ∧ 0 ≤ n * (100 - 10 * t) ∧ n * (100 - 10 * t) ≤ 975000 ∧ 0 ≤ n * (10 - t) ∧ n * (10 - t) ≤ 97500 := by
  have ha : 0 ≤ min 8 l ∧ min 8 l ≤ 8 := by omega
  have hb : 0 ≤ max 0 (l - 8) ∧ max 0 (l - 8) ≤ 23 := by omega
  have hq : 0 ≤ (price + 1) / 2 ∧ (price + 1) / 2 ≤ 250 := by omega
  have ht : 0 ≤ min 3 s ∧ min 3 s ≤ 3 := by omega
  have hu := mul_in (show 0 ≤ price by omega) hp2 ha.1 ha.2
  have hv := mul_in hq.1 hq.2 hb.1 hb.2
  have hn := mul_in (show 0 ≤ price * min 8 l + (price + 1) / 2 * max 0 (l - 8) by omega) (show price * min 8 l + (price + 1) / 2 * max 0 (l - 8) ≤ 9750 by omega) (show 0 ≤ 10 - min 3 s by omega) (show 10 - min 3 s ≤ 10 by omega)
  have e : (price * min 8 l + (price + 1) / 2 * max 0 (l - 8)) * (100 - 10 * min 3 s) = 10 * ((price * min 8 l + (price + 1) / 2 * max 0 (l - 8)) * (10 - min 3 s)) := by
    rw [show (100 : Int) - 10 * min 3 s = 10 * (10 - min 3 s) from by omega, Int.mul_left_comm]
  refine ⟨_, _, _, _, _, _, _, rfl, rfl, rfl, rfl, rfl, rfl, rfl, ha.1, ha.2, hb.1, hb.2, hq.1, hq.2, ht.1, ht.2, hu.1, by omega, hv.1, by omega, by omega, by omega, rfl, ?_, by omega, by omega, hn.1, by omega⟩
  unfold feeV wholeV
  rw [e]
  omega
theorem fee_bd {l s price : Int} (hl : 0 ≤ l) (hl2 : l ≤ 31) (hs : 0 ≤ s) (hp : 1 ≤ price) (hp2 : price ≤ 500) : 0 ≤ feeV l s price ∧ feeV l s price ≤ 9750 := by
  obtain ⟨a, b, q, t, u, v, n, _, _, _, _, _, _, _, _, _, _, _, _, _, _, _, _, _, _, _, _, _, f1, _, f3, f4, _⟩ := fee_parts hl hl2 hs hp hp2
  omega
theorem l1Least_v (a b : Int) {c : Int} (hc : min a b = c) (w : World) : Calls Try.prog 92 #[.int .i64 a, .int .i64 b] w fun e w' => e = .returned (.int .i64 c) ∧ w = w' := hc ▸ l1Least_any a b w
theorem l1Most_v (a b : Int) {c : Int} (hc : max a b = c) (w : World) : Calls Try.prog 93 #[.int .i64 a, .int .i64 b] w fun e w' => e = .returned (.int .i64 c) ∧ w = w' := hc ▸ l1Most_any a b w
set_option maxHeartbeats 1000000 in
theorem feeOf_any (x : Acct) (price : Int) (hx : x.ok' = true) (hp : inB price 1 500 = true) (w : World) :
    Calls Try.prog 68 #[.agg #[.int .i64 x.p, .int .i64 x.m, .int .i64 x.l, .int .i64 x.s, .int .i64 x.d], .int .i64 price] w fun e w' => e = .returned (.int .i64 (feeV x.l x.s price)) ∧ Below w.heap.size w w' := by
  obtain ⟨p, m, l, s, d⟩ := x
  obtain ⟨_, _, _, _, l0, l1, s0, s1, _⟩ := acc_parts hx
  obtain ⟨p0, p1⟩ := inB_true hp
  obtain ⟨a, b, q, t, u, v, n, ea, eb, eq, et, eu, ev, en, a0, a1, b0, b1, q0, q1, t0, t1, u0, u1, v0, v1, n0, n1, f1, f2, f3, f4, f5, f6⟩ := fee_parts l0 l1 s0 p0 p1
  have F := Lib.hid f1
  clear hx hp f1 f2
  simp only at l0 l1 s0 s1 ea eb et F ⊢
  rcases (show l ≤ 7 ∨ l = 8 ∨ 9 ≤ l by omega) with hl | hl | hl <;> rcases (show s ≤ 2 ∨ 3 ≤ s by omega) with hs | hs
  · have ha' : a = l := by omega
    have hb' : b = 0 := by omega
    have ht' : t = s := by omega
    subst ha' hb' ht'
    go_enter Try.func68, Try.ntmps68
    go_wp2
    go_ret
    refine ⟨?_, by repeat (first | exact Below.refl _ _ | refine Below.alloc ?_ (by first | omega | (simp; done) | (simp; omega)) _ | refine Below.setCell ?_ (by first | omega | (simp; done) | (simp; omega)) _)⟩
    show Ending.returned (Value.int .i64 _) = _
    exact congrArg (fun z => Ending.returned (Value.int .i64 z)) F.out
  · have ha' : a = l := by omega
    have hb' : b = 0 := by omega
    have ht' : t = 3 := by omega
    subst ha' hb' ht'
    go_enter Try.func68, Try.ntmps68
    go_wp2
    go_ret
    refine ⟨?_, by repeat (first | exact Below.refl _ _ | refine Below.alloc ?_ (by first | omega | (simp; done) | (simp; omega)) _ | refine Below.setCell ?_ (by first | omega | (simp; done) | (simp; omega)) _)⟩
    show Ending.returned (Value.int .i64 _) = _
    exact congrArg (fun z => Ending.returned (Value.int .i64 z)) F.out
  · have ha' : a = 8 := by omega
    have hb' : b = 0 := by omega
    have ht' : t = s := by omega
    subst ha' hb' ht'
    subst hl
    go_enter Try.func68, Try.ntmps68
    go_wp2
    go_ret
    refine ⟨?_, by repeat (first | exact Below.refl _ _ | refine Below.alloc ?_ (by first | omega | (simp; done) | (simp; omega)) _ | refine Below.setCell ?_ (by first | omega | (simp; done) | (simp; omega)) _)⟩
    show Ending.returned (Value.int .i64 _) = _
    exact congrArg (fun z => Ending.returned (Value.int .i64 z)) F.out
  · have ha' : a = 8 := by omega
    have hb' : b = 0 := by omega
    have ht' : t = 3 := by omega
    subst ha' hb' ht'
    subst hl
    go_enter Try.func68, Try.ntmps68
    go_wp2
    go_ret
    refine ⟨?_, by repeat (first | exact Below.refl _ _ | refine Below.alloc ?_ (by first | omega | (simp; done) | (simp; omega)) _ | refine Below.setCell ?_ (by first | omega | (simp; done) | (simp; omega)) _)⟩
    show Ending.returned (Value.int .i64 _) = _
    exact congrArg (fun z => Ending.returned (Value.int .i64 z)) F.out
  · have ha' : a = 8 := by omega
    have hb' : b = l - 8 := by omega
    have ht' : t = s := by omega
    subst ha' hb' ht'
    go_enter Try.func68, Try.ntmps68
    go_wp2
    go_ret
    refine ⟨?_, by repeat (first | exact Below.refl _ _ | refine Below.alloc ?_ (by first | omega | (simp; done) | (simp; omega)) _ | refine Below.setCell ?_ (by first | omega | (simp; done) | (simp; omega)) _)⟩
    show Ending.returned (Value.int .i64 _) = _
    exact congrArg (fun z => Ending.returned (Value.int .i64 z)) F.out
  · have ha' : a = 8 := by omega
    have hb' : b = l - 8 := by omega
    have ht' : t = 3 := by omega
    subst ha' hb' ht'
    go_enter Try.func68, Try.ntmps68
    go_wp2
    go_ret
    refine ⟨?_, by repeat (first | exact Below.refl _ _ | refine Below.alloc ?_ (by first | omega | (simp; done) | (simp; omega)) _ | refine Below.setCell ?_ (by first | omega | (simp; done) | (simp; omega)) _)⟩
    show Ending.returned (Value.int .i64 _) = _
    exact congrArg (fun z => Ending.returned (Value.int .i64 z)) F.out
theorem quiet_l {P : Program} {f : FuncId} {args : Array Value} {w : World} {n : Nat} {v : Value}
    (h : Calls P f args (w.drewN n) fun e w' => e = .returned v ∧ w.drewN n = w') : Calls P f args (w.drewN n) fun e w'' => e = .returned v ∧ ∃ m, w'' = w.drewN m :=
  h.mono fun _ _ ⟨he, hm⟩ => ⟨he, n, hm.symm⟩
set_option maxHeartbeats 1000000 in
theorem l14Fee_any (x : Acct) (price : Int) (hx : x.ok' = true) (hp : inB price 1 500 = true) (w : World) :
    Calls Try.prog 66 #[.agg #[.int .i64 x.p, .int .i64 x.m, .int .i64 x.l, .int .i64 x.s, .int .i64 x.d], .int .i64 price] w fun e w' => e = .returned (.int .i64 (feeV x.l x.s price)) ∧ Below w.heap.size w w' := by
  obtain ⟨p, m, l, s, d⟩ := x
  obtain ⟨_, _, _, _, l0, l1, s0, s1, _⟩ := acc_parts hx
  obtain ⟨p0, p1⟩ := inB_true hp
  obtain ⟨a, b, q, t, u, v, n, ea, eb, eq, et, eu, ev, en, a0, a1, b0, b1, q0, q1, t0, t1, u0, u1, v0, v1, n0, n1, f1, f2, f3, f4, f5, f6⟩ := fee_parts l0 l1 s0 p0 p1
  have F := Lib.hid f2
  have wp : IntKind.i64.wrap (price + 1) = price + 1 := IntWalk.i64_in _ ⟨by omega, by omega⟩
  have wq : IntKind.i64.wrap (Int.tdiv (price + 1) 2) = q := by rw [wquo (by omega) (by omega) (by omega), eq]
  have wu : IntKind.i64.wrap u = u := IntWalk.i64_in _ ⟨by omega, by omega⟩
  have wv : IntKind.i64.wrap v = v := IntWalk.i64_in _ ⟨by omega, by omega⟩
  have wn : IntKind.i64.wrap n = n := IntWalk.i64_in _ ⟨by omega, by omega⟩
  clear hx hp f1 f2
  simp only at l0 l1 s0 s1 ea eb et F ⊢
  have wl : IntKind.i64.wrap (l - 8) = l - 8 := IntWalk.i64_in _ ⟨by omega, by omega⟩
  go_enter Try.func66, Try.ntmps66
  go_wp2
  go_quiet ((first | (go_at_call 92; exact quiet_l (l1Least_v _ _ ea _)) | (go_at_call 93; exact quiet_l (l1Most_v _ _ eb _))))
  go_wp2_with (go_at_call 92; refine (l1Least_v _ _ et _).mono ?_; rintro e w' ⟨rfl, rfl⟩)
  go_ret
  refine ⟨?_, by repeat (first | exact Below.refl _ _ | refine ext_drewN ?_ _ | refine ext_drew ?_ | refine ext_alloc ?_ _)⟩
  show Ending.returned (Value.int .i64 _) = _
  exact congrArg (fun z => Ending.returned (Value.int .i64 z)) F.out

def feeT (p m l s d price : Int) : Value := if accB p m l s d = true ∧ inB price 1 500 = true then .tuple #[.int .i64 (feeV l s price), .bool true] else .tuple #[.int .i64 0, .bool false]
set_option maxHeartbeats 400000 in
theorem isPrice_v (n : Int) {v : Bool} (hv : inB n 1 500 = v) (w : World) :
    Calls Try.prog 67 #[.int .i64 n] w fun e w' => e = .returned (.bool v) ∧ w = w' := by
  subst hv
  go_enter Try.func67, Try.ntmps67
  go_wp2_with (go_at_call 64; refine (within_any _ _ _ _).mono ?_; rintro e w' ⟨rfl, rfl⟩)
  go_ret
  exact ⟨rfl, rfl⟩
set_option maxHeartbeats 400000 in
theorem l14Price_v (n : Int) {v : Bool} (hv : inB n 1 500 = v) (w : World) :
    Calls Try.prog 65 #[.int .i64 n] w fun e w' => e = .returned (.bool v) ∧ w = w' := by
  subst hv
  go_enter Try.func65, Try.ntmps65
  go_wp2_with (go_at_call 74; refine (l1In_any _ _ _ _).mono ?_; rintro e w' ⟨rfl, rfl⟩)
  go_ret
  exact ⟨rfl, rfl⟩
set_option maxHeartbeats 1000000 in
theorem iFeeOf_any (p m l s d price : Int) (w : World) :
    Calls Try.prog 19 #[.agg #[.int .i64 p, .int .i64 m, .int .i64 l, .int .i64 s, .int .i64 d], .int .i64 price] w fun e w' => e = .returned (feeT p m l s d price) ∧ Below w.heap.size w w' := by
  cases ha : accB p m l s d
  · rw [show feeT p m l s d price = .tuple #[.int .i64 0, .bool false] from by simp [feeT, ha]]
    · go_enter Try.func19, Try.ntmps19
      go_wp2_with fail
      refine (iIsAccount_any _ _ _ _ _ _).mono ?_
      rintro e w1 ⟨rfl, hb1⟩
      rw [ha]
      have hb := Lib.hid (ext_trans (ext_alloc (Below.refl w.heap.size w) _) hb1)
      obtain ⟨hc, hf⟩ := bcell hb1
      clear hb1
      go_wp2_with fail
      go_ret2
      exact ⟨rfl, hb.out⟩
  · cases hp : inB price 1 500
    · rw [show feeT p m l s d price = .tuple #[.int .i64 0, .bool false] from by simp [feeT, hp]]
      go_enter Try.func19, Try.ntmps19
      go_wp2_with fail
      refine (iIsAccount_any _ _ _ _ _ _).mono ?_
      rintro e w1 ⟨rfl, hb1⟩
      rw [ha]
      have hb := Lib.hid (ext_trans (ext_alloc (Below.refl w.heap.size w) _) hb1)
      obtain ⟨hc, hf⟩ := bcell hb1
      clear hb1
      go_wp2_with (go_at_call 67; refine (isPrice_v _ hp _).mono ?_; rintro e w' ⟨rfl, rfl⟩)
      go_ret2
      exact ⟨rfl, hb.out⟩
    · rw [show feeT p m l s d price = .tuple #[.int .i64 (feeV l s price), .bool true] from by simp [feeT, hp, ha]]
      have HA := Lib.hid ha
      go_enter Try.func19, Try.ntmps19
      go_wp2_with fail
      refine (iIsAccount_any _ _ _ _ _ _).mono ?_
      rintro e w1 ⟨rfl, hb1⟩
      rw [ha]
      have hb := Lib.hid (ext_trans (ext_alloc (Below.refl w.heap.size w) _) hb1)
      obtain ⟨hc, hf⟩ := bcell hb1
      clear hb1
      go_wp2_with (first | (go_at_call 67; refine (isPrice_v _ hp _).mono ?_; rintro e w' ⟨rfl, rfl⟩) | (go_at_call 68; refine (feeOf_any ⟨p, m, l, s, d⟩ price HA.out hp _).mono ?_; rintro e w2 ⟨rfl, hb2⟩))
      go_ret2
      exact ⟨rfl, ext_trans hb.out hb2⟩
set_option maxHeartbeats 1000000 in
theorem sFeeOf_any (p m l s d price : Int) (w : World) :
    Calls Try.prog 18 #[.agg #[.int .i64 p, .int .i64 m, .int .i64 l, .int .i64 s, .int .i64 d], .int .i64 price] w fun e w' => e = .returned (feeT p m l s d price) ∧ Below w.heap.size w w' := by
  cases ha : accB p m l s d
  · rw [show feeT p m l s d price = .tuple #[.int .i64 0, .bool false] from by simp [feeT, ha]]
    · go_enter Try.func18, Try.ntmps18
      go_wp2_with fail
      refine (l14One_any _ _ _ _ _ _).mono ?_
      rintro e w1 ⟨rfl, hb1⟩
      rw [ha]
      have hb := Lib.hid (ext_trans (ext_alloc (Below.refl w.heap.size w) _) hb1)
      obtain ⟨hc, hf⟩ := bcell hb1
      clear hb1
      go_wp2_with fail
      go_ret2
      exact ⟨rfl, hb.out⟩
  · cases hp : inB price 1 500
    · rw [show feeT p m l s d price = .tuple #[.int .i64 0, .bool false] from by simp [feeT, hp]]
      go_enter Try.func18, Try.ntmps18
      go_wp2_with fail
      refine (l14One_any _ _ _ _ _ _).mono ?_
      rintro e w1 ⟨rfl, hb1⟩
      rw [ha]
      have hb := Lib.hid (ext_trans (ext_alloc (Below.refl w.heap.size w) _) hb1)
      obtain ⟨hc, hf⟩ := bcell hb1
      clear hb1
      go_wp2_with (go_at_call 65; refine (l14Price_v _ hp _).mono ?_; rintro e w' ⟨rfl, rfl⟩)
      go_ret2
      exact ⟨rfl, hb.out⟩
    · rw [show feeT p m l s d price = .tuple #[.int .i64 (feeV l s price), .bool true] from by simp [feeT, hp, ha]]
      have HA := Lib.hid ha
      go_enter Try.func18, Try.ntmps18
      go_wp2_with fail
      refine (l14One_any _ _ _ _ _ _).mono ?_
      rintro e w1 ⟨rfl, hb1⟩
      rw [ha]
      have hb := Lib.hid (ext_trans (ext_alloc (Below.refl w.heap.size w) _) hb1)
      obtain ⟨hc, hf⟩ := bcell hb1
      clear hb1
      go_wp2_with (first | (go_at_call 65; refine (l14Price_v _ hp _).mono ?_; rintro e w' ⟨rfl, rfl⟩) | (go_at_call 66; refine (l14Fee_any ⟨p, m, l, s, d⟩ price HA.out hp _).mono ?_; rintro e w2 ⟨rfl, hb2⟩))
      go_ret2
      exact ⟨rfl, ext_trans hb.out hb2⟩
set_option maxHeartbeats 1000000 in
theorem FnExactFeeOf_any (p m l s d : Int) (_ : (Lit.int .i64 p).wf = true) (_ : (Lit.int .i64 m).wf = true) (_ : (Lit.int .i64 l).wf = true) (_ : (Lit.int .i64 s).wf = true) (_ : (Lit.int .i64 d).wf = true) (price : Int) (_ : (Lit.int .i64 price).wf = true) (w : World) :
    Calls Try.prog 4 #[.agg #[.int .i64 p, .int .i64 m, .int .i64 l, .int .i64 s, .int .i64 d], .int .i64 price] w fun e w' => e = .returned (.bool true) ∧ Below w.heap.size w w' := by
  obtain ⟨f, ok, ht⟩ : ∃ f ok, feeT p m l s d price = .tuple #[.int .i64 f, .bool ok] := by
    unfold feeT; split <;> exact ⟨_, _, rfl⟩
  go_enter Try.func4, Try.ntmps4
  go_wp2_with fail
  refine (toAccount_any _ _ _ _ _ _).mono ?_
  rintro e w1 ⟨rfl, hb1⟩
  go_wp2_with fail
  refine (sFeeOf_any _ _ _ _ _ _ _).mono ?_
  rintro e w2 ⟨rfl, hb2⟩
  rw [ht]
  have hb := ext_trans hb1 hb2
  obtain ⟨hc, hf⟩ := bcell hb
  clear hb1 hb2
  go_wp2_with fail
  refine (toAccount_any _ _ _ _ _ _).mono ?_
  rintro e w3 ⟨rfl, hb3⟩
  go_wp2_with fail
  refine (iFeeOf_any _ _ _ _ _ _ _).mono ?_
  rintro e w4 ⟨rfl, hb4⟩
  rw [ht]
  go_wp2_with fail
  go_ret
  exact ⟨rfl, ext_trans (ext_alloc (Below.refl _ _) _) (ext_trans hb (ext_trans hb3 hb4))⟩
end Go.Proofs.Ytbjmpllnkkfgfaa
