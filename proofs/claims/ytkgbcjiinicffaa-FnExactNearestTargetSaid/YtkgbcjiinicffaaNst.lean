/- The nearest target, the fewest beads: the reference's walks. No condition. -/
import Derived.Test.YtkgbcjiinicffaaWay
import Derived.Test.YtkgbcjiinicffaaMvb
import Derived.Test.YtkgbcjiinicffaaTga
namespace Go.Proofs.Ytkgbcjiinicffaa
open Go.RowKit

theorem frame_in {u l : Int} {xs : List Rod} (hf : frameB u l xs = true) : ∀ x ∈ xs, RodIn x := by
  obtain ⟨⟨u0, u1⟩, ⟨l0, l1⟩, _, _⟩ := frame_bd hf
  intro x hx
  unfold frameB at hf
  simp only [Bool.and_eq_true] at hf
  have h := List.all_eq_true.1 hf.2 x hx
  unfold rodB at h
  simp only [Bool.and_eq_true] at h
  have h1 := inB_true h.1
  have h2 := inB_true h.2
  exact ⟨by omega, by omega, by omega, by omega⟩
theorem formsR_in {u l v : Int} (h0 : 0 ≤ u) (h1 : u ≤ 2) (h2 : l ≤ 5) : ∀ f ∈ formsR u l v, RodIn f := by
  intro f hf
  unfold formsR at hf
  obtain ⟨k, hk, hm⟩ := List.mem_flatMap.1 hf
  have hk := List.mem_range.1 hk
  unfold formR at hm
  split at hm
  · rename_i h
    have h := inB_true h
    obtain rfl := List.mem_singleton.1 hm
    exact ⟨by simp only; omega, by simp only; omega, by simp only; omega, by simp only; omega⟩
  · cases hm
theorem tgts_in {u l : Int} (h0 : 0 ≤ u) (h1 : u ≤ 2) (h2 : l ≤ 5) : ∀ (r : Nat) (n : Int), ∀ t ∈ tgts u l r n, ∀ x ∈ t, RodIn x
  | 0, n => by
    intro t ht x hx
    unfold tgts at ht
    split at ht
    · obtain rfl := List.mem_singleton.1 ht
      cases hx
    · cases ht
  | r + 1, n => by
    have key : ∀ (v : Int) (z : Int), ∀ t ∈ stepT (tgts u l r v) (formsR u l z), ∀ x ∈ t, RodIn x := by
      intro v z t ht x hx
      obtain ⟨s, hs, f, hf, rfl⟩ := mem_stepT.1 ht
      rcases List.mem_append.1 hx with hx | hx
      · exact tgts_in h0 h1 h2 r v s hs x hx
      · obtain rfl := List.mem_singleton.1 hx
        exact formsR_in h0 h1 h2 x hf
    intro t ht
    rw [tgts] at ht
    rcases List.mem_append.1 ht with ht | ht
    · exact key _ _ t ht
    · split at ht
      · exact key _ _ t ht
      · cases ht
/-- The frame that a way tells. -/
structure FrOk (w : World) (B Lo : Nat) (u l : Int) (W : Way) (U L : Int) (a : Option Addr) (n c : Nat) : Prop where
  yes : W.ok = true → U = u ∧ L = l ∧ Reads w B 2 a n ((rodF W.rods).map (Value.int .i64))
  no : W.ok = false → U = 0 ∧ L = 0 ∧ a = none ∧ n = 0 ∧ c = 0
  new : W.ok = true → 0 < n → ∀ x, a = some x → Lo ≤ x.block
theorem FrOk.below {w w' : World} {B Lo : Nat} {u l : Int} {W : Way} {U L : Int} {a : Option Addr} {n c : Nat} (h : FrOk w B Lo u l W U L a n c) (hb : Below B w w') : FrOk w' B Lo u l W U L a n c :=
  ⟨fun h1 => ⟨(h.yes h1).1, (h.yes h1).2.1, (h.yes h1).2.2.below hb⟩, h.no, h.new⟩
theorem Reads.setLow {w : World} {B Lo k n : Nat} {a : Option Addr} {xs : List Value} (h : Reads w B k a n xs) (hl : 0 < n → ∀ x, a = some x → Lo ≤ x.block) {p : Addr} (hp : p.block < Lo) (u : Value) : Reads (w.setCell p u) B k a n xs :=
  ⟨h.1, fun hn => by
    obtain ⟨ad, e, hb, hc⟩ := h.2 hn
    have := hl hn ad e
    refine ⟨ad, e, hb, fun j u' hu => ?_⟩
    rw [World.cell?_setCell_other w p (ad.add j) u (fun e' => by have h2 := congrArg Addr.block e'; rw [block_of_add] at h2; omega)]
    exact hc j u' hu⟩
theorem FrOk.setLow {w : World} {B Lo : Nat} {u l : Int} {W : Way} {U L : Int} {a : Option Addr} {n c : Nat} (h : FrOk w B Lo u l W U L a n c) {p : Addr} (hp : p.block < Lo) (v : Value) : FrOk (w.setCell p v) B Lo u l W U L a n c :=
  ⟨fun h1 => ⟨(h.yes h1).1, (h.yes h1).2.1, (h.yes h1).2.2.setLow (h.new h1) hp v⟩, h.no, h.new⟩
theorem FrOk.raise {w : World} {B B' Lo Lo' : Nat} {u l : Int} {W : Way} {U L : Int} {a : Option Addr} {n c : Nat} (h : FrOk w B Lo u l W U L a n c) (hB : B ≤ B') (hL : Lo' ≤ Lo) : FrOk w B' Lo' u l W U L a n c :=
  ⟨fun h1 => ⟨(h.yes h1).1, (h.yes h1).2.1, (h.yes h1).2.2.more hB⟩, h.no, fun h1 h2 x h3 => Nat.le_trans hL (h.new h1 h2 x h3)⟩
theorem quiet_bef {A A2 : Option Addr} {n c c2 B B2 : Nat} {xs ys : List Rod} {v : Bool} (hv : befB xs ys = v) (w : World) (h : Reads w B 2 A n ((rodF xs).map (Value.int .i64))) (h2 : Reads w B2 2 A2 n ((rodF ys).map (Value.int .i64))) (hn : n ≤ 8) (hx : ∀ x ∈ xs, RodIn x) (hy : ∀ y ∈ ys, RodIn y) (m : Nat) :
    Calls Try.prog 57 #[.slice A n c, .slice A2 n c2] (w.drewN m) fun e w'' => e = .returned (.bool v) ∧ ∃ m, w'' = w.drewN m :=
  (l13Before_any A A2 n c c2 B B2 xs ys (w.drewN m) (h.drewN m) (h2.drewN m) hn hx hy).mono fun _ _ ⟨he, _, hm⟩ => ⟨hv ▸ he, _, hm.trans (World.drewN_drewN _ _ _)⟩
theorem wayOf_bd {xs t : List Rod} (hx : ∀ x ∈ xs, RodIn x) (ht : ∀ x ∈ t, RodIn x) (hl : t.length ≤ 8) : (0 ≤ (wayOf xs t).m ∧ (wayOf xs t).m ≤ 16) ∧ 0 ≤ (wayOf xs t).b ∧ (wayOf xs t).b ≤ 144 := by
  have h1 := mvFr_len 0 xs t
  have h2 := bdS_bd _ (mvFr_in 0 xs t hx ht)
  unfold wayOf mvL
  simp only
  omega
def movV (W : Way) : Int := if W.ok = true then W.m else -1
theorem pick_bd {lt : Way → Way → Bool} {xs : List Rod} : ∀ (ts : List (List Rod)), ∀ W, W = pickL lt xs ts → W = way0 ∨ ∃ t ∈ ts, W = wayOf xs t := by
  intro ts
  have key : ∀ k, k ≤ ts.length → pickL lt xs (ts.take k) = way0 ∨ ∃ t ∈ ts, pickL lt xs (ts.take k) = wayOf xs t := by
    intro k
    induction k with
    | zero => intro _; exact .inl rfl
    | succ k ih =>
      intro hk
      have ht : ts[k]? = some (ts[k]'(by omega)) := List.getElem?_eq_getElem (by omega)
      generalize ts[k]'(by omega) = t at ht
      rw [pickL_next ht]
      split
      · exact .inr ⟨t, List.mem_of_getElem? ht, rfl⟩
      · exact ih (by omega)
  rintro W rfl
  have := key ts.length (Nat.le_refl _)
  rwa [List.take_length] at this
set_option maxRecDepth 100000 in
set_option maxHeartbeats 8000000 in
theorem l13Best_any (u l : Int) (A : Option Addr) (n c B : Nat) (xs : List Rod) (N : Int) (w : World) (h : Reads w B 2 A n ((rodF xs).map (Value.int .i64))) (hB : B ≤ w.heap.size) (hf : frameB u l xs = true) (hN : 0 ≤ N) (hN2 : N ≤ 9223372036854775807) :
    Calls Try.prog 47 #[.agg #[.int .i64 u, .int .i64 l, .slice A n c], .int .i64 N] w fun e w' => ∃ (U L : Int) (a : Option Addr) (m k : Nat), e = .returned (.tuple #[.agg #[.int .i64 U, .int .i64 L, .slice a m k], .bool (pickL nearerB xs (tgts u l n N)).ok]) ∧ FrOk w' w'.heap.size w.heap.size u l (pickL nearerB xs (tgts u l n N)) U L a m k ∧ Below w.heap.size w w' := by
  have hlx := h.rodLen
  obtain ⟨⟨u0, u1⟩, ⟨l0, l1⟩, k1, k2⟩ := frame_bd hf
  have hn8 : n ≤ 8 := by omega
  have HXI := Lib.hid (frame_in hf)
  have HTI := Lib.hid (tgts_in (u := u) (l := l) u0 u1 l1 n N)
  have HTE := Lib.hid (tgts_each u l n N)
  have hlen : (tgts u l n N).length ≤ 10077696 := by
    have tl := tgts_len u l n N
    have tb := tgt_bd (l := l) u0 u1 n N
    have hp6 := pow6 (k := n) (by omega)
    omega
  have hb := ext_alloc (Below.refl w.heap.size w) (.cells #[.int .i64 u, .int .i64 l, .slice A n c] 33)
  have hBk := Blk.new w 33 #[.int .i64 u, .int .i64 l, .slice A n c]
  have hb := ext_alloc hb (.cells #[.int .i64 0, .int .i64 0, .slice none 0 0] 33)
  have hBk := hBk.alloc (.cells #[.int .i64 0, .int .i64 0, .slice none 0 0] 33)
  have hB4 := Blk.new (w.alloc (.cells #[.int .i64 u, .int .i64 l, .slice A n c] 33)) 33 #[.int .i64 0, .int .i64 0, .slice none 0 0]
  have hz1 : (w.alloc (.cells #[.int .i64 u, .int .i64 l, .slice A n c] 33)).heap.size = w.heap.size + 1 := by simp
  rw [hz1] at hB4
  generalize hw1 : (w.alloc (.cells #[.int .i64 u, .int .i64 l, .slice A n c] 33)).alloc (.cells #[.int .i64 0, .int .i64 0, .slice none 0 0] 33) = w1 at hb hBk hB4
  have HB := Lib.hid hb
  have HK := Lib.hid hBk
  have H4 := Lib.hid hB4
  have HW := Lib.hid hw1
  have RX := Lib.hid (h.below (hb.mono hB))
  have Z1 := Lib.hid (Nat.le_trans hB hb.size)
  have HZ1 := Lib.hid (show w1.heap.size = w.heap.size + 1 + 1 by rw [← hw1]; simp)
  clear h hb hBk hB4 hz1 hw1
  have x0 := HK.out.cell 0
  have x1 := HK.out.cell 1
  have x2 := HK.out.cell 2
  simp only [List.getElem?_toArray, List.getElem?_cons_zero, List.getElem?_cons_succ] at x0 x1 x2
  go_enter Try.func47, Try.ntmps47
  go_wp2_with fail
  rw [HW.out]
  refine (l13All_any u l A n c u0 u1 N _ hn8 hN hN2).mono ?_
  rintro e w2 ⟨tA, tn, tc, ths, rfl, htacc⟩
  generalize hts : tgts u l n N = ts at htacc HTI HTE hlen
  have HTS := Lib.hid hts
  have htn : ts.length = tn := by have := htacc.len; have := htacc.hlen; omega
  have hb2 := htacc.ext
  have HNEW := Lib.hid htacc.new
  have HL2 := Lib.hid (htacc.side (A' := none) (fun _ h => by cases h))
  have HK2 := Lib.hid (HK.out.below hb2 HK.out.lt)
  have H42 := Lib.hid (H4.out.below hb2 H4.out.lt)
  have RX2 := Lib.hid (RX.out.below (hb2.mono Z1.out))
  have ZX := Lib.hid (Nat.le_trans Z1.out hb2.size)
  have HB2 := Lib.hid (ext_trans HB.out hb2)
  have hl2 := HK2.out.lt
  have hl4 := H42.out.lt
  clear hts htacc hb2 x0 x1 x2
  have HB7 := Lib.hid (Blk.new w2 33 #[.int .i64 0, .int .i64 0, .slice none 0 0])
  go_wp2_with fail
  go_loopw [8, 9, 10] (fun p q i wr => ∃ (k : Nat) (U L : Int) (a : Option Addr) (m' c' : Nat), i = .int .i64 (k : Int) ∧ k ≤ tn ∧ p = .int .i64 (movV (pickL nearerB xs (ts.take k))) ∧ q = .int .i64 (pickL nearerB xs (ts.take k)).b ∧
    Blk wr w2.heap.size 33 #[.int .i64 U, .int .i64 L, .slice a m' c'] ∧ FrOk wr w2.heap.size w1.heap.size u l (pickL nearerB xs (ts.take k)) U L a m' c' ∧ Below w2.heap.size w2 wr) (fun _ _ i _ => tn - (intOf i).toNat)
  case atStart => exact ⟨0, 0, 0, none, 0, 0, rfl, by omega, rfl, rfl, HB7.out, ⟨fun h => (by cases h), fun _ => ⟨rfl, rfl, rfl, rfl, rfl⟩, fun h => (by cases h)⟩, ext_alloc (Below.refl _ _) _⟩
  case round =>
    obtain ⟨wq, rfl⟩ : ∃ wq : World, wq = wr := ⟨_, rfl⟩
    obtain ⟨k, U, L, a, m', c', rfl, hk, rfl, rfl, hbk, hfr, hbw⟩ := hrel
    have HBK := Lib.hid hbk
    have HFR := Lib.hid hfr
    have HQ := Lib.hid hbw
    have HLQ := Lib.hid (HL2.out.later hbw)
    have HKQ := Lib.hid (HK2.out.below hbw hl2)
    have RXQ := Lib.hid (RX2.out.below (hbw.mono ZX.out))
    have ZQ := Lib.hid (Nat.le_trans ZX.out hbw.size)
    have k0 : (0 : Int) ≤ k := by omega
    clear hbk hfr hbw
    by_cases hlt : k < tn
    · have k1' : (k : Int) < tn := by omega
      obtain ⟨b, o, y, t, hAy, hy, ht, hsy, hcy⟩ := HLQ.out.at_ (frC_len u l) (by omega) hlt
      subst hAy
      have HTM := Lib.hid (List.mem_of_getElem? ht)
      have htl := HTE.out t HTM.out
      have hyn : y.n = n := by have h1 := hsy.reads.rodLen; omega
      have hnw := fun (hp : 0 < n) => HNEW.out k y hy (by rw [hyn]; exact hp)
      have HNW := Lib.hid hnw
      have hS := hsy.reads
      rw [hyn] at hS
      have HS := Lib.hid hS
      have D0 := Lib.hid (hcy 0 _ rfl)
      have D1 := Lib.hid (hcy 1 _ rfl)
      have d2 := hcy 2 _ rfl
      rw [show y.v = .slice y.a n y.c by rw [← hyn]] at d2
      have D2 := Lib.hid d2
      have c0 := HKQ.out.cell 0
      have c1 := HKQ.out.cell 1
      have c2 := HKQ.out.cell 2
      simp only [List.getElem?_toArray, List.getElem?_cons_zero, List.getElem?_cons_succ] at c0 c1 c2
      have C0 := Lib.hid c0
      have C1 := Lib.hid c1
      have C2 := Lib.hid c2
      have HNX := Lib.hid (pickL_next (lt := nearerB) (xs := xs) ht)
      have hTI := HTI.out t HTM.out
      have hbd := wayOf_bd HXI.out hTI (by omega)
      have bX : Below wq.heap.size wq wq.drew := ext_drew (Below.refl _ _)
      obtain ⟨cur, hcur⟩ : ∃ cur, cur = pickL nearerB xs (ts.take k) := ⟨_, rfl⟩
      rw [← hcur] at HNX HFR ⊢
      have hpk := pick_bd (lt := nearerB) (xs := xs) (ts.take k) cur hcur
      have hpk2 : cur = way0 ∨ ∃ s, s.length = n ∧ (∀ x ∈ s, RodIn x) ∧ cur = wayOf xs s := by
        rcases hpk with h | ⟨s, hs, h⟩
        · exact .inl h
        · have hm := List.mem_of_mem_take hs
          exact .inr ⟨s, HTE.out s hm, HTI.out s hm, h⟩
      have HPK := Lib.hid hpk2
      clear hnw hcur hpk hpk2 ht hy hsy hcy hyn hS d2 c0 c1 c2
      go_wp2_with fail
      refine wp_region_held_drew (S := (fun W => (W.cell? ⟨w.heap.size, 0, none⟩ = some (.int .i64 u) ∧ W.cell? ⟨w.heap.size, 1, none⟩ = some (.int .i64 l) ∧ W.cell? ⟨w.heap.size, 2, none⟩ = some (.slice A n c)) ∧ W.cell? ⟨b, o + k * 3, none⟩ = some (.int .i64 u) ∧ W.cell? ⟨b, o + k * 3 + 1, none⟩ = some (.int .i64 l) ∧ W.cell? ⟨b, o + k * 3 + 2, none⟩ = some (.slice y.a n y.c))) (by kernel_rfl) ?_ (fun hHeld => ?_)
      · (try dsimp only); exact ⟨⟨below_cell (by assumption) C0.out, below_cell (by assumption) C1.out, below_cell (by assumption) C2.out⟩, below_cell (by assumption) D0.out, below_cell (by assumption) D1.out, below_cell (by assumption) D2.out⟩
      refine wpAnyH_takeD (i := 0) (v := ?_) 24 rfl rfl (by kernel_rfl) (by kernel_rfl) (by kernel_rfl) (fun _ _ _ _ _ h => h) (by rfl) (by assumption) ?_ ?_
      rotate_left; focus (intro w hSw; (try dsimp only at hSw); go_simp; try (with_reducible rfl))
      try simp only [Act.put, List.setIfInBounds_toArray, List.set_cons_zero, List.set_cons_succ]
      refine wpAnyH_takeD (i := 1) (v := ?_) 25 rfl rfl (by kernel_rfl) (by kernel_rfl) (by kernel_rfl) (fun _ _ _ _ _ h => h) (by rfl) (by assumption) ?_ ?_
      rotate_left; focus (intro w hSw; (try dsimp only at hSw); go_simp; try (with_reducible rfl))
      try simp only [Act.put, List.setIfInBounds_toArray, List.set_cons_zero, List.set_cons_succ]
      refine wpAnyH_takeD (i := 2) (v := ?_) 26 rfl rfl (by kernel_rfl) (by kernel_rfl) (by kernel_rfl) (fun _ _ _ _ _ h => h) (by rfl) (by assumption) ?_ ?_
      rotate_left; focus (intro w hSw; (try dsimp only at hSw); go_simp; try (with_reducible rfl))
      try simp only [Act.put, List.setIfInBounds_toArray, List.set_cons_zero, List.set_cons_succ]
      refine wpAnyH_takeD (i := 3) (v := ?_) 27 rfl rfl (by kernel_rfl) (by kernel_rfl) (by kernel_rfl) (fun _ _ _ _ _ h => h) (by rfl) (by assumption) ?_ ?_
      rotate_left; focus (intro w hSw; (try dsimp only at hSw); go_simp; try (with_reducible rfl))
      try simp only [Act.put, List.setIfInBounds_toArray, List.set_cons_zero, List.set_cons_succ]
      refine wpAnyH_takeD (i := 4) (v := ?_) 28 rfl rfl (by kernel_rfl) (by kernel_rfl) (by kernel_rfl) (fun _ _ _ _ _ h => h) (by rfl) (by assumption) ?_ ?_
      rotate_left; focus (intro w hSw; (try dsimp only at hSw); go_simp; try (with_reducible rfl))
      try simp only [Act.put, List.setIfInBounds_toArray, List.set_cons_zero, List.set_cons_succ]
      refine wpAnyH_ready (rs := [5]) (by kernel_rfl) (by simp) ?_
      refine AllReadyH.cons rfl (fun K hK => ?_) AllReadyH.nil
      go_simp; (go_at_call 44; refine (l4Between_any u l u l A y.a n c y.c _ _ xs t _ (RXQ.out.below (bX.mono ZQ.out)) (HS.out.below (bX.mono HQ.out.size)) (Nat.le_trans ZQ.out bX.size) (Nat.le_trans HQ.out.size bX.size) hn8 HXI.out (HTI.out t HTM.out)).mono ?_; rintro e w6 ⟨A6, n6, c6, rfl, a6⟩); have b6 := ext_trans bX a6.ext; (try dsimp only)
      refine hK.out _ _ ?_ (fun hHeld => ?_)
      focus ((try dsimp only); exact ⟨⟨below_cell (by assumption) C0.out, below_cell (by assumption) C1.out, below_cell (by assumption) C2.out⟩, below_cell (by assumption) D0.out, below_cell (by assumption) D1.out, below_cell (by assumption) D2.out⟩)
      clear hK K; try simp only [Act.put, List.setIfInBounds_toArray, List.set_cons_zero, List.set_cons_succ]
      refine wpAnyH_takeD (i := 6) (v := ?_) 11 rfl rfl (by kernel_rfl) (by kernel_rfl) (by kernel_rfl) (fun _ _ _ _ _ h => h) (by rfl) (by assumption) ?_ ?_
      rotate_left; focus (intro w hSw; (try dsimp only at hSw); go_simp; try (with_reducible rfl))
      try simp only [Act.put, List.setIfInBounds_toArray, List.set_cons_zero, List.set_cons_succ]
      refine wpAnyH_done (by kernel_rfl) ?_ _
      have a6' := a6
      clear hHeld
      have hn6 : (mvL xs t).length = n6 := by have h1 := a6.len; rw [bmvF_len] at h1; omega
      have hn16 : n6 ≤ 16 := by have h1 := hbd.1.2; unfold wayOf at h1; simp only at h1; omega
      have hbt : 0 ≤ bdS (mvL xs t) ∧ bdS (mvL xs t) ≤ 144 := hbd.2
      have HBB := Lib.hid (l4Beads_any A6 n6 c6 _ (mvL xs t) w6 a6.reads (by omega) (mvFr_in 0 xs t HXI.out hTI))
      have HWT := Lib.hid (show wayOf xs t = ⟨t, (n6 : Int), bdS (mvL xs t), true⟩ by unfold wayOf; rw [hn6])
      generalize bdS (mvL xs t) = BT at hbt HBB HWT
      clear a6 a6' hbd hn6
      go_wp2_with fail
      refine HBB.out.mono ?_
      rintro e w7 ⟨rfl, m7, hw7⟩
      have B7 := Lib.hid (show Below wq.heap.size wq w7 by rw [hw7]; exact ext_drewN b6 _)
      have E0 := Lib.hid (below_cell B7.out D0.out)
      have E1 := Lib.hid (below_cell B7.out D1.out)
      have E2 := Lib.hid (below_cell B7.out D2.out)
      have bX7 : Below w7.heap.size w7 w7.drew := ext_drew (Below.refl _ _)
      have hg7 := HBK.out.below B7.out HBK.out.lt
      have g2 := hg7.cell 2
      simp only [List.getElem?_toArray, List.getElem?_cons_zero, List.getElem?_cons_succ] at g2
      have G2 := Lib.hid g2
      have HG7 := Lib.hid hg7
      have HS7 := Lib.hid (HS.out.below ((B7.out).mono HQ.out.size))
      have HFR7 := Lib.hid (HFR.out.below ((B7.out).mono HQ.out.size))
      have HQ7 := Lib.hid (HQ.out.trans ((B7.out).mono HQ.out.size))
      have HTI' := Lib.hid hTI
      clear hw7 hg7 g2 hTI bX b6 C0 C1 C2 D0 D1 D2
      rcases HPK.out with hc | ⟨s, hsl, hsi, hc⟩
      · have d1 : decide (movV cur < 0) = true := by subst hc; rfl
        have d1' : movV cur < 0 := by subst hc; decide
        have HC := Lib.hid hc
        clear hc
        have HNR := Lib.hid (show nearerB ⟨t, (n6 : Int), BT, true⟩ cur = true by have hc := HC.out; subst hc; simp [nearerB, way0])
        have HNY := Lib.hid (show pickL nearerB xs (ts.take (k + 1)) = ⟨t, (n6 : Int), BT, true⟩ by rw [HNX.out, HWT.out, HNR.out]; simp)
        go_wp2_with fail
        refine wp_region_held_drew (S := (fun W => W.cell? ⟨b, o + k * 3 + 2, none⟩ = some (.slice y.a n y.c) ∧ W.cell? ⟨w2.heap.size, 2, none⟩ = some (.slice a m' c'))) (by kernel_rfl) ?_ (fun hHeld => ?_)
        · (try dsimp only); exact ⟨below_cell (by assumption) E2.out, below_cell (by assumption) G2.out⟩
        refine wpAnyH_takeD (i := 0) (v := ?_) 34 rfl rfl (by kernel_rfl) (by kernel_rfl) (by kernel_rfl) (fun _ _ _ _ _ h => h) (by rfl) (by assumption) ?_ ?_
        rotate_left; focus (intro w hSw; (try dsimp only at hSw); go_simp; try (with_reducible rfl))
        try simp only [Act.put, List.setIfInBounds_toArray, List.set_cons_zero, List.set_cons_succ]
        refine wpAnyH_takeD (i := 1) (v := ?_) 35 rfl rfl (by kernel_rfl) (by kernel_rfl) (by kernel_rfl) (fun _ _ _ _ _ h => h) (by rfl) (by assumption) ?_ ?_
        rotate_left; focus (intro w hSw; (try dsimp only at hSw); go_simp; try (with_reducible rfl))
        try simp only [Act.put, List.setIfInBounds_toArray, List.set_cons_zero, List.set_cons_succ]
        refine wpAnyH_takeD (i := 2) (v := ?_) 36 rfl rfl (by kernel_rfl) (by kernel_rfl) (by kernel_rfl) (fun _ _ _ _ _ h => h) (by rfl) (by assumption) ?_ ?_
        rotate_left; focus (intro w hSw; (try dsimp only at hSw); go_simp; try (with_reducible rfl))
        try simp only [Act.put, List.setIfInBounds_toArray, List.set_cons_zero, List.set_cons_succ]
        refine wpAnyH_skipsTo (by kernel_rfl) (fun _ _ _ _ _ h => h) (by assumption) [3, 4, 5] [37, 38, 39] 26 (by kernel_rfl) (by kernel_rfl) ?_
        try simp only [skipAct_nil, skipAct_cons, Act.put, List.setIfInBounds_toArray, List.set_cons_zero, List.set_cons_succ]
        refine wpAnyH_takeD (i := 6) (v := ?_) 40 rfl rfl (by kernel_rfl) (by kernel_rfl) (by kernel_rfl) (fun _ _ _ _ _ h => h) (by rfl) (by assumption) ?_ ?_
        rotate_left; focus (intro w hSw; (try dsimp only at hSw); go_simp; try (with_reducible rfl))
        try simp only [Act.put, List.setIfInBounds_toArray, List.set_cons_zero, List.set_cons_succ]
        refine wpAnyH_takeD (i := 7) (v := ?_) 41 rfl rfl (by kernel_rfl) (by kernel_rfl) (by kernel_rfl) (fun _ _ _ _ _ h => h) (by rfl) (by assumption) ?_ ?_
        rotate_left; focus (intro w hSw; (try dsimp only at hSw); go_simp; try (with_reducible rfl))
        try simp only [Act.put, List.setIfInBounds_toArray, List.set_cons_zero, List.set_cons_succ]
        refine wpAnyH_skipsTo (by kernel_rfl) (fun _ _ _ _ _ h => h) (by assumption) [8, 9, 10, 11, 12, 13, 14, 15, 16, 17, 18, 19, 20, 21, 22, 23, 24, 25, 26, 27, 28, 29, 30] [42, 43, 44, 45, 46, 47, 48, 49, 50, 51, 52, 53, 54, 55, 56, 57, 58, 59, 60, 61, 62, 63, 64] 1 (by kernel_rfl) (by kernel_rfl) ?_
        try simp only [skipAct_nil, skipAct_cons, Act.put, List.setIfInBounds_toArray, List.set_cons_zero, List.set_cons_succ]
        refine wpAnyH_takeD (i := 31) (v := ?_) 65 rfl rfl (by kernel_rfl) (by kernel_rfl) (by kernel_rfl) (fun _ _ _ _ _ h => h) (by rfl) (by assumption) ?_ ?_
        rotate_left; focus (intro w hSw; (try dsimp only at hSw); go_simp; try (with_reducible rfl))
        try simp only [Act.put, List.setIfInBounds_toArray, List.set_cons_zero, List.set_cons_succ]
        refine wpAnyH_done (by kernel_rfl) ?_ _
        clear hHeld
        have b8 := bX7
        have HG8 := Lib.hid (HG7.out.below b8 HG7.out.lt)
        have HFR8 := Lib.hid (HFR7.out.below (b8.mono HQ7.out.size))
        have HS8 := Lib.hid (HS7.out.below (b8.mono HQ7.out.size))
        have HQ8 := Lib.hid (HQ7.out.trans (b8.mono HQ7.out.size))
        have e0' := E0.out
        have e1' := E1.out
        have e2' := E2.out
        simp only [Nat.add_zero] at e0'
        have g0 := HG7.out.cell 0
        have g1 := HG7.out.cell 1
        have g2 := HG7.out.cell 2
        have f0 := HG7.out.frozen 0
        have f1 := HG7.out.frozen 1
        have f2 := HG7.out.frozen 2
        simp only [List.getElem?_toArray, List.getElem?_cons_zero, List.getElem?_cons_succ] at g0 g1 g2
        clear b8
        go_wp2_with fail
        have HZ := ((HG8.out.set_ 0 (.int .i64 u)).set_ 1 (.int .i64 l)).set_ 2 (.slice y.a n y.c)
        have hb := ext_set (ext_set (ext_set (p := ⟨w2.heap.size, 0, none⟩) HQ8.out (Nat.le_refl _) (.int .i64 u)) (p := ⟨w2.heap.size, 1, none⟩) (Nat.le_refl _) (.int .i64 l)) (p := ⟨w2.heap.size, 2, none⟩) (Nat.le_refl _) (.slice y.a n y.c)
        have hr := ((HS8.out.setCell (p := ⟨w2.heap.size, 0, none⟩) (Nat.le_refl _) (.int .i64 u)).setCell (p := ⟨w2.heap.size, 1, none⟩) (Nat.le_refl _) (.int .i64 l)).setCell (p := ⟨w2.heap.size, 2, none⟩) (Nat.le_refl _) (.slice y.a n y.c)
        simp only [List.setIfInBounds_toArray, List.set_cons_zero, List.set_cons_succ] at HZ
        go_roundw
        case rel => exact ⟨k + 1, u, l, y.a, n, y.c, by go_num, by omega, by rw [HNY.out]; rfl, by rw [HNY.out], HZ, by rw [HNY.out]; exact ⟨fun _ => ⟨rfl, rfl, hr⟩, fun h => (by cases h), fun _ hp => HNW.out hp⟩, hb⟩
        case measure => simp [intOf]; omega
      · have hco : cur.ok = true := by rw [hc]; rfl
        have hcm : movV cur = cur.m := by unfold movV; rw [if_pos hco]
        have hcr : cur.rods = s := by rw [hc]; rfl
        have hcb := wayOf_bd HXI.out hsi (by omega)
        rw [← hc] at hcb
        obtain ⟨⟨m0, m1⟩, b0, b1⟩ := hcb
        have d1 : decide (movV cur < 0) = false := by rw [hcm]; simp; omega
        obtain ⟨_, _, hrc⟩ := HFR7.out.yes hco
        rw [hcr] at hrc
        have hm' : n = m' := by have := hrc.rodLen; omega
        subst hm'
        have HRC := Lib.hid hrc
        have HC := Lib.hid hc
        have HCM := Lib.hid hcm
        have HCR := Lib.hid hcr
        have HCO := Lib.hid hco
        have HSI := Lib.hid hsi
        have e0 : -1 ≤ movV cur ∧ movV cur ≤ 16 ∧ 0 ≤ movV cur := by rw [hcm]; omega
        clear hrc hcr hc hsi hco hcm
        rcases (show (n6 : Int) < movV cur ∨ (n6 : Int) = movV cur ∨ movV cur < (n6 : Int) by omega) with hm | hm | hm
        · have d2 : decide ((n6 : Int) < movV cur) = true := by simp; omega
          have HNR := Lib.hid (show nearerB ⟨t, (n6 : Int), BT, true⟩ cur = true by have hco := HCO.out; have hcm := HCM.out; unfold nearerB; simp only [hco, if_true]; rw [if_neg (by omega)]; simp; omega)
          have HNY := Lib.hid (show pickL nearerB xs (ts.take (k + 1)) = ⟨t, (n6 : Int), BT, true⟩ by rw [HNX.out, HWT.out, HNR.out]; simp)
          go_wp2_with fail
          refine wp_region_held_drew (S := (fun W => W.cell? ⟨b, o + k * 3 + 2, none⟩ = some (.slice y.a n y.c) ∧ W.cell? ⟨w2.heap.size, 2, none⟩ = some (.slice a n c'))) (by kernel_rfl) ?_ (fun hHeld => ?_)
          · (try dsimp only); exact ⟨below_cell (by assumption) E2.out, below_cell (by assumption) G2.out⟩
          refine wpAnyH_takeD (i := 0) (v := ?_) 34 rfl rfl (by kernel_rfl) (by kernel_rfl) (by kernel_rfl) (fun _ _ _ _ _ h => h) (by rfl) (by assumption) ?_ ?_
          rotate_left; focus (intro w hSw; (try dsimp only at hSw); go_simp; try (with_reducible rfl))
          try simp only [Act.put, List.setIfInBounds_toArray, List.set_cons_zero, List.set_cons_succ]
          refine wpAnyH_takeD (i := 1) (v := ?_) 35 rfl rfl (by kernel_rfl) (by kernel_rfl) (by kernel_rfl) (fun _ _ _ _ _ h => h) (by rfl) (by assumption) ?_ ?_
          rotate_left; focus (intro w hSw; (try dsimp only at hSw); go_simp; try (with_reducible rfl))
          try simp only [Act.put, List.setIfInBounds_toArray, List.set_cons_zero, List.set_cons_succ]
          refine wpAnyH_takeD (i := 2) (v := ?_) 36 rfl rfl (by kernel_rfl) (by kernel_rfl) (by kernel_rfl) (fun _ _ _ _ _ h => h) (by rfl) (by assumption) ?_ ?_
          rotate_left; focus (intro w hSw; (try dsimp only at hSw); go_simp; try (with_reducible rfl))
          try simp only [Act.put, List.setIfInBounds_toArray, List.set_cons_zero, List.set_cons_succ]
          refine wpAnyH_takeD (i := 3) (v := ?_) 37 rfl rfl (by kernel_rfl) (by kernel_rfl) (by kernel_rfl) (fun _ _ _ _ _ h => h) (by rfl) (by assumption) ?_ ?_
          rotate_left; focus (intro w hSw; (try dsimp only at hSw); go_simp; try (with_reducible rfl))
          try simp only [Act.put, List.setIfInBounds_toArray, List.set_cons_zero, List.set_cons_succ]
          refine wpAnyH_takeD (i := 4) (v := ?_) 38 rfl rfl (by kernel_rfl) (by kernel_rfl) (by kernel_rfl) (fun _ _ _ _ _ h => h) (by rfl) (by assumption) ?_ ?_
          rotate_left; focus (intro w hSw; (try dsimp only at hSw); go_simp; try (with_reducible rfl))
          try simp only [Act.put, List.setIfInBounds_toArray, List.set_cons_zero, List.set_cons_succ]
          refine wpAnyH_takeD (i := 5) (v := ?_) 39 rfl rfl (by kernel_rfl) (by kernel_rfl) (by kernel_rfl) (fun _ _ _ _ _ h => h) (by rfl) (by assumption) ?_ ?_
          rotate_left; focus (intro w hSw; (try dsimp only at hSw); go_simp; try (with_reducible rfl))
          try simp only [Act.put, List.setIfInBounds_toArray, List.set_cons_zero, List.set_cons_succ]
          refine wpAnyH_takeD (i := 6) (v := ?_) 40 rfl rfl (by kernel_rfl) (by kernel_rfl) (by kernel_rfl) (fun _ _ _ _ _ h => h) (by rfl) (by assumption) ?_ ?_
          rotate_left; focus (intro w hSw; (try dsimp only at hSw); go_simp; try (with_reducible rfl))
          try simp only [Act.put, List.setIfInBounds_toArray, List.set_cons_zero, List.set_cons_succ]
          refine wpAnyH_takeD (i := 7) (v := ?_) 41 rfl rfl (by kernel_rfl) (by kernel_rfl) (by kernel_rfl) (fun _ _ _ _ _ h => h) (by rfl) (by assumption) ?_ ?_
          rotate_left; focus (intro w hSw; (try dsimp only at hSw); go_simp; try (with_reducible rfl))
          try simp only [Act.put, List.setIfInBounds_toArray, List.set_cons_zero, List.set_cons_succ]
          refine wpAnyH_skipsTo (by kernel_rfl) (fun _ _ _ _ _ h => h) (by assumption) [8, 9, 10, 11, 12, 13, 14, 15, 16, 17, 18, 19, 20, 21, 22, 23, 24, 25, 26, 27, 28, 29, 30] [42, 43, 44, 45, 46, 47, 48, 49, 50, 51, 52, 53, 54, 55, 56, 57, 58, 59, 60, 61, 62, 63, 64] 1 (by kernel_rfl) (by kernel_rfl) ?_
          try simp only [skipAct_nil, skipAct_cons, Act.put, List.setIfInBounds_toArray, List.set_cons_zero, List.set_cons_succ]
          refine wpAnyH_takeD (i := 31) (v := ?_) 65 rfl rfl (by kernel_rfl) (by kernel_rfl) (by kernel_rfl) (fun _ _ _ _ _ h => h) (by rfl) (by assumption) ?_ ?_
          rotate_left; focus (intro w hSw; (try dsimp only at hSw); go_simp; try (with_reducible rfl))
          try simp only [Act.put, List.setIfInBounds_toArray, List.set_cons_zero, List.set_cons_succ]
          refine wpAnyH_done (by kernel_rfl) ?_ _
          clear hHeld
          have b8 := bX7
          have HG8 := Lib.hid (HG7.out.below b8 HG7.out.lt)
          have HFR8 := Lib.hid (HFR7.out.below (b8.mono HQ7.out.size))
          have HS8 := Lib.hid (HS7.out.below (b8.mono HQ7.out.size))
          have HQ8 := Lib.hid (HQ7.out.trans (b8.mono HQ7.out.size))
          have e0' := E0.out
          have e1' := E1.out
          have e2' := E2.out
          simp only [Nat.add_zero] at e0'
          have g0 := HG7.out.cell 0
          have g1 := HG7.out.cell 1
          have g2 := HG7.out.cell 2
          have f0 := HG7.out.frozen 0
          have f1 := HG7.out.frozen 1
          have f2 := HG7.out.frozen 2
          simp only [List.getElem?_toArray, List.getElem?_cons_zero, List.getElem?_cons_succ] at g0 g1 g2
          clear b8
          go_wp2_with fail
          have HZ := ((HG8.out.set_ 0 (.int .i64 u)).set_ 1 (.int .i64 l)).set_ 2 (.slice y.a n y.c)
          have hb := ext_set (ext_set (ext_set (p := ⟨w2.heap.size, 0, none⟩) HQ8.out (Nat.le_refl _) (.int .i64 u)) (p := ⟨w2.heap.size, 1, none⟩) (Nat.le_refl _) (.int .i64 l)) (p := ⟨w2.heap.size, 2, none⟩) (Nat.le_refl _) (.slice y.a n y.c)
          have hr := ((HS8.out.setCell (p := ⟨w2.heap.size, 0, none⟩) (Nat.le_refl _) (.int .i64 u)).setCell (p := ⟨w2.heap.size, 1, none⟩) (Nat.le_refl _) (.int .i64 l)).setCell (p := ⟨w2.heap.size, 2, none⟩) (Nat.le_refl _) (.slice y.a n y.c)
          simp only [List.setIfInBounds_toArray, List.set_cons_zero, List.set_cons_succ] at HZ
          go_roundw
          case rel => exact ⟨k + 1, u, l, y.a, n, y.c, by go_num, by omega, by rw [HNY.out]; rfl, by rw [HNY.out], HZ, by rw [HNY.out]; exact ⟨fun _ => ⟨rfl, rfl, hr⟩, fun h => (by cases h), fun _ hp => HNW.out hp⟩, hb⟩
          case measure => simp [intOf]; omega
        · have d2 : decide ((n6 : Int) < movV cur) = false := by simp; omega
          have d3 : ((n6 : Int) == movV cur) = true := by simp; omega
          have HM := Lib.hid hm
          clear hm
          rcases (show BT < cur.b ∨ BT = cur.b ∨ cur.b < BT by omega) with hb | hb | hb
          · have d4 : decide (BT < cur.b) = true := by simp; omega
            have HNR := Lib.hid (show nearerB ⟨t, (n6 : Int), BT, true⟩ cur = true by have hco := HCO.out; have hcm := HCM.out; unfold nearerB; simp only [hco, if_true]; have hm := HM.out; rw [if_pos (by omega), if_neg (by omega)]; simp; omega)
            have HNY := Lib.hid (show pickL nearerB xs (ts.take (k + 1)) = ⟨t, (n6 : Int), BT, true⟩ by rw [HNX.out, HWT.out, HNR.out]; simp)
            go_wp2_with fail
            refine wp_region_held_drew (S := (fun W => W.cell? ⟨b, o + k * 3 + 2, none⟩ = some (.slice y.a n y.c) ∧ W.cell? ⟨w2.heap.size, 2, none⟩ = some (.slice a n c'))) (by kernel_rfl) ?_ (fun hHeld => ?_)
            · (try dsimp only); exact ⟨below_cell (by assumption) E2.out, below_cell (by assumption) G2.out⟩
            refine wpAnyH_takeD (i := 0) (v := ?_) 34 rfl rfl (by kernel_rfl) (by kernel_rfl) (by kernel_rfl) (fun _ _ _ _ _ h => h) (by rfl) (by assumption) ?_ ?_
            rotate_left; focus (intro w hSw; (try dsimp only at hSw); go_simp; try (with_reducible rfl))
            try simp only [Act.put, List.setIfInBounds_toArray, List.set_cons_zero, List.set_cons_succ]
            refine wpAnyH_takeD (i := 1) (v := ?_) 35 rfl rfl (by kernel_rfl) (by kernel_rfl) (by kernel_rfl) (fun _ _ _ _ _ h => h) (by rfl) (by assumption) ?_ ?_
            rotate_left; focus (intro w hSw; (try dsimp only at hSw); go_simp; try (with_reducible rfl))
            try simp only [Act.put, List.setIfInBounds_toArray, List.set_cons_zero, List.set_cons_succ]
            refine wpAnyH_takeD (i := 2) (v := ?_) 36 rfl rfl (by kernel_rfl) (by kernel_rfl) (by kernel_rfl) (fun _ _ _ _ _ h => h) (by rfl) (by assumption) ?_ ?_
            rotate_left; focus (intro w hSw; (try dsimp only at hSw); go_simp; try (with_reducible rfl))
            try simp only [Act.put, List.setIfInBounds_toArray, List.set_cons_zero, List.set_cons_succ]
            refine wpAnyH_takeD (i := 3) (v := ?_) 37 rfl rfl (by kernel_rfl) (by kernel_rfl) (by kernel_rfl) (fun _ _ _ _ _ h => h) (by rfl) (by assumption) ?_ ?_
            rotate_left; focus (intro w hSw; (try dsimp only at hSw); go_simp; try (with_reducible rfl))
            try simp only [Act.put, List.setIfInBounds_toArray, List.set_cons_zero, List.set_cons_succ]
            refine wpAnyH_takeD (i := 4) (v := ?_) 38 rfl rfl (by kernel_rfl) (by kernel_rfl) (by kernel_rfl) (fun _ _ _ _ _ h => h) (by rfl) (by assumption) ?_ ?_
            rotate_left; focus (intro w hSw; (try dsimp only at hSw); go_simp; try (with_reducible rfl))
            try simp only [Act.put, List.setIfInBounds_toArray, List.set_cons_zero, List.set_cons_succ]
            refine wpAnyH_takeD (i := 5) (v := ?_) 39 rfl rfl (by kernel_rfl) (by kernel_rfl) (by kernel_rfl) (fun _ _ _ _ _ h => h) (by rfl) (by assumption) ?_ ?_
            rotate_left; focus (intro w hSw; (try dsimp only at hSw); go_simp; try (with_reducible rfl))
            try simp only [Act.put, List.setIfInBounds_toArray, List.set_cons_zero, List.set_cons_succ]
            refine wpAnyH_takeD (i := 6) (v := ?_) 40 rfl rfl (by kernel_rfl) (by kernel_rfl) (by kernel_rfl) (fun _ _ _ _ _ h => h) (by rfl) (by assumption) ?_ ?_
            rotate_left; focus (intro w hSw; (try dsimp only at hSw); go_simp; try (with_reducible rfl))
            try simp only [Act.put, List.setIfInBounds_toArray, List.set_cons_zero, List.set_cons_succ]
            refine wpAnyH_takeD (i := 7) (v := ?_) 41 rfl rfl (by kernel_rfl) (by kernel_rfl) (by kernel_rfl) (fun _ _ _ _ _ h => h) (by rfl) (by assumption) ?_ ?_
            rotate_left; focus (intro w hSw; (try dsimp only at hSw); go_simp; try (with_reducible rfl))
            try simp only [Act.put, List.setIfInBounds_toArray, List.set_cons_zero, List.set_cons_succ]
            refine wpAnyH_takeD (i := 8) (v := ?_) 42 rfl rfl (by kernel_rfl) (by kernel_rfl) (by kernel_rfl) (fun _ _ _ _ _ h => h) (by rfl) (by assumption) ?_ ?_
            rotate_left; focus (intro w hSw; (try dsimp only at hSw); go_simp; try (with_reducible rfl))
            try simp only [Act.put, List.setIfInBounds_toArray, List.set_cons_zero, List.set_cons_succ]
            refine wpAnyH_takeD (i := 9) (v := ?_) 43 rfl rfl (by kernel_rfl) (by kernel_rfl) (by kernel_rfl) (fun _ _ _ _ _ h => h) (by rfl) (by assumption) ?_ ?_
            rotate_left; focus (intro w hSw; (try dsimp only at hSw); go_simp; try (with_reducible rfl))
            try simp only [Act.put, List.setIfInBounds_toArray, List.set_cons_zero, List.set_cons_succ]
            refine wpAnyH_takeD (i := 10) (v := ?_) 44 rfl rfl (by kernel_rfl) (by kernel_rfl) (by kernel_rfl) (fun _ _ _ _ _ h => h) (by rfl) (by assumption) ?_ ?_
            rotate_left; focus (intro w hSw; (try dsimp only at hSw); go_simp; try (with_reducible rfl))
            try simp only [Act.put, List.setIfInBounds_toArray, List.set_cons_zero, List.set_cons_succ]
            refine wpAnyH_takeD (i := 11) (v := ?_) 45 rfl rfl (by kernel_rfl) (by kernel_rfl) (by kernel_rfl) (fun _ _ _ _ _ h => h) (by rfl) (by assumption) ?_ ?_
            rotate_left; focus (intro w hSw; (try dsimp only at hSw); go_simp; try (with_reducible rfl))
            try simp only [Act.put, List.setIfInBounds_toArray, List.set_cons_zero, List.set_cons_succ]
            refine wpAnyH_takeD (i := 12) (v := ?_) 46 rfl rfl (by kernel_rfl) (by kernel_rfl) (by kernel_rfl) (fun _ _ _ _ _ h => h) (by rfl) (by assumption) ?_ ?_
            rotate_left; focus (intro w hSw; (try dsimp only at hSw); go_simp; try (with_reducible rfl))
            try simp only [Act.put, List.setIfInBounds_toArray, List.set_cons_zero, List.set_cons_succ]
            refine wpAnyH_takeD (i := 13) (v := ?_) 47 rfl rfl (by kernel_rfl) (by kernel_rfl) (by kernel_rfl) (fun _ _ _ _ _ h => h) (by rfl) (by assumption) ?_ ?_
            rotate_left; focus (intro w hSw; (try dsimp only at hSw); go_simp; try (with_reducible rfl))
            try simp only [Act.put, List.setIfInBounds_toArray, List.set_cons_zero, List.set_cons_succ]
            refine wpAnyH_takeD (i := 14) (v := ?_) 48 rfl rfl (by kernel_rfl) (by kernel_rfl) (by kernel_rfl) (fun _ _ _ _ _ h => h) (by rfl) (by assumption) ?_ ?_
            rotate_left; focus (intro w hSw; (try dsimp only at hSw); go_simp; try (with_reducible rfl))
            try simp only [Act.put, List.setIfInBounds_toArray, List.set_cons_zero, List.set_cons_succ]
            refine wpAnyH_takeD (i := 15) (v := ?_) 49 rfl rfl (by kernel_rfl) (by kernel_rfl) (by kernel_rfl) (fun _ _ _ _ _ h => h) (by rfl) (by assumption) ?_ ?_
            rotate_left; focus (intro w hSw; (try dsimp only at hSw); go_simp; try (with_reducible rfl))
            try simp only [Act.put, List.setIfInBounds_toArray, List.set_cons_zero, List.set_cons_succ]
            refine wpAnyH_skipsTo (by kernel_rfl) (fun _ _ _ _ _ h => h) (by assumption) [16, 17, 18, 19, 20, 21, 22, 23, 24, 25, 26, 27, 28] [50, 51, 52, 53, 54, 55, 56, 57, 58, 59, 60, 61, 62] 3 (by kernel_rfl) (by kernel_rfl) ?_
            try simp only [skipAct_nil, skipAct_cons, Act.put, List.setIfInBounds_toArray, List.set_cons_zero, List.set_cons_succ]
            refine wpAnyH_takeD (i := 29) (v := ?_) 63 rfl rfl (by kernel_rfl) (by kernel_rfl) (by kernel_rfl) (fun _ _ _ _ _ h => h) (by rfl) (by assumption) ?_ ?_
            rotate_left; focus (intro w hSw; (try dsimp only at hSw); go_simp; try (with_reducible rfl))
            try simp only [Act.put, List.setIfInBounds_toArray, List.set_cons_zero, List.set_cons_succ]
            refine wpAnyH_takeD (i := 30) (v := ?_) 64 rfl rfl (by kernel_rfl) (by kernel_rfl) (by kernel_rfl) (fun _ _ _ _ _ h => h) (by rfl) (by assumption) ?_ ?_
            rotate_left; focus (intro w hSw; (try dsimp only at hSw); go_simp; try (with_reducible rfl))
            try simp only [Act.put, List.setIfInBounds_toArray, List.set_cons_zero, List.set_cons_succ]
            refine wpAnyH_takeD (i := 31) (v := ?_) 65 rfl rfl (by kernel_rfl) (by kernel_rfl) (by kernel_rfl) (fun _ _ _ _ _ h => h) (by rfl) (by assumption) ?_ ?_
            rotate_left; focus (intro w hSw; (try dsimp only at hSw); go_simp; try (with_reducible rfl))
            try simp only [Act.put, List.setIfInBounds_toArray, List.set_cons_zero, List.set_cons_succ]
            refine wpAnyH_done (by kernel_rfl) ?_ _
            clear hHeld
            have b8 := bX7
            have HG8 := Lib.hid (HG7.out.below b8 HG7.out.lt)
            have HFR8 := Lib.hid (HFR7.out.below (b8.mono HQ7.out.size))
            have HS8 := Lib.hid (HS7.out.below (b8.mono HQ7.out.size))
            have HQ8 := Lib.hid (HQ7.out.trans (b8.mono HQ7.out.size))
            have e0' := E0.out
            have e1' := E1.out
            have e2' := E2.out
            simp only [Nat.add_zero] at e0'
            have g0 := HG7.out.cell 0
            have g1 := HG7.out.cell 1
            have g2 := HG7.out.cell 2
            have f0 := HG7.out.frozen 0
            have f1 := HG7.out.frozen 1
            have f2 := HG7.out.frozen 2
            simp only [List.getElem?_toArray, List.getElem?_cons_zero, List.getElem?_cons_succ] at g0 g1 g2
            clear b8
            go_wp2_with fail
            have HZ := ((HG8.out.set_ 0 (.int .i64 u)).set_ 1 (.int .i64 l)).set_ 2 (.slice y.a n y.c)
            have hb := ext_set (ext_set (ext_set (p := ⟨w2.heap.size, 0, none⟩) HQ8.out (Nat.le_refl _) (.int .i64 u)) (p := ⟨w2.heap.size, 1, none⟩) (Nat.le_refl _) (.int .i64 l)) (p := ⟨w2.heap.size, 2, none⟩) (Nat.le_refl _) (.slice y.a n y.c)
            have hr := ((HS8.out.setCell (p := ⟨w2.heap.size, 0, none⟩) (Nat.le_refl _) (.int .i64 u)).setCell (p := ⟨w2.heap.size, 1, none⟩) (Nat.le_refl _) (.int .i64 l)).setCell (p := ⟨w2.heap.size, 2, none⟩) (Nat.le_refl _) (.slice y.a n y.c)
            simp only [List.setIfInBounds_toArray, List.set_cons_zero, List.set_cons_succ] at HZ
            go_roundw
            case rel => exact ⟨k + 1, u, l, y.a, n, y.c, by go_num, by omega, by rw [HNY.out]; rfl, by rw [HNY.out], HZ, by rw [HNY.out]; exact ⟨fun _ => ⟨rfl, rfl, hr⟩, fun h => (by cases h), fun _ hp => HNW.out hp⟩, hb⟩
            case measure => simp [intOf]; omega
          · have d4 : decide (BT < cur.b) = false := by simp; omega
            have d5 : (BT == cur.b) = true := by simp; omega
            have HBQ := Lib.hid hb
            clear hb
            cases hbe : befB t s
            · have HBE := Lib.hid hbe
              clear hbe
              have HNR := Lib.hid (show nearerB ⟨t, (n6 : Int), BT, true⟩ cur = false by have hco := HCO.out; have hcm := HCM.out; unfold nearerB; simp only [hco, if_true]; have hm := HM.out; have hb := HBQ.out; rw [if_pos (by omega), if_pos (by omega), HCR.out]; exact HBE.out)
              have HNY := Lib.hid (show pickL nearerB xs (ts.take (k + 1)) = cur by rw [HNX.out, HWT.out, HNR.out]; simp)
              go_wp2_with fail
              refine wp_region_held_drew (S := (fun W => W.cell? ⟨b, o + k * 3 + 2, none⟩ = some (.slice y.a n y.c) ∧ W.cell? ⟨w2.heap.size, 2, none⟩ = some (.slice a n c'))) (by kernel_rfl) ?_ (fun hHeld => ?_)
              · (try dsimp only); exact ⟨below_cell (by assumption) E2.out, below_cell (by assumption) G2.out⟩
              refine wpAnyH_takeD (i := 0) (v := ?_) 34 rfl rfl (by kernel_rfl) (by kernel_rfl) (by kernel_rfl) (fun _ _ _ _ _ h => h) (by rfl) (by assumption) ?_ ?_
              rotate_left; focus (intro w hSw; (try dsimp only at hSw); go_simp; try (with_reducible rfl))
              try simp only [Act.put, List.setIfInBounds_toArray, List.set_cons_zero, List.set_cons_succ]
              refine wpAnyH_takeD (i := 1) (v := ?_) 35 rfl rfl (by kernel_rfl) (by kernel_rfl) (by kernel_rfl) (fun _ _ _ _ _ h => h) (by rfl) (by assumption) ?_ ?_
              rotate_left; focus (intro w hSw; (try dsimp only at hSw); go_simp; try (with_reducible rfl))
              try simp only [Act.put, List.setIfInBounds_toArray, List.set_cons_zero, List.set_cons_succ]
              refine wpAnyH_takeD (i := 2) (v := ?_) 36 rfl rfl (by kernel_rfl) (by kernel_rfl) (by kernel_rfl) (fun _ _ _ _ _ h => h) (by rfl) (by assumption) ?_ ?_
              rotate_left; focus (intro w hSw; (try dsimp only at hSw); go_simp; try (with_reducible rfl))
              try simp only [Act.put, List.setIfInBounds_toArray, List.set_cons_zero, List.set_cons_succ]
              refine wpAnyH_takeD (i := 3) (v := ?_) 37 rfl rfl (by kernel_rfl) (by kernel_rfl) (by kernel_rfl) (fun _ _ _ _ _ h => h) (by rfl) (by assumption) ?_ ?_
              rotate_left; focus (intro w hSw; (try dsimp only at hSw); go_simp; try (with_reducible rfl))
              try simp only [Act.put, List.setIfInBounds_toArray, List.set_cons_zero, List.set_cons_succ]
              refine wpAnyH_takeD (i := 4) (v := ?_) 38 rfl rfl (by kernel_rfl) (by kernel_rfl) (by kernel_rfl) (fun _ _ _ _ _ h => h) (by rfl) (by assumption) ?_ ?_
              rotate_left; focus (intro w hSw; (try dsimp only at hSw); go_simp; try (with_reducible rfl))
              try simp only [Act.put, List.setIfInBounds_toArray, List.set_cons_zero, List.set_cons_succ]
              refine wpAnyH_takeD (i := 5) (v := ?_) 39 rfl rfl (by kernel_rfl) (by kernel_rfl) (by kernel_rfl) (fun _ _ _ _ _ h => h) (by rfl) (by assumption) ?_ ?_
              rotate_left; focus (intro w hSw; (try dsimp only at hSw); go_simp; try (with_reducible rfl))
              try simp only [Act.put, List.setIfInBounds_toArray, List.set_cons_zero, List.set_cons_succ]
              refine wpAnyH_takeD (i := 6) (v := ?_) 40 rfl rfl (by kernel_rfl) (by kernel_rfl) (by kernel_rfl) (fun _ _ _ _ _ h => h) (by rfl) (by assumption) ?_ ?_
              rotate_left; focus (intro w hSw; (try dsimp only at hSw); go_simp; try (with_reducible rfl))
              try simp only [Act.put, List.setIfInBounds_toArray, List.set_cons_zero, List.set_cons_succ]
              refine wpAnyH_takeD (i := 7) (v := ?_) 41 rfl rfl (by kernel_rfl) (by kernel_rfl) (by kernel_rfl) (fun _ _ _ _ _ h => h) (by rfl) (by assumption) ?_ ?_
              rotate_left; focus (intro w hSw; (try dsimp only at hSw); go_simp; try (with_reducible rfl))
              try simp only [Act.put, List.setIfInBounds_toArray, List.set_cons_zero, List.set_cons_succ]
              refine wpAnyH_takeD (i := 8) (v := ?_) 42 rfl rfl (by kernel_rfl) (by kernel_rfl) (by kernel_rfl) (fun _ _ _ _ _ h => h) (by rfl) (by assumption) ?_ ?_
              rotate_left; focus (intro w hSw; (try dsimp only at hSw); go_simp; try (with_reducible rfl))
              try simp only [Act.put, List.setIfInBounds_toArray, List.set_cons_zero, List.set_cons_succ]
              refine wpAnyH_takeD (i := 9) (v := ?_) 43 rfl rfl (by kernel_rfl) (by kernel_rfl) (by kernel_rfl) (fun _ _ _ _ _ h => h) (by rfl) (by assumption) ?_ ?_
              rotate_left; focus (intro w hSw; (try dsimp only at hSw); go_simp; try (with_reducible rfl))
              try simp only [Act.put, List.setIfInBounds_toArray, List.set_cons_zero, List.set_cons_succ]
              refine wpAnyH_takeD (i := 10) (v := ?_) 44 rfl rfl (by kernel_rfl) (by kernel_rfl) (by kernel_rfl) (fun _ _ _ _ _ h => h) (by rfl) (by assumption) ?_ ?_
              rotate_left; focus (intro w hSw; (try dsimp only at hSw); go_simp; try (with_reducible rfl))
              try simp only [Act.put, List.setIfInBounds_toArray, List.set_cons_zero, List.set_cons_succ]
              refine wpAnyH_takeD (i := 11) (v := ?_) 45 rfl rfl (by kernel_rfl) (by kernel_rfl) (by kernel_rfl) (fun _ _ _ _ _ h => h) (by rfl) (by assumption) ?_ ?_
              rotate_left; focus (intro w hSw; (try dsimp only at hSw); go_simp; try (with_reducible rfl))
              try simp only [Act.put, List.setIfInBounds_toArray, List.set_cons_zero, List.set_cons_succ]
              refine wpAnyH_takeD (i := 12) (v := ?_) 46 rfl rfl (by kernel_rfl) (by kernel_rfl) (by kernel_rfl) (fun _ _ _ _ _ h => h) (by rfl) (by assumption) ?_ ?_
              rotate_left; focus (intro w hSw; (try dsimp only at hSw); go_simp; try (with_reducible rfl))
              try simp only [Act.put, List.setIfInBounds_toArray, List.set_cons_zero, List.set_cons_succ]
              refine wpAnyH_takeD (i := 13) (v := ?_) 47 rfl rfl (by kernel_rfl) (by kernel_rfl) (by kernel_rfl) (fun _ _ _ _ _ h => h) (by rfl) (by assumption) ?_ ?_
              rotate_left; focus (intro w hSw; (try dsimp only at hSw); go_simp; try (with_reducible rfl))
              try simp only [Act.put, List.setIfInBounds_toArray, List.set_cons_zero, List.set_cons_succ]
              refine wpAnyH_takeD (i := 14) (v := ?_) 48 rfl rfl (by kernel_rfl) (by kernel_rfl) (by kernel_rfl) (fun _ _ _ _ _ h => h) (by rfl) (by assumption) ?_ ?_
              rotate_left; focus (intro w hSw; (try dsimp only at hSw); go_simp; try (with_reducible rfl))
              try simp only [Act.put, List.setIfInBounds_toArray, List.set_cons_zero, List.set_cons_succ]
              refine wpAnyH_takeD (i := 15) (v := ?_) 49 rfl rfl (by kernel_rfl) (by kernel_rfl) (by kernel_rfl) (fun _ _ _ _ _ h => h) (by rfl) (by assumption) ?_ ?_
              rotate_left; focus (intro w hSw; (try dsimp only at hSw); go_simp; try (with_reducible rfl))
              try simp only [Act.put, List.setIfInBounds_toArray, List.set_cons_zero, List.set_cons_succ]
              refine wpAnyH_takeD (i := 16) (v := ?_) 50 rfl rfl (by kernel_rfl) (by kernel_rfl) (by kernel_rfl) (fun _ _ _ _ _ h => h) (by rfl) (by assumption) ?_ ?_
              rotate_left; focus (intro w hSw; (try dsimp only at hSw); go_simp; try (with_reducible rfl))
              try simp only [Act.put, List.setIfInBounds_toArray, List.set_cons_zero, List.set_cons_succ]
              refine wpAnyH_takeD (i := 17) (v := ?_) 51 rfl rfl (by kernel_rfl) (by kernel_rfl) (by kernel_rfl) (fun _ _ _ _ _ h => h) (by rfl) (by assumption) ?_ ?_
              rotate_left; focus (intro w hSw; (try dsimp only at hSw); go_simp; try (with_reducible rfl))
              try simp only [Act.put, List.setIfInBounds_toArray, List.set_cons_zero, List.set_cons_succ]
              refine wpAnyH_takeD (i := 18) (v := ?_) 52 rfl rfl (by kernel_rfl) (by kernel_rfl) (by kernel_rfl) (fun _ _ _ _ _ h => h) (by rfl) (by assumption) ?_ ?_
              rotate_left; focus (intro w hSw; (try dsimp only at hSw); go_simp; try (with_reducible rfl))
              try simp only [Act.put, List.setIfInBounds_toArray, List.set_cons_zero, List.set_cons_succ]
              refine wpAnyH_takeD (i := 19) (v := ?_) 53 rfl rfl (by kernel_rfl) (by kernel_rfl) (by kernel_rfl) (fun _ _ _ _ _ h => h) (by rfl) (by assumption) ?_ ?_
              rotate_left; focus (intro w hSw; (try dsimp only at hSw); go_simp; try (with_reducible rfl))
              try simp only [Act.put, List.setIfInBounds_toArray, List.set_cons_zero, List.set_cons_succ]
              refine wpAnyH_takeD (i := 20) (v := ?_) 54 rfl rfl (by kernel_rfl) (by kernel_rfl) (by kernel_rfl) (fun _ _ _ _ _ h => h) (by rfl) (by assumption) ?_ ?_
              rotate_left; focus (intro w hSw; (try dsimp only at hSw); go_simp; try (with_reducible rfl))
              try simp only [Act.put, List.setIfInBounds_toArray, List.set_cons_zero, List.set_cons_succ]
              refine wpAnyH_takeD (i := 21) (v := ?_) 55 rfl rfl (by kernel_rfl) (by kernel_rfl) (by kernel_rfl) (fun _ _ _ _ _ h => h) (by rfl) (by assumption) ?_ ?_
              rotate_left; focus (intro w hSw; (try dsimp only at hSw); go_simp; try (with_reducible rfl))
              try simp only [Act.put, List.setIfInBounds_toArray, List.set_cons_zero, List.set_cons_succ]
              refine wpAnyH_takeD (i := 22) (v := ?_) 56 rfl rfl (by kernel_rfl) (by kernel_rfl) (by kernel_rfl) (fun _ _ _ _ _ h => h) (by rfl) (by assumption) ?_ ?_
              rotate_left; focus (intro w hSw; (try dsimp only at hSw); go_simp; try (with_reducible rfl))
              try simp only [Act.put, List.setIfInBounds_toArray, List.set_cons_zero, List.set_cons_succ]
              refine wpAnyH_takeD (i := 23) (v := ?_) 57 rfl rfl (by kernel_rfl) (by kernel_rfl) (by kernel_rfl) (fun _ _ _ _ _ h => h) (by rfl) (by assumption) ?_ ?_
              rotate_left; focus (intro w hSw; (try dsimp only at hSw); go_simp; try (with_reducible rfl))
              try simp only [Act.put, List.setIfInBounds_toArray, List.set_cons_zero, List.set_cons_succ]
              refine wpAnyH_takeD (i := 24) (v := ?_) 58 rfl rfl (by kernel_rfl) (by kernel_rfl) (by kernel_rfl) (fun _ _ _ _ _ h => h) (by rfl) (by assumption) ?_ ?_
              rotate_left; focus (intro w hSw; (try dsimp only at hSw); go_simp; try (with_reducible rfl))
              try simp only [Act.put, List.setIfInBounds_toArray, List.set_cons_zero, List.set_cons_succ]
              refine wpAnyH_takeD (i := 25) (v := ?_) 59 rfl rfl (by kernel_rfl) (by kernel_rfl) (by kernel_rfl) (fun _ _ _ _ _ h => h) (by rfl) (by assumption) ?_ ?_
              rotate_left; focus (intro w hSw; (try dsimp only at hSw); go_simp; try (with_reducible rfl))
              try simp only [Act.put, List.setIfInBounds_toArray, List.set_cons_zero, List.set_cons_succ]
              refine wpAnyH_takeD (i := 26) (v := ?_) 60 rfl rfl (by kernel_rfl) (by kernel_rfl) (by kernel_rfl) (fun _ _ _ _ _ h => h) (by rfl) (by assumption) ?_ ?_
              rotate_left; focus (intro w hSw; (try dsimp only at hSw); go_simp; try (with_reducible rfl))
              try simp only [Act.put, List.setIfInBounds_toArray, List.set_cons_zero, List.set_cons_succ]
              refine wpAnyH_ready (rs := [27]) (by kernel_rfl) (by simp) ?_
              refine AllReadyH.cons rfl (fun K hK => ?_) AllReadyH.nil
              go_simp; (go_at_call 57; refine (l13Before_any y.a a n y.c c' _ _ t s _ (HS7.out.below (bX7.mono HQ7.out.size)) (HRC.out.below (bX7.mono HQ7.out.size)) hn8 HTI'.out HSI.out).mono ?_; rintro e w8 ⟨rfl, m8, hw8⟩; rw [HBE.out]); have b8 : Below w7.heap.size w7 w8 := (by rw [hw8]; exact ext_drewN bX7 _); clear hw8; (try dsimp only)
              refine hK.out _ _ ?_ (fun hHeld => ?_)
              focus ((try dsimp only); exact ⟨below_cell (by assumption) E2.out, below_cell (by assumption) G2.out⟩)
              clear hK K; try simp only [Act.put, List.setIfInBounds_toArray, List.set_cons_zero, List.set_cons_succ]
              refine wpAnyH_takeD (i := 28) (v := ?_) 62 rfl rfl (by kernel_rfl) (by kernel_rfl) (by kernel_rfl) (fun _ _ _ _ _ h => h) (by rfl) (by assumption) ?_ ?_
              rotate_left; focus (intro w hSw; (try dsimp only at hSw); go_simp; try (with_reducible rfl))
              try simp only [Act.put, List.setIfInBounds_toArray, List.set_cons_zero, List.set_cons_succ]
              refine wpAnyH_takeD (i := 29) (v := ?_) 63 rfl rfl (by kernel_rfl) (by kernel_rfl) (by kernel_rfl) (fun _ _ _ _ _ h => h) (by rfl) (by assumption) ?_ ?_
              rotate_left; focus (intro w hSw; (try dsimp only at hSw); go_simp; try (with_reducible rfl))
              try simp only [Act.put, List.setIfInBounds_toArray, List.set_cons_zero, List.set_cons_succ]
              refine wpAnyH_takeD (i := 30) (v := ?_) 64 rfl rfl (by kernel_rfl) (by kernel_rfl) (by kernel_rfl) (fun _ _ _ _ _ h => h) (by rfl) (by assumption) ?_ ?_
              rotate_left; focus (intro w hSw; (try dsimp only at hSw); go_simp; try (with_reducible rfl))
              try simp only [Act.put, List.setIfInBounds_toArray, List.set_cons_zero, List.set_cons_succ]
              refine wpAnyH_takeD (i := 31) (v := ?_) 65 rfl rfl (by kernel_rfl) (by kernel_rfl) (by kernel_rfl) (fun _ _ _ _ _ h => h) (by rfl) (by assumption) ?_ ?_
              rotate_left; focus (intro w hSw; (try dsimp only at hSw); go_simp; try (with_reducible rfl))
              try simp only [Act.put, List.setIfInBounds_toArray, List.set_cons_zero, List.set_cons_succ]
              refine wpAnyH_done (by kernel_rfl) ?_ _
              clear hHeld
              have HG8 := Lib.hid (HG7.out.below b8 HG7.out.lt)
              have HFR8 := Lib.hid (HFR7.out.below (b8.mono HQ7.out.size))
              have HS8 := Lib.hid (HS7.out.below (b8.mono HQ7.out.size))
              have HQ8 := Lib.hid (HQ7.out.trans (b8.mono HQ7.out.size))
              have e0' := below_cell b8 E0.out
              have e1' := below_cell b8 E1.out
              have e2' := below_cell b8 E2.out
              simp only [Nat.add_zero] at e0'
              have g0 := HG8.out.cell 0
              have g1 := HG8.out.cell 1
              have g2 := HG8.out.cell 2
              have f0 := HG8.out.frozen 0
              have f1 := HG8.out.frozen 1
              have f2 := HG8.out.frozen 2
              simp only [List.getElem?_toArray, List.getElem?_cons_zero, List.getElem?_cons_succ] at g0 g1 g2
              clear b8
              go_wp2_with fail
              go_roundw
              case rel => exact ⟨k + 1, U, L, a, n, c', by go_num, by omega, by rw [HNY.out], by rw [HNY.out], HG8.out, by rw [HNY.out]; exact HFR8.out, HQ8.out⟩
              case measure => simp [intOf]; omega
            · have HBE := Lib.hid hbe
              clear hbe
              have HNR := Lib.hid (show nearerB ⟨t, (n6 : Int), BT, true⟩ cur = true by have hco := HCO.out; have hcm := HCM.out; unfold nearerB; simp only [hco, if_true]; have hm := HM.out; have hb := HBQ.out; rw [if_pos (by omega), if_pos (by omega), HCR.out]; exact HBE.out)
              have HNY := Lib.hid (show pickL nearerB xs (ts.take (k + 1)) = ⟨t, (n6 : Int), BT, true⟩ by rw [HNX.out, HWT.out, HNR.out]; simp)
              go_wp2_with fail
              refine wp_region_held_drew (S := (fun W => W.cell? ⟨b, o + k * 3 + 2, none⟩ = some (.slice y.a n y.c) ∧ W.cell? ⟨w2.heap.size, 2, none⟩ = some (.slice a n c'))) (by kernel_rfl) ?_ (fun hHeld => ?_)
              · (try dsimp only); exact ⟨below_cell (by assumption) E2.out, below_cell (by assumption) G2.out⟩
              refine wpAnyH_takeD (i := 0) (v := ?_) 34 rfl rfl (by kernel_rfl) (by kernel_rfl) (by kernel_rfl) (fun _ _ _ _ _ h => h) (by rfl) (by assumption) ?_ ?_
              rotate_left; focus (intro w hSw; (try dsimp only at hSw); go_simp; try (with_reducible rfl))
              try simp only [Act.put, List.setIfInBounds_toArray, List.set_cons_zero, List.set_cons_succ]
              refine wpAnyH_takeD (i := 1) (v := ?_) 35 rfl rfl (by kernel_rfl) (by kernel_rfl) (by kernel_rfl) (fun _ _ _ _ _ h => h) (by rfl) (by assumption) ?_ ?_
              rotate_left; focus (intro w hSw; (try dsimp only at hSw); go_simp; try (with_reducible rfl))
              try simp only [Act.put, List.setIfInBounds_toArray, List.set_cons_zero, List.set_cons_succ]
              refine wpAnyH_takeD (i := 2) (v := ?_) 36 rfl rfl (by kernel_rfl) (by kernel_rfl) (by kernel_rfl) (fun _ _ _ _ _ h => h) (by rfl) (by assumption) ?_ ?_
              rotate_left; focus (intro w hSw; (try dsimp only at hSw); go_simp; try (with_reducible rfl))
              try simp only [Act.put, List.setIfInBounds_toArray, List.set_cons_zero, List.set_cons_succ]
              refine wpAnyH_takeD (i := 3) (v := ?_) 37 rfl rfl (by kernel_rfl) (by kernel_rfl) (by kernel_rfl) (fun _ _ _ _ _ h => h) (by rfl) (by assumption) ?_ ?_
              rotate_left; focus (intro w hSw; (try dsimp only at hSw); go_simp; try (with_reducible rfl))
              try simp only [Act.put, List.setIfInBounds_toArray, List.set_cons_zero, List.set_cons_succ]
              refine wpAnyH_takeD (i := 4) (v := ?_) 38 rfl rfl (by kernel_rfl) (by kernel_rfl) (by kernel_rfl) (fun _ _ _ _ _ h => h) (by rfl) (by assumption) ?_ ?_
              rotate_left; focus (intro w hSw; (try dsimp only at hSw); go_simp; try (with_reducible rfl))
              try simp only [Act.put, List.setIfInBounds_toArray, List.set_cons_zero, List.set_cons_succ]
              refine wpAnyH_takeD (i := 5) (v := ?_) 39 rfl rfl (by kernel_rfl) (by kernel_rfl) (by kernel_rfl) (fun _ _ _ _ _ h => h) (by rfl) (by assumption) ?_ ?_
              rotate_left; focus (intro w hSw; (try dsimp only at hSw); go_simp; try (with_reducible rfl))
              try simp only [Act.put, List.setIfInBounds_toArray, List.set_cons_zero, List.set_cons_succ]
              refine wpAnyH_takeD (i := 6) (v := ?_) 40 rfl rfl (by kernel_rfl) (by kernel_rfl) (by kernel_rfl) (fun _ _ _ _ _ h => h) (by rfl) (by assumption) ?_ ?_
              rotate_left; focus (intro w hSw; (try dsimp only at hSw); go_simp; try (with_reducible rfl))
              try simp only [Act.put, List.setIfInBounds_toArray, List.set_cons_zero, List.set_cons_succ]
              refine wpAnyH_takeD (i := 7) (v := ?_) 41 rfl rfl (by kernel_rfl) (by kernel_rfl) (by kernel_rfl) (fun _ _ _ _ _ h => h) (by rfl) (by assumption) ?_ ?_
              rotate_left; focus (intro w hSw; (try dsimp only at hSw); go_simp; try (with_reducible rfl))
              try simp only [Act.put, List.setIfInBounds_toArray, List.set_cons_zero, List.set_cons_succ]
              refine wpAnyH_takeD (i := 8) (v := ?_) 42 rfl rfl (by kernel_rfl) (by kernel_rfl) (by kernel_rfl) (fun _ _ _ _ _ h => h) (by rfl) (by assumption) ?_ ?_
              rotate_left; focus (intro w hSw; (try dsimp only at hSw); go_simp; try (with_reducible rfl))
              try simp only [Act.put, List.setIfInBounds_toArray, List.set_cons_zero, List.set_cons_succ]
              refine wpAnyH_takeD (i := 9) (v := ?_) 43 rfl rfl (by kernel_rfl) (by kernel_rfl) (by kernel_rfl) (fun _ _ _ _ _ h => h) (by rfl) (by assumption) ?_ ?_
              rotate_left; focus (intro w hSw; (try dsimp only at hSw); go_simp; try (with_reducible rfl))
              try simp only [Act.put, List.setIfInBounds_toArray, List.set_cons_zero, List.set_cons_succ]
              refine wpAnyH_takeD (i := 10) (v := ?_) 44 rfl rfl (by kernel_rfl) (by kernel_rfl) (by kernel_rfl) (fun _ _ _ _ _ h => h) (by rfl) (by assumption) ?_ ?_
              rotate_left; focus (intro w hSw; (try dsimp only at hSw); go_simp; try (with_reducible rfl))
              try simp only [Act.put, List.setIfInBounds_toArray, List.set_cons_zero, List.set_cons_succ]
              refine wpAnyH_takeD (i := 11) (v := ?_) 45 rfl rfl (by kernel_rfl) (by kernel_rfl) (by kernel_rfl) (fun _ _ _ _ _ h => h) (by rfl) (by assumption) ?_ ?_
              rotate_left; focus (intro w hSw; (try dsimp only at hSw); go_simp; try (with_reducible rfl))
              try simp only [Act.put, List.setIfInBounds_toArray, List.set_cons_zero, List.set_cons_succ]
              refine wpAnyH_takeD (i := 12) (v := ?_) 46 rfl rfl (by kernel_rfl) (by kernel_rfl) (by kernel_rfl) (fun _ _ _ _ _ h => h) (by rfl) (by assumption) ?_ ?_
              rotate_left; focus (intro w hSw; (try dsimp only at hSw); go_simp; try (with_reducible rfl))
              try simp only [Act.put, List.setIfInBounds_toArray, List.set_cons_zero, List.set_cons_succ]
              refine wpAnyH_takeD (i := 13) (v := ?_) 47 rfl rfl (by kernel_rfl) (by kernel_rfl) (by kernel_rfl) (fun _ _ _ _ _ h => h) (by rfl) (by assumption) ?_ ?_
              rotate_left; focus (intro w hSw; (try dsimp only at hSw); go_simp; try (with_reducible rfl))
              try simp only [Act.put, List.setIfInBounds_toArray, List.set_cons_zero, List.set_cons_succ]
              refine wpAnyH_takeD (i := 14) (v := ?_) 48 rfl rfl (by kernel_rfl) (by kernel_rfl) (by kernel_rfl) (fun _ _ _ _ _ h => h) (by rfl) (by assumption) ?_ ?_
              rotate_left; focus (intro w hSw; (try dsimp only at hSw); go_simp; try (with_reducible rfl))
              try simp only [Act.put, List.setIfInBounds_toArray, List.set_cons_zero, List.set_cons_succ]
              refine wpAnyH_takeD (i := 15) (v := ?_) 49 rfl rfl (by kernel_rfl) (by kernel_rfl) (by kernel_rfl) (fun _ _ _ _ _ h => h) (by rfl) (by assumption) ?_ ?_
              rotate_left; focus (intro w hSw; (try dsimp only at hSw); go_simp; try (with_reducible rfl))
              try simp only [Act.put, List.setIfInBounds_toArray, List.set_cons_zero, List.set_cons_succ]
              refine wpAnyH_takeD (i := 16) (v := ?_) 50 rfl rfl (by kernel_rfl) (by kernel_rfl) (by kernel_rfl) (fun _ _ _ _ _ h => h) (by rfl) (by assumption) ?_ ?_
              rotate_left; focus (intro w hSw; (try dsimp only at hSw); go_simp; try (with_reducible rfl))
              try simp only [Act.put, List.setIfInBounds_toArray, List.set_cons_zero, List.set_cons_succ]
              refine wpAnyH_takeD (i := 17) (v := ?_) 51 rfl rfl (by kernel_rfl) (by kernel_rfl) (by kernel_rfl) (fun _ _ _ _ _ h => h) (by rfl) (by assumption) ?_ ?_
              rotate_left; focus (intro w hSw; (try dsimp only at hSw); go_simp; try (with_reducible rfl))
              try simp only [Act.put, List.setIfInBounds_toArray, List.set_cons_zero, List.set_cons_succ]
              refine wpAnyH_takeD (i := 18) (v := ?_) 52 rfl rfl (by kernel_rfl) (by kernel_rfl) (by kernel_rfl) (fun _ _ _ _ _ h => h) (by rfl) (by assumption) ?_ ?_
              rotate_left; focus (intro w hSw; (try dsimp only at hSw); go_simp; try (with_reducible rfl))
              try simp only [Act.put, List.setIfInBounds_toArray, List.set_cons_zero, List.set_cons_succ]
              refine wpAnyH_takeD (i := 19) (v := ?_) 53 rfl rfl (by kernel_rfl) (by kernel_rfl) (by kernel_rfl) (fun _ _ _ _ _ h => h) (by rfl) (by assumption) ?_ ?_
              rotate_left; focus (intro w hSw; (try dsimp only at hSw); go_simp; try (with_reducible rfl))
              try simp only [Act.put, List.setIfInBounds_toArray, List.set_cons_zero, List.set_cons_succ]
              refine wpAnyH_takeD (i := 20) (v := ?_) 54 rfl rfl (by kernel_rfl) (by kernel_rfl) (by kernel_rfl) (fun _ _ _ _ _ h => h) (by rfl) (by assumption) ?_ ?_
              rotate_left; focus (intro w hSw; (try dsimp only at hSw); go_simp; try (with_reducible rfl))
              try simp only [Act.put, List.setIfInBounds_toArray, List.set_cons_zero, List.set_cons_succ]
              refine wpAnyH_takeD (i := 21) (v := ?_) 55 rfl rfl (by kernel_rfl) (by kernel_rfl) (by kernel_rfl) (fun _ _ _ _ _ h => h) (by rfl) (by assumption) ?_ ?_
              rotate_left; focus (intro w hSw; (try dsimp only at hSw); go_simp; try (with_reducible rfl))
              try simp only [Act.put, List.setIfInBounds_toArray, List.set_cons_zero, List.set_cons_succ]
              refine wpAnyH_takeD (i := 22) (v := ?_) 56 rfl rfl (by kernel_rfl) (by kernel_rfl) (by kernel_rfl) (fun _ _ _ _ _ h => h) (by rfl) (by assumption) ?_ ?_
              rotate_left; focus (intro w hSw; (try dsimp only at hSw); go_simp; try (with_reducible rfl))
              try simp only [Act.put, List.setIfInBounds_toArray, List.set_cons_zero, List.set_cons_succ]
              refine wpAnyH_takeD (i := 23) (v := ?_) 57 rfl rfl (by kernel_rfl) (by kernel_rfl) (by kernel_rfl) (fun _ _ _ _ _ h => h) (by rfl) (by assumption) ?_ ?_
              rotate_left; focus (intro w hSw; (try dsimp only at hSw); go_simp; try (with_reducible rfl))
              try simp only [Act.put, List.setIfInBounds_toArray, List.set_cons_zero, List.set_cons_succ]
              refine wpAnyH_takeD (i := 24) (v := ?_) 58 rfl rfl (by kernel_rfl) (by kernel_rfl) (by kernel_rfl) (fun _ _ _ _ _ h => h) (by rfl) (by assumption) ?_ ?_
              rotate_left; focus (intro w hSw; (try dsimp only at hSw); go_simp; try (with_reducible rfl))
              try simp only [Act.put, List.setIfInBounds_toArray, List.set_cons_zero, List.set_cons_succ]
              refine wpAnyH_takeD (i := 25) (v := ?_) 59 rfl rfl (by kernel_rfl) (by kernel_rfl) (by kernel_rfl) (fun _ _ _ _ _ h => h) (by rfl) (by assumption) ?_ ?_
              rotate_left; focus (intro w hSw; (try dsimp only at hSw); go_simp; try (with_reducible rfl))
              try simp only [Act.put, List.setIfInBounds_toArray, List.set_cons_zero, List.set_cons_succ]
              refine wpAnyH_takeD (i := 26) (v := ?_) 60 rfl rfl (by kernel_rfl) (by kernel_rfl) (by kernel_rfl) (fun _ _ _ _ _ h => h) (by rfl) (by assumption) ?_ ?_
              rotate_left; focus (intro w hSw; (try dsimp only at hSw); go_simp; try (with_reducible rfl))
              try simp only [Act.put, List.setIfInBounds_toArray, List.set_cons_zero, List.set_cons_succ]
              refine wpAnyH_ready (rs := [27]) (by kernel_rfl) (by simp) ?_
              refine AllReadyH.cons rfl (fun K hK => ?_) AllReadyH.nil
              go_simp; (go_at_call 57; refine (l13Before_any y.a a n y.c c' _ _ t s _ (HS7.out.below (bX7.mono HQ7.out.size)) (HRC.out.below (bX7.mono HQ7.out.size)) hn8 HTI'.out HSI.out).mono ?_; rintro e w8 ⟨rfl, m8, hw8⟩; rw [HBE.out]); have b8 : Below w7.heap.size w7 w8 := (by rw [hw8]; exact ext_drewN bX7 _); clear hw8; (try dsimp only)
              refine hK.out _ _ ?_ (fun hHeld => ?_)
              focus ((try dsimp only); exact ⟨below_cell (by assumption) E2.out, below_cell (by assumption) G2.out⟩)
              clear hK K; try simp only [Act.put, List.setIfInBounds_toArray, List.set_cons_zero, List.set_cons_succ]
              refine wpAnyH_takeD (i := 28) (v := ?_) 62 rfl rfl (by kernel_rfl) (by kernel_rfl) (by kernel_rfl) (fun _ _ _ _ _ h => h) (by rfl) (by assumption) ?_ ?_
              rotate_left; focus (intro w hSw; (try dsimp only at hSw); go_simp; try (with_reducible rfl))
              try simp only [Act.put, List.setIfInBounds_toArray, List.set_cons_zero, List.set_cons_succ]
              refine wpAnyH_takeD (i := 29) (v := ?_) 63 rfl rfl (by kernel_rfl) (by kernel_rfl) (by kernel_rfl) (fun _ _ _ _ _ h => h) (by rfl) (by assumption) ?_ ?_
              rotate_left; focus (intro w hSw; (try dsimp only at hSw); go_simp; try (with_reducible rfl))
              try simp only [Act.put, List.setIfInBounds_toArray, List.set_cons_zero, List.set_cons_succ]
              refine wpAnyH_takeD (i := 30) (v := ?_) 64 rfl rfl (by kernel_rfl) (by kernel_rfl) (by kernel_rfl) (fun _ _ _ _ _ h => h) (by rfl) (by assumption) ?_ ?_
              rotate_left; focus (intro w hSw; (try dsimp only at hSw); go_simp; try (with_reducible rfl))
              try simp only [Act.put, List.setIfInBounds_toArray, List.set_cons_zero, List.set_cons_succ]
              refine wpAnyH_takeD (i := 31) (v := ?_) 65 rfl rfl (by kernel_rfl) (by kernel_rfl) (by kernel_rfl) (fun _ _ _ _ _ h => h) (by rfl) (by assumption) ?_ ?_
              rotate_left; focus (intro w hSw; (try dsimp only at hSw); go_simp; try (with_reducible rfl))
              try simp only [Act.put, List.setIfInBounds_toArray, List.set_cons_zero, List.set_cons_succ]
              refine wpAnyH_done (by kernel_rfl) ?_ _
              clear hHeld
              have HG8 := Lib.hid (HG7.out.below b8 HG7.out.lt)
              have HFR8 := Lib.hid (HFR7.out.below (b8.mono HQ7.out.size))
              have HS8 := Lib.hid (HS7.out.below (b8.mono HQ7.out.size))
              have HQ8 := Lib.hid (HQ7.out.trans (b8.mono HQ7.out.size))
              have e0' := below_cell b8 E0.out
              have e1' := below_cell b8 E1.out
              have e2' := below_cell b8 E2.out
              simp only [Nat.add_zero] at e0'
              have g0 := HG8.out.cell 0
              have g1 := HG8.out.cell 1
              have g2 := HG8.out.cell 2
              have f0 := HG8.out.frozen 0
              have f1 := HG8.out.frozen 1
              have f2 := HG8.out.frozen 2
              simp only [List.getElem?_toArray, List.getElem?_cons_zero, List.getElem?_cons_succ] at g0 g1 g2
              clear b8
              go_wp2_with fail
              have HZ := ((HG8.out.set_ 0 (.int .i64 u)).set_ 1 (.int .i64 l)).set_ 2 (.slice y.a n y.c)
              have hb := ext_set (ext_set (ext_set (p := ⟨w2.heap.size, 0, none⟩) HQ8.out (Nat.le_refl _) (.int .i64 u)) (p := ⟨w2.heap.size, 1, none⟩) (Nat.le_refl _) (.int .i64 l)) (p := ⟨w2.heap.size, 2, none⟩) (Nat.le_refl _) (.slice y.a n y.c)
              have hr := ((HS8.out.setCell (p := ⟨w2.heap.size, 0, none⟩) (Nat.le_refl _) (.int .i64 u)).setCell (p := ⟨w2.heap.size, 1, none⟩) (Nat.le_refl _) (.int .i64 l)).setCell (p := ⟨w2.heap.size, 2, none⟩) (Nat.le_refl _) (.slice y.a n y.c)
              simp only [List.setIfInBounds_toArray, List.set_cons_zero, List.set_cons_succ] at HZ
              go_roundw
              case rel => exact ⟨k + 1, u, l, y.a, n, y.c, by go_num, by omega, by rw [HNY.out]; rfl, by rw [HNY.out], HZ, by rw [HNY.out]; exact ⟨fun _ => ⟨rfl, rfl, hr⟩, fun h => (by cases h), fun _ hp => HNW.out hp⟩, hb⟩
              case measure => simp [intOf]; omega
          · have d4 : decide (BT < cur.b) = false := by simp; omega
            have d5 : (BT == cur.b) = false := by simp; omega
            have HNR := Lib.hid (show nearerB ⟨t, (n6 : Int), BT, true⟩ cur = false by have hco := HCO.out; have hcm := HCM.out; unfold nearerB; simp only [hco, if_true]; have hm := HM.out; rw [if_pos (by omega), if_neg (by omega)]; simp; omega)
            have HNY := Lib.hid (show pickL nearerB xs (ts.take (k + 1)) = cur by rw [HNX.out, HWT.out, HNR.out]; simp)
            go_wp2_with fail
            refine wp_region_held_drew (S := (fun W => W.cell? ⟨b, o + k * 3 + 2, none⟩ = some (.slice y.a n y.c) ∧ W.cell? ⟨w2.heap.size, 2, none⟩ = some (.slice a n c'))) (by kernel_rfl) ?_ (fun hHeld => ?_)
            · (try dsimp only); exact ⟨below_cell (by assumption) E2.out, below_cell (by assumption) G2.out⟩
            refine wpAnyH_takeD (i := 0) (v := ?_) 34 rfl rfl (by kernel_rfl) (by kernel_rfl) (by kernel_rfl) (fun _ _ _ _ _ h => h) (by rfl) (by assumption) ?_ ?_
            rotate_left; focus (intro w hSw; (try dsimp only at hSw); go_simp; try (with_reducible rfl))
            try simp only [Act.put, List.setIfInBounds_toArray, List.set_cons_zero, List.set_cons_succ]
            refine wpAnyH_takeD (i := 1) (v := ?_) 35 rfl rfl (by kernel_rfl) (by kernel_rfl) (by kernel_rfl) (fun _ _ _ _ _ h => h) (by rfl) (by assumption) ?_ ?_
            rotate_left; focus (intro w hSw; (try dsimp only at hSw); go_simp; try (with_reducible rfl))
            try simp only [Act.put, List.setIfInBounds_toArray, List.set_cons_zero, List.set_cons_succ]
            refine wpAnyH_takeD (i := 2) (v := ?_) 36 rfl rfl (by kernel_rfl) (by kernel_rfl) (by kernel_rfl) (fun _ _ _ _ _ h => h) (by rfl) (by assumption) ?_ ?_
            rotate_left; focus (intro w hSw; (try dsimp only at hSw); go_simp; try (with_reducible rfl))
            try simp only [Act.put, List.setIfInBounds_toArray, List.set_cons_zero, List.set_cons_succ]
            refine wpAnyH_takeD (i := 3) (v := ?_) 37 rfl rfl (by kernel_rfl) (by kernel_rfl) (by kernel_rfl) (fun _ _ _ _ _ h => h) (by rfl) (by assumption) ?_ ?_
            rotate_left; focus (intro w hSw; (try dsimp only at hSw); go_simp; try (with_reducible rfl))
            try simp only [Act.put, List.setIfInBounds_toArray, List.set_cons_zero, List.set_cons_succ]
            refine wpAnyH_takeD (i := 4) (v := ?_) 38 rfl rfl (by kernel_rfl) (by kernel_rfl) (by kernel_rfl) (fun _ _ _ _ _ h => h) (by rfl) (by assumption) ?_ ?_
            rotate_left; focus (intro w hSw; (try dsimp only at hSw); go_simp; try (with_reducible rfl))
            try simp only [Act.put, List.setIfInBounds_toArray, List.set_cons_zero, List.set_cons_succ]
            refine wpAnyH_takeD (i := 5) (v := ?_) 39 rfl rfl (by kernel_rfl) (by kernel_rfl) (by kernel_rfl) (fun _ _ _ _ _ h => h) (by rfl) (by assumption) ?_ ?_
            rotate_left; focus (intro w hSw; (try dsimp only at hSw); go_simp; try (with_reducible rfl))
            try simp only [Act.put, List.setIfInBounds_toArray, List.set_cons_zero, List.set_cons_succ]
            refine wpAnyH_takeD (i := 6) (v := ?_) 40 rfl rfl (by kernel_rfl) (by kernel_rfl) (by kernel_rfl) (fun _ _ _ _ _ h => h) (by rfl) (by assumption) ?_ ?_
            rotate_left; focus (intro w hSw; (try dsimp only at hSw); go_simp; try (with_reducible rfl))
            try simp only [Act.put, List.setIfInBounds_toArray, List.set_cons_zero, List.set_cons_succ]
            refine wpAnyH_takeD (i := 7) (v := ?_) 41 rfl rfl (by kernel_rfl) (by kernel_rfl) (by kernel_rfl) (fun _ _ _ _ _ h => h) (by rfl) (by assumption) ?_ ?_
            rotate_left; focus (intro w hSw; (try dsimp only at hSw); go_simp; try (with_reducible rfl))
            try simp only [Act.put, List.setIfInBounds_toArray, List.set_cons_zero, List.set_cons_succ]
            refine wpAnyH_takeD (i := 8) (v := ?_) 42 rfl rfl (by kernel_rfl) (by kernel_rfl) (by kernel_rfl) (fun _ _ _ _ _ h => h) (by rfl) (by assumption) ?_ ?_
            rotate_left; focus (intro w hSw; (try dsimp only at hSw); go_simp; try (with_reducible rfl))
            try simp only [Act.put, List.setIfInBounds_toArray, List.set_cons_zero, List.set_cons_succ]
            refine wpAnyH_takeD (i := 9) (v := ?_) 43 rfl rfl (by kernel_rfl) (by kernel_rfl) (by kernel_rfl) (fun _ _ _ _ _ h => h) (by rfl) (by assumption) ?_ ?_
            rotate_left; focus (intro w hSw; (try dsimp only at hSw); go_simp; try (with_reducible rfl))
            try simp only [Act.put, List.setIfInBounds_toArray, List.set_cons_zero, List.set_cons_succ]
            refine wpAnyH_takeD (i := 10) (v := ?_) 44 rfl rfl (by kernel_rfl) (by kernel_rfl) (by kernel_rfl) (fun _ _ _ _ _ h => h) (by rfl) (by assumption) ?_ ?_
            rotate_left; focus (intro w hSw; (try dsimp only at hSw); go_simp; try (with_reducible rfl))
            try simp only [Act.put, List.setIfInBounds_toArray, List.set_cons_zero, List.set_cons_succ]
            refine wpAnyH_takeD (i := 11) (v := ?_) 45 rfl rfl (by kernel_rfl) (by kernel_rfl) (by kernel_rfl) (fun _ _ _ _ _ h => h) (by rfl) (by assumption) ?_ ?_
            rotate_left; focus (intro w hSw; (try dsimp only at hSw); go_simp; try (with_reducible rfl))
            try simp only [Act.put, List.setIfInBounds_toArray, List.set_cons_zero, List.set_cons_succ]
            refine wpAnyH_takeD (i := 12) (v := ?_) 46 rfl rfl (by kernel_rfl) (by kernel_rfl) (by kernel_rfl) (fun _ _ _ _ _ h => h) (by rfl) (by assumption) ?_ ?_
            rotate_left; focus (intro w hSw; (try dsimp only at hSw); go_simp; try (with_reducible rfl))
            try simp only [Act.put, List.setIfInBounds_toArray, List.set_cons_zero, List.set_cons_succ]
            refine wpAnyH_takeD (i := 13) (v := ?_) 47 rfl rfl (by kernel_rfl) (by kernel_rfl) (by kernel_rfl) (fun _ _ _ _ _ h => h) (by rfl) (by assumption) ?_ ?_
            rotate_left; focus (intro w hSw; (try dsimp only at hSw); go_simp; try (with_reducible rfl))
            try simp only [Act.put, List.setIfInBounds_toArray, List.set_cons_zero, List.set_cons_succ]
            refine wpAnyH_takeD (i := 14) (v := ?_) 48 rfl rfl (by kernel_rfl) (by kernel_rfl) (by kernel_rfl) (fun _ _ _ _ _ h => h) (by rfl) (by assumption) ?_ ?_
            rotate_left; focus (intro w hSw; (try dsimp only at hSw); go_simp; try (with_reducible rfl))
            try simp only [Act.put, List.setIfInBounds_toArray, List.set_cons_zero, List.set_cons_succ]
            refine wpAnyH_takeD (i := 15) (v := ?_) 49 rfl rfl (by kernel_rfl) (by kernel_rfl) (by kernel_rfl) (fun _ _ _ _ _ h => h) (by rfl) (by assumption) ?_ ?_
            rotate_left; focus (intro w hSw; (try dsimp only at hSw); go_simp; try (with_reducible rfl))
            try simp only [Act.put, List.setIfInBounds_toArray, List.set_cons_zero, List.set_cons_succ]
            refine wpAnyH_takeD (i := 16) (v := ?_) 50 rfl rfl (by kernel_rfl) (by kernel_rfl) (by kernel_rfl) (fun _ _ _ _ _ h => h) (by rfl) (by assumption) ?_ ?_
            rotate_left; focus (intro w hSw; (try dsimp only at hSw); go_simp; try (with_reducible rfl))
            try simp only [Act.put, List.setIfInBounds_toArray, List.set_cons_zero, List.set_cons_succ]
            refine wpAnyH_takeD (i := 17) (v := ?_) 51 rfl rfl (by kernel_rfl) (by kernel_rfl) (by kernel_rfl) (fun _ _ _ _ _ h => h) (by rfl) (by assumption) ?_ ?_
            rotate_left; focus (intro w hSw; (try dsimp only at hSw); go_simp; try (with_reducible rfl))
            try simp only [Act.put, List.setIfInBounds_toArray, List.set_cons_zero, List.set_cons_succ]
            refine wpAnyH_takeD (i := 18) (v := ?_) 52 rfl rfl (by kernel_rfl) (by kernel_rfl) (by kernel_rfl) (fun _ _ _ _ _ h => h) (by rfl) (by assumption) ?_ ?_
            rotate_left; focus (intro w hSw; (try dsimp only at hSw); go_simp; try (with_reducible rfl))
            try simp only [Act.put, List.setIfInBounds_toArray, List.set_cons_zero, List.set_cons_succ]
            refine wpAnyH_takeD (i := 19) (v := ?_) 53 rfl rfl (by kernel_rfl) (by kernel_rfl) (by kernel_rfl) (fun _ _ _ _ _ h => h) (by rfl) (by assumption) ?_ ?_
            rotate_left; focus (intro w hSw; (try dsimp only at hSw); go_simp; try (with_reducible rfl))
            try simp only [Act.put, List.setIfInBounds_toArray, List.set_cons_zero, List.set_cons_succ]
            refine wpAnyH_skipsTo (by kernel_rfl) (fun _ _ _ _ _ h => h) (by assumption) [20, 21, 22, 23, 24, 25, 26, 27] [54, 55, 56, 57, 58, 59, 60, 61] 4 (by kernel_rfl) (by kernel_rfl) ?_
            try simp only [skipAct_nil, skipAct_cons, Act.put, List.setIfInBounds_toArray, List.set_cons_zero, List.set_cons_succ]
            refine wpAnyH_takeD (i := 28) (v := ?_) 62 rfl rfl (by kernel_rfl) (by kernel_rfl) (by kernel_rfl) (fun _ _ _ _ _ h => h) (by rfl) (by assumption) ?_ ?_
            rotate_left; focus (intro w hSw; (try dsimp only at hSw); go_simp; try (with_reducible rfl))
            try simp only [Act.put, List.setIfInBounds_toArray, List.set_cons_zero, List.set_cons_succ]
            refine wpAnyH_takeD (i := 29) (v := ?_) 63 rfl rfl (by kernel_rfl) (by kernel_rfl) (by kernel_rfl) (fun _ _ _ _ _ h => h) (by rfl) (by assumption) ?_ ?_
            rotate_left; focus (intro w hSw; (try dsimp only at hSw); go_simp; try (with_reducible rfl))
            try simp only [Act.put, List.setIfInBounds_toArray, List.set_cons_zero, List.set_cons_succ]
            refine wpAnyH_takeD (i := 30) (v := ?_) 64 rfl rfl (by kernel_rfl) (by kernel_rfl) (by kernel_rfl) (fun _ _ _ _ _ h => h) (by rfl) (by assumption) ?_ ?_
            rotate_left; focus (intro w hSw; (try dsimp only at hSw); go_simp; try (with_reducible rfl))
            try simp only [Act.put, List.setIfInBounds_toArray, List.set_cons_zero, List.set_cons_succ]
            refine wpAnyH_takeD (i := 31) (v := ?_) 65 rfl rfl (by kernel_rfl) (by kernel_rfl) (by kernel_rfl) (fun _ _ _ _ _ h => h) (by rfl) (by assumption) ?_ ?_
            rotate_left; focus (intro w hSw; (try dsimp only at hSw); go_simp; try (with_reducible rfl))
            try simp only [Act.put, List.setIfInBounds_toArray, List.set_cons_zero, List.set_cons_succ]
            refine wpAnyH_done (by kernel_rfl) ?_ _
            clear hHeld
            have b8 := bX7
            have HG8 := Lib.hid (HG7.out.below b8 HG7.out.lt)
            have HFR8 := Lib.hid (HFR7.out.below (b8.mono HQ7.out.size))
            have HS8 := Lib.hid (HS7.out.below (b8.mono HQ7.out.size))
            have HQ8 := Lib.hid (HQ7.out.trans (b8.mono HQ7.out.size))
            have e0' := E0.out
            have e1' := E1.out
            have e2' := E2.out
            simp only [Nat.add_zero] at e0'
            have g0 := HG7.out.cell 0
            have g1 := HG7.out.cell 1
            have g2 := HG7.out.cell 2
            have f0 := HG7.out.frozen 0
            have f1 := HG7.out.frozen 1
            have f2 := HG7.out.frozen 2
            simp only [List.getElem?_toArray, List.getElem?_cons_zero, List.getElem?_cons_succ] at g0 g1 g2
            clear b8
            go_wp2_with fail
            go_roundw
            case rel => exact ⟨k + 1, U, L, a, n, c', by go_num, by omega, by rw [HNY.out], by rw [HNY.out], HG8.out, by rw [HNY.out]; exact HFR8.out, HQ8.out⟩
            case measure => simp [intOf]; omega
        · have d2 : decide ((n6 : Int) < movV cur) = false := by simp; omega
          have d3 : ((n6 : Int) == movV cur) = false := by simp; omega
          have HNR := Lib.hid (show nearerB ⟨t, (n6 : Int), BT, true⟩ cur = false by have hco := HCO.out; have hcm := HCM.out; unfold nearerB; simp only [hco, if_true]; rw [if_neg (by omega)]; simp; omega)
          have HNY := Lib.hid (show pickL nearerB xs (ts.take (k + 1)) = cur by rw [HNX.out, HWT.out, HNR.out]; simp)
          go_wp2_with fail
          refine wp_region_held_drew (S := (fun W => W.cell? ⟨b, o + k * 3 + 2, none⟩ = some (.slice y.a n y.c) ∧ W.cell? ⟨w2.heap.size, 2, none⟩ = some (.slice a n c'))) (by kernel_rfl) ?_ (fun hHeld => ?_)
          · (try dsimp only); exact ⟨below_cell (by assumption) E2.out, below_cell (by assumption) G2.out⟩
          refine wpAnyH_takeD (i := 0) (v := ?_) 34 rfl rfl (by kernel_rfl) (by kernel_rfl) (by kernel_rfl) (fun _ _ _ _ _ h => h) (by rfl) (by assumption) ?_ ?_
          rotate_left; focus (intro w hSw; (try dsimp only at hSw); go_simp; try (with_reducible rfl))
          try simp only [Act.put, List.setIfInBounds_toArray, List.set_cons_zero, List.set_cons_succ]
          refine wpAnyH_takeD (i := 1) (v := ?_) 35 rfl rfl (by kernel_rfl) (by kernel_rfl) (by kernel_rfl) (fun _ _ _ _ _ h => h) (by rfl) (by assumption) ?_ ?_
          rotate_left; focus (intro w hSw; (try dsimp only at hSw); go_simp; try (with_reducible rfl))
          try simp only [Act.put, List.setIfInBounds_toArray, List.set_cons_zero, List.set_cons_succ]
          refine wpAnyH_takeD (i := 2) (v := ?_) 36 rfl rfl (by kernel_rfl) (by kernel_rfl) (by kernel_rfl) (fun _ _ _ _ _ h => h) (by rfl) (by assumption) ?_ ?_
          rotate_left; focus (intro w hSw; (try dsimp only at hSw); go_simp; try (with_reducible rfl))
          try simp only [Act.put, List.setIfInBounds_toArray, List.set_cons_zero, List.set_cons_succ]
          refine wpAnyH_takeD (i := 3) (v := ?_) 37 rfl rfl (by kernel_rfl) (by kernel_rfl) (by kernel_rfl) (fun _ _ _ _ _ h => h) (by rfl) (by assumption) ?_ ?_
          rotate_left; focus (intro w hSw; (try dsimp only at hSw); go_simp; try (with_reducible rfl))
          try simp only [Act.put, List.setIfInBounds_toArray, List.set_cons_zero, List.set_cons_succ]
          refine wpAnyH_takeD (i := 4) (v := ?_) 38 rfl rfl (by kernel_rfl) (by kernel_rfl) (by kernel_rfl) (fun _ _ _ _ _ h => h) (by rfl) (by assumption) ?_ ?_
          rotate_left; focus (intro w hSw; (try dsimp only at hSw); go_simp; try (with_reducible rfl))
          try simp only [Act.put, List.setIfInBounds_toArray, List.set_cons_zero, List.set_cons_succ]
          refine wpAnyH_takeD (i := 5) (v := ?_) 39 rfl rfl (by kernel_rfl) (by kernel_rfl) (by kernel_rfl) (fun _ _ _ _ _ h => h) (by rfl) (by assumption) ?_ ?_
          rotate_left; focus (intro w hSw; (try dsimp only at hSw); go_simp; try (with_reducible rfl))
          try simp only [Act.put, List.setIfInBounds_toArray, List.set_cons_zero, List.set_cons_succ]
          refine wpAnyH_takeD (i := 6) (v := ?_) 40 rfl rfl (by kernel_rfl) (by kernel_rfl) (by kernel_rfl) (fun _ _ _ _ _ h => h) (by rfl) (by assumption) ?_ ?_
          rotate_left; focus (intro w hSw; (try dsimp only at hSw); go_simp; try (with_reducible rfl))
          try simp only [Act.put, List.setIfInBounds_toArray, List.set_cons_zero, List.set_cons_succ]
          refine wpAnyH_takeD (i := 7) (v := ?_) 41 rfl rfl (by kernel_rfl) (by kernel_rfl) (by kernel_rfl) (fun _ _ _ _ _ h => h) (by rfl) (by assumption) ?_ ?_
          rotate_left; focus (intro w hSw; (try dsimp only at hSw); go_simp; try (with_reducible rfl))
          try simp only [Act.put, List.setIfInBounds_toArray, List.set_cons_zero, List.set_cons_succ]
          refine wpAnyH_takeD (i := 8) (v := ?_) 42 rfl rfl (by kernel_rfl) (by kernel_rfl) (by kernel_rfl) (fun _ _ _ _ _ h => h) (by rfl) (by assumption) ?_ ?_
          rotate_left; focus (intro w hSw; (try dsimp only at hSw); go_simp; try (with_reducible rfl))
          try simp only [Act.put, List.setIfInBounds_toArray, List.set_cons_zero, List.set_cons_succ]
          refine wpAnyH_takeD (i := 9) (v := ?_) 43 rfl rfl (by kernel_rfl) (by kernel_rfl) (by kernel_rfl) (fun _ _ _ _ _ h => h) (by rfl) (by assumption) ?_ ?_
          rotate_left; focus (intro w hSw; (try dsimp only at hSw); go_simp; try (with_reducible rfl))
          try simp only [Act.put, List.setIfInBounds_toArray, List.set_cons_zero, List.set_cons_succ]
          refine wpAnyH_takeD (i := 10) (v := ?_) 44 rfl rfl (by kernel_rfl) (by kernel_rfl) (by kernel_rfl) (fun _ _ _ _ _ h => h) (by rfl) (by assumption) ?_ ?_
          rotate_left; focus (intro w hSw; (try dsimp only at hSw); go_simp; try (with_reducible rfl))
          try simp only [Act.put, List.setIfInBounds_toArray, List.set_cons_zero, List.set_cons_succ]
          refine wpAnyH_takeD (i := 11) (v := ?_) 45 rfl rfl (by kernel_rfl) (by kernel_rfl) (by kernel_rfl) (fun _ _ _ _ _ h => h) (by rfl) (by assumption) ?_ ?_
          rotate_left; focus (intro w hSw; (try dsimp only at hSw); go_simp; try (with_reducible rfl))
          try simp only [Act.put, List.setIfInBounds_toArray, List.set_cons_zero, List.set_cons_succ]
          refine wpAnyH_skipsTo (by kernel_rfl) (fun _ _ _ _ _ h => h) (by assumption) [12, 13, 14, 15, 16, 17, 18, 19, 20, 21, 22, 23, 24, 25, 26, 27, 28, 29] [46, 47, 48, 49, 50, 51, 52, 53, 54, 55, 56, 57, 58, 59, 60, 61, 62, 63] 2 (by kernel_rfl) (by kernel_rfl) ?_
          try simp only [skipAct_nil, skipAct_cons, Act.put, List.setIfInBounds_toArray, List.set_cons_zero, List.set_cons_succ]
          refine wpAnyH_takeD (i := 30) (v := ?_) 64 rfl rfl (by kernel_rfl) (by kernel_rfl) (by kernel_rfl) (fun _ _ _ _ _ h => h) (by rfl) (by assumption) ?_ ?_
          rotate_left; focus (intro w hSw; (try dsimp only at hSw); go_simp; try (with_reducible rfl))
          try simp only [Act.put, List.setIfInBounds_toArray, List.set_cons_zero, List.set_cons_succ]
          refine wpAnyH_takeD (i := 31) (v := ?_) 65 rfl rfl (by kernel_rfl) (by kernel_rfl) (by kernel_rfl) (fun _ _ _ _ _ h => h) (by rfl) (by assumption) ?_ ?_
          rotate_left; focus (intro w hSw; (try dsimp only at hSw); go_simp; try (with_reducible rfl))
          try simp only [Act.put, List.setIfInBounds_toArray, List.set_cons_zero, List.set_cons_succ]
          refine wpAnyH_done (by kernel_rfl) ?_ _
          clear hHeld
          have b8 := bX7
          have HG8 := Lib.hid (HG7.out.below b8 HG7.out.lt)
          have HFR8 := Lib.hid (HFR7.out.below (b8.mono HQ7.out.size))
          have HS8 := Lib.hid (HS7.out.below (b8.mono HQ7.out.size))
          have HQ8 := Lib.hid (HQ7.out.trans (b8.mono HQ7.out.size))
          have e0' := E0.out
          have e1' := E1.out
          have e2' := E2.out
          simp only [Nat.add_zero] at e0'
          have g0 := HG7.out.cell 0
          have g1 := HG7.out.cell 1
          have g2 := HG7.out.cell 2
          have f0 := HG7.out.frozen 0
          have f1 := HG7.out.frozen 1
          have f2 := HG7.out.frozen 2
          simp only [List.getElem?_toArray, List.getElem?_cons_zero, List.getElem?_cons_succ] at g0 g1 g2
          clear b8
          go_wp2_with fail
          go_roundw
          case rel => exact ⟨k + 1, U, L, a, n, c', by go_num, by omega, by rw [HNY.out], by rw [HNY.out], HG8.out, by rw [HNY.out]; exact HFR8.out, HQ8.out⟩
          case measure => simp [intOf]; omega
    · have hkn : k = tn := by omega
      subst hkn
      have HE := Lib.hid (show ts.take k = ts by rw [List.take_of_length_le (by omega)])
      have hfr := HFR.out
      rw [HE.out] at hfr ⊢
      obtain ⟨cur, hcur⟩ : ∃ cur, cur = pickL nearerB xs ts := ⟨_, rfl⟩
      rw [← hcur] at hfr ⊢
      have HF := Lib.hid hfr
      have HCUR := Lib.hid hcur
      have h4 := H42.out.below HQ.out hl4
      have g0 := HBK.out.cell 0
      have g1 := HBK.out.cell 1
      have g2 := HBK.out.cell 2
      have x0 := h4.cell 0
      have x1 := h4.cell 1
      have x2 := h4.cell 2
      have f0 := h4.frozen 0
      have f1 := h4.frozen 1
      have f2 := h4.frozen 2
      simp only [List.getElem?_toArray, List.getElem?_cons_zero, List.getElem?_cons_succ] at g0 g1 g2 x0 x1 x2
      have hBZ := ((h4.set_ 0 (.int .i64 U)).set_ 1 (.int .i64 L)).set_ 2 (.slice a m' c')
      have hGZ := ext_set (ext_set (ext_set (HB2.out.trans (HQ.out.mono HB2.out.size)) (p := ⟨w.heap.size + 1, 0, none⟩) (by show w.heap.size ≤ w.heap.size + 1; omega) (.int .i64 U)) (p := ⟨w.heap.size + 1, 1, none⟩) (by show w.heap.size ≤ w.heap.size + 1; omega) (.int .i64 L)) (p := ⟨w.heap.size + 1, 2, none⟩) (by show w.heap.size ≤ w.heap.size + 1; omega) (.slice a m' c')
      have HBZ := Lib.hid hBZ
      have HGZ := Lib.hid hGZ
      have hpk : cur = way0 ∨ ∃ s, (∀ x ∈ s, RodIn x) ∧ s.length = n ∧ cur = wayOf xs s := by
        rcases pick_bd (lt := nearerB) (xs := xs) ts cur hcur with h | ⟨s, hs, h⟩
        · exact .inl h
        · exact .inr ⟨s, HTI.out s hs, HTE.out s hs, h⟩
      have hmv : (cur.ok = true → 0 ≤ movV cur) ∧ (cur.ok = false → movV cur < 0) := by
        rcases hpk with rfl | ⟨s, h1, h2, rfl⟩
        · exact ⟨fun h => (by cases h), fun _ => (by decide)⟩
        · refine ⟨fun _ => ?_, fun h => (by cases h)⟩
          have := (wayOf_bd HXI.out h1 (by omega)).1.1
          unfold movV
          rwa [if_pos (show (wayOf xs s).ok = true from rfl)]
      clear hfr hcur hpk hBZ hGZ h4
      have HFIN : ∀ (W : World), Blk W (w.heap.size + 1) 33 #[.int .i64 U, .int .i64 L, .slice a m' c'] → (W.cell? ⟨w.heap.size + 1, 0, none⟩ = some (.int .i64 U) ∧ W.cell? ⟨w.heap.size + 1, 1, none⟩ = some (.int .i64 L)) ∧ W.cell? ⟨w.heap.size + 1, 2, none⟩ = some (.slice a m' c') := by
        intro W h
        have r0 := h.cell 0
        have r1 := h.cell 1
        have r2 := h.cell 2
        simp only [List.getElem?_toArray, List.getElem?_cons_zero, List.getElem?_cons_succ] at r0 r1 r2
        exact ⟨⟨r0, r1⟩, r2⟩
      have HFI := Lib.hid HFIN
      clear HFIN
      cases hco : cur.ok
      · have hd := hmv.2 hco
        have HCO := Lib.hid hco
        clear hmv hco
        go_wp2_with fail
        have hBZ := HBZ.out
        have hGZ := HGZ.out
        simp only [List.setIfInBounds_toArray, List.set_cons_zero, List.set_cons_succ] at hBZ
        have hFZ := ((HF.out.setLow (p := ⟨w.heap.size + 1, 0, none⟩) (show w.heap.size + 1 < w1.heap.size by rw [HZ1.out]; omega) (.int .i64 U)).setLow (p := ⟨w.heap.size + 1, 1, none⟩) (show w.heap.size + 1 < w1.heap.size by rw [HZ1.out]; omega) (.int .i64 L)).setLow (p := ⟨w.heap.size + 1, 2, none⟩) (show w.heap.size + 1 < w1.heap.size by rw [HZ1.out]; omega) (.slice a m' c')
        have hsz : w2.heap.size ≤ (((wq.setCell ⟨w.heap.size + 1, 0, none⟩ (.int .i64 U)).setCell ⟨w.heap.size + 1, 1, none⟩ (.int .i64 L)).setCell ⟨w.heap.size + 1, 2, none⟩ (.slice a m' c')).heap.size := by
          have := HQ.out.size
          simpa [World.setCell] using this
        generalize ((wq.setCell ⟨w.heap.size + 1, 0, none⟩ (.int .i64 U)).setCell ⟨w.heap.size + 1, 1, none⟩ (.int .i64 L)).setCell ⟨w.heap.size + 1, 2, none⟩ (.slice a m' c') = WZ at hBZ hGZ hFZ hsz ⊢
        obtain ⟨⟨r0, r1⟩, r2⟩ := HFI.out WZ hBZ
        refine bodyPost_ret (v := .tuple #[.agg #[.int .i64 U, .int .i64 L, .slice a m' c'], .bool false]) ?_ rfl ?_
        · (simp [results, Try.results47, go_sem, r0, r1, r2]); try omega
        · have hE : pickL nearerB xs (tgts u l n N) = cur := by rw [HTS.out]; exact HCUR.out.symm
          exact ⟨U, L, a, m', c', by rw [hE, HCO.out], by rw [hE]; exact hFZ.raise hsz HB.out.size, hGZ⟩
      · have hd := hmv.1 hco
        have HCO := Lib.hid hco
        clear hmv hco
        go_wp2_with fail
        have hBZ := HBZ.out
        have hGZ := HGZ.out
        simp only [List.setIfInBounds_toArray, List.set_cons_zero, List.set_cons_succ] at hBZ
        have hFZ := ((HF.out.setLow (p := ⟨w.heap.size + 1, 0, none⟩) (show w.heap.size + 1 < w1.heap.size by rw [HZ1.out]; omega) (.int .i64 U)).setLow (p := ⟨w.heap.size + 1, 1, none⟩) (show w.heap.size + 1 < w1.heap.size by rw [HZ1.out]; omega) (.int .i64 L)).setLow (p := ⟨w.heap.size + 1, 2, none⟩) (show w.heap.size + 1 < w1.heap.size by rw [HZ1.out]; omega) (.slice a m' c')
        have hsz : w2.heap.size ≤ (((wq.setCell ⟨w.heap.size + 1, 0, none⟩ (.int .i64 U)).setCell ⟨w.heap.size + 1, 1, none⟩ (.int .i64 L)).setCell ⟨w.heap.size + 1, 2, none⟩ (.slice a m' c')).heap.size := by
          have := HQ.out.size
          simpa [World.setCell] using this
        generalize ((wq.setCell ⟨w.heap.size + 1, 0, none⟩ (.int .i64 U)).setCell ⟨w.heap.size + 1, 1, none⟩ (.int .i64 L)).setCell ⟨w.heap.size + 1, 2, none⟩ (.slice a m' c') = WZ at hBZ hGZ hFZ hsz ⊢
        obtain ⟨⟨r0, r1⟩, r2⟩ := HFI.out WZ hBZ
        refine bodyPost_ret (v := .tuple #[.agg #[.int .i64 U, .int .i64 L, .slice a m' c'], .bool true]) ?_ rfl ?_
        · (simp [results, Try.results47, go_sem, r0, r1, r2]); try omega
        · have hE : pickL nearerB xs (tgts u l n N) = cur := by rw [HTS.out]; exact HCUR.out.symm
          exact ⟨U, L, a, m', c', by rw [hE, HCO.out], by rw [hE]; exact hFZ.raise hsz HB.out.size, hGZ⟩
end Go.Proofs.Ytkgbcjiinicffaa
