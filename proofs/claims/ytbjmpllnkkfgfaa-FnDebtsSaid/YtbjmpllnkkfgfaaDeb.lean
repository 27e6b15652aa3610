/- Debtors. No condition. -/
import Derived.Test.YtbjmpllnkkfgfaaBal
import Derived.Test.YtbjmpllnkkfgfaaPut
namespace Go.Proofs.Ytbjmpllnkkfgfaa
open Go.RowKit

/-- Behind how many of the first ones does b stand? -/
def posD (b : Int) (bs : List Int) : Nat → Nat
  | 0 => 0
  | k + 1 => match bs[k]? with
    | some y => if b < y then posD b bs k else k + 1
    | none => k + 1
theorem posD_on {b : Int} {bs : List Int} {k : Nat} {y : Int} (hy : bs[k]? = some y) (h : b < y) : posD b bs (k + 1) = posD b bs k := by
  rw [posD, hy]; simp [h]
theorem posD_stop {b : Int} {bs : List Int} {k : Nat} {y : Int} (hy : bs[k]? = some y) (h : ¬ b < y) : posD b bs (k + 1) = k + 1 := by
  rw [posD, hy]; simp [h]
theorem posD_le (b : Int) (bs : List Int) : ∀ k, posD b bs k ≤ k
  | 0 => by simp [posD]
  | k + 1 => by
    rw [posD]
    have := posD_le b bs k
    split
    · split <;> omega
    · omega
def debtStep (f : Int → Int) (out : List Int) (p : Int) : List Int := if f p < 0 ∧ hasB out p = false then insAt (posD (f p) (out.map f) out.length) p out else out
def debtS (f : Int → Int) (ps : List Int) : List Int := ps.foldl (debtStep f) []
theorem debtS_snoc (f : Int → Int) (ps : List Int) (p : Int) : debtS f (ps ++ [p]) = debtStep f (debtS f ps) p := by simp [debtS]
theorem mem_insAt {k : Nat} {p x : Int} {l : List Int} : x ∈ insAt k p l ↔ x = p ∨ x ∈ l := by
  unfold insAt
  have e : x ∈ l ↔ x ∈ l.take k ∨ x ∈ l.drop k := by rw [← List.mem_append, List.take_append_drop]
  rw [e, List.mem_append, List.mem_cons]
  constructor
  · rintro (h | h | h)
    · exact .inr (.inl h)
    · exact .inl h
    · exact .inr (.inr h)
  · rintro (h | h | h)
    · exact .inr (.inl h)
    · exact .inl h
    · exact .inr (.inr h)
theorem mem_debtStep {f : Int → Int} {out : List Int} {p x : Int} (h : x ∈ debtStep f out p) : x = p ∨ x ∈ out := by
  unfold debtStep at h
  split at h
  · exact mem_insAt.1 h
  · exact .inr h
theorem debtStep_keep {f : Int → Int} {out : List Int} {p x : Int} (h : x ∈ out) : x ∈ debtStep f out p := by
  unfold debtStep
  split
  · exact mem_insAt.2 (.inr h)
  · exact h
theorem hasB_mem {zs : List Int} {n : Int} : hasB zs n = true ↔ n ∈ zs := by simp [hasB]
theorem debtStep_has {f : Int → Int} {out : List Int} {p : Int} (h : f p < 0) : p ∈ debtStep f out p := by
  unfold debtStep
  split
  · exact mem_insAt.2 (.inl rfl)
  · rename_i hh
    cases hb : hasB out p with
    | true => exact hasB_mem.1 hb
    | false => exact absurd ⟨h, hb⟩ hh
theorem debtS_sub (f : Int → Int) (ps : List Int) : ∀ x ∈ debtS f ps, x ∈ ps := by
  suffices h : ∀ (ps out : List Int) (x : Int), x ∈ ps.foldl (debtStep f) out → x ∈ out ∨ x ∈ ps by
    intro x hx
    rcases h ps [] x hx with h | h
    · cases h
    · exact h
  intro ps
  induction ps with
  | nil => intro out x hx; exact .inl hx
  | cons p ps ih =>
    intro out x hx
    rw [List.foldl_cons] at hx
    rcases ih _ _ hx with h | h
    · rcases mem_debtStep h with h | h
      · exact .inr (by rw [h]; exact List.mem_cons_self)
      · exact .inl h
    · exact .inr (List.mem_cons_of_mem _ h)
theorem debtS_has (f : Int → Int) {ps : List Int} {p : Int} (hp : p ∈ ps) (h : f p < 0) : p ∈ debtS f ps := by
  suffices hh : ∀ (ps out : List Int), (p ∈ out ∨ p ∈ ps) → p ∈ ps.foldl (debtStep f) out from hh ps [] (.inr hp)
  intro ps
  induction ps with
  | nil =>
    rintro out (h | h)
    · exact h
    · cases h
  | cons q ps ih =>
    rintro out (hq | hq)
    · exact ih _ (.inl (debtStep_keep hq))
    · rcases List.mem_cons.1 hq with rfl | hq
      · exact ih _ (.inl (debtStep_has h))
      · exact ih _ (.inr hq)
theorem debtStep_len (f : Int → Int) (out : List Int) (p : Int) : (debtStep f out p).length ≤ out.length + 1 := by
  unfold debtStep
  split
  · rw [insAt_len]; omega
  · omega
theorem debtS_len (f : Int → Int) (ps : List Int) : (debtS f ps).length ≤ ps.length := by
  suffices h : ∀ (ps out : List Int), (ps.foldl (debtStep f) out).length ≤ out.length + ps.length by
    have := h ps []
    simpa [debtS] using this
  intro ps
  induction ps with
  | nil => intro out; simp
  | cons p ps ih =>
    intro out
    rw [List.foldl_cons]
    have h1 := ih (debtStep f out p)
    have h2 := debtStep_len f out p
    rw [List.length_cons]
    omega
theorem debt_next {f : Int → Int} {xs : List Acct} {k : Nat} {x : Acct} (hx : xs[k]? = some x) : debtS f ((xs.take (k + 1)).map Acct.p) = debtStep f (debtS f ((xs.take k).map Acct.p)) x.p := by
  rw [acctF_snoc hx, List.map_append, List.map_cons, List.map_nil, debtS_snoc]
theorem debt_in {f : Int → Int} {out : List Int} {p : Int} (h : f p < 0) (hb : hasB out p = false) {k : Nat} (hk : posD (f p) (out.map f) out.length = k) : debtStep f out p = insAt k p out := by
  unfold debtStep; rw [if_pos ⟨h, hb⟩, hk]
theorem debt_out {f : Int → Int} {out : List Int} {p : Int} (h : ¬ f p < 0 ∨ hasB out p = true) : debtStep f out p = out := by
  unfold debtStep
  rw [if_neg]
  rintro ⟨h1, h2⟩
  rcases h with h | h
  · exact h h1
  · rw [h] at h2; cases h2
def balF (price : Int) (xs : List Acct) (p : Int) : Int := balV p price xs
def debtV (price : Int) (xs : List Acct) : List Int := debtS (balF price xs) (xs.map Acct.p)
def debtOk (price : Int) (xs : List Acct) : Bool := accsB xs && inB price 1 500
def debtL (price : Int) (xs : List Acct) : List Int := if debtOk price xs = true then debtV price xs else []
theorem debtL_len (price : Int) (xs : List Acct) : (debtL price xs).length ≤ xs.length := by
  unfold debtL
  split
  · have := debtS_len (balF price xs) (xs.map Acct.p); rw [List.length_map] at this; exact this
  · simp
theorem balF_bd {price : Int} {xs : List Acct} {n : Nat} (p : Int) (h : AllOk xs) (hp : inB price 1 500 = true) (hl : xs.length = n) (hn : n ≤ 1048576) : -10223616000 ≤ balF price xs p ∧ balF price xs p ≤ 104857600000 := by
  have h := bal_bd (pupil := p) h hp hl hn n
  rwa [List.take_of_length_le (by omega)] at h
set_option maxHeartbeats 8000000 in
theorem sDebtors_any (A : Option Addr) (n c B : Nat) (xs : List Acct) (price : Int) (w : World) (h : Reads w B 5 A n ((acctF xs).map (Value.int .i64))) (hB : B ≤ w.heap.size) (hn : n ≤ 1048576) :
    Calls Try.prog 37 #[.slice A n c, .int .i64 price] w fun e w' => Gives 3 1 (debtL price xs) (debtOk price xs) w e w' := by
  have hl := h.acctLen
  have H := Lib.hid h
  have HL := Lib.hid hl
  clear h hl
  cases ha : accsB xs
  · rw [show debtL price xs = [] from by simp [debtL, debtOk, ha], show debtOk price xs = false from by simp [debtOk, ha]]
    go_enter Try.func37, Try.ntmps37
    go_wp2_with fail
    refine (l14Good_any A n c B xs _ (H.out.alloc hB _) (by simp; omega) hn).mono ?_
    rintro e w2 ⟨rfl, hb2⟩
    rw [ha]
    have A0 := Lib.hid ((Acc.empty (E := 3) (k := 1) (Below.refl w.heap.size w)).later hb2)
    have R2 := Lib.hid (H.out.below ((ext_trans (ext_alloc (Below.refl w.heap.size w) _) hb2).mono hB))
    have hB2 : B ≤ w2.heap.size := Nat.le_trans hB A0.out.ext.size
    clear hb2
    go_wp2_with fail
    go_ret2
    exact ⟨_, _, _, rfl, A0.out⟩
  · cases hp : inB price 1 500
    · rw [show debtL price xs = [] from by simp [debtL, debtOk, hp], show debtOk price xs = false from by simp [debtOk, hp]]
      go_enter Try.func37, Try.ntmps37
      go_wp2_with fail
      refine (l14Good_any A n c B xs _ (H.out.alloc hB _) (by simp; omega) hn).mono ?_
      rintro e w2 ⟨rfl, hb2⟩
      rw [ha]
      have A0 := Lib.hid ((Acc.empty (E := 3) (k := 1) (Below.refl w.heap.size w)).later hb2)
      have R2 := Lib.hid (H.out.below ((ext_trans (ext_alloc (Below.refl w.heap.size w) _) hb2).mono hB))
      have hB2 : B ≤ w2.heap.size := Nat.le_trans hB A0.out.ext.size
      clear hb2
      go_wp2_with (go_at_call 65; refine (l14Price_v _ hp _).mono ?_; rintro e w' ⟨rfl, rfl⟩)
      go_ret2
      exact ⟨_, _, _, rfl, A0.out⟩
    · rw [show debtL price xs = debtV price xs from by simp [debtL, debtOk, hp, ha], show debtOk price xs = true from by simp [debtOk, hp, ha]]
      have HO := Lib.hid (accs_ok ha).1
      have HP := Lib.hid hp
      go_enter Try.func37, Try.ntmps37
      go_wp2_with fail
      refine (l14Good_any A n c B xs _ (H.out.alloc hB _) (by simp; omega) hn).mono ?_
      rintro e w2 ⟨rfl, hb2⟩
      rw [ha]
      have A0 := Lib.hid ((Acc.empty (E := 3) (k := 1) (Below.refl w.heap.size w)).later hb2)
      have R2 := Lib.hid (H.out.below ((ext_trans (ext_alloc (Below.refl w.heap.size w) _) hb2).mono hB))
      have hB2 : B ≤ w2.heap.size := Nat.le_trans hB A0.out.ext.size
      clear hb2
      go_wp2_with (go_at_call 65; refine (l14Price_v _ hp _).mono ?_; rintro e w' ⟨rfl, rfl⟩)
      go_loopw [6, 7] (fun s i wr => ∃ (j : Nat) (A' : Option Addr) (n' c' : Nat), i = .int .i64 j ∧ j ≤ n ∧ s = .slice A' n' c' ∧ Acc w wr 3 1 A' n' c' (debtS (balF price xs) ((xs.take j).map Acct.p))) (fun _ i _ => n - (intOf i).toNat)
      case atStart => exact ⟨0, _, _, _, rfl, by omega, rfl, A0.out⟩
      case round =>
        obtain ⟨j, A', n', c', rfl, hj, rfl, hacc⟩ := hrel
        obtain ⟨wo, rfl⟩ : ∃ wo : World, wo = wr := ⟨_, rfl⟩
        have hn' : n' ≤ j := by
          have h1 := debtS_len (balF price xs) ((xs.take j).map Acct.p)
          have h2 := hacc.reads.len
          rw [h2, List.length_map] at h1
          have h3 := List.length_take_le j xs
          omega
        have HA := Lib.hid hacc
        obtain ⟨cap1, cap2⟩ := hacc.cap
        have hBo : B ≤ wo.heap.size := Nat.le_trans hB hacc.ext.size
        have RL := Lib.hid (H.out.below (hacc.ext.mono hB))
        unfold maxLen at cap2
        clear hacc
        by_cases hlt : j < n
        · obtain ⟨b, o, x, hAx, hx, hc0, hc1, hc2, hc3, hc4⟩ := RL.out.acct hlt
          subst hAx
          have HX := Lib.hid hx
          clear hx
          have HN := Lib.hid (debt_next (f := balF price xs) HX.out)
          obtain ⟨hbd1, hbd2⟩ := balF_bd x.p HO.out HP.out HL.out hn
          generalize hD : debtS (balF price xs) ((xs.take j).map Acct.p) = D at HA HN
          clear hD
          go_wp2_with fail
          refine (l14Balance_any _ n c B xs x.p price _ RL.out hBo hn HO.out HP.out).mono ?_
          rintro e wp ⟨rfl, hbp⟩
          have HBP := Lib.hid hbp
          have HA2 := Lib.hid (HA.out.later hbp)
          have hBp : B ≤ wp.heap.size := Nat.le_trans hBo hbp.size
          clear hbp
          have hF : balV x.p price xs = balF price xs x.p := rfl
          rw [hF]
          clear hF
          generalize hfp : balF price xs x.p = fp at hbd1 hbd2
          have HF := Lib.hid hfp
          clear hfp
          by_cases hneg : fp < 0
          · have RO := Lib.hid HA2.out.reads
            have hd : decide (0 ≤ fp) = false := by simp; omega
            cases hhas : hasB D x.p
            · go_wp2_with (go_at_call 81; refine (l1Has_any A' n' c' _ D x.p _ RO.out (by unfold maxLen; omega)).mono ?_; rintro e w' ⟨rfl, rfl⟩; rw [hhas])
              have HIN := Lib.hid (fun k => debt_in (f := balF price xs) (k := k) (HF.out ▸ hneg) hhas)
              clear hhas
              go_loopw [10] (fun q wq => ∃ k : Nat, q = .int .i64 k ∧ k ≤ n' ∧ posD fp (D.map (balF price xs)) n' = posD fp (D.map (balF price xs)) k ∧ Below wp.heap.size wp wq) (fun q _ => (intOf q).toNat)
              case atStart => exact ⟨n', rfl, Nat.le_refl _, rfl, Below.refl _ _⟩
              case round =>
                obtain ⟨wq, rfl⟩ : ∃ wq : World, wq = wr := ⟨_, rfl⟩
                obtain ⟨k, rfl, hk, hpos, hbq⟩ := hrel
                have hle := hbq.size
                have HAwq := Lib.hid (HA2.out.later hbq)
                have ROwq := Lib.hid HAwq.out.reads
                have RLq := Lib.hid ((RL.out.below (HBP.out.mono hBo)).below (hbq.mono hBp))
                have hBq : B ≤ wq.heap.size := Nat.le_trans hBp hle
                have HPOS := Lib.hid hpos
                have HBQ := Lib.hid hbq
                clear hbq hpos
                have k0 : (0 : Int) ≤ k := by omega
                have k1 : (k : Int) ≤ n' := by omega
                have k2 : (n' : Int) ≤ c' := by omega
                have k3 : (k : Int) ≤ c' := by omega
                have hDl : D.length = n' := HA2.out.reads.len
                have HDL := Lib.hid hDl
                clear hDl
                rcases Nat.eq_zero_or_pos k with h0 | h0
                · have HI := Lib.hid (HIN.out k (by rw [HDL.out, HF.out, HPOS.out, h0]; rfl))
                  have e0 : decide (0 < k) = false := by simp; omega
                  clear h0
                  go_wp2
                  refine wp_region_held_drew (S := (fun _ => True)) (by kernel_rfl) ?_ (fun hHeld => ?_)
                  · trivial
                  obtain ⟨X, hX⟩ : ∃ X, X = World.drew wq := ⟨_, rfl⟩
                  rw [← hX]
                  try rw [← hX] at hHeld
                  have bX : Below wq.heap.size wq X := hX ▸ ext_drew (Below.refl _ _)
                  clear hX
                  refine wpAnyH_takeD (i := 1) (v := ?_) 62 rfl rfl (by kernel_rfl) (by kernel_rfl) (by kernel_rfl) (fun _ _ _ _ _ h => h) (by rfl) (by assumption) ?_ ?_
                  rotate_left; focus (intro w hSw; (try dsimp only at hSw); go_simp; try (with_reducible rfl))
                  try simp only [Act.put, List.setIfInBounds_toArray, List.set_cons_zero, List.set_cons_succ]
                  refine wpAnyH_takeD (i := 2) (v := ?_) 63 rfl rfl (by kernel_rfl) (by kernel_rfl) (by kernel_rfl) (fun _ _ _ _ _ h => h) (by rfl) (by assumption) ?_ ?_
                  rotate_left; focus (intro w hSw; (try dsimp only at hSw); go_simp; try (with_reducible rfl))
                  try simp only [Act.put, List.setIfInBounds_toArray, List.set_cons_zero, List.set_cons_succ]
                  refine wpAnyH_takeD (i := 3) (v := ?_) 64 rfl rfl (by kernel_rfl) (by kernel_rfl) (by kernel_rfl) (fun _ _ _ _ _ h => h) (by rfl) (by assumption) ?_ ?_
                  rotate_left; focus (intro w hSw; (try dsimp only at hSw); go_simp; try (with_reducible rfl))
                  try simp only [Act.put, List.setIfInBounds_toArray, List.set_cons_zero, List.set_cons_succ]
                  refine wpAnyH_takeD (i := 5) (v := ?_) 66 rfl rfl (by kernel_rfl) (by kernel_rfl) (by kernel_rfl) (fun _ _ _ _ _ h => h) (by rfl) (by assumption) ?_ ?_
                  rotate_left; focus (intro w hSw; (try dsimp only at hSw); go_simp; try (with_reducible rfl))
                  try simp only [Act.put, List.setIfInBounds_toArray, List.set_cons_zero, List.set_cons_succ]
                  refine wpAnyH_takeD (i := 8) (v := ?_) 69 rfl rfl (by kernel_rfl) (by kernel_rfl) (by kernel_rfl) (fun _ _ _ _ _ h => h) (by rfl) (by assumption) ?_ ?_
                  rotate_left; focus (intro w hSw; (try dsimp only at hSw); go_simp; try (with_reducible rfl))
                  try simp only [Act.put, List.setIfInBounds_toArray, List.set_cons_zero, List.set_cons_succ]
                  refine wpAnyH_takeD (i := 9) (v := ?_) 70 rfl rfl (by kernel_rfl) (by kernel_rfl) (by kernel_rfl) (fun _ _ _ _ _ h => h) (by rfl) (by assumption) ?_ ?_
                  rotate_left; focus (intro w hSw; (try dsimp only at hSw); go_simp; try (with_reducible rfl))
                  try simp only [Act.put, List.setIfInBounds_toArray, List.set_cons_zero, List.set_cons_succ]
                  refine wpAnyH_takeD (i := 10) (v := ?_) 71 rfl rfl (by kernel_rfl) (by kernel_rfl) (by kernel_rfl) (fun _ _ _ _ _ h => h) (by rfl) (by assumption) ?_ ?_
                  rotate_left; focus (intro w hSw; (try dsimp only at hSw); go_simp; try (with_reducible rfl))
                  try simp only [Act.put, List.setIfInBounds_toArray, List.set_cons_zero, List.set_cons_succ]
                  refine wpAnyH_ready (rs := [0, 6]) (by kernel_rfl) (by simp) ?_
                  refine AllReadyH.cons rfl (fun K hK => ?_) (AllReadyH.cons rfl (fun K hK => ?_) AllReadyH.nil)
                  · go_simp
                    obtain ⟨Y, hY⟩ : ∃ Y, Y = World.alloc X (Obj.cells #[] 3) := ⟨_, rfl⟩
                    rw [← hY]
                    have bY : Below wq.heap.size wq Y := hY ▸ ext_alloc bX _
                    have a0 : Acc wq Y 3 1 (some ⟨X.heap.size, 0, none⟩) 0 0 [] := hY ▸ Acc.empty bX
                    clear hY
                    refine hK.out _ _ (by trivial) (fun hHeld => ?_)
                    clear hK K; (try simp only [Act.put]); (try simp only [List.setIfInBounds_toArray]); (try simp only [List.set_cons_succ]); (try simp only [List.set_cons_zero])
                    refine wpAnyH_ready (rs := [4, 6]) (by kernel_rfl) (by simp) ?_
                    refine AllReadyH.cons rfl (fun K hK => ?_) (AllReadyH.cons rfl (fun K hK => ?_) AllReadyH.nil)
                    · refine appI_b_step rfl (.tmp 61) (.tmp 64) rfl rfl a0 rfl ((ROwq.out.below bY).frontI hk) (by omega) ?_
                      intro A1 c1 Z a1 p1
                      have bZ := a1.ext
                      simp only [Nat.zero_add, List.nil_append] at a1
                      refine hK.out _ _ (by trivial) (fun hHeld => ?_)
                      clear hK K; (try simp only [Act.put]); (try simp only [List.setIfInBounds_toArray]); (try simp only [List.set_cons_succ]); (try simp only [List.set_cons_zero])
                      try simp only [Nat.zero_add]
                      refine wpAnyH_ready (rs := [6]) (by kernel_rfl) (by simp) ?_
                      refine AllReadyH.cons rfl (fun K hK => ?_) AllReadyH.nil
                      go_simp
                      obtain ⟨T, hT⟩ : ∃ T, T = World.alloc Z (Obj.cells #[.int .i64 x.p] 3) := ⟨_, rfl⟩
                      rw [← hT]
                      have bT : Below wq.heap.size wq T := hT ▸ ext_alloc bZ _
                      have s1 := Side.new a1 #[.int .i64 x.p] 3 [x.p] rfl rfl
                      rw [← hT] at s1
                      have a1 := a1.alloc (Obj.cells #[.int .i64 x.p] 3)
                      rw [← hT] at a1
                      clear hT
                      refine hK.out _ _ (by trivial) (fun hHeld => ?_)
                      clear hK K; (try simp only [Act.put]); (try simp only [List.setIfInBounds_toArray]); (try simp only [List.set_cons_succ]); (try simp only [List.set_cons_zero])
                      refine wpAnyH_ready (rs := [7]) (by kernel_rfl) (by simp) ?_
                      refine AllReadyH.cons rfl (fun K hK => ?_) AllReadyH.nil
                      refine appI_b_step rfl (.tmp 65) (.tmp 67) rfl rfl a1 rfl s1.reads (by omega) ?_
                      intro A2 c2 V a2 p2
                      have bV := a2.ext
                      refine hK.out _ _ (by trivial) (fun hHeld => ?_)
                      clear hK K; (try simp only [Act.put]); (try simp only [List.setIfInBounds_toArray]); (try simp only [List.set_cons_succ]); (try simp only [List.set_cons_zero])
                      refine wpAnyH_ready (rs := [11]) (by kernel_rfl) (by simp) ?_
                      refine AllReadyH.cons rfl (fun K hK => ?_) AllReadyH.nil
                      refine appI_b_step rfl (.tmp 68) (.tmp 71) rfl rfl a2 rfl (by first | exact ((ROwq.out.below bV).cutI hk cap1) | exact ((ROwq.out.below bV).cutS hk cap1)) (by omega) ?_
                      intro A3 c3 U a3 p3
                      have bU := a3.ext
                      refine hK.out _ _ (by trivial) (fun hHeld => ?_)
                      clear hK K; (try simp only [Act.put]); (try simp only [List.setIfInBounds_toArray]); (try simp only [List.set_cons_succ]); (try simp only [List.set_cons_zero])
                      refine wpAnyH_takeD (i := 12) (v := ?_) 6 rfl rfl (by kernel_rfl) (by kernel_rfl) (by kernel_rfl) (fun _ _ _ _ _ h => h) (by rfl) (by assumption) ?_ ?_
                      rotate_left; focus (intro w hSw; (try dsimp only at hSw); go_simp; try (with_reducible rfl))
                      (try simp only [Act.put]); (try simp only [List.setIfInBounds_toArray]); (try simp only [List.set_cons_succ]); (try simp only [List.set_cons_zero])
                      refine wpAnyH_done (by kernel_rfl) ?_ _
                      simp only [List.append_assoc, List.cons_append, List.nil_append] at a3
                      have HN3 := Lib.hid (a3.since HAwq.out.ext)
                      clear a0 a1 a2 a3 s1
                      go_wp2
                      all_goals
                        go_roundw
                        case rel => exact ⟨j + 1, _, _, _, by go_num, by omega, rfl, by rw [HN.out, HI.out]; exact HN3.out⟩
                        case measure => simp [intOf]; omega
                    · go_simp
                      obtain ⟨Z, hZ⟩ : ∃ Z, Z = World.alloc Y (Obj.cells #[.int .i64 x.p] 3) := ⟨_, rfl⟩
                      rw [← hZ]
                      have bZ : Below wq.heap.size wq Z := hZ ▸ ext_alloc bY _
                      have s1 := Side.new a0 #[.int .i64 x.p] 3 [x.p] rfl rfl
                      rw [← hZ] at s1
                      have a0 := a0.alloc (Obj.cells #[.int .i64 x.p] 3)
                      rw [← hZ] at a0
                      clear hZ
                      refine hK.out _ _ (by trivial) (fun hHeld => ?_)
                      clear hK K; (try simp only [Act.put]); (try simp only [List.setIfInBounds_toArray]); (try simp only [List.set_cons_succ]); (try simp only [List.set_cons_zero])
                      refine wpAnyH_ready (rs := [4]) (by kernel_rfl) (by simp) ?_
                      refine AllReadyH.cons rfl (fun K hK => ?_) AllReadyH.nil
                      refine appI_b_step rfl (.tmp 61) (.tmp 64) rfl rfl a0 rfl ((ROwq.out.below bZ).frontI hk) (by omega) ?_
                      intro A1 c1 T a1 p1
                      have bT := a1.ext
                      simp only [Nat.zero_add, List.nil_append] at a1
                      have s1 := s1.pushed p1
                      refine hK.out _ _ (by trivial) (fun hHeld => ?_)
                      clear hK K; (try simp only [Act.put]); (try simp only [List.setIfInBounds_toArray]); (try simp only [List.set_cons_succ]); (try simp only [List.set_cons_zero])
                      try simp only [Nat.zero_add]
                      refine wpAnyH_ready (rs := [7]) (by kernel_rfl) (by simp) ?_
                      refine AllReadyH.cons rfl (fun K hK => ?_) AllReadyH.nil
                      refine appI_b_step rfl (.tmp 65) (.tmp 67) rfl rfl a1 rfl s1.reads (by omega) ?_
                      intro A2 c2 V a2 p2
                      have bV := a2.ext
                      refine hK.out _ _ (by trivial) (fun hHeld => ?_)
                      clear hK K; (try simp only [Act.put]); (try simp only [List.setIfInBounds_toArray]); (try simp only [List.set_cons_succ]); (try simp only [List.set_cons_zero])
                      refine wpAnyH_ready (rs := [11]) (by kernel_rfl) (by simp) ?_
                      refine AllReadyH.cons rfl (fun K hK => ?_) AllReadyH.nil
                      refine appI_b_step rfl (.tmp 68) (.tmp 71) rfl rfl a2 rfl (by first | exact ((ROwq.out.below bV).cutI hk cap1) | exact ((ROwq.out.below bV).cutS hk cap1)) (by omega) ?_
                      intro A3 c3 U a3 p3
                      have bU := a3.ext
                      refine hK.out _ _ (by trivial) (fun hHeld => ?_)
                      clear hK K; (try simp only [Act.put]); (try simp only [List.setIfInBounds_toArray]); (try simp only [List.set_cons_succ]); (try simp only [List.set_cons_zero])
                      refine wpAnyH_takeD (i := 12) (v := ?_) 6 rfl rfl (by kernel_rfl) (by kernel_rfl) (by kernel_rfl) (fun _ _ _ _ _ h => h) (by rfl) (by assumption) ?_ ?_
                      rotate_left; focus (intro w hSw; (try dsimp only at hSw); go_simp; try (with_reducible rfl))
                      (try simp only [Act.put]); (try simp only [List.setIfInBounds_toArray]); (try simp only [List.set_cons_succ]); (try simp only [List.set_cons_zero])
                      refine wpAnyH_done (by kernel_rfl) ?_ _
                      simp only [List.append_assoc, List.cons_append, List.nil_append] at a3
                      have HN3 := Lib.hid (a3.since HAwq.out.ext)
                      clear a0 a1 a2 a3 s1
                      go_wp2
                      all_goals
                        go_roundw
                        case rel => exact ⟨j + 1, _, _, _, by go_num, by omega, rfl, by rw [HN.out, HI.out]; exact HN3.out⟩
                        case measure => simp [intOf]; omega
                  · go_simp
                    obtain ⟨Y, hY⟩ : ∃ Y, Y = World.alloc X (Obj.cells #[.int .i64 x.p] 3) := ⟨_, rfl⟩
                    rw [← hY]
                    have bY : Below wq.heap.size wq Y := hY ▸ ext_alloc bX _
                    have s1 := Side.new0 X 1 #[.int .i64 x.p] 3 [x.p] rfl rfl
                    rw [← hY] at s1
                    clear hY
                    refine hK.out _ _ (by trivial) (fun hHeld => ?_)
                    clear hK K; (try simp only [Act.put]); (try simp only [List.setIfInBounds_toArray]); (try simp only [List.set_cons_succ]); (try simp only [List.set_cons_zero])
                    refine wpAnyH_ready (rs := [0]) (by kernel_rfl) (by simp) ?_
                    refine AllReadyH.cons rfl (fun K hK => ?_) AllReadyH.nil
                    go_simp
                    obtain ⟨Z, hZ⟩ : ∃ Z, Z = World.alloc Y (Obj.cells #[] 3) := ⟨_, rfl⟩
                    rw [← hZ]
                    have bZ : Below wq.heap.size wq Z := hZ ▸ ext_alloc bY _
                    have a0 : Acc wq Z 3 1 (some ⟨Y.heap.size, 0, none⟩) 0 0 [] := hZ ▸ Acc.empty bY
                    have s1 := s1.row (Obj.cells #[] 3)
                    rw [← hZ] at s1
                    clear hZ
                    refine hK.out _ _ (by trivial) (fun hHeld => ?_)
                    clear hK K; (try simp only [Act.put]); (try simp only [List.setIfInBounds_toArray]); (try simp only [List.set_cons_succ]); (try simp only [List.set_cons_zero])
                    refine wpAnyH_ready (rs := [4]) (by kernel_rfl) (by simp) ?_
                    refine AllReadyH.cons rfl (fun K hK => ?_) AllReadyH.nil
                    refine appI_b_step rfl (.tmp 61) (.tmp 64) rfl rfl a0 rfl ((ROwq.out.below bZ).frontI hk) (by omega) ?_
                    intro A1 c1 T a1 p1
                    have bT := a1.ext
                    simp only [Nat.zero_add, List.nil_append] at a1
                    have s1 := s1.pushed p1
                    refine hK.out _ _ (by trivial) (fun hHeld => ?_)
                    clear hK K; (try simp only [Act.put]); (try simp only [List.setIfInBounds_toArray]); (try simp only [List.set_cons_succ]); (try simp only [List.set_cons_zero])
                    try simp only [Nat.zero_add]
                    refine wpAnyH_ready (rs := [7]) (by kernel_rfl) (by simp) ?_
                    refine AllReadyH.cons rfl (fun K hK => ?_) AllReadyH.nil
                    refine appI_b_step rfl (.tmp 65) (.tmp 67) rfl rfl a1 rfl s1.reads (by omega) ?_
                    intro A2 c2 V a2 p2
                    have bV := a2.ext
                    refine hK.out _ _ (by trivial) (fun hHeld => ?_)
                    clear hK K; (try simp only [Act.put]); (try simp only [List.setIfInBounds_toArray]); (try simp only [List.set_cons_succ]); (try simp only [List.set_cons_zero])
                    refine wpAnyH_ready (rs := [11]) (by kernel_rfl) (by simp) ?_
                    refine AllReadyH.cons rfl (fun K hK => ?_) AllReadyH.nil
                    refine appI_b_step rfl (.tmp 68) (.tmp 71) rfl rfl a2 rfl (by first | exact ((ROwq.out.below bV).cutI hk cap1) | exact ((ROwq.out.below bV).cutS hk cap1)) (by omega) ?_
                    intro A3 c3 U a3 p3
                    have bU := a3.ext
                    refine hK.out _ _ (by trivial) (fun hHeld => ?_)
                    clear hK K; (try simp only [Act.put]); (try simp only [List.setIfInBounds_toArray]); (try simp only [List.set_cons_succ]); (try simp only [List.set_cons_zero])
                    refine wpAnyH_takeD (i := 12) (v := ?_) 6 rfl rfl (by kernel_rfl) (by kernel_rfl) (by kernel_rfl) (fun _ _ _ _ _ h => h) (by rfl) (by assumption) ?_ ?_
                    rotate_left; focus (intro w hSw; (try dsimp only at hSw); go_simp; try (with_reducible rfl))
                    (try simp only [Act.put]); (try simp only [List.setIfInBounds_toArray]); (try simp only [List.set_cons_succ]); (try simp only [List.set_cons_zero])
                    refine wpAnyH_done (by kernel_rfl) ?_ _
                    simp only [List.append_assoc, List.cons_append, List.nil_append] at a3
                    have HN3 := Lib.hid (a3.since HAwq.out.ext)
                    clear a0 a1 a2 a3 s1
                    go_wp2
                    all_goals
                      go_roundw
                      case rel => exact ⟨j + 1, _, _, _, by go_num, by omega, rfl, by rw [HN.out, HI.out]; exact HN3.out⟩
                      case measure => simp [intOf]; omega
                · obtain ⟨i, hi⟩ : ∃ i, k = i + 1 := ⟨k - 1, by omega⟩
                  have e0 : decide (0 < k) = true := by simp; omega
                  have i0 : (0 : Int) ≤ i := by omega
                  have i1 : (i : Int) < n' := by omega
                  have i2 : (k : Int) - 1 = (i : Int) := by omega
                  obtain ⟨b', o', z, hAz, hz, hcell⟩ := ROwq.out.int (show i < n' by omega)
                  subst hAz
                  have HZ := Lib.hid (show (D.map (balF price xs))[i]? = some (balF price xs z) by rw [List.getElem?_map, hz]; rfl)
                  have HJ := Lib.hid hi
                  clear hz hi h0
                  go_wp2_with fail
                  refine (l14Balance_any _ n c B xs z price _ RLq.out hBq hn HO.out HP.out).mono ?_
                  rintro e wv ⟨rfl, hbv⟩
                  have hF : balV z price xs = balF price xs z := rfl
                  rw [hF]
                  clear hF
                  have HBV := Lib.hid hbv
                  have HAwv := Lib.hid (HAwq.out.later hbv)
                  have ROwv := Lib.hid HAwv.out.reads
                  clear hbv
                  generalize balF price xs z = fz at HZ
                  by_cases hlt2 : fp < fz
                  · have HPO := Lib.hid (posD_on HZ.out hlt2)
                    have e3 : decide (fp < fz) = true := by simp; omega
                    go_wp2
                    go_roundw
                    case rel => exact ⟨i, by have := HJ.out; go_num, by omega, by rw [HPOS.out, HJ.out, HPO.out], ext_trans HBQ.out HBV.out⟩
                    case measure => simp [intOf]; have := HJ.out; omega
                  · have HPO := Lib.hid (posD_stop HZ.out hlt2)
                    have e3 : decide (fp < fz) = false := by simp; omega
                    have HI := Lib.hid (HIN.out k (by rw [HDL.out, HF.out, HPOS.out, HJ.out, HPO.out]))
                    go_wp2
                    refine wp_region_held_drew (S := (fun _ => True)) (by kernel_rfl) ?_ (fun hHeld => ?_)
                    · trivial
                    obtain ⟨X, hX⟩ : ∃ X, X = World.drew wv := ⟨_, rfl⟩
                    rw [← hX]
                    try rw [← hX] at hHeld
                    have bX : Below wv.heap.size wv X := hX ▸ ext_drew (Below.refl _ _)
                    clear hX
                    refine wpAnyH_takeD (i := 1) (v := ?_) 62 rfl rfl (by kernel_rfl) (by kernel_rfl) (by kernel_rfl) (fun _ _ _ _ _ h => h) (by rfl) (by assumption) ?_ ?_
                    rotate_left; focus (intro w hSw; (try dsimp only at hSw); go_simp; try (with_reducible rfl))
                    try simp only [Act.put, List.setIfInBounds_toArray, List.set_cons_zero, List.set_cons_succ]
                    refine wpAnyH_takeD (i := 2) (v := ?_) 63 rfl rfl (by kernel_rfl) (by kernel_rfl) (by kernel_rfl) (fun _ _ _ _ _ h => h) (by rfl) (by assumption) ?_ ?_
                    rotate_left; focus (intro w hSw; (try dsimp only at hSw); go_simp; try (with_reducible rfl))
                    try simp only [Act.put, List.setIfInBounds_toArray, List.set_cons_zero, List.set_cons_succ]
                    refine wpAnyH_takeD (i := 3) (v := ?_) 64 rfl rfl (by kernel_rfl) (by kernel_rfl) (by kernel_rfl) (fun _ _ _ _ _ h => h) (by rfl) (by assumption) ?_ ?_
                    rotate_left; focus (intro w hSw; (try dsimp only at hSw); go_simp; try (with_reducible rfl))
                    try simp only [Act.put, List.setIfInBounds_toArray, List.set_cons_zero, List.set_cons_succ]
                    refine wpAnyH_takeD (i := 5) (v := ?_) 66 rfl rfl (by kernel_rfl) (by kernel_rfl) (by kernel_rfl) (fun _ _ _ _ _ h => h) (by rfl) (by assumption) ?_ ?_
                    rotate_left; focus (intro w hSw; (try dsimp only at hSw); go_simp; try (with_reducible rfl))
                    try simp only [Act.put, List.setIfInBounds_toArray, List.set_cons_zero, List.set_cons_succ]
                    refine wpAnyH_takeD (i := 8) (v := ?_) 69 rfl rfl (by kernel_rfl) (by kernel_rfl) (by kernel_rfl) (fun _ _ _ _ _ h => h) (by rfl) (by assumption) ?_ ?_
                    rotate_left; focus (intro w hSw; (try dsimp only at hSw); go_simp; try (with_reducible rfl))
                    try simp only [Act.put, List.setIfInBounds_toArray, List.set_cons_zero, List.set_cons_succ]
                    refine wpAnyH_takeD (i := 9) (v := ?_) 70 rfl rfl (by kernel_rfl) (by kernel_rfl) (by kernel_rfl) (fun _ _ _ _ _ h => h) (by rfl) (by assumption) ?_ ?_
                    rotate_left; focus (intro w hSw; (try dsimp only at hSw); go_simp; try (with_reducible rfl))
                    try simp only [Act.put, List.setIfInBounds_toArray, List.set_cons_zero, List.set_cons_succ]
                    refine wpAnyH_takeD (i := 10) (v := ?_) 71 rfl rfl (by kernel_rfl) (by kernel_rfl) (by kernel_rfl) (fun _ _ _ _ _ h => h) (by rfl) (by assumption) ?_ ?_
                    rotate_left; focus (intro w hSw; (try dsimp only at hSw); go_simp; try (with_reducible rfl))
                    try simp only [Act.put, List.setIfInBounds_toArray, List.set_cons_zero, List.set_cons_succ]
                    refine wpAnyH_ready (rs := [0, 6]) (by kernel_rfl) (by simp) ?_
                    refine AllReadyH.cons rfl (fun K hK => ?_) (AllReadyH.cons rfl (fun K hK => ?_) AllReadyH.nil)
                    · go_simp
                      obtain ⟨Y, hY⟩ : ∃ Y, Y = World.alloc X (Obj.cells #[] 3) := ⟨_, rfl⟩
                      rw [← hY]
                      have bY : Below wv.heap.size wv Y := hY ▸ ext_alloc bX _
                      have a0 : Acc wv Y 3 1 (some ⟨X.heap.size, 0, none⟩) 0 0 [] := hY ▸ Acc.empty bX
                      clear hY
                      refine hK.out _ _ (by trivial) (fun hHeld => ?_)
                      clear hK K; (try simp only [Act.put]); (try simp only [List.setIfInBounds_toArray]); (try simp only [List.set_cons_succ]); (try simp only [List.set_cons_zero])
                      refine wpAnyH_ready (rs := [4, 6]) (by kernel_rfl) (by simp) ?_
                      refine AllReadyH.cons rfl (fun K hK => ?_) (AllReadyH.cons rfl (fun K hK => ?_) AllReadyH.nil)
                      · refine appI_b_step rfl (.tmp 61) (.tmp 64) rfl rfl a0 rfl ((ROwv.out.below bY).frontI hk) (by omega) ?_
                        intro A1 c1 Z a1 p1
                        have bZ := a1.ext
                        simp only [Nat.zero_add, List.nil_append] at a1
                        refine hK.out _ _ (by trivial) (fun hHeld => ?_)
                        clear hK K; (try simp only [Act.put]); (try simp only [List.setIfInBounds_toArray]); (try simp only [List.set_cons_succ]); (try simp only [List.set_cons_zero])
                        try simp only [Nat.zero_add]
                        refine wpAnyH_ready (rs := [6]) (by kernel_rfl) (by simp) ?_
                        refine AllReadyH.cons rfl (fun K hK => ?_) AllReadyH.nil
                        go_simp
                        obtain ⟨T, hT⟩ : ∃ T, T = World.alloc Z (Obj.cells #[.int .i64 x.p] 3) := ⟨_, rfl⟩
                        rw [← hT]
                        have bT : Below wv.heap.size wv T := hT ▸ ext_alloc bZ _
                        have s1 := Side.new a1 #[.int .i64 x.p] 3 [x.p] rfl rfl
                        rw [← hT] at s1
                        have a1 := a1.alloc (Obj.cells #[.int .i64 x.p] 3)
                        rw [← hT] at a1
                        clear hT
                        refine hK.out _ _ (by trivial) (fun hHeld => ?_)
                        clear hK K; (try simp only [Act.put]); (try simp only [List.setIfInBounds_toArray]); (try simp only [List.set_cons_succ]); (try simp only [List.set_cons_zero])
                        refine wpAnyH_ready (rs := [7]) (by kernel_rfl) (by simp) ?_
                        refine AllReadyH.cons rfl (fun K hK => ?_) AllReadyH.nil
                        refine appI_b_step rfl (.tmp 65) (.tmp 67) rfl rfl a1 rfl s1.reads (by omega) ?_
                        intro A2 c2 V a2 p2
                        have bV := a2.ext
                        refine hK.out _ _ (by trivial) (fun hHeld => ?_)
                        clear hK K; (try simp only [Act.put]); (try simp only [List.setIfInBounds_toArray]); (try simp only [List.set_cons_succ]); (try simp only [List.set_cons_zero])
                        refine wpAnyH_ready (rs := [11]) (by kernel_rfl) (by simp) ?_
                        refine AllReadyH.cons rfl (fun K hK => ?_) AllReadyH.nil
                        refine appI_b_step rfl (.tmp 68) (.tmp 71) rfl rfl a2 rfl (by first | exact ((ROwv.out.below bV).cutI hk cap1) | exact ((ROwv.out.below bV).cutS hk cap1)) (by omega) ?_
                        intro A3 c3 U a3 p3
                        have bU := a3.ext
                        refine hK.out _ _ (by trivial) (fun hHeld => ?_)
                        clear hK K; (try simp only [Act.put]); (try simp only [List.setIfInBounds_toArray]); (try simp only [List.set_cons_succ]); (try simp only [List.set_cons_zero])
                        refine wpAnyH_takeD (i := 12) (v := ?_) 6 rfl rfl (by kernel_rfl) (by kernel_rfl) (by kernel_rfl) (fun _ _ _ _ _ h => h) (by rfl) (by assumption) ?_ ?_
                        rotate_left; focus (intro w hSw; (try dsimp only at hSw); go_simp; try (with_reducible rfl))
                        (try simp only [Act.put]); (try simp only [List.setIfInBounds_toArray]); (try simp only [List.set_cons_succ]); (try simp only [List.set_cons_zero])
                        refine wpAnyH_done (by kernel_rfl) ?_ _
                        simp only [List.append_assoc, List.cons_append, List.nil_append] at a3
                        have HN3 := Lib.hid (a3.since HAwv.out.ext)
                        clear a0 a1 a2 a3 s1
                        go_wp2
                        all_goals
                          go_roundw
                          case rel => exact ⟨j + 1, _, _, _, by go_num, by omega, rfl, by rw [HN.out, HI.out]; exact HN3.out⟩
                          case measure => simp [intOf]; omega
                      · go_simp
                        obtain ⟨Z, hZ⟩ : ∃ Z, Z = World.alloc Y (Obj.cells #[.int .i64 x.p] 3) := ⟨_, rfl⟩
                        rw [← hZ]
                        have bZ : Below wv.heap.size wv Z := hZ ▸ ext_alloc bY _
                        have s1 := Side.new a0 #[.int .i64 x.p] 3 [x.p] rfl rfl
                        rw [← hZ] at s1
                        have a0 := a0.alloc (Obj.cells #[.int .i64 x.p] 3)
                        rw [← hZ] at a0
                        clear hZ
                        refine hK.out _ _ (by trivial) (fun hHeld => ?_)
                        clear hK K; (try simp only [Act.put]); (try simp only [List.setIfInBounds_toArray]); (try simp only [List.set_cons_succ]); (try simp only [List.set_cons_zero])
                        refine wpAnyH_ready (rs := [4]) (by kernel_rfl) (by simp) ?_
                        refine AllReadyH.cons rfl (fun K hK => ?_) AllReadyH.nil
                        refine appI_b_step rfl (.tmp 61) (.tmp 64) rfl rfl a0 rfl ((ROwv.out.below bZ).frontI hk) (by omega) ?_
                        intro A1 c1 T a1 p1
                        have bT := a1.ext
                        simp only [Nat.zero_add, List.nil_append] at a1
                        have s1 := s1.pushed p1
                        refine hK.out _ _ (by trivial) (fun hHeld => ?_)
                        clear hK K; (try simp only [Act.put]); (try simp only [List.setIfInBounds_toArray]); (try simp only [List.set_cons_succ]); (try simp only [List.set_cons_zero])
                        try simp only [Nat.zero_add]
                        refine wpAnyH_ready (rs := [7]) (by kernel_rfl) (by simp) ?_
                        refine AllReadyH.cons rfl (fun K hK => ?_) AllReadyH.nil
                        refine appI_b_step rfl (.tmp 65) (.tmp 67) rfl rfl a1 rfl s1.reads (by omega) ?_
                        intro A2 c2 V a2 p2
                        have bV := a2.ext
                        refine hK.out _ _ (by trivial) (fun hHeld => ?_)
                        clear hK K; (try simp only [Act.put]); (try simp only [List.setIfInBounds_toArray]); (try simp only [List.set_cons_succ]); (try simp only [List.set_cons_zero])
                        refine wpAnyH_ready (rs := [11]) (by kernel_rfl) (by simp) ?_
                        refine AllReadyH.cons rfl (fun K hK => ?_) AllReadyH.nil
                        refine appI_b_step rfl (.tmp 68) (.tmp 71) rfl rfl a2 rfl (by first | exact ((ROwv.out.below bV).cutI hk cap1) | exact ((ROwv.out.below bV).cutS hk cap1)) (by omega) ?_
                        intro A3 c3 U a3 p3
                        have bU := a3.ext
                        refine hK.out _ _ (by trivial) (fun hHeld => ?_)
                        clear hK K; (try simp only [Act.put]); (try simp only [List.setIfInBounds_toArray]); (try simp only [List.set_cons_succ]); (try simp only [List.set_cons_zero])
                        refine wpAnyH_takeD (i := 12) (v := ?_) 6 rfl rfl (by kernel_rfl) (by kernel_rfl) (by kernel_rfl) (fun _ _ _ _ _ h => h) (by rfl) (by assumption) ?_ ?_
                        rotate_left; focus (intro w hSw; (try dsimp only at hSw); go_simp; try (with_reducible rfl))
                        (try simp only [Act.put]); (try simp only [List.setIfInBounds_toArray]); (try simp only [List.set_cons_succ]); (try simp only [List.set_cons_zero])
                        refine wpAnyH_done (by kernel_rfl) ?_ _
                        simp only [List.append_assoc, List.cons_append, List.nil_append] at a3
                        have HN3 := Lib.hid (a3.since HAwv.out.ext)
                        clear a0 a1 a2 a3 s1
                        go_wp2
                        all_goals
                          go_roundw
                          case rel => exact ⟨j + 1, _, _, _, by go_num, by omega, rfl, by rw [HN.out, HI.out]; exact HN3.out⟩
                          case measure => simp [intOf]; omega
                    · go_simp
                      obtain ⟨Y, hY⟩ : ∃ Y, Y = World.alloc X (Obj.cells #[.int .i64 x.p] 3) := ⟨_, rfl⟩
                      rw [← hY]
                      have bY : Below wv.heap.size wv Y := hY ▸ ext_alloc bX _
                      have s1 := Side.new0 X 1 #[.int .i64 x.p] 3 [x.p] rfl rfl
                      rw [← hY] at s1
                      clear hY
                      refine hK.out _ _ (by trivial) (fun hHeld => ?_)
                      clear hK K; (try simp only [Act.put]); (try simp only [List.setIfInBounds_toArray]); (try simp only [List.set_cons_succ]); (try simp only [List.set_cons_zero])
                      refine wpAnyH_ready (rs := [0]) (by kernel_rfl) (by simp) ?_
                      refine AllReadyH.cons rfl (fun K hK => ?_) AllReadyH.nil
                      go_simp
                      obtain ⟨Z, hZ⟩ : ∃ Z, Z = World.alloc Y (Obj.cells #[] 3) := ⟨_, rfl⟩
                      rw [← hZ]
                      have bZ : Below wv.heap.size wv Z := hZ ▸ ext_alloc bY _
                      have a0 : Acc wv Z 3 1 (some ⟨Y.heap.size, 0, none⟩) 0 0 [] := hZ ▸ Acc.empty bY
                      have s1 := s1.row (Obj.cells #[] 3)
                      rw [← hZ] at s1
                      clear hZ
                      refine hK.out _ _ (by trivial) (fun hHeld => ?_)
                      clear hK K; (try simp only [Act.put]); (try simp only [List.setIfInBounds_toArray]); (try simp only [List.set_cons_succ]); (try simp only [List.set_cons_zero])
                      refine wpAnyH_ready (rs := [4]) (by kernel_rfl) (by simp) ?_
                      refine AllReadyH.cons rfl (fun K hK => ?_) AllReadyH.nil
                      refine appI_b_step rfl (.tmp 61) (.tmp 64) rfl rfl a0 rfl ((ROwv.out.below bZ).frontI hk) (by omega) ?_
                      intro A1 c1 T a1 p1
                      have bT := a1.ext
                      simp only [Nat.zero_add, List.nil_append] at a1
                      have s1 := s1.pushed p1
                      refine hK.out _ _ (by trivial) (fun hHeld => ?_)
                      clear hK K; (try simp only [Act.put]); (try simp only [List.setIfInBounds_toArray]); (try simp only [List.set_cons_succ]); (try simp only [List.set_cons_zero])
                      try simp only [Nat.zero_add]
                      refine wpAnyH_ready (rs := [7]) (by kernel_rfl) (by simp) ?_
                      refine AllReadyH.cons rfl (fun K hK => ?_) AllReadyH.nil
                      refine appI_b_step rfl (.tmp 65) (.tmp 67) rfl rfl a1 rfl s1.reads (by omega) ?_
                      intro A2 c2 V a2 p2
                      have bV := a2.ext
                      refine hK.out _ _ (by trivial) (fun hHeld => ?_)
                      clear hK K; (try simp only [Act.put]); (try simp only [List.setIfInBounds_toArray]); (try simp only [List.set_cons_succ]); (try simp only [List.set_cons_zero])
                      refine wpAnyH_ready (rs := [11]) (by kernel_rfl) (by simp) ?_
                      refine AllReadyH.cons rfl (fun K hK => ?_) AllReadyH.nil
                      refine appI_b_step rfl (.tmp 68) (.tmp 71) rfl rfl a2 rfl (by first | exact ((ROwv.out.below bV).cutI hk cap1) | exact ((ROwv.out.below bV).cutS hk cap1)) (by omega) ?_
                      intro A3 c3 U a3 p3
                      have bU := a3.ext
                      refine hK.out _ _ (by trivial) (fun hHeld => ?_)
                      clear hK K; (try simp only [Act.put]); (try simp only [List.setIfInBounds_toArray]); (try simp only [List.set_cons_succ]); (try simp only [List.set_cons_zero])
                      refine wpAnyH_takeD (i := 12) (v := ?_) 6 rfl rfl (by kernel_rfl) (by kernel_rfl) (by kernel_rfl) (fun _ _ _ _ _ h => h) (by rfl) (by assumption) ?_ ?_
                      rotate_left; focus (intro w hSw; (try dsimp only at hSw); go_simp; try (with_reducible rfl))
                      (try simp only [Act.put]); (try simp only [List.setIfInBounds_toArray]); (try simp only [List.set_cons_succ]); (try simp only [List.set_cons_zero])
                      refine wpAnyH_done (by kernel_rfl) ?_ _
                      simp only [List.append_assoc, List.cons_append, List.nil_append] at a3
                      have HN3 := Lib.hid (a3.since HAwv.out.ext)
                      clear a0 a1 a2 a3 s1
                      go_wp2
                      all_goals
                        go_roundw
                        case rel => exact ⟨j + 1, _, _, _, by go_num, by omega, rfl, by rw [HN.out, HI.out]; exact HN3.out⟩
                        case measure => simp [intOf]; omega
            · have HST := Lib.hid (debt_out (f := balF price xs) (.inr hhas))
              go_wp2_with (go_at_call 81; refine (l1Has_any A' n' c' _ D x.p _ RO.out (by unfold maxLen; omega)).mono ?_; rintro e w' ⟨rfl, rfl⟩; rw [hhas])
              go_roundw
              case rel => exact ⟨j + 1, _, _, _, by go_num, by omega, rfl, by rw [HN.out, HST.out]; exact HA2.out⟩
              case measure => simp [intOf]; omega
          · have HST := Lib.hid (debt_out (f := balF price xs) (out := D) (p := x.p) (.inl (HF.out ▸ hneg)))
            have hnn : 0 ≤ fp := by omega
            go_wp2
            go_roundw
            case rel => exact ⟨j + 1, _, _, _, by go_num, by omega, rfl, by rw [HN.out, HST.out]; exact HA2.out⟩
            case measure => simp [intOf]; omega
        · have hj' : j = n := by omega
          have e : xs.take j = xs := List.take_of_length_le (by have := HL.out; omega)
          rw [e] at HA
          clear e
          go_wp2
          go_ret2
          exact ⟨_, _, _, rfl, HA.out⟩
end Go.Proofs.Ytbjmpllnkkfgfaa
