/- The list of all targets: the reference's. No condition. -/
import Derived.Test.YtkgbcjiinicffaaGat
import Derived.Test.YtkgbcjiinicffaaTgt
import Derived.Test.YtkgbcjiinicffaaIns
import Derived.Test.YtkgbcjiinicffaaHeld
namespace Go.Proofs.Ytkgbcjiinicffaa
open Go.RowKit

/-- Each list with each form behind it. -/
def stepT (ts : List (List Rod)) (fs : List Rod) : List (List Rod) := ts.flatMap fun t => fs.map fun f => t ++ [f]
def tgts (u l : Int) : Nat → Int → List (List Rod)
  | 0, n => if n = 0 then [[]] else []
  | r + 1, n => stepT (tgts u l r ((n - n % 10) / 10)) (formsR u l (n % 10)) ++ (if n % 10 + 10 ≤ 15 ∧ n % 10 + 10 ≤ n then stepT (tgts u l r ((n - (n % 10 + 10)) / 10)) (formsR u l (n % 10 + 10)) else [])
theorem stepT_len : ∀ (ts : List (List Rod)) (fs : List Rod), (stepT ts fs).length = fs.length * ts.length
  | [], fs => by simp [stepT]
  | t :: ts, fs => by
    have ih := stepT_len ts fs
    unfold stepT at *
    rw [List.flatMap_cons, List.length_append, ih, List.length_map, List.length_cons, Nat.mul_succ]; omega
theorem stepT_nil (ts : List (List Rod)) : stepT ts [] = [] := List.length_eq_zero_iff.1 (by rw [stepT_len]; simp)
theorem stepT_next {ts : List (List Rod)} {fs : List Rod} {i : Nat} {t : List Rod} (h : ts[i]? = some t) : stepT (ts.take (i + 1)) fs = stepT (ts.take i) fs ++ fs.map fun f => t ++ [f] := by
  unfold stepT
  rw [List.take_add_one, h, List.flatMap_append]; simp
theorem mapT_next {fs : List Rod} {k : Nat} {f : Rod} {t : List Rod} (h : fs[k]? = some f) : ((fs.take (k + 1)).map fun f => t ++ [f]) = ((fs.take k).map fun f => t ++ [f]) ++ [t ++ [f]] := by
  rw [List.take_add_one, h, List.map_append]; rfl
theorem tgts_each (u l : Int) : ∀ (r : Nat) (n : Int), ∀ t ∈ tgts u l r n, t.length = r
  | 0, n => by unfold tgts; split <;> simp
  | r + 1, n => by
    have key : ∀ (v : Int) (fs : List Rod), ∀ t ∈ stepT (tgts u l r v) fs, t.length = r + 1 := by
      intro v fs t ht
      unfold stepT at ht
      obtain ⟨s, hs, hm⟩ := List.mem_flatMap.1 ht
      obtain ⟨f, _, rfl⟩ := List.mem_map.1 hm
      rw [List.length_append, tgts_each u l r v s hs]; rfl
    intro t ht
    rw [tgts] at ht
    rcases List.mem_append.1 ht with ht | ht
    · exact key _ _ t ht
    · split at ht
      · exact key _ _ t ht
      · cases ht
theorem frmN_eq (u l v : Int) : frmN u l v = (formsR u l v).length := by rw [formsR_len]; rfl
theorem tgts_len (u l : Int) : ∀ (r : Nat) (n : Int), ((tgts u l r n).length : Int) = tgt u l r n
  | 0, n => by unfold tgts tgt; split <;> rfl
  | r + 1, n => by
    have a := tgts_len u l r ((n - n % 10) / 10)
    have b := tgts_len u l r ((n - (n % 10 + 10)) / 10)
    rw [tgts, tgt, List.length_append, stepT_len, frmN_eq, frmN_eq, ← a, ← b, Int.natCast_add, Int.natCast_mul]
    split
    · rw [stepT_len, Int.natCast_mul]
    · rfl
/-- How far has the list come? -/
structure StT (u l : Int) (r : Nat) (N val : Int) (rows : List (List Rod)) : Prop where
  out : (val = N % 10 ∧ rows = []) ∨ (val = N % 10 + 10 ∧ rows = stepT (tgts u l r ((N - N % 10) / 10)) (formsR u l (N % 10))) ∨
    (val = N % 10 + 20 ∧ N % 10 + 10 ≤ 15 ∧ N % 10 + 10 ≤ N ∧ rows = stepT (tgts u l r ((N - N % 10) / 10)) (formsR u l (N % 10)) ++ stepT (tgts u l r ((N - (N % 10 + 10)) / 10)) (formsR u l (N % 10 + 10)))
theorem StT.next {u l N val : Int} {r : Nat} {rows : List (List Rod)} (h : StT u l r N val rows) (h1 : val ≤ 15) (h2 : val ≤ N) (_ : 0 ≤ N) : StT u l r N (val + 10) (rows ++ stepT (tgts u l r ((N - val) / 10)) (formsR u l val)) := by
  rcases h.out with ⟨rfl, rfl⟩ | ⟨rfl, rfl⟩ | ⟨rfl, h3, _⟩
  · exact ⟨.inr (.inl ⟨rfl, by rw [List.nil_append]⟩)⟩
  · exact ⟨.inr (.inr ⟨by omega, h1, h2, rfl⟩)⟩
  · omega
theorem StT.done {u l N val : Int} {r : Nat} {rows : List (List Rod)} (h : StT u l r N val rows) (h1 : ¬ (val ≤ 15 ∧ val ≤ N)) (hN : 0 ≤ N) : rows = tgts u l (r + 1) N := by
  rw [tgts]
  rcases h.out with ⟨rfl, rfl⟩ | ⟨rfl, rfl⟩ | ⟨rfl, h3, h4, rfl⟩
  · omega
  · rw [if_neg (by omega), List.append_nil]
  · rw [if_pos ⟨h3, h4⟩]
theorem StT.st {u l N val : Int} {r : Nat} {rows : List (List Rod)} (h : StT u l r N val rows) : St u l r N val (rows.length : Int) := by
  rcases h.out with ⟨rfl, rfl⟩ | ⟨rfl, rfl⟩ | ⟨rfl, h3, h4, rfl⟩
  · exact ⟨.inl ⟨rfl, rfl⟩⟩
  · exact ⟨.inr (.inl ⟨rfl, by rw [stepT_len, frmN_eq, ← tgts_len, Int.natCast_mul]⟩)⟩
  · exact ⟨.inr (.inr ⟨rfl, h3, h4, by rw [List.length_append, stepT_len, stepT_len, frmN_eq, frmN_eq, ← tgts_len, ← tgts_len, Int.natCast_add, Int.natCast_mul, Int.natCast_mul]⟩)⟩
/-- A row made since wa, beside an older one. -/
theorem Acc.side {wa w : World} {E k m c : Nat} {R A : Option Addr} {xs : List Int} (h : Acc wa w E k R m c xs) (hA : ∀ x, A = some x → x.block < wa.heap.size) : Side w w.heap.size k R m xs A := by
  refine ⟨h.reads, fun hm x hx e => ?_, Nat.le_refl _⟩
  have h1 := (h.own.lt x.block (by rw [ownBlock_slice, hx]; rfl)).1
  cases A with
  | none => cases e
  | some y =>
    have := hA y rfl
    injection e with e
    have e : y.block = x.block := e
    omega
theorem Acc.newBlock {wa w : World} {E k m c : Nat} {R : Option Addr} {xs : List Int} (h : Acc wa w E k R m c xs) : ∀ x, R = some x → wa.heap.size ≤ x.block := fun x hx => (h.own.lt x.block (by rw [ownBlock_slice, hx]; rfl)).1
theorem off_ne {b o : Nat} {A : Option Addr} (h : Off (some ⟨b, o, none⟩) A) : ∀ x, A = some x → x.block ≠ b := fun x hx e => h _ rfl (by rw [hx]; exact congrArg some e)
theorem inner_len {rows ts : List (List Rod)} {fs : List Rod} {t : List Rod} {i k : Nat} : (rows ++ stepT (ts.take i) fs ++ (fs.take k).map fun f => t ++ [f]).length ≤ rows.length + fs.length * ts.length + fs.length := by
  rw [List.length_append, List.length_append, stepT_len, List.length_map, List.length_take, List.length_take]
  have := Nat.mul_le_mul_left fs.length (Nat.min_le_right i ts.length)
  omega
set_option maxRecDepth 100000 in
set_option maxHeartbeats 8000000 in
theorem l13Targets_any (u l : Int) (A : Option Addr) (n c : Nat) (h0 : 0 ≤ u) (h1 : u ≤ 2) (r : Nat) : ∀ (N : Int) (w : World), r ≤ 8 → 0 ≤ N → N ≤ 9223372036854775807 →
    Calls Try.prog 52 #[.agg #[.int .i64 u, .int .i64 l, .slice A n c], .int .i64 (r : Int), .int .i64 N] w fun e w' => ∃ A' n' c' hs, e = .returned (.slice A' n' c') ∧ AccL w w' 22 1 hdC A' n' c' hs (tgts u l r N) := by
  induction r with
  | zero =>
    intro N w _ hN hN2
    by_cases hz : N = 0
    · subst hz
      go_enter Try.func52, Try.ntmps52
      go_wp2_with fail
      go_ret
      have z1 : ∀ (w : World) (o : Obj), (w.alloc o).heap.size = w.heap.size + 1 := fun w o => by simp
      have h := AccL.one (E := 22) (f := hdC) (k1 := 1) (ext_alloc (ext_alloc (Below.refl w.heap.size w) (.cells #[.int .i64 u, .int .i64 l, .slice A n c] 33)) (.cells #[] 47)) ⟨some ⟨w.heap.size + 1, 0, none⟩, 0, 0⟩ rfl #[.slice (some ⟨w.heap.size + 1, 0, none⟩) 0 0] rfl rfl
      simp only [z1, Nat.add_assoc, Nat.reduceAdd] at h ⊢
      exact ⟨_, _, _, _, rfl, by simpa [tgts] using h⟩
    · have e : (N == 0) = false := by simp [hz]
      go_enter Try.func52, Try.ntmps52
      go_wp2_with fail
      go_ret
      have h := AccL.empty (E := 22) (f := hdC) (k1 := 1) (ext_alloc (Below.refl w.heap.size w) (.cells #[.int .i64 u, .int .i64 l, .slice A n c] 33))
      exact ⟨_, _, _, _, rfl, by simpa [tgts, hz] using h⟩
  | succ r ih =>
    intro N w hr hN hN2
    have IH := Lib.hid ih
    have e1 : (((r + 1 : Nat) : Int) == 0) = false := by simp; omega
    have e2 : IntKind.i64.wrap (((r + 1 : Nat) : Int) - 1) = (r : Int) := by rw [IntWalk.i64_in _ ⟨by omega, by omega⟩]; omega
    have hm : N.tmod 10 = N % 10 := wrem hN
    have hb := ext_alloc (Below.refl w.heap.size w) (.cells #[.int .i64 u, .int .i64 l, .slice A n c] 33)
    have hB := Blk.new w 33 #[.int .i64 u, .int .i64 l, .slice A n c]
    have hz1 : (w.alloc (.cells #[.int .i64 u, .int .i64 l, .slice A n c] 33)).heap.size = w.heap.size + 1 := by simp
    generalize hw1 : w.alloc (.cells #[.int .i64 u, .int .i64 l, .slice A n c] 33) = w1 at hb hB hz1
    generalize ((r + 1 : Nat) : Int) = K at e1 e2 ⊢
    have hA0 := AccL.empty (E := 22) (f := hdC) (k1 := 1) (Below.refl w1.heap.size w1)
    rw [hz1] at hA0
    have HA0 := Lib.hid hA0
    clear hA0
    have HB := Lib.hid hb
    have HK := Lib.hid hB
    have HW := Lib.hid hw1
    clear hb hB hw1 ih
    go_enter Try.func52, Try.ntmps52
    go_wp2_with fail
    rw [HW.out]
    go_loopw [7, 8] (fun p v wr => ∃ (val : Int) (m c : Nat) (P : Option Addr) (hs : List Hdr) (rows : List (List Rod)), v = .int .i64 val ∧ p = .slice P m c ∧ StT u l r N val rows ∧ AccL w1 wr 22 1 hdC P m c hs rows) (fun _ v _ => (40 - intOf v).toNat)
    case atStart => exact ⟨N % 10, 0, 0, _, [], [], by rfl, rfl, ⟨.inl ⟨rfl, rfl⟩⟩, HA0.out⟩
    case round =>
      obtain ⟨wq, rfl⟩ : ∃ wq : World, wq = wr := ⟨_, rfl⟩
      obtain ⟨val, m, c', P, hs, rows, rfl, rfl, hst, hacc⟩ := hrel
      obtain ⟨v0, v1, c0, c1⟩ := hst.st.bd h0 h1 hN
      have hp6 := pow6 (k := r + 1) (by omega)
      have c2 : rows.length ≤ 10077696 := by omega
      have HST := Lib.hid hst
      have HA := Lib.hid hacc
      clear hst hacc c1 hp6 c0
      by_cases hc : val ≤ 15 ∧ val ≤ N
      · obtain ⟨d1, d2⟩ := hc
        have HX := Lib.hid (HK.out.below HA.out.ext HK.out.lt)
        have x0 := HX.out.cell 0
        have x1 := HX.out.cell 1
        have x2 := HX.out.cell 2
        simp only [List.getElem?_toArray, List.getElem?_cons_zero, List.getElem?_cons_succ] at x0 x1 x2
        have t1 := tgt_bd (l := l) h0 h1 r ((N - val) / 10)
        have ht6 := pow6 (k := r) (by omega)
        have fb := formsR_le (l := l) (v := val) h0 h1
        have hq := wquo (x := N - val) (y := 10) (by omega) (by omega) (by omega)
        have HV := Lib.hid (HST.out.next d1 d2 hN)
        have hff := formsR_flat u l val
        go_wp2_with fail
        refine (l13Forms_any u l val _ h0 (by omega) (by omega) (by omega)).mono ?_
        rintro e w2 ⟨fA, fn, fc, rfl, hfacc⟩
        rw [← hff] at hfacc
        have hfn := hfacc.len
        rw [rodF_len] at hfn
        have hfn' : (formsR u l val).length = fn := by omega
        have HX := Lib.hid (HX.out.below hfacc.ext HX.out.lt)
        have y0 := HX.out.cell 0
        have y1 := HX.out.cell 1
        have y2 := HX.out.cell 2
        simp only [List.getElem?_toArray, List.getElem?_cons_zero, List.getElem?_cons_succ] at y0 y1 y2
        have HF := Lib.hid (hfacc.side (A := P) HA.out.lt)
        have HA2 := Lib.hid (HA.out.later hfacc.ext)
        have HFL := Lib.hid hfn'
        generalize formsR u l val = fs at HF HV HFL fb hfn'
        clear hfacc hfn x0 x1 x2 hff
        have tl := tgts_len u l r ((N - val) / 10)
        have tb : (tgts u l r ((N - val) / 10)).length ≤ 10077696 := by omega
        clear t1 ht6 tl
        by_cases hp : 0 < fn
        · have hp1 : (0 : Int) < fn := by omega
          have hz0 : ((fn : Int) == 0) = false := by simp; omega
          go_wp2_with fail
          refine (IH.out ((N - val) / 10) _ (by omega) (by omega) (by omega)).mono ?_
          rintro e w3 ⟨tA, tn, tc, ths, rfl, htacc⟩
          have hte := tgts_each u l r ((N - val) / 10)
          generalize tgts u l r ((N - val) / 10) = ts at htacc HV tb hte
          have HTE := Lib.hid hte
          clear hte
          have htn : ts.length = tn := by have := htacc.len; have := htacc.hlen; omega
          have HA3 := Lib.hid (HA2.out.later htacc.ext)
          have HR3 := Lib.hid (htacc.side (A' := P) HA2.out.lt)
          have HF3 := Lib.hid (HF.out.later htacc.ext)
          have HTN := Lib.hid htn
          have hz3 : w1.heap.size ≤ w3.heap.size := HA3.out.ext.size
          clear htacc y0 y1 y2 HX HA HA2 HF HST
          go_wp2_with fail
          go_loopw [7, 11] (fun p q wi => ∃ (i m c : Nat) (A : Option Addr) (hs : List Hdr), q = .int .i64 (i : Int) ∧ i ≤ tn ∧ p = .slice A m c ∧ AccL w1 wi 22 1 hdC A m c hs (rows ++ stepT (ts.take i) fs) ∧ SideL wi w3.heap.size 1 hdC tA tn ths ts A ∧ Side wi w2.heap.size 2 fA fn (rodF fs) A) (fun _ q _ => tn - (intOf q).toNat)
          case atStart => exact ⟨0, _, _, _, _, rfl, by omega, rfl, by simpa [stepT] using HA3.out, HR3.out, HF3.out⟩
          case round =>
            obtain ⟨wj, rfl⟩ : ∃ wj : World, wj = wr := ⟨_, rfl⟩
            obtain ⟨i, m, c, A, hs, rfl, hi, rfl, hacc, hsr, hsf⟩ := hrel
            have HA := Lib.hid hacc
            have HR := Lib.hid hsr
            have HF := Lib.hid hsf
            clear hacc hsr hsf
            have i0 : (0 : Int) ≤ i := by omega
            by_cases hlt : i < tn
            · obtain ⟨t, ht⟩ : ∃ t, ts[i]? = some t := ⟨_, List.getElem?_eq_getElem (by omega)⟩
              have HT := Lib.hid ht
              have i1 : (i : Int) < tn := by omega
              clear ht
              go_wp2_with fail
              go_loopw [7, 12] (fun p q wk => ∃ (k m c : Nat) (A : Option Addr) (hs : List Hdr), q = .int .i64 (k : Int) ∧ k ≤ fn ∧ p = .slice A m c ∧ AccL w1 wk 22 1 hdC A m c hs (rows ++ stepT (ts.take i) fs ++ (fs.take k).map fun f => t ++ [f]) ∧ SideL wk w3.heap.size 1 hdC tA tn ths ts A ∧ Side wk w2.heap.size 2 fA fn (rodF fs) A) (fun _ q _ => fn - (intOf q).toNat)
              case atStart => exact ⟨0, _, _, _, _, rfl, by omega, rfl, by simpa using HA.out, HR.out, HF.out⟩
              case round =>
                obtain ⟨wk, rfl⟩ : ∃ wk : World, wk = wr := ⟨_, rfl⟩
                obtain ⟨k, m, c, A, hs, rfl, hk, rfl, hacc, hsr, hsf⟩ := hrel
                have HA := Lib.hid hacc
                have HR := Lib.hid hsr
                have HF := Lib.hid hsf
                clear hacc hsr hsf
                have k0 : (0 : Int) ≤ k := by omega
                by_cases hkt : k < fn
                · obtain ⟨b, o, y, t', rfl, hy, ht', hsy, hcy⟩ := HR.out.at_ hdC_len (by omega) hlt
                  rw [HT.out] at ht'
                  injection ht' with ht'
                  subst ht'
                  have C0 := Lib.hid (show wk.cell? ⟨b, o + i, none⟩ = some (.slice y.a y.n y.c) by have := hcy 0 y.v rfl; simpa using this)
                  obtain ⟨fq, fo, f, hfA, hfx, hc1, hc2⟩ := HF.out.reads.rod hkt
                  subst hfA
                  have C1 := Lib.hid hc1
                  have C2 := Lib.hid hc2
                  have HFX := Lib.hid hfx
                  have HS := Lib.hid hsy
                  have k1 : (k : Int) < fn := by omega
                  clear hcy hy hfx hc1 hc2 hsy
                  have HZ0 := Lib.hid (show w1.heap.size ≤ wk.heap.size from HA.out.ext.size)
                  have hmn : m ≤ 99999999 := by
                    have e1 := inner_len (rows := rows) (ts := ts) (fs := fs) (t := t) (i := i) (k := k)
                    have e2 := HA.out.len
                    have e3 := HA.out.hlen
                    have e4 := Nat.mul_le_mul fb tb
                    omega
                  have hyn : y.n ≤ 1000 := by have e1 := HTE.out t (List.mem_of_getElem? HT.out); have e2 := HS.out.reads.rodLen; omega
                  have NE0 := Lib.hid (off_ne (HR.out.outer.off (by omega)))
                  have NE1 := Lib.hid (off_ne (HF.out.off (by omega)))
                  have RY := Lib.hid (show Reads wk wk.heap.size 2 y.a y.n ((rodF t).map (Value.int .i64)) from (HS.out.reads.more HS.out.size))
                  go_wp2_with fail
                  refine wp_region_held_drew (S := (fun W => W.cell? ⟨b, o + i, none⟩ = some (.slice y.a y.n y.c) ∧ W.cell? ⟨fq, fo + k * 2, none⟩ = some (.int .i64 f.a) ∧ W.cell? ⟨fq, fo + k * 2 + 1, none⟩ = some (.int .i64 f.b))) (by kernel_rfl) ?_ (fun hHeld => ?_)
                  · (try dsimp only); have bX : Below wk.heap.size wk wk.drew := ext_drew (Below.refl _ _); (first | exact ⟨below_cell (by assumption) C0.out, below_cell (by assumption) C1.out, below_cell (by assumption) C2.out⟩ | exact ⟨p3.cell (below_cell bT2 C0.out) NE0.out, p3.cell (below_cell bT2 C1.out) NE1.out, p3.cell (below_cell bT2 C2.out) NE1.out⟩)
                  obtain ⟨X, hX⟩ : ∃ X, X = World.drew wk := ⟨_, rfl⟩
                  rw [← hX]
                  try rw [← hX] at hHeld
                  have bX : Below wk.heap.size wk X := hX ▸ ext_drew (Below.refl _ _)
                  clear hX
                  refine wpAnyH_takeD (i := 0) (v := ?_) 61 rfl rfl (by kernel_rfl) (by kernel_rfl) (by kernel_rfl) (fun _ _ _ _ _ h => h) (by rfl) (by assumption) ?_ ?_
                  rotate_left; focus (intro w hSw; (try dsimp only at hSw); go_simp; try (with_reducible rfl))
                  try simp only [Act.put, List.setIfInBounds_toArray, List.set_cons_zero, List.set_cons_succ]
                  refine wpAnyH_takeD (i := 2) (v := ?_) 63 rfl rfl (by kernel_rfl) (by kernel_rfl) (by kernel_rfl) (fun _ _ _ _ _ h => h) (by rfl) (by assumption) ?_ ?_
                  rotate_left; focus (intro w hSw; (try dsimp only at hSw); go_simp; try (with_reducible rfl))
                  try simp only [Act.put, List.setIfInBounds_toArray, List.set_cons_zero, List.set_cons_succ]
                  refine wpAnyH_takeD (i := 3) (v := ?_) 64 rfl rfl (by kernel_rfl) (by kernel_rfl) (by kernel_rfl) (fun _ _ _ _ _ h => h) (by rfl) (by assumption) ?_ ?_
                  rotate_left; focus (intro w hSw; (try dsimp only at hSw); go_simp; try (with_reducible rfl))
                  try simp only [Act.put, List.setIfInBounds_toArray, List.set_cons_zero, List.set_cons_succ]
                  refine wpAnyH_takeD (i := 4) (v := ?_) 65 rfl rfl (by kernel_rfl) (by kernel_rfl) (by kernel_rfl) (fun _ _ _ _ _ h => h) (by rfl) (by assumption) ?_ ?_
                  rotate_left; focus (intro w hSw; (try dsimp only at hSw); go_simp; try (with_reducible rfl))
                  try simp only [Act.put, List.setIfInBounds_toArray, List.set_cons_zero, List.set_cons_succ]
                  refine wpAnyH_takeD (i := 5) (v := ?_) 66 rfl rfl (by kernel_rfl) (by kernel_rfl) (by kernel_rfl) (fun _ _ _ _ _ h => h) (by rfl) (by assumption) ?_ ?_
                  rotate_left; focus (intro w hSw; (try dsimp only at hSw); go_simp; try (with_reducible rfl))
                  try simp only [Act.put, List.setIfInBounds_toArray, List.set_cons_zero, List.set_cons_succ]
                  refine wpAnyH_takeD (i := 7) (v := ?_) 68 rfl rfl (by kernel_rfl) (by kernel_rfl) (by kernel_rfl) (fun _ _ _ _ _ h => h) (by rfl) (by assumption) ?_ ?_
                  rotate_left; focus (intro w hSw; (try dsimp only at hSw); go_simp; try (with_reducible rfl))
                  try simp only [Act.put, List.setIfInBounds_toArray, List.set_cons_zero, List.set_cons_succ]
                  refine wpAnyH_takeD (i := 8) (v := ?_) 69 rfl rfl (by kernel_rfl) (by kernel_rfl) (by kernel_rfl) (fun _ _ _ _ _ h => h) (by rfl) (by assumption) ?_ ?_
                  rotate_left; focus (intro w hSw; (try dsimp only at hSw); go_simp; try (with_reducible rfl))
                  try simp only [Act.put, List.setIfInBounds_toArray, List.set_cons_zero, List.set_cons_succ]
                  refine wpAnyH_takeD (i := 9) (v := ?_) 70 rfl rfl (by kernel_rfl) (by kernel_rfl) (by kernel_rfl) (fun _ _ _ _ _ h => h) (by rfl) (by assumption) ?_ ?_
                  rotate_left; focus (intro w hSw; (try dsimp only at hSw); go_simp; try (with_reducible rfl))
                  try simp only [Act.put, List.setIfInBounds_toArray, List.set_cons_zero, List.set_cons_succ]
                  refine wpAnyH_takeD (i := 10) (v := ?_) 71 rfl rfl (by kernel_rfl) (by kernel_rfl) (by kernel_rfl) (fun _ _ _ _ _ h => h) (by rfl) (by assumption) ?_ ?_
                  rotate_left; focus (intro w hSw; (try dsimp only at hSw); go_simp; try (with_reducible rfl))
                  try simp only [Act.put, List.setIfInBounds_toArray, List.set_cons_zero, List.set_cons_succ]
                  refine wpAnyH_ready (rs := [1, 11]) (by kernel_rfl) (by simp) ?_
                  refine AllReadyH.cons rfl (fun K hK => ?_) (AllReadyH.cons rfl (fun K hK => ?_) AllReadyH.nil)
                  · go_simp
                    obtain ⟨Y, hY⟩ : ∃ Y, Y = World.alloc X (Obj.cells #[] 47) := ⟨_, rfl⟩
                    rw [← hY]
                    have bY : Below wk.heap.size wk Y := hY ▸ ext_alloc bX _
                    have a0 : Acc wk Y 47 2 (some ⟨X.heap.size, 0, none⟩) 0 0 [] := hY ▸ Acc.empty bX
                    clear hY
                    refine hK.out _ _ (by (first | exact ⟨below_cell (by assumption) C0.out, below_cell (by assumption) C1.out, below_cell (by assumption) C2.out⟩ | exact ⟨p3.cell (below_cell bT2 C0.out) NE0.out, p3.cell (below_cell bT2 C1.out) NE1.out, p3.cell (below_cell bT2 C2.out) NE1.out⟩)) (fun hHeld => ?_)
                    clear hK K; (try simp only [Act.put]); (try simp only [List.setIfInBounds_toArray]); (try simp only [List.set_cons_succ]); (try simp only [List.set_cons_zero])
                    refine wpAnyH_ready (rs := [6, 11]) (by kernel_rfl) (by simp) ?_
                    refine AllReadyH.cons rfl (fun K hK => ?_) (AllReadyH.cons rfl (fun K hK => ?_) AllReadyH.nil)
                    · refine app2_b_step rfl (.tmp 62) (.tmp 66) rfl rfl a0 rfl (RY.out.below bY) (by omega) ?_
                      intro A1 c1 Z a1 p1
                      have bZ := a1.ext
                      simp only [Nat.zero_add, List.nil_append] at a1
                      refine hK.out _ _ (by (first | exact ⟨below_cell (by assumption) C0.out, below_cell (by assumption) C1.out, below_cell (by assumption) C2.out⟩ | exact ⟨p3.cell (below_cell bT2 C0.out) NE0.out, p3.cell (below_cell bT2 C1.out) NE1.out, p3.cell (below_cell bT2 C2.out) NE1.out⟩)) (fun hHeld => ?_)
                      clear hK K; (try simp only [Act.put]); (try simp only [List.setIfInBounds_toArray]); (try simp only [List.set_cons_succ]); (try simp only [List.set_cons_zero])
                      try simp only [Nat.zero_add]
                      refine wpAnyH_ready (rs := [11]) (by kernel_rfl) (by simp) ?_
                      refine AllReadyH.cons rfl (fun K hK => ?_) AllReadyH.nil
                      go_simp
                      obtain ⟨T, hT⟩ : ∃ T, T = World.alloc Z (Obj.cells #[.int .i64 f.a, .int .i64 f.b] 47) := ⟨_, rfl⟩
                      rw [← hT]
                      have bT : Below wk.heap.size wk T := hT ▸ ext_alloc bZ _
                      have s1 := Side.new a1 #[.int .i64 f.a, .int .i64 f.b] 47 [f.a, f.b] rfl rfl
                      rw [← hT] at s1
                      have a1 := a1.alloc (Obj.cells #[.int .i64 f.a, .int .i64 f.b] 47)
                      rw [← hT] at a1
                      clear hT
                      refine hK.out _ _ (by (first | exact ⟨below_cell (by assumption) C0.out, below_cell (by assumption) C1.out, below_cell (by assumption) C2.out⟩ | exact ⟨p3.cell (below_cell bT2 C0.out) NE0.out, p3.cell (below_cell bT2 C1.out) NE1.out, p3.cell (below_cell bT2 C2.out) NE1.out⟩)) (fun hHeld => ?_)
                      clear hK K; (try simp only [Act.put]); (try simp only [List.setIfInBounds_toArray]); (try simp only [List.set_cons_succ]); (try simp only [List.set_cons_zero])
                      refine wpAnyH_ready (rs := [12]) (by kernel_rfl) (by simp) ?_
                      refine AllReadyH.cons rfl (fun K hK => ?_) AllReadyH.nil
                      refine app2_b_step rfl (.tmp 67) (.tmp 72) rfl rfl a1 rfl s1.reads (by omega) ?_
                      intro A2 c2 V a2 p2
                      have bV := a2.ext
                      refine hK.out _ _ (by (first | exact ⟨below_cell (by assumption) C0.out, below_cell (by assumption) C1.out, below_cell (by assumption) C2.out⟩ | exact ⟨p3.cell (below_cell bT2 C0.out) NE0.out, p3.cell (below_cell bT2 C1.out) NE1.out, p3.cell (below_cell bT2 C2.out) NE1.out⟩)) (fun hHeld => ?_)
                      clear hK K; (try simp only [Act.put]); (try simp only [List.setIfInBounds_toArray]); (try simp only [List.set_cons_succ]); (try simp only [List.set_cons_zero])
                      refine wpAnyH_ready (rs := [13]) (by kernel_rfl) (by simp) ?_
                      refine AllReadyH.cons rfl (fun K hK => ?_) AllReadyH.nil
                      go_simp
                      obtain ⟨T2, hT2⟩ : ∃ T2, T2 = World.alloc V (Obj.cells #[.slice A2 (y.n + 1) c2] 22) := ⟨_, rfl⟩
                      rw [← hT2]
                      have bT2 : Below wk.heap.size wk T2 := hT2 ▸ ext_alloc bV _
                      have aO := HA.out.later bT2
                      have aR := (HR.out.later bT2)
                      have aF := (HF.out.later bT2)
                      have a2n := a2.newBlock
                      have a2s := ((a2.later (hT2 ▸ ext_alloc (Below.refl _ _) _)).side (A := A) HA.out.lt)
                      have rb := SideV.box (X := V) (A := none) (k := 1) #[.slice A2 (y.n + 1) c2] 22 rfl (fun _ h => by cases h)
                      rw [← hT2] at rb
                      clear hT2
                      refine hK.out _ _ (by (first | exact ⟨below_cell (by assumption) C0.out, below_cell (by assumption) C1.out, below_cell (by assumption) C2.out⟩ | exact ⟨p3.cell (below_cell bT2 C0.out) NE0.out, p3.cell (below_cell bT2 C1.out) NE1.out, p3.cell (below_cell bT2 C2.out) NE1.out⟩)) (fun hHeld => ?_)
                      clear hK K; (try simp only [Act.put]); (try simp only [List.setIfInBounds_toArray]); (try simp only [List.set_cons_succ]); (try simp only [List.set_cons_zero])
                      refine wpAnyH_ready (rs := [14]) (by kernel_rfl) (by simp) ?_
                      refine AllReadyH.cons rfl (fun K hK => ?_) AllReadyH.nil
                      refine accL_app_step (y := ⟨A2, y.n + 1, c2⟩) (r := t ++ [f]) Try.underlying64 infoL rfl (by decide) hdC_one rfl (.tmp 61) (.tmp 74) rfl rfl aO rfl rb.reads (by rw [rodF_app]; exact a2s) (fun _ x hx => Nat.le_trans HZ0.out (a2n x hx)) (by unfold maxLen; omega) (by omega) ?_
                      intro A3 c3 U a3 p3
                      have bU := a3.ext
                      have aR := aR.pushed p3
                      have aF := aF.pushed p3
                      refine hK.out _ _ (by (first | exact ⟨below_cell (by assumption) C0.out, below_cell (by assumption) C1.out, below_cell (by assumption) C2.out⟩ | exact ⟨p3.cell (below_cell bT2 C0.out) NE0.out, p3.cell (below_cell bT2 C1.out) NE1.out, p3.cell (below_cell bT2 C2.out) NE1.out⟩)) (fun hHeld => ?_)
                      clear hK K; (try simp only [Act.put]); (try simp only [List.setIfInBounds_toArray]); (try simp only [List.set_cons_succ]); (try simp only [List.set_cons_zero])
                      refine wpAnyH_takeD (i := 15) (v := ?_) 7 rfl rfl (by kernel_rfl) (by kernel_rfl) (by kernel_rfl) (fun _ _ _ _ _ h => h) (by rfl) (by assumption) ?_ ?_
                      rotate_left; focus (intro w hSw; (try dsimp only at hSw); go_simp; try (with_reducible rfl))
                      (try simp only [Act.put]); (try simp only [List.setIfInBounds_toArray]); (try simp only [List.set_cons_succ]); (try simp only [List.set_cons_zero])
                      refine wpAnyH_done (by kernel_rfl) ?_ _
                      clear hHeld
                      go_wp2
                      go_roundw
                      case rel => exact ⟨k + 1, _, _, _, _, by go_num, by omega, rfl, by rw [mapT_next HFX.out, ← List.append_assoc]; exact a3, aR, aF⟩
                      case measure => simp [intOf]; omega
                    · go_simp
                      obtain ⟨Z, hZ⟩ : ∃ Z, Z = World.alloc Y (Obj.cells #[.int .i64 f.a, .int .i64 f.b] 47) := ⟨_, rfl⟩
                      rw [← hZ]
                      have bZ : Below wk.heap.size wk Z := hZ ▸ ext_alloc bY _
                      have s1 := Side.new a0 #[.int .i64 f.a, .int .i64 f.b] 47 [f.a, f.b] rfl rfl
                      rw [← hZ] at s1
                      have a0 := a0.alloc (Obj.cells #[.int .i64 f.a, .int .i64 f.b] 47)
                      rw [← hZ] at a0
                      clear hZ
                      refine hK.out _ _ (by (first | exact ⟨below_cell (by assumption) C0.out, below_cell (by assumption) C1.out, below_cell (by assumption) C2.out⟩ | exact ⟨p3.cell (below_cell bT2 C0.out) NE0.out, p3.cell (below_cell bT2 C1.out) NE1.out, p3.cell (below_cell bT2 C2.out) NE1.out⟩)) (fun hHeld => ?_)
                      clear hK K; (try simp only [Act.put]); (try simp only [List.setIfInBounds_toArray]); (try simp only [List.set_cons_succ]); (try simp only [List.set_cons_zero])
                      refine wpAnyH_ready (rs := [6]) (by kernel_rfl) (by simp) ?_
                      refine AllReadyH.cons rfl (fun K hK => ?_) AllReadyH.nil
                      refine app2_b_step rfl (.tmp 62) (.tmp 66) rfl rfl a0 rfl (RY.out.below bZ) (by omega) ?_
                      intro A1 c1 T a1 p1
                      have bT := a1.ext
                      simp only [Nat.zero_add, List.nil_append] at a1
                      have s1 := s1.pushed p1
                      refine hK.out _ _ (by (first | exact ⟨below_cell (by assumption) C0.out, below_cell (by assumption) C1.out, below_cell (by assumption) C2.out⟩ | exact ⟨p3.cell (below_cell bT2 C0.out) NE0.out, p3.cell (below_cell bT2 C1.out) NE1.out, p3.cell (below_cell bT2 C2.out) NE1.out⟩)) (fun hHeld => ?_)
                      clear hK K; (try simp only [Act.put]); (try simp only [List.setIfInBounds_toArray]); (try simp only [List.set_cons_succ]); (try simp only [List.set_cons_zero])
                      try simp only [Nat.zero_add]
                      refine wpAnyH_ready (rs := [12]) (by kernel_rfl) (by simp) ?_
                      refine AllReadyH.cons rfl (fun K hK => ?_) AllReadyH.nil
                      refine app2_b_step rfl (.tmp 67) (.tmp 72) rfl rfl a1 rfl s1.reads (by omega) ?_
                      intro A2 c2 V a2 p2
                      have bV := a2.ext
                      refine hK.out _ _ (by (first | exact ⟨below_cell (by assumption) C0.out, below_cell (by assumption) C1.out, below_cell (by assumption) C2.out⟩ | exact ⟨p3.cell (below_cell bT2 C0.out) NE0.out, p3.cell (below_cell bT2 C1.out) NE1.out, p3.cell (below_cell bT2 C2.out) NE1.out⟩)) (fun hHeld => ?_)
                      clear hK K; (try simp only [Act.put]); (try simp only [List.setIfInBounds_toArray]); (try simp only [List.set_cons_succ]); (try simp only [List.set_cons_zero])
                      refine wpAnyH_ready (rs := [13]) (by kernel_rfl) (by simp) ?_
                      refine AllReadyH.cons rfl (fun K hK => ?_) AllReadyH.nil
                      go_simp
                      obtain ⟨T2, hT2⟩ : ∃ T2, T2 = World.alloc V (Obj.cells #[.slice A2 (y.n + 1) c2] 22) := ⟨_, rfl⟩
                      rw [← hT2]
                      have bT2 : Below wk.heap.size wk T2 := hT2 ▸ ext_alloc bV _
                      have aO := HA.out.later bT2
                      have aR := (HR.out.later bT2)
                      have aF := (HF.out.later bT2)
                      have a2n := a2.newBlock
                      have a2s := ((a2.later (hT2 ▸ ext_alloc (Below.refl _ _) _)).side (A := A) HA.out.lt)
                      have rb := SideV.box (X := V) (A := none) (k := 1) #[.slice A2 (y.n + 1) c2] 22 rfl (fun _ h => by cases h)
                      rw [← hT2] at rb
                      clear hT2
                      refine hK.out _ _ (by (first | exact ⟨below_cell (by assumption) C0.out, below_cell (by assumption) C1.out, below_cell (by assumption) C2.out⟩ | exact ⟨p3.cell (below_cell bT2 C0.out) NE0.out, p3.cell (below_cell bT2 C1.out) NE1.out, p3.cell (below_cell bT2 C2.out) NE1.out⟩)) (fun hHeld => ?_)
                      clear hK K; (try simp only [Act.put]); (try simp only [List.setIfInBounds_toArray]); (try simp only [List.set_cons_succ]); (try simp only [List.set_cons_zero])
                      refine wpAnyH_ready (rs := [14]) (by kernel_rfl) (by simp) ?_
                      refine AllReadyH.cons rfl (fun K hK => ?_) AllReadyH.nil
                      refine accL_app_step (y := ⟨A2, y.n + 1, c2⟩) (r := t ++ [f]) Try.underlying64 infoL rfl (by decide) hdC_one rfl (.tmp 61) (.tmp 74) rfl rfl aO rfl rb.reads (by rw [rodF_app]; exact a2s) (fun _ x hx => Nat.le_trans HZ0.out (a2n x hx)) (by unfold maxLen; omega) (by omega) ?_
                      intro A3 c3 U a3 p3
                      have bU := a3.ext
                      have aR := aR.pushed p3
                      have aF := aF.pushed p3
                      refine hK.out _ _ (by (first | exact ⟨below_cell (by assumption) C0.out, below_cell (by assumption) C1.out, below_cell (by assumption) C2.out⟩ | exact ⟨p3.cell (below_cell bT2 C0.out) NE0.out, p3.cell (below_cell bT2 C1.out) NE1.out, p3.cell (below_cell bT2 C2.out) NE1.out⟩)) (fun hHeld => ?_)
                      clear hK K; (try simp only [Act.put]); (try simp only [List.setIfInBounds_toArray]); (try simp only [List.set_cons_succ]); (try simp only [List.set_cons_zero])
                      refine wpAnyH_takeD (i := 15) (v := ?_) 7 rfl rfl (by kernel_rfl) (by kernel_rfl) (by kernel_rfl) (fun _ _ _ _ _ h => h) (by rfl) (by assumption) ?_ ?_
                      rotate_left; focus (intro w hSw; (try dsimp only at hSw); go_simp; try (with_reducible rfl))
                      (try simp only [Act.put]); (try simp only [List.setIfInBounds_toArray]); (try simp only [List.set_cons_succ]); (try simp only [List.set_cons_zero])
                      refine wpAnyH_done (by kernel_rfl) ?_ _
                      clear hHeld
                      go_wp2
                      go_roundw
                      case rel => exact ⟨k + 1, _, _, _, _, by go_num, by omega, rfl, by rw [mapT_next HFX.out, ← List.append_assoc]; exact a3, aR, aF⟩
                      case measure => simp [intOf]; omega
                  · go_simp
                    obtain ⟨Y, hY⟩ : ∃ Y, Y = World.alloc X (Obj.cells #[.int .i64 f.a, .int .i64 f.b] 47) := ⟨_, rfl⟩
                    rw [← hY]
                    have bY : Below wk.heap.size wk Y := hY ▸ ext_alloc bX _
                    have s1 := Side.new0 X 2 #[.int .i64 f.a, .int .i64 f.b] 47 [f.a, f.b] rfl rfl
                    rw [← hY] at s1
                    clear hY
                    refine hK.out _ _ (by (first | exact ⟨below_cell (by assumption) C0.out, below_cell (by assumption) C1.out, below_cell (by assumption) C2.out⟩ | exact ⟨p3.cell (below_cell bT2 C0.out) NE0.out, p3.cell (below_cell bT2 C1.out) NE1.out, p3.cell (below_cell bT2 C2.out) NE1.out⟩)) (fun hHeld => ?_)
                    clear hK K; (try simp only [Act.put]); (try simp only [List.setIfInBounds_toArray]); (try simp only [List.set_cons_succ]); (try simp only [List.set_cons_zero])
                    refine wpAnyH_ready (rs := [1]) (by kernel_rfl) (by simp) ?_
                    refine AllReadyH.cons rfl (fun K hK => ?_) AllReadyH.nil
                    go_simp
                    obtain ⟨Z, hZ⟩ : ∃ Z, Z = World.alloc Y (Obj.cells #[] 47) := ⟨_, rfl⟩
                    rw [← hZ]
                    have bZ : Below wk.heap.size wk Z := hZ ▸ ext_alloc bY _
                    have a0 : Acc wk Z 47 2 (some ⟨Y.heap.size, 0, none⟩) 0 0 [] := hZ ▸ Acc.empty bY
                    have s1 := s1.row (Obj.cells #[] 47)
                    rw [← hZ] at s1
                    clear hZ
                    refine hK.out _ _ (by (first | exact ⟨below_cell (by assumption) C0.out, below_cell (by assumption) C1.out, below_cell (by assumption) C2.out⟩ | exact ⟨p3.cell (below_cell bT2 C0.out) NE0.out, p3.cell (below_cell bT2 C1.out) NE1.out, p3.cell (below_cell bT2 C2.out) NE1.out⟩)) (fun hHeld => ?_)
                    clear hK K; (try simp only [Act.put]); (try simp only [List.setIfInBounds_toArray]); (try simp only [List.set_cons_succ]); (try simp only [List.set_cons_zero])
                    refine wpAnyH_ready (rs := [6]) (by kernel_rfl) (by simp) ?_
                    refine AllReadyH.cons rfl (fun K hK => ?_) AllReadyH.nil
                    refine app2_b_step rfl (.tmp 62) (.tmp 66) rfl rfl a0 rfl (RY.out.below bZ) (by omega) ?_
                    intro A1 c1 T a1 p1
                    have bT := a1.ext
                    simp only [Nat.zero_add, List.nil_append] at a1
                    have s1 := s1.pushed p1
                    refine hK.out _ _ (by (first | exact ⟨below_cell (by assumption) C0.out, below_cell (by assumption) C1.out, below_cell (by assumption) C2.out⟩ | exact ⟨p3.cell (below_cell bT2 C0.out) NE0.out, p3.cell (below_cell bT2 C1.out) NE1.out, p3.cell (below_cell bT2 C2.out) NE1.out⟩)) (fun hHeld => ?_)
                    clear hK K; (try simp only [Act.put]); (try simp only [List.setIfInBounds_toArray]); (try simp only [List.set_cons_succ]); (try simp only [List.set_cons_zero])
                    try simp only [Nat.zero_add]
                    refine wpAnyH_ready (rs := [12]) (by kernel_rfl) (by simp) ?_
                    refine AllReadyH.cons rfl (fun K hK => ?_) AllReadyH.nil
                    refine app2_b_step rfl (.tmp 67) (.tmp 72) rfl rfl a1 rfl s1.reads (by omega) ?_
                    intro A2 c2 V a2 p2
                    have bV := a2.ext
                    refine hK.out _ _ (by (first | exact ⟨below_cell (by assumption) C0.out, below_cell (by assumption) C1.out, below_cell (by assumption) C2.out⟩ | exact ⟨p3.cell (below_cell bT2 C0.out) NE0.out, p3.cell (below_cell bT2 C1.out) NE1.out, p3.cell (below_cell bT2 C2.out) NE1.out⟩)) (fun hHeld => ?_)
                    clear hK K; (try simp only [Act.put]); (try simp only [List.setIfInBounds_toArray]); (try simp only [List.set_cons_succ]); (try simp only [List.set_cons_zero])
                    refine wpAnyH_ready (rs := [13]) (by kernel_rfl) (by simp) ?_
                    refine AllReadyH.cons rfl (fun K hK => ?_) AllReadyH.nil
                    go_simp
                    obtain ⟨T2, hT2⟩ : ∃ T2, T2 = World.alloc V (Obj.cells #[.slice A2 (y.n + 1) c2] 22) := ⟨_, rfl⟩
                    rw [← hT2]
                    have bT2 : Below wk.heap.size wk T2 := hT2 ▸ ext_alloc bV _
                    have aO := HA.out.later bT2
                    have aR := (HR.out.later bT2)
                    have aF := (HF.out.later bT2)
                    have a2n := a2.newBlock
                    have a2s := ((a2.later (hT2 ▸ ext_alloc (Below.refl _ _) _)).side (A := A) HA.out.lt)
                    have rb := SideV.box (X := V) (A := none) (k := 1) #[.slice A2 (y.n + 1) c2] 22 rfl (fun _ h => by cases h)
                    rw [← hT2] at rb
                    clear hT2
                    refine hK.out _ _ (by (first | exact ⟨below_cell (by assumption) C0.out, below_cell (by assumption) C1.out, below_cell (by assumption) C2.out⟩ | exact ⟨p3.cell (below_cell bT2 C0.out) NE0.out, p3.cell (below_cell bT2 C1.out) NE1.out, p3.cell (below_cell bT2 C2.out) NE1.out⟩)) (fun hHeld => ?_)
                    clear hK K; (try simp only [Act.put]); (try simp only [List.setIfInBounds_toArray]); (try simp only [List.set_cons_succ]); (try simp only [List.set_cons_zero])
                    refine wpAnyH_ready (rs := [14]) (by kernel_rfl) (by simp) ?_
                    refine AllReadyH.cons rfl (fun K hK => ?_) AllReadyH.nil
                    refine accL_app_step (y := ⟨A2, y.n + 1, c2⟩) (r := t ++ [f]) Try.underlying64 infoL rfl (by decide) hdC_one rfl (.tmp 61) (.tmp 74) rfl rfl aO rfl rb.reads (by rw [rodF_app]; exact a2s) (fun _ x hx => Nat.le_trans HZ0.out (a2n x hx)) (by unfold maxLen; omega) (by omega) ?_
                    intro A3 c3 U a3 p3
                    have bU := a3.ext
                    have aR := aR.pushed p3
                    have aF := aF.pushed p3
                    refine hK.out _ _ (by (first | exact ⟨below_cell (by assumption) C0.out, below_cell (by assumption) C1.out, below_cell (by assumption) C2.out⟩ | exact ⟨p3.cell (below_cell bT2 C0.out) NE0.out, p3.cell (below_cell bT2 C1.out) NE1.out, p3.cell (below_cell bT2 C2.out) NE1.out⟩)) (fun hHeld => ?_)
                    clear hK K; (try simp only [Act.put]); (try simp only [List.setIfInBounds_toArray]); (try simp only [List.set_cons_succ]); (try simp only [List.set_cons_zero])
                    refine wpAnyH_takeD (i := 15) (v := ?_) 7 rfl rfl (by kernel_rfl) (by kernel_rfl) (by kernel_rfl) (fun _ _ _ _ _ h => h) (by rfl) (by assumption) ?_ ?_
                    rotate_left; focus (intro w hSw; (try dsimp only at hSw); go_simp; try (with_reducible rfl))
                    (try simp only [Act.put]); (try simp only [List.setIfInBounds_toArray]); (try simp only [List.set_cons_succ]); (try simp only [List.set_cons_zero])
                    refine wpAnyH_done (by kernel_rfl) ?_ _
                    clear hHeld
                    go_wp2
                    go_roundw
                    case rel => exact ⟨k + 1, _, _, _, _, by go_num, by omega, rfl, by rw [mapT_next HFX.out, ← List.append_assoc]; exact a3, aR, aF⟩
                    case measure => simp [intOf]; omega
                · have hkn : k = fn := by omega
                  subst hkn
                  have HE := Lib.hid (show rows ++ stepT (ts.take i) fs ++ ((fs.take k).map fun f => t ++ [f]) = rows ++ stepT (ts.take (i + 1)) fs by rw [stepT_next HT.out, List.take_of_length_le (l := fs) (by have := HFL.out; omega), List.append_assoc])
                  go_wp2_with fail
                  go_roundw
                  case rel => exact ⟨i + 1, _, _, _, _, by go_num, by omega, rfl, by rw [← HE.out]; exact HA.out, HR.out, HF.out⟩
                  case measure => simp [intOf]; omega
            · have hin : i = tn := by omega
              subst hin
              have HE := Lib.hid (show ts.take i = ts by rw [List.take_of_length_le (by have := HTN.out; omega)])
              go_wp2_with fail
              go_roundw
              case rel => exact ⟨val + 10, _, _, _, _, _, by go_num, rfl, HV.out, by rw [← HE.out]; exact HA.out⟩
              case measure => simp [intOf]; omega
        · obtain rfl : fn = 0 := by omega
          have HV' := Lib.hid (show StT u l r N (val + 10) rows by have h := HV.out; rw [List.length_eq_zero_iff.1 HFL.out, stepT_nil, List.append_nil] at h; exact h)
          clear hp
          go_wp2_with fail
          go_roundw
          case rel => exact ⟨val + 10, _, _, _, _, _, by go_num, rfl, HV'.out, HA2.out⟩
          case measure => simp [intOf]; omega
      · have HE := Lib.hid (HST.out.done hc hN)
        have HG := Lib.hid (show AccL w w1 22 1 hdC P m c' hs (tgts u l (r + 1) N) → True from fun _ => trivial)
        by_cases d1 : val ≤ 15
        · have d2 : ¬ val ≤ N := fun h => hc ⟨d1, h⟩
          clear hc
          go_wp2_with fail
          go_ret
          exact ⟨_, _, _, rfl, _, by rw [← HE.out]; exact HA.out.since HB.out⟩
        · clear hc
          go_wp2_with fail
          go_ret
          exact ⟨_, _, _, rfl, _, by rw [← HE.out]; exact HA.out.since HB.out⟩
end Go.Proofs.Ytkgbcjiinicffaa
