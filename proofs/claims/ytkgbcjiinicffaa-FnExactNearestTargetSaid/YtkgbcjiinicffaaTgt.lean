/- How many targets? The program's count. No condition. -/
import Derived.Test.YtkgbcjiinicffaaForms
import Derived.Test.YtkgbcjiinicffaaFrm
namespace Go.Proofs.Ytkgbcjiinicffaa
open Go.RowKit

/-- How many forms has a value? -/
def frmN (u l v : Int) : Nat := (formsTo l v (u.toNat + 1)).length / 2
def tgt (u l : Int) : Nat → Int → Int
  | 0, n => if n = 0 then 1 else 0
  | r + 1, n => (frmN u l (n % 10) : Int) * tgt u l r ((n - n % 10) / 10) + (if n % 10 + 10 ≤ 15 ∧ n % 10 + 10 ≤ n then (frmN u l (n % 10 + 10) : Int) * tgt u l r ((n - (n % 10 + 10)) / 10) else 0)
theorem frmN_le {u l v : Int} (h0 : 0 ≤ u) (h1 : u ≤ 2) : frmN u l v ≤ 3 := by
  have := formsTo_len l v (u.toNat + 1)
  unfold frmN; omega
theorem tgt_bd {u l : Int} (h0 : 0 ≤ u) (h1 : u ≤ 2) : ∀ (r : Nat) (n : Int), 0 ≤ tgt u l r n ∧ tgt u l r n ≤ 6 ^ r
  | 0, n => by unfold tgt; split <;> simp
  | r + 1, n => by
    have a := tgt_bd (l := l) h0 h1 r ((n - n % 10) / 10)
    have b := tgt_bd (l := l) h0 h1 r ((n - (n % 10 + 10)) / 10)
    have fa := frmN_le (l := l) (v := n % 10) h0 h1
    have fb := frmN_le (l := l) (v := n % 10 + 10) h0 h1
    have e : (6 : Int) ^ (r + 1) = 6 * 6 ^ r := by rw [Int.pow_succ]; omega
    rw [tgt, e]
    generalize tgt u l r ((n - n % 10) / 10) = x at *
    generalize tgt u l r ((n - (n % 10 + 10)) / 10) = y at *
    generalize (6 : Int) ^ r = p at *
    have m1 : ∀ (k : Nat) (z : Int), k ≤ 3 → 0 ≤ z → z ≤ p → 0 ≤ (k : Int) * z ∧ (k : Int) * z ≤ 3 * p := by
      intro k z hk hz hp
      exact ⟨Int.mul_nonneg (by omega) hz, Int.mul_le_mul (by omega) hp hz (by omega)⟩
    have g1 := m1 _ x fa a.1 a.2
    have g2 := m1 _ y fb b.1 b.2
    split <;> omega
/-- How far has the count come? -/
structure St (u l : Int) (r : Nat) (N val cnt : Int) : Prop where
  out : (val = N % 10 ∧ cnt = 0) ∨ (val = N % 10 + 10 ∧ cnt = (frmN u l (N % 10) : Int) * tgt u l r ((N - N % 10) / 10)) ∨
    (val = N % 10 + 20 ∧ N % 10 + 10 ≤ 15 ∧ N % 10 + 10 ≤ N ∧ cnt = (frmN u l (N % 10) : Int) * tgt u l r ((N - N % 10) / 10) + (frmN u l (N % 10 + 10) : Int) * tgt u l r ((N - (N % 10 + 10)) / 10))
theorem St.next {u l N val cnt : Int} {r : Nat} (h : St u l r N val cnt) (h1 : val ≤ 15) (h2 : val ≤ N) (_ : 0 ≤ N) : St u l r N (val + 10) (cnt + (frmN u l val : Int) * tgt u l r ((N - val) / 10)) := by
  rcases h.out with ⟨rfl, rfl⟩ | ⟨rfl, rfl⟩ | ⟨rfl, h3, _⟩
  · exact ⟨.inr (.inl ⟨rfl, by omega⟩)⟩
  · exact ⟨.inr (.inr ⟨by omega, h1, h2, rfl⟩)⟩
  · omega
theorem St.done {u l N val cnt : Int} {r : Nat} (h : St u l r N val cnt) (h1 : ¬ (val ≤ 15 ∧ val ≤ N)) (hN : 0 ≤ N) : cnt = tgt u l (r + 1) N := by
  rw [tgt]
  rcases h.out with ⟨rfl, rfl⟩ | ⟨rfl, rfl⟩ | ⟨rfl, h3, h4, rfl⟩
  · omega
  · rw [if_neg (by omega)]; omega
  · rw [if_pos ⟨h3, h4⟩]
theorem St.bd {u l N val cnt : Int} {r : Nat} (h : St u l r N val cnt) (h0 : 0 ≤ u) (h1 : u ≤ 2) (_ : 0 ≤ N) : 0 ≤ val ∧ val ≤ 29 ∧ 0 ≤ cnt ∧ cnt ≤ 6 ^ (r + 1) := by
  have a := tgt_bd (l := l) h0 h1 r ((N - N % 10) / 10)
  have b := tgt_bd (l := l) h0 h1 r ((N - (N % 10 + 10)) / 10)
  have fa := frmN_le (l := l) (v := N % 10) h0 h1
  have fb := frmN_le (l := l) (v := N % 10 + 10) h0 h1
  have e : (6 : Int) ^ (r + 1) = 6 * 6 ^ r := by rw [Int.pow_succ]; omega
  have hh := h.out
  rw [e]
  generalize tgt u l r ((N - N % 10) / 10) = x at *
  generalize tgt u l r ((N - (N % 10 + 10)) / 10) = y at *
  generalize (6 : Int) ^ r = p at *
  have m1 : ∀ (k : Nat) (z : Int), k ≤ 3 → 0 ≤ z → z ≤ p → 0 ≤ (k : Int) * z ∧ (k : Int) * z ≤ 3 * p := by
    intro k z hk hz hp
    exact ⟨Int.mul_nonneg (by omega) hz, Int.mul_le_mul (by omega) hp hz (by omega)⟩
  have g1 := m1 _ x fa a.1 a.2
  have g2 := m1 _ y fb b.1 b.2
  rcases hh with ⟨rfl, rfl⟩ | ⟨rfl, rfl⟩ | ⟨rfl, h3, h4, rfl⟩
  · omega
  · omega
  · omega
theorem pow6 {k : Nat} (h : k ≤ 9) : (6 : Int) ^ k ≤ 10077696 := by
  have hp : ∀ k : Fin 10, (6 : Int) ^ (k : Nat) ≤ 10077696 := by decide
  exact hp ⟨k, by omega⟩
set_option maxRecDepth 100000 in
set_option maxHeartbeats 4000000 in
theorem targets_any (u l : Int) (A : Option Addr) (n c : Nat) (h0 : 0 ≤ u) (h1 : u ≤ 2) (r : Nat) : ∀ (N : Int) (w : World), r ≤ 8 → 0 ≤ N → N ≤ 9223372036854775807 →
    Calls Try.prog 42 #[.agg #[.int .i64 u, .int .i64 l, .slice A n c], .int .i64 (r : Int), .int .i64 N] w fun e w' => e = .returned (.int .i64 (tgt u l r N)) ∧ Below w.heap.size w w' := by
  induction r with
  | zero =>
    intro N w _ hN hN2
    by_cases hz : N = 0
    · subst hz
      go_enter Try.func42, Try.ntmps42
      go_wp2_with fail
      go_ret
      exact ⟨by simp [tgt], ext_alloc (Below.refl _ _) _⟩
    · have e : (N == 0) = false := by simp [hz]
      go_enter Try.func42, Try.ntmps42
      go_wp2_with fail
      go_ret
      exact ⟨by simp [tgt, hz], ext_alloc (Below.refl _ _) _⟩
  | succ r ih =>
    intro N w hr hN hN2
    have IH := Lib.hid ih
    have e1 : (((r + 1 : Nat) : Int) == 0) = false := by simp; omega
    have e2 : IntKind.i64.wrap (((r + 1 : Nat) : Int) - 1) = (r : Int) := by rw [IntWalk.i64_in _ ⟨by omega, by omega⟩]; omega
    have hm : N.tmod 10 = N % 10 := wrem hN
    have hb := ext_alloc (Below.refl w.heap.size w) (.cells #[.int .i64 u, .int .i64 l, .slice A n c] 33)
    have hB := Blk.new w 33 #[.int .i64 u, .int .i64 l, .slice A n c]
    generalize hw1 : w.alloc (.cells #[.int .i64 u, .int .i64 l, .slice A n c] 33) = w1 at hb hB
    generalize ((r + 1 : Nat) : Int) = K at e1 e2 ⊢
    have HB := Lib.hid hb
    have HK := Lib.hid hB
    have HW := Lib.hid hw1
    clear hb hB hw1 ih
    go_enter Try.func42, Try.ntmps42
    go_wp2_with fail
    rw [HW.out]
    go_loopw [7, 8] (fun s v wr => ∃ val cnt : Int, v = .int .i64 val ∧ s = .int .i64 cnt ∧ St u l r N val cnt ∧ Below w1.heap.size w1 wr) (fun _ v _ => (40 - intOf v).toNat)
    case atStart => exact ⟨N % 10, 0, by rfl, rfl, ⟨.inl ⟨rfl, rfl⟩⟩, Below.refl _ _⟩
    case round =>
      obtain ⟨wq, rfl⟩ : ∃ wq : World, wq = wr := ⟨_, rfl⟩
      obtain ⟨val, cnt, rfl, rfl, hst, hb⟩ := hrel
      obtain ⟨v0, v1, c0, c1⟩ := hst.bd h0 h1 hN
      have hp6 := pow6 (k := r + 1) (by omega)
      have c2 : cnt ≤ 10077696 := by omega
      have HST := Lib.hid hst
      have HQ := Lib.hid hb
      clear hst hb c1 hp6
      by_cases hc : val ≤ 15 ∧ val ≤ N
      · obtain ⟨d1, d2⟩ := hc
        have hlt := HK.out.lt
        have HX := Lib.hid (HK.out.below HQ.out hlt)
        have x0 := HX.out.cell 0
        have x1 := HX.out.cell 1
        have x2 := HX.out.cell 2
        simp only [List.getElem?_toArray, List.getElem?_cons_zero, List.getElem?_cons_succ] at x0 x1 x2
        have hv := HST.out.next d1 d2 hN
        obtain ⟨g0, g1, g2, g3⟩ := hv.bd h0 h1 hN
        have hp6 := pow6 (k := r + 1) (by omega)
        have t1 := tgt_bd (l := l) h0 h1 r ((N - val) / 10)
        have ht6 := pow6 (k := r) (by omega)
        have fb := frmN_le (l := l) (v := val) h0 h1
        have hq := wquo (x := N - val) (y := 10) (by omega) (by omega) (by omega)
        have HV := Lib.hid hv
        clear hv
        go_wp2_with fail
        refine (formsOf_any u l val _ h0 (by omega) (by omega) (by omega)).mono ?_
        rintro e w2 ⟨fA, fn, fc, rfl, hacc⟩
        have hfn : frmN u l val = fn := by unfold frmN; have := hacc.len; omega
        have HX := Lib.hid (HX.out.below hacc.ext HX.out.lt)
        have y0 := HX.out.cell 0
        have y1 := HX.out.cell 1
        have y2 := HX.out.cell 2
        simp only [List.getElem?_toArray, List.getElem?_cons_zero, List.getElem?_cons_succ] at y0 y1 y2
        have HQ := Lib.hid (ext_trans HQ.out hacc.ext)
        rw [hfn] at HV g2 g3 fb
        clear hacc hfn x0 x1 x2
        generalize ht : tgt u l r ((N - val) / 10) = T at *
        have HT := Lib.hid ht
        clear ht
        by_cases hp : 0 < fn
        · have hp1 : (0 : Int) < fn := by omega
          have mb : 0 ≤ (fn : Int) * T ∧ (fn : Int) * T ≤ 3 * 10077696 := ⟨Int.mul_nonneg (by omega) t1.1, Int.mul_le_mul (by omega) (by omega) t1.1 (by omega)⟩
          generalize hP : (fn : Int) * T = P at *
          have HP := Lib.hid hP
          clear hP
          go_wp2_with fail
          refine (IH.out ((N - val) / 10) _ (by omega) (by omega) (by omega)).mono ?_
          rintro e w3 ⟨rfl, h3⟩
          rw [HT.out]
          have HQ := Lib.hid (ext_trans HQ.out h3)
          clear h3 y0 y1 y2
          have hP := HP.out
          go_wp2_with fail
          go_roundw
          case rel => exact ⟨val + 10, cnt + P, by go_num, by go_num, HV.out, HQ.out⟩
          case measure => simp [intOf]; omega
        · obtain rfl : fn = 0 := by omega
          clear hp
          go_wp2_with fail
          go_roundw
          case rel => exact ⟨val + 10, cnt, by go_num, rfl, by have := HV.out; simpa using this, HQ.out⟩
          case measure => simp [intOf]; omega
      · have HE := Lib.hid (HST.out.done hc hN)
        by_cases d1 : val ≤ 15
        · have d2 : ¬ val ≤ N := fun h => hc ⟨d1, h⟩
          clear hc
          go_wp2_with fail
          go_ret
          exact ⟨by rw [HE.out]; rfl, ext_trans HB.out HQ.out⟩
        · clear hc
          go_wp2_with fail
          go_ret
          exact ⟨by rw [HE.out]; rfl, ext_trans HB.out HQ.out⟩
end Go.Proofs.Ytkgbcjiinicffaa
