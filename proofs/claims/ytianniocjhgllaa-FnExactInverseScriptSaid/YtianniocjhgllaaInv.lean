/- The opposite script; its law. No condition. -/
import Derived.Test.YtianniocjhgllaaRule2
import Derived.Test.YtianniocjhgllaaScr4
import Derived.Test.YtianniocjhgllaaHeld
import Derived.Laws.IdiomStrings
namespace Go.Proofs.Ytianniocjhgllaa
open Go.RowKit

/-- Block g holds these bytes, none frozen. -/
def BytesAt (w : World) (g : Nat) (l : List UInt8) : Prop := ∀ j, (h : j < l.length) → w.cell? ⟨g, j, none⟩ = some (.int .u8 ((l[j]).toNat : Int)) ∧ w.frozen? ⟨g, j, none⟩ = false
theorem BytesAt.set_ {w : World} {g : Nat} {l : List UInt8} (h : BytesAt w g l) {k : Nat} (hk : k < l.length) (c : UInt8) (v : Int) (hv : v = (c.toNat : Int)) : BytesAt (w.setCell ⟨g, k, none⟩ (.int .u8 v)) g (l.set k c) := by
  intro j hj
  rw [List.length_set] at hj
  refine ⟨?_, by rw [World.frozen?_setCell]; exact (h j hj).2⟩
  by_cases hjk : k = j
  · subst hjk
    rw [World.cell?_setCell_same _ _ _ (h k hk).1, List.getElem_set_self, hv]
  · rw [World.cell?_setCell_other _ _ _ _ (fun e => hjk (by injection e)), (h j hj).1, List.getElem_set_ne hjk]
theorem bytesRow_size (s : ByteArray) (cap : Nat) : s.size ≤ (bytesRow s cap).size := by
  unfold bytesRow
  rw [Array.size_append, Array.size_map]
  exact Nat.le_add_right _ _
theorem bytes_new (w : World) (s : ByteArray) (cap : Nat) (T : TypeId) : BytesAt (w.drew.alloc (.cells (bytesRow s cap) T ((bytesRow s cap).size, (bytesRow s cap).size + 1))) w.heap.size s.data.toList := by
  intro j hj
  have hj' : j < s.data.size := by simpa using hj
  constructor
  · have := World.cell?_alloc_mark w.drew (bytesRow s cap) T ((bytesRow s cap).size, (bytesRow s cap).size + 1) j
    rw [bytesRow_at s cap j hj'] at this
    simpa using this
  · have := World.frozen?_alloc_mark w.drew (bytesRow s cap) T (bytesRow s cap).size ((bytesRow s cap).size + 1) j
    have h2 := bytesRow_size s cap
    have h3 : ¬ (bytesRow s cap).size ≤ j := by
      have : s.size = s.data.size := rfl
      omega
    rw [decide_eq_false h3, Bool.false_and] at this
    exact this
theorem conv_bytes (s : ByteArray) (w : World) : ∃ (g cap : Nat) (W1 : World), (convert 9 45 (.string s)).run Try.prog w = .ok (.slice (some ⟨g, 0, none⟩) s.size cap) W1 ∧ BytesAt W1 g s.data.toList ∧ Below w.heap.size w W1 ∧ w.heap.size ≤ g :=
  ⟨_, _, _, run_bytes_of_string w 9 45 5 s Try.underlying9 Try.underlying45 Try.underlying5, bytes_new w s _ _, ext_alloc (ext_drew (Below.refl _ _)) _, Nat.le_refl _⟩
def turnTo (l : List UInt8) (k : Nat) : List UInt8 := (l.take k).map turnC ++ l.drop k
theorem turnTo_len (l : List UInt8) (k : Nat) : (turnTo l k).length = l.length := by
  unfold turnTo
  rw [List.length_append, List.length_map, List.length_take, List.length_drop]; omega
theorem turnTo_at {l : List UInt8} {k : Nat} (h : k < l.length) : (turnTo l k)[k]'(by rw [turnTo_len]; exact h) = l[k] := by
  unfold turnTo
  rw [List.getElem_append_right (by rw [List.length_map, List.length_take]; omega)]
  simp [Nat.min_eq_left (Nat.le_of_lt h)]
theorem turnTo_set {l : List UInt8} {k : Nat} {c : UInt8} (h : k < l.length) (hc : turnC l[k] = c) : (turnTo l k).set k c = turnTo l (k + 1) := by
  subst hc
  unfold turnTo
  have h1 : ((l.take k).map turnC).length = k := by rw [List.length_map, List.length_take]; omega
  rw [List.set_append, if_neg (by omega), h1, Nat.sub_self, List.drop_eq_getElem_cons h, List.set_cons_zero, List.take_succ_eq_append_getElem h, List.map_append, List.append_assoc]
  rfl
theorem turnTo_same {l : List UInt8} {k : Nat} (h : k < l.length) (hc : turnC l[k] = l[k]) : turnTo l (k + 1) = turnTo l k := by
  unfold turnTo
  rw [List.drop_eq_getElem_cons h, List.take_succ_eq_append_getElem h, List.map_append, List.append_assoc, List.map_singleton, hc]
  rfl
theorem turnTo_all (l : List UInt8) : turnTo l l.length = l.map turnC := by
  unfold turnTo
  rw [List.take_length, List.drop_length, List.append_nil]
theorem conv_back {w : World} {g cap : Nat} {s : ByteArray} (h : BytesAt w g (turnTo s.data.toList s.data.toList.length)) : (convert 45 9 (.slice (some ⟨g, 0, none⟩) s.size cap)).run Try.prog w = .ok (.string (turnB s)) w := by
  have e : s.size = (s.data.toList.map turnC).length := by rw [List.length_map, size_list]
  rw [turnTo_all] at h
  rw [e]
  exact run_convert_bytes_back w 45 9 5 ⟨g, 0, none⟩ cap (s.data.toList.map turnC) Try.underlying45 Try.underlying5 Try.underlying9 (fun j hj => by
    rw [Addr.add_lit, Nat.zero_add]
    exact (h j hj).1)
theorem byte_at_list {s : ByteArray} {k : Nat} (h : k < s.data.toList.length) : byteAt s k = ((s.data.toList[k]).toNat : Int) := by
  unfold byteAt
  simp [List.getD, List.getElem?_eq_getElem h]
theorem list_byte {s : ByteArray} {k : Nat} (h : k < s.data.toList.length) {c : UInt8} (hc : byteAt s k = (c.toNat : Int)) : s.data.toList[k] = c := by
  rw [byte_at_list h] at hc
  exact u8_of hc
theorem turnC_other {c : UInt8} (h1 : (c.toNat : Int) ≠ 43) (h2 : (c.toNat : Int) ≠ 45) (h3 : (c.toNat : Int) ≠ 60) (h4 : (c.toNat : Int) ≠ 62) : turnC c = c := by
  unfold turnC
  rw [if_neg (by rintro rfl; exact h1 rfl), if_neg (by rintro rfl; exact h2 rfl), if_neg (by rintro rfl; exact h3 rfl), if_neg (by rintro rfl; exact h4 rfl)]
/-- The first k bytes have no c. -/
def noC (l : List UInt8) (k : Nat) : Bool := !(l.take k).contains 99
theorem noC_next {l : List UInt8} {k : Nat} (h : k < l.length) (h1 : noC l k = true) (h2 : (l[k].toNat : Int) ≠ 99) : noC l (k + 1) = true := by
  unfold noC at *
  rw [List.take_succ_eq_append_getElem h]
  have : l[k] ≠ 99 := by intro e; rw [e] at h2; exact h2 rfl
  rw [Bool.not_eq_true'] at h1 ⊢
  rw [Bool.eq_false_iff] at h1 ⊢
  intro hh
  rw [List.contains_iff_mem, List.mem_append] at hh
  rcases hh with hh | hh
  · exact h1 (List.contains_iff_mem.2 hh)
  · exact this (by simpa using hh : (99 : UInt8) = l[k]).symm
theorem hasC_hit {s : ByteArray} {k : Nat} (h : k < s.data.toList.length) (h2 : byteAt s k = 99) : hasC s = true := by
  have := list_byte h (c := 99) h2
  unfold hasC
  rw [List.contains_iff_mem, ← this]
  exact List.getElem_mem _
theorem hasC_none {s : ByteArray} (h : noC s.data.toList s.data.toList.length = true) : hasC s = false := by
  unfold noC at h
  rw [List.take_length] at h
  unfold hasC
  simpa using h
theorem inv_miss {s : ByteArray} {k : Nat} {wd : ByteArray} (hw : (wordsB s)[k]? = some wd) (hc : hasC wd = true) : invT s = .tuple #[.string ⟨#[]⟩, .bool false] := by
  have : (wordsB s).all (fun w => !hasC w) = false := by
    rw [List.all_eq_false]
    exact ⟨wd, List.mem_of_getElem? hw, by simp [hc]⟩
  unfold invT invOk
  rw [this]
  simp
theorem inv_all {s : ByteArray} (hs : scriptB s = true) (h : (wordsB s).all (fun w => !hasC w) = true) : invT s = .tuple #[.string (joinB spB (invR s)), .bool true] := by
  unfold invT invOk
  rw [hs, h]; rfl
theorem inv_no {s : ByteArray} (hs : scriptB s = false) : invT s = .tuple #[.string ⟨#[]⟩, .bool false] := by
  unfold invT invOk
  rw [hs]; rfl
theorem invT_form (s : ByteArray) : ∃ r ok, invT s = .tuple #[.string r, .bool ok] := by unfold invT; split <;> exact ⟨_, _, rfl⟩
theorem noc_next {ws : List ByteArray} {k : Nat} {wd : ByteArray} (hw : ws[k]? = some wd) (h : (ws.take k).all (fun w => !hasC w) = true) (hc : hasC wd = false) : (ws.take (k + 1)).all (fun w => !hasC w) = true := by
  rw [take_at hw, List.all_append, h]; simp [hc]
theorem rev_next {ws : List ByteArray} {k : Nat} {wd : ByteArray} (hw : ws[k]? = some wd) : ((ws.take (k + 1)).map turnB).reverse = [turnB wd] ++ ((ws.take k).map turnB).reverse := by
  rw [take_at hw, List.map_append, List.reverse_append]; rfl
set_option maxRecDepth 100000 in
set_option maxHeartbeats 2000000 in
theorem l15Turned_any (s : ByteArray) (hs80 : s.size ≤ 80) (w : World) :
    Calls Try.prog 28 #[.string s] w fun e w' => e = .returned (.string (turnB s)) ∧ Below w.heap.size w w' := by
  obtain ⟨g, cap, W1, hconv, hb1, he1, hg⟩ := conv_bytes s w
  have HB1 := Lib.hid hb1
  have HW := Lib.hid he1
  have HG0 := Lib.hid hg
  clear hb1 he1 hg
  go_enter Try.func28, Try.ntmps28
  go_wp2_with fail
  go_loopw [4] (fun q wr => ∃ j : Nat, q = .int .i64 j ∧ j ≤ s.size ∧ BytesAt wr g (turnTo s.data.toList j) ∧ Below w.heap.size w wr) (fun q _ => s.size - (intOf q).toNat)
  case atStart => exact ⟨0, rfl, by omega, by have := HB1.out; simpa [turnTo] using this, HW.out⟩
  case round =>
    obtain ⟨wq, rfl⟩ : ∃ wq : World, wq = wr := ⟨_, rfl⟩
    obtain ⟨j, rfl, hj, hby, hbe⟩ := hrel
    have HBY := Lib.hid hby
    have HBE := Lib.hid hbe
    clear hby hbe
    have j0 : (0 : Int) ≤ j := by omega
    by_cases hjt : j < s.size
    · have j1 : (j : Int) < s.size := by omega
      have hjl : j < s.data.toList.length := by rw [← size_list]; exact hjt
      have hbl : byteAt s j = _ := byte_at_list hjl
      obtain ⟨hcell, hfr⟩ := HBY.out j (by rw [turnTo_len]; exact hjl)
      rw [turnTo_at hjl, ← hbl] at hcell
      have hz := get_byteAt s j hjt
      have HBL := Lib.hid hbl
      have HJL := Lib.hid hjl
      clear hbl
      by_cases hc43 : byteAt s j = 43
      · have HS := Lib.hid (turnTo_set HJL.out (c := 45) (by rw [list_byte HJL.out (c := 43) hc43]; rfl))
        rw [hc43] at hcell hz
        clear hc43
        go_wp2_with fail
        go_roundw
        case rel => exact ⟨j + 1, by go_num, by omega, by rw [← HS.out]; exact HBY.out.set_ (by rw [turnTo_len]; exact HJL.out) 45 _ rfl, Below.setCell HBE.out HG0.out _⟩
        case measure => simp [intOf]; omega
      by_cases hc45 : byteAt s j = 45
      · have HS := Lib.hid (turnTo_set HJL.out (c := 43) (by rw [list_byte HJL.out (c := 45) hc45]; rfl))
        rw [hc45] at hcell hz
        clear hc45 hc43
        go_wp2_with fail
        go_roundw
        case rel => exact ⟨j + 1, by go_num, by omega, by rw [← HS.out]; exact HBY.out.set_ (by rw [turnTo_len]; exact HJL.out) 43 _ rfl, Below.setCell HBE.out HG0.out _⟩
        case measure => simp [intOf]; omega
      by_cases hc60 : byteAt s j = 60
      · have HS := Lib.hid (turnTo_set HJL.out (c := 62) (by rw [list_byte HJL.out (c := 60) hc60]; rfl))
        rw [hc60] at hcell hz
        clear hc60 hc43 hc45
        go_wp2_with fail
        go_roundw
        case rel => exact ⟨j + 1, by go_num, by omega, by rw [← HS.out]; exact HBY.out.set_ (by rw [turnTo_len]; exact HJL.out) 62 _ rfl, Below.setCell HBE.out HG0.out _⟩
        case measure => simp [intOf]; omega
      by_cases hc62 : byteAt s j = 62
      · have HS := Lib.hid (turnTo_set HJL.out (c := 60) (by rw [list_byte HJL.out (c := 62) hc62]; rfl))
        rw [hc62] at hcell hz
        clear hc62 hc43 hc45 hc60
        go_wp2_with fail
        go_roundw
        case rel => exact ⟨j + 1, by go_num, by omega, by rw [← HS.out]; exact HBY.out.set_ (by rw [turnTo_len]; exact HJL.out) 60 _ rfl, Below.setCell HBE.out HG0.out _⟩
        case measure => simp [intOf]; omega
      have HS := Lib.hid (turnTo_same HJL.out (turnC_other (by rw [← HBL.out]; exact hc43) (by rw [← HBL.out]; exact hc45) (by rw [← HBL.out]; exact hc60) (by rw [← HBL.out]; exact hc62)))
      have m43 : (byteAt s j == 43) = false := beq_eq_false_iff_ne.2 hc43
      have m45 : (byteAt s j == 45) = false := beq_eq_false_iff_ne.2 hc45
      have m60 : (byteAt s j == 60) = false := beq_eq_false_iff_ne.2 hc60
      have m62 : (byteAt s j == 62) = false := beq_eq_false_iff_ne.2 hc62
      clear hc43 hc45 hc60 hc62
      go_wp2_with fail
      go_roundw
      case rel => exact ⟨j + 1, by go_num, by omega, by rw [HS.out]; exact HBY.out, HBE.out⟩
      case measure => simp [intOf]; omega
    · have hje : j = s.data.toList.length := by rw [← size_list]; omega
      have HJE := Lib.hid hje
      have kc := conv_back (cap := cap) (by rw [← hje]; exact HBY.out)
      clear hje
      have hj2 : ¬ (j : Int) < s.size := by omega
      go_wp2_with fail
      go_ret
      exact ⟨rfl, HBE.out⟩
set_option maxRecDepth 100000 in
set_option maxHeartbeats 4000000 in
theorem iInverseScript_any (s : ByteArray) (w : World) :
    Calls Try.prog 17 #[.string s] w fun e w' => e = .returned (invT s) ∧ Below w.heap.size w w' := by
  cases hs : scriptB s
  · have HT := Lib.hid (inv_no hs)
    go_enter Try.func17, Try.ntmps17
    go_wp2_with fail
    refine (iIsScript_any s _).mono ?_
    rintro e w1 ⟨rfl, h1⟩
    rw [hs]
    go_wp2_with fail
    go_ret2
    exact ⟨by rw [HT.out]; rfl, h1⟩
  obtain ⟨h80, hall⟩ := script_small hs
  have HS := Lib.hid hs
  have hl := words_len h80
  by_cases h0 : s.size = 0
  · have hw0 : wordsB s = [] := by unfold wordsB; rw [if_pos h0]
    have HT := Lib.hid (show invT s = .tuple #[.string ⟨#[]⟩, .bool true] by rw [inv_all hs (by rw [hw0]; rfl)]; unfold invR; rw [hw0]; rfl)
    have he := str_empty h0
    clear h0 hw0 hs
    go_enter Try.func17, Try.ntmps17
    go_wp2_with fail
    refine (iIsScript_any s _).mono ?_
    rintro e w1 ⟨rfl, h1⟩
    rw [HS.out]
    go_wp2_with fail
    go_ret2
    exact ⟨by rw [HT.out]; rfl, h1⟩
  · have HW0 := Lib.hid (show wordsB s = splitB s 32 by unfold wordsB; rw [if_neg h0])
    have he := str_some h0
    have HM := Lib.hid (fun k wd hw hc => inv_miss (s := s) (k := k) (wd := wd) hw hc)
    have HAA := Lib.hid (inv_all hs)
    have HSM := Lib.hid (words_small h80)
    have HR := Lib.hid (show invR s = ((wordsB s).map turnB).reverse from rfl)
    clear h0 hs
    go_enter Try.func17, Try.ntmps17
    go_wp2_with fail
    refine (iIsScript_any s _).mono ?_
    rintro e w0 ⟨rfl, h1⟩
    have HE0 := Lib.hid h1
    clear h1
    rw [HS.out]
    go_wp2_with fail
    refine (split_any s (by omega) _).mono ?_
    rintro e w1 ⟨A, n, c, rfl, ha⟩
    rw [← HW0.out] at ha
    have HA := Lib.hid ha
    have hn : (wordsB s).length = n := ha.reads.strLen
    clear ha HW0
    generalize wordsB s = ws at *
    have HL := Lib.hid hn
    have hn81 : n ≤ 81 := by omega
    have HO := Lib.hid hall
    clear hn hl hall h80
    go_wp2_with fail
    go_loopw [4, 17] (fun p q wr => ∃ (k m cc : Nat) (P : Option Addr), q = .int .i64 k ∧ k ≤ n ∧ p = .slice P m cc ∧ (ws.take k).all (fun w => !hasC w) = true ∧ AccV w1 wr 9 1 P m cc (((ws.take k).map turnB).reverse.map Value.string)) (fun _ q _ => n - (intOf q).toNat)
    case atStart => exact ⟨0, 0, 0, none, rfl, by omega, rfl, rfl, AccV.nil (Below.refl _ _)⟩
    case round =>
      obtain ⟨wo, rfl⟩ : ∃ wo : World, wo = wr := ⟨_, rfl⟩
      obtain ⟨k, m, cc, P, rfl, hk, rfl, hnc, hacc⟩ := hrel
      have hm : m ≤ n := by have := hacc.reads.strLen; simp at this; omega
      have HP := Lib.hid hacc
      have HC := Lib.hid hnc
      clear hacc hnc
      have k0 : (0 : Int) ≤ k := by omega
      by_cases hlt : k < n
      · obtain ⟨b, o, wd, rfl, hw, hcell0⟩ := (HA.out.reads.below HP.out.ext).str hlt
        have HX := Lib.hid hw
        clear hw
        have k1 : (k : Int) < n := by omega
        have hs80 : wd.size ≤ 80 := HSM.out wd (List.mem_of_getElem? HX.out)
        obtain ⟨g, cap, W1, hconv, hb1, he1, hg⟩ := conv_bytes wd wo
        have HB1 := Lib.hid hb1
        have HE1 := Lib.hid he1
        have HG := Lib.hid hg
        have HE2 := Lib.hid (HP.out.ext)
        clear hb1 he1 hg
        go_wp2_with fail
        go_loopw [25] (fun q wr => ∃ j : Nat, q = .int .i64 j ∧ j ≤ wd.size ∧ BytesAt wr g (turnTo wd.data.toList j) ∧ Below wo.heap.size wo wr ∧ noC wd.data.toList j = true) (fun q _ => wd.size - (intOf q).toNat)
        case atStart => exact ⟨0, rfl, by omega, by have := HB1.out; simpa [turnTo] using this, HE1.out, rfl⟩
        case round =>
          obtain ⟨wq, rfl⟩ : ∃ wq : World, wq = wr := ⟨_, rfl⟩
          obtain ⟨j, rfl, hj, hby, hbe, hno⟩ := hrel
          have HBY := Lib.hid hby
          have HBE := Lib.hid hbe
          have HNO := Lib.hid hno
          clear hby hbe hno
          have j0 : (0 : Int) ≤ j := by omega
          by_cases hjt : j < wd.size
          · have j1 : (j : Int) < wd.size := by omega
            have hjl : j < wd.data.toList.length := by rw [← size_list]; exact hjt
            have hbl : byteAt wd j = _ := byte_at_list hjl
            obtain ⟨hcell, hfr⟩ := HBY.out j (by rw [turnTo_len]; exact hjl)
            rw [turnTo_at hjl, ← hbl] at hcell
            have HBL := Lib.hid hbl
            have HJL := Lib.hid hjl
            clear hbl
            by_cases hc43 : byteAt wd j = 43
            · have HS := Lib.hid (turnTo_set HJL.out (c := 45) (by rw [list_byte HJL.out (c := 43) hc43]; rfl))
              rw [hc43] at hcell
              have HNX := Lib.hid (noC_next HJL.out HNO.out (by rw [← HBL.out, hc43]; decide))
              clear hc43
              go_wp2_with fail
              go_roundw
              case rel => exact ⟨j + 1, by go_num, by omega, by rw [← HS.out]; exact HBY.out.set_ (by rw [turnTo_len]; exact HJL.out) 45 _ rfl, Below.setCell HBE.out HG.out _, HNX.out⟩
              case measure => simp [intOf]; omega
            by_cases hc45 : byteAt wd j = 45
            · have HS := Lib.hid (turnTo_set HJL.out (c := 43) (by rw [list_byte HJL.out (c := 45) hc45]; rfl))
              rw [hc45] at hcell
              have HNX := Lib.hid (noC_next HJL.out HNO.out (by rw [← HBL.out, hc45]; decide))
              clear hc45 hc43
              go_wp2_with fail
              go_roundw
              case rel => exact ⟨j + 1, by go_num, by omega, by rw [← HS.out]; exact HBY.out.set_ (by rw [turnTo_len]; exact HJL.out) 43 _ rfl, Below.setCell HBE.out HG.out _, HNX.out⟩
              case measure => simp [intOf]; omega
            by_cases hc60 : byteAt wd j = 60
            · have HS := Lib.hid (turnTo_set HJL.out (c := 62) (by rw [list_byte HJL.out (c := 60) hc60]; rfl))
              rw [hc60] at hcell
              have HNX := Lib.hid (noC_next HJL.out HNO.out (by rw [← HBL.out, hc60]; decide))
              clear hc60 hc43 hc45
              go_wp2_with fail
              go_roundw
              case rel => exact ⟨j + 1, by go_num, by omega, by rw [← HS.out]; exact HBY.out.set_ (by rw [turnTo_len]; exact HJL.out) 62 _ rfl, Below.setCell HBE.out HG.out _, HNX.out⟩
              case measure => simp [intOf]; omega
            by_cases hc62 : byteAt wd j = 62
            · have HS := Lib.hid (turnTo_set HJL.out (c := 60) (by rw [list_byte HJL.out (c := 62) hc62]; rfl))
              rw [hc62] at hcell
              have HNX := Lib.hid (noC_next HJL.out HNO.out (by rw [← HBL.out, hc62]; decide))
              clear hc62 hc43 hc45 hc60
              go_wp2_with fail
              go_roundw
              case rel => exact ⟨j + 1, by go_num, by omega, by rw [← HS.out]; exact HBY.out.set_ (by rw [turnTo_len]; exact HJL.out) 60 _ rfl, Below.setCell HBE.out HG.out _, HNX.out⟩
              case measure => simp [intOf]; omega
            by_cases hc99 : byteAt wd j = 99
            · have HF := Lib.hid (hasC_hit HJL.out hc99)
              rw [hc99] at hcell
              clear hc99 hc43 hc45 hc60 hc62
              go_wp2_with fail
              go_ret2
              exact ⟨by rw [HM.out k wd HX.out HF.out]; rfl, ext_trans HE0.out (ext_trans HA.out.ext (ext_trans HE2.out HBE.out))⟩
            have HS := Lib.hid (turnTo_same HJL.out (turnC_other (by rw [← HBL.out]; exact hc43) (by rw [← HBL.out]; exact hc45) (by rw [← HBL.out]; exact hc60) (by rw [← HBL.out]; exact hc62)))
            have HNX := Lib.hid (noC_next HJL.out HNO.out (by rw [← HBL.out]; exact hc99))
            have m43 : (byteAt wd j == 43) = false := beq_eq_false_iff_ne.2 hc43
            have m45 : (byteAt wd j == 45) = false := beq_eq_false_iff_ne.2 hc45
            have m60 : (byteAt wd j == 60) = false := beq_eq_false_iff_ne.2 hc60
            have m62 : (byteAt wd j == 62) = false := beq_eq_false_iff_ne.2 hc62
            have m99 : (byteAt wd j == 99) = false := beq_eq_false_iff_ne.2 hc99
            clear hc43 hc45 hc60 hc62 hc99
            go_wp2_with fail
            go_roundw
            case rel => exact ⟨j + 1, by go_num, by omega, by rw [HS.out]; exact HBY.out, HBE.out, HNX.out⟩
            case measure => simp [intOf]; omega
          · have hje : j = wd.data.toList.length := by rw [← size_list]; omega
            have HJE := Lib.hid hje
            have kc := conv_back (cap := cap) (by rw [← hje]; exact HBY.out)
            have HNC := Lib.hid (hasC_none (s := wd) (by rw [← hje]; exact HNO.out))
            clear hje
            have hj2 : ¬ (j : Int) < wd.size := by omega
            have HQ := Lib.hid (HP.out.later HBE.out)
            have HZ := Lib.hid (HP.out.ext)
            clear hcell0 hconv
            go_wp2_with (at_builtin; refine appS rfl _ _ rfl rfl (show AccV w1 _ 9 1 _ 1 1 ([turnB wd].map Value.string) from AccV.lit (ext_trans HZ.out HBE.out) #[.string (turnB wd)] 1 (by simp [maxLen]) rfl) rfl (HQ.out.alloc _).reads (by omega) ?_; intro A2 c2 wz A3 _)
            go_roundw
            case rel => exact ⟨k + 1, _, _, _, by go_num, by omega, rfl, noc_next HX.out HC.out HNC.out, by rw [rev_next HX.out]; exact A3⟩
            case measure => simp [intOf]; omega
      · have hk' : ws.take k = ws := List.take_of_length_le (by have := HL.out; omega)
        rw [hk', ← HR.out] at HP
        rw [hk'] at HC
        have HT := Lib.hid (HAA.out HC.out)
        go_wp2_with fail
        refine (join_any _ _ _ _ _ _ _ HP.out.reads (by omega) rfl (fun x hx => by
          rw [HR.out] at hx
          obtain ⟨y, hy, rfl⟩ := List.mem_map.1 (List.mem_reverse.1 hx)
          rw [turn_size]; exact HSM.out y hy)).mono ?_
        rintro e w' ⟨rfl, rfl⟩
        go_wp2_with fail
        go_ret2
        exact ⟨by rw [HT.out]; rfl, ext_trans HE0.out (ext_trans HA.out.ext HP.out.ext)⟩
theorem invTo_size {R : List ByteArray} (h : ∀ r ∈ R, r.size ≤ 80) (hl : R.length ≤ 81) {j : Nat} (hj : j ≤ R.length) : (invTo R j).size ≤ 6562 := by
  have h1 := join_size (sep := spB) rfl h j
  unfold invTo
  split
  · decide
  · split
    · rw [ByteArray.size_append]
      have : spB.size = 1 := rfl
      omega
    · omega
theorem inv_at {ws : List ByteArray} {n j t : Nat} {wd : ByteArray} (hl : ws.length = n) (ht : t + j + 1 = n) (hw : ws[t]? = some wd) : ((ws.map turnB).reverse)[j]? = some (turnB wd) := by
  rw [List.getElem?_reverse (by rw [List.length_map]; omega), List.length_map, List.getElem?_map, show ws.length - 1 - j = t by omega, hw]
  rfl
theorem drop_noc {ws : List ByteArray} {t : Nat} {wd : ByteArray} (hw : ws[t]? = some wd) (h : (ws.drop (t + 1)).all (fun w => !hasC w) = true) (hc : hasC wd = false) : (ws.drop t).all (fun w => !hasC w) = true := by
  obtain ⟨hk, e⟩ := List.getElem?_eq_some_iff.1 hw
  rw [List.drop_eq_getElem_cons hk, e, List.all_cons, h, hc]; rfl
set_option maxRecDepth 100000 in
set_option maxHeartbeats 4000000 in
theorem sInverseScript_any (s : ByteArray) (w : World) :
    Calls Try.prog 16 #[.string s] w fun e w' => e = .returned (invT s) ∧ Below w.heap.size w w' := by
  cases hs : scriptB s
  · have HT := Lib.hid (inv_no hs)
    go_enter Try.func16, Try.ntmps16
    go_wp2_with fail
    refine (l15Good_any s _).mono ?_
    rintro e w1 ⟨rfl, h1⟩
    rw [hs]
    go_wp2_with fail
    go_ret2
    exact ⟨by rw [HT.out]; rfl, h1⟩
  obtain ⟨h80, hall⟩ := script_small hs
  have HS := Lib.hid hs
  have hl := words_len h80
  have HM := Lib.hid (fun k wd hw hc => inv_miss (s := s) (k := k) (wd := wd) hw hc)
  have HAA := Lib.hid (inv_all hs)
  have HSM := Lib.hid (words_small h80)
  have HR := Lib.hid (show invR s = ((wordsB s).map turnB).reverse from rfl)
  clear hs
  go_enter Try.func16, Try.ntmps16
  go_wp2_with fail
  refine (l15Good_any s _).mono ?_
  rintro e w0 ⟨rfl, h1⟩
  have HE0 := Lib.hid h1
  clear h1
  rw [HS.out]
  go_wp2_with fail
  refine (l15Words_any s (by omega) _).mono ?_
  rintro e w1 ⟨A, n, c, rfl, ha⟩
  have HA := Lib.hid ha
  have hn : (wordsB s).length = n := ha.reads.strLen
  clear ha
  generalize wordsB s = ws at *
  have HL := Lib.hid hn
  have hn81 : n ≤ 81 := by omega
  have HO := Lib.hid hall
  have hrl : (invR s).length = n := by rw [HR.out, List.length_reverse, List.length_map]; exact hn
  have HRL := Lib.hid hrl
  have HSZ := Lib.hid (fun j (hj : j ≤ n) => invTo_size (R := invR s) (j := j) (fun r hr => by
    rw [HR.out] at hr
    obtain ⟨y, hy, rfl⟩ := List.mem_map.1 (List.mem_reverse.1 hr)
    rw [turn_size]; exact HSM.out y hy) (by omega) (by omega))
  clear hn hl hall h80 hrl
  go_wp2_with fail
  go_loopw [5, 6] (fun p q wr => ∃ j : Nat, q = .int .i64 ((n : Int) - 1 - j) ∧ j ≤ n ∧ p = .string (invTo (invR s) j) ∧ (ws.drop (n - j)).all (fun w => !hasC w) = true ∧ Below w1.heap.size w1 wr) (fun _ q _ => (intOf q + 1).toNat)
  case atStart => exact ⟨0, by simp, by omega, rfl, by rw [List.drop_of_length_le (by have := HL.out; omega)]; rfl, Below.refl _ _⟩
  case round =>
    obtain ⟨wo, rfl⟩ : ∃ wo : World, wo = wr := ⟨_, rfl⟩
    obtain ⟨j, rfl, hj, rfl, hnc, hb⟩ := hrel
    have HB := Lib.hid hb
    have HC := Lib.hid hnc
    clear hb hnc
    by_cases hlt : j < n
    · obtain ⟨t, ht⟩ : ∃ t, t + j + 1 = n := ⟨n - 1 - j, by omega⟩
      have et : (n : Int) - 1 - j = (t : Int) := by omega
      rw [et]
      have HET := Lib.hid et
      have HTJ := Lib.hid ht
      obtain ⟨b, o, wd, rfl, hw, hcell⟩ := (HA.out.reads.below HB.out).str (show t < n by omega)
      have HX := Lib.hid hw
      have t0 : (0 : Int) ≤ t := by omega
      have t1 : (t : Int) < n := by omega
      have hs80 : wd.size ≤ 80 := HSM.out wd (List.mem_of_getElem? hw)
      have hwk := all_at hw HO.out
      have HK := Lib.hid hwk
      have hq := hasC_ok hwk
      have hT := HSZ.out j hj
      have HRJ := Lib.hid (show (invR s)[j]? = some (turnB wd) by rw [HR.out]; exact inv_at HL.out ht hw)
      have htz := turn_size wd
      clear hw hwk et
      cases hcc : hasC wd
      · have q1 : ((wordP wd).toList == [99]) = false := by rw [ByteArray.toList_eq, ← hq]; exact hcc
        have q2 : ¬ (wordP wd).toList = [99] := beq_eq_false_iff_ne.1 q1
        have HCC := Lib.hid (drop_noc HX.out (by have := HC.out; rwa [show n - j = t + 1 by omega] at this) hcc)
        clear hcc hq
        have htz2 : (turnB wd).size ≤ 80 := by omega
        clear htz
        by_cases hlast : t = 0
        · have HN := Lib.hid (invTo_last HRJ.out (by rw [HRL.out]; omega))
          have t2 : ¬ (0 : Int) < t := by omega
          generalize invTo (invR s) j = T at *
          clear ht hlast
          go_wp2_with fail
          refine (l15Times_any wd HK.out _).mono ?_
          rintro e w3 ⟨rfl, h3⟩
          have hcell2 := below_cell (ext_trans (Below.refl _ _) h3) hcell
          go_wp2_with fail
          refine (l15Turned_any wd hs80 _).mono ?_
          rintro e w4 ⟨rfl, h4⟩
          generalize turnB wd = tb at *
          go_wp2_with fail
          go_roundw
          case rel => exact ⟨j + 1, by have := HTJ.out; go_num, by omega, by rw [HN.out], by rw [show n - (j + 1) = t by have := HTJ.out; omega]; exact HCC.out, ext_trans HB.out (ext_trans h3 h4)⟩
          case measure => simp [intOf]
        · have HN := Lib.hid (invTo_next HRJ.out (by rw [HRL.out]; omega))
          have t2 : (0 : Int) < t := by omega
          generalize invTo (invR s) j = T at *
          clear ht hlast
          go_wp2_with fail
          refine (l15Times_any wd HK.out _).mono ?_
          rintro e w3 ⟨rfl, h3⟩
          have hcell2 := below_cell (ext_trans (Below.refl _ _) h3) hcell
          go_wp2_with fail
          refine (l15Turned_any wd hs80 _).mono ?_
          rintro e w4 ⟨rfl, h4⟩
          generalize turnB wd = tb at *
          go_wp2_with fail
          go_roundw
          case rel => exact ⟨j + 1, by have := HTJ.out; go_num, by omega, by rw [HN.out]; rfl, by rw [show n - (j + 1) = t by have := HTJ.out; omega]; exact HCC.out, ext_trans HB.out (ext_trans h3 h4)⟩
          case measure => simp [intOf]
      · have q1 : ((wordP wd).toList == [99]) = true := by rw [ByteArray.toList_eq, ← hq]; exact hcc
        have q2 : (wordP wd).toList = [99] := beq_iff_eq.1 q1
        have HF := Lib.hid (HM.out t wd HX.out hcc)
        clear hcc hq ht htz
        go_wp2_with fail
        refine (l15Times_any wd HK.out _).mono ?_
        rintro e w3 ⟨rfl, h3⟩
        go_wp2_with fail
        go_ret2
        exact ⟨by rw [HF.out]; rfl, ext_trans HE0.out (ext_trans HA.out.ext (ext_trans HB.out h3))⟩
    · obtain rfl : j = n := by omega
      have hc := HC.out
      rw [Nat.sub_self, List.drop_zero] at hc
      have HT := Lib.hid (HAA.out hc)
      have HI := Lib.hid (show invTo (invR s) j = joinB spB (invR s) by have := invTo_end (invR s); rwa [HRL.out] at this)
      clear hc
      rw [HI.out]
      have e0 : ¬ 0 ≤ (j : Int) - 1 - j := by omega
      go_wp2_with fail
      go_ret2
      exact ⟨by rw [HT.out]; rfl, ext_trans HE0.out (ext_trans HA.out.ext HB.out)⟩
set_option maxHeartbeats 1000000 in
theorem FnExactInverseScript_any (s : ByteArray) (_ : s.size ≤ maxLen) (w : World) :
    Calls Try.prog 7 #[.string s] w fun e w' => e = .returned (.bool true) ∧ Below w.heap.size w w' := by
  by_cases hs : s.size ≤ 1048576
  · have h1 : ¬ (1048576 : Int) < s.size := by omega
    obtain ⟨r, ok, ht⟩ := invT_form s
    have HV := Lib.hid ht
    have he : (ok != ok) = false := by simp
    clear hs ht
    go_enter Try.func7, Try.ntmps7
    go_wp2_with fail
    refine (sInverseScript_any s _).mono ?_
    rintro e w1 ⟨rfl, h1⟩
    rw [HV.out]
    go_wp2_with fail
    refine (iInverseScript_any s _).mono ?_
    rintro e w2 ⟨rfl, h2⟩
    rw [HV.out]
    go_wp2_with fail
    go_ret
    exact ⟨rfl, ext_trans h1 h2⟩
  · have h1 : (1048576 : Int) < s.size := by omega
    clear hs
    go_enter Try.func7, Try.ntmps7
    go_wp2_with fail
    go_ret
    exact ⟨rfl, Below.refl _ _⟩
end Go.Proofs.Ytianniocjhgllaa
