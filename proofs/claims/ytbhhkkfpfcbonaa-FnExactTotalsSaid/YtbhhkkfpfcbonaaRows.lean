/-
  No cell of these rows narrows 'for every input' (looked for: loops, veiled, ifaces, maps, wideKeys, modest, calm, conditions, laid).
  DERIVED. THE GIVEN ROWS OF THIS SEAT. 7 by the template 'for every input the law returns true; each argument reads behind the call as it read before'; 0 by the template 'total and deterministic' (their statements: YtbhhkkfpfcbonaaTotals.lean).
  GIVEN WITH THE SEED: the statements are not yours to turn. If you find one false, say at which input.
  Laid BY PROGRAM, IN A SANDBOX (cutbox-rows.mjs): the forced cells as the released guide's own fill.sh prints them over the translation 607142a5a53403b4… (all of the seat's roots in one cut). By AI agents, Wed Nov 11 2026. No macro, syntax, notation, axiom, sorry.
-/
import Derived.Test.YtbhhkkfpfcbonaaChecked
import GoSem.Claim
import GoSem.ClaimJoined
import GoSem.ClaimMapViews
import Derived.JoinedTies
import Derived.KernelRfl
namespace Go.Proofs.Ytbhhkkfpfcbonaa
/- THE CELL 'sum', in the pinned program and in every row, IS THE sha256 OF THE DUMP (.gsa) THAT YtbhhkkfpfcbonaaProg.lean LOADS. Nothing in Lean hashes anything: it is a label: what it is worth is what the hold of that sum in a sandbox is worth. -/
noncomputable def Try.pinned : Pinned := { name := "ytbhhkkfpfcbonaa", sum := "607142a5a53403b45cc0562a93086b95ec8a36c714694f769e6aee739cf5d0af", checked := Try.checked }
namespace Rows
def none {H : Type} : Left H := { results := [], args := [] }

/-- 'laws.FnExactCastingOut': WHATEVER THE INPUT: true; the input reads as it did. -/
def fnExactCastingOutSpec : ChangeSpec := { name := "fnExactCastingOut", fn := fun _ => fun
  | [d1, d2, d3] => { results := [.lit (.bool true)], args := [d1, d2, d3] }
  | _ => none }
def fnExactCastingOutRow : OpenClaim := { program := "ytbhhkkfpfcbonaa", sum := "607142a5a53403b45cc0562a93086b95ec8a36c714694f769e6aee739cf5d0af", func := "loop.example/g01006/laws.FnExactCastingOut", spec := "fnExactCastingOut", apart := false }
def FnExactCastingOutSaid : Prop := fnExactCastingOutRow.holds Try.pinned (OpenSpec.ofChange fnExactCastingOutSpec)

/-- ITS FALSE NEIGHBOUR: 'it returns false'. Refute it at one input. -/
def fnExactCastingOutWrong : ChangeSpec := { name := "fnExactCastingOut", fn := fun _ => fun
  | [d1, d2, d3] => { results := [.lit (.bool false)], args := [d1, d2, d3] }
  | _ => none }
def FnExactCastingOutWrongFalsely : Prop := fnExactCastingOutRow.holds Try.pinned (OpenSpec.ofChange fnExactCastingOutWrong)

/-- 'laws.FnExactDigitProducts': WHATEVER THE INPUT: true; the input reads as it did. -/
def fnExactDigitProductsSpec : ChangeSpec := { name := "fnExactDigitProducts", fn := fun _ => fun
  | [d1, d2] => { results := [.lit (.bool true)], args := [d1, d2] }
  | _ => none }
def fnExactDigitProductsRow : OpenClaim := { program := "ytbhhkkfpfcbonaa", sum := "607142a5a53403b45cc0562a93086b95ec8a36c714694f769e6aee739cf5d0af", func := "loop.example/g01006/laws.FnExactDigitProducts", spec := "fnExactDigitProducts", apart := false }
def FnExactDigitProductsSaid : Prop := fnExactDigitProductsRow.holds Try.pinned (OpenSpec.ofChange fnExactDigitProductsSpec)

/-- ITS FALSE NEIGHBOUR: 'it returns false'. Refute it at one input. -/
def fnExactDigitProductsWrong : ChangeSpec := { name := "fnExactDigitProducts", fn := fun _ => fun
  | [d1, d2] => { results := [.lit (.bool false)], args := [d1, d2] }
  | _ => none }
def FnExactDigitProductsWrongFalsely : Prop := fnExactDigitProductsRow.holds Try.pinned (OpenSpec.ofChange fnExactDigitProductsWrong)

/-- 'laws.FnExactWrongDigits': WHATEVER THE INPUT: true; the input reads as it did. -/
def fnExactWrongDigitsSpec : ChangeSpec := { name := "fnExactWrongDigits", fn := fun _ => fun
  | [d1, d2, d3] => { results := [.lit (.bool true)], args := [d1, d2, d3] }
  | _ => none }
def fnExactWrongDigitsRow : OpenClaim := { program := "ytbhhkkfpfcbonaa", sum := "607142a5a53403b45cc0562a93086b95ec8a36c714694f769e6aee739cf5d0af", func := "loop.example/g01006/laws.FnExactWrongDigits", spec := "fnExactWrongDigits", apart := false }
def FnExactWrongDigitsSaid : Prop := fnExactWrongDigitsRow.holds Try.pinned (OpenSpec.ofChange fnExactWrongDigitsSpec)

/-- ITS FALSE NEIGHBOUR: 'it returns false'. Refute it at one input. -/
def fnExactWrongDigitsWrong : ChangeSpec := { name := "fnExactWrongDigits", fn := fun _ => fun
  | [d1, d2, d3] => { results := [.lit (.bool false)], args := [d1, d2, d3] }
  | _ => none }
def FnExactWrongDigitsWrongFalsely : Prop := fnExactWrongDigitsRow.holds Try.pinned (OpenSpec.ofChange fnExactWrongDigitsWrong)

/-- 'laws.FnExactByDoubling': WHATEVER THE INPUT: true; the input reads as it did. -/
def fnExactByDoublingSpec : ChangeSpec := { name := "fnExactByDoubling", fn := fun _ => fun
  | [d1, d2] => { results := [.lit (.bool true)], args := [d1, d2] }
  | _ => none }
def fnExactByDoublingRow : OpenClaim := { program := "ytbhhkkfpfcbonaa", sum := "607142a5a53403b45cc0562a93086b95ec8a36c714694f769e6aee739cf5d0af", func := "loop.example/g01006/laws.FnExactByDoubling", spec := "fnExactByDoubling", apart := false }
def FnExactByDoublingSaid : Prop := fnExactByDoublingRow.holds Try.pinned (OpenSpec.ofChange fnExactByDoublingSpec)

/-- ITS FALSE NEIGHBOUR: 'it returns false'. Refute it at one input. -/
def fnExactByDoublingWrong : ChangeSpec := { name := "fnExactByDoubling", fn := fun _ => fun
  | [d1, d2] => { results := [.lit (.bool false)], args := [d1, d2] }
  | _ => none }
def FnExactByDoublingWrongFalsely : Prop := fnExactByDoublingRow.holds Try.pinned (OpenSpec.ofChange fnExactByDoublingWrong)

/-- 'laws.FnExactOddRows': WHATEVER THE INPUT: true; the input reads as it did. -/
def fnExactOddRowsSpec : ChangeSpec := { name := "fnExactOddRows", fn := fun _ => fun
  | [d1, d2] => { results := [.lit (.bool true)], args := [d1, d2] }
  | _ => none }
def fnExactOddRowsRow : OpenClaim := { program := "ytbhhkkfpfcbonaa", sum := "607142a5a53403b45cc0562a93086b95ec8a36c714694f769e6aee739cf5d0af", func := "loop.example/g01006/laws.FnExactOddRows", spec := "fnExactOddRows", apart := false }
def FnExactOddRowsSaid : Prop := fnExactOddRowsRow.holds Try.pinned (OpenSpec.ofChange fnExactOddRowsSpec)

/-- ITS FALSE NEIGHBOUR: 'it returns false'. Refute it at one input. -/
def fnExactOddRowsWrong : ChangeSpec := { name := "fnExactOddRows", fn := fun _ => fun
  | [d1, d2] => { results := [.lit (.bool false)], args := [d1, d2] }
  | _ => none }
def FnExactOddRowsWrongFalsely : Prop := fnExactOddRowsRow.holds Try.pinned (OpenSpec.ofChange fnExactOddRowsWrong)

/-- 'laws.FnExactPartsOf': WHATEVER THE INPUT: true; the input reads as it did. -/
def fnExactPartsOfSpec : ChangeSpec := { name := "fnExactPartsOf", fn := fun _ => fun
  | [d1, d2] => { results := [.lit (.bool true)], args := [d1, d2] }
  | _ => none }
def fnExactPartsOfRow : OpenClaim := { program := "ytbhhkkfpfcbonaa", sum := "607142a5a53403b45cc0562a93086b95ec8a36c714694f769e6aee739cf5d0af", func := "loop.example/g01006/laws.FnExactPartsOf", spec := "fnExactPartsOf", apart := false }
def FnExactPartsOfSaid : Prop := fnExactPartsOfRow.holds Try.pinned (OpenSpec.ofChange fnExactPartsOfSpec)

/-- ITS FALSE NEIGHBOUR: 'it returns false'. Refute it at one input. -/
def fnExactPartsOfWrong : ChangeSpec := { name := "fnExactPartsOf", fn := fun _ => fun
  | [d1, d2] => { results := [.lit (.bool false)], args := [d1, d2] }
  | _ => none }
def FnExactPartsOfWrongFalsely : Prop := fnExactPartsOfRow.holds Try.pinned (OpenSpec.ofChange fnExactPartsOfWrong)

/-- 'laws.FnExactTotals': WHATEVER THE INPUT: true; the input reads as it did. -/
def fnExactTotalsSpec : ChangeSpec := { name := "fnExactTotals", fn := fun _ => fun
  | [d1, d2] => { results := [.lit (.bool true)], args := [d1, d2] }
  | _ => none }
def fnExactTotalsRow : OpenClaim := { program := "ytbhhkkfpfcbonaa", sum := "607142a5a53403b45cc0562a93086b95ec8a36c714694f769e6aee739cf5d0af", func := "loop.example/g01006/laws.FnExactTotals", spec := "fnExactTotals", apart := false }
def FnExactTotalsSaid : Prop := fnExactTotalsRow.holds Try.pinned (OpenSpec.ofChange fnExactTotalsSpec)

/-- ITS FALSE NEIGHBOUR: 'it returns false'. Refute it at one input. -/
def fnExactTotalsWrong : ChangeSpec := { name := "fnExactTotals", fn := fun _ => fun
  | [d1, d2] => { results := [.lit (.bool false)], args := [d1, d2] }
  | _ => none }
def FnExactTotalsWrongFalsely : Prop := fnExactTotalsRow.holds Try.pinned (OpenSpec.ofChange fnExactTotalsWrong)

/- THE SECOND FORM. 'bulk': how many values and letters a reading holds, each counted each time it is reached (what is shared counts as often as it is met; a slice's spare places count too). A statement '..UptoSaid' is the law's where the arguments, and the package variables that the reading takes, are together of bulk at most 1048576: NARROWER than '..Said'. Prove '..Said' where nothing that the law and all that it calls make is longer than what came in: it says more and counts as full. Else prove '..UptoSaid'. A law counts once. -/
mutual
def uptoBulk {H : Type} : DataW H → Nat
  | .lit (.string bytes) => bytes.length + 1
  | .lit _ => 1
  | .nil => 1
  | .ptr d => uptoBulk d + 1
  | .slice elems spare => uptoBulkAll elems + uptoBulkAll spare + 1
  | .agg parts => uptoBulkAll parts + 1
  | .iface _ d => uptoBulk d + 1
  | .map entries => uptoBulkEntries entries + 1
  | .held _ => 1
def uptoBulkAll {H : Type} : List (DataW H) → Nat
  | [] => 0
  | d :: r => uptoBulk d + uptoBulkAll r
def uptoBulkEntries {H : Type} : List (Lit × DataW H) → Nat
  | [] => 0
  | x :: r => uptoBulkEntry x + uptoBulkEntries r
def uptoBulkEntry {H : Type} : Lit × DataW H → Nat
  | (.string bytes, d) => bytes.length + uptoBulk d + 1
  | (_, d) => uptoBulk d + 1
 end
def uptoSmall : (H : Type) → List (DataW H) → Bool := fun _ ds => decide (uptoBulkAll ds ≤ 1048576)
def OpenSpec.upto (s : _root_.Go.ChangeSpec) : _root_.Go.OpenSpec := { _root_.Go.OpenSpec.ofChange s with cond := some uptoSmall }

/-- 'laws.FnExactCastingOut', WHERE WHAT IT READS IS OF BULK AT MOST 1048576: true; the input reads as it did. -/
def fnExactCastingOutUptoRow : OpenClaim := { program := "ytbhhkkfpfcbonaa", sum := "607142a5a53403b45cc0562a93086b95ec8a36c714694f769e6aee739cf5d0af", func := "loop.example/g01006/laws.FnExactCastingOut", spec := "fnExactCastingOut", apart := false, narrowed := true }
def FnExactCastingOutUptoSaid : Prop := fnExactCastingOutUptoRow.holds Try.pinned (OpenSpec.upto fnExactCastingOutSpec)

/-- 'laws.FnExactDigitProducts', WHERE WHAT IT READS IS OF BULK AT MOST 1048576: true; the input reads as it did. -/
def fnExactDigitProductsUptoRow : OpenClaim := { program := "ytbhhkkfpfcbonaa", sum := "607142a5a53403b45cc0562a93086b95ec8a36c714694f769e6aee739cf5d0af", func := "loop.example/g01006/laws.FnExactDigitProducts", spec := "fnExactDigitProducts", apart := false, narrowed := true }
def FnExactDigitProductsUptoSaid : Prop := fnExactDigitProductsUptoRow.holds Try.pinned (OpenSpec.upto fnExactDigitProductsSpec)

/-- 'laws.FnExactWrongDigits', WHERE WHAT IT READS IS OF BULK AT MOST 1048576: true; the input reads as it did. -/
def fnExactWrongDigitsUptoRow : OpenClaim := { program := "ytbhhkkfpfcbonaa", sum := "607142a5a53403b45cc0562a93086b95ec8a36c714694f769e6aee739cf5d0af", func := "loop.example/g01006/laws.FnExactWrongDigits", spec := "fnExactWrongDigits", apart := false, narrowed := true }
def FnExactWrongDigitsUptoSaid : Prop := fnExactWrongDigitsUptoRow.holds Try.pinned (OpenSpec.upto fnExactWrongDigitsSpec)

/-- 'laws.FnExactByDoubling', WHERE WHAT IT READS IS OF BULK AT MOST 1048576: true; the input reads as it did. -/
def fnExactByDoublingUptoRow : OpenClaim := { program := "ytbhhkkfpfcbonaa", sum := "607142a5a53403b45cc0562a93086b95ec8a36c714694f769e6aee739cf5d0af", func := "loop.example/g01006/laws.FnExactByDoubling", spec := "fnExactByDoubling", apart := false, narrowed := true }
def FnExactByDoublingUptoSaid : Prop := fnExactByDoublingUptoRow.holds Try.pinned (OpenSpec.upto fnExactByDoublingSpec)

/-- 'laws.FnExactOddRows', WHERE WHAT IT READS IS OF BULK AT MOST 1048576: true; the input reads as it did. -/
def fnExactOddRowsUptoRow : OpenClaim := { program := "ytbhhkkfpfcbonaa", sum := "607142a5a53403b45cc0562a93086b95ec8a36c714694f769e6aee739cf5d0af", func := "loop.example/g01006/laws.FnExactOddRows", spec := "fnExactOddRows", apart := false, narrowed := true }
def FnExactOddRowsUptoSaid : Prop := fnExactOddRowsUptoRow.holds Try.pinned (OpenSpec.upto fnExactOddRowsSpec)

/-- 'laws.FnExactPartsOf', WHERE WHAT IT READS IS OF BULK AT MOST 1048576: true; the input reads as it did. -/
def fnExactPartsOfUptoRow : OpenClaim := { program := "ytbhhkkfpfcbonaa", sum := "607142a5a53403b45cc0562a93086b95ec8a36c714694f769e6aee739cf5d0af", func := "loop.example/g01006/laws.FnExactPartsOf", spec := "fnExactPartsOf", apart := false, narrowed := true }
def FnExactPartsOfUptoSaid : Prop := fnExactPartsOfUptoRow.holds Try.pinned (OpenSpec.upto fnExactPartsOfSpec)

/-- 'laws.FnExactTotals', WHERE WHAT IT READS IS OF BULK AT MOST 1048576: true; the input reads as it did. -/
def fnExactTotalsUptoRow : OpenClaim := { program := "ytbhhkkfpfcbonaa", sum := "607142a5a53403b45cc0562a93086b95ec8a36c714694f769e6aee739cf5d0af", func := "loop.example/g01006/laws.FnExactTotals", spec := "fnExactTotals", apart := false, narrowed := true }
def FnExactTotalsUptoSaid : Prop := fnExactTotalsUptoRow.holds Try.pinned (OpenSpec.upto fnExactTotalsSpec)

end Rows
end Go.Proofs.Ytbhhkkfpfcbonaa
