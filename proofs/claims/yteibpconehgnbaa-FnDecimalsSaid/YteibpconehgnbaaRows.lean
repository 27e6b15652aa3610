/-
  No cell of these rows narrows 'for every input' (looked for: loops, veiled, ifaces, maps, wideKeys, modest, calm, conditions, laid).
  DERIVED. THE GIVEN ROWS OF THIS SEAT. 9 by the template 'for every input the law returns true; each argument reads behind the call as it read before'; 0 by the template 'total and deterministic' (their statements: YteibpconehgnbaaTotals.lean).
  GIVEN WITH THE SEED: the statements are not yours to turn. If you find one false, say at which input.
  Laid BY PROGRAM, IN A SANDBOX (cutbox-rows.mjs): the forced cells as the released guide's own fill.sh prints them over the translation b9ba1ee6a69ac63b… (all of the seat's roots in one cut). By AI agents, Wed Nov 11 2026. No macro, syntax, notation, axiom, sorry.
-/
import Derived.Test.YteibpconehgnbaaChecked
import GoSem.Claim
import GoSem.ClaimJoined
import GoSem.ClaimMapViews
import Derived.JoinedTies
import Derived.KernelRfl
namespace Go.Proofs.Yteibpconehgnbaa
/- THE CELL 'sum', in the pinned program and in every row, IS THE sha256 OF THE DUMP (.gsa) THAT YteibpconehgnbaaProg.lean LOADS. Nothing in Lean hashes anything: it is a label: what it is worth is what the hold of that sum in a sandbox is worth. -/
noncomputable def Try.pinned : Pinned := { name := "yteibpconehgnbaa", sum := "b9ba1ee6a69ac63bd767b678fb237301ae790e42b95ebb84f2e331588ea8d46e", checked := Try.checked }
namespace Rows
def none {H : Type} : Left H := { results := [], args := [] }

/-- 'laws.FnExactCheckDivision': WHATEVER THE INPUT: true; the input reads as it did. -/
def fnExactCheckDivisionSpec : ChangeSpec := { name := "fnExactCheckDivision", fn := fun _ => fun
  | [d1, d2, d3, d4] => { results := [.lit (.bool true)], args := [d1, d2, d3, d4] }
  | _ => none }
def fnExactCheckDivisionRow : OpenClaim := { program := "yteibpconehgnbaa", sum := "b9ba1ee6a69ac63bd767b678fb237301ae790e42b95ebb84f2e331588ea8d46e", func := "loop.example/g01006/laws.FnExactCheckDivision", spec := "fnExactCheckDivision", apart := false }
def FnExactCheckDivisionSaid : Prop := fnExactCheckDivisionRow.holds Try.pinned (OpenSpec.ofChange fnExactCheckDivisionSpec)

/-- ITS FALSE NEIGHBOUR: 'it returns false'. Refute it at one input. -/
def fnExactCheckDivisionWrong : ChangeSpec := { name := "fnExactCheckDivision", fn := fun _ => fun
  | [d1, d2, d3, d4] => { results := [.lit (.bool false)], args := [d1, d2, d3, d4] }
  | _ => none }
def FnExactCheckDivisionWrongFalsely : Prop := fnExactCheckDivisionRow.holds Try.pinned (OpenSpec.ofChange fnExactCheckDivisionWrong)

/-- 'laws.FnExactQuotientOf': WHATEVER THE INPUT: true; the input reads as it did. -/
def fnExactQuotientOfSpec : ChangeSpec := { name := "fnExactQuotientOf", fn := fun _ => fun
  | [d1, d2] => { results := [.lit (.bool true)], args := [d1, d2] }
  | _ => none }
def fnExactQuotientOfRow : OpenClaim := { program := "yteibpconehgnbaa", sum := "b9ba1ee6a69ac63bd767b678fb237301ae790e42b95ebb84f2e331588ea8d46e", func := "loop.example/g01006/laws.FnExactQuotientOf", spec := "fnExactQuotientOf", apart := false }
def FnExactQuotientOfSaid : Prop := fnExactQuotientOfRow.holds Try.pinned (OpenSpec.ofChange fnExactQuotientOfSpec)

/-- ITS FALSE NEIGHBOUR: 'it returns false'. Refute it at one input. -/
def fnExactQuotientOfWrong : ChangeSpec := { name := "fnExactQuotientOf", fn := fun _ => fun
  | [d1, d2] => { results := [.lit (.bool false)], args := [d1, d2] }
  | _ => none }
def FnExactQuotientOfWrongFalsely : Prop := fnExactQuotientOfRow.holds Try.pinned (OpenSpec.ofChange fnExactQuotientOfWrong)

/-- 'laws.FnExactPeriodOf': WHATEVER THE INPUT: true; the input reads as it did. -/
def fnExactPeriodOfSpec : ChangeSpec := { name := "fnExactPeriodOf", fn := fun _ => fun
  | [d1, d2] => { results := [.lit (.bool true)], args := [d1, d2] }
  | _ => none }
def fnExactPeriodOfRow : OpenClaim := { program := "yteibpconehgnbaa", sum := "b9ba1ee6a69ac63bd767b678fb237301ae790e42b95ebb84f2e331588ea8d46e", func := "loop.example/g01006/laws.FnExactPeriodOf", spec := "fnExactPeriodOf", apart := false }
def FnExactPeriodOfSaid : Prop := fnExactPeriodOfRow.holds Try.pinned (OpenSpec.ofChange fnExactPeriodOfSpec)

/-- ITS FALSE NEIGHBOUR: 'it returns false'. Refute it at one input. -/
def fnExactPeriodOfWrong : ChangeSpec := { name := "fnExactPeriodOf", fn := fun _ => fun
  | [d1, d2] => { results := [.lit (.bool false)], args := [d1, d2] }
  | _ => none }
def FnExactPeriodOfWrongFalsely : Prop := fnExactPeriodOfRow.holds Try.pinned (OpenSpec.ofChange fnExactPeriodOfWrong)

/-- 'laws.FnExactDivisorsOf': WHATEVER THE INPUT: true; the input reads as it did. -/
def fnExactDivisorsOfSpec : ChangeSpec := { name := "fnExactDivisorsOf", fn := fun _ => fun
  | [d] => { results := [.lit (.bool true)], args := [d] }
  | _ => none }
def fnExactDivisorsOfRow : OpenClaim := { program := "yteibpconehgnbaa", sum := "b9ba1ee6a69ac63bd767b678fb237301ae790e42b95ebb84f2e331588ea8d46e", func := "loop.example/g01006/laws.FnExactDivisorsOf", spec := "fnExactDivisorsOf", apart := false }
def FnExactDivisorsOfSaid : Prop := fnExactDivisorsOfRow.holds Try.pinned (OpenSpec.ofChange fnExactDivisorsOfSpec)

/-- ITS FALSE NEIGHBOUR: 'it returns false'. Refute it at one input. -/
def fnExactDivisorsOfWrong : ChangeSpec := { name := "fnExactDivisorsOf", fn := fun _ => fun
  | [d] => { results := [.lit (.bool false)], args := [d] }
  | _ => none }
def FnExactDivisorsOfWrongFalsely : Prop := fnExactDivisorsOfRow.holds Try.pinned (OpenSpec.ofChange fnExactDivisorsOfWrong)

/-- 'laws.FnExactDecimalsOf': WHATEVER THE INPUT: true; the input reads as it did. -/
def fnExactDecimalsOfSpec : ChangeSpec := { name := "fnExactDecimalsOf", fn := fun _ => fun
  | [d1, d2, d3] => { results := [.lit (.bool true)], args := [d1, d2, d3] }
  | _ => none }
def fnExactDecimalsOfRow : OpenClaim := { program := "yteibpconehgnbaa", sum := "b9ba1ee6a69ac63bd767b678fb237301ae790e42b95ebb84f2e331588ea8d46e", func := "loop.example/g01006/laws.FnExactDecimalsOf", spec := "fnExactDecimalsOf", apart := false }
def FnExactDecimalsOfSaid : Prop := fnExactDecimalsOfRow.holds Try.pinned (OpenSpec.ofChange fnExactDecimalsOfSpec)

/-- ITS FALSE NEIGHBOUR: 'it returns false'. Refute it at one input. -/
def fnExactDecimalsOfWrong : ChangeSpec := { name := "fnExactDecimalsOf", fn := fun _ => fun
  | [d1, d2, d3] => { results := [.lit (.bool false)], args := [d1, d2, d3] }
  | _ => none }
def FnExactDecimalsOfWrongFalsely : Prop := fnExactDecimalsOfRow.holds Try.pinned (OpenSpec.ofChange fnExactDecimalsOfWrong)

/-- 'laws.FnExactDivisionSteps': WHATEVER THE INPUT: true; the input reads as it did. -/
def fnExactDivisionStepsSpec : ChangeSpec := { name := "fnExactDivisionSteps", fn := fun _ => fun
  | [d1, d2] => { results := [.lit (.bool true)], args := [d1, d2] }
  | _ => none }
def fnExactDivisionStepsRow : OpenClaim := { program := "yteibpconehgnbaa", sum := "b9ba1ee6a69ac63bd767b678fb237301ae790e42b95ebb84f2e331588ea8d46e", func := "loop.example/g01006/laws.FnExactDivisionSteps", spec := "fnExactDivisionSteps", apart := false }
def FnExactDivisionStepsSaid : Prop := fnExactDivisionStepsRow.holds Try.pinned (OpenSpec.ofChange fnExactDivisionStepsSpec)

/-- ITS FALSE NEIGHBOUR: 'it returns false'. Refute it at one input. -/
def fnExactDivisionStepsWrong : ChangeSpec := { name := "fnExactDivisionSteps", fn := fun _ => fun
  | [d1, d2] => { results := [.lit (.bool false)], args := [d1, d2] }
  | _ => none }
def FnExactDivisionStepsWrongFalsely : Prop := fnExactDivisionStepsRow.holds Try.pinned (OpenSpec.ofChange fnExactDivisionStepsWrong)

/-- 'laws.FnExactCorrections': WHATEVER THE INPUT: true; the input reads as it did. -/
def fnExactCorrectionsSpec : ChangeSpec := { name := "fnExactCorrections", fn := fun _ => fun
  | [d1, d2] => { results := [.lit (.bool true)], args := [d1, d2] }
  | _ => none }
def fnExactCorrectionsRow : OpenClaim := { program := "yteibpconehgnbaa", sum := "b9ba1ee6a69ac63bd767b678fb237301ae790e42b95ebb84f2e331588ea8d46e", func := "loop.example/g01006/laws.FnExactCorrections", spec := "fnExactCorrections", apart := false }
def FnExactCorrectionsSaid : Prop := fnExactCorrectionsRow.holds Try.pinned (OpenSpec.ofChange fnExactCorrectionsSpec)

/-- ITS FALSE NEIGHBOUR: 'it returns false'. Refute it at one input. -/
def fnExactCorrectionsWrong : ChangeSpec := { name := "fnExactCorrections", fn := fun _ => fun
  | [d1, d2] => { results := [.lit (.bool false)], args := [d1, d2] }
  | _ => none }
def FnExactCorrectionsWrongFalsely : Prop := fnExactCorrectionsRow.holds Try.pinned (OpenSpec.ofChange fnExactCorrectionsWrong)

/-- 'laws.FnExactTrialDigits': WHATEVER THE INPUT: true; the input reads as it did. -/
def fnExactTrialDigitsSpec : ChangeSpec := { name := "fnExactTrialDigits", fn := fun _ => fun
  | [d1, d2] => { results := [.lit (.bool true)], args := [d1, d2] }
  | _ => none }
def fnExactTrialDigitsRow : OpenClaim := { program := "yteibpconehgnbaa", sum := "b9ba1ee6a69ac63bd767b678fb237301ae790e42b95ebb84f2e331588ea8d46e", func := "loop.example/g01006/laws.FnExactTrialDigits", spec := "fnExactTrialDigits", apart := false }
def FnExactTrialDigitsSaid : Prop := fnExactTrialDigitsRow.holds Try.pinned (OpenSpec.ofChange fnExactTrialDigitsSpec)

/-- ITS FALSE NEIGHBOUR: 'it returns false'. Refute it at one input. -/
def fnExactTrialDigitsWrong : ChangeSpec := { name := "fnExactTrialDigits", fn := fun _ => fun
  | [d1, d2] => { results := [.lit (.bool false)], args := [d1, d2] }
  | _ => none }
def FnExactTrialDigitsWrongFalsely : Prop := fnExactTrialDigitsRow.holds Try.pinned (OpenSpec.ofChange fnExactTrialDigitsWrong)

/-- 'laws.FnDecimals': WHATEVER THE INPUT: true; the input reads as it did. -/
def fnDecimalsSpec : ChangeSpec := { name := "fnDecimals", fn := fun _ => fun
  | [d] => { results := [.lit (.bool true)], args := [d] }
  | _ => none }
def fnDecimalsRow : OpenClaim := { program := "yteibpconehgnbaa", sum := "b9ba1ee6a69ac63bd767b678fb237301ae790e42b95ebb84f2e331588ea8d46e", func := "loop.example/g01006/laws.FnDecimals", spec := "fnDecimals", apart := false }
def FnDecimalsSaid : Prop := fnDecimalsRow.holds Try.pinned (OpenSpec.ofChange fnDecimalsSpec)

/-- ITS FALSE NEIGHBOUR: 'it returns false'. Refute it at one input. -/
def fnDecimalsWrong : ChangeSpec := { name := "fnDecimals", fn := fun _ => fun
  | [d] => { results := [.lit (.bool false)], args := [d] }
  | _ => none }
def FnDecimalsWrongFalsely : Prop := fnDecimalsRow.holds Try.pinned (OpenSpec.ofChange fnDecimalsWrong)

/- THE SECOND FORM. 'bulk': how many values and letters a reading holds, each counted each time it is reached (what is shared counts as often as it is met; a slice's spare places count too). A statement '..UptoSaid' is the law's where the arguments, and the package variables that the reading takes, are together of bulk at most 1048576: NARROWER than '..Said'. Prove '..Said' where nothing that the law and all that it calls make is longer than what came in: it says more and counts as full. Else prove '..UptoSaid'. A law counts once. -/
mutual
def uptoBulk {H : Type} : DataW H → Nat
  | .lit (.string bytes) => bytes.length + 1
  | .lit _ => 1
  | .nil => 1
  | .ptr d => uptoBulk d + 1
  | .slice elems spare => uptoBulkAll elems + uptoBulkAll spare + 1
  | .agg parts => uptoBulkAll parts + 1
  | .iface _ d => uptoBulk d + 1
  | .map entries => uptoBulkEntries entries + 1
  | .held _ => 1
def uptoBulkAll {H : Type} : List (DataW H) → Nat
  | [] => 0
  | d :: r => uptoBulk d + uptoBulkAll r
def uptoBulkEntries {H : Type} : List (Lit × DataW H) → Nat
  | [] => 0
  | x :: r => uptoBulkEntry x + uptoBulkEntries r
def uptoBulkEntry {H : Type} : Lit × DataW H → Nat
  | (.string bytes, d) => bytes.length + uptoBulk d + 1
  | (_, d) => uptoBulk d + 1
 end
def uptoSmall : (H : Type) → List (DataW H) → Bool := fun _ ds => decide (uptoBulkAll ds ≤ 1048576)
def OpenSpec.upto (s : _root_.Go.ChangeSpec) : _root_.Go.OpenSpec := { _root_.Go.OpenSpec.ofChange s with cond := some uptoSmall }

/-- 'laws.FnExactCheckDivision', WHERE WHAT IT READS IS OF BULK AT MOST 1048576: true; the input reads as it did. -/
def fnExactCheckDivisionUptoRow : OpenClaim := { program := "yteibpconehgnbaa", sum := "b9ba1ee6a69ac63bd767b678fb237301ae790e42b95ebb84f2e331588ea8d46e", func := "loop.example/g01006/laws.FnExactCheckDivision", spec := "fnExactCheckDivision", apart := false, narrowed := true }
def FnExactCheckDivisionUptoSaid : Prop := fnExactCheckDivisionUptoRow.holds Try.pinned (OpenSpec.upto fnExactCheckDivisionSpec)

/-- 'laws.FnExactQuotientOf', WHERE WHAT IT READS IS OF BULK AT MOST 1048576: true; the input reads as it did. -/
def fnExactQuotientOfUptoRow : OpenClaim := { program := "yteibpconehgnbaa", sum := "b9ba1ee6a69ac63bd767b678fb237301ae790e42b95ebb84f2e331588ea8d46e", func := "loop.example/g01006/laws.FnExactQuotientOf", spec := "fnExactQuotientOf", apart := false, narrowed := true }
def FnExactQuotientOfUptoSaid : Prop := fnExactQuotientOfUptoRow.holds Try.pinned (OpenSpec.upto fnExactQuotientOfSpec)

/-- 'laws.FnExactPeriodOf', WHERE WHAT IT READS IS OF BULK AT MOST 1048576: true; the input reads as it did. -/
def fnExactPeriodOfUptoRow : OpenClaim := { program := "yteibpconehgnbaa", sum := "b9ba1ee6a69ac63bd767b678fb237301ae790e42b95ebb84f2e331588ea8d46e", func := "loop.example/g01006/laws.FnExactPeriodOf", spec := "fnExactPeriodOf", apart := false, narrowed := true }
def FnExactPeriodOfUptoSaid : Prop := fnExactPeriodOfUptoRow.holds Try.pinned (OpenSpec.upto fnExactPeriodOfSpec)

/-- 'laws.FnExactDivisorsOf', WHERE WHAT IT READS IS OF BULK AT MOST 1048576: true; the input reads as it did. -/
def fnExactDivisorsOfUptoRow : OpenClaim := { program := "yteibpconehgnbaa", sum := "b9ba1ee6a69ac63bd767b678fb237301ae790e42b95ebb84f2e331588ea8d46e", func := "loop.example/g01006/laws.FnExactDivisorsOf", spec := "fnExactDivisorsOf", apart := false, narrowed := true }
def FnExactDivisorsOfUptoSaid : Prop := fnExactDivisorsOfUptoRow.holds Try.pinned (OpenSpec.upto fnExactDivisorsOfSpec)

/-- 'laws.FnExactDecimalsOf', WHERE WHAT IT READS IS OF BULK AT MOST 1048576: true; the input reads as it did. -/
def fnExactDecimalsOfUptoRow : OpenClaim := { program := "yteibpconehgnbaa", sum := "b9ba1ee6a69ac63bd767b678fb237301ae790e42b95ebb84f2e331588ea8d46e", func := "loop.example/g01006/laws.FnExactDecimalsOf", spec := "fnExactDecimalsOf", apart := false, narrowed := true }
def FnExactDecimalsOfUptoSaid : Prop := fnExactDecimalsOfUptoRow.holds Try.pinned (OpenSpec.upto fnExactDecimalsOfSpec)

/-- 'laws.FnExactDivisionSteps', WHERE WHAT IT READS IS OF BULK AT MOST 1048576: true; the input reads as it did. -/
def fnExactDivisionStepsUptoRow : OpenClaim := { program := "yteibpconehgnbaa", sum := "b9ba1ee6a69ac63bd767b678fb237301ae790e42b95ebb84f2e331588ea8d46e", func := "loop.example/g01006/laws.FnExactDivisionSteps", spec := "fnExactDivisionSteps", apart := false, narrowed := true }
def FnExactDivisionStepsUptoSaid : Prop := fnExactDivisionStepsUptoRow.holds Try.pinned (OpenSpec.upto fnExactDivisionStepsSpec)

/-- 'laws.FnExactCorrections', WHERE WHAT IT READS IS OF BULK AT MOST 1048576: true; the input reads as it did. -/
def fnExactCorrectionsUptoRow : OpenClaim := { program := "yteibpconehgnbaa", sum := "b9ba1ee6a69ac63bd767b678fb237301ae790e42b95ebb84f2e331588ea8d46e", func := "loop.example/g01006/laws.FnExactCorrections", spec := "fnExactCorrections", apart := false, narrowed := true }
def FnExactCorrectionsUptoSaid : Prop := fnExactCorrectionsUptoRow.holds Try.pinned (OpenSpec.upto fnExactCorrectionsSpec)

/-- 'laws.FnExactTrialDigits', WHERE WHAT IT READS IS OF BULK AT MOST 1048576: true; the input reads as it did. -/
def fnExactTrialDigitsUptoRow : OpenClaim := { program := "yteibpconehgnbaa", sum := "b9ba1ee6a69ac63bd767b678fb237301ae790e42b95ebb84f2e331588ea8d46e", func := "loop.example/g01006/laws.FnExactTrialDigits", spec := "fnExactTrialDigits", apart := false, narrowed := true }
def FnExactTrialDigitsUptoSaid : Prop := fnExactTrialDigitsUptoRow.holds Try.pinned (OpenSpec.upto fnExactTrialDigitsSpec)

/-- 'laws.FnDecimals', WHERE WHAT IT READS IS OF BULK AT MOST 1048576: true; the input reads as it did. -/
def fnDecimalsUptoRow : OpenClaim := { program := "yteibpconehgnbaa", sum := "b9ba1ee6a69ac63bd767b678fb237301ae790e42b95ebb84f2e331588ea8d46e", func := "loop.example/g01006/laws.FnDecimals", spec := "fnDecimals", apart := false, narrowed := true }
def FnDecimalsUptoSaid : Prop := fnDecimalsUptoRow.holds Try.pinned (OpenSpec.upto fnDecimalsSpec)

end Rows
end Go.Proofs.Yteibpconehgnbaa
