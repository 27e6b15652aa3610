/-
  No cell of these rows narrows 'for every input' (looked for: loops, veiled, ifaces, maps, wideKeys, modest, calm, conditions, laid).
  DERIVED. THE GIVEN ROWS OF THIS SEAT. 6 by the template 'for every input the law returns true; each argument reads behind the call as it read before'; 0 by the template 'total and deterministic' (their statements: YtofpaalleimbbaaTotals.lean).
  GIVEN WITH THE SEED: the statements are not yours to turn. If you find one false, say at which input.
  Laid BY PROGRAM, IN A SANDBOX (cutbox-rows.mjs): the forced cells as the released guide's own fill.sh prints them over the translation 97ea71ddf29ea459… (all of the seat's roots in one cut). By AI agents, Wed Nov 11 2026. No macro, syntax, notation, axiom, sorry.
-/
import Derived.Test.YtofpaalleimbbaaChecked
import GoSem.Claim
import GoSem.ClaimJoined
import GoSem.ClaimMapViews
import Derived.JoinedTies
import Derived.KernelRfl
namespace Go.Proofs.Ytofpaalleimbbaa
/- THE CELL 'sum', in the pinned program and in every row, IS THE sha256 OF THE DUMP (.gsa) THAT YtofpaalleimbbaaProg.lean LOADS. Nothing in Lean hashes anything: it is a label: what it is worth is what the hold of that sum in a sandbox is worth. -/
noncomputable def Try.pinned : Pinned := { name := "ytofpaalleimbbaa", sum := "97ea71ddf29ea4593f91f0e4c375732e16a6331f520b90036b570a341dee020b", checked := Try.checked }
namespace Rows
def none {H : Type} : Left H := { results := [], args := [] }

/-- 'laws.FnExactCastingOut': WHATEVER THE INPUT: true; the input reads as it did. -/
def fnExactCastingOutSpec : ChangeSpec := { name := "fnExactCastingOut", fn := fun _ => fun
  | [d1, d2, d3] => { results := [.lit (.bool true)], args := [d1, d2, d3] }
  | _ => none }
def fnExactCastingOutRow : OpenClaim := { program := "ytofpaalleimbbaa", sum := "97ea71ddf29ea4593f91f0e4c375732e16a6331f520b90036b570a341dee020b", func := "loop.example/g01006/laws.FnExactCastingOut", spec := "fnExactCastingOut", apart := false }
def FnExactCastingOutSaid : Prop := fnExactCastingOutRow.holds Try.pinned (OpenSpec.ofChange fnExactCastingOutSpec)

/-- ITS FALSE NEIGHBOUR: 'it returns false'. Refute it at one input. -/
def fnExactCastingOutWrong : ChangeSpec := { name := "fnExactCastingOut", fn := fun _ => fun
  | [d1, d2, d3] => { results := [.lit (.bool false)], args := [d1, d2, d3] }
  | _ => none }
def FnExactCastingOutWrongFalsely : Prop := fnExactCastingOutRow.holds Try.pinned (OpenSpec.ofChange fnExactCastingOutWrong)

/-- 'laws.FnExactCheckDivision': WHATEVER THE INPUT: true; the input reads as it did. -/
def fnExactCheckDivisionSpec : ChangeSpec := { name := "fnExactCheckDivision", fn := fun _ => fun
  | [d1, d2, d3, d4] => { results := [.lit (.bool true)], args := [d1, d2, d3, d4] }
  | _ => none }
def fnExactCheckDivisionRow : OpenClaim := { program := "ytofpaalleimbbaa", sum := "97ea71ddf29ea4593f91f0e4c375732e16a6331f520b90036b570a341dee020b", func := "loop.example/g01006/laws.FnExactCheckDivision", spec := "fnExactCheckDivision", apart := false }
def FnExactCheckDivisionSaid : Prop := fnExactCheckDivisionRow.holds Try.pinned (OpenSpec.ofChange fnExactCheckDivisionSpec)

/-- ITS FALSE NEIGHBOUR: 'it returns false'. Refute it at one input. -/
def fnExactCheckDivisionWrong : ChangeSpec := { name := "fnExactCheckDivision", fn := fun _ => fun
  | [d1, d2, d3, d4] => { results := [.lit (.bool false)], args := [d1, d2, d3, d4] }
  | _ => none }
def FnExactCheckDivisionWrongFalsely : Prop := fnExactCheckDivisionRow.holds Try.pinned (OpenSpec.ofChange fnExactCheckDivisionWrong)

/-- 'laws.FnExactQuotientOf': WHATEVER THE INPUT: true; the input reads as it did. -/
def fnExactQuotientOfSpec : ChangeSpec := { name := "fnExactQuotientOf", fn := fun _ => fun
  | [d1, d2] => { results := [.lit (.bool true)], args := [d1, d2] }
  | _ => none }
def fnExactQuotientOfRow : OpenClaim := { program := "ytofpaalleimbbaa", sum := "97ea71ddf29ea4593f91f0e4c375732e16a6331f520b90036b570a341dee020b", func := "loop.example/g01006/laws.FnExactQuotientOf", spec := "fnExactQuotientOf", apart := false }
def FnExactQuotientOfSaid : Prop := fnExactQuotientOfRow.holds Try.pinned (OpenSpec.ofChange fnExactQuotientOfSpec)

/-- ITS FALSE NEIGHBOUR: 'it returns false'. Refute it at one input. -/
def fnExactQuotientOfWrong : ChangeSpec := { name := "fnExactQuotientOf", fn := fun _ => fun
  | [d1, d2] => { results := [.lit (.bool false)], args := [d1, d2] }
  | _ => none }
def FnExactQuotientOfWrongFalsely : Prop := fnExactQuotientOfRow.holds Try.pinned (OpenSpec.ofChange fnExactQuotientOfWrong)

/-- 'laws.FnExactIsAccount': WHATEVER THE INPUT: true; the input reads as it did. -/
def fnExactIsAccountSpec : ChangeSpec := { name := "fnExactIsAccount", fn := fun _ => fun
  | [d] => { results := [.lit (.bool true)], args := [d] }
  | _ => none }
def fnExactIsAccountRow : OpenClaim := { program := "ytofpaalleimbbaa", sum := "97ea71ddf29ea4593f91f0e4c375732e16a6331f520b90036b570a341dee020b", func := "loop.example/g01006/laws.FnExactIsAccount", spec := "fnExactIsAccount", apart := false }
def FnExactIsAccountSaid : Prop := fnExactIsAccountRow.holds Try.pinned (OpenSpec.ofChange fnExactIsAccountSpec)

/-- ITS FALSE NEIGHBOUR: 'it returns false'. Refute it at one input. -/
def fnExactIsAccountWrong : ChangeSpec := { name := "fnExactIsAccount", fn := fun _ => fun
  | [d] => { results := [.lit (.bool false)], args := [d] }
  | _ => none }
def FnExactIsAccountWrongFalsely : Prop := fnExactIsAccountRow.holds Try.pinned (OpenSpec.ofChange fnExactIsAccountWrong)

/-- 'laws.FnExactCubeRoot': WHATEVER THE INPUT: true; the input reads as it did. -/
def fnExactCubeRootSpec : ChangeSpec := { name := "fnExactCubeRoot", fn := fun _ => fun
  | [d] => { results := [.lit (.bool true)], args := [d] }
  | _ => none }
def fnExactCubeRootRow : OpenClaim := { program := "ytofpaalleimbbaa", sum := "97ea71ddf29ea4593f91f0e4c375732e16a6331f520b90036b570a341dee020b", func := "loop.example/g01006/laws.FnExactCubeRoot", spec := "fnExactCubeRoot", apart := false }
def FnExactCubeRootSaid : Prop := fnExactCubeRootRow.holds Try.pinned (OpenSpec.ofChange fnExactCubeRootSpec)

/-- ITS FALSE NEIGHBOUR: 'it returns false'. Refute it at one input. -/
def fnExactCubeRootWrong : ChangeSpec := { name := "fnExactCubeRoot", fn := fun _ => fun
  | [d] => { results := [.lit (.bool false)], args := [d] }
  | _ => none }
def FnExactCubeRootWrongFalsely : Prop := fnExactCubeRootRow.holds Try.pinned (OpenSpec.ofChange fnExactCubeRootWrong)

/-- 'laws.FnExactIsLesson': WHATEVER THE INPUT: true; the input reads as it did. -/
def fnExactIsLessonSpec : ChangeSpec := { name := "fnExactIsLesson", fn := fun _ => fun
  | [d] => { results := [.lit (.bool true)], args := [d] }
  | _ => none }
def fnExactIsLessonRow : OpenClaim := { program := "ytofpaalleimbbaa", sum := "97ea71ddf29ea4593f91f0e4c375732e16a6331f520b90036b570a341dee020b", func := "loop.example/g01006/laws.FnExactIsLesson", spec := "fnExactIsLesson", apart := false }
def FnExactIsLessonSaid : Prop := fnExactIsLessonRow.holds Try.pinned (OpenSpec.ofChange fnExactIsLessonSpec)

/-- ITS FALSE NEIGHBOUR: 'it returns false'. Refute it at one input. -/
def fnExactIsLessonWrong : ChangeSpec := { name := "fnExactIsLesson", fn := fun _ => fun
  | [d] => { results := [.lit (.bool false)], args := [d] }
  | _ => none }
def FnExactIsLessonWrongFalsely : Prop := fnExactIsLessonRow.holds Try.pinned (OpenSpec.ofChange fnExactIsLessonWrong)

/- THE SECOND FORM. 'bulk': how many values and letters a reading holds, each counted each time it is reached (what is shared counts as often as it is met; a slice's spare places count too). A statement '..UptoSaid' is the law's where the arguments, and the package variables that the reading takes, are together of bulk at most 1048576: NARROWER than '..Said'. Prove '..Said' where nothing that the law and all that it calls make is longer than what came in: it says more and counts as full. Else prove '..UptoSaid'. A law counts once. -/
mutual
def uptoBulk {H : Type} : DataW H → Nat
  | .lit (.string bytes) => bytes.length + 1
  | .lit _ => 1
  | .nil => 1
  | .ptr d => uptoBulk d + 1
  | .slice elems spare => uptoBulkAll elems + uptoBulkAll spare + 1
  | .agg parts => uptoBulkAll parts + 1
  | .iface _ d => uptoBulk d + 1
  | .map entries => uptoBulkEntries entries + 1
  | .held _ => 1
def uptoBulkAll {H : Type} : List (DataW H) → Nat
  | [] => 0
  | d :: r => uptoBulk d + uptoBulkAll r
def uptoBulkEntries {H : Type} : List (Lit × DataW H) → Nat
  | [] => 0
  | x :: r => uptoBulkEntry x + uptoBulkEntries r
def uptoBulkEntry {H : Type} : Lit × DataW H → Nat
  | (.string bytes, d) => bytes.length + uptoBulk d + 1
  | (_, d) => uptoBulk d + 1
 end
def uptoSmall : (H : Type) → List (DataW H) → Bool := fun _ ds => decide (uptoBulkAll ds ≤ 1048576)
def OpenSpec.upto (s : _root_.Go.ChangeSpec) : _root_.Go.OpenSpec := { _root_.Go.OpenSpec.ofChange s with cond := some uptoSmall }

/-- 'laws.FnExactCastingOut', WHERE WHAT IT READS IS OF BULK AT MOST 1048576: true; the input reads as it did. -/
def fnExactCastingOutUptoRow : OpenClaim := { program := "ytofpaalleimbbaa", sum := "97ea71ddf29ea4593f91f0e4c375732e16a6331f520b90036b570a341dee020b", func := "loop.example/g01006/laws.FnExactCastingOut", spec := "fnExactCastingOut", apart := false, narrowed := true }
def FnExactCastingOutUptoSaid : Prop := fnExactCastingOutUptoRow.holds Try.pinned (OpenSpec.upto fnExactCastingOutSpec)

/-- 'laws.FnExactCheckDivision', WHERE WHAT IT READS IS OF BULK AT MOST 1048576: true; the input reads as it did. -/
def fnExactCheckDivisionUptoRow : OpenClaim := { program := "ytofpaalleimbbaa", sum := "97ea71ddf29ea4593f91f0e4c375732e16a6331f520b90036b570a341dee020b", func := "loop.example/g01006/laws.FnExactCheckDivision", spec := "fnExactCheckDivision", apart := false, narrowed := true }
def FnExactCheckDivisionUptoSaid : Prop := fnExactCheckDivisionUptoRow.holds Try.pinned (OpenSpec.upto fnExactCheckDivisionSpec)

/-- 'laws.FnExactQuotientOf', WHERE WHAT IT READS IS OF BULK AT MOST 1048576: true; the input reads as it did. -/
def fnExactQuotientOfUptoRow : OpenClaim := { program := "ytofpaalleimbbaa", sum := "97ea71ddf29ea4593f91f0e4c375732e16a6331f520b90036b570a341dee020b", func := "loop.example/g01006/laws.FnExactQuotientOf", spec := "fnExactQuotientOf", apart := false, narrowed := true }
def FnExactQuotientOfUptoSaid : Prop := fnExactQuotientOfUptoRow.holds Try.pinned (OpenSpec.upto fnExactQuotientOfSpec)

/-- 'laws.FnExactIsAccount', WHERE WHAT IT READS IS OF BULK AT MOST 1048576: true; the input reads as it did. -/
def fnExactIsAccountUptoRow : OpenClaim := { program := "ytofpaalleimbbaa", sum := "97ea71ddf29ea4593f91f0e4c375732e16a6331f520b90036b570a341dee020b", func := "loop.example/g01006/laws.FnExactIsAccount", spec := "fnExactIsAccount", apart := false, narrowed := true }
def FnExactIsAccountUptoSaid : Prop := fnExactIsAccountUptoRow.holds Try.pinned (OpenSpec.upto fnExactIsAccountSpec)

/-- 'laws.FnExactCubeRoot', WHERE WHAT IT READS IS OF BULK AT MOST 1048576: true; the input reads as it did. -/
def fnExactCubeRootUptoRow : OpenClaim := { program := "ytofpaalleimbbaa", sum := "97ea71ddf29ea4593f91f0e4c375732e16a6331f520b90036b570a341dee020b", func := "loop.example/g01006/laws.FnExactCubeRoot", spec := "fnExactCubeRoot", apart := false, narrowed := true }
def FnExactCubeRootUptoSaid : Prop := fnExactCubeRootUptoRow.holds Try.pinned (OpenSpec.upto fnExactCubeRootSpec)

/-- 'laws.FnExactIsLesson', WHERE WHAT IT READS IS OF BULK AT MOST 1048576: true; the input reads as it did. -/
def fnExactIsLessonUptoRow : OpenClaim := { program := "ytofpaalleimbbaa", sum := "97ea71ddf29ea4593f91f0e4c375732e16a6331f520b90036b570a341dee020b", func := "loop.example/g01006/laws.FnExactIsLesson", spec := "fnExactIsLesson", apart := false, narrowed := true }
def FnExactIsLessonUptoSaid : Prop := fnExactIsLessonUptoRow.holds Try.pinned (OpenSpec.upto fnExactIsLessonSpec)

end Rows
end Go.Proofs.Ytofpaalleimbbaa
