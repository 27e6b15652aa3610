/-
  No cell of these rows narrows 'for every input' (looked for: loops, veiled, ifaces, maps, wideKeys, modest, calm, conditions, laid).
  DERIVED. THE GIVEN ROWS OF THIS SEAT. 11 by the template 'for every input the law returns true; each argument reads behind the call as it read before'; 0 by the template 'total and deterministic' (their statements: YtiephmkokkjbaaaTotals.lean).
  GIVEN WITH THE SEED: the statements are not yours to turn. If you find one false, say at which input.
  Laid BY PROGRAM, IN A SANDBOX (cutbox-rows.mjs): the forced cells as the released guide's own fill.sh prints them over the translation 0e7895f690f084a0… (all of the seat's roots in one cut). By AI agents, Wed Nov 11 2026. No macro, syntax, notation, axiom, sorry.
-/
import Derived.Test.YtiephmkokkjbaaaChecked
import GoSem.Claim
import GoSem.ClaimJoined
import GoSem.ClaimMapViews
import Derived.JoinedTies
import Derived.KernelRfl
namespace Go.Proofs.Ytiephmkokkjbaaa
/- THE CELL 'sum', in the pinned program and in every row, IS THE sha256 OF THE DUMP (.gsa) THAT YtiephmkokkjbaaaProg.lean LOADS. Nothing in Lean hashes anything: it is a label: what it is worth is what the hold of that sum in a sandbox is worth. -/
noncomputable def Try.pinned : Pinned := { name := "ytiephmkokkjbaaa", sum := "0e7895f690f084a0ca1d6efad0defc491b2c61b3c2211b9762e311de1a6965c2", checked := Try.checked }
namespace Rows
def none {H : Type} : Left H := { results := [], args := [] }

/-- 'laws.FnExactCubeRoot': WHATEVER THE INPUT: true; the input reads as it did. -/
def fnExactCubeRootSpec : ChangeSpec := { name := "fnExactCubeRoot", fn := fun _ => fun
  | [d] => { results := [.lit (.bool true)], args := [d] }
  | _ => none }
def fnExactCubeRootRow : OpenClaim := { program := "ytiephmkokkjbaaa", sum := "0e7895f690f084a0ca1d6efad0defc491b2c61b3c2211b9762e311de1a6965c2", func := "loop.example/g01006/laws.FnExactCubeRoot", spec := "fnExactCubeRoot", apart := false }
def FnExactCubeRootSaid : Prop := fnExactCubeRootRow.holds Try.pinned (OpenSpec.ofChange fnExactCubeRootSpec)

/-- ITS FALSE NEIGHBOUR: 'it returns false'. Refute it at one input. -/
def fnExactCubeRootWrong : ChangeSpec := { name := "fnExactCubeRoot", fn := fun _ => fun
  | [d] => { results := [.lit (.bool false)], args := [d] }
  | _ => none }
def FnExactCubeRootWrongFalsely : Prop := fnExactCubeRootRow.holds Try.pinned (OpenSpec.ofChange fnExactCubeRootWrong)

/-- 'laws.FnExactOddsTaken': WHATEVER THE INPUT: true; the input reads as it did. -/
def fnExactOddsTakenSpec : ChangeSpec := { name := "fnExactOddsTaken", fn := fun _ => fun
  | [d] => { results := [.lit (.bool true)], args := [d] }
  | _ => none }
def fnExactOddsTakenRow : OpenClaim := { program := "ytiephmkokkjbaaa", sum := "0e7895f690f084a0ca1d6efad0defc491b2c61b3c2211b9762e311de1a6965c2", func := "loop.example/g01006/laws.FnExactOddsTaken", spec := "fnExactOddsTaken", apart := false }
def FnExactOddsTakenSaid : Prop := fnExactOddsTakenRow.holds Try.pinned (OpenSpec.ofChange fnExactOddsTakenSpec)

/-- ITS FALSE NEIGHBOUR: 'it returns false'. Refute it at one input. -/
def fnExactOddsTakenWrong : ChangeSpec := { name := "fnExactOddsTaken", fn := fun _ => fun
  | [d] => { results := [.lit (.bool false)], args := [d] }
  | _ => none }
def FnExactOddsTakenWrongFalsely : Prop := fnExactOddsTakenRow.holds Try.pinned (OpenSpec.ofChange fnExactOddsTakenWrong)

/-- 'laws.FnExactPairsOf': WHATEVER THE INPUT: true; the input reads as it did. -/
def fnExactPairsOfSpec : ChangeSpec := { name := "fnExactPairsOf", fn := fun _ => fun
  | [d] => { results := [.lit (.bool true)], args := [d] }
  | _ => none }
def fnExactPairsOfRow : OpenClaim := { program := "ytiephmkokkjbaaa", sum := "0e7895f690f084a0ca1d6efad0defc491b2c61b3c2211b9762e311de1a6965c2", func := "loop.example/g01006/laws.FnExactPairsOf", spec := "fnExactPairsOf", apart := false }
def FnExactPairsOfSaid : Prop := fnExactPairsOfRow.holds Try.pinned (OpenSpec.ofChange fnExactPairsOfSpec)

/-- ITS FALSE NEIGHBOUR: 'it returns false'. Refute it at one input. -/
def fnExactPairsOfWrong : ChangeSpec := { name := "fnExactPairsOf", fn := fun _ => fun
  | [d] => { results := [.lit (.bool false)], args := [d] }
  | _ => none }
def FnExactPairsOfWrongFalsely : Prop := fnExactPairsOfRow.holds Try.pinned (OpenSpec.ofChange fnExactPairsOfWrong)

/-- 'laws.FnExactIsSquare': WHATEVER THE INPUT: true; the input reads as it did. -/
def fnExactIsSquareSpec : ChangeSpec := { name := "fnExactIsSquare", fn := fun _ => fun
  | [d] => { results := [.lit (.bool true)], args := [d] }
  | _ => none }
def fnExactIsSquareRow : OpenClaim := { program := "ytiephmkokkjbaaa", sum := "0e7895f690f084a0ca1d6efad0defc491b2c61b3c2211b9762e311de1a6965c2", func := "loop.example/g01006/laws.FnExactIsSquare", spec := "fnExactIsSquare", apart := false }
def FnExactIsSquareSaid : Prop := fnExactIsSquareRow.holds Try.pinned (OpenSpec.ofChange fnExactIsSquareSpec)

/-- ITS FALSE NEIGHBOUR: 'it returns false'. Refute it at one input. -/
def fnExactIsSquareWrong : ChangeSpec := { name := "fnExactIsSquare", fn := fun _ => fun
  | [d] => { results := [.lit (.bool false)], args := [d] }
  | _ => none }
def FnExactIsSquareWrongFalsely : Prop := fnExactIsSquareRow.holds Try.pinned (OpenSpec.ofChange fnExactIsSquareWrong)

/-- 'laws.FnExactNextSquare': WHATEVER THE INPUT: true; the input reads as it did. -/
def fnExactNextSquareSpec : ChangeSpec := { name := "fnExactNextSquare", fn := fun _ => fun
  | [d] => { results := [.lit (.bool true)], args := [d] }
  | _ => none }
def fnExactNextSquareRow : OpenClaim := { program := "ytiephmkokkjbaaa", sum := "0e7895f690f084a0ca1d6efad0defc491b2c61b3c2211b9762e311de1a6965c2", func := "loop.example/g01006/laws.FnExactNextSquare", spec := "fnExactNextSquare", apart := false }
def FnExactNextSquareSaid : Prop := fnExactNextSquareRow.holds Try.pinned (OpenSpec.ofChange fnExactNextSquareSpec)

/-- ITS FALSE NEIGHBOUR: 'it returns false'. Refute it at one input. -/
def fnExactNextSquareWrong : ChangeSpec := { name := "fnExactNextSquare", fn := fun _ => fun
  | [d] => { results := [.lit (.bool false)], args := [d] }
  | _ => none }
def FnExactNextSquareWrongFalsely : Prop := fnExactNextSquareRow.holds Try.pinned (OpenSpec.ofChange fnExactNextSquareWrong)

/-- 'laws.FnExactWholeRoot': WHATEVER THE INPUT: true; the input reads as it did. -/
def fnExactWholeRootSpec : ChangeSpec := { name := "fnExactWholeRoot", fn := fun _ => fun
  | [d] => { results := [.lit (.bool true)], args := [d] }
  | _ => none }
def fnExactWholeRootRow : OpenClaim := { program := "ytiephmkokkjbaaa", sum := "0e7895f690f084a0ca1d6efad0defc491b2c61b3c2211b9762e311de1a6965c2", func := "loop.example/g01006/laws.FnExactWholeRoot", spec := "fnExactWholeRoot", apart := false }
def FnExactWholeRootSaid : Prop := fnExactWholeRootRow.holds Try.pinned (OpenSpec.ofChange fnExactWholeRootSpec)

/-- ITS FALSE NEIGHBOUR: 'it returns false'. Refute it at one input. -/
def fnExactWholeRootWrong : ChangeSpec := { name := "fnExactWholeRoot", fn := fun _ => fun
  | [d] => { results := [.lit (.bool false)], args := [d] }
  | _ => none }
def FnExactWholeRootWrongFalsely : Prop := fnExactWholeRootRow.holds Try.pinned (OpenSpec.ofChange fnExactWholeRootWrong)

/-- 'laws.FnExactRootDecimals': WHATEVER THE INPUT: true; the input reads as it did. -/
def fnExactRootDecimalsSpec : ChangeSpec := { name := "fnExactRootDecimals", fn := fun _ => fun
  | [d1, d2] => { results := [.lit (.bool true)], args := [d1, d2] }
  | _ => none }
def fnExactRootDecimalsRow : OpenClaim := { program := "ytiephmkokkjbaaa", sum := "0e7895f690f084a0ca1d6efad0defc491b2c61b3c2211b9762e311de1a6965c2", func := "loop.example/g01006/laws.FnExactRootDecimals", spec := "fnExactRootDecimals", apart := false }
def FnExactRootDecimalsSaid : Prop := fnExactRootDecimalsRow.holds Try.pinned (OpenSpec.ofChange fnExactRootDecimalsSpec)

/-- ITS FALSE NEIGHBOUR: 'it returns false'. Refute it at one input. -/
def fnExactRootDecimalsWrong : ChangeSpec := { name := "fnExactRootDecimals", fn := fun _ => fun
  | [d1, d2] => { results := [.lit (.bool false)], args := [d1, d2] }
  | _ => none }
def FnExactRootDecimalsWrongFalsely : Prop := fnExactRootDecimalsRow.holds Try.pinned (OpenSpec.ofChange fnExactRootDecimalsWrong)

/-- 'laws.FnExactRootSteps': WHATEVER THE INPUT: true; the input reads as it did. -/
def fnExactRootStepsSpec : ChangeSpec := { name := "fnExactRootSteps", fn := fun _ => fun
  | [d] => { results := [.lit (.bool true)], args := [d] }
  | _ => none }
def fnExactRootStepsRow : OpenClaim := { program := "ytiephmkokkjbaaa", sum := "0e7895f690f084a0ca1d6efad0defc491b2c61b3c2211b9762e311de1a6965c2", func := "loop.example/g01006/laws.FnExactRootSteps", spec := "fnExactRootSteps", apart := false }
def FnExactRootStepsSaid : Prop := fnExactRootStepsRow.holds Try.pinned (OpenSpec.ofChange fnExactRootStepsSpec)

/-- ITS FALSE NEIGHBOUR: 'it returns false'. Refute it at one input. -/
def fnExactRootStepsWrong : ChangeSpec := { name := "fnExactRootSteps", fn := fun _ => fun
  | [d] => { results := [.lit (.bool false)], args := [d] }
  | _ => none }
def FnExactRootStepsWrongFalsely : Prop := fnExactRootStepsRow.holds Try.pinned (OpenSpec.ofChange fnExactRootStepsWrong)

/-- 'laws.FnExactSumOfTwo': WHATEVER THE INPUT: true; the input reads as it did. -/
def fnExactSumOfTwoSpec : ChangeSpec := { name := "fnExactSumOfTwo", fn := fun _ => fun
  | [d] => { results := [.lit (.bool true)], args := [d] }
  | _ => none }
def fnExactSumOfTwoRow : OpenClaim := { program := "ytiephmkokkjbaaa", sum := "0e7895f690f084a0ca1d6efad0defc491b2c61b3c2211b9762e311de1a6965c2", func := "loop.example/g01006/laws.FnExactSumOfTwo", spec := "fnExactSumOfTwo", apart := false }
def FnExactSumOfTwoSaid : Prop := fnExactSumOfTwoRow.holds Try.pinned (OpenSpec.ofChange fnExactSumOfTwoSpec)

/-- ITS FALSE NEIGHBOUR: 'it returns false'. Refute it at one input. -/
def fnExactSumOfTwoWrong : ChangeSpec := { name := "fnExactSumOfTwo", fn := fun _ => fun
  | [d] => { results := [.lit (.bool false)], args := [d] }
  | _ => none }
def FnExactSumOfTwoWrongFalsely : Prop := fnExactSumOfTwoRow.holds Try.pinned (OpenSpec.ofChange fnExactSumOfTwoWrong)

/-- 'laws.FnRoots': WHATEVER THE INPUT: true; the input reads as it did. -/
def fnRootsSpec : ChangeSpec := { name := "fnRoots", fn := fun _ => fun
  | [d] => { results := [.lit (.bool true)], args := [d] }
  | _ => none }
def fnRootsRow : OpenClaim := { program := "ytiephmkokkjbaaa", sum := "0e7895f690f084a0ca1d6efad0defc491b2c61b3c2211b9762e311de1a6965c2", func := "loop.example/g01006/laws.FnRoots", spec := "fnRoots", apart := false }
def FnRootsSaid : Prop := fnRootsRow.holds Try.pinned (OpenSpec.ofChange fnRootsSpec)

/-- ITS FALSE NEIGHBOUR: 'it returns false'. Refute it at one input. -/
def fnRootsWrong : ChangeSpec := { name := "fnRoots", fn := fun _ => fun
  | [d] => { results := [.lit (.bool false)], args := [d] }
  | _ => none }
def FnRootsWrongFalsely : Prop := fnRootsRow.holds Try.pinned (OpenSpec.ofChange fnRootsWrong)

/-- 'laws.FnMoreRoots': WHATEVER THE INPUT: true; the input reads as it did. -/
def fnMoreRootsSpec : ChangeSpec := { name := "fnMoreRoots", fn := fun _ => fun
  | [d] => { results := [.lit (.bool true)], args := [d] }
  | _ => none }
def fnMoreRootsRow : OpenClaim := { program := "ytiephmkokkjbaaa", sum := "0e7895f690f084a0ca1d6efad0defc491b2c61b3c2211b9762e311de1a6965c2", func := "loop.example/g01006/laws.FnMoreRoots", spec := "fnMoreRoots", apart := false }
def FnMoreRootsSaid : Prop := fnMoreRootsRow.holds Try.pinned (OpenSpec.ofChange fnMoreRootsSpec)

/-- ITS FALSE NEIGHBOUR: 'it returns false'. Refute it at one input. -/
def fnMoreRootsWrong : ChangeSpec := { name := "fnMoreRoots", fn := fun _ => fun
  | [d] => { results := [.lit (.bool false)], args := [d] }
  | _ => none }
def FnMoreRootsWrongFalsely : Prop := fnMoreRootsRow.holds Try.pinned (OpenSpec.ofChange fnMoreRootsWrong)

/- THE SECOND FORM. 'bulk': how many values and letters a reading holds, each counted each time it is reached (what is shared counts as often as it is met; a slice's spare places count too). A statement '..UptoSaid' is the law's where the arguments, and the package variables that the reading takes, are together of bulk at most 1048576: NARROWER than '..Said'. Prove '..Said' where nothing that the law and all that it calls make is longer than what came in: it says more and counts as full. Else prove '..UptoSaid'. A law counts once. -/
mutual
def uptoBulk {H : Type} : DataW H → Nat
  | .lit (.string bytes) => bytes.length + 1
  | .lit _ => 1
  | .nil => 1
  | .ptr d => uptoBulk d + 1
  | .slice elems spare => uptoBulkAll elems + uptoBulkAll spare + 1
  | .agg parts => uptoBulkAll parts + 1
  | .iface _ d => uptoBulk d + 1
  | .map entries => uptoBulkEntries entries + 1
  | .held _ => 1
def uptoBulkAll {H : Type} : List (DataW H) → Nat
  | [] => 0
  | d :: r => uptoBulk d + uptoBulkAll r
def uptoBulkEntries {H : Type} : List (Lit × DataW H) → Nat
  | [] => 0
  | x :: r => uptoBulkEntry x + uptoBulkEntries r
def uptoBulkEntry {H : Type} : Lit × DataW H → Nat
  | (.string bytes, d) => bytes.length + uptoBulk d + 1
  | (_, d) => uptoBulk d + 1
 end
def uptoSmall : (H : Type) → List (DataW H) → Bool := fun _ ds => decide (uptoBulkAll ds ≤ 1048576)
def OpenSpec.upto (s : _root_.Go.ChangeSpec) : _root_.Go.OpenSpec := { _root_.Go.OpenSpec.ofChange s with cond := some uptoSmall }

/-- 'laws.FnExactCubeRoot', WHERE WHAT IT READS IS OF BULK AT MOST 1048576: true; the input reads as it did. -/
def fnExactCubeRootUptoRow : OpenClaim := { program := "ytiephmkokkjbaaa", sum := "0e7895f690f084a0ca1d6efad0defc491b2c61b3c2211b9762e311de1a6965c2", func := "loop.example/g01006/laws.FnExactCubeRoot", spec := "fnExactCubeRoot", apart := false, narrowed := true }
def FnExactCubeRootUptoSaid : Prop := fnExactCubeRootUptoRow.holds Try.pinned (OpenSpec.upto fnExactCubeRootSpec)

/-- 'laws.FnExactOddsTaken', WHERE WHAT IT READS IS OF BULK AT MOST 1048576: true; the input reads as it did. -/
def fnExactOddsTakenUptoRow : OpenClaim := { program := "ytiephmkokkjbaaa", sum := "0e7895f690f084a0ca1d6efad0defc491b2c61b3c2211b9762e311de1a6965c2", func := "loop.example/g01006/laws.FnExactOddsTaken", spec := "fnExactOddsTaken", apart := false, narrowed := true }
def FnExactOddsTakenUptoSaid : Prop := fnExactOddsTakenUptoRow.holds Try.pinned (OpenSpec.upto fnExactOddsTakenSpec)

/-- 'laws.FnExactPairsOf', WHERE WHAT IT READS IS OF BULK AT MOST 1048576: true; the input reads as it did. -/
def fnExactPairsOfUptoRow : OpenClaim := { program := "ytiephmkokkjbaaa", sum := "0e7895f690f084a0ca1d6efad0defc491b2c61b3c2211b9762e311de1a6965c2", func := "loop.example/g01006/laws.FnExactPairsOf", spec := "fnExactPairsOf", apart := false, narrowed := true }
def FnExactPairsOfUptoSaid : Prop := fnExactPairsOfUptoRow.holds Try.pinned (OpenSpec.upto fnExactPairsOfSpec)

/-- 'laws.FnExactIsSquare', WHERE WHAT IT READS IS OF BULK AT MOST 1048576: true; the input reads as it did. -/
def fnExactIsSquareUptoRow : OpenClaim := { program := "ytiephmkokkjbaaa", sum := "0e7895f690f084a0ca1d6efad0defc491b2c61b3c2211b9762e311de1a6965c2", func := "loop.example/g01006/laws.FnExactIsSquare", spec := "fnExactIsSquare", apart := false, narrowed := true }
def FnExactIsSquareUptoSaid : Prop := fnExactIsSquareUptoRow.holds Try.pinned (OpenSpec.upto fnExactIsSquareSpec)

/-- 'laws.FnExactNextSquare', WHERE WHAT IT READS IS OF BULK AT MOST 1048576: true; the input reads as it did. -/
def fnExactNextSquareUptoRow : OpenClaim := { program := "ytiephmkokkjbaaa", sum := "0e7895f690f084a0ca1d6efad0defc491b2c61b3c2211b9762e311de1a6965c2", func := "loop.example/g01006/laws.FnExactNextSquare", spec := "fnExactNextSquare", apart := false, narrowed := true }
def FnExactNextSquareUptoSaid : Prop := fnExactNextSquareUptoRow.holds Try.pinned (OpenSpec.upto fnExactNextSquareSpec)

/-- 'laws.FnExactWholeRoot', WHERE WHAT IT READS IS OF BULK AT MOST 1048576: true; the input reads as it did. -/
def fnExactWholeRootUptoRow : OpenClaim := { program := "ytiephmkokkjbaaa", sum := "0e7895f690f084a0ca1d6efad0defc491b2c61b3c2211b9762e311de1a6965c2", func := "loop.example/g01006/laws.FnExactWholeRoot", spec := "fnExactWholeRoot", apart := false, narrowed := true }
def FnExactWholeRootUptoSaid : Prop := fnExactWholeRootUptoRow.holds Try.pinned (OpenSpec.upto fnExactWholeRootSpec)

/-- 'laws.FnExactRootDecimals', WHERE WHAT IT READS IS OF BULK AT MOST 1048576: true; the input reads as it did. -/
def fnExactRootDecimalsUptoRow : OpenClaim := { program := "ytiephmkokkjbaaa", sum := "0e7895f690f084a0ca1d6efad0defc491b2c61b3c2211b9762e311de1a6965c2", func := "loop.example/g01006/laws.FnExactRootDecimals", spec := "fnExactRootDecimals", apart := false, narrowed := true }
def FnExactRootDecimalsUptoSaid : Prop := fnExactRootDecimalsUptoRow.holds Try.pinned (OpenSpec.upto fnExactRootDecimalsSpec)

/-- 'laws.FnExactRootSteps', WHERE WHAT IT READS IS OF BULK AT MOST 1048576: true; the input reads as it did. -/
def fnExactRootStepsUptoRow : OpenClaim := { program := "ytiephmkokkjbaaa", sum := "0e7895f690f084a0ca1d6efad0defc491b2c61b3c2211b9762e311de1a6965c2", func := "loop.example/g01006/laws.FnExactRootSteps", spec := "fnExactRootSteps", apart := false, narrowed := true }
def FnExactRootStepsUptoSaid : Prop := fnExactRootStepsUptoRow.holds Try.pinned (OpenSpec.upto fnExactRootStepsSpec)

/-- 'laws.FnExactSumOfTwo', WHERE WHAT IT READS IS OF BULK AT MOST 1048576: true; the input reads as it did. -/
def fnExactSumOfTwoUptoRow : OpenClaim := { program := "ytiephmkokkjbaaa", sum := "0e7895f690f084a0ca1d6efad0defc491b2c61b3c2211b9762e311de1a6965c2", func := "loop.example/g01006/laws.FnExactSumOfTwo", spec := "fnExactSumOfTwo", apart := false, narrowed := true }
def FnExactSumOfTwoUptoSaid : Prop := fnExactSumOfTwoUptoRow.holds Try.pinned (OpenSpec.upto fnExactSumOfTwoSpec)

/-- 'laws.FnRoots', WHERE WHAT IT READS IS OF BULK AT MOST 1048576: true; the input reads as it did. -/
def fnRootsUptoRow : OpenClaim := { program := "ytiephmkokkjbaaa", sum := "0e7895f690f084a0ca1d6efad0defc491b2c61b3c2211b9762e311de1a6965c2", func := "loop.example/g01006/laws.FnRoots", spec := "fnRoots", apart := false, narrowed := true }
def FnRootsUptoSaid : Prop := fnRootsUptoRow.holds Try.pinned (OpenSpec.upto fnRootsSpec)

/-- 'laws.FnMoreRoots', WHERE WHAT IT READS IS OF BULK AT MOST 1048576: true; the input reads as it did. -/
def fnMoreRootsUptoRow : OpenClaim := { program := "ytiephmkokkjbaaa", sum := "0e7895f690f084a0ca1d6efad0defc491b2c61b3c2211b9762e311de1a6965c2", func := "loop.example/g01006/laws.FnMoreRoots", spec := "fnMoreRoots", apart := false, narrowed := true }
def FnMoreRootsUptoSaid : Prop := fnMoreRootsUptoRow.holds Try.pinned (OpenSpec.upto fnMoreRootsSpec)

end Rows
end Go.Proofs.Ytiephmkokkjbaaa
