/-
  No cell of these rows narrows 'for every input' (looked for: loops, veiled, ifaces, maps, wideKeys, modest, calm, conditions, laid).
  DERIVED. THE GIVEN ROWS OF THIS SEAT. 6 by the template 'for every input the law returns true; each argument reads behind the call as it read before'; 0 by the template 'total and deterministic' (their statements: YtkgbcjiinicffaaTotals.lean).
  GIVEN WITH THE SEED: the statements are not yours to turn. If you find one false, say at which input.
  Laid BY PROGRAM, IN A SANDBOX (cutbox-rows.mjs): the forced cells as the released guide's own fill.sh prints them over the translation 937bbfcd35c3a4ab… (all of the seat's roots in one cut). By AI agents, Wed Nov 11 2026. No macro, syntax, notation, axiom, sorry.
-/
import Derived.Test.YtkgbcjiinicffaaChecked
import GoSem.Claim
import GoSem.ClaimJoined
import GoSem.ClaimMapViews
import Derived.JoinedTies
import Derived.KernelRfl
namespace Go.Proofs.Ytkgbcjiinicffaa
/- THE CELL 'sum', in the pinned program and in every row, IS THE sha256 OF THE DUMP (.gsa) THAT YtkgbcjiinicffaaProg.lean LOADS. Nothing in Lean hashes anything: it is a label: what it is worth is what the hold of that sum in a sandbox is worth. -/
noncomputable def Try.pinned : Pinned := { name := "ytkgbcjiinicffaa", sum := "937bbfcd35c3a4ab955f8f4d737d35e0d8cc5ffe48afcdf62e11cd861a4f7db9", checked := Try.checked }
namespace Rows
def none {H : Type} : Left H := { results := [], args := [] }

/-- 'laws.FnExactFormsOf': WHATEVER THE INPUT: true; the input reads as it did. -/
def fnExactFormsOfSpec : ChangeSpec := { name := "fnExactFormsOf", fn := fun _ => fun
  | [d1, d2, d3] => { results := [.lit (.bool true)], args := [d1, d2, d3] }
  | _ => none }
def fnExactFormsOfRow : OpenClaim := { program := "ytkgbcjiinicffaa", sum := "937bbfcd35c3a4ab955f8f4d737d35e0d8cc5ffe48afcdf62e11cd861a4f7db9", func := "loop.example/g01006/laws.FnExactFormsOf", spec := "fnExactFormsOf", apart := false }
def FnExactFormsOfSaid : Prop := fnExactFormsOfRow.holds Try.pinned (OpenSpec.ofChange fnExactFormsOfSpec)

/-- ITS FALSE NEIGHBOUR: 'it returns false'. Refute it at one input. -/
def fnExactFormsOfWrong : ChangeSpec := { name := "fnExactFormsOf", fn := fun _ => fun
  | [d1, d2, d3] => { results := [.lit (.bool false)], args := [d1, d2, d3] }
  | _ => none }
def FnExactFormsOfWrongFalsely : Prop := fnExactFormsOfRow.holds Try.pinned (OpenSpec.ofChange fnExactFormsOfWrong)

/-- 'laws.FnExactTargetCount': WHATEVER THE INPUT: true; the input reads as it did. -/
def fnExactTargetCountSpec : ChangeSpec := { name := "fnExactTargetCount", fn := fun _ => fun
  | [d1, d2] => { results := [.lit (.bool true)], args := [d1, d2] }
  | _ => none }
def fnExactTargetCountRow : OpenClaim := { program := "ytkgbcjiinicffaa", sum := "937bbfcd35c3a4ab955f8f4d737d35e0d8cc5ffe48afcdf62e11cd861a4f7db9", func := "loop.example/g01006/laws.FnExactTargetCount", spec := "fnExactTargetCount", recurses := true, apart := false }
def FnExactTargetCountSaid : Prop := fnExactTargetCountRow.holds Try.pinned (OpenSpec.ofChange fnExactTargetCountSpec)

/-- ITS FALSE NEIGHBOUR: 'it returns false'. Refute it at one input. -/
def fnExactTargetCountWrong : ChangeSpec := { name := "fnExactTargetCount", fn := fun _ => fun
  | [d1, d2] => { results := [.lit (.bool false)], args := [d1, d2] }
  | _ => none }
def FnExactTargetCountWrongFalsely : Prop := fnExactTargetCountRow.holds Try.pinned (OpenSpec.ofChange fnExactTargetCountWrong)

/-- 'laws.FnExactFewestBeads': WHATEVER THE INPUT: true; the input reads as it did. -/
def fnExactFewestBeadsSpec : ChangeSpec := { name := "fnExactFewestBeads", fn := fun _ => fun
  | [d1, d2] => { results := [.lit (.bool true)], args := [d1, d2] }
  | _ => none }
def fnExactFewestBeadsRow : OpenClaim := { program := "ytkgbcjiinicffaa", sum := "937bbfcd35c3a4ab955f8f4d737d35e0d8cc5ffe48afcdf62e11cd861a4f7db9", func := "loop.example/g01006/laws.FnExactFewestBeads", spec := "fnExactFewestBeads", unfollowed := true, recurses := true, apart := false }
def FnExactFewestBeadsSaid : Prop := fnExactFewestBeadsRow.holds Try.pinned (OpenSpec.ofChange fnExactFewestBeadsSpec)

/-- ITS FALSE NEIGHBOUR: 'it returns false'. Refute it at one input. -/
def fnExactFewestBeadsWrong : ChangeSpec := { name := "fnExactFewestBeads", fn := fun _ => fun
  | [d1, d2] => { results := [.lit (.bool false)], args := [d1, d2] }
  | _ => none }
def FnExactFewestBeadsWrongFalsely : Prop := fnExactFewestBeadsRow.holds Try.pinned (OpenSpec.ofChange fnExactFewestBeadsWrong)

/-- 'laws.FnExactFewestMoves': WHATEVER THE INPUT: true; the input reads as it did. -/
def fnExactFewestMovesSpec : ChangeSpec := { name := "fnExactFewestMoves", fn := fun _ => fun
  | [d1, d2] => { results := [.lit (.bool true)], args := [d1, d2] }
  | _ => none }
def fnExactFewestMovesRow : OpenClaim := { program := "ytkgbcjiinicffaa", sum := "937bbfcd35c3a4ab955f8f4d737d35e0d8cc5ffe48afcdf62e11cd861a4f7db9", func := "loop.example/g01006/laws.FnExactFewestMoves", spec := "fnExactFewestMoves", unfollowed := true, recurses := true, apart := false }
def FnExactFewestMovesSaid : Prop := fnExactFewestMovesRow.holds Try.pinned (OpenSpec.ofChange fnExactFewestMovesSpec)

/-- ITS FALSE NEIGHBOUR: 'it returns false'. Refute it at one input. -/
def fnExactFewestMovesWrong : ChangeSpec := { name := "fnExactFewestMoves", fn := fun _ => fun
  | [d1, d2] => { results := [.lit (.bool false)], args := [d1, d2] }
  | _ => none }
def FnExactFewestMovesWrongFalsely : Prop := fnExactFewestMovesRow.holds Try.pinned (OpenSpec.ofChange fnExactFewestMovesWrong)

/-- 'laws.FnExactNearestTarget': WHATEVER THE INPUT: true; the input reads as it did. -/
def fnExactNearestTargetSpec : ChangeSpec := { name := "fnExactNearestTarget", fn := fun _ => fun
  | [d1, d2] => { results := [.lit (.bool true)], args := [d1, d2] }
  | _ => none }
def fnExactNearestTargetRow : OpenClaim := { program := "ytkgbcjiinicffaa", sum := "937bbfcd35c3a4ab955f8f4d737d35e0d8cc5ffe48afcdf62e11cd861a4f7db9", func := "loop.example/g01006/laws.FnExactNearestTarget", spec := "fnExactNearestTarget", unfollowed := true, recurses := true, apart := false }
def FnExactNearestTargetSaid : Prop := fnExactNearestTargetRow.holds Try.pinned (OpenSpec.ofChange fnExactNearestTargetSpec)

/-- ITS FALSE NEIGHBOUR: 'it returns false'. Refute it at one input. -/
def fnExactNearestTargetWrong : ChangeSpec := { name := "fnExactNearestTarget", fn := fun _ => fun
  | [d1, d2] => { results := [.lit (.bool false)], args := [d1, d2] }
  | _ => none }
def FnExactNearestTargetWrongFalsely : Prop := fnExactNearestTargetRow.holds Try.pinned (OpenSpec.ofChange fnExactNearestTargetWrong)

/-- 'laws.FnExactMovesTo': WHATEVER THE INPUT: true; the input reads as it did. -/
def fnExactMovesToSpec : ChangeSpec := { name := "fnExactMovesTo", fn := fun _ => fun
  | [d1, d2] => { results := [.lit (.bool true)], args := [d1, d2] }
  | _ => none }
def fnExactMovesToRow : OpenClaim := { program := "ytkgbcjiinicffaa", sum := "937bbfcd35c3a4ab955f8f4d737d35e0d8cc5ffe48afcdf62e11cd861a4f7db9", func := "loop.example/g01006/laws.FnExactMovesTo", spec := "fnExactMovesTo", unfollowed := true, recurses := true, apart := false }
def FnExactMovesToSaid : Prop := fnExactMovesToRow.holds Try.pinned (OpenSpec.ofChange fnExactMovesToSpec)

/-- ITS FALSE NEIGHBOUR: 'it returns false'. Refute it at one input. -/
def fnExactMovesToWrong : ChangeSpec := { name := "fnExactMovesTo", fn := fun _ => fun
  | [d1, d2] => { results := [.lit (.bool false)], args := [d1, d2] }
  | _ => none }
def FnExactMovesToWrongFalsely : Prop := fnExactMovesToRow.holds Try.pinned (OpenSpec.ofChange fnExactMovesToWrong)

/- THE SECOND FORM. 'bulk': how many values and letters a reading holds, each counted each time it is reached (what is shared counts as often as it is met; a slice's spare places count too). A statement '..UptoSaid' is the law's where the arguments, and the package variables that the reading takes, are together of bulk at most 1048576: NARROWER than '..Said'. Prove '..Said' where nothing that the law and all that it calls make is longer than what came in: it says more and counts as full. Else prove '..UptoSaid'. A law counts once. -/
mutual
def uptoBulk {H : Type} : DataW H → Nat
  | .lit (.string bytes) => bytes.length + 1
  | .lit _ => 1
  | .nil => 1
  | .ptr d => uptoBulk d + 1
  | .slice elems spare => uptoBulkAll elems + uptoBulkAll spare + 1
  | .agg parts => uptoBulkAll parts + 1
  | .iface _ d => uptoBulk d + 1
  | .map entries => uptoBulkEntries entries + 1
  | .held _ => 1
def uptoBulkAll {H : Type} : List (DataW H) → Nat
  | [] => 0
  | d :: r => uptoBulk d + uptoBulkAll r
def uptoBulkEntries {H : Type} : List (Lit × DataW H) → Nat
  | [] => 0
  | x :: r => uptoBulkEntry x + uptoBulkEntries r
def uptoBulkEntry {H : Type} : Lit × DataW H → Nat
  | (.string bytes, d) => bytes.length + uptoBulk d + 1
  | (_, d) => uptoBulk d + 1
 end
def uptoSmall : (H : Type) → List (DataW H) → Bool := fun _ ds => decide (uptoBulkAll ds ≤ 1048576)
def OpenSpec.upto (s : _root_.Go.ChangeSpec) : _root_.Go.OpenSpec := { _root_.Go.OpenSpec.ofChange s with cond := some uptoSmall }

/-- 'laws.FnExactFormsOf', WHERE WHAT IT READS IS OF BULK AT MOST 1048576: true; the input reads as it did. -/
def fnExactFormsOfUptoRow : OpenClaim := { program := "ytkgbcjiinicffaa", sum := "937bbfcd35c3a4ab955f8f4d737d35e0d8cc5ffe48afcdf62e11cd861a4f7db9", func := "loop.example/g01006/laws.FnExactFormsOf", spec := "fnExactFormsOf", apart := false, narrowed := true }
def FnExactFormsOfUptoSaid : Prop := fnExactFormsOfUptoRow.holds Try.pinned (OpenSpec.upto fnExactFormsOfSpec)

/-- 'laws.FnExactTargetCount', WHERE WHAT IT READS IS OF BULK AT MOST 1048576: true; the input reads as it did. -/
def fnExactTargetCountUptoRow : OpenClaim := { program := "ytkgbcjiinicffaa", sum := "937bbfcd35c3a4ab955f8f4d737d35e0d8cc5ffe48afcdf62e11cd861a4f7db9", func := "loop.example/g01006/laws.FnExactTargetCount", spec := "fnExactTargetCount", recurses := true, apart := false, narrowed := true }
def FnExactTargetCountUptoSaid : Prop := fnExactTargetCountUptoRow.holds Try.pinned (OpenSpec.upto fnExactTargetCountSpec)

/-- 'laws.FnExactFewestBeads', WHERE WHAT IT READS IS OF BULK AT MOST 1048576: true; the input reads as it did. -/
def fnExactFewestBeadsUptoRow : OpenClaim := { program := "ytkgbcjiinicffaa", sum := "937bbfcd35c3a4ab955f8f4d737d35e0d8cc5ffe48afcdf62e11cd861a4f7db9", func := "loop.example/g01006/laws.FnExactFewestBeads", spec := "fnExactFewestBeads", unfollowed := true, recurses := true, apart := false, narrowed := true }
def FnExactFewestBeadsUptoSaid : Prop := fnExactFewestBeadsUptoRow.holds Try.pinned (OpenSpec.upto fnExactFewestBeadsSpec)

/-- 'laws.FnExactFewestMoves', WHERE WHAT IT READS IS OF BULK AT MOST 1048576: true; the input reads as it did. -/
def fnExactFewestMovesUptoRow : OpenClaim := { program := "ytkgbcjiinicffaa", sum := "937bbfcd35c3a4ab955f8f4d737d35e0d8cc5ffe48afcdf62e11cd861a4f7db9", func := "loop.example/g01006/laws.FnExactFewestMoves", spec := "fnExactFewestMoves", unfollowed := true, recurses := true, apart := false, narrowed := true }
def FnExactFewestMovesUptoSaid : Prop := fnExactFewestMovesUptoRow.holds Try.pinned (OpenSpec.upto fnExactFewestMovesSpec)

/-- 'laws.FnExactNearestTarget', WHERE WHAT IT READS IS OF BULK AT MOST 1048576: true; the input reads as it did. -/
def fnExactNearestTargetUptoRow : OpenClaim := { program := "ytkgbcjiinicffaa", sum := "937bbfcd35c3a4ab955f8f4d737d35e0d8cc5ffe48afcdf62e11cd861a4f7db9", func := "loop.example/g01006/laws.FnExactNearestTarget", spec := "fnExactNearestTarget", unfollowed := true, recurses := true, apart := false, narrowed := true }
def FnExactNearestTargetUptoSaid : Prop := fnExactNearestTargetUptoRow.holds Try.pinned (OpenSpec.upto fnExactNearestTargetSpec)

/-- 'laws.FnExactMovesTo', WHERE WHAT IT READS IS OF BULK AT MOST 1048576: true; the input reads as it did. -/
def fnExactMovesToUptoRow : OpenClaim := { program := "ytkgbcjiinicffaa", sum := "937bbfcd35c3a4ab955f8f4d737d35e0d8cc5ffe48afcdf62e11cd861a4f7db9", func := "loop.example/g01006/laws.FnExactMovesTo", spec := "fnExactMovesTo", unfollowed := true, recurses := true, apart := false, narrowed := true }
def FnExactMovesToUptoSaid : Prop := fnExactMovesToUptoRow.holds Try.pinned (OpenSpec.upto fnExactMovesToSpec)

end Rows
end Go.Proofs.Ytkgbcjiinicffaa
