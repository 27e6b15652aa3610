/-
  No cell of these rows narrows 'for every input' (looked for: loops, veiled, ifaces, maps, wideKeys, modest, calm, conditions, laid).
  DERIVED. THE GIVEN ROWS OF THIS SEAT. 12 by the template 'for every input the law returns true; each argument reads behind the call as it read before'; 0 by the template 'total and deterministic' (their statements: YtbjmpllnkkfgfaaTotals.lean).
  GIVEN WITH THE SEED: the statements are not yours to turn. If you find one false, say at which input.
  Laid BY PROGRAM, IN A SANDBOX (cutbox-rows.mjs): the forced cells as the released guide's own fill.sh prints them over the translation 9ba6731311ef8adf… (all of the seat's roots in one cut). By AI agents, Wed Nov 11 2026. No macro, syntax, notation, axiom, sorry.
-/
import Derived.Test.YtbjmpllnkkfgfaaChecked
import GoSem.Claim
import GoSem.ClaimJoined
import GoSem.ClaimMapViews
import Derived.JoinedTies
import Derived.KernelRfl
namespace Go.Proofs.Ytbjmpllnkkfgfaa
/- THE CELL 'sum', in the pinned program and in every row, IS THE sha256 OF THE DUMP (.gsa) THAT YtbjmpllnkkfgfaaProg.lean LOADS. Nothing in Lean hashes anything: it is a label: what it is worth is what the hold of that sum in a sandbox is worth. -/
noncomputable def Try.pinned : Pinned := { name := "ytbjmpllnkkfgfaa", sum := "9ba6731311ef8adf60a5fc7024c3029ccda86d42086b4eb0b658d6a9c6d6908e", checked := Try.checked }
namespace Rows
def none {H : Type} : Left H := { results := [], args := [] }

/-- 'laws.FnExactIsAccount': WHATEVER THE INPUT: true; the input reads as it did. -/
def fnExactIsAccountSpec : ChangeSpec := { name := "fnExactIsAccount", fn := fun _ => fun
  | [d] => { results := [.lit (.bool true)], args := [d] }
  | _ => none }
def fnExactIsAccountRow : OpenClaim := { program := "ytbjmpllnkkfgfaa", sum := "9ba6731311ef8adf60a5fc7024c3029ccda86d42086b4eb0b658d6a9c6d6908e", func := "loop.example/g01006/laws.FnExactIsAccount", spec := "fnExactIsAccount", apart := false }
def FnExactIsAccountSaid : Prop := fnExactIsAccountRow.holds Try.pinned (OpenSpec.ofChange fnExactIsAccountSpec)

/-- ITS FALSE NEIGHBOUR: 'it returns false'. Refute it at one input. -/
def fnExactIsAccountWrong : ChangeSpec := { name := "fnExactIsAccount", fn := fun _ => fun
  | [d] => { results := [.lit (.bool false)], args := [d] }
  | _ => none }
def FnExactIsAccountWrongFalsely : Prop := fnExactIsAccountRow.holds Try.pinned (OpenSpec.ofChange fnExactIsAccountWrong)

/-- 'laws.FnExactFeeOf': WHATEVER THE INPUT: true; the input reads as it did. -/
def fnExactFeeOfSpec : ChangeSpec := { name := "fnExactFeeOf", fn := fun _ => fun
  | [d1, d2] => { results := [.lit (.bool true)], args := [d1, d2] }
  | _ => none }
def fnExactFeeOfRow : OpenClaim := { program := "ytbjmpllnkkfgfaa", sum := "9ba6731311ef8adf60a5fc7024c3029ccda86d42086b4eb0b658d6a9c6d6908e", func := "loop.example/g01006/laws.FnExactFeeOf", spec := "fnExactFeeOf", apart := false }
def FnExactFeeOfSaid : Prop := fnExactFeeOfRow.holds Try.pinned (OpenSpec.ofChange fnExactFeeOfSpec)

/-- ITS FALSE NEIGHBOUR: 'it returns false'. Refute it at one input. -/
def fnExactFeeOfWrong : ChangeSpec := { name := "fnExactFeeOf", fn := fun _ => fun
  | [d1, d2] => { results := [.lit (.bool false)], args := [d1, d2] }
  | _ => none }
def FnExactFeeOfWrongFalsely : Prop := fnExactFeeOfRow.holds Try.pinned (OpenSpec.ofChange fnExactFeeOfWrong)

/-- 'laws.FnExactAreAccounts': WHATEVER THE INPUT: true; the input reads as it did. -/
def fnExactAreAccountsSpec : ChangeSpec := { name := "fnExactAreAccounts", fn := fun _ => fun
  | [d] => { results := [.lit (.bool true)], args := [d] }
  | _ => none }
def fnExactAreAccountsRow : OpenClaim := { program := "ytbjmpllnkkfgfaa", sum := "9ba6731311ef8adf60a5fc7024c3029ccda86d42086b4eb0b658d6a9c6d6908e", func := "loop.example/g01006/laws.FnExactAreAccounts", spec := "fnExactAreAccounts", apart := false }
def FnExactAreAccountsSaid : Prop := fnExactAreAccountsRow.holds Try.pinned (OpenSpec.ofChange fnExactAreAccountsSpec)

/-- ITS FALSE NEIGHBOUR: 'it returns false'. Refute it at one input. -/
def fnExactAreAccountsWrong : ChangeSpec := { name := "fnExactAreAccounts", fn := fun _ => fun
  | [d] => { results := [.lit (.bool false)], args := [d] }
  | _ => none }
def FnExactAreAccountsWrongFalsely : Prop := fnExactAreAccountsRow.holds Try.pinned (OpenSpec.ofChange fnExactAreAccountsWrong)

/-- 'laws.FnExactFeeText': WHATEVER THE INPUT: true; the input reads as it did. -/
def fnExactFeeTextSpec : ChangeSpec := { name := "fnExactFeeText", fn := fun _ => fun
  | [d1, d2] => { results := [.lit (.bool true)], args := [d1, d2] }
  | _ => none }
def fnExactFeeTextRow : OpenClaim := { program := "ytbjmpllnkkfgfaa", sum := "9ba6731311ef8adf60a5fc7024c3029ccda86d42086b4eb0b658d6a9c6d6908e", func := "loop.example/g01006/laws.FnExactFeeText", spec := "fnExactFeeText", recurses := true, apart := false }
def FnExactFeeTextSaid : Prop := fnExactFeeTextRow.holds Try.pinned (OpenSpec.ofChange fnExactFeeTextSpec)

/-- ITS FALSE NEIGHBOUR: 'it returns false'. Refute it at one input. -/
def fnExactFeeTextWrong : ChangeSpec := { name := "fnExactFeeText", fn := fun _ => fun
  | [d1, d2] => { results := [.lit (.bool false)], args := [d1, d2] }
  | _ => none }
def FnExactFeeTextWrongFalsely : Prop := fnExactFeeTextRow.holds Try.pinned (OpenSpec.ofChange fnExactFeeTextWrong)

/-- 'laws.FnExactPriceFor': WHATEVER THE INPUT: true; the input reads as it did. -/
def fnExactPriceForSpec : ChangeSpec := { name := "fnExactPriceFor", fn := fun _ => fun
  | [d1, d2] => { results := [.lit (.bool true)], args := [d1, d2] }
  | _ => none }
def fnExactPriceForRow : OpenClaim := { program := "ytbjmpllnkkfgfaa", sum := "9ba6731311ef8adf60a5fc7024c3029ccda86d42086b4eb0b658d6a9c6d6908e", func := "loop.example/g01006/laws.FnExactPriceFor", spec := "fnExactPriceFor", apart := false }
def FnExactPriceForSaid : Prop := fnExactPriceForRow.holds Try.pinned (OpenSpec.ofChange fnExactPriceForSpec)

/-- ITS FALSE NEIGHBOUR: 'it returns false'. Refute it at one input. -/
def fnExactPriceForWrong : ChangeSpec := { name := "fnExactPriceFor", fn := fun _ => fun
  | [d1, d2] => { results := [.lit (.bool false)], args := [d1, d2] }
  | _ => none }
def FnExactPriceForWrongFalsely : Prop := fnExactPriceForRow.holds Try.pinned (OpenSpec.ofChange fnExactPriceForWrong)

/-- 'laws.FnExactBalanceOf': WHATEVER THE INPUT: true; the input reads as it did. -/
def fnExactBalanceOfSpec : ChangeSpec := { name := "fnExactBalanceOf", fn := fun _ => fun
  | [d1, d2, d3] => { results := [.lit (.bool true)], args := [d1, d2, d3] }
  | _ => none }
def fnExactBalanceOfRow : OpenClaim := { program := "ytbjmpllnkkfgfaa", sum := "9ba6731311ef8adf60a5fc7024c3029ccda86d42086b4eb0b658d6a9c6d6908e", func := "loop.example/g01006/laws.FnExactBalanceOf", spec := "fnExactBalanceOf", apart := false }
def FnExactBalanceOfSaid : Prop := fnExactBalanceOfRow.holds Try.pinned (OpenSpec.ofChange fnExactBalanceOfSpec)

/-- ITS FALSE NEIGHBOUR: 'it returns false'. Refute it at one input. -/
def fnExactBalanceOfWrong : ChangeSpec := { name := "fnExactBalanceOf", fn := fun _ => fun
  | [d1, d2, d3] => { results := [.lit (.bool false)], args := [d1, d2, d3] }
  | _ => none }
def FnExactBalanceOfWrongFalsely : Prop := fnExactBalanceOfRow.holds Try.pinned (OpenSpec.ofChange fnExactBalanceOfWrong)

/-- 'laws.FnExactLastPaidUp': WHATEVER THE INPUT: true; the input reads as it did. -/
def fnExactLastPaidUpSpec : ChangeSpec := { name := "fnExactLastPaidUp", fn := fun _ => fun
  | [d1, d2, d3] => { results := [.lit (.bool true)], args := [d1, d2, d3] }
  | _ => none }
def fnExactLastPaidUpRow : OpenClaim := { program := "ytbjmpllnkkfgfaa", sum := "9ba6731311ef8adf60a5fc7024c3029ccda86d42086b4eb0b658d6a9c6d6908e", func := "loop.example/g01006/laws.FnExactLastPaidUp", spec := "fnExactLastPaidUp", apart := false }
def FnExactLastPaidUpSaid : Prop := fnExactLastPaidUpRow.holds Try.pinned (OpenSpec.ofChange fnExactLastPaidUpSpec)

/-- ITS FALSE NEIGHBOUR: 'it returns false'. Refute it at one input. -/
def fnExactLastPaidUpWrong : ChangeSpec := { name := "fnExactLastPaidUp", fn := fun _ => fun
  | [d1, d2, d3] => { results := [.lit (.bool false)], args := [d1, d2, d3] }
  | _ => none }
def FnExactLastPaidUpWrongFalsely : Prop := fnExactLastPaidUpRow.holds Try.pinned (OpenSpec.ofChange fnExactLastPaidUpWrong)

/-- 'laws.FnExactBookLesson': WHATEVER THE INPUT: true; the input reads as it did. -/
def fnExactBookLessonSpec : ChangeSpec := { name := "fnExactBookLesson", fn := fun _ => fun
  | [d1, d2, d3] => { results := [.lit (.bool true)], args := [d1, d2, d3] }
  | _ => none }
def fnExactBookLessonRow : OpenClaim := { program := "ytbjmpllnkkfgfaa", sum := "9ba6731311ef8adf60a5fc7024c3029ccda86d42086b4eb0b658d6a9c6d6908e", func := "loop.example/g01006/laws.FnExactBookLesson", spec := "fnExactBookLesson", apart := false }
def FnExactBookLessonSaid : Prop := fnExactBookLessonRow.holds Try.pinned (OpenSpec.ofChange fnExactBookLessonSpec)

/-- ITS FALSE NEIGHBOUR: 'it returns false'. Refute it at one input. -/
def fnExactBookLessonWrong : ChangeSpec := { name := "fnExactBookLesson", fn := fun _ => fun
  | [d1, d2, d3] => { results := [.lit (.bool false)], args := [d1, d2, d3] }
  | _ => none }
def FnExactBookLessonWrongFalsely : Prop := fnExactBookLessonRow.holds Try.pinned (OpenSpec.ofChange fnExactBookLessonWrong)

/-- 'laws.FnExactDebtors': WHATEVER THE INPUT: true; the input reads as it did. -/
def fnExactDebtorsSpec : ChangeSpec := { name := "fnExactDebtors", fn := fun _ => fun
  | [d1, d2] => { results := [.lit (.bool true)], args := [d1, d2] }
  | _ => none }
def fnExactDebtorsRow : OpenClaim := { program := "ytbjmpllnkkfgfaa", sum := "9ba6731311ef8adf60a5fc7024c3029ccda86d42086b4eb0b658d6a9c6d6908e", func := "loop.example/g01006/laws.FnExactDebtors", spec := "fnExactDebtors", apart := false }
def FnExactDebtorsSaid : Prop := fnExactDebtorsRow.holds Try.pinned (OpenSpec.ofChange fnExactDebtorsSpec)

/-- ITS FALSE NEIGHBOUR: 'it returns false'. Refute it at one input. -/
def fnExactDebtorsWrong : ChangeSpec := { name := "fnExactDebtors", fn := fun _ => fun
  | [d1, d2] => { results := [.lit (.bool false)], args := [d1, d2] }
  | _ => none }
def FnExactDebtorsWrongFalsely : Prop := fnExactDebtorsRow.holds Try.pinned (OpenSpec.ofChange fnExactDebtorsWrong)

/-- 'laws.FnExactMonthSums': WHATEVER THE INPUT: true; the input reads as it did. -/
def fnExactMonthSumsSpec : ChangeSpec := { name := "fnExactMonthSums", fn := fun _ => fun
  | [d1, d2] => { results := [.lit (.bool true)], args := [d1, d2] }
  | _ => none }
def fnExactMonthSumsRow : OpenClaim := { program := "ytbjmpllnkkfgfaa", sum := "9ba6731311ef8adf60a5fc7024c3029ccda86d42086b4eb0b658d6a9c6d6908e", func := "loop.example/g01006/laws.FnExactMonthSums", spec := "fnExactMonthSums", apart := false }
def FnExactMonthSumsSaid : Prop := fnExactMonthSumsRow.holds Try.pinned (OpenSpec.ofChange fnExactMonthSumsSpec)

/-- ITS FALSE NEIGHBOUR: 'it returns false'. Refute it at one input. -/
def fnExactMonthSumsWrong : ChangeSpec := { name := "fnExactMonthSums", fn := fun _ => fun
  | [d1, d2] => { results := [.lit (.bool false)], args := [d1, d2] }
  | _ => none }
def FnExactMonthSumsWrongFalsely : Prop := fnExactMonthSumsRow.holds Try.pinned (OpenSpec.ofChange fnExactMonthSumsWrong)

/-- 'laws.FnDebts': WHATEVER THE INPUT: true; the input reads as it did. -/
def fnDebtsSpec : ChangeSpec := { name := "fnDebts", fn := fun _ => fun
  | [d] => { results := [.lit (.bool true)], args := [d] }
  | _ => none }
def fnDebtsRow : OpenClaim := { program := "ytbjmpllnkkfgfaa", sum := "9ba6731311ef8adf60a5fc7024c3029ccda86d42086b4eb0b658d6a9c6d6908e", func := "loop.example/g01006/laws.FnDebts", spec := "fnDebts", apart := false }
def FnDebtsSaid : Prop := fnDebtsRow.holds Try.pinned (OpenSpec.ofChange fnDebtsSpec)

/-- ITS FALSE NEIGHBOUR: 'it returns false'. Refute it at one input. -/
def fnDebtsWrong : ChangeSpec := { name := "fnDebts", fn := fun _ => fun
  | [d] => { results := [.lit (.bool false)], args := [d] }
  | _ => none }
def FnDebtsWrongFalsely : Prop := fnDebtsRow.holds Try.pinned (OpenSpec.ofChange fnDebtsWrong)

/-- 'laws.FnFees': WHATEVER THE INPUT: true; the input reads as it did. -/
def fnFeesSpec : ChangeSpec := { name := "fnFees", fn := fun _ => fun
  | [d] => { results := [.lit (.bool true)], args := [d] }
  | _ => none }
def fnFeesRow : OpenClaim := { program := "ytbjmpllnkkfgfaa", sum := "9ba6731311ef8adf60a5fc7024c3029ccda86d42086b4eb0b658d6a9c6d6908e", func := "loop.example/g01006/laws.FnFees", spec := "fnFees", recurses := true, apart := false }
def FnFeesSaid : Prop := fnFeesRow.holds Try.pinned (OpenSpec.ofChange fnFeesSpec)

/-- ITS FALSE NEIGHBOUR: 'it returns false'. Refute it at one input. -/
def fnFeesWrong : ChangeSpec := { name := "fnFees", fn := fun _ => fun
  | [d] => { results := [.lit (.bool false)], args := [d] }
  | _ => none }
def FnFeesWrongFalsely : Prop := fnFeesRow.holds Try.pinned (OpenSpec.ofChange fnFeesWrong)

/- THE SECOND FORM. 'bulk': how many values and letters a reading holds, each counted each time it is reached (what is shared counts as often as it is met; a slice's spare places count too). A statement '..UptoSaid' is the law's where the arguments, and the package variables that the reading takes, are together of bulk at most 1048576: NARROWER than '..Said'. Prove '..Said' where nothing that the law and all that it calls make is longer than what came in: it says more and counts as full. Else prove '..UptoSaid'. A law counts once. -/
mutual
def uptoBulk {H : Type} : DataW H → Nat
  | .lit (.string bytes) => bytes.length + 1
  | .lit _ => 1
  | .nil => 1
  | .ptr d => uptoBulk d + 1
  | .slice elems spare => uptoBulkAll elems + uptoBulkAll spare + 1
  | .agg parts => uptoBulkAll parts + 1
  | .iface _ d => uptoBulk d + 1
  | .map entries => uptoBulkEntries entries + 1
  | .held _ => 1
def uptoBulkAll {H : Type} : List (DataW H) → Nat
  | [] => 0
  | d :: r => uptoBulk d + uptoBulkAll r
def uptoBulkEntries {H : Type} : List (Lit × DataW H) → Nat
  | [] => 0
  | x :: r => uptoBulkEntry x + uptoBulkEntries r
def uptoBulkEntry {H : Type} : Lit × DataW H → Nat
  | (.string bytes, d) => bytes.length + uptoBulk d + 1
  | (_, d) => uptoBulk d + 1
 end
def uptoSmall : (H : Type) → List (DataW H) → Bool := fun _ ds => decide (uptoBulkAll ds ≤ 1048576)
def OpenSpec.upto (s : _root_.Go.ChangeSpec) : _root_.Go.OpenSpec := { _root_.Go.OpenSpec.ofChange s with cond := some uptoSmall }

/-- 'laws.FnExactIsAccount', WHERE WHAT IT READS IS OF BULK AT MOST 1048576: true; the input reads as it did. -/
def fnExactIsAccountUptoRow : OpenClaim := { program := "ytbjmpllnkkfgfaa", sum := "9ba6731311ef8adf60a5fc7024c3029ccda86d42086b4eb0b658d6a9c6d6908e", func := "loop.example/g01006/laws.FnExactIsAccount", spec := "fnExactIsAccount", apart := false, narrowed := true }
def FnExactIsAccountUptoSaid : Prop := fnExactIsAccountUptoRow.holds Try.pinned (OpenSpec.upto fnExactIsAccountSpec)

/-- 'laws.FnExactFeeOf', WHERE WHAT IT READS IS OF BULK AT MOST 1048576: true; the input reads as it did. -/
def fnExactFeeOfUptoRow : OpenClaim := { program := "ytbjmpllnkkfgfaa", sum := "9ba6731311ef8adf60a5fc7024c3029ccda86d42086b4eb0b658d6a9c6d6908e", func := "loop.example/g01006/laws.FnExactFeeOf", spec := "fnExactFeeOf", apart := false, narrowed := true }
def FnExactFeeOfUptoSaid : Prop := fnExactFeeOfUptoRow.holds Try.pinned (OpenSpec.upto fnExactFeeOfSpec)

/-- 'laws.FnExactAreAccounts', WHERE WHAT IT READS IS OF BULK AT MOST 1048576: true; the input reads as it did. -/
def fnExactAreAccountsUptoRow : OpenClaim := { program := "ytbjmpllnkkfgfaa", sum := "9ba6731311ef8adf60a5fc7024c3029ccda86d42086b4eb0b658d6a9c6d6908e", func := "loop.example/g01006/laws.FnExactAreAccounts", spec := "fnExactAreAccounts", apart := false, narrowed := true }
def FnExactAreAccountsUptoSaid : Prop := fnExactAreAccountsUptoRow.holds Try.pinned (OpenSpec.upto fnExactAreAccountsSpec)

/-- 'laws.FnExactFeeText', WHERE WHAT IT READS IS OF BULK AT MOST 1048576: true; the input reads as it did. -/
def fnExactFeeTextUptoRow : OpenClaim := { program := "ytbjmpllnkkfgfaa", sum := "9ba6731311ef8adf60a5fc7024c3029ccda86d42086b4eb0b658d6a9c6d6908e", func := "loop.example/g01006/laws.FnExactFeeText", spec := "fnExactFeeText", recurses := true, apart := false, narrowed := true }
def FnExactFeeTextUptoSaid : Prop := fnExactFeeTextUptoRow.holds Try.pinned (OpenSpec.upto fnExactFeeTextSpec)

/-- 'laws.FnExactPriceFor', WHERE WHAT IT READS IS OF BULK AT MOST 1048576: true; the input reads as it did. -/
def fnExactPriceForUptoRow : OpenClaim := { program := "ytbjmpllnkkfgfaa", sum := "9ba6731311ef8adf60a5fc7024c3029ccda86d42086b4eb0b658d6a9c6d6908e", func := "loop.example/g01006/laws.FnExactPriceFor", spec := "fnExactPriceFor", apart := false, narrowed := true }
def FnExactPriceForUptoSaid : Prop := fnExactPriceForUptoRow.holds Try.pinned (OpenSpec.upto fnExactPriceForSpec)

/-- 'laws.FnExactBalanceOf', WHERE WHAT IT READS IS OF BULK AT MOST 1048576: true; the input reads as it did. -/
def fnExactBalanceOfUptoRow : OpenClaim := { program := "ytbjmpllnkkfgfaa", sum := "9ba6731311ef8adf60a5fc7024c3029ccda86d42086b4eb0b658d6a9c6d6908e", func := "loop.example/g01006/laws.FnExactBalanceOf", spec := "fnExactBalanceOf", apart := false, narrowed := true }
def FnExactBalanceOfUptoSaid : Prop := fnExactBalanceOfUptoRow.holds Try.pinned (OpenSpec.upto fnExactBalanceOfSpec)

/-- 'laws.FnExactLastPaidUp', WHERE WHAT IT READS IS OF BULK AT MOST 1048576: true; the input reads as it did. -/
def fnExactLastPaidUpUptoRow : OpenClaim := { program := "ytbjmpllnkkfgfaa", sum := "9ba6731311ef8adf60a5fc7024c3029ccda86d42086b4eb0b658d6a9c6d6908e", func := "loop.example/g01006/laws.FnExactLastPaidUp", spec := "fnExactLastPaidUp", apart := false, narrowed := true }
def FnExactLastPaidUpUptoSaid : Prop := fnExactLastPaidUpUptoRow.holds Try.pinned (OpenSpec.upto fnExactLastPaidUpSpec)

/-- 'laws.FnExactBookLesson', WHERE WHAT IT READS IS OF BULK AT MOST 1048576: true; the input reads as it did. -/
def fnExactBookLessonUptoRow : OpenClaim := { program := "ytbjmpllnkkfgfaa", sum := "9ba6731311ef8adf60a5fc7024c3029ccda86d42086b4eb0b658d6a9c6d6908e", func := "loop.example/g01006/laws.FnExactBookLesson", spec := "fnExactBookLesson", apart := false, narrowed := true }
def FnExactBookLessonUptoSaid : Prop := fnExactBookLessonUptoRow.holds Try.pinned (OpenSpec.upto fnExactBookLessonSpec)

/-- 'laws.FnExactDebtors', WHERE WHAT IT READS IS OF BULK AT MOST 1048576: true; the input reads as it did. -/
def fnExactDebtorsUptoRow : OpenClaim := { program := "ytbjmpllnkkfgfaa", sum := "9ba6731311ef8adf60a5fc7024c3029ccda86d42086b4eb0b658d6a9c6d6908e", func := "loop.example/g01006/laws.FnExactDebtors", spec := "fnExactDebtors", apart := false, narrowed := true }
def FnExactDebtorsUptoSaid : Prop := fnExactDebtorsUptoRow.holds Try.pinned (OpenSpec.upto fnExactDebtorsSpec)

/-- 'laws.FnExactMonthSums', WHERE WHAT IT READS IS OF BULK AT MOST 1048576: true; the input reads as it did. -/
def fnExactMonthSumsUptoRow : OpenClaim := { program := "ytbjmpllnkkfgfaa", sum := "9ba6731311ef8adf60a5fc7024c3029ccda86d42086b4eb0b658d6a9c6d6908e", func := "loop.example/g01006/laws.FnExactMonthSums", spec := "fnExactMonthSums", apart := false, narrowed := true }
def FnExactMonthSumsUptoSaid : Prop := fnExactMonthSumsUptoRow.holds Try.pinned (OpenSpec.upto fnExactMonthSumsSpec)

/-- 'laws.FnDebts', WHERE WHAT IT READS IS OF BULK AT MOST 1048576: true; the input reads as it did. -/
def fnDebtsUptoRow : OpenClaim := { program := "ytbjmpllnkkfgfaa", sum := "9ba6731311ef8adf60a5fc7024c3029ccda86d42086b4eb0b658d6a9c6d6908e", func := "loop.example/g01006/laws.FnDebts", spec := "fnDebts", apart := false, narrowed := true }
def FnDebtsUptoSaid : Prop := fnDebtsUptoRow.holds Try.pinned (OpenSpec.upto fnDebtsSpec)

/-- 'laws.FnFees', WHERE WHAT IT READS IS OF BULK AT MOST 1048576: true; the input reads as it did. -/
def fnFeesUptoRow : OpenClaim := { program := "ytbjmpllnkkfgfaa", sum := "9ba6731311ef8adf60a5fc7024c3029ccda86d42086b4eb0b658d6a9c6d6908e", func := "loop.example/g01006/laws.FnFees", spec := "fnFees", recurses := true, apart := false, narrowed := true }
def FnFeesUptoSaid : Prop := fnFeesUptoRow.holds Try.pinned (OpenSpec.upto fnFeesSpec)

end Rows
end Go.Proofs.Ytbjmpllnkkfgfaa
