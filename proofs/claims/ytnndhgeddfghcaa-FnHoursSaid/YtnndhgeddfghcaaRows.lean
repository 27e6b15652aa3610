/-
  No cell of these rows narrows 'for every input' (looked for: loops, veiled, ifaces, maps, wideKeys, modest, calm, conditions, laid).
  DERIVED. THE GIVEN ROWS OF THIS SEAT. 12 by the template 'for every input the law returns true; each argument reads behind the call as it read before'; 0 by the template 'total and deterministic' (their statements: YtnndhgeddfghcaaTotals.lean).
  GIVEN WITH THE SEED: the statements are not yours to turn. If you find one false, say at which input.
  Laid BY PROGRAM, IN A SANDBOX (cutbox-rows.mjs): the forced cells as the released guide's own fill.sh prints them over the translation 324a18b896dfd53f… (all of the seat's roots in one cut). By AI agents, Wed Nov 11 2026. No macro, syntax, notation, axiom, sorry.
-/
import Derived.Test.YtnndhgeddfghcaaChecked
import GoSem.Claim
import GoSem.ClaimJoined
import GoSem.ClaimMapViews
import Derived.JoinedTies
import Derived.KernelRfl
namespace Go.Proofs.Ytnndhgeddfghcaa
/- THE CELL 'sum', in the pinned program and in every row, IS THE sha256 OF THE DUMP (.gsa) THAT YtnndhgeddfghcaaProg.lean LOADS. Nothing in Lean hashes anything: it is a label: what it is worth is what the hold of that sum in a sandbox is worth. -/
noncomputable def Try.pinned : Pinned := { name := "ytnndhgeddfghcaa", sum := "324a18b896dfd53f05fec397a5ce73dc00aeabb370e4e5ed31c532d538c3c867", checked := Try.checked }
namespace Rows
def none {H : Type} : Left H := { results := [], args := [] }

/-- 'laws.FnExactIsLesson': WHATEVER THE INPUT: true; the input reads as it did. -/
def fnExactIsLessonSpec : ChangeSpec := { name := "fnExactIsLesson", fn := fun _ => fun
  | [d] => { results := [.lit (.bool true)], args := [d] }
  | _ => none }
def fnExactIsLessonRow : OpenClaim := { program := "ytnndhgeddfghcaa", sum := "324a18b896dfd53f05fec397a5ce73dc00aeabb370e4e5ed31c532d538c3c867", func := "loop.example/g01006/laws.FnExactIsLesson", spec := "fnExactIsLesson", apart := false }
def FnExactIsLessonSaid : Prop := fnExactIsLessonRow.holds Try.pinned (OpenSpec.ofChange fnExactIsLessonSpec)

/-- ITS FALSE NEIGHBOUR: 'it returns false'. Refute it at one input. -/
def fnExactIsLessonWrong : ChangeSpec := { name := "fnExactIsLesson", fn := fun _ => fun
  | [d] => { results := [.lit (.bool false)], args := [d] }
  | _ => none }
def FnExactIsLessonWrongFalsely : Prop := fnExactIsLessonRow.holds Try.pinned (OpenSpec.ofChange fnExactIsLessonWrong)

/-- 'laws.FnExactLessonText': WHATEVER THE INPUT: true; the input reads as it did. -/
def fnExactLessonTextSpec : ChangeSpec := { name := "fnExactLessonText", fn := fun _ => fun
  | [d] => { results := [.lit (.bool true)], args := [d] }
  | _ => none }
def fnExactLessonTextRow : OpenClaim := { program := "ytnndhgeddfghcaa", sum := "324a18b896dfd53f05fec397a5ce73dc00aeabb370e4e5ed31c532d538c3c867", func := "loop.example/g01006/laws.FnExactLessonText", spec := "fnExactLessonText", recurses := true, apart := false }
def FnExactLessonTextSaid : Prop := fnExactLessonTextRow.holds Try.pinned (OpenSpec.ofChange fnExactLessonTextSpec)

/-- ITS FALSE NEIGHBOUR: 'it returns false'. Refute it at one input. -/
def fnExactLessonTextWrong : ChangeSpec := { name := "fnExactLessonText", fn := fun _ => fun
  | [d] => { results := [.lit (.bool false)], args := [d] }
  | _ => none }
def FnExactLessonTextWrongFalsely : Prop := fnExactLessonTextRow.holds Try.pinned (OpenSpec.ofChange fnExactLessonTextWrong)

/-- 'laws.FnExactAreLessons': WHATEVER THE INPUT: true; the input reads as it did. -/
def fnExactAreLessonsSpec : ChangeSpec := { name := "fnExactAreLessons", fn := fun _ => fun
  | [d] => { results := [.lit (.bool true)], args := [d] }
  | _ => none }
def fnExactAreLessonsRow : OpenClaim := { program := "ytnndhgeddfghcaa", sum := "324a18b896dfd53f05fec397a5ce73dc00aeabb370e4e5ed31c532d538c3c867", func := "loop.example/g01006/laws.FnExactAreLessons", spec := "fnExactAreLessons", apart := false }
def FnExactAreLessonsSaid : Prop := fnExactAreLessonsRow.holds Try.pinned (OpenSpec.ofChange fnExactAreLessonsSpec)

/-- ITS FALSE NEIGHBOUR: 'it returns false'. Refute it at one input. -/
def fnExactAreLessonsWrong : ChangeSpec := { name := "fnExactAreLessons", fn := fun _ => fun
  | [d] => { results := [.lit (.bool false)], args := [d] }
  | _ => none }
def FnExactAreLessonsWrongFalsely : Prop := fnExactAreLessonsRow.holds Try.pinned (OpenSpec.ofChange fnExactAreLessonsWrong)

/-- 'laws.FnExactLongestGap': WHATEVER THE INPUT: true; the input reads as it did. -/
def fnExactLongestGapSpec : ChangeSpec := { name := "fnExactLongestGap", fn := fun _ => fun
  | [d1, d2] => { results := [.lit (.bool true)], args := [d1, d2] }
  | _ => none }
def fnExactLongestGapRow : OpenClaim := { program := "ytnndhgeddfghcaa", sum := "324a18b896dfd53f05fec397a5ce73dc00aeabb370e4e5ed31c532d538c3c867", func := "loop.example/g01006/laws.FnExactLongestGap", spec := "fnExactLongestGap", apart := false }
def FnExactLongestGapSaid : Prop := fnExactLongestGapRow.holds Try.pinned (OpenSpec.ofChange fnExactLongestGapSpec)

/-- ITS FALSE NEIGHBOUR: 'it returns false'. Refute it at one input. -/
def fnExactLongestGapWrong : ChangeSpec := { name := "fnExactLongestGap", fn := fun _ => fun
  | [d1, d2] => { results := [.lit (.bool false)], args := [d1, d2] }
  | _ => none }
def FnExactLongestGapWrongFalsely : Prop := fnExactLongestGapRow.holds Try.pinned (OpenSpec.ofChange fnExactLongestGapWrong)

/-- 'laws.FnExactFirstSlot': WHATEVER THE INPUT: true; the input reads as it did. -/
def fnExactFirstSlotSpec : ChangeSpec := { name := "fnExactFirstSlot", fn := fun _ => fun
  | [d1, d2] => { results := [.lit (.bool true)], args := [d1, d2] }
  | _ => none }
def fnExactFirstSlotRow : OpenClaim := { program := "ytnndhgeddfghcaa", sum := "324a18b896dfd53f05fec397a5ce73dc00aeabb370e4e5ed31c532d538c3c867", func := "loop.example/g01006/laws.FnExactFirstSlot", spec := "fnExactFirstSlot", apart := false }
def FnExactFirstSlotSaid : Prop := fnExactFirstSlotRow.holds Try.pinned (OpenSpec.ofChange fnExactFirstSlotSpec)

/-- ITS FALSE NEIGHBOUR: 'it returns false'. Refute it at one input. -/
def fnExactFirstSlotWrong : ChangeSpec := { name := "fnExactFirstSlot", fn := fun _ => fun
  | [d1, d2] => { results := [.lit (.bool false)], args := [d1, d2] }
  | _ => none }
def FnExactFirstSlotWrongFalsely : Prop := fnExactFirstSlotRow.holds Try.pinned (OpenSpec.ofChange fnExactFirstSlotWrong)

/-- 'laws.FnExactFreeRooms': WHATEVER THE INPUT: true; the input reads as it did. -/
def fnExactFreeRoomsSpec : ChangeSpec := { name := "fnExactFreeRooms", fn := fun _ => fun
  | [d1, d2, d3, d4] => { results := [.lit (.bool true)], args := [d1, d2, d3, d4] }
  | _ => none }
def fnExactFreeRoomsRow : OpenClaim := { program := "ytnndhgeddfghcaa", sum := "324a18b896dfd53f05fec397a5ce73dc00aeabb370e4e5ed31c532d538c3c867", func := "loop.example/g01006/laws.FnExactFreeRooms", spec := "fnExactFreeRooms", apart := false }
def FnExactFreeRoomsSaid : Prop := fnExactFreeRoomsRow.holds Try.pinned (OpenSpec.ofChange fnExactFreeRoomsSpec)

/-- ITS FALSE NEIGHBOUR: 'it returns false'. Refute it at one input. -/
def fnExactFreeRoomsWrong : ChangeSpec := { name := "fnExactFreeRooms", fn := fun _ => fun
  | [d1, d2, d3, d4] => { results := [.lit (.bool false)], args := [d1, d2, d3, d4] }
  | _ => none }
def FnExactFreeRoomsWrongFalsely : Prop := fnExactFreeRoomsRow.holds Try.pinned (OpenSpec.ofChange fnExactFreeRoomsWrong)

/-- 'laws.FnExactDayOfClass': WHATEVER THE INPUT: true; the input reads as it did. -/
def fnExactDayOfClassSpec : ChangeSpec := { name := "fnExactDayOfClass", fn := fun _ => fun
  | [d1, d2, d3] => { results := [.lit (.bool true)], args := [d1, d2, d3] }
  | _ => none }
def fnExactDayOfClassRow : OpenClaim := { program := "ytnndhgeddfghcaa", sum := "324a18b896dfd53f05fec397a5ce73dc00aeabb370e4e5ed31c532d538c3c867", func := "loop.example/g01006/laws.FnExactDayOfClass", spec := "fnExactDayOfClass", apart := false }
def FnExactDayOfClassSaid : Prop := fnExactDayOfClassRow.holds Try.pinned (OpenSpec.ofChange fnExactDayOfClassSpec)

/-- ITS FALSE NEIGHBOUR: 'it returns false'. Refute it at one input. -/
def fnExactDayOfClassWrong : ChangeSpec := { name := "fnExactDayOfClass", fn := fun _ => fun
  | [d1, d2, d3] => { results := [.lit (.bool false)], args := [d1, d2, d3] }
  | _ => none }
def FnExactDayOfClassWrongFalsely : Prop := fnExactDayOfClassRow.holds Try.pinned (OpenSpec.ofChange fnExactDayOfClassWrong)

/-- 'laws.FnExactTeacherHours': WHATEVER THE INPUT: true; the input reads as it did. -/
def fnExactTeacherHoursSpec : ChangeSpec := { name := "fnExactTeacherHours", fn := fun _ => fun
  | [d] => { results := [.lit (.bool true)], args := [d] }
  | _ => none }
def fnExactTeacherHoursRow : OpenClaim := { program := "ytnndhgeddfghcaa", sum := "324a18b896dfd53f05fec397a5ce73dc00aeabb370e4e5ed31c532d538c3c867", func := "loop.example/g01006/laws.FnExactTeacherHours", spec := "fnExactTeacherHours", apart := false }
def FnExactTeacherHoursSaid : Prop := fnExactTeacherHoursRow.holds Try.pinned (OpenSpec.ofChange fnExactTeacherHoursSpec)

/-- ITS FALSE NEIGHBOUR: 'it returns false'. Refute it at one input. -/
def fnExactTeacherHoursWrong : ChangeSpec := { name := "fnExactTeacherHours", fn := fun _ => fun
  | [d] => { results := [.lit (.bool false)], args := [d] }
  | _ => none }
def FnExactTeacherHoursWrongFalsely : Prop := fnExactTeacherHoursRow.holds Try.pinned (OpenSpec.ofChange fnExactTeacherHoursWrong)

/-- 'laws.FnExactClashingPairs': WHATEVER THE INPUT: true; the input reads as it did. -/
def fnExactClashingPairsSpec : ChangeSpec := { name := "fnExactClashingPairs", fn := fun _ => fun
  | [d] => { results := [.lit (.bool true)], args := [d] }
  | _ => none }
def fnExactClashingPairsRow : OpenClaim := { program := "ytnndhgeddfghcaa", sum := "324a18b896dfd53f05fec397a5ce73dc00aeabb370e4e5ed31c532d538c3c867", func := "loop.example/g01006/laws.FnExactClashingPairs", spec := "fnExactClashingPairs", apart := false }
def FnExactClashingPairsSaid : Prop := fnExactClashingPairsRow.holds Try.pinned (OpenSpec.ofChange fnExactClashingPairsSpec)

/-- ITS FALSE NEIGHBOUR: 'it returns false'. Refute it at one input. -/
def fnExactClashingPairsWrong : ChangeSpec := { name := "fnExactClashingPairs", fn := fun _ => fun
  | [d] => { results := [.lit (.bool false)], args := [d] }
  | _ => none }
def FnExactClashingPairsWrongFalsely : Prop := fnExactClashingPairsRow.holds Try.pinned (OpenSpec.ofChange fnExactClashingPairsWrong)

/-- 'laws.FnExactShiftLesson': WHATEVER THE INPUT: true; the input reads as it did. -/
def fnExactShiftLessonSpec : ChangeSpec := { name := "fnExactShiftLesson", fn := fun _ => fun
  | [d1, d2, d3, d4] => { results := [.lit (.bool true)], args := [d1, d2, d3, d4] }
  | _ => none }
def fnExactShiftLessonRow : OpenClaim := { program := "ytnndhgeddfghcaa", sum := "324a18b896dfd53f05fec397a5ce73dc00aeabb370e4e5ed31c532d538c3c867", func := "loop.example/g01006/laws.FnExactShiftLesson", spec := "fnExactShiftLesson", apart := false }
def FnExactShiftLessonSaid : Prop := fnExactShiftLessonRow.holds Try.pinned (OpenSpec.ofChange fnExactShiftLessonSpec)

/-- ITS FALSE NEIGHBOUR: 'it returns false'. Refute it at one input. -/
def fnExactShiftLessonWrong : ChangeSpec := { name := "fnExactShiftLesson", fn := fun _ => fun
  | [d1, d2, d3, d4] => { results := [.lit (.bool false)], args := [d1, d2, d3, d4] }
  | _ => none }
def FnExactShiftLessonWrongFalsely : Prop := fnExactShiftLessonRow.holds Try.pinned (OpenSpec.ofChange fnExactShiftLessonWrong)

/-- 'laws.FnLessons': WHATEVER THE INPUT: true; the input reads as it did. -/
def fnLessonsSpec : ChangeSpec := { name := "fnLessons", fn := fun _ => fun
  | [d] => { results := [.lit (.bool true)], args := [d] }
  | _ => none }
def fnLessonsRow : OpenClaim := { program := "ytnndhgeddfghcaa", sum := "324a18b896dfd53f05fec397a5ce73dc00aeabb370e4e5ed31c532d538c3c867", func := "loop.example/g01006/laws.FnLessons", spec := "fnLessons", apart := false }
def FnLessonsSaid : Prop := fnLessonsRow.holds Try.pinned (OpenSpec.ofChange fnLessonsSpec)

/-- ITS FALSE NEIGHBOUR: 'it returns false'. Refute it at one input. -/
def fnLessonsWrong : ChangeSpec := { name := "fnLessons", fn := fun _ => fun
  | [d] => { results := [.lit (.bool false)], args := [d] }
  | _ => none }
def FnLessonsWrongFalsely : Prop := fnLessonsRow.holds Try.pinned (OpenSpec.ofChange fnLessonsWrong)

/-- 'laws.FnHours': WHATEVER THE INPUT: true; the input reads as it did. -/
def fnHoursSpec : ChangeSpec := { name := "fnHours", fn := fun _ => fun
  | [d] => { results := [.lit (.bool true)], args := [d] }
  | _ => none }
def fnHoursRow : OpenClaim := { program := "ytnndhgeddfghcaa", sum := "324a18b896dfd53f05fec397a5ce73dc00aeabb370e4e5ed31c532d538c3c867", func := "loop.example/g01006/laws.FnHours", spec := "fnHours", recurses := true, apart := false }
def FnHoursSaid : Prop := fnHoursRow.holds Try.pinned (OpenSpec.ofChange fnHoursSpec)

/-- ITS FALSE NEIGHBOUR: 'it returns false'. Refute it at one input. -/
def fnHoursWrong : ChangeSpec := { name := "fnHours", fn := fun _ => fun
  | [d] => { results := [.lit (.bool false)], args := [d] }
  | _ => none }
def FnHoursWrongFalsely : Prop := fnHoursRow.holds Try.pinned (OpenSpec.ofChange fnHoursWrong)

/- THE SECOND FORM. 'bulk': how many values and letters a reading holds, each counted each time it is reached (what is shared counts as often as it is met; a slice's spare places count too). A statement '..UptoSaid' is the law's where the arguments, and the package variables that the reading takes, are together of bulk at most 1048576: NARROWER than '..Said'. Prove '..Said' where nothing that the law and all that it calls make is longer than what came in: it says more and counts as full. Else prove '..UptoSaid'. A law counts once. -/
mutual
def uptoBulk {H : Type} : DataW H → Nat
  | .lit (.string bytes) => bytes.length + 1
  | .lit _ => 1
  | .nil => 1
  | .ptr d => uptoBulk d + 1
  | .slice elems spare => uptoBulkAll elems + uptoBulkAll spare + 1
  | .agg parts => uptoBulkAll parts + 1
  | .iface _ d => uptoBulk d + 1
  | .map entries => uptoBulkEntries entries + 1
  | .held _ => 1
def uptoBulkAll {H : Type} : List (DataW H) → Nat
  | [] => 0
  | d :: r => uptoBulk d + uptoBulkAll r
def uptoBulkEntries {H : Type} : List (Lit × DataW H) → Nat
  | [] => 0
  | x :: r => uptoBulkEntry x + uptoBulkEntries r
def uptoBulkEntry {H : Type} : Lit × DataW H → Nat
  | (.string bytes, d) => bytes.length + uptoBulk d + 1
  | (_, d) => uptoBulk d + 1
 end
def uptoSmall : (H : Type) → List (DataW H) → Bool := fun _ ds => decide (uptoBulkAll ds ≤ 1048576)
def OpenSpec.upto (s : _root_.Go.ChangeSpec) : _root_.Go.OpenSpec := { _root_.Go.OpenSpec.ofChange s with cond := some uptoSmall }

/-- 'laws.FnExactIsLesson', WHERE WHAT IT READS IS OF BULK AT MOST 1048576: true; the input reads as it did. -/
def fnExactIsLessonUptoRow : OpenClaim := { program := "ytnndhgeddfghcaa", sum := "324a18b896dfd53f05fec397a5ce73dc00aeabb370e4e5ed31c532d538c3c867", func := "loop.example/g01006/laws.FnExactIsLesson", spec := "fnExactIsLesson", apart := false, narrowed := true }
def FnExactIsLessonUptoSaid : Prop := fnExactIsLessonUptoRow.holds Try.pinned (OpenSpec.upto fnExactIsLessonSpec)

/-- 'laws.FnExactLessonText', WHERE WHAT IT READS IS OF BULK AT MOST 1048576: true; the input reads as it did. -/
def fnExactLessonTextUptoRow : OpenClaim := { program := "ytnndhgeddfghcaa", sum := "324a18b896dfd53f05fec397a5ce73dc00aeabb370e4e5ed31c532d538c3c867", func := "loop.example/g01006/laws.FnExactLessonText", spec := "fnExactLessonText", recurses := true, apart := false, narrowed := true }
def FnExactLessonTextUptoSaid : Prop := fnExactLessonTextUptoRow.holds Try.pinned (OpenSpec.upto fnExactLessonTextSpec)

/-- 'laws.FnExactAreLessons', WHERE WHAT IT READS IS OF BULK AT MOST 1048576: true; the input reads as it did. -/
def fnExactAreLessonsUptoRow : OpenClaim := { program := "ytnndhgeddfghcaa", sum := "324a18b896dfd53f05fec397a5ce73dc00aeabb370e4e5ed31c532d538c3c867", func := "loop.example/g01006/laws.FnExactAreLessons", spec := "fnExactAreLessons", apart := false, narrowed := true }
def FnExactAreLessonsUptoSaid : Prop := fnExactAreLessonsUptoRow.holds Try.pinned (OpenSpec.upto fnExactAreLessonsSpec)

/-- 'laws.FnExactLongestGap', WHERE WHAT IT READS IS OF BULK AT MOST 1048576: true; the input reads as it did. -/
def fnExactLongestGapUptoRow : OpenClaim := { program := "ytnndhgeddfghcaa", sum := "324a18b896dfd53f05fec397a5ce73dc00aeabb370e4e5ed31c532d538c3c867", func := "loop.example/g01006/laws.FnExactLongestGap", spec := "fnExactLongestGap", apart := false, narrowed := true }
def FnExactLongestGapUptoSaid : Prop := fnExactLongestGapUptoRow.holds Try.pinned (OpenSpec.upto fnExactLongestGapSpec)

/-- 'laws.FnExactFirstSlot', WHERE WHAT IT READS IS OF BULK AT MOST 1048576: true; the input reads as it did. -/
def fnExactFirstSlotUptoRow : OpenClaim := { program := "ytnndhgeddfghcaa", sum := "324a18b896dfd53f05fec397a5ce73dc00aeabb370e4e5ed31c532d538c3c867", func := "loop.example/g01006/laws.FnExactFirstSlot", spec := "fnExactFirstSlot", apart := false, narrowed := true }
def FnExactFirstSlotUptoSaid : Prop := fnExactFirstSlotUptoRow.holds Try.pinned (OpenSpec.upto fnExactFirstSlotSpec)

/-- 'laws.FnExactFreeRooms', WHERE WHAT IT READS IS OF BULK AT MOST 1048576: true; the input reads as it did. -/
def fnExactFreeRoomsUptoRow : OpenClaim := { program := "ytnndhgeddfghcaa", sum := "324a18b896dfd53f05fec397a5ce73dc00aeabb370e4e5ed31c532d538c3c867", func := "loop.example/g01006/laws.FnExactFreeRooms", spec := "fnExactFreeRooms", apart := false, narrowed := true }
def FnExactFreeRoomsUptoSaid : Prop := fnExactFreeRoomsUptoRow.holds Try.pinned (OpenSpec.upto fnExactFreeRoomsSpec)

/-- 'laws.FnExactDayOfClass', WHERE WHAT IT READS IS OF BULK AT MOST 1048576: true; the input reads as it did. -/
def fnExactDayOfClassUptoRow : OpenClaim := { program := "ytnndhgeddfghcaa", sum := "324a18b896dfd53f05fec397a5ce73dc00aeabb370e4e5ed31c532d538c3c867", func := "loop.example/g01006/laws.FnExactDayOfClass", spec := "fnExactDayOfClass", apart := false, narrowed := true }
def FnExactDayOfClassUptoSaid : Prop := fnExactDayOfClassUptoRow.holds Try.pinned (OpenSpec.upto fnExactDayOfClassSpec)

/-- 'laws.FnExactTeacherHours', WHERE WHAT IT READS IS OF BULK AT MOST 1048576: true; the input reads as it did. -/
def fnExactTeacherHoursUptoRow : OpenClaim := { program := "ytnndhgeddfghcaa", sum := "324a18b896dfd53f05fec397a5ce73dc00aeabb370e4e5ed31c532d538c3c867", func := "loop.example/g01006/laws.FnExactTeacherHours", spec := "fnExactTeacherHours", apart := false, narrowed := true }
def FnExactTeacherHoursUptoSaid : Prop := fnExactTeacherHoursUptoRow.holds Try.pinned (OpenSpec.upto fnExactTeacherHoursSpec)

/-- 'laws.FnExactClashingPairs', WHERE WHAT IT READS IS OF BULK AT MOST 1048576: true; the input reads as it did. -/
def fnExactClashingPairsUptoRow : OpenClaim := { program := "ytnndhgeddfghcaa", sum := "324a18b896dfd53f05fec397a5ce73dc00aeabb370e4e5ed31c532d538c3c867", func := "loop.example/g01006/laws.FnExactClashingPairs", spec := "fnExactClashingPairs", apart := false, narrowed := true }
def FnExactClashingPairsUptoSaid : Prop := fnExactClashingPairsUptoRow.holds Try.pinned (OpenSpec.upto fnExactClashingPairsSpec)

/-- 'laws.FnExactShiftLesson', WHERE WHAT IT READS IS OF BULK AT MOST 1048576: true; the input reads as it did. -/
def fnExactShiftLessonUptoRow : OpenClaim := { program := "ytnndhgeddfghcaa", sum := "324a18b896dfd53f05fec397a5ce73dc00aeabb370e4e5ed31c532d538c3c867", func := "loop.example/g01006/laws.FnExactShiftLesson", spec := "fnExactShiftLesson", apart := false, narrowed := true }
def FnExactShiftLessonUptoSaid : Prop := fnExactShiftLessonUptoRow.holds Try.pinned (OpenSpec.upto fnExactShiftLessonSpec)

/-- 'laws.FnLessons', WHERE WHAT IT READS IS OF BULK AT MOST 1048576: true; the input reads as it did. -/
def fnLessonsUptoRow : OpenClaim := { program := "ytnndhgeddfghcaa", sum := "324a18b896dfd53f05fec397a5ce73dc00aeabb370e4e5ed31c532d538c3c867", func := "loop.example/g01006/laws.FnLessons", spec := "fnLessons", apart := false, narrowed := true }
def FnLessonsUptoSaid : Prop := fnLessonsUptoRow.holds Try.pinned (OpenSpec.upto fnLessonsSpec)

/-- 'laws.FnHours', WHERE WHAT IT READS IS OF BULK AT MOST 1048576: true; the input reads as it did. -/
def fnHoursUptoRow : OpenClaim := { program := "ytnndhgeddfghcaa", sum := "324a18b896dfd53f05fec397a5ce73dc00aeabb370e4e5ed31c532d538c3c867", func := "loop.example/g01006/laws.FnHours", spec := "fnHours", recurses := true, apart := false, narrowed := true }
def FnHoursUptoSaid : Prop := fnHoursUptoRow.holds Try.pinned (OpenSpec.upto fnHoursSpec)

end Rows
end Go.Proofs.Ytnndhgeddfghcaa
