/-
  No cell of these rows narrows 'for every input' (looked for: loops, veiled, ifaces, maps, wideKeys, modest, calm, conditions, laid).
  DERIVED. THE GIVEN ROWS OF THIS SEAT. 15 by the template 'for every input the law returns true; each argument reads behind the call as it read before'; 0 by the template 'total and deterministic' (their statements: YtimlddibaffjoaaTotals.lean).
  GIVEN WITH THE SEED: the statements are not yours to turn. If you find one false, say at which input.
  Laid BY PROGRAM, IN A SANDBOX (cutbox-rows.mjs): the forced cells as the released guide's own fill.sh prints them over the translation 99dc1b71ec10a16a… (all of the seat's roots in one cut). By AI agents, Wed Nov 11 2026. No macro, syntax, notation, axiom, sorry.
-/
import Derived.Test.YtimlddibaffjoaaChecked
import GoSem.Claim
import GoSem.ClaimJoined
import GoSem.ClaimMapViews
import Derived.JoinedTies
import Derived.KernelRfl
namespace Go.Proofs.Ytimlddibaffjoaa
/- THE CELL 'sum', in the pinned program and in every row, IS THE sha256 OF THE DUMP (.gsa) THAT YtimlddibaffjoaaProg.lean LOADS. Nothing in Lean hashes anything: it is a label: what it is worth is what the hold of that sum in a sandbox is worth. -/
noncomputable def Try.pinned : Pinned := { name := "ytimlddibaffjoaa", sum := "99dc1b71ec10a16a0389ea8114646782d54066a7a8b67b4d8dfc87250d21637a", checked := Try.checked }
namespace Rows
def none {H : Type} : Left H := { results := [], args := [] }

/-- 'laws.FnExactCountSegments': WHATEVER THE INPUT: true; the input reads as it did. -/
def fnExactCountSegmentsSpec : ChangeSpec := { name := "fnExactCountSegments", fn := fun _ => fun
  | [d] => { results := [.lit (.bool true)], args := [d] }
  | _ => none }
def fnExactCountSegmentsRow : OpenClaim := { program := "ytimlddibaffjoaa", sum := "99dc1b71ec10a16a0389ea8114646782d54066a7a8b67b4d8dfc87250d21637a", func := "loop.example/g03316/laws.FnExactCountSegments", spec := "fnExactCountSegments", apart := false }
def FnExactCountSegmentsSaid : Prop := fnExactCountSegmentsRow.holds Try.pinned (OpenSpec.ofChange fnExactCountSegmentsSpec)

/-- ITS FALSE NEIGHBOUR: 'it returns false'. Refute it at one input. -/
def fnExactCountSegmentsWrong : ChangeSpec := { name := "fnExactCountSegments", fn := fun _ => fun
  | [d] => { results := [.lit (.bool false)], args := [d] }
  | _ => none }
def FnExactCountSegmentsWrongFalsely : Prop := fnExactCountSegmentsRow.holds Try.pinned (OpenSpec.ofChange fnExactCountSegmentsWrong)

/-- 'laws.FnExactSegmentOf': WHATEVER THE INPUT: true; the input reads as it did. -/
def fnExactSegmentOfSpec : ChangeSpec := { name := "fnExactSegmentOf", fn := fun _ => fun
  | [d1, d2] => { results := [.lit (.bool true)], args := [d1, d2] }
  | _ => none }
def fnExactSegmentOfRow : OpenClaim := { program := "ytimlddibaffjoaa", sum := "99dc1b71ec10a16a0389ea8114646782d54066a7a8b67b4d8dfc87250d21637a", func := "loop.example/g03316/laws.FnExactSegmentOf", spec := "fnExactSegmentOf", apart := false }
def FnExactSegmentOfSaid : Prop := fnExactSegmentOfRow.holds Try.pinned (OpenSpec.ofChange fnExactSegmentOfSpec)

/-- ITS FALSE NEIGHBOUR: 'it returns false'. Refute it at one input. -/
def fnExactSegmentOfWrong : ChangeSpec := { name := "fnExactSegmentOf", fn := fun _ => fun
  | [d1, d2] => { results := [.lit (.bool false)], args := [d1, d2] }
  | _ => none }
def FnExactSegmentOfWrongFalsely : Prop := fnExactSegmentOfRow.holds Try.pinned (OpenSpec.ofChange fnExactSegmentOfWrong)

/-- 'laws.FnExactDecodeSegment': WHATEVER THE INPUT: true; the input reads as it did. -/
def fnExactDecodeSegmentSpec : ChangeSpec := { name := "fnExactDecodeSegment", fn := fun _ => fun
  | [d] => { results := [.lit (.bool true)], args := [d] }
  | _ => none }
def fnExactDecodeSegmentRow : OpenClaim := { program := "ytimlddibaffjoaa", sum := "99dc1b71ec10a16a0389ea8114646782d54066a7a8b67b4d8dfc87250d21637a", func := "loop.example/g03316/laws.FnExactDecodeSegment", spec := "fnExactDecodeSegment", apart := false }
def FnExactDecodeSegmentSaid : Prop := fnExactDecodeSegmentRow.holds Try.pinned (OpenSpec.ofChange fnExactDecodeSegmentSpec)

/-- ITS FALSE NEIGHBOUR: 'it returns false'. Refute it at one input. -/
def fnExactDecodeSegmentWrong : ChangeSpec := { name := "fnExactDecodeSegment", fn := fun _ => fun
  | [d] => { results := [.lit (.bool false)], args := [d] }
  | _ => none }
def FnExactDecodeSegmentWrongFalsely : Prop := fnExactDecodeSegmentRow.holds Try.pinned (OpenSpec.ofChange fnExactDecodeSegmentWrong)

/-- 'laws.FnExactEncodeSegment': WHATEVER THE INPUT: true; the input reads as it did. -/
def fnExactEncodeSegmentSpec : ChangeSpec := { name := "fnExactEncodeSegment", fn := fun _ => fun
  | [d1, d2, d3] => { results := [.lit (.bool true)], args := [d1, d2, d3] }
  | _ => none }
def fnExactEncodeSegmentRow : OpenClaim := { program := "ytimlddibaffjoaa", sum := "99dc1b71ec10a16a0389ea8114646782d54066a7a8b67b4d8dfc87250d21637a", func := "loop.example/g03316/laws.FnExactEncodeSegment", spec := "fnExactEncodeSegment", apart := false }
def FnExactEncodeSegmentSaid : Prop := fnExactEncodeSegmentRow.holds Try.pinned (OpenSpec.ofChange fnExactEncodeSegmentSpec)

/-- ITS FALSE NEIGHBOUR: 'it returns false'. Refute it at one input. -/
def fnExactEncodeSegmentWrong : ChangeSpec := { name := "fnExactEncodeSegment", fn := fun _ => fun
  | [d1, d2, d3] => { results := [.lit (.bool false)], args := [d1, d2, d3] }
  | _ => none }
def FnExactEncodeSegmentWrongFalsely : Prop := fnExactEncodeSegmentRow.holds Try.pinned (OpenSpec.ofChange fnExactEncodeSegmentWrong)

/-- 'laws.FnExactDecodeEnd': WHATEVER THE INPUT: true; the input reads as it did. -/
def fnExactDecodeEndSpec : ChangeSpec := { name := "fnExactDecodeEnd", fn := fun _ => fun
  | [d] => { results := [.lit (.bool true)], args := [d] }
  | _ => none }
def fnExactDecodeEndRow : OpenClaim := { program := "ytimlddibaffjoaa", sum := "99dc1b71ec10a16a0389ea8114646782d54066a7a8b67b4d8dfc87250d21637a", func := "loop.example/g03316/laws.FnExactDecodeEnd", spec := "fnExactDecodeEnd", apart := false }
def FnExactDecodeEndSaid : Prop := fnExactDecodeEndRow.holds Try.pinned (OpenSpec.ofChange fnExactDecodeEndSpec)

/-- ITS FALSE NEIGHBOUR: 'it returns false'. Refute it at one input. -/
def fnExactDecodeEndWrong : ChangeSpec := { name := "fnExactDecodeEnd", fn := fun _ => fun
  | [d] => { results := [.lit (.bool false)], args := [d] }
  | _ => none }
def FnExactDecodeEndWrongFalsely : Prop := fnExactDecodeEndRow.holds Try.pinned (OpenSpec.ofChange fnExactDecodeEndWrong)

/-- 'laws.FnExactEncodeEnd': WHATEVER THE INPUT: true; the input reads as it did. -/
def fnExactEncodeEndSpec : ChangeSpec := { name := "fnExactEncodeEnd", fn := fun _ => fun
  | [d1, d2] => { results := [.lit (.bool true)], args := [d1, d2] }
  | _ => none }
def fnExactEncodeEndRow : OpenClaim := { program := "ytimlddibaffjoaa", sum := "99dc1b71ec10a16a0389ea8114646782d54066a7a8b67b4d8dfc87250d21637a", func := "loop.example/g03316/laws.FnExactEncodeEnd", spec := "fnExactEncodeEnd", apart := false }
def FnExactEncodeEndSaid : Prop := fnExactEncodeEndRow.holds Try.pinned (OpenSpec.ofChange fnExactEncodeEndSpec)

/-- ITS FALSE NEIGHBOUR: 'it returns false'. Refute it at one input. -/
def fnExactEncodeEndWrong : ChangeSpec := { name := "fnExactEncodeEnd", fn := fun _ => fun
  | [d1, d2] => { results := [.lit (.bool false)], args := [d1, d2] }
  | _ => none }
def FnExactEncodeEndWrongFalsely : Prop := fnExactEncodeEndRow.holds Try.pinned (OpenSpec.ofChange fnExactEncodeEndWrong)

/-- 'laws.FnExactNewFileIn': WHATEVER THE INPUT: true; the input reads as it did. -/
def fnExactNewFileInSpec : ChangeSpec := { name := "fnExactNewFileIn", fn := fun _ => fun
  | [d] => { results := [.lit (.bool true)], args := [d] }
  | _ => none }
def fnExactNewFileInRow : OpenClaim := { program := "ytimlddibaffjoaa", sum := "99dc1b71ec10a16a0389ea8114646782d54066a7a8b67b4d8dfc87250d21637a", func := "loop.example/g03316/laws.FnExactNewFileIn", spec := "fnExactNewFileIn", apart := false }
def FnExactNewFileInSaid : Prop := fnExactNewFileInRow.holds Try.pinned (OpenSpec.ofChange fnExactNewFileInSpec)

/-- ITS FALSE NEIGHBOUR: 'it returns false'. Refute it at one input. -/
def fnExactNewFileInWrong : ChangeSpec := { name := "fnExactNewFileIn", fn := fun _ => fun
  | [d] => { results := [.lit (.bool false)], args := [d] }
  | _ => none }
def FnExactNewFileInWrongFalsely : Prop := fnExactNewFileInRow.holds Try.pinned (OpenSpec.ofChange fnExactNewFileInWrong)

/-- 'laws.FnExactEncodeMissing': WHATEVER THE INPUT: true; the input reads as it did. -/
def fnExactEncodeMissingSpec : ChangeSpec := { name := "fnExactEncodeMissing", fn := fun _ => fun
  | [d1, d2] => { results := [.lit (.bool true)], args := [d1, d2] }
  | _ => none }
def fnExactEncodeMissingRow : OpenClaim := { program := "ytimlddibaffjoaa", sum := "99dc1b71ec10a16a0389ea8114646782d54066a7a8b67b4d8dfc87250d21637a", func := "loop.example/g03316/laws.FnExactEncodeMissing", spec := "fnExactEncodeMissing", apart := false }
def FnExactEncodeMissingSaid : Prop := fnExactEncodeMissingRow.holds Try.pinned (OpenSpec.ofChange fnExactEncodeMissingSpec)

/-- ITS FALSE NEIGHBOUR: 'it returns false'. Refute it at one input. -/
def fnExactEncodeMissingWrong : ChangeSpec := { name := "fnExactEncodeMissing", fn := fun _ => fun
  | [d1, d2] => { results := [.lit (.bool false)], args := [d1, d2] }
  | _ => none }
def FnExactEncodeMissingWrongFalsely : Prop := fnExactEncodeMissingRow.holds Try.pinned (OpenSpec.ofChange fnExactEncodeMissingWrong)

/-- 'laws.FnExactDecodeMissing': WHATEVER THE INPUT: true; the input reads as it did. -/
def fnExactDecodeMissingSpec : ChangeSpec := { name := "fnExactDecodeMissing", fn := fun _ => fun
  | [d] => { results := [.lit (.bool true)], args := [d] }
  | _ => none }
def fnExactDecodeMissingRow : OpenClaim := { program := "ytimlddibaffjoaa", sum := "99dc1b71ec10a16a0389ea8114646782d54066a7a8b67b4d8dfc87250d21637a", func := "loop.example/g03316/laws.FnExactDecodeMissing", spec := "fnExactDecodeMissing", apart := false }
def FnExactDecodeMissingSaid : Prop := fnExactDecodeMissingRow.holds Try.pinned (OpenSpec.ofChange fnExactDecodeMissingSpec)

/-- ITS FALSE NEIGHBOUR: 'it returns false'. Refute it at one input. -/
def fnExactDecodeMissingWrong : ChangeSpec := { name := "fnExactDecodeMissing", fn := fun _ => fun
  | [d] => { results := [.lit (.bool false)], args := [d] }
  | _ => none }
def FnExactDecodeMissingWrongFalsely : Prop := fnExactDecodeMissingRow.holds Try.pinned (OpenSpec.ofChange fnExactDecodeMissingWrong)

/-- 'laws.FnExactFileInOk': WHATEVER THE INPUT: true; the input reads as it did. -/
def fnExactFileInOkSpec : ChangeSpec := { name := "fnExactFileInOk", fn := fun _ => fun
  | [d] => { results := [.lit (.bool true)], args := [d] }
  | _ => none }
def fnExactFileInOkRow : OpenClaim := { program := "ytimlddibaffjoaa", sum := "99dc1b71ec10a16a0389ea8114646782d54066a7a8b67b4d8dfc87250d21637a", func := "loop.example/g03316/laws.FnExactFileInOk", spec := "fnExactFileInOk", apart := false }
def FnExactFileInOkSaid : Prop := fnExactFileInOkRow.holds Try.pinned (OpenSpec.ofChange fnExactFileInOkSpec)

/-- ITS FALSE NEIGHBOUR: 'it returns false'. Refute it at one input. -/
def fnExactFileInOkWrong : ChangeSpec := { name := "fnExactFileInOk", fn := fun _ => fun
  | [d] => { results := [.lit (.bool false)], args := [d] }
  | _ => none }
def FnExactFileInOkWrongFalsely : Prop := fnExactFileInOkRow.holds Try.pinned (OpenSpec.ofChange fnExactFileInOkWrong)

/-- 'laws.FnExactFileOutOk': WHATEVER THE INPUT: true; the input reads as it did. -/
def fnExactFileOutOkSpec : ChangeSpec := { name := "fnExactFileOutOk", fn := fun _ => fun
  | [d] => { results := [.lit (.bool true)], args := [d] }
  | _ => none }
def fnExactFileOutOkRow : OpenClaim := { program := "ytimlddibaffjoaa", sum := "99dc1b71ec10a16a0389ea8114646782d54066a7a8b67b4d8dfc87250d21637a", func := "loop.example/g03316/laws.FnExactFileOutOk", spec := "fnExactFileOutOk", apart := false }
def FnExactFileOutOkSaid : Prop := fnExactFileOutOkRow.holds Try.pinned (OpenSpec.ofChange fnExactFileOutOkSpec)

/-- ITS FALSE NEIGHBOUR: 'it returns false'. Refute it at one input. -/
def fnExactFileOutOkWrong : ChangeSpec := { name := "fnExactFileOutOk", fn := fun _ => fun
  | [d] => { results := [.lit (.bool false)], args := [d] }
  | _ => none }
def FnExactFileOutOkWrongFalsely : Prop := fnExactFileOutOkRow.holds Try.pinned (OpenSpec.ofChange fnExactFileOutOkWrong)

/-- 'laws.FnExactNewFileOut': WHATEVER THE INPUT: true; the input reads as it did. -/
def fnExactNewFileOutSpec : ChangeSpec := { name := "fnExactNewFileOut", fn := fun _ => fun
  | [d1, d2] => { results := [.lit (.bool true)], args := [d1, d2] }
  | _ => none }
def fnExactNewFileOutRow : OpenClaim := { program := "ytimlddibaffjoaa", sum := "99dc1b71ec10a16a0389ea8114646782d54066a7a8b67b4d8dfc87250d21637a", func := "loop.example/g03316/laws.FnExactNewFileOut", spec := "fnExactNewFileOut", apart := false }
def FnExactNewFileOutSaid : Prop := fnExactNewFileOutRow.holds Try.pinned (OpenSpec.ofChange fnExactNewFileOutSpec)

/-- ITS FALSE NEIGHBOUR: 'it returns false'. Refute it at one input. -/
def fnExactNewFileOutWrong : ChangeSpec := { name := "fnExactNewFileOut", fn := fun _ => fun
  | [d1, d2] => { results := [.lit (.bool false)], args := [d1, d2] }
  | _ => none }
def FnExactNewFileOutWrongFalsely : Prop := fnExactNewFileOutRow.holds Try.pinned (OpenSpec.ofChange fnExactNewFileOutWrong)

/-- 'laws.FnExactFileText': WHATEVER THE INPUT: true; the input reads as it did. -/
def fnExactFileTextSpec : ChangeSpec := { name := "fnExactFileText", fn := fun _ => fun
  | [d] => { results := [.lit (.bool true)], args := [d] }
  | _ => none }
def fnExactFileTextRow : OpenClaim := { program := "ytimlddibaffjoaa", sum := "99dc1b71ec10a16a0389ea8114646782d54066a7a8b67b4d8dfc87250d21637a", func := "loop.example/g03316/laws.FnExactFileText", spec := "fnExactFileText", apart := false }
def FnExactFileTextSaid : Prop := fnExactFileTextRow.holds Try.pinned (OpenSpec.ofChange fnExactFileTextSpec)

/-- ITS FALSE NEIGHBOUR: 'it returns false'. Refute it at one input. -/
def fnExactFileTextWrong : ChangeSpec := { name := "fnExactFileText", fn := fun _ => fun
  | [d] => { results := [.lit (.bool false)], args := [d] }
  | _ => none }
def FnExactFileTextWrongFalsely : Prop := fnExactFileTextRow.holds Try.pinned (OpenSpec.ofChange fnExactFileTextWrong)

/-- 'laws.FnSegments': WHATEVER THE INPUT: true; the input reads as it did. -/
def fnSegmentsSpec : ChangeSpec := { name := "fnSegments", fn := fun _ => fun
  | [d] => { results := [.lit (.bool true)], args := [d] }
  | _ => none }
def fnSegmentsRow : OpenClaim := { program := "ytimlddibaffjoaa", sum := "99dc1b71ec10a16a0389ea8114646782d54066a7a8b67b4d8dfc87250d21637a", func := "loop.example/g03316/laws.FnSegments", spec := "fnSegments", apart := false }
def FnSegmentsSaid : Prop := fnSegmentsRow.holds Try.pinned (OpenSpec.ofChange fnSegmentsSpec)

/-- ITS FALSE NEIGHBOUR: 'it returns false'. Refute it at one input. -/
def fnSegmentsWrong : ChangeSpec := { name := "fnSegments", fn := fun _ => fun
  | [d] => { results := [.lit (.bool false)], args := [d] }
  | _ => none }
def FnSegmentsWrongFalsely : Prop := fnSegmentsRow.holds Try.pinned (OpenSpec.ofChange fnSegmentsWrong)

/-- 'laws.FnExactMissingOf': WHATEVER THE INPUT: true; the input reads as it did. -/
def fnExactMissingOfSpec : ChangeSpec := { name := "fnExactMissingOf", fn := fun _ => fun
  | [d] => { results := [.lit (.bool true)], args := [d] }
  | _ => none }
def fnExactMissingOfRow : OpenClaim := { program := "ytimlddibaffjoaa", sum := "99dc1b71ec10a16a0389ea8114646782d54066a7a8b67b4d8dfc87250d21637a", func := "loop.example/g03316/laws.FnExactMissingOf", spec := "fnExactMissingOf", apart := false }
def FnExactMissingOfSaid : Prop := fnExactMissingOfRow.holds Try.pinned (OpenSpec.ofChange fnExactMissingOfSpec)

/-- ITS FALSE NEIGHBOUR: 'it returns false'. Refute it at one input. -/
def fnExactMissingOfWrong : ChangeSpec := { name := "fnExactMissingOf", fn := fun _ => fun
  | [d] => { results := [.lit (.bool false)], args := [d] }
  | _ => none }
def FnExactMissingOfWrongFalsely : Prop := fnExactMissingOfRow.holds Try.pinned (OpenSpec.ofChange fnExactMissingOfWrong)

/- THE SECOND FORM. 'bulk': how many values and letters a reading holds, each counted each time it is reached (what is shared counts as often as it is met; a slice's spare places count too). A statement '..UptoSaid' is the law's where the arguments, and the package variables that the reading takes, are together of bulk at most 1048576: NARROWER than '..Said'. Prove '..Said' where nothing that the law and all that it calls make is longer than what came in: it says more and counts as full. Else prove '..UptoSaid'. A law counts once. -/
mutual
def uptoBulk {H : Type} : DataW H → Nat
  | .lit (.string bytes) => bytes.length + 1
  | .lit _ => 1
  | .nil => 1
  | .ptr d => uptoBulk d + 1
  | .slice elems spare => uptoBulkAll elems + uptoBulkAll spare + 1
  | .agg parts => uptoBulkAll parts + 1
  | .iface _ d => uptoBulk d + 1
  | .map entries => uptoBulkEntries entries + 1
  | .held _ => 1
def uptoBulkAll {H : Type} : List (DataW H) → Nat
  | [] => 0
  | d :: r => uptoBulk d + uptoBulkAll r
def uptoBulkEntries {H : Type} : List (Lit × DataW H) → Nat
  | [] => 0
  | x :: r => uptoBulkEntry x + uptoBulkEntries r
def uptoBulkEntry {H : Type} : Lit × DataW H → Nat
  | (.string bytes, d) => bytes.length + uptoBulk d + 1
  | (_, d) => uptoBulk d + 1
 end
def uptoSmall : (H : Type) → List (DataW H) → Bool := fun _ ds => decide (uptoBulkAll ds ≤ 1048576)
def OpenSpec.upto (s : _root_.Go.ChangeSpec) : _root_.Go.OpenSpec := { _root_.Go.OpenSpec.ofChange s with cond := some uptoSmall }

/-- 'laws.FnExactCountSegments', WHERE WHAT IT READS IS OF BULK AT MOST 1048576: true; the input reads as it did. -/
def fnExactCountSegmentsUptoRow : OpenClaim := { program := "ytimlddibaffjoaa", sum := "99dc1b71ec10a16a0389ea8114646782d54066a7a8b67b4d8dfc87250d21637a", func := "loop.example/g03316/laws.FnExactCountSegments", spec := "fnExactCountSegments", apart := false, narrowed := true }
def FnExactCountSegmentsUptoSaid : Prop := fnExactCountSegmentsUptoRow.holds Try.pinned (OpenSpec.upto fnExactCountSegmentsSpec)

/-- 'laws.FnExactSegmentOf', WHERE WHAT IT READS IS OF BULK AT MOST 1048576: true; the input reads as it did. -/
def fnExactSegmentOfUptoRow : OpenClaim := { program := "ytimlddibaffjoaa", sum := "99dc1b71ec10a16a0389ea8114646782d54066a7a8b67b4d8dfc87250d21637a", func := "loop.example/g03316/laws.FnExactSegmentOf", spec := "fnExactSegmentOf", apart := false, narrowed := true }
def FnExactSegmentOfUptoSaid : Prop := fnExactSegmentOfUptoRow.holds Try.pinned (OpenSpec.upto fnExactSegmentOfSpec)

/-- 'laws.FnExactDecodeSegment', WHERE WHAT IT READS IS OF BULK AT MOST 1048576: true; the input reads as it did. -/
def fnExactDecodeSegmentUptoRow : OpenClaim := { program := "ytimlddibaffjoaa", sum := "99dc1b71ec10a16a0389ea8114646782d54066a7a8b67b4d8dfc87250d21637a", func := "loop.example/g03316/laws.FnExactDecodeSegment", spec := "fnExactDecodeSegment", apart := false, narrowed := true }
def FnExactDecodeSegmentUptoSaid : Prop := fnExactDecodeSegmentUptoRow.holds Try.pinned (OpenSpec.upto fnExactDecodeSegmentSpec)

/-- 'laws.FnExactEncodeSegment', WHERE WHAT IT READS IS OF BULK AT MOST 1048576: true; the input reads as it did. -/
def fnExactEncodeSegmentUptoRow : OpenClaim := { program := "ytimlddibaffjoaa", sum := "99dc1b71ec10a16a0389ea8114646782d54066a7a8b67b4d8dfc87250d21637a", func := "loop.example/g03316/laws.FnExactEncodeSegment", spec := "fnExactEncodeSegment", apart := false, narrowed := true }
def FnExactEncodeSegmentUptoSaid : Prop := fnExactEncodeSegmentUptoRow.holds Try.pinned (OpenSpec.upto fnExactEncodeSegmentSpec)

/-- 'laws.FnExactDecodeEnd', WHERE WHAT IT READS IS OF BULK AT MOST 1048576: true; the input reads as it did. -/
def fnExactDecodeEndUptoRow : OpenClaim := { program := "ytimlddibaffjoaa", sum := "99dc1b71ec10a16a0389ea8114646782d54066a7a8b67b4d8dfc87250d21637a", func := "loop.example/g03316/laws.FnExactDecodeEnd", spec := "fnExactDecodeEnd", apart := false, narrowed := true }
def FnExactDecodeEndUptoSaid : Prop := fnExactDecodeEndUptoRow.holds Try.pinned (OpenSpec.upto fnExactDecodeEndSpec)

/-- 'laws.FnExactEncodeEnd', WHERE WHAT IT READS IS OF BULK AT MOST 1048576: true; the input reads as it did. -/
def fnExactEncodeEndUptoRow : OpenClaim := { program := "ytimlddibaffjoaa", sum := "99dc1b71ec10a16a0389ea8114646782d54066a7a8b67b4d8dfc87250d21637a", func := "loop.example/g03316/laws.FnExactEncodeEnd", spec := "fnExactEncodeEnd", apart := false, narrowed := true }
def FnExactEncodeEndUptoSaid : Prop := fnExactEncodeEndUptoRow.holds Try.pinned (OpenSpec.upto fnExactEncodeEndSpec)

/-- 'laws.FnExactNewFileIn', WHERE WHAT IT READS IS OF BULK AT MOST 1048576: true; the input reads as it did. -/
def fnExactNewFileInUptoRow : OpenClaim := { program := "ytimlddibaffjoaa", sum := "99dc1b71ec10a16a0389ea8114646782d54066a7a8b67b4d8dfc87250d21637a", func := "loop.example/g03316/laws.FnExactNewFileIn", spec := "fnExactNewFileIn", apart := false, narrowed := true }
def FnExactNewFileInUptoSaid : Prop := fnExactNewFileInUptoRow.holds Try.pinned (OpenSpec.upto fnExactNewFileInSpec)

/-- 'laws.FnExactEncodeMissing', WHERE WHAT IT READS IS OF BULK AT MOST 1048576: true; the input reads as it did. -/
def fnExactEncodeMissingUptoRow : OpenClaim := { program := "ytimlddibaffjoaa", sum := "99dc1b71ec10a16a0389ea8114646782d54066a7a8b67b4d8dfc87250d21637a", func := "loop.example/g03316/laws.FnExactEncodeMissing", spec := "fnExactEncodeMissing", apart := false, narrowed := true }
def FnExactEncodeMissingUptoSaid : Prop := fnExactEncodeMissingUptoRow.holds Try.pinned (OpenSpec.upto fnExactEncodeMissingSpec)

/-- 'laws.FnExactDecodeMissing', WHERE WHAT IT READS IS OF BULK AT MOST 1048576: true; the input reads as it did. -/
def fnExactDecodeMissingUptoRow : OpenClaim := { program := "ytimlddibaffjoaa", sum := "99dc1b71ec10a16a0389ea8114646782d54066a7a8b67b4d8dfc87250d21637a", func := "loop.example/g03316/laws.FnExactDecodeMissing", spec := "fnExactDecodeMissing", apart := false, narrowed := true }
def FnExactDecodeMissingUptoSaid : Prop := fnExactDecodeMissingUptoRow.holds Try.pinned (OpenSpec.upto fnExactDecodeMissingSpec)

/-- 'laws.FnExactFileInOk', WHERE WHAT IT READS IS OF BULK AT MOST 1048576: true; the input reads as it did. -/
def fnExactFileInOkUptoRow : OpenClaim := { program := "ytimlddibaffjoaa", sum := "99dc1b71ec10a16a0389ea8114646782d54066a7a8b67b4d8dfc87250d21637a", func := "loop.example/g03316/laws.FnExactFileInOk", spec := "fnExactFileInOk", apart := false, narrowed := true }
def FnExactFileInOkUptoSaid : Prop := fnExactFileInOkUptoRow.holds Try.pinned (OpenSpec.upto fnExactFileInOkSpec)

/-- 'laws.FnExactFileOutOk', WHERE WHAT IT READS IS OF BULK AT MOST 1048576: true; the input reads as it did. -/
def fnExactFileOutOkUptoRow : OpenClaim := { program := "ytimlddibaffjoaa", sum := "99dc1b71ec10a16a0389ea8114646782d54066a7a8b67b4d8dfc87250d21637a", func := "loop.example/g03316/laws.FnExactFileOutOk", spec := "fnExactFileOutOk", apart := false, narrowed := true }
def FnExactFileOutOkUptoSaid : Prop := fnExactFileOutOkUptoRow.holds Try.pinned (OpenSpec.upto fnExactFileOutOkSpec)

/-- 'laws.FnExactNewFileOut', WHERE WHAT IT READS IS OF BULK AT MOST 1048576: true; the input reads as it did. -/
def fnExactNewFileOutUptoRow : OpenClaim := { program := "ytimlddibaffjoaa", sum := "99dc1b71ec10a16a0389ea8114646782d54066a7a8b67b4d8dfc87250d21637a", func := "loop.example/g03316/laws.FnExactNewFileOut", spec := "fnExactNewFileOut", apart := false, narrowed := true }
def FnExactNewFileOutUptoSaid : Prop := fnExactNewFileOutUptoRow.holds Try.pinned (OpenSpec.upto fnExactNewFileOutSpec)

/-- 'laws.FnExactFileText', WHERE WHAT IT READS IS OF BULK AT MOST 1048576: true; the input reads as it did. -/
def fnExactFileTextUptoRow : OpenClaim := { program := "ytimlddibaffjoaa", sum := "99dc1b71ec10a16a0389ea8114646782d54066a7a8b67b4d8dfc87250d21637a", func := "loop.example/g03316/laws.FnExactFileText", spec := "fnExactFileText", apart := false, narrowed := true }
def FnExactFileTextUptoSaid : Prop := fnExactFileTextUptoRow.holds Try.pinned (OpenSpec.upto fnExactFileTextSpec)

/-- 'laws.FnSegments', WHERE WHAT IT READS IS OF BULK AT MOST 1048576: true; the input reads as it did. -/
def fnSegmentsUptoRow : OpenClaim := { program := "ytimlddibaffjoaa", sum := "99dc1b71ec10a16a0389ea8114646782d54066a7a8b67b4d8dfc87250d21637a", func := "loop.example/g03316/laws.FnSegments", spec := "fnSegments", apart := false, narrowed := true }
def FnSegmentsUptoSaid : Prop := fnSegmentsUptoRow.holds Try.pinned (OpenSpec.upto fnSegmentsSpec)

/-- 'laws.FnExactMissingOf', WHERE WHAT IT READS IS OF BULK AT MOST 1048576: true; the input reads as it did. -/
def fnExactMissingOfUptoRow : OpenClaim := { program := "ytimlddibaffjoaa", sum := "99dc1b71ec10a16a0389ea8114646782d54066a7a8b67b4d8dfc87250d21637a", func := "loop.example/g03316/laws.FnExactMissingOf", spec := "fnExactMissingOf", apart := false, narrowed := true }
def FnExactMissingOfUptoSaid : Prop := fnExactMissingOfUptoRow.holds Try.pinned (OpenSpec.upto fnExactMissingOfSpec)

end Rows
end Go.Proofs.Ytimlddibaffjoaa
