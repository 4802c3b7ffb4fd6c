/-
  No cell of these rows narrows 'for every input' (looked for: loops, veiled, ifaces, maps, wideKeys, modest, calm, conditions, laid).
  DERIVED. THE GIVEN ROWS OF THIS SEAT. 12 by the template 'for every input the law returns true; each argument reads behind the call as it read before'; 0 by the template 'total and deterministic' (their statements: YtnjopeonmenopaaTotals.lean).
  GIVEN WITH THE SEED: the statements are not yours to turn. If you find one false, say at which input.
  Laid BY PROGRAM, IN A SANDBOX (cutbox-rows.mjs): the forced cells as the released guide's own fill.sh prints them over the translation 78752396d9a9c45a… (all of the seat's roots in one cut). By AI agents, Wed Nov 11 2026. No macro, syntax, notation, axiom, sorry.
-/
import Derived.Test.YtnjopeonmenopaaChecked
import GoSem.Claim
import GoSem.ClaimJoined
import GoSem.ClaimMapViews
import Derived.JoinedTies
import Derived.KernelRfl
namespace Go.Proofs.Ytnjopeonmenopaa
/- THE CELL 'sum', in the pinned program and in every row, IS THE sha256 OF THE DUMP (.gsa) THAT YtnjopeonmenopaaProg.lean LOADS. Nothing in Lean hashes anything: it is a label: what it is worth is what the hold of that sum in a sandbox is worth. -/
noncomputable def Try.pinned : Pinned := { name := "ytnjopeonmenopaa", sum := "78752396d9a9c45a2a141339dc53786ef874510135b9a02433d3397e4f8a56ef", checked := Try.checked }
namespace Rows
def none {H : Type} : Left H := { results := [], args := [] }

/-- 'laws.FnExactRecordOk': WHATEVER THE INPUT: true; the input reads as it did. -/
def fnExactRecordOkSpec : ChangeSpec := { name := "fnExactRecordOk", fn := fun _ => fun
  | [d] => { results := [.lit (.bool true)], args := [d] }
  | _ => none }
def fnExactRecordOkRow : OpenClaim := { program := "ytnjopeonmenopaa", sum := "78752396d9a9c45a2a141339dc53786ef874510135b9a02433d3397e4f8a56ef", func := "loop.example/g03316/laws.FnExactRecordOk", spec := "fnExactRecordOk", apart := false }
def FnExactRecordOkSaid : Prop := fnExactRecordOkRow.holds Try.pinned (OpenSpec.ofChange fnExactRecordOkSpec)

/-- ITS FALSE NEIGHBOUR: 'it returns false'. Refute it at one input. -/
def fnExactRecordOkWrong : ChangeSpec := { name := "fnExactRecordOk", fn := fun _ => fun
  | [d] => { results := [.lit (.bool false)], args := [d] }
  | _ => none }
def FnExactRecordOkWrongFalsely : Prop := fnExactRecordOkRow.holds Try.pinned (OpenSpec.ofChange fnExactRecordOkWrong)

/-- 'laws.FnExactOrderOk': WHATEVER THE INPUT: true; the input reads as it did. -/
def fnExactOrderOkSpec : ChangeSpec := { name := "fnExactOrderOk", fn := fun _ => fun
  | [d] => { results := [.lit (.bool true)], args := [d] }
  | _ => none }
def fnExactOrderOkRow : OpenClaim := { program := "ytnjopeonmenopaa", sum := "78752396d9a9c45a2a141339dc53786ef874510135b9a02433d3397e4f8a56ef", func := "loop.example/g03316/laws.FnExactOrderOk", spec := "fnExactOrderOk", apart := false }
def FnExactOrderOkSaid : Prop := fnExactOrderOkRow.holds Try.pinned (OpenSpec.ofChange fnExactOrderOkSpec)

/-- ITS FALSE NEIGHBOUR: 'it returns false'. Refute it at one input. -/
def fnExactOrderOkWrong : ChangeSpec := { name := "fnExactOrderOk", fn := fun _ => fun
  | [d] => { results := [.lit (.bool false)], args := [d] }
  | _ => none }
def FnExactOrderOkWrongFalsely : Prop := fnExactOrderOkRow.holds Try.pinned (OpenSpec.ofChange fnExactOrderOkWrong)

/-- 'laws.FnExactEncodeRecord': WHATEVER THE INPUT: true; the input reads as it did. -/
def fnExactEncodeRecordSpec : ChangeSpec := { name := "fnExactEncodeRecord", fn := fun _ => fun
  | [d] => { results := [.lit (.bool true)], args := [d] }
  | _ => none }
def fnExactEncodeRecordRow : OpenClaim := { program := "ytnjopeonmenopaa", sum := "78752396d9a9c45a2a141339dc53786ef874510135b9a02433d3397e4f8a56ef", func := "loop.example/g03316/laws.FnExactEncodeRecord", spec := "fnExactEncodeRecord", apart := false }
def FnExactEncodeRecordSaid : Prop := fnExactEncodeRecordRow.holds Try.pinned (OpenSpec.ofChange fnExactEncodeRecordSpec)

/-- ITS FALSE NEIGHBOUR: 'it returns false'. Refute it at one input. -/
def fnExactEncodeRecordWrong : ChangeSpec := { name := "fnExactEncodeRecord", fn := fun _ => fun
  | [d] => { results := [.lit (.bool false)], args := [d] }
  | _ => none }
def FnExactEncodeRecordWrongFalsely : Prop := fnExactEncodeRecordRow.holds Try.pinned (OpenSpec.ofChange fnExactEncodeRecordWrong)

/-- 'laws.FnExactDecodeRecord': WHATEVER THE INPUT: true; the input reads as it did. -/
def fnExactDecodeRecordSpec : ChangeSpec := { name := "fnExactDecodeRecord", fn := fun _ => fun
  | [d] => { results := [.lit (.bool true)], args := [d] }
  | _ => none }
def fnExactDecodeRecordRow : OpenClaim := { program := "ytnjopeonmenopaa", sum := "78752396d9a9c45a2a141339dc53786ef874510135b9a02433d3397e4f8a56ef", func := "loop.example/g03316/laws.FnExactDecodeRecord", spec := "fnExactDecodeRecord", apart := false }
def FnExactDecodeRecordSaid : Prop := fnExactDecodeRecordRow.holds Try.pinned (OpenSpec.ofChange fnExactDecodeRecordSpec)

/-- ITS FALSE NEIGHBOUR: 'it returns false'. Refute it at one input. -/
def fnExactDecodeRecordWrong : ChangeSpec := { name := "fnExactDecodeRecord", fn := fun _ => fun
  | [d] => { results := [.lit (.bool false)], args := [d] }
  | _ => none }
def FnExactDecodeRecordWrongFalsely : Prop := fnExactDecodeRecordRow.holds Try.pinned (OpenSpec.ofChange fnExactDecodeRecordWrong)

/-- 'laws.FnExactEncodeOrder': WHATEVER THE INPUT: true; the input reads as it did. -/
def fnExactEncodeOrderSpec : ChangeSpec := { name := "fnExactEncodeOrder", fn := fun _ => fun
  | [d] => { results := [.lit (.bool true)], args := [d] }
  | _ => none }
def fnExactEncodeOrderRow : OpenClaim := { program := "ytnjopeonmenopaa", sum := "78752396d9a9c45a2a141339dc53786ef874510135b9a02433d3397e4f8a56ef", func := "loop.example/g03316/laws.FnExactEncodeOrder", spec := "fnExactEncodeOrder", apart := false }
def FnExactEncodeOrderSaid : Prop := fnExactEncodeOrderRow.holds Try.pinned (OpenSpec.ofChange fnExactEncodeOrderSpec)

/-- ITS FALSE NEIGHBOUR: 'it returns false'. Refute it at one input. -/
def fnExactEncodeOrderWrong : ChangeSpec := { name := "fnExactEncodeOrder", fn := fun _ => fun
  | [d] => { results := [.lit (.bool false)], args := [d] }
  | _ => none }
def FnExactEncodeOrderWrongFalsely : Prop := fnExactEncodeOrderRow.holds Try.pinned (OpenSpec.ofChange fnExactEncodeOrderWrong)

/-- 'laws.FnExactDecodeOrder': WHATEVER THE INPUT: true; the input reads as it did. -/
def fnExactDecodeOrderSpec : ChangeSpec := { name := "fnExactDecodeOrder", fn := fun _ => fun
  | [d] => { results := [.lit (.bool true)], args := [d] }
  | _ => none }
def fnExactDecodeOrderRow : OpenClaim := { program := "ytnjopeonmenopaa", sum := "78752396d9a9c45a2a141339dc53786ef874510135b9a02433d3397e4f8a56ef", func := "loop.example/g03316/laws.FnExactDecodeOrder", spec := "fnExactDecodeOrder", apart := false }
def FnExactDecodeOrderSaid : Prop := fnExactDecodeOrderRow.holds Try.pinned (OpenSpec.ofChange fnExactDecodeOrderSpec)

/-- ITS FALSE NEIGHBOUR: 'it returns false'. Refute it at one input. -/
def fnExactDecodeOrderWrong : ChangeSpec := { name := "fnExactDecodeOrder", fn := fun _ => fun
  | [d] => { results := [.lit (.bool false)], args := [d] }
  | _ => none }
def FnExactDecodeOrderWrongFalsely : Prop := fnExactDecodeOrderRow.holds Try.pinned (OpenSpec.ofChange fnExactDecodeOrderWrong)

/-- 'laws.FnRecorder': WHATEVER THE INPUT: true; the input reads as it did. -/
def fnRecorderSpec : ChangeSpec := { name := "fnRecorder", fn := fun _ => fun
  | [d] => { results := [.lit (.bool true)], args := [d] }
  | _ => none }
def fnRecorderRow : OpenClaim := { program := "ytnjopeonmenopaa", sum := "78752396d9a9c45a2a141339dc53786ef874510135b9a02433d3397e4f8a56ef", func := "loop.example/g03316/laws.FnRecorder", spec := "fnRecorder", apart := false }
def FnRecorderSaid : Prop := fnRecorderRow.holds Try.pinned (OpenSpec.ofChange fnRecorderSpec)

/-- ITS FALSE NEIGHBOUR: 'it returns false'. Refute it at one input. -/
def fnRecorderWrong : ChangeSpec := { name := "fnRecorder", fn := fun _ => fun
  | [d] => { results := [.lit (.bool false)], args := [d] }
  | _ => none }
def FnRecorderWrongFalsely : Prop := fnRecorderRow.holds Try.pinned (OpenSpec.ofChange fnRecorderWrong)

/-- 'laws.FnOrderBytes': WHATEVER THE INPUT: true; the input reads as it did. -/
def fnOrderBytesSpec : ChangeSpec := { name := "fnOrderBytes", fn := fun _ => fun
  | [d] => { results := [.lit (.bool true)], args := [d] }
  | _ => none }
def fnOrderBytesRow : OpenClaim := { program := "ytnjopeonmenopaa", sum := "78752396d9a9c45a2a141339dc53786ef874510135b9a02433d3397e4f8a56ef", func := "loop.example/g03316/laws.FnOrderBytes", spec := "fnOrderBytes", apart := false }
def FnOrderBytesSaid : Prop := fnOrderBytesRow.holds Try.pinned (OpenSpec.ofChange fnOrderBytesSpec)

/-- ITS FALSE NEIGHBOUR: 'it returns false'. Refute it at one input. -/
def fnOrderBytesWrong : ChangeSpec := { name := "fnOrderBytes", fn := fun _ => fun
  | [d] => { results := [.lit (.bool false)], args := [d] }
  | _ => none }
def FnOrderBytesWrongFalsely : Prop := fnOrderBytesRow.holds Try.pinned (OpenSpec.ofChange fnOrderBytesWrong)

/-- 'laws.FnExactRecorderOk': WHATEVER THE INPUT: true; the input reads as it did. -/
def fnExactRecorderOkSpec : ChangeSpec := { name := "fnExactRecorderOk", fn := fun _ => fun
  | [d] => { results := [.lit (.bool true)], args := [d] }
  | _ => none }
def fnExactRecorderOkRow : OpenClaim := { program := "ytnjopeonmenopaa", sum := "78752396d9a9c45a2a141339dc53786ef874510135b9a02433d3397e4f8a56ef", func := "loop.example/g03316/laws.FnExactRecorderOk", spec := "fnExactRecorderOk", apart := false }
def FnExactRecorderOkSaid : Prop := fnExactRecorderOkRow.holds Try.pinned (OpenSpec.ofChange fnExactRecorderOkSpec)

/-- ITS FALSE NEIGHBOUR: 'it returns false'. Refute it at one input. -/
def fnExactRecorderOkWrong : ChangeSpec := { name := "fnExactRecorderOk", fn := fun _ => fun
  | [d] => { results := [.lit (.bool false)], args := [d] }
  | _ => none }
def FnExactRecorderOkWrongFalsely : Prop := fnExactRecorderOkRow.holds Try.pinned (OpenSpec.ofChange fnExactRecorderOkWrong)

/-- 'laws.FnExactRoomLeft': WHATEVER THE INPUT: true; the input reads as it did. -/
def fnExactRoomLeftSpec : ChangeSpec := { name := "fnExactRoomLeft", fn := fun _ => fun
  | [d] => { results := [.lit (.bool true)], args := [d] }
  | _ => none }
def fnExactRoomLeftRow : OpenClaim := { program := "ytnjopeonmenopaa", sum := "78752396d9a9c45a2a141339dc53786ef874510135b9a02433d3397e4f8a56ef", func := "loop.example/g03316/laws.FnExactRoomLeft", spec := "fnExactRoomLeft", apart := false }
def FnExactRoomLeftSaid : Prop := fnExactRoomLeftRow.holds Try.pinned (OpenSpec.ofChange fnExactRoomLeftSpec)

/-- ITS FALSE NEIGHBOUR: 'it returns false'. Refute it at one input. -/
def fnExactRoomLeftWrong : ChangeSpec := { name := "fnExactRoomLeft", fn := fun _ => fun
  | [d] => { results := [.lit (.bool false)], args := [d] }
  | _ => none }
def FnExactRoomLeftWrongFalsely : Prop := fnExactRoomLeftRow.holds Try.pinned (OpenSpec.ofChange fnExactRoomLeftWrong)

/-- 'laws.FnExactTakeRecords': WHATEVER THE INPUT: true; the input reads as it did. -/
def fnExactTakeRecordsSpec : ChangeSpec := { name := "fnExactTakeRecords", fn := fun _ => fun
  | [d1, d2] => { results := [.lit (.bool true)], args := [d1, d2] }
  | _ => none }
def fnExactTakeRecordsRow : OpenClaim := { program := "ytnjopeonmenopaa", sum := "78752396d9a9c45a2a141339dc53786ef874510135b9a02433d3397e4f8a56ef", func := "loop.example/g03316/laws.FnExactTakeRecords", spec := "fnExactTakeRecords", apart := false }
def FnExactTakeRecordsSaid : Prop := fnExactTakeRecordsRow.holds Try.pinned (OpenSpec.ofChange fnExactTakeRecordsSpec)

/-- ITS FALSE NEIGHBOUR: 'it returns false'. Refute it at one input. -/
def fnExactTakeRecordsWrong : ChangeSpec := { name := "fnExactTakeRecords", fn := fun _ => fun
  | [d1, d2] => { results := [.lit (.bool false)], args := [d1, d2] }
  | _ => none }
def FnExactTakeRecordsWrongFalsely : Prop := fnExactTakeRecordsRow.holds Try.pinned (OpenSpec.ofChange fnExactTakeRecordsWrong)

/-- 'laws.FnExactKeepRecord': WHATEVER THE INPUT: true; the input reads as it did. -/
def fnExactKeepRecordSpec : ChangeSpec := { name := "fnExactKeepRecord", fn := fun _ => fun
  | [d1, d2] => { results := [.lit (.bool true)], args := [d1, d2] }
  | _ => none }
def fnExactKeepRecordRow : OpenClaim := { program := "ytnjopeonmenopaa", sum := "78752396d9a9c45a2a141339dc53786ef874510135b9a02433d3397e4f8a56ef", func := "loop.example/g03316/laws.FnExactKeepRecord", spec := "fnExactKeepRecord", apart := false }
def FnExactKeepRecordSaid : Prop := fnExactKeepRecordRow.holds Try.pinned (OpenSpec.ofChange fnExactKeepRecordSpec)

/-- ITS FALSE NEIGHBOUR: 'it returns false'. Refute it at one input. -/
def fnExactKeepRecordWrong : ChangeSpec := { name := "fnExactKeepRecord", fn := fun _ => fun
  | [d1, d2] => { results := [.lit (.bool false)], args := [d1, d2] }
  | _ => none }
def FnExactKeepRecordWrongFalsely : Prop := fnExactKeepRecordRow.holds Try.pinned (OpenSpec.ofChange fnExactKeepRecordWrong)

/- THE SECOND FORM. 'bulk': how many values and letters a reading holds, each counted each time it is reached (what is shared counts as often as it is met; a slice's spare places count too). A statement '..UptoSaid' is the law's where the arguments, and the package variables that the reading takes, are together of bulk at most 1048576: NARROWER than '..Said'. Prove '..Said' where nothing that the law and all that it calls make is longer than what came in: it says more and counts as full. Else prove '..UptoSaid'. A law counts once. -/
mutual
def uptoBulk {H : Type} : DataW H → Nat
  | .lit (.string bytes) => bytes.length + 1
  | .lit _ => 1
  | .nil => 1
  | .ptr d => uptoBulk d + 1
  | .slice elems spare => uptoBulkAll elems + uptoBulkAll spare + 1
  | .agg parts => uptoBulkAll parts + 1
  | .iface _ d => uptoBulk d + 1
  | .map entries => uptoBulkEntries entries + 1
  | .held _ => 1
def uptoBulkAll {H : Type} : List (DataW H) → Nat
  | [] => 0
  | d :: r => uptoBulk d + uptoBulkAll r
def uptoBulkEntries {H : Type} : List (Lit × DataW H) → Nat
  | [] => 0
  | x :: r => uptoBulkEntry x + uptoBulkEntries r
def uptoBulkEntry {H : Type} : Lit × DataW H → Nat
  | (.string bytes, d) => bytes.length + uptoBulk d + 1
  | (_, d) => uptoBulk d + 1
 end
def uptoSmall : (H : Type) → List (DataW H) → Bool := fun _ ds => decide (uptoBulkAll ds ≤ 1048576)
def OpenSpec.upto (s : _root_.Go.ChangeSpec) : _root_.Go.OpenSpec := { _root_.Go.OpenSpec.ofChange s with cond := some uptoSmall }

/-- 'laws.FnExactRecordOk', WHERE WHAT IT READS IS OF BULK AT MOST 1048576: true; the input reads as it did. -/
def fnExactRecordOkUptoRow : OpenClaim := { program := "ytnjopeonmenopaa", sum := "78752396d9a9c45a2a141339dc53786ef874510135b9a02433d3397e4f8a56ef", func := "loop.example/g03316/laws.FnExactRecordOk", spec := "fnExactRecordOk", apart := false, narrowed := true }
def FnExactRecordOkUptoSaid : Prop := fnExactRecordOkUptoRow.holds Try.pinned (OpenSpec.upto fnExactRecordOkSpec)

/-- 'laws.FnExactOrderOk', WHERE WHAT IT READS IS OF BULK AT MOST 1048576: true; the input reads as it did. -/
def fnExactOrderOkUptoRow : OpenClaim := { program := "ytnjopeonmenopaa", sum := "78752396d9a9c45a2a141339dc53786ef874510135b9a02433d3397e4f8a56ef", func := "loop.example/g03316/laws.FnExactOrderOk", spec := "fnExactOrderOk", apart := false, narrowed := true }
def FnExactOrderOkUptoSaid : Prop := fnExactOrderOkUptoRow.holds Try.pinned (OpenSpec.upto fnExactOrderOkSpec)

/-- 'laws.FnExactEncodeRecord', WHERE WHAT IT READS IS OF BULK AT MOST 1048576: true; the input reads as it did. -/
def fnExactEncodeRecordUptoRow : OpenClaim := { program := "ytnjopeonmenopaa", sum := "78752396d9a9c45a2a141339dc53786ef874510135b9a02433d3397e4f8a56ef", func := "loop.example/g03316/laws.FnExactEncodeRecord", spec := "fnExactEncodeRecord", apart := false, narrowed := true }
def FnExactEncodeRecordUptoSaid : Prop := fnExactEncodeRecordUptoRow.holds Try.pinned (OpenSpec.upto fnExactEncodeRecordSpec)

/-- 'laws.FnExactDecodeRecord', WHERE WHAT IT READS IS OF BULK AT MOST 1048576: true; the input reads as it did. -/
def fnExactDecodeRecordUptoRow : OpenClaim := { program := "ytnjopeonmenopaa", sum := "78752396d9a9c45a2a141339dc53786ef874510135b9a02433d3397e4f8a56ef", func := "loop.example/g03316/laws.FnExactDecodeRecord", spec := "fnExactDecodeRecord", apart := false, narrowed := true }
def FnExactDecodeRecordUptoSaid : Prop := fnExactDecodeRecordUptoRow.holds Try.pinned (OpenSpec.upto fnExactDecodeRecordSpec)

/-- 'laws.FnExactEncodeOrder', WHERE WHAT IT READS IS OF BULK AT MOST 1048576: true; the input reads as it did. -/
def fnExactEncodeOrderUptoRow : OpenClaim := { program := "ytnjopeonmenopaa", sum := "78752396d9a9c45a2a141339dc53786ef874510135b9a02433d3397e4f8a56ef", func := "loop.example/g03316/laws.FnExactEncodeOrder", spec := "fnExactEncodeOrder", apart := false, narrowed := true }
def FnExactEncodeOrderUptoSaid : Prop := fnExactEncodeOrderUptoRow.holds Try.pinned (OpenSpec.upto fnExactEncodeOrderSpec)

/-- 'laws.FnExactDecodeOrder', WHERE WHAT IT READS IS OF BULK AT MOST 1048576: true; the input reads as it did. -/
def fnExactDecodeOrderUptoRow : OpenClaim := { program := "ytnjopeonmenopaa", sum := "78752396d9a9c45a2a141339dc53786ef874510135b9a02433d3397e4f8a56ef", func := "loop.example/g03316/laws.FnExactDecodeOrder", spec := "fnExactDecodeOrder", apart := false, narrowed := true }
def FnExactDecodeOrderUptoSaid : Prop := fnExactDecodeOrderUptoRow.holds Try.pinned (OpenSpec.upto fnExactDecodeOrderSpec)

/-- 'laws.FnRecorder', WHERE WHAT IT READS IS OF BULK AT MOST 1048576: true; the input reads as it did. -/
def fnRecorderUptoRow : OpenClaim := { program := "ytnjopeonmenopaa", sum := "78752396d9a9c45a2a141339dc53786ef874510135b9a02433d3397e4f8a56ef", func := "loop.example/g03316/laws.FnRecorder", spec := "fnRecorder", apart := false, narrowed := true }
def FnRecorderUptoSaid : Prop := fnRecorderUptoRow.holds Try.pinned (OpenSpec.upto fnRecorderSpec)

/-- 'laws.FnOrderBytes', WHERE WHAT IT READS IS OF BULK AT MOST 1048576: true; the input reads as it did. -/
def fnOrderBytesUptoRow : OpenClaim := { program := "ytnjopeonmenopaa", sum := "78752396d9a9c45a2a141339dc53786ef874510135b9a02433d3397e4f8a56ef", func := "loop.example/g03316/laws.FnOrderBytes", spec := "fnOrderBytes", apart := false, narrowed := true }
def FnOrderBytesUptoSaid : Prop := fnOrderBytesUptoRow.holds Try.pinned (OpenSpec.upto fnOrderBytesSpec)

/-- 'laws.FnExactRecorderOk', WHERE WHAT IT READS IS OF BULK AT MOST 1048576: true; the input reads as it did. -/
def fnExactRecorderOkUptoRow : OpenClaim := { program := "ytnjopeonmenopaa", sum := "78752396d9a9c45a2a141339dc53786ef874510135b9a02433d3397e4f8a56ef", func := "loop.example/g03316/laws.FnExactRecorderOk", spec := "fnExactRecorderOk", apart := false, narrowed := true }
def FnExactRecorderOkUptoSaid : Prop := fnExactRecorderOkUptoRow.holds Try.pinned (OpenSpec.upto fnExactRecorderOkSpec)

/-- 'laws.FnExactRoomLeft', WHERE WHAT IT READS IS OF BULK AT MOST 1048576: true; the input reads as it did. -/
def fnExactRoomLeftUptoRow : OpenClaim := { program := "ytnjopeonmenopaa", sum := "78752396d9a9c45a2a141339dc53786ef874510135b9a02433d3397e4f8a56ef", func := "loop.example/g03316/laws.FnExactRoomLeft", spec := "fnExactRoomLeft", apart := false, narrowed := true }
def FnExactRoomLeftUptoSaid : Prop := fnExactRoomLeftUptoRow.holds Try.pinned (OpenSpec.upto fnExactRoomLeftSpec)

/-- 'laws.FnExactTakeRecords', WHERE WHAT IT READS IS OF BULK AT MOST 1048576: true; the input reads as it did. -/
def fnExactTakeRecordsUptoRow : OpenClaim := { program := "ytnjopeonmenopaa", sum := "78752396d9a9c45a2a141339dc53786ef874510135b9a02433d3397e4f8a56ef", func := "loop.example/g03316/laws.FnExactTakeRecords", spec := "fnExactTakeRecords", apart := false, narrowed := true }
def FnExactTakeRecordsUptoSaid : Prop := fnExactTakeRecordsUptoRow.holds Try.pinned (OpenSpec.upto fnExactTakeRecordsSpec)

/-- 'laws.FnExactKeepRecord', WHERE WHAT IT READS IS OF BULK AT MOST 1048576: true; the input reads as it did. -/
def fnExactKeepRecordUptoRow : OpenClaim := { program := "ytnjopeonmenopaa", sum := "78752396d9a9c45a2a141339dc53786ef874510135b9a02433d3397e4f8a56ef", func := "loop.example/g03316/laws.FnExactKeepRecord", spec := "fnExactKeepRecord", apart := false, narrowed := true }
def FnExactKeepRecordUptoSaid : Prop := fnExactKeepRecordUptoRow.holds Try.pinned (OpenSpec.upto fnExactKeepRecordSpec)

end Rows
end Go.Proofs.Ytnjopeonmenopaa
