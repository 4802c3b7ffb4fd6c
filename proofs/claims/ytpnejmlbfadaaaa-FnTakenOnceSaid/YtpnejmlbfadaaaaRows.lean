/-
  No cell of these rows narrows 'for every input' (looked for: loops, veiled, ifaces, maps, wideKeys, modest, calm, conditions, laid).
  DERIVED. THE GIVEN ROWS OF THIS SEAT. 15 by the template 'for every input the law returns true; each argument reads behind the call as it read before'; 0 by the template 'total and deterministic' (their statements: YtpnejmlbfadaaaaTotals.lean).
  GIVEN WITH THE SEED: the statements are not yours to turn. If you find one false, say at which input.
  Laid BY PROGRAM, IN A SANDBOX (cutbox-rows.mjs): the forced cells as the released guide's own fill.sh prints them over the translation 19f57bd3d6d0ff0b… (all of the seat's roots in one cut). By AI agents, Wed Nov 11 2026. No macro, syntax, notation, axiom, sorry.
-/
import Derived.Test.YtpnejmlbfadaaaaChecked
import GoSem.Claim
import GoSem.ClaimJoined
import GoSem.ClaimMapViews
import Derived.JoinedTies
import Derived.KernelRfl
namespace Go.Proofs.Ytpnejmlbfadaaaa
/- THE CELL 'sum', in the pinned program and in every row, IS THE sha256 OF THE DUMP (.gsa) THAT YtpnejmlbfadaaaaProg.lean LOADS. Nothing in Lean hashes anything: it is a label: what it is worth is what the hold of that sum in a sandbox is worth. -/
noncomputable def Try.pinned : Pinned := { name := "ytpnejmlbfadaaaa", sum := "19f57bd3d6d0ff0b1e1f3bee9a2e6c4ca980720158b91a51a22dad9d27eb69e4", checked := Try.checked }
namespace Rows
def none {H : Type} : Left H := { results := [], args := [] }

/-- 'laws.FnExactReceiverOk': WHATEVER THE INPUT: true; the input reads as it did. -/
def fnExactReceiverOkSpec : ChangeSpec := { name := "fnExactReceiverOk", fn := fun _ => fun
  | [d] => { results := [.lit (.bool true)], args := [d] }
  | _ => none }
def fnExactReceiverOkRow : OpenClaim := { program := "ytpnejmlbfadaaaa", sum := "19f57bd3d6d0ff0b1e1f3bee9a2e6c4ca980720158b91a51a22dad9d27eb69e4", func := "loop.example/g03316/laws.FnExactReceiverOk", spec := "fnExactReceiverOk", apart := false }
def FnExactReceiverOkSaid : Prop := fnExactReceiverOkRow.holds Try.pinned (OpenSpec.ofChange fnExactReceiverOkSpec)

/-- ITS FALSE NEIGHBOUR: 'it returns false'. Refute it at one input. -/
def fnExactReceiverOkWrong : ChangeSpec := { name := "fnExactReceiverOk", fn := fun _ => fun
  | [d] => { results := [.lit (.bool false)], args := [d] }
  | _ => none }
def FnExactReceiverOkWrongFalsely : Prop := fnExactReceiverOkRow.holds Try.pinned (OpenSpec.ofChange fnExactReceiverOkWrong)

/-- 'laws.FnExactDecodeNotice': WHATEVER THE INPUT: true; the input reads as it did. -/
def fnExactDecodeNoticeSpec : ChangeSpec := { name := "fnExactDecodeNotice", fn := fun _ => fun
  | [d] => { results := [.lit (.bool true)], args := [d] }
  | _ => none }
def fnExactDecodeNoticeRow : OpenClaim := { program := "ytpnejmlbfadaaaa", sum := "19f57bd3d6d0ff0b1e1f3bee9a2e6c4ca980720158b91a51a22dad9d27eb69e4", func := "loop.example/g03316/laws.FnExactDecodeNotice", spec := "fnExactDecodeNotice", apart := false }
def FnExactDecodeNoticeSaid : Prop := fnExactDecodeNoticeRow.holds Try.pinned (OpenSpec.ofChange fnExactDecodeNoticeSpec)

/-- ITS FALSE NEIGHBOUR: 'it returns false'. Refute it at one input. -/
def fnExactDecodeNoticeWrong : ChangeSpec := { name := "fnExactDecodeNotice", fn := fun _ => fun
  | [d] => { results := [.lit (.bool false)], args := [d] }
  | _ => none }
def FnExactDecodeNoticeWrongFalsely : Prop := fnExactDecodeNoticeRow.holds Try.pinned (OpenSpec.ofChange fnExactDecodeNoticeWrong)

/-- 'laws.FnExactNoticeOf': WHATEVER THE INPUT: true; the input reads as it did. -/
def fnExactNoticeOfSpec : ChangeSpec := { name := "fnExactNoticeOf", fn := fun _ => fun
  | [d] => { results := [.lit (.bool true)], args := [d] }
  | _ => none }
def fnExactNoticeOfRow : OpenClaim := { program := "ytpnejmlbfadaaaa", sum := "19f57bd3d6d0ff0b1e1f3bee9a2e6c4ca980720158b91a51a22dad9d27eb69e4", func := "loop.example/g03316/laws.FnExactNoticeOf", spec := "fnExactNoticeOf", apart := false }
def FnExactNoticeOfSaid : Prop := fnExactNoticeOfRow.holds Try.pinned (OpenSpec.ofChange fnExactNoticeOfSpec)

/-- ITS FALSE NEIGHBOUR: 'it returns false'. Refute it at one input. -/
def fnExactNoticeOfWrong : ChangeSpec := { name := "fnExactNoticeOf", fn := fun _ => fun
  | [d] => { results := [.lit (.bool false)], args := [d] }
  | _ => none }
def FnExactNoticeOfWrongFalsely : Prop := fnExactNoticeOfRow.holds Try.pinned (OpenSpec.ofChange fnExactNoticeOfWrong)

/-- 'laws.FnTakenOnce': WHATEVER THE INPUT: true; the input reads as it did. -/
def fnTakenOnceSpec : ChangeSpec := { name := "fnTakenOnce", fn := fun _ => fun
  | [d] => { results := [.lit (.bool true)], args := [d] }
  | _ => none }
def fnTakenOnceRow : OpenClaim := { program := "ytpnejmlbfadaaaa", sum := "19f57bd3d6d0ff0b1e1f3bee9a2e6c4ca980720158b91a51a22dad9d27eb69e4", func := "loop.example/g03316/laws.FnTakenOnce", spec := "fnTakenOnce", apart := false }
def FnTakenOnceSaid : Prop := fnTakenOnceRow.holds Try.pinned (OpenSpec.ofChange fnTakenOnceSpec)

/-- ITS FALSE NEIGHBOUR: 'it returns false'. Refute it at one input. -/
def fnTakenOnceWrong : ChangeSpec := { name := "fnTakenOnce", fn := fun _ => fun
  | [d] => { results := [.lit (.bool false)], args := [d] }
  | _ => none }
def FnTakenOnceWrongFalsely : Prop := fnTakenOnceRow.holds Try.pinned (OpenSpec.ofChange fnTakenOnceWrong)

/-- 'laws.FnExactEncodeNotice': WHATEVER THE INPUT: true; the input reads as it did. -/
def fnExactEncodeNoticeSpec : ChangeSpec := { name := "fnExactEncodeNotice", fn := fun _ => fun
  | [d] => { results := [.lit (.bool true)], args := [d] }
  | _ => none }
def fnExactEncodeNoticeRow : OpenClaim := { program := "ytpnejmlbfadaaaa", sum := "19f57bd3d6d0ff0b1e1f3bee9a2e6c4ca980720158b91a51a22dad9d27eb69e4", func := "loop.example/g03316/laws.FnExactEncodeNotice", spec := "fnExactEncodeNotice", apart := false }
def FnExactEncodeNoticeSaid : Prop := fnExactEncodeNoticeRow.holds Try.pinned (OpenSpec.ofChange fnExactEncodeNoticeSpec)

/-- ITS FALSE NEIGHBOUR: 'it returns false'. Refute it at one input. -/
def fnExactEncodeNoticeWrong : ChangeSpec := { name := "fnExactEncodeNotice", fn := fun _ => fun
  | [d] => { results := [.lit (.bool false)], args := [d] }
  | _ => none }
def FnExactEncodeNoticeWrongFalsely : Prop := fnExactEncodeNoticeRow.holds Try.pinned (OpenSpec.ofChange fnExactEncodeNoticeWrong)

/-- 'laws.FnExactEncodeCommand': WHATEVER THE INPUT: true; the input reads as it did. -/
def fnExactEncodeCommandSpec : ChangeSpec := { name := "fnExactEncodeCommand", fn := fun _ => fun
  | [d1, d2, d3] => { results := [.lit (.bool true)], args := [d1, d2, d3] }
  | _ => none }
def fnExactEncodeCommandRow : OpenClaim := { program := "ytpnejmlbfadaaaa", sum := "19f57bd3d6d0ff0b1e1f3bee9a2e6c4ca980720158b91a51a22dad9d27eb69e4", func := "loop.example/g03316/laws.FnExactEncodeCommand", spec := "fnExactEncodeCommand", apart := false }
def FnExactEncodeCommandSaid : Prop := fnExactEncodeCommandRow.holds Try.pinned (OpenSpec.ofChange fnExactEncodeCommandSpec)

/-- ITS FALSE NEIGHBOUR: 'it returns false'. Refute it at one input. -/
def fnExactEncodeCommandWrong : ChangeSpec := { name := "fnExactEncodeCommand", fn := fun _ => fun
  | [d1, d2, d3] => { results := [.lit (.bool false)], args := [d1, d2, d3] }
  | _ => none }
def FnExactEncodeCommandWrongFalsely : Prop := fnExactEncodeCommandRow.holds Try.pinned (OpenSpec.ofChange fnExactEncodeCommandWrong)

/-- 'laws.FnLockedOut': WHATEVER THE INPUT: true; the input reads as it did. -/
def fnLockedOutSpec : ChangeSpec := { name := "fnLockedOut", fn := fun _ => fun
  | [d] => { results := [.lit (.bool true)], args := [d] }
  | _ => none }
def fnLockedOutRow : OpenClaim := { program := "ytpnejmlbfadaaaa", sum := "19f57bd3d6d0ff0b1e1f3bee9a2e6c4ca980720158b91a51a22dad9d27eb69e4", func := "loop.example/g03316/laws.FnLockedOut", spec := "fnLockedOut", apart := false }
def FnLockedOutSaid : Prop := fnLockedOutRow.holds Try.pinned (OpenSpec.ofChange fnLockedOutSpec)

/-- ITS FALSE NEIGHBOUR: 'it returns false'. Refute it at one input. -/
def fnLockedOutWrong : ChangeSpec := { name := "fnLockedOut", fn := fun _ => fun
  | [d] => { results := [.lit (.bool false)], args := [d] }
  | _ => none }
def FnLockedOutWrongFalsely : Prop := fnLockedOutRow.holds Try.pinned (OpenSpec.ofChange fnLockedOutWrong)

/-- 'laws.FnExactDecodeCommand': WHATEVER THE INPUT: true; the input reads as it did. -/
def fnExactDecodeCommandSpec : ChangeSpec := { name := "fnExactDecodeCommand", fn := fun _ => fun
  | [d] => { results := [.lit (.bool true)], args := [d] }
  | _ => none }
def fnExactDecodeCommandRow : OpenClaim := { program := "ytpnejmlbfadaaaa", sum := "19f57bd3d6d0ff0b1e1f3bee9a2e6c4ca980720158b91a51a22dad9d27eb69e4", func := "loop.example/g03316/laws.FnExactDecodeCommand", spec := "fnExactDecodeCommand", apart := false }
def FnExactDecodeCommandSaid : Prop := fnExactDecodeCommandRow.holds Try.pinned (OpenSpec.ofChange fnExactDecodeCommandSpec)

/-- ITS FALSE NEIGHBOUR: 'it returns false'. Refute it at one input. -/
def fnExactDecodeCommandWrong : ChangeSpec := { name := "fnExactDecodeCommand", fn := fun _ => fun
  | [d] => { results := [.lit (.bool false)], args := [d] }
  | _ => none }
def FnExactDecodeCommandWrongFalsely : Prop := fnExactDecodeCommandRow.holds Try.pinned (OpenSpec.ofChange fnExactDecodeCommandWrong)

/-- 'laws.FnExactSenderOk': WHATEVER THE INPUT: true; the input reads as it did. -/
def fnExactSenderOkSpec : ChangeSpec := { name := "fnExactSenderOk", fn := fun _ => fun
  | [d] => { results := [.lit (.bool true)], args := [d] }
  | _ => none }
def fnExactSenderOkRow : OpenClaim := { program := "ytpnejmlbfadaaaa", sum := "19f57bd3d6d0ff0b1e1f3bee9a2e6c4ca980720158b91a51a22dad9d27eb69e4", func := "loop.example/g03316/laws.FnExactSenderOk", spec := "fnExactSenderOk", apart := false }
def FnExactSenderOkSaid : Prop := fnExactSenderOkRow.holds Try.pinned (OpenSpec.ofChange fnExactSenderOkSpec)

/-- ITS FALSE NEIGHBOUR: 'it returns false'. Refute it at one input. -/
def fnExactSenderOkWrong : ChangeSpec := { name := "fnExactSenderOk", fn := fun _ => fun
  | [d] => { results := [.lit (.bool false)], args := [d] }
  | _ => none }
def FnExactSenderOkWrongFalsely : Prop := fnExactSenderOkRow.holds Try.pinned (OpenSpec.ofChange fnExactSenderOkWrong)

/-- 'laws.FnExactNewSender': WHATEVER THE INPUT: true; the input reads as it did. -/
def fnExactNewSenderSpec : ChangeSpec := { name := "fnExactNewSender", fn := fun _ => fun
  | [d] => { results := [.lit (.bool true)], args := [d] }
  | _ => none }
def fnExactNewSenderRow : OpenClaim := { program := "ytpnejmlbfadaaaa", sum := "19f57bd3d6d0ff0b1e1f3bee9a2e6c4ca980720158b91a51a22dad9d27eb69e4", func := "loop.example/g03316/laws.FnExactNewSender", spec := "fnExactNewSender", apart := false }
def FnExactNewSenderSaid : Prop := fnExactNewSenderRow.holds Try.pinned (OpenSpec.ofChange fnExactNewSenderSpec)

/-- ITS FALSE NEIGHBOUR: 'it returns false'. Refute it at one input. -/
def fnExactNewSenderWrong : ChangeSpec := { name := "fnExactNewSender", fn := fun _ => fun
  | [d] => { results := [.lit (.bool false)], args := [d] }
  | _ => none }
def FnExactNewSenderWrongFalsely : Prop := fnExactNewSenderRow.holds Try.pinned (OpenSpec.ofChange fnExactNewSenderWrong)

/-- 'laws.FnCommandBytes': WHATEVER THE INPUT: true; the input reads as it did. -/
def fnCommandBytesSpec : ChangeSpec := { name := "fnCommandBytes", fn := fun _ => fun
  | [d] => { results := [.lit (.bool true)], args := [d] }
  | _ => none }
def fnCommandBytesRow : OpenClaim := { program := "ytpnejmlbfadaaaa", sum := "19f57bd3d6d0ff0b1e1f3bee9a2e6c4ca980720158b91a51a22dad9d27eb69e4", func := "loop.example/g03316/laws.FnCommandBytes", spec := "fnCommandBytes", apart := false }
def FnCommandBytesSaid : Prop := fnCommandBytesRow.holds Try.pinned (OpenSpec.ofChange fnCommandBytesSpec)

/-- ITS FALSE NEIGHBOUR: 'it returns false'. Refute it at one input. -/
def fnCommandBytesWrong : ChangeSpec := { name := "fnCommandBytes", fn := fun _ => fun
  | [d] => { results := [.lit (.bool false)], args := [d] }
  | _ => none }
def FnCommandBytesWrongFalsely : Prop := fnCommandBytesRow.holds Try.pinned (OpenSpec.ofChange fnCommandBytesWrong)

/-- 'laws.FnExactTakeCommand': WHATEVER THE INPUT: true; the input reads as it did. -/
def fnExactTakeCommandSpec : ChangeSpec := { name := "fnExactTakeCommand", fn := fun _ => fun
  | [d1, d2] => { results := [.lit (.bool true)], args := [d1, d2] }
  | _ => none }
def fnExactTakeCommandRow : OpenClaim := { program := "ytpnejmlbfadaaaa", sum := "19f57bd3d6d0ff0b1e1f3bee9a2e6c4ca980720158b91a51a22dad9d27eb69e4", func := "loop.example/g03316/laws.FnExactTakeCommand", spec := "fnExactTakeCommand", apart := false }
def FnExactTakeCommandSaid : Prop := fnExactTakeCommandRow.holds Try.pinned (OpenSpec.ofChange fnExactTakeCommandSpec)

/-- ITS FALSE NEIGHBOUR: 'it returns false'. Refute it at one input. -/
def fnExactTakeCommandWrong : ChangeSpec := { name := "fnExactTakeCommand", fn := fun _ => fun
  | [d1, d2] => { results := [.lit (.bool false)], args := [d1, d2] }
  | _ => none }
def FnExactTakeCommandWrongFalsely : Prop := fnExactTakeCommandRow.holds Try.pinned (OpenSpec.ofChange fnExactTakeCommandWrong)

/-- 'laws.FnExactOfferCommand': WHATEVER THE INPUT: true; the input reads as it did. -/
def fnExactOfferCommandSpec : ChangeSpec := { name := "fnExactOfferCommand", fn := fun _ => fun
  | [d1, d2] => { results := [.lit (.bool true)], args := [d1, d2] }
  | _ => none }
def fnExactOfferCommandRow : OpenClaim := { program := "ytpnejmlbfadaaaa", sum := "19f57bd3d6d0ff0b1e1f3bee9a2e6c4ca980720158b91a51a22dad9d27eb69e4", func := "loop.example/g03316/laws.FnExactOfferCommand", spec := "fnExactOfferCommand", apart := false }
def FnExactOfferCommandSaid : Prop := fnExactOfferCommandRow.holds Try.pinned (OpenSpec.ofChange fnExactOfferCommandSpec)

/-- ITS FALSE NEIGHBOUR: 'it returns false'. Refute it at one input. -/
def fnExactOfferCommandWrong : ChangeSpec := { name := "fnExactOfferCommand", fn := fun _ => fun
  | [d1, d2] => { results := [.lit (.bool false)], args := [d1, d2] }
  | _ => none }
def FnExactOfferCommandWrongFalsely : Prop := fnExactOfferCommandRow.holds Try.pinned (OpenSpec.ofChange fnExactOfferCommandWrong)

/-- 'laws.FnExactHearNotice': WHATEVER THE INPUT: true; the input reads as it did. -/
def fnExactHearNoticeSpec : ChangeSpec := { name := "fnExactHearNotice", fn := fun _ => fun
  | [d1, d2] => { results := [.lit (.bool true)], args := [d1, d2] }
  | _ => none }
def fnExactHearNoticeRow : OpenClaim := { program := "ytpnejmlbfadaaaa", sum := "19f57bd3d6d0ff0b1e1f3bee9a2e6c4ca980720158b91a51a22dad9d27eb69e4", func := "loop.example/g03316/laws.FnExactHearNotice", spec := "fnExactHearNotice", apart := false }
def FnExactHearNoticeSaid : Prop := fnExactHearNoticeRow.holds Try.pinned (OpenSpec.ofChange fnExactHearNoticeSpec)

/-- ITS FALSE NEIGHBOUR: 'it returns false'. Refute it at one input. -/
def fnExactHearNoticeWrong : ChangeSpec := { name := "fnExactHearNotice", fn := fun _ => fun
  | [d1, d2] => { results := [.lit (.bool false)], args := [d1, d2] }
  | _ => none }
def FnExactHearNoticeWrongFalsely : Prop := fnExactHearNoticeRow.holds Try.pinned (OpenSpec.ofChange fnExactHearNoticeWrong)

/-- 'laws.FnExactCommandBlocks': WHATEVER THE INPUT: true; the input reads as it did. -/
def fnExactCommandBlocksSpec : ChangeSpec := { name := "fnExactCommandBlocks", fn := fun _ => fun
  | [d] => { results := [.lit (.bool true)], args := [d] }
  | _ => none }
def fnExactCommandBlocksRow : OpenClaim := { program := "ytpnejmlbfadaaaa", sum := "19f57bd3d6d0ff0b1e1f3bee9a2e6c4ca980720158b91a51a22dad9d27eb69e4", func := "loop.example/g03316/laws.FnExactCommandBlocks", spec := "fnExactCommandBlocks", apart := false }
def FnExactCommandBlocksSaid : Prop := fnExactCommandBlocksRow.holds Try.pinned (OpenSpec.ofChange fnExactCommandBlocksSpec)

/-- ITS FALSE NEIGHBOUR: 'it returns false'. Refute it at one input. -/
def fnExactCommandBlocksWrong : ChangeSpec := { name := "fnExactCommandBlocks", fn := fun _ => fun
  | [d] => { results := [.lit (.bool false)], args := [d] }
  | _ => none }
def FnExactCommandBlocksWrongFalsely : Prop := fnExactCommandBlocksRow.holds Try.pinned (OpenSpec.ofChange fnExactCommandBlocksWrong)

/- THE SECOND FORM. 'bulk': how many values and letters a reading holds, each counted each time it is reached (what is shared counts as often as it is met; a slice's spare places count too). A statement '..UptoSaid' is the law's where the arguments, and the package variables that the reading takes, are together of bulk at most 1048576: NARROWER than '..Said'. Prove '..Said' where nothing that the law and all that it calls make is longer than what came in: it says more and counts as full. Else prove '..UptoSaid'. A law counts once. -/
mutual
def uptoBulk {H : Type} : DataW H → Nat
  | .lit (.string bytes) => bytes.length + 1
  | .lit _ => 1
  | .nil => 1
  | .ptr d => uptoBulk d + 1
  | .slice elems spare => uptoBulkAll elems + uptoBulkAll spare + 1
  | .agg parts => uptoBulkAll parts + 1
  | .iface _ d => uptoBulk d + 1
  | .map entries => uptoBulkEntries entries + 1
  | .held _ => 1
def uptoBulkAll {H : Type} : List (DataW H) → Nat
  | [] => 0
  | d :: r => uptoBulk d + uptoBulkAll r
def uptoBulkEntries {H : Type} : List (Lit × DataW H) → Nat
  | [] => 0
  | x :: r => uptoBulkEntry x + uptoBulkEntries r
def uptoBulkEntry {H : Type} : Lit × DataW H → Nat
  | (.string bytes, d) => bytes.length + uptoBulk d + 1
  | (_, d) => uptoBulk d + 1
 end
def uptoSmall : (H : Type) → List (DataW H) → Bool := fun _ ds => decide (uptoBulkAll ds ≤ 1048576)
def OpenSpec.upto (s : _root_.Go.ChangeSpec) : _root_.Go.OpenSpec := { _root_.Go.OpenSpec.ofChange s with cond := some uptoSmall }

/-- 'laws.FnExactReceiverOk', WHERE WHAT IT READS IS OF BULK AT MOST 1048576: true; the input reads as it did. -/
def fnExactReceiverOkUptoRow : OpenClaim := { program := "ytpnejmlbfadaaaa", sum := "19f57bd3d6d0ff0b1e1f3bee9a2e6c4ca980720158b91a51a22dad9d27eb69e4", func := "loop.example/g03316/laws.FnExactReceiverOk", spec := "fnExactReceiverOk", apart := false, narrowed := true }
def FnExactReceiverOkUptoSaid : Prop := fnExactReceiverOkUptoRow.holds Try.pinned (OpenSpec.upto fnExactReceiverOkSpec)

/-- 'laws.FnExactDecodeNotice', WHERE WHAT IT READS IS OF BULK AT MOST 1048576: true; the input reads as it did. -/
def fnExactDecodeNoticeUptoRow : OpenClaim := { program := "ytpnejmlbfadaaaa", sum := "19f57bd3d6d0ff0b1e1f3bee9a2e6c4ca980720158b91a51a22dad9d27eb69e4", func := "loop.example/g03316/laws.FnExactDecodeNotice", spec := "fnExactDecodeNotice", apart := false, narrowed := true }
def FnExactDecodeNoticeUptoSaid : Prop := fnExactDecodeNoticeUptoRow.holds Try.pinned (OpenSpec.upto fnExactDecodeNoticeSpec)

/-- 'laws.FnExactNoticeOf', WHERE WHAT IT READS IS OF BULK AT MOST 1048576: true; the input reads as it did. -/
def fnExactNoticeOfUptoRow : OpenClaim := { program := "ytpnejmlbfadaaaa", sum := "19f57bd3d6d0ff0b1e1f3bee9a2e6c4ca980720158b91a51a22dad9d27eb69e4", func := "loop.example/g03316/laws.FnExactNoticeOf", spec := "fnExactNoticeOf", apart := false, narrowed := true }
def FnExactNoticeOfUptoSaid : Prop := fnExactNoticeOfUptoRow.holds Try.pinned (OpenSpec.upto fnExactNoticeOfSpec)

/-- 'laws.FnTakenOnce', WHERE WHAT IT READS IS OF BULK AT MOST 1048576: true; the input reads as it did. -/
def fnTakenOnceUptoRow : OpenClaim := { program := "ytpnejmlbfadaaaa", sum := "19f57bd3d6d0ff0b1e1f3bee9a2e6c4ca980720158b91a51a22dad9d27eb69e4", func := "loop.example/g03316/laws.FnTakenOnce", spec := "fnTakenOnce", apart := false, narrowed := true }
def FnTakenOnceUptoSaid : Prop := fnTakenOnceUptoRow.holds Try.pinned (OpenSpec.upto fnTakenOnceSpec)

/-- 'laws.FnExactEncodeNotice', WHERE WHAT IT READS IS OF BULK AT MOST 1048576: true; the input reads as it did. -/
def fnExactEncodeNoticeUptoRow : OpenClaim := { program := "ytpnejmlbfadaaaa", sum := "19f57bd3d6d0ff0b1e1f3bee9a2e6c4ca980720158b91a51a22dad9d27eb69e4", func := "loop.example/g03316/laws.FnExactEncodeNotice", spec := "fnExactEncodeNotice", apart := false, narrowed := true }
def FnExactEncodeNoticeUptoSaid : Prop := fnExactEncodeNoticeUptoRow.holds Try.pinned (OpenSpec.upto fnExactEncodeNoticeSpec)

/-- 'laws.FnExactEncodeCommand', WHERE WHAT IT READS IS OF BULK AT MOST 1048576: true; the input reads as it did. -/
def fnExactEncodeCommandUptoRow : OpenClaim := { program := "ytpnejmlbfadaaaa", sum := "19f57bd3d6d0ff0b1e1f3bee9a2e6c4ca980720158b91a51a22dad9d27eb69e4", func := "loop.example/g03316/laws.FnExactEncodeCommand", spec := "fnExactEncodeCommand", apart := false, narrowed := true }
def FnExactEncodeCommandUptoSaid : Prop := fnExactEncodeCommandUptoRow.holds Try.pinned (OpenSpec.upto fnExactEncodeCommandSpec)

/-- 'laws.FnLockedOut', WHERE WHAT IT READS IS OF BULK AT MOST 1048576: true; the input reads as it did. -/
def fnLockedOutUptoRow : OpenClaim := { program := "ytpnejmlbfadaaaa", sum := "19f57bd3d6d0ff0b1e1f3bee9a2e6c4ca980720158b91a51a22dad9d27eb69e4", func := "loop.example/g03316/laws.FnLockedOut", spec := "fnLockedOut", apart := false, narrowed := true }
def FnLockedOutUptoSaid : Prop := fnLockedOutUptoRow.holds Try.pinned (OpenSpec.upto fnLockedOutSpec)

/-- 'laws.FnExactDecodeCommand', WHERE WHAT IT READS IS OF BULK AT MOST 1048576: true; the input reads as it did. -/
def fnExactDecodeCommandUptoRow : OpenClaim := { program := "ytpnejmlbfadaaaa", sum := "19f57bd3d6d0ff0b1e1f3bee9a2e6c4ca980720158b91a51a22dad9d27eb69e4", func := "loop.example/g03316/laws.FnExactDecodeCommand", spec := "fnExactDecodeCommand", apart := false, narrowed := true }
def FnExactDecodeCommandUptoSaid : Prop := fnExactDecodeCommandUptoRow.holds Try.pinned (OpenSpec.upto fnExactDecodeCommandSpec)

/-- 'laws.FnExactSenderOk', WHERE WHAT IT READS IS OF BULK AT MOST 1048576: true; the input reads as it did. -/
def fnExactSenderOkUptoRow : OpenClaim := { program := "ytpnejmlbfadaaaa", sum := "19f57bd3d6d0ff0b1e1f3bee9a2e6c4ca980720158b91a51a22dad9d27eb69e4", func := "loop.example/g03316/laws.FnExactSenderOk", spec := "fnExactSenderOk", apart := false, narrowed := true }
def FnExactSenderOkUptoSaid : Prop := fnExactSenderOkUptoRow.holds Try.pinned (OpenSpec.upto fnExactSenderOkSpec)

/-- 'laws.FnExactNewSender', WHERE WHAT IT READS IS OF BULK AT MOST 1048576: true; the input reads as it did. -/
def fnExactNewSenderUptoRow : OpenClaim := { program := "ytpnejmlbfadaaaa", sum := "19f57bd3d6d0ff0b1e1f3bee9a2e6c4ca980720158b91a51a22dad9d27eb69e4", func := "loop.example/g03316/laws.FnExactNewSender", spec := "fnExactNewSender", apart := false, narrowed := true }
def FnExactNewSenderUptoSaid : Prop := fnExactNewSenderUptoRow.holds Try.pinned (OpenSpec.upto fnExactNewSenderSpec)

/-- 'laws.FnCommandBytes', WHERE WHAT IT READS IS OF BULK AT MOST 1048576: true; the input reads as it did. -/
def fnCommandBytesUptoRow : OpenClaim := { program := "ytpnejmlbfadaaaa", sum := "19f57bd3d6d0ff0b1e1f3bee9a2e6c4ca980720158b91a51a22dad9d27eb69e4", func := "loop.example/g03316/laws.FnCommandBytes", spec := "fnCommandBytes", apart := false, narrowed := true }
def FnCommandBytesUptoSaid : Prop := fnCommandBytesUptoRow.holds Try.pinned (OpenSpec.upto fnCommandBytesSpec)

/-- 'laws.FnExactTakeCommand', WHERE WHAT IT READS IS OF BULK AT MOST 1048576: true; the input reads as it did. -/
def fnExactTakeCommandUptoRow : OpenClaim := { program := "ytpnejmlbfadaaaa", sum := "19f57bd3d6d0ff0b1e1f3bee9a2e6c4ca980720158b91a51a22dad9d27eb69e4", func := "loop.example/g03316/laws.FnExactTakeCommand", spec := "fnExactTakeCommand", apart := false, narrowed := true }
def FnExactTakeCommandUptoSaid : Prop := fnExactTakeCommandUptoRow.holds Try.pinned (OpenSpec.upto fnExactTakeCommandSpec)

/-- 'laws.FnExactOfferCommand', WHERE WHAT IT READS IS OF BULK AT MOST 1048576: true; the input reads as it did. -/
def fnExactOfferCommandUptoRow : OpenClaim := { program := "ytpnejmlbfadaaaa", sum := "19f57bd3d6d0ff0b1e1f3bee9a2e6c4ca980720158b91a51a22dad9d27eb69e4", func := "loop.example/g03316/laws.FnExactOfferCommand", spec := "fnExactOfferCommand", apart := false, narrowed := true }
def FnExactOfferCommandUptoSaid : Prop := fnExactOfferCommandUptoRow.holds Try.pinned (OpenSpec.upto fnExactOfferCommandSpec)

/-- 'laws.FnExactHearNotice', WHERE WHAT IT READS IS OF BULK AT MOST 1048576: true; the input reads as it did. -/
def fnExactHearNoticeUptoRow : OpenClaim := { program := "ytpnejmlbfadaaaa", sum := "19f57bd3d6d0ff0b1e1f3bee9a2e6c4ca980720158b91a51a22dad9d27eb69e4", func := "loop.example/g03316/laws.FnExactHearNotice", spec := "fnExactHearNotice", apart := false, narrowed := true }
def FnExactHearNoticeUptoSaid : Prop := fnExactHearNoticeUptoRow.holds Try.pinned (OpenSpec.upto fnExactHearNoticeSpec)

/-- 'laws.FnExactCommandBlocks', WHERE WHAT IT READS IS OF BULK AT MOST 1048576: true; the input reads as it did. -/
def fnExactCommandBlocksUptoRow : OpenClaim := { program := "ytpnejmlbfadaaaa", sum := "19f57bd3d6d0ff0b1e1f3bee9a2e6c4ca980720158b91a51a22dad9d27eb69e4", func := "loop.example/g03316/laws.FnExactCommandBlocks", spec := "fnExactCommandBlocks", apart := false, narrowed := true }
def FnExactCommandBlocksUptoSaid : Prop := fnExactCommandBlocksUptoRow.holds Try.pinned (OpenSpec.upto fnExactCommandBlocksSpec)

end Rows
end Go.Proofs.Ytpnejmlbfadaaaa
