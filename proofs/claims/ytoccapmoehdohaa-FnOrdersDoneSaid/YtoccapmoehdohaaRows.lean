/-
  No cell of these rows narrows 'for every input' (looked for: loops, veiled, ifaces, maps, wideKeys, modest, calm, conditions, laid).
  DERIVED. THE GIVEN ROWS OF THIS SEAT. 8 by the template 'for every input the law returns true; each argument reads behind the call as it read before'; 0 by the template 'total and deterministic' (their statements: YtoccapmoehdohaaTotals.lean).
  GIVEN WITH THE SEED: the statements are not yours to turn. If you find one false, say at which input.
  Laid BY PROGRAM, IN A SANDBOX (cutbox-rows.mjs): the forced cells as the released guide's own fill.sh prints them over the translation f32f1a8c9114d41c… (all of the seat's roots in one cut). By AI agents, Wed Nov 11 2026. No macro, syntax, notation, axiom, sorry.
-/
import Derived.Test.YtoccapmoehdohaaChecked
import GoSem.Claim
import GoSem.ClaimJoined
import GoSem.ClaimMapViews
import Derived.JoinedTies
import Derived.KernelRfl
namespace Go.Proofs.Ytoccapmoehdohaa
/- THE CELL 'sum', in the pinned program and in every row, IS THE sha256 OF THE DUMP (.gsa) THAT YtoccapmoehdohaaProg.lean LOADS. Nothing in Lean hashes anything: it is a label: what it is worth is what the hold of that sum in a sandbox is worth. -/
noncomputable def Try.pinned : Pinned := { name := "ytoccapmoehdohaa", sum := "f32f1a8c9114d41c23e210a4684f69a4ca342f46bcf197661cbc77df7780e065", checked := Try.checked }
namespace Rows
def none {H : Type} : Left H := { results := [], args := [] }

/-- 'laws.FnSafeMode': WHATEVER THE INPUT: true; the input reads as it did. -/
def fnSafeModeSpec : ChangeSpec := { name := "fnSafeMode", fn := fun _ => fun
  | [d] => { results := [.lit (.bool true)], args := [d] }
  | _ => none }
def fnSafeModeRow : OpenClaim := { program := "ytoccapmoehdohaa", sum := "f32f1a8c9114d41c23e210a4684f69a4ca342f46bcf197661cbc77df7780e065", func := "loop.example/g03316/laws.FnSafeMode", spec := "fnSafeMode", inPlace := ["slices.overlaps[loop.example/g03316/impl.Waiting]"], apart := false }
def FnSafeModeSaid : Prop := fnSafeModeRow.holds Try.pinned (OpenSpec.ofChange fnSafeModeSpec)

/-- ITS FALSE NEIGHBOUR: 'it returns false'. Refute it at one input. -/
def fnSafeModeWrong : ChangeSpec := { name := "fnSafeMode", fn := fun _ => fun
  | [d] => { results := [.lit (.bool false)], args := [d] }
  | _ => none }
def FnSafeModeWrongFalsely : Prop := fnSafeModeRow.holds Try.pinned (OpenSpec.ofChange fnSafeModeWrong)

/-- 'laws.FnOrdersDone': WHATEVER THE INPUT: true; the input reads as it did. -/
def fnOrdersDoneSpec : ChangeSpec := { name := "fnOrdersDone", fn := fun _ => fun
  | [d] => { results := [.lit (.bool true)], args := [d] }
  | _ => none }
def fnOrdersDoneRow : OpenClaim := { program := "ytoccapmoehdohaa", sum := "f32f1a8c9114d41c23e210a4684f69a4ca342f46bcf197661cbc77df7780e065", func := "loop.example/g03316/laws.FnOrdersDone", spec := "fnOrdersDone", inPlace := ["slices.overlaps[loop.example/g03316/impl.Waiting]"], apart := false }
def FnOrdersDoneSaid : Prop := fnOrdersDoneRow.holds Try.pinned (OpenSpec.ofChange fnOrdersDoneSpec)

/-- ITS FALSE NEIGHBOUR: 'it returns false'. Refute it at one input. -/
def fnOrdersDoneWrong : ChangeSpec := { name := "fnOrdersDone", fn := fun _ => fun
  | [d] => { results := [.lit (.bool false)], args := [d] }
  | _ => none }
def FnOrdersDoneWrongFalsely : Prop := fnOrdersDoneRow.holds Try.pinned (OpenSpec.ofChange fnOrdersDoneWrong)

/-- 'laws.FnExactBoardOk': WHATEVER THE INPUT: true; the input reads as it did. -/
def fnExactBoardOkSpec : ChangeSpec := { name := "fnExactBoardOk", fn := fun _ => fun
  | [d] => { results := [.lit (.bool true)], args := [d] }
  | _ => none }
def fnExactBoardOkRow : OpenClaim := { program := "ytoccapmoehdohaa", sum := "f32f1a8c9114d41c23e210a4684f69a4ca342f46bcf197661cbc77df7780e065", func := "loop.example/g03316/laws.FnExactBoardOk", spec := "fnExactBoardOk", apart := false }
def FnExactBoardOkSaid : Prop := fnExactBoardOkRow.holds Try.pinned (OpenSpec.ofChange fnExactBoardOkSpec)

/-- ITS FALSE NEIGHBOUR: 'it returns false'. Refute it at one input. -/
def fnExactBoardOkWrong : ChangeSpec := { name := "fnExactBoardOk", fn := fun _ => fun
  | [d] => { results := [.lit (.bool false)], args := [d] }
  | _ => none }
def FnExactBoardOkWrongFalsely : Prop := fnExactBoardOkRow.holds Try.pinned (OpenSpec.ofChange fnExactBoardOkWrong)

/-- 'laws.FnExactNewBoard': WHATEVER THE INPUT: true; the input reads as it did. -/
def fnExactNewBoardSpec : ChangeSpec := { name := "fnExactNewBoard", fn := fun _ => fun
  | [d1, d2] => { results := [.lit (.bool true)], args := [d1, d2] }
  | _ => none }
def fnExactNewBoardRow : OpenClaim := { program := "ytoccapmoehdohaa", sum := "f32f1a8c9114d41c23e210a4684f69a4ca342f46bcf197661cbc77df7780e065", func := "loop.example/g03316/laws.FnExactNewBoard", spec := "fnExactNewBoard", apart := false }
def FnExactNewBoardSaid : Prop := fnExactNewBoardRow.holds Try.pinned (OpenSpec.ofChange fnExactNewBoardSpec)

/-- ITS FALSE NEIGHBOUR: 'it returns false'. Refute it at one input. -/
def fnExactNewBoardWrong : ChangeSpec := { name := "fnExactNewBoard", fn := fun _ => fun
  | [d1, d2] => { results := [.lit (.bool false)], args := [d1, d2] }
  | _ => none }
def FnExactNewBoardWrongFalsely : Prop := fnExactNewBoardRow.holds Try.pinned (OpenSpec.ofChange fnExactNewBoardWrong)

/-- 'laws.FnExactAcceptOrder': WHATEVER THE INPUT: true; the input reads as it did. -/
def fnExactAcceptOrderSpec : ChangeSpec := { name := "fnExactAcceptOrder", fn := fun _ => fun
  | [d1, d2] => { results := [.lit (.bool true)], args := [d1, d2] }
  | _ => none }
def fnExactAcceptOrderRow : OpenClaim := { program := "ytoccapmoehdohaa", sum := "f32f1a8c9114d41c23e210a4684f69a4ca342f46bcf197661cbc77df7780e065", func := "loop.example/g03316/laws.FnExactAcceptOrder", spec := "fnExactAcceptOrder", inPlace := ["slices.overlaps[loop.example/g03316/impl.Waiting]"], apart := false }
def FnExactAcceptOrderSaid : Prop := fnExactAcceptOrderRow.holds Try.pinned (OpenSpec.ofChange fnExactAcceptOrderSpec)

/-- ITS FALSE NEIGHBOUR: 'it returns false'. Refute it at one input. -/
def fnExactAcceptOrderWrong : ChangeSpec := { name := "fnExactAcceptOrder", fn := fun _ => fun
  | [d1, d2] => { results := [.lit (.bool false)], args := [d1, d2] }
  | _ => none }
def FnExactAcceptOrderWrongFalsely : Prop := fnExactAcceptOrderRow.holds Try.pinned (OpenSpec.ofChange fnExactAcceptOrderWrong)

/-- 'laws.FnExactPerformOrder': WHATEVER THE INPUT: true; the input reads as it did. -/
def fnExactPerformOrderSpec : ChangeSpec := { name := "fnExactPerformOrder", fn := fun _ => fun
  | [d1, d2] => { results := [.lit (.bool true)], args := [d1, d2] }
  | _ => none }
def fnExactPerformOrderRow : OpenClaim := { program := "ytoccapmoehdohaa", sum := "f32f1a8c9114d41c23e210a4684f69a4ca342f46bcf197661cbc77df7780e065", func := "loop.example/g03316/laws.FnExactPerformOrder", spec := "fnExactPerformOrder", apart := false }
def FnExactPerformOrderSaid : Prop := fnExactPerformOrderRow.holds Try.pinned (OpenSpec.ofChange fnExactPerformOrderSpec)

/-- ITS FALSE NEIGHBOUR: 'it returns false'. Refute it at one input. -/
def fnExactPerformOrderWrong : ChangeSpec := { name := "fnExactPerformOrder", fn := fun _ => fun
  | [d1, d2] => { results := [.lit (.bool false)], args := [d1, d2] }
  | _ => none }
def FnExactPerformOrderWrongFalsely : Prop := fnExactPerformOrderRow.holds Try.pinned (OpenSpec.ofChange fnExactPerformOrderWrong)

/-- 'laws.FnExactTickBoard': WHATEVER THE INPUT: true; the input reads as it did. -/
def fnExactTickBoardSpec : ChangeSpec := { name := "fnExactTickBoard", fn := fun _ => fun
  | [d] => { results := [.lit (.bool true)], args := [d] }
  | _ => none }
def fnExactTickBoardRow : OpenClaim := { program := "ytoccapmoehdohaa", sum := "f32f1a8c9114d41c23e210a4684f69a4ca342f46bcf197661cbc77df7780e065", func := "loop.example/g03316/laws.FnExactTickBoard", spec := "fnExactTickBoard", apart := false }
def FnExactTickBoardSaid : Prop := fnExactTickBoardRow.holds Try.pinned (OpenSpec.ofChange fnExactTickBoardSpec)

/-- ITS FALSE NEIGHBOUR: 'it returns false'. Refute it at one input. -/
def fnExactTickBoardWrong : ChangeSpec := { name := "fnExactTickBoard", fn := fun _ => fun
  | [d] => { results := [.lit (.bool false)], args := [d] }
  | _ => none }
def FnExactTickBoardWrongFalsely : Prop := fnExactTickBoardRow.holds Try.pinned (OpenSpec.ofChange fnExactTickBoardWrong)

/-- 'laws.FnExactRunBoard': WHATEVER THE INPUT: true; the input reads as it did. -/
def fnExactRunBoardSpec : ChangeSpec := { name := "fnExactRunBoard", fn := fun _ => fun
  | [d1, d2] => { results := [.lit (.bool true)], args := [d1, d2] }
  | _ => none }
def fnExactRunBoardRow : OpenClaim := { program := "ytoccapmoehdohaa", sum := "f32f1a8c9114d41c23e210a4684f69a4ca342f46bcf197661cbc77df7780e065", func := "loop.example/g03316/laws.FnExactRunBoard", spec := "fnExactRunBoard", apart := false }
def FnExactRunBoardSaid : Prop := fnExactRunBoardRow.holds Try.pinned (OpenSpec.ofChange fnExactRunBoardSpec)

/-- ITS FALSE NEIGHBOUR: 'it returns false'. Refute it at one input. -/
def fnExactRunBoardWrong : ChangeSpec := { name := "fnExactRunBoard", fn := fun _ => fun
  | [d1, d2] => { results := [.lit (.bool false)], args := [d1, d2] }
  | _ => none }
def FnExactRunBoardWrongFalsely : Prop := fnExactRunBoardRow.holds Try.pinned (OpenSpec.ofChange fnExactRunBoardWrong)

/- THE SECOND FORM. 'bulk': how many values and letters a reading holds, each counted each time it is reached (what is shared counts as often as it is met; a slice's spare places count too). A statement '..UptoSaid' is the law's where the arguments, and the package variables that the reading takes, are together of bulk at most 1048576: NARROWER than '..Said'. Prove '..Said' where nothing that the law and all that it calls make is longer than what came in: it says more and counts as full. Else prove '..UptoSaid'. A law counts once. -/
mutual
def uptoBulk {H : Type} : DataW H → Nat
  | .lit (.string bytes) => bytes.length + 1
  | .lit _ => 1
  | .nil => 1
  | .ptr d => uptoBulk d + 1
  | .slice elems spare => uptoBulkAll elems + uptoBulkAll spare + 1
  | .agg parts => uptoBulkAll parts + 1
  | .iface _ d => uptoBulk d + 1
  | .map entries => uptoBulkEntries entries + 1
  | .held _ => 1
def uptoBulkAll {H : Type} : List (DataW H) → Nat
  | [] => 0
  | d :: r => uptoBulk d + uptoBulkAll r
def uptoBulkEntries {H : Type} : List (Lit × DataW H) → Nat
  | [] => 0
  | x :: r => uptoBulkEntry x + uptoBulkEntries r
def uptoBulkEntry {H : Type} : Lit × DataW H → Nat
  | (.string bytes, d) => bytes.length + uptoBulk d + 1
  | (_, d) => uptoBulk d + 1
 end
def uptoSmall : (H : Type) → List (DataW H) → Bool := fun _ ds => decide (uptoBulkAll ds ≤ 1048576)
def OpenSpec.upto (s : _root_.Go.ChangeSpec) : _root_.Go.OpenSpec := { _root_.Go.OpenSpec.ofChange s with cond := some uptoSmall }

/-- 'laws.FnSafeMode', WHERE WHAT IT READS IS OF BULK AT MOST 1048576: true; the input reads as it did. -/
def fnSafeModeUptoRow : OpenClaim := { program := "ytoccapmoehdohaa", sum := "f32f1a8c9114d41c23e210a4684f69a4ca342f46bcf197661cbc77df7780e065", func := "loop.example/g03316/laws.FnSafeMode", spec := "fnSafeMode", inPlace := ["slices.overlaps[loop.example/g03316/impl.Waiting]"], apart := false, narrowed := true }
def FnSafeModeUptoSaid : Prop := fnSafeModeUptoRow.holds Try.pinned (OpenSpec.upto fnSafeModeSpec)

/-- 'laws.FnOrdersDone', WHERE WHAT IT READS IS OF BULK AT MOST 1048576: true; the input reads as it did. -/
def fnOrdersDoneUptoRow : OpenClaim := { program := "ytoccapmoehdohaa", sum := "f32f1a8c9114d41c23e210a4684f69a4ca342f46bcf197661cbc77df7780e065", func := "loop.example/g03316/laws.FnOrdersDone", spec := "fnOrdersDone", inPlace := ["slices.overlaps[loop.example/g03316/impl.Waiting]"], apart := false, narrowed := true }
def FnOrdersDoneUptoSaid : Prop := fnOrdersDoneUptoRow.holds Try.pinned (OpenSpec.upto fnOrdersDoneSpec)

/-- 'laws.FnExactBoardOk', WHERE WHAT IT READS IS OF BULK AT MOST 1048576: true; the input reads as it did. -/
def fnExactBoardOkUptoRow : OpenClaim := { program := "ytoccapmoehdohaa", sum := "f32f1a8c9114d41c23e210a4684f69a4ca342f46bcf197661cbc77df7780e065", func := "loop.example/g03316/laws.FnExactBoardOk", spec := "fnExactBoardOk", apart := false, narrowed := true }
def FnExactBoardOkUptoSaid : Prop := fnExactBoardOkUptoRow.holds Try.pinned (OpenSpec.upto fnExactBoardOkSpec)

/-- 'laws.FnExactNewBoard', WHERE WHAT IT READS IS OF BULK AT MOST 1048576: true; the input reads as it did. -/
def fnExactNewBoardUptoRow : OpenClaim := { program := "ytoccapmoehdohaa", sum := "f32f1a8c9114d41c23e210a4684f69a4ca342f46bcf197661cbc77df7780e065", func := "loop.example/g03316/laws.FnExactNewBoard", spec := "fnExactNewBoard", apart := false, narrowed := true }
def FnExactNewBoardUptoSaid : Prop := fnExactNewBoardUptoRow.holds Try.pinned (OpenSpec.upto fnExactNewBoardSpec)

/-- 'laws.FnExactAcceptOrder', WHERE WHAT IT READS IS OF BULK AT MOST 1048576: true; the input reads as it did. -/
def fnExactAcceptOrderUptoRow : OpenClaim := { program := "ytoccapmoehdohaa", sum := "f32f1a8c9114d41c23e210a4684f69a4ca342f46bcf197661cbc77df7780e065", func := "loop.example/g03316/laws.FnExactAcceptOrder", spec := "fnExactAcceptOrder", inPlace := ["slices.overlaps[loop.example/g03316/impl.Waiting]"], apart := false, narrowed := true }
def FnExactAcceptOrderUptoSaid : Prop := fnExactAcceptOrderUptoRow.holds Try.pinned (OpenSpec.upto fnExactAcceptOrderSpec)

/-- 'laws.FnExactPerformOrder', WHERE WHAT IT READS IS OF BULK AT MOST 1048576: true; the input reads as it did. -/
def fnExactPerformOrderUptoRow : OpenClaim := { program := "ytoccapmoehdohaa", sum := "f32f1a8c9114d41c23e210a4684f69a4ca342f46bcf197661cbc77df7780e065", func := "loop.example/g03316/laws.FnExactPerformOrder", spec := "fnExactPerformOrder", apart := false, narrowed := true }
def FnExactPerformOrderUptoSaid : Prop := fnExactPerformOrderUptoRow.holds Try.pinned (OpenSpec.upto fnExactPerformOrderSpec)

/-- 'laws.FnExactTickBoard', WHERE WHAT IT READS IS OF BULK AT MOST 1048576: true; the input reads as it did. -/
def fnExactTickBoardUptoRow : OpenClaim := { program := "ytoccapmoehdohaa", sum := "f32f1a8c9114d41c23e210a4684f69a4ca342f46bcf197661cbc77df7780e065", func := "loop.example/g03316/laws.FnExactTickBoard", spec := "fnExactTickBoard", apart := false, narrowed := true }
def FnExactTickBoardUptoSaid : Prop := fnExactTickBoardUptoRow.holds Try.pinned (OpenSpec.upto fnExactTickBoardSpec)

/-- 'laws.FnExactRunBoard', WHERE WHAT IT READS IS OF BULK AT MOST 1048576: true; the input reads as it did. -/
def fnExactRunBoardUptoRow : OpenClaim := { program := "ytoccapmoehdohaa", sum := "f32f1a8c9114d41c23e210a4684f69a4ca342f46bcf197661cbc77df7780e065", func := "loop.example/g03316/laws.FnExactRunBoard", spec := "fnExactRunBoard", apart := false, narrowed := true }
def FnExactRunBoardUptoSaid : Prop := fnExactRunBoardUptoRow.holds Try.pinned (OpenSpec.upto fnExactRunBoardSpec)

end Rows
end Go.Proofs.Ytoccapmoehdohaa
