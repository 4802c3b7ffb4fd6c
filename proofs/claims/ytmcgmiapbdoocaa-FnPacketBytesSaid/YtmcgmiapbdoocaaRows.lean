/-
  No cell of these rows narrows 'for every input' (looked for: loops, veiled, ifaces, maps, wideKeys, modest, calm, conditions, laid).
  DERIVED. THE GIVEN ROWS OF THIS SEAT. 4 by the template 'for every input the law returns true; each argument reads behind the call as it read before'; 0 by the template 'total and deterministic' (their statements: YtmcgmiapbdoocaaTotals.lean).
  GIVEN WITH THE SEED: the statements are not yours to turn. If you find one false, say at which input.
  Laid BY PROGRAM, IN A SANDBOX (cutbox-rows.mjs): the forced cells as the released guide's own fill.sh prints them over the translation c095c0e666b67b42… (all of the seat's roots in one cut). By AI agents, Wed Nov 11 2026. No macro, syntax, notation, axiom, sorry.
-/
import Derived.Test.YtmcgmiapbdoocaaChecked
import GoSem.Claim
import GoSem.ClaimJoined
import GoSem.ClaimMapViews
import Derived.JoinedTies
import Derived.KernelRfl
namespace Go.Proofs.Ytmcgmiapbdoocaa
/- THE CELL 'sum', in the pinned program and in every row, IS THE sha256 OF THE DUMP (.gsa) THAT YtmcgmiapbdoocaaProg.lean LOADS. Nothing in Lean hashes anything: it is a label: what it is worth is what the hold of that sum in a sandbox is worth. -/
noncomputable def Try.pinned : Pinned := { name := "ytmcgmiapbdoocaa", sum := "c095c0e666b67b423472e37a641f1fa576a62fe7898482fd94900c4a3c7757a4", checked := Try.checked }
namespace Rows
def none {H : Type} : Left H := { results := [], args := [] }

/-- 'laws.FnFramesLost': WHATEVER THE INPUT: true; the input reads as it did. -/
def fnFramesLostSpec : ChangeSpec := { name := "fnFramesLost", fn := fun _ => fun
  | [d] => { results := [.lit (.bool true)], args := [d] }
  | _ => none }
def fnFramesLostRow : OpenClaim := { program := "ytmcgmiapbdoocaa", sum := "c095c0e666b67b423472e37a641f1fa576a62fe7898482fd94900c4a3c7757a4", func := "loop.example/g03316/laws.FnFramesLost", spec := "fnFramesLost", inPlace := ["internal/abi.NoEscape", "internal/bytealg.MakeNoZero"], apart := false }
def FnFramesLostSaid : Prop := fnFramesLostRow.holds Try.pinned (OpenSpec.ofChange fnFramesLostSpec)

/-- ITS FALSE NEIGHBOUR: 'it returns false'. Refute it at one input. -/
def fnFramesLostWrong : ChangeSpec := { name := "fnFramesLost", fn := fun _ => fun
  | [d] => { results := [.lit (.bool false)], args := [d] }
  | _ => none }
def FnFramesLostWrongFalsely : Prop := fnFramesLostRow.holds Try.pinned (OpenSpec.ofChange fnFramesLostWrong)

/-- 'laws.FnExactFillPacker': WHATEVER THE INPUT: true; the input reads as it did. -/
def fnExactFillPackerSpec : ChangeSpec := { name := "fnExactFillPacker", fn := fun _ => fun
  | [d] => { results := [.lit (.bool true)], args := [d] }
  | _ => none }
def fnExactFillPackerRow : OpenClaim := { program := "ytmcgmiapbdoocaa", sum := "c095c0e666b67b423472e37a641f1fa576a62fe7898482fd94900c4a3c7757a4", func := "loop.example/g03316/laws.FnExactFillPacker", spec := "fnExactFillPacker", inPlace := ["internal/abi.NoEscape", "internal/bytealg.MakeNoZero"], apart := false }
def FnExactFillPackerSaid : Prop := fnExactFillPackerRow.holds Try.pinned (OpenSpec.ofChange fnExactFillPackerSpec)

/-- ITS FALSE NEIGHBOUR: 'it returns false'. Refute it at one input. -/
def fnExactFillPackerWrong : ChangeSpec := { name := "fnExactFillPacker", fn := fun _ => fun
  | [d] => { results := [.lit (.bool false)], args := [d] }
  | _ => none }
def FnExactFillPackerWrongFalsely : Prop := fnExactFillPackerRow.holds Try.pinned (OpenSpec.ofChange fnExactFillPackerWrong)

/-- 'laws.FnPacketBytes': WHATEVER THE INPUT: true; the input reads as it did. -/
def fnPacketBytesSpec : ChangeSpec := { name := "fnPacketBytes", fn := fun _ => fun
  | [d] => { results := [.lit (.bool true)], args := [d] }
  | _ => none }
def fnPacketBytesRow : OpenClaim := { program := "ytmcgmiapbdoocaa", sum := "c095c0e666b67b423472e37a641f1fa576a62fe7898482fd94900c4a3c7757a4", func := "loop.example/g03316/laws.FnPacketBytes", spec := "fnPacketBytes", inPlace := ["internal/abi.NoEscape", "internal/bytealg.MakeNoZero"], apart := false }
def FnPacketBytesSaid : Prop := fnPacketBytesRow.holds Try.pinned (OpenSpec.ofChange fnPacketBytesSpec)

/-- ITS FALSE NEIGHBOUR: 'it returns false'. Refute it at one input. -/
def fnPacketBytesWrong : ChangeSpec := { name := "fnPacketBytes", fn := fun _ => fun
  | [d] => { results := [.lit (.bool false)], args := [d] }
  | _ => none }
def FnPacketBytesWrongFalsely : Prop := fnPacketBytesRow.holds Try.pinned (OpenSpec.ofChange fnPacketBytesWrong)

/-- 'laws.FnFramesWhole': WHATEVER THE INPUT: true; the input reads as it did. -/
def fnFramesWholeSpec : ChangeSpec := { name := "fnFramesWhole", fn := fun _ => fun
  | [d] => { results := [.lit (.bool true)], args := [d] }
  | _ => none }
def fnFramesWholeRow : OpenClaim := { program := "ytmcgmiapbdoocaa", sum := "c095c0e666b67b423472e37a641f1fa576a62fe7898482fd94900c4a3c7757a4", func := "loop.example/g03316/laws.FnFramesWhole", spec := "fnFramesWhole", inPlace := ["internal/abi.NoEscape", "internal/bytealg.MakeNoZero"], apart := false }
def FnFramesWholeSaid : Prop := fnFramesWholeRow.holds Try.pinned (OpenSpec.ofChange fnFramesWholeSpec)

/-- ITS FALSE NEIGHBOUR: 'it returns false'. Refute it at one input. -/
def fnFramesWholeWrong : ChangeSpec := { name := "fnFramesWhole", fn := fun _ => fun
  | [d] => { results := [.lit (.bool false)], args := [d] }
  | _ => none }
def FnFramesWholeWrongFalsely : Prop := fnFramesWholeRow.holds Try.pinned (OpenSpec.ofChange fnFramesWholeWrong)

/- THE SECOND FORM. 'bulk': how many values and letters a reading holds, each counted each time it is reached (what is shared counts as often as it is met; a slice's spare places count too). A statement '..UptoSaid' is the law's where the arguments, and the package variables that the reading takes, are together of bulk at most 1048576: NARROWER than '..Said'. Prove '..Said' where nothing that the law and all that it calls make is longer than what came in: it says more and counts as full. Else prove '..UptoSaid'. A law counts once. -/
mutual
def uptoBulk {H : Type} : DataW H → Nat
  | .lit (.string bytes) => bytes.length + 1
  | .lit _ => 1
  | .nil => 1
  | .ptr d => uptoBulk d + 1
  | .slice elems spare => uptoBulkAll elems + uptoBulkAll spare + 1
  | .agg parts => uptoBulkAll parts + 1
  | .iface _ d => uptoBulk d + 1
  | .map entries => uptoBulkEntries entries + 1
  | .held _ => 1
def uptoBulkAll {H : Type} : List (DataW H) → Nat
  | [] => 0
  | d :: r => uptoBulk d + uptoBulkAll r
def uptoBulkEntries {H : Type} : List (Lit × DataW H) → Nat
  | [] => 0
  | x :: r => uptoBulkEntry x + uptoBulkEntries r
def uptoBulkEntry {H : Type} : Lit × DataW H → Nat
  | (.string bytes, d) => bytes.length + uptoBulk d + 1
  | (_, d) => uptoBulk d + 1
 end
def uptoSmall : (H : Type) → List (DataW H) → Bool := fun _ ds => decide (uptoBulkAll ds ≤ 1048576)
def OpenSpec.upto (s : _root_.Go.ChangeSpec) : _root_.Go.OpenSpec := { _root_.Go.OpenSpec.ofChange s with cond := some uptoSmall }

/-- 'laws.FnFramesLost', WHERE WHAT IT READS IS OF BULK AT MOST 1048576: true; the input reads as it did. -/
def fnFramesLostUptoRow : OpenClaim := { program := "ytmcgmiapbdoocaa", sum := "c095c0e666b67b423472e37a641f1fa576a62fe7898482fd94900c4a3c7757a4", func := "loop.example/g03316/laws.FnFramesLost", spec := "fnFramesLost", inPlace := ["internal/abi.NoEscape", "internal/bytealg.MakeNoZero"], apart := false, narrowed := true }
def FnFramesLostUptoSaid : Prop := fnFramesLostUptoRow.holds Try.pinned (OpenSpec.upto fnFramesLostSpec)

/-- 'laws.FnExactFillPacker', WHERE WHAT IT READS IS OF BULK AT MOST 1048576: true; the input reads as it did. -/
def fnExactFillPackerUptoRow : OpenClaim := { program := "ytmcgmiapbdoocaa", sum := "c095c0e666b67b423472e37a641f1fa576a62fe7898482fd94900c4a3c7757a4", func := "loop.example/g03316/laws.FnExactFillPacker", spec := "fnExactFillPacker", inPlace := ["internal/abi.NoEscape", "internal/bytealg.MakeNoZero"], apart := false, narrowed := true }
def FnExactFillPackerUptoSaid : Prop := fnExactFillPackerUptoRow.holds Try.pinned (OpenSpec.upto fnExactFillPackerSpec)

/-- 'laws.FnPacketBytes', WHERE WHAT IT READS IS OF BULK AT MOST 1048576: true; the input reads as it did. -/
def fnPacketBytesUptoRow : OpenClaim := { program := "ytmcgmiapbdoocaa", sum := "c095c0e666b67b423472e37a641f1fa576a62fe7898482fd94900c4a3c7757a4", func := "loop.example/g03316/laws.FnPacketBytes", spec := "fnPacketBytes", inPlace := ["internal/abi.NoEscape", "internal/bytealg.MakeNoZero"], apart := false, narrowed := true }
def FnPacketBytesUptoSaid : Prop := fnPacketBytesUptoRow.holds Try.pinned (OpenSpec.upto fnPacketBytesSpec)

/-- 'laws.FnFramesWhole', WHERE WHAT IT READS IS OF BULK AT MOST 1048576: true; the input reads as it did. -/
def fnFramesWholeUptoRow : OpenClaim := { program := "ytmcgmiapbdoocaa", sum := "c095c0e666b67b423472e37a641f1fa576a62fe7898482fd94900c4a3c7757a4", func := "loop.example/g03316/laws.FnFramesWhole", spec := "fnFramesWhole", inPlace := ["internal/abi.NoEscape", "internal/bytealg.MakeNoZero"], apart := false, narrowed := true }
def FnFramesWholeUptoSaid : Prop := fnFramesWholeUptoRow.holds Try.pinned (OpenSpec.upto fnFramesWholeSpec)

end Rows
end Go.Proofs.Ytmcgmiapbdoocaa
