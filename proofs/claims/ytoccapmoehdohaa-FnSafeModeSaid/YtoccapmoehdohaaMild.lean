/- A region that draws its order, whose operations read or call what makes memory of its own and hands back a value that the world does not settle: one walk in the order of the text. No condition. -/
import Derived.Test.YtoccapmoehdohaaOpen
import Derived.BigQuiet
namespace Go.Proofs.Ytoccapmoehdohaa
open Go.RowKit
structure BW (W : World) where
 w : World
 hb : Below W.heap.size W w
instance (W : World) : Nonempty (BW W):=⟨⟨W,Below.refl _ _⟩⟩
theorem bwcell {W : World} : (∀ (u : BW W) b o,b < W.heap.size → u.w.cell? ⟨b,o,none⟩ = W.cell? ⟨b,o,none⟩) ∧ (∀ (u : BW W) b o,b < W.heap.size → u.w.frozen? ⟨b,o,none⟩ = W.frozen? ⟨b,o,none⟩) :=
 ⟨fun u b o h=>u.hb.cell (p:=⟨b,o,none⟩) h,fun u b o h=>u.hb.frozen (p:=⟨b,o,none⟩) h⟩
theorem wp_region_bw {P : Program} {id : Nat} {Q : Exit → Act → World → Prop} {a : Act} {w : World} {l : List Oper} (hm : P.follows .mixedOrders = true) (hB : Region.lexB .any l.toArray = true)
  (h : wpQuiet P l.toArray (fun w'=>∃ u : BW w,w' = u.w) (fun a'=>∀ w',(∃ u : BW w,w' = u.w) → Q .normal a' w') l a) : (Code.region id l.toArray true).wp P Q a w :=
 wp_region_quiet (C:=fun w'=>∃ u : BW w,w' = u.w) hm hB ⟨⟨w.drew,(Below.refl _ _).drew⟩,rfl⟩ (by simpa using h)
theorem bw_call {P : Program} {f : FuncId} {args : Array Value} {W : World} {u : BW W} {v : Value} (h : Calls P f args u.w fun e w'=>e = .returned v ∧ Below u.w.heap.size u.w w') :
  Calls P f args u.w fun e w''=>e = .returned v ∧ ∃ u' : BW W,w'' = u'.w :=
 h.mono fun _ _ ⟨he,hb⟩=>⟨he,⟨_,u.hb.trans (hb.mono u.hb.size)⟩,rfl⟩
end Go.Proofs.Ytoccapmoehdohaa
