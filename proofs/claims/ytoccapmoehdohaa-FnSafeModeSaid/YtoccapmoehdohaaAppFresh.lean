/- append of a whole row behind a fresh empty row: what memory held stays as it was. No condition. -/
import Derived.Test.YtoccapmoehdohaaAppend
import Derived.Test.YtoccapmoehdohaaRelBox
namespace Go.Proofs.Ytoccapmoehdohaa
open Go.RowKit
def NewRow (B : Nat) (T : TypeId) (v : Value) (w : World) : Prop:=∃ q,v = .slice (some ⟨q,0,none⟩) 0 0 ∧ B ≤ q ∧ w.heap[q]? = some (.cells #[] T (0,0))
theorem Ac {w : World} {q : Nat} {o : Obj} (h : w.heap[q]? = some o) : q < w.heap.size:=by
 rcases Nat.lt_or_ge q w.heap.size with h1 | h1
 ·exact h1
 ·simp [h1] at h
theorem NewRow.stab {B : Nat} {T : TypeId} {v : Value} {w w' : World} (hb : Below w.heap.size w w') (h : NewRow B T v w) : NewRow B T v w':=by
 obtain ⟨q,h1,h2,h3⟩:=h;exact ⟨q,h1,h2,(hb.block q (Ac h3)).trans h3⟩
theorem NewRow.new {B : Nat} {w : World} {T : TypeId} (hB : B ≤ w.heap.size) : NewRow B T (.slice (some ⟨w.heap.size,0,none⟩) 0 0) (w.alloc (.cells #[] T)) :=
 ⟨_,rfl,hB,by show (w.heap.push _)[w.heap.size]? = _; simp⟩
theorem NewRow.own {B : Nat} {T : TypeId} {v : Value} {w : World} (size : Nat) (h : NewRow B T v w) : w.ownsRow B T size v 0 []:=by
 obtain ⟨q,rfl,h2,h3⟩:=h;exact ⟨by simp,.inr ⟨q,0,#[],rfl,h2,h3,Nat.le_refl _,Nat.zero_le _,by simp,by simp⟩⟩
end Go.Proofs.Ytoccapmoehdohaa
