/- Contracts of the statements' helpers on boards: size, copy, equality of equal ones, marks. No condition. -/
import Derived.Test.YtoccapmoehdohaaBdLaw
import Derived.Test.YtoccapmoehdohaaRecordRow
import Derived.Test.YtoccapmoehdohaaBase
import Derived.Test.YtoccapmoehdohaaOpen
import Derived.Test.YtoccapmoehdohaaAppend
import Derived.Test.YtoccapmoehdohaaFlowMem
import Derived.Test.YtoccapmoehdohaaFlowPart
import Derived.Test.YtoccapmoehdohaaFlow
import Derived.Test.YtoccapmoehdohaaFlowTxt
namespace Go.Proofs.Ytoccapmoehdohaa
open Go.RowKit _root_.Go.Proofs.Try
set_option linter.unusedSimpArgs false
set_option linter.unusedVariables false
structure RdT (w : World) (size : Nat) (s : Sl) (flat : List Value) (len : Nat) : Prop where
 rd : Rd w size s.A s.n flat
 len : len = s.n
theorem RdT.below {w w' : World} {size len : Nat} {s : Sl} {flat : List Value} (h : RdT w size s flat len) (hb : Below w.heap.size w w') : RdT w' size s flat len:=⟨h.rd.below hb,h.len⟩
structure RdL (w : World) (S : BSl) (b : Ar) : Prop where
 p : RdT w 1 S.p (b.ps.flatMap cI) b.ps.length
 l : RdT w 3 S.l (b.ls.flatMap Cd) b.ls.length
 o : RdT w 5 S.o (b.os.flatMap Ax) b.os.length
 d : RdT w 3 S.d (b.ds.flatMap Cs) b.ds.length
 r : RdT w 4 S.r (b.rs.flatMap Bo) b.rs.length
 x : RdT w 1 S.x (b.xs.flatMap cI) b.xs.length
 q : RdT w 1 S.q (b.qs.flatMap cI) b.qs.length
theorem RdL.below {w w' : World} {S : BSl} {b : Ar} (h : RdL w S b) (hb : Below w.heap.size w w') : RdL w' S b:=⟨h.p.below hb,h.l.below hb,h.o.below hb,h.d.below hb,h.r.below hb,h.x.below hb,h.q.below hb⟩
structure BdL (S : BSl) : Prop where
 p : S.p.n ≤ maxLen
 l : S.l.n ≤ maxLen
 o : S.o.n ≤ maxLen
 d : S.d.n ≤ maxLen
 r : S.r.n ≤ maxLen
 x : S.x.n ≤ maxLen
 q : S.q.n ≤ maxLen
def NotB (S : BSl) (q : Nat) : Prop:=S.p.A.map (·.block) ≠ some q ∧ S.l.A.map (·.block) ≠ some q ∧ S.o.A.map (·.block) ≠ some q ∧ S.d.A.map (·.block) ≠ some q ∧ S.r.A.map (·.block) ≠ some q ∧ S.x.A.map (·.block) ≠ some q ∧ S.q.A.map (·.block) ≠ some q
structure ChgB (w w' : World) (S : BSl) : Prop where
 os : w'.os = w.os
 tape : w'.tape = w.tape
 output : w'.output = w.output
 size : w.heap.size ≤ w'.heap.size
 block : ∀ q,q < w.heap.size → NotB S q → w'.heap[q]? = w.heap[q]?
theorem ChgB.refl (w : World) (S : BSl) : ChgB w w S:=⟨rfl,rfl,rfl,Nat.le_refl _,fun _ _ _=>rfl⟩
theorem ChgB.below {w w1 w2 : World} {S : BSl} (h : ChgB w w1 S) (hb : Below w1.heap.size w1 w2) : ChgB w w2 S :=
 ⟨hb.os.trans h.os,hb.tape.trans h.tape,hb.output.trans h.output,Nat.le_trans h.size hb.size,fun q hq hn=>(hb.block q (by have:=h.size; omega)).trans (h.block q hq hn)⟩
theorem ChgB.row {w w1 w2 : World} {S : BSl} {A : Option Addr} (h : ChgB w w1 S) (hg : w1.grownBy w2 (A.map (·.block))) (hA : ∀ q,NotB S q → A.map (·.block) ≠ some q) : ChgB w w2 S :=
 ⟨hg.os.trans h.os,hg.tape.trans h.tape,hg.output.trans h.output,Nat.le_trans h.size hg.size,fun q hq hn=>(hg.block q (by have:=h.size; omega) (fun e=>hA q hn e.symm)).trans (h.block q hq hn)⟩
end Go.Proofs.Ytoccapmoehdohaa
