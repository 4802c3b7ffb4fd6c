/- A board's rows taken as one: what keeps them, where they lie. No condition. -/
import Derived.Test.YtoccapmoehdohaaBdMark
namespace Go.Proofs.Ytoccapmoehdohaa
open Go.RowKit _root_.Go.Proofs.Try
theorem own_at {w w' : World} {base : Nat} {e : TypeId} {size n c : Nat} {A : Option Addr} {xs : List Value} (h : w.ownsRow base e size (.slice A n c) n xs) (hk : ∀ b,A.map (·.block) = some b → w'.heap[b]? = w.heap[b]?) : w'.ownsRow base e size (.slice A n c) n xs:=by
 refine ⟨h.1,?_⟩;rcases h.2 with h0 | ⟨g,cap,cur,hv,hb,hh,r⟩
 ·exact .inl h0
 ·refine .inr ⟨g,cap,cur,hv,hb,?_,r⟩;simp only [Value.slice.injEq] at hv;obtain ⟨rfl,_,_⟩:=hv;rw [hk g rfl];exact hh
def HasB (S : BSl) (q : Nat) : Prop:=S.p.A.map (·.block) = some q ∨ S.l.A.map (·.block) = some q ∨ S.o.A.map (·.block) = some q ∨ S.d.A.map (·.block) = some q ∨ S.r.A.map (·.block) = some q ∨ S.x.A.map (·.block) = some q ∨ S.q.A.map (·.block) = some q
def ApB (S T : BSl) : Prop:=∀ q,HasB S q → NotB T q
theorem notB_of {S : BSl} {q : Nat} (h : ¬ HasB S q) : NotB S q:=by
 unfold HasB at h;simp only [not_or] at h;exact h
theorem not_hasB {S : BSl} {q : Nat} (h : NotB S q) : ¬ HasB S q:=fun k=>by
 obtain ⟨h1,h2,h3,h4,h5,h6,h7⟩:=h;rcases k with k | k | k | k | k | k | k
 ·exact h1 k
 ·exact h2 k
 ·exact h3 k
 ·exact h4 k
 ·exact h5 k
 ·exact h6 k
 ·exact h7 k
theorem ApB.symm {S T : BSl} (h : ApB S T) : ApB T S:=fun q hq=>notB_of fun hs=>not_hasB (h q hs) hq
section
variable {w w' : World} {base : Nat} {S : BSl} {b : Ar}
theorem OwnB.below (h : OwnB w base S b) (hb : Below w.heap.size w w') : OwnB w' base S b :=
 ⟨Ac h.p hb,Ac h.l hb,Ac h.o hb,Ac h.d hb,Ac h.r hb,Ac h.x hb,Ac h.q hb,h.px,h.pq,h.xq⟩
theorem OwnB.rebase (h : OwnB w base S b) {B : Nat} (hb : B ≤ base) : OwnB w B S b :=
 ⟨Ai h.p hb,Ai h.l hb,Ai h.o hb,Ai h.d hb,Ai h.r hb,Ai h.x hb,Ai h.q hb,h.px,h.pq,h.xq⟩
theorem OwnB.lies (h : OwnB w base S b) {q : Nat} (hq : HasB S q) : base ≤ q ∧ q < w.heap.size:=by
 rcases hq with k | k | k | k | k | k | k
 ·exact Cu h.p q k
 ·exact Cu h.l q k
 ·exact Cu h.o q k
 ·exact Cu h.d q k
 ·exact Cu h.r q k
 ·exact Cu h.x q k
 ·exact Cu h.q q k
theorem OwnB.neBox (h : OwnB w base S b) {q : Nat} (hq : q < base) : NotB S q:=notB_of fun k=>by have:=h.lies k; omega
theorem OwnB.neNew (h : OwnB w base S b) {q : Nat} {cs : Array Value} {T : TypeId} (N : New w w' q cs T) : NotB S q:=notB_of fun k=>by have:=h.lies k; have:=N.lo; omega
theorem OwnB.neHi (h : OwnB w base S b) {q : Nat} (hq : w.heap.size ≤ q) : NotB S q:=notB_of fun k=>by have:=h.lies k; omega
theorem OwnB.neBoard (h : OwnB w base S b) {q : Nat} {cs : Array Value} (hq : w.heap[q]? = some (.cells cs 32 (0,0))) : NotB S q :=
 ⟨Aq h.p hq (by decide),Aq h.l hq (by decide),Aq h.o hq (by decide),Aq h.d hq (by decide),Aq h.r hq (by decide),Aq h.x hq (by decide),Aq h.q hq (by decide)⟩
theorem OwnB.grown (h : OwnB w base S b) {row : Option Nat} (hg : w.grownBy w' row) (hm : ∀ q,row = some q → NotB S q) : OwnB w' base S b:=by
 have hk : ∀ q,HasB S q → w'.heap[q]? = w.heap[q]?:=fun q hq=>hg.block q (h.lies hq).2 (fun e=>not_hasB (hm q e.symm) hq)
 exact ⟨own_at h.p fun q e=>hk q (.inl e),own_at h.l fun q e=>hk q (.inr (.inl e)),own_at h.o fun q e=>hk q (.inr (.inr (.inl e))),own_at h.d fun q e=>hk q (.inr (.inr (.inr (.inl e)))),own_at h.r fun q e=>hk q (.inr (.inr (.inr (.inr (.inl e))))),own_at h.x fun q e=>hk q (.inr (.inr (.inr (.inr (.inr (.inl e)))))),own_at h.q fun q e=>hk q (.inr (.inr (.inr (.inr (.inr (.inr e)))))),h.px,h.pq,h.xq⟩
theorem OwnB.rowNew (h : OwnB w base S b) {w2 : World} {base2 size n c : Nat} {e : TypeId} {A : Option Addr} {xs : List Value} (ho : w2.ownsRow base2 e size (.slice A n c) n xs) (hle : w.heap.size ≤ base2) : ∀ q,A.map (·.block) = some q → NotB S q:=fun q hq=>notB_of fun k=>by
 have:=h.lies k;have:=(Cu ho q hq).1;omega
theorem OwnB.newRow (h : OwnB w base S b) {w2 : World} {base2 size n c : Nat} {e : TypeId} {A : Option Addr} {xs : List Value} (ho : w2.ownsRow base2 e size (.slice A n c) n xs) (hle : w2.heap.size ≤ base) : ∀ q,A.map (·.block) = some q → NotB S q:=fun q hq=>notB_of fun k=>by
 have:=h.lies k;have:=(Cu ho q hq).2;omega
theorem OwnB.wrote (h : OwnB w base S b) {q : Nat} {cs : Array Value} {T : TypeId} (W : Wrote w w' q cs T) (hn : NotB S q) : OwnB w' base S b :=
 ⟨Aa h.p W hn.1,Aa h.l W hn.2.1,Aa h.o W hn.2.2.1,Aa h.d W hn.2.2.2.1,Aa h.r W hn.2.2.2.2.1,Aa h.x W hn.2.2.2.2.2.1,Aa h.q W hn.2.2.2.2.2.2,h.px,h.pq,h.xq⟩
end
theorem bun_box {S : BSl} {g o : Nat} (h : NotB S g) : ∀ q,(some ⟨g,o,none⟩ : Option Addr).map (·.block) = some q → NotB S q:=fun q e=>by
 cases e;exact h
theorem apped_bun {w w' : World} {base base2 : Nat} {e : TypeId} {size n' c' : Nat} {A A' : Option Addr} {xs' : List Value} {S : BSl} {b : Ar} (h : Apped w w' base e size A A' n' c' xs') (hm : ∀ q,A.map (·.block) = some q → NotB S q) (ho : OwnB w base2 S b) : ∀ q,A'.map (·.block) = some q → NotB S q:=fun q hq=>by
 rcases h.lies q hq with h1 | h1
 ·exact hm q h1
 ·exact notB_of fun k=>by have:=ho.lies k; omega
end Go.Proofs.Ytoccapmoehdohaa
