/- Plain: boards as lists; when they are valid. No condition. -/
import Derived.Test.YtoccapmoehdohaaLimitRow
import Derived.Test.YtoccapmoehdohaaDoneRow
import Derived.Test.YtoccapmoehdohaaWaitingRow
import Derived.Test.YtoccapmoehdohaaKeepLaw
import Derived.Test.YtoccapmoehdohaaOrd
import Derived.Test.YtoccapmoehdohaaFlowMem
namespace Go.Proofs.Ytoccapmoehdohaa
open Go.RowKit _root_.Go.Proofs.Try
structure Ar where
 clk : Int
 ps : List Int
 safe : Bool
 ls : List Dv
 os : List Az
 ds : List Dw
 room : Int
 rs : List Av
 xs : List Int
 made : Int
 taken : Int
 qs : List Int
structure Sl where
 A : Option Addr
 n : Nat
 c : Nat
structure BSl where
 p : Sl
 l : Sl
 o : Sl
 d : Sl
 r : Sl
 x : Sl
 q : Sl
def bdV (S : BSl) (b : Ar) : Value:=.agg #[.int .i64 b.clk,.slice S.p.A S.p.n S.p.c,.bool b.safe,.slice S.l.A S.l.n S.l.c,.slice S.o.A S.o.n S.o.c,.slice S.d.A S.d.n S.d.c,.int .i64 b.room,.slice S.r.A S.r.n S.r.c,.slice S.x.A S.x.n S.x.c,.int .i64 b.made,.int .i64 b.taken,.slice S.q.A S.q.n S.q.c]
structure RdS (w : World) (size : Nat) (s : Sl) (flat : List Value) (len : Nat) : Prop where
 rd : Rd w size s.A s.n flat
 len : len = s.n
 nil : s.A = none → s.n = 0 ∧ s.c = 0
 cap : s.n ≤ s.c
theorem RdS.below {w w' : World} {size len : Nat} {s : Sl} {flat : List Value} (h : RdS w size s flat len) (hb : Below w.heap.size w w') : RdS w' size s flat len:=⟨h.rd.below hb,h.len,h.nil,h.cap⟩
structure RdB (w : World) (S : BSl) (b : Ar) : Prop where
 p : RdS w 1 S.p (b.ps.flatMap cI) b.ps.length
 l : RdS w 3 S.l (b.ls.flatMap Cd) b.ls.length
 o : RdS w 5 S.o (b.os.flatMap Ax) b.os.length
 d : RdS w 3 S.d (b.ds.flatMap Cs) b.ds.length
 r : RdS w 4 S.r (b.rs.flatMap Bo) b.rs.length
 x : RdS w 1 S.x (b.xs.flatMap cI) b.xs.length
 q : RdS w 1 S.q (b.qs.flatMap cI) b.qs.length
theorem RdB.below {w w' : World} {S : BSl} {b : Ar} (h : RdB w S b) (hb : Below w.heap.size w w') : RdB w' S b:=⟨h.p.below hb,h.l.below hb,h.o.below hb,h.d.below hb,h.r.below hb,h.x.below hb,h.q.below hb⟩
def Apart (A B : Option Addr) : Prop:=∀ b,A.map (·.block) = some b → B.map (·.block) ≠ some b
theorem Apart.symm {A B : Option Addr} (h : Apart A B) : Apart B A:=fun b h1 h2=>h b h2 h1
structure OwnB (w : World) (base : Nat) (S : BSl) (b : Ar) : Prop where
 p : w.ownsRow base 3 1 (.slice S.p.A S.p.n S.p.c) S.p.n (b.ps.flatMap cI)
 l : w.ownsRow base 36 3 (.slice S.l.A S.l.n S.l.c) S.l.n (b.ls.flatMap Cd)
 o : w.ownsRow base 45 5 (.slice S.o.A S.o.n S.o.c) S.o.n (b.os.flatMap Ax)
 d : w.ownsRow base 51 3 (.slice S.d.A S.d.n S.d.c) S.d.n (b.ds.flatMap Cs)
 r : w.ownsRow base 47 4 (.slice S.r.A S.r.n S.r.c) S.r.n (b.rs.flatMap Bo)
 x : w.ownsRow base 3 1 (.slice S.x.A S.x.n S.x.c) S.x.n (b.xs.flatMap cI)
 q : w.ownsRow base 3 1 (.slice S.q.A S.q.n S.q.c) S.q.n (b.qs.flatMap cI)
 px : Apart S.p.A S.x.A
 pq : Apart S.p.A S.q.A
 xq : Apart S.x.A S.q.A
theorem Bl {w : World} {base n c : Nat} {T : TypeId} {A : Option Addr} {xs : List Int} (h : w.ownsRow base T 1 (.slice A n c) n (xs.flatMap cI)) : xs.length = n:=by
 have:=h.1;rw [Bt cI 1 cI_len] at this;omega
theorem Au {α : Type} {enc : α → List Value} {size : Nat} (hs : 0 < size) (hl : ∀ a,(enc a).length = size) {w : World} {base n c : Nat} {T : TypeId} {A : Option Addr} {xs : List α} (h : w.ownsRow base T size (.slice A n c) n (xs.flatMap enc)) : xs.length = n:=by
 have:=h.1;rw [Bt enc size hl] at this;exact Nat.eq_of_mul_eq_mul_right hs this
theorem rdS_own {w : World} {base size : Nat} {T : TypeId} {s : Sl} {flat : List Value} {len : Nat} (h : w.ownsRow base T size (.slice s.A s.n s.c) s.n flat) (hl : len = s.n) : RdS w size s flat len :=
 ⟨Rd.of_own h,hl,Bz h,(Bw h).1⟩
theorem OwnB.rd {w : World} {base : Nat} {S : BSl} {b : Ar} (h : OwnB w base S b) : RdB w S b :=
 ⟨rdS_own h.p (Bl h.p),rdS_own h.l (Au (by decide) Cl h.l),rdS_own h.o (Au (by decide) Ay h.o),rdS_own h.d (Au (by decide) Cg h.d),rdS_own h.r (Au (by decide) Bs h.r),rdS_own h.x (Bl h.x),rdS_own h.q (Bl h.q)⟩
structure BdW (b : Ar) : Prop where
 ps : b.ps.length ≤ 1048576
 ls : b.ls.length ≤ 1048576
 os : b.os.length ≤ 1048576
 ds : b.ds.length ≤ 1048576
 rs : b.rs.length ≤ 1048576
 xs : b.xs.length ≤ 1048576
 qs : b.qs.length ≤ 1048576
 tx : ∀ z ∈ b.rs,Txt z.f3
theorem all_step {α : Type} {P : α → Bool} {xs : List α} {k : Nat} (hk : k < xs.length) (h : (xs.take k).all P = true) (h1 : P xs[k] = true) : (xs.take (k + 1)).all P = true:=by
 rw [List.take_succ_eq_append_getElem hk,List.all_append,h];simp [h1]
theorem all_fail {α : Type} {P : α → Bool} {xs : List α} {k : Nat} (hk : k < xs.length) (h1 : P xs[k] = false) : xs.all P = false:=by
 rw [List.all_eq_false];exact ⟨xs[k],List.getElem_mem hk,by simp [h1]⟩
theorem all_done {α : Type} {P : α → Bool} {xs : List α} {k : Nat} (hk : xs.length ≤ k) (h : (xs.take k).all P = true) : xs.all P = true:=by
 rw [List.take_of_length_le hk] at h;exact h
def limOk (x : Dv) : Bool:=inB x.f0 0 7 && (inB x.f1 0 65535 && inB x.f2 0 65535)
def dnOk (t : Int) (x : Dw) : Bool:=inB x.f0 0 (t - 1) && (inB x.f1 0 1000000 && inB x.f2 0 1)
def idxO (os : List Az) (m : Int) : Int:=match os.findIdx? (fun w=>decide (w.f0 = m)) with
 | some k=>(k : Int)
 | none=>-1
theorem idxO_at {os : List Az} {m : Int} {k : Nat} (hk : k < os.length) (h : os[k].f0 = m) (hno : ∀ j (hj : j < k),os[j].f0 ≠ m) : idxO os m = (k : Int):=by
 have : os.findIdx? (fun w=>decide (w.f0 = m)) = some k:=by
  rw [List.findIdx?_eq_some_iff_getElem];exact ⟨hk,by simp [h],fun j hj=>by simp [hno j hj]⟩
 unfold idxO;rw [this]
theorem idxO_none {os : List Az} {m : Int} (hno : ∀ j (hj : j < os.length),os[j].f0 ≠ m) : idxO os m = -1:=by
 have : os.findIdx? (fun w=>decide (w.f0 = m)) = none:=by
  rw [List.findIdx?_eq_none_iff];intro x hx;obtain ⟨j,hj,rfl⟩:=List.mem_iff_getElem.1 hx;simp [hno j hj]
 unfold idxO;rw [this]
theorem idxO_cases (os : List Az) (m : Int) : (idxO os m = -1 ∧ ∀ j (hj : j < os.length),os[j].f0 ≠ m) ∨ ∃ k,∃ hk : k < os.length,idxO os m = (k : Int) ∧ os[k].f0 = m ∧ ∀ j (hj : j < k),os[j].f0 ≠ m:=by
 by_cases h : ∀ j (hj : j < os.length),os[j].f0 ≠ m
 ·exact .inl ⟨idxO_none h,h⟩
 ·right
  have hex : ∃ j,∃ hj : j < os.length,os[j].f0 = m:=by
   simp only [Classical.not_forall,Classical.not_not] at h;exact h
  cases hf : os.findIdx? (fun w=>decide (w.f0 = m)) with
  | none =>
   exfalso
   obtain ⟨j,hj,e⟩:=hex;rw [List.findIdx?_eq_none_iff] at hf;have:=hf os[j] (List.getElem_mem hj);simp [e] at this
  | some k =>
   have h2:=hf;rw [List.findIdx?_eq_some_iff_getElem] at h2;obtain ⟨hk,h3,h4⟩:=h2;refine ⟨k,hk,by unfold idxO; rw [hf],by simpa using h3,fun j hj=>?_⟩;have:=h4 j hj
   simpa using this
def wAt (os : List Az) (k : Nat) : Az:=os.getD k default
theorem Di {os : List Az} {k : Nat} (hk : k < os.length) : wAt os k = os[k]:=by simp [wAt,hk]
def freshO (os : List Az) (k : Nat) : Bool:=decide (idxO os (wAt os k).f0 = (k : Int))
def sortO (os : List Az) (k : Nat) : Bool:=decide (k = 0) || !(decide ((wAt os k).f2 < (wAt os (k - 1)).f2) || (decide ((wAt os k).f2 = (wAt os (k - 1)).f2) && decide ((wAt os k).f0 < (wAt os (k - 1)).f0)))
def osAt (t : Int) (os : List Az) (k : Nat) : Bool:=Da (wAt os k).f1 (wAt os k).f2 (wAt os k).f3 (wAt os k).f4 && (inB (wAt os k).f0 0 (t - 1) && (freshO os k && sortO os k))
def osTo (t : Int) (os : List Az) (k : Nat) : Bool:=(List.range k).all (osAt t os)
theorem osTo_step {t : Int} {os : List Az} {k : Nat} (h : osTo t os k = true) (h1 : osAt t os k = true) : osTo t os (k + 1) = true:=by
 unfold osTo at h ⊢;rw [List.range_succ,List.all_append,h];simp [h1]
theorem osTo_fail {t : Int} {os : List Az} {k : Nat} (hk : k < os.length) (h1 : osAt t os k = false) : osTo t os os.length = false:=by
 unfold osTo;rw [List.all_eq_false];exact ⟨k,List.mem_range.2 hk,by simp [h1]⟩
def osOk (t : Int) (os : List Az) : Bool:=decide (os.length ≤ 40) && osTo t os os.length
def boOk (b : Ar) : Bool:=inB b.clk 0 1000000 && (decide (b.ps.length = 8) && (allB b.ps 0 65535 && (decide (b.ls.length ≤ 8) && (b.ls.all limOk && (inB b.made 0 65535 && (inB b.taken 0 65535 && (osOk b.taken b.os && (decide (b.ds.length ≤ 5000) && (b.ds.all (dnOk b.taken) && (rcOk b.room b.rs b.xs && (b.rs.all (fun r=>decide (r.f0 < b.made)) && (decide (b.qs.length ≤ 5000) && allB b.qs 0 7))))))))))))
structure BoOk (b : Ar) : Prop where
 clk : 0 ≤ b.clk ∧ b.clk ≤ 1000000
 psn : b.ps.length = 8
 psv : allB b.ps 0 65535 = true
 lsn : b.ls.length ≤ 8
 lsv : b.ls.all limOk = true
 made : 0 ≤ b.made ∧ b.made ≤ 65535
 taken : 0 ≤ b.taken ∧ b.taken ≤ 65535
 osv : osOk b.taken b.os = true
 osn : b.os.length ≤ 40
 dsn : b.ds.length ≤ 5000
 dsv : b.ds.all (dnOk b.taken) = true
 rc : rcOk b.room b.rs b.xs = true
 rsv : b.rs.all (fun r=>decide (r.f0 < b.made)) = true
 qsn : b.qs.length ≤ 5000
 qsv : allB b.qs 0 7 = true
theorem boOk_parts {b : Ar} (h : boOk b = true) : BoOk b:=by
 unfold boOk at h;simp only [Bool.and_eq_true,decide_eq_true_eq] at h;obtain ⟨h1,h2,h3,h4,h5,h6,h7,h8,h9,h10,h11,h12,h13,h14⟩:=h;have h8':=h8;unfold osOk at h8';simp only [Bool.and_eq_true,decide_eq_true_eq] at h8';exact ⟨Cw h1,h2,h3,h4,h5,Cw h6,Cw h7,h8,h8'.1,h9,h10,h11,h12,h13,h14⟩
theorem boOk_mk {b : Ar} (h : BoOk b) : boOk b = true:=by
 unfold boOk;rw [Es h.clk.1 h.clk.2,Es h.made.1 h.made.2,Es h.taken.1 h.taken.2,h.psv,h.lsv,h.osv,h.dsv,h.rc,h.rsv,h.qsv,Dt h.psn,Dt h.lsn,Dt h.dsn,Dt h.qsn]
 rfl
theorem boOk_w {b : Ar} (h : boOk b = true) : BdW b:=by
 have g:=boOk_parts h;have h1:=g.psn;have h2:=g.lsn;have h3:=g.osn;have h4:=g.dsn;have h5:=g.qsn;obtain ⟨r1,r2,r3,r4,_⟩:=rcOk_parts g.rc;have h6:=usedN_len b.rs;refine ⟨by omega,by omega,by omega,by omega,by omega,by omega,by omega,fun z hz=>?_⟩;obtain ⟨k,hk,rfl⟩:=List.mem_iff_getElem.1 hz;have:=(Ey (recOk_at r3 hk hk)).2.2.2;unfold Txt;omega
end Go.Proofs.Ytoccapmoehdohaa
