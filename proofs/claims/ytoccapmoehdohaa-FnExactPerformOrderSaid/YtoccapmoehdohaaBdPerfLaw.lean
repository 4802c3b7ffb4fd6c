/- Plain: what the performing of an order makes of a board. No condition. -/
import Derived.Test.YtoccapmoehdohaaBdStep
import Derived.Test.YtoccapmoehdohaaKeepV
namespace Go.Proofs.Ytoccapmoehdohaa
open Go.RowKit _root_.Go.Proofs.Try
set_option linter.unusedSimpArgs false
set_option linter.unusedVariables false
theorem end0 {P : Program} {fn : Func} {R : Ending → World → Prop} {a : Act} {w : World} {n : Nat} (hs : St n a) (hr : fn.results = #[]) (hR : R (.returned (.tuple #[])) w) : bodyPost P fn R .normal a w:=by
 exact bodyPost_end (results_none hr _ _ _) hs.nodef hR
theorem ordOk_a {k t a b : Int} (h : Dr k t a b = true) : (k = 0 → a ≤ 7) ∧ (k = 1 → a ≤ 3) ∧ (k = 3 → a ≤ 7):=by
 unfold Dr at h;simp only [Bool.and_eq_true] at h;have h3:=Dk h.1.2;unfold topA at h3;refine ⟨fun e=>?_,fun e=>?_,fun e=>?_⟩ <;> subst e <;> simpa using h3.2
theorem allB_at {zs : List Int} {lo hi : Int} {k : Nat} (h : allB zs lo hi = true) (hk : k < zs.length) : lo ≤ zs[k] ∧ zs[k] ≤ hi:=by
 unfold allB at h;exact Dk (List.all_eq_true.1 h _ (List.getElem_mem hk))
def brk (p v : Int) (l : Es) : Bool:=decide (l.f0 = p) && (decide (v < l.f1) || decide (l.f2 < v))
def setS (s : Bool) (ls : List Es) (p v : Int) : Bool:=s || ls.any (brk p v)
theorem setS_nil (s : Bool) (p v : Int) : setS s [] p v = s:=by unfold setS; simp
theorem setS_yes {s : Bool} {ls : List Es} {p v : Int} {k : Nat} (hk : k < ls.length) (h : brk p v ls[k] = true) : setS s (ls.take (k + 1)) p v = true:=by
 unfold setS;rw [List.take_succ_eq_append_getElem hk,List.any_append];simp [h]
theorem setS_no {s : Bool} {ls : List Es} {p v : Int} {k : Nat} (hk : k < ls.length) (h : brk p v ls[k] = false) : setS s (ls.take (k + 1)) p v = setS s (ls.take k) p v:=by
 unfold setS;rw [List.take_succ_eq_append_getElem hk,List.any_append];simp [h]
def dataB (ps : List Int) : List UInt8:=ps.flatMap pw2
theorem dataB_len (ps : List Int) : (dataB ps).length = 2 * ps.length:=by
 unfold dataB
 induction ps with
 | nil=>rfl
 | cons p ps ih=>rw [List.flatMap_cons,List.length_append,ih,pw2_len,List.length_cons]; omega
theorem dataB_snoc {ps : List Int} {k : Nat} (hk : k < ps.length) : dataB (ps.take k) ++ pw2 ps[k] = dataB (ps.take (k + 1)):=by
 unfold dataB;rw [List.take_succ_eq_append_getElem hk,List.flatMap_append];simp
def recB (b : Bv) (p : Int) : Aw:=⟨b.made,p,b.clk,dataB b.ps⟩
def Cu (b : Bv) (p : Int) : List Aw × List Int:=Em b.room b.rs b.xs (recB b p)
def Fh (b : Bv) (x : Bt) : Bv × Int :=
 if x.f1 = 0 then (⟨b.clk,b.ps.set x.f3.toNat x.f4,setS b.safe b.ls x.f3 x.f4,b.ls,b.os,b.ds,b.room,b.rs,b.xs,b.made,b.taken,b.qs⟩,1)
 else if x.f1 = 1 then (if b.safe then (b,0) else (⟨b.clk,b.ps,b.safe,b.ls,b.os,b.ds,b.room,(Cu b x.f3).1,(Cu b x.f3).2,b.made + 1,b.taken,b.qs⟩,1))
 else if x.f1 = 2 then (⟨b.clk,b.ps,decide (x.f3 = 1),b.ls,b.os,b.ds,b.room,b.rs,b.xs,b.made,b.taken,b.qs⟩,1)
 else if x.f1 = 3 then (if b.safe then (b,0) else (⟨b.clk,b.ps,b.safe,b.ls,b.os,b.ds,b.room,b.rs,b.xs,b.made,b.taken,b.qs ++ [x.f3]⟩,1))
 else if idxO b.os x.f3 < 0 then (b,0)
 else (⟨b.clk,b.ps,b.safe,b.ls,b.os.eraseIdx (idxO b.os x.f3).toNat,b.ds ++ [⟨x.f3,b.clk,0⟩],b.room,b.rs,b.xs,b.made,b.taken,b.qs⟩,1)
def doneB (b : Bv) (x : Bt) (r : Int) : Bv:=⟨b.clk,b.ps,b.safe,b.ls,b.os,b.ds ++ [⟨x.f0,b.clk,r⟩],b.room,b.rs,b.xs,b.made,b.taken,b.qs⟩
def Dz (b : Bv) (x : Bt) : Bool:=boOk b && (Dr x.f1 x.f2 x.f3 x.f4 && (inB x.f0 0 (b.taken - 1) && decide (idxO b.os x.f0 < 0)))
def perfR (b : Bv) (x : Bt) : Bv:=doneB (Fh b x).1 x (Fh b x).2
def De (b : Bv) (x : Bt) : Bv:=if Dz b x && boOk (perfR b x) then perfR b x else b
theorem Fu {b : Bv} {x : Bt} (h : Dz b x = false) : De b x = b:=by unfold De; rw [h]; rfl
theorem bdPerf_bad {b : Bv} {x : Bt} (h : boOk (perfR b x) = false) : De b x = b:=by unfold De; rw [h]; simp
theorem bdPerf_yes {b : Bv} {x : Bt} (h : Dz b x = true) (h2 : boOk (perfR b x) = true) : De b x = perfR b x:=by unfold De; rw [h,h2]; rfl
theorem bdPerf_w {b : Bv} {x : Bt} (h : BdW b) : BdW (De b x):=by
 unfold De
 split
 ·rename_i h1
  rw [Bool.and_eq_true] at h1;exact boOk_w h1.2
 ·exact h
section
variable {b : Bv} {x : Bt}
theorem perf_set (h : x.f1 = 0) : Fh b x = (⟨b.clk,b.ps.set x.f3.toNat x.f4,setS b.safe b.ls x.f3 x.f4,b.ls,b.os,b.ds,b.room,b.rs,b.xs,b.made,b.taken,b.qs⟩,1):=by unfold Fh; rw [if_pos h]
theorem perf_rec (h0 : ¬ x.f1 = 0) (h : x.f1 = 1) (hs : b.safe = false) : Fh b x = (⟨b.clk,b.ps,b.safe,b.ls,b.os,b.ds,b.room,(Cu b x.f3).1,(Cu b x.f3).2,b.made + 1,b.taken,b.qs⟩,1):=by unfold Fh; rw [if_neg h0,if_pos h,hs]; rfl
theorem perf_rec0 (h0 : ¬ x.f1 = 0) (h : x.f1 = 1) (hs : b.safe = true) : Fh b x = (b,0):=by unfold Fh; rw [if_neg h0,if_pos h,hs]; rfl
theorem perf_safe (h0 : ¬ x.f1 = 0) (h1 : ¬ x.f1 = 1) (h : x.f1 = 2) : Fh b x = (⟨b.clk,b.ps,decide (x.f3 = 1),b.ls,b.os,b.ds,b.room,b.rs,b.xs,b.made,b.taken,b.qs⟩,1):=by unfold Fh; rw [if_neg h0,if_neg h1,if_pos h]
theorem perf_file (h0 : ¬ x.f1 = 0) (h1 : ¬ x.f1 = 1) (h2 : ¬ x.f1 = 2) (h : x.f1 = 3) (hs : b.safe = false) : Fh b x = (⟨b.clk,b.ps,b.safe,b.ls,b.os,b.ds,b.room,b.rs,b.xs,b.made,b.taken,b.qs ++ [x.f3]⟩,1):=by unfold Fh; rw [if_neg h0,if_neg h1,if_neg h2,if_pos h,hs]; rfl
theorem perf_file0 (h0 : ¬ x.f1 = 0) (h1 : ¬ x.f1 = 1) (h2 : ¬ x.f1 = 2) (h : x.f1 = 3) (hs : b.safe = true) : Fh b x = (b,0):=by unfold Fh; rw [if_neg h0,if_neg h1,if_neg h2,if_pos h,hs]; rfl
theorem perf_can0 (h0 : ¬ x.f1 = 0) (h1 : ¬ x.f1 = 1) (h2 : ¬ x.f1 = 2) (h3 : ¬ x.f1 = 3) (h : idxO b.os x.f3 < 0) : Fh b x = (b,0):=by unfold Fh; rw [if_neg h0,if_neg h1,if_neg h2,if_neg h3,if_pos h]
theorem perf_can (h0 : ¬ x.f1 = 0) (h1 : ¬ x.f1 = 1) (h2 : ¬ x.f1 = 2) (h3 : ¬ x.f1 = 3) {k : Nat} (h : idxO b.os x.f3 = (k : Int)) : Fh b x = (⟨b.clk,b.ps,b.safe,b.ls,b.os.eraseIdx k,b.ds ++ [⟨x.f3,b.clk,0⟩],b.room,b.rs,b.xs,b.made,b.taken,b.qs⟩,1):=by unfold Fh; rw [if_neg h0,if_neg h1,if_neg h2,if_neg h3,h,if_neg (by omega)]; rfl
theorem perfR_of {c : Bv} {r : Int} (h : Fh b x = (c,r)) : perfR b x = ⟨c.clk,c.ps,c.safe,c.ls,c.os,c.ds ++ [⟨x.f0,c.clk,r⟩],c.room,c.rs,c.xs,c.made,c.taken,c.qs⟩:=by unfold perfR; rw [h]; rfl
theorem brk_no1 {p v : Int} {l : Es} (h : ¬ l.f0 = p) : brk p v l = false:=by unfold brk; rw [Df h]; rfl
theorem brk_no2 {p v : Int} {l : Es} (h1 : ¬ v < l.f1) (h2 : ¬ l.f2 < v) : brk p v l = false:=by unfold brk; rw [Df h1,Df h2]; simp
theorem brk_1 {p v : Int} {l : Es} (h : l.f0 = p) (h1 : v < l.f1) : brk p v l = true:=by unfold brk; rw [Dt h,Dt h1]; rfl
theorem brk_2 {p v : Int} {l : Es} (h : l.f0 = p) (h1 : l.f2 < v) : brk p v l = true:=by unfold brk; rw [Dt h,Dt h1]; simp
end
end Go.Proofs.Ytoccapmoehdohaa
