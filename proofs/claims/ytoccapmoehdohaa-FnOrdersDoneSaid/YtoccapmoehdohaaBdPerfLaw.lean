/- Plain: what the performing of an order makes of a board. No condition. -/
import Derived.Test.YtoccapmoehdohaaBdStep
import Derived.Test.YtoccapmoehdohaaKeepV
namespace Go.Proofs.Ytoccapmoehdohaa
open Go.RowKit _root_.Go.Proofs.Try
set_option linter.unusedSimpArgs false
set_option linter.unusedVariables false
theorem end0 {P : Program} {fn : Func} {R : Ending → World → Prop} {a : Act} {w : World} {n : Nat} (hs : St n a) (hr : fn.results = #[]) (hR : R (.returned (.tuple #[])) w) : bodyPost P fn R .normal a w:=by
 exact bodyPost_end (results_none hr _ _ _) hs.nodef hR
theorem ordOk_a {k t a b : Int} (h : Da k t a b = true) : (k = 0 → a ≤ 7) ∧ (k = 1 → a ≤ 3) ∧ (k = 3 → a ≤ 7):=by
 unfold Da at h;simp only [Bool.and_eq_true] at h;have h3:=Cw h.1.2;unfold topA at h3;refine ⟨fun e=>?_,fun e=>?_,fun e=>?_⟩ <;> subst e <;> simpa using h3.2
theorem allB_at {zs : List Int} {lo hi : Int} {k : Nat} (h : allB zs lo hi = true) (hk : k < zs.length) : lo ≤ zs[k] ∧ zs[k] ≤ hi:=by
 unfold allB at h;exact Cw (List.all_eq_true.1 h _ (List.getElem_mem hk))
def brk (p v : Int) (l : Dv) : Bool:=decide (l.f0 = p) && (decide (v < l.f1) || decide (l.f2 < v))
def setS (s : Bool) (ls : List Dv) (p v : Int) : Bool:=s || ls.any (brk p v)
theorem setS_nil (s : Bool) (p v : Int) : setS s [] p v = s:=by unfold setS; simp
theorem setS_yes {s : Bool} {ls : List Dv} {p v : Int} {k : Nat} (hk : k < ls.length) (h : brk p v ls[k] = true) : setS s (ls.take (k + 1)) p v = true:=by
 unfold setS;rw [List.take_succ_eq_append_getElem hk,List.any_append];simp [h]
theorem setS_no {s : Bool} {ls : List Dv} {p v : Int} {k : Nat} (hk : k < ls.length) (h : brk p v ls[k] = false) : setS s (ls.take (k + 1)) p v = setS s (ls.take k) p v:=by
 unfold setS;rw [List.take_succ_eq_append_getElem hk,List.any_append];simp [h]
def dataB (ps : List Int) : List UInt8:=ps.flatMap pw2
theorem dataB_len (ps : List Int) : (dataB ps).length = 2 * ps.length:=by
 unfold dataB
 induction ps with
 | nil=>rfl
 | cons p ps ih=>rw [List.flatMap_cons,List.length_append,ih,pw2_len,List.length_cons]; omega
theorem dataB_snoc {ps : List Int} {k : Nat} (hk : k < ps.length) : dataB (ps.take k) ++ pw2 ps[k] = dataB (ps.take (k + 1)):=by
 unfold dataB;rw [List.take_succ_eq_append_getElem hk,List.flatMap_append];simp
def recB (b : Ar) (p : Int) : Av:=⟨b.made,p,b.clk,dataB b.ps⟩
def Dl (b : Ar) (p : Int) : List Av × List Int:=Ed b.room b.rs b.xs (recB b p)
def Ec (b : Ar) (x : Az) : Ar × Int :=
 if x.f1 = 0 then (⟨b.clk,b.ps.set x.f3.toNat x.f4,setS b.safe b.ls x.f3 x.f4,b.ls,b.os,b.ds,b.room,b.rs,b.xs,b.made,b.taken,b.qs⟩,1)
 else if x.f1 = 1 then (if b.safe then (b,0) else (⟨b.clk,b.ps,b.safe,b.ls,b.os,b.ds,b.room,(Dl b x.f3).1,(Dl b x.f3).2,b.made + 1,b.taken,b.qs⟩,1))
 else if x.f1 = 2 then (⟨b.clk,b.ps,decide (x.f3 = 1),b.ls,b.os,b.ds,b.room,b.rs,b.xs,b.made,b.taken,b.qs⟩,1)
 else if x.f1 = 3 then (if b.safe then (b,0) else (⟨b.clk,b.ps,b.safe,b.ls,b.os,b.ds,b.room,b.rs,b.xs,b.made,b.taken,b.qs ++ [x.f3]⟩,1))
 else if idxO b.os x.f3 < 0 then (b,0)
 else (⟨b.clk,b.ps,b.safe,b.ls,b.os.eraseIdx (idxO b.os x.f3).toNat,b.ds ++ [⟨x.f3,b.clk,0⟩],b.room,b.rs,b.xs,b.made,b.taken,b.qs⟩,1)
def doneB (b : Ar) (x : Az) (r : Int) : Ar:=⟨b.clk,b.ps,b.safe,b.ls,b.os,b.ds ++ [⟨x.f0,b.clk,r⟩],b.room,b.rs,b.xs,b.made,b.taken,b.qs⟩
def Em (b : Ar) (x : Az) : Bool:=boOk b && (Da x.f1 x.f2 x.f3 x.f4 && (inB x.f0 0 (b.taken - 1) && decide (idxO b.os x.f0 < 0)))
def perfR (b : Ar) (x : Az) : Ar:=doneB (Ec b x).1 x (Ec b x).2
def Cf (b : Ar) (x : Az) : Ar:=if Em b x && boOk (perfR b x) then perfR b x else b
theorem bdPerf_no {b : Ar} {x : Az} (h : Em b x = false) : Cf b x = b:=by unfold Cf; rw [h]; rfl
theorem bdPerf_bad {b : Ar} {x : Az} (h : boOk (perfR b x) = false) : Cf b x = b:=by unfold Cf; rw [h]; simp
theorem bdPerf_yes {b : Ar} {x : Az} (h : Em b x = true) (h2 : boOk (perfR b x) = true) : Cf b x = perfR b x:=by unfold Cf; rw [h,h2]; rfl
theorem bdPerf_w {b : Ar} {x : Az} (h : BdW b) : BdW (Cf b x):=by
 unfold Cf
 split
 ·rename_i h1
  rw [Bool.and_eq_true] at h1;exact boOk_w h1.2
 ·exact h
section
variable {b : Ar} {x : Az}
theorem perf_set (h : x.f1 = 0) : Ec b x = (⟨b.clk,b.ps.set x.f3.toNat x.f4,setS b.safe b.ls x.f3 x.f4,b.ls,b.os,b.ds,b.room,b.rs,b.xs,b.made,b.taken,b.qs⟩,1):=by unfold Ec; rw [if_pos h]
theorem perf_rec (h0 : ¬ x.f1 = 0) (h : x.f1 = 1) (hs : b.safe = false) : Ec b x = (⟨b.clk,b.ps,b.safe,b.ls,b.os,b.ds,b.room,(Dl b x.f3).1,(Dl b x.f3).2,b.made + 1,b.taken,b.qs⟩,1):=by unfold Ec; rw [if_neg h0,if_pos h,hs]; rfl
theorem perf_rec0 (h0 : ¬ x.f1 = 0) (h : x.f1 = 1) (hs : b.safe = true) : Ec b x = (b,0):=by unfold Ec; rw [if_neg h0,if_pos h,hs]; rfl
theorem perf_safe (h0 : ¬ x.f1 = 0) (h1 : ¬ x.f1 = 1) (h : x.f1 = 2) : Ec b x = (⟨b.clk,b.ps,decide (x.f3 = 1),b.ls,b.os,b.ds,b.room,b.rs,b.xs,b.made,b.taken,b.qs⟩,1):=by unfold Ec; rw [if_neg h0,if_neg h1,if_pos h]
theorem perf_file (h0 : ¬ x.f1 = 0) (h1 : ¬ x.f1 = 1) (h2 : ¬ x.f1 = 2) (h : x.f1 = 3) (hs : b.safe = false) : Ec b x = (⟨b.clk,b.ps,b.safe,b.ls,b.os,b.ds,b.room,b.rs,b.xs,b.made,b.taken,b.qs ++ [x.f3]⟩,1):=by unfold Ec; rw [if_neg h0,if_neg h1,if_neg h2,if_pos h,hs]; rfl
theorem perf_file0 (h0 : ¬ x.f1 = 0) (h1 : ¬ x.f1 = 1) (h2 : ¬ x.f1 = 2) (h : x.f1 = 3) (hs : b.safe = true) : Ec b x = (b,0):=by unfold Ec; rw [if_neg h0,if_neg h1,if_neg h2,if_pos h,hs]; rfl
theorem perf_can0 (h0 : ¬ x.f1 = 0) (h1 : ¬ x.f1 = 1) (h2 : ¬ x.f1 = 2) (h3 : ¬ x.f1 = 3) (h : idxO b.os x.f3 < 0) : Ec b x = (b,0):=by unfold Ec; rw [if_neg h0,if_neg h1,if_neg h2,if_neg h3,if_pos h]
theorem perf_can (h0 : ¬ x.f1 = 0) (h1 : ¬ x.f1 = 1) (h2 : ¬ x.f1 = 2) (h3 : ¬ x.f1 = 3) {k : Nat} (h : idxO b.os x.f3 = (k : Int)) : Ec b x = (⟨b.clk,b.ps,b.safe,b.ls,b.os.eraseIdx k,b.ds ++ [⟨x.f3,b.clk,0⟩],b.room,b.rs,b.xs,b.made,b.taken,b.qs⟩,1):=by unfold Ec; rw [if_neg h0,if_neg h1,if_neg h2,if_neg h3,h,if_neg (by omega)]; rfl
theorem perfR_of {c : Ar} {r : Int} (h : Ec b x = (c,r)) : perfR b x = ⟨c.clk,c.ps,c.safe,c.ls,c.os,c.ds ++ [⟨x.f0,c.clk,r⟩],c.room,c.rs,c.xs,c.made,c.taken,c.qs⟩:=by unfold perfR; rw [h]; rfl
theorem brk_no1 {p v : Int} {l : Dv} (h : ¬ l.f0 = p) : brk p v l = false:=by unfold brk; rw [Df h]; rfl
theorem brk_no2 {p v : Int} {l : Dv} (h1 : ¬ v < l.f1) (h2 : ¬ l.f2 < v) : brk p v l = false:=by unfold brk; rw [Df h1,Df h2]; simp
theorem brk_1 {p v : Int} {l : Dv} (h : l.f0 = p) (h1 : v < l.f1) : brk p v l = true:=by unfold brk; rw [Dt h,Dt h1]; rfl
theorem brk_2 {p v : Int} {l : Dv} (h : l.f0 = p) (h1 : l.f2 < v) : brk p v l = true:=by unfold brk; rw [Dt h,Dt h1]; simp
end
end Go.Proofs.Ytoccapmoehdohaa
namespace Go.Proofs.Ytoccapmoehdohaa
open Go.RowKit _root_.Go.Proofs.Try
set_option linter.unusedSimpArgs false
set_option linter.unusedVariables false
def Eh (b : Ar) : Ar:=⟨b.clk,b.ps,b.safe,b.ls,b.os.tail,b.ds,b.room,b.rs,b.xs,b.made,b.taken,b.qs⟩
def dueB (b : Ar) : Bool:=decide (0 < b.os.length) && decide ((wAt b.os 0).f2 ≤ b.clk)
def tickN : Nat → Ar → Ar
 | 0,b=>b
 | n + 1,b=>if dueB b then tickN n (Cf (Eh b) (wAt b.os 0)) else b
def Ef (b : Ar) : Bool:=boOk b && (!decide (b.clk = 1000000) && (!decide (60000 < b.made) && (!decide (60000 < b.taken) && (!decide (4900 < ((b.ds.length : Nat) : Int)) && !decide (4900 < ((b.qs.length : Nat) : Int))))))
def nextB (b : Ar) : Ar:=⟨b.clk + 1,b.ps,b.safe,b.ls,b.os,b.ds,b.room,b.rs,b.xs,b.made,b.taken,b.qs⟩
def Ce (b : Ar) : Ar:=if Ef b then tickN b.os.length (nextB b) else b
theorem perfC_os (b : Ar) (x : Az) : (Ec b x).1.os.length ≤ b.os.length:=by
 unfold Ec
 repeat' split
 all_goals first | exact Nat.le_refl _ | (simp only [List.length_eraseIdx]; split <;> omega)
theorem bdPerf_os (b : Ar) (x : Az) : (Cf b x).os.length ≤ b.os.length:=by
 unfold Cf
 split
 ·exact perfC_os b x
 ·exact Nat.le_refl _
theorem tailB_w {b : Ar} (h : BdW b) : BdW (Eh b):=⟨h.ps,h.ls,by show b.os.tail.length ≤ _; rw [List.length_tail]; have:=h.os; omega,h.ds,h.rs,h.xs,h.qs,h.tx⟩
theorem tickN_w {b : Ar} (h : BdW b) : ∀ n,BdW (tickN n b):=fun n=>by
 induction n generalizing b with
 | zero=>exact h
 | succ n ih =>
  unfold tickN
  split
  ·exact ih (bdPerf_w (tailB_w h))
  ·exact h
theorem nextB_w {b : Ar} (h : BdW b) : BdW (nextB b):=⟨h.ps,h.ls,h.os,h.ds,h.rs,h.xs,h.qs,h.tx⟩
theorem bdTick_w {b : Ar} (h : BdW b) : BdW (Ce b):=by
 unfold Ce
 split
 ·exact tickN_w (nextB_w h) _
 ·exact h
theorem tick_no {b : Ar} (h : Ef b = false) : Ce b = b:=by unfold Ce; rw [h]; rfl
theorem tick_yes {b : Ar} (h : Ef b = true) : Ce b = tickN b.os.length (nextB b):=by unfold Ce; rw [if_pos h]
theorem tick_go {m : Nat} {c R : Ar} (h : tickN m c = R ∧ c.os.length ≤ m) (hl : 0 < c.os.length) (hd : (c.os[0]).f2 ≤ c.clk) : ∃ m',tickN m' (Cf (Eh c) (c.os[0])) = R ∧ (Cf (Eh c) (c.os[0])).os.length ≤ m':=by
 obtain ⟨h1,h2⟩:=h;obtain ⟨k,rfl⟩ : ∃ k,m = k + 1:=⟨m - 1,by omega⟩
 refine ⟨k,?_,?_⟩
 ·rw [← h1,tickN,dueB,Di hl,Dt hl,Dt hd]
  rfl
 ·have h3:=bdPerf_os (Eh c) (c.os[0]);have h4 : (Eh c).os.length = c.os.length - 1:=by unfold Eh; exact List.length_tail
  omega
theorem tick_end {m : Nat} {c R : Ar} (h : tickN m c = R ∧ c.os.length ≤ m) (hd : ¬ (0 < c.os.length) ∨ ∃ hl : 0 < c.os.length,¬ (c.os[0]).f2 ≤ c.clk) : c = R:=by
 rw [← h.1];cases m with
 | zero=>rfl
 | succ m =>
  have : dueB c = false:=by
   unfold dueB;rcases hd with hd | ⟨hl,hd⟩
   ·rw [Df hd]; rfl
   ·rw [Di hl,Df hd,Bool.and_false]
  rw [tickN,this]
  rfl
end Go.Proofs.Ytoccapmoehdohaa
namespace Go.Proofs.Ytoccapmoehdohaa
open Go.RowKit _root_.Go.Proofs.Try
set_option linter.unusedSimpArgs false
set_option linter.unusedVariables false
def runN (b : Ar) : Nat → Ar
 | 0=>b
 | k + 1=>Ce (runN b k)
def bdRun (b : Ar) (n : Int) : Ar:=if inB n 0 5000 then runN b n.toNat else b
theorem run_no {b : Ar} {n : Int} (h : inB n 0 5000 = false) : bdRun b n = b:=by unfold bdRun; rw [h]; rfl
theorem run_yes {b : Ar} {n : Int} {k : Nat} (h : inB n 0 5000 = true) (hk : (k : Int) = n) : runN b k = bdRun b n:=by
 subst hk;unfold bdRun;rw [if_pos h,Int.toNat_natCast]
end Go.Proofs.Ytoccapmoehdohaa
