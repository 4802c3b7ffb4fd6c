/- Rows of Dones: contracts of the statements' helpers. Written by a program of ours (rows.py). No condition. -/
import Derived.Test.YtoccapmoehdohaaBase
import Derived.Test.YtoccapmoehdohaaOpen
import Derived.Test.YtoccapmoehdohaaAppend
namespace Go.Proofs.Ytoccapmoehdohaa
open Go.RowKit
structure Ey where
 f0 : Int
 f1 : Int
 f2 : Int
instance : Inhabited Ey:=⟨⟨0,0,0⟩⟩
def Ch (r : Ey) : List Value:=[.int .i64 r.f0,.int .i64 r.f1,.int .i64 r.f2]
theorem Dg (r : Ey) : (Ch r).length = 3:=rfl
theorem cDone_one (r : Ey) : ∀ u ∈ Ch r,u.oneCell' = true:=by intro u hu; simp only [Ch,List.mem_cons,List.not_mem_nil,or_false] at hu; rcases hu with rfl | rfl | rfl <;> rfl
def wfDone (r : Ey) : Prop:=I64 r.f0 ∧ I64 r.f1 ∧ I64 r.f2
open Go.ChangeShapes in
theorem el_Done {H : Type} {enc : TypeId × Value → H} {w : World} {held : Bool} {fuel : Nat} {cs : List Value} {x : DataW H × List MemPlace}
  (h : DataW.trod enc Try.prog w 0 (fun _=>true) held fuel 130 cs = some x) : ∃ r,cs = Ch r ∧ wfDone r:=by
 obtain ⟨hlen,m,hf⟩:=Fd Try.underlying130 h;have hC : Try.prog.cellsOf 130 = 3:=by kernel_rfl
 rw [hC] at hlen;obtain ⟨y0,e0⟩:=hf 0 3 0 1 (by kernel_rfl);obtain ⟨y1,e1⟩:=hf 1 3 1 1 (by kernel_rfl);obtain ⟨y2,e2⟩:=hf 2 3 2 1 (by kernel_rfl)
 match cs,hlen with
 | [c0,c1,c2],_ =>
  obtain ⟨a0,q0,w0⟩:=Er Try.underlying3 e0;obtain ⟨a1,q1,w1⟩:=Er Try.underlying3 e1;obtain ⟨a2,q2,w2⟩:=Er Try.underlying3 e2;simp [cI] at q0 q1 q2;subst q0 q1 q2;exact ⟨⟨a0,a1,a2⟩,rfl,w0,w1,w2⟩
theorem toDone_any (x0 : Int) (x1 : Int) (x2 : Int) (w : World) :
  Calls Try.prog 99 #[.agg #[.int .i64 x0,.int .i64 x1,.int .i64 x2]] w fun e w'=>e = .returned (.agg #[.int .i64 x0,.int .i64 x1,.int .i64 x2]) ∧ Below w.heap.size w w':=by
 go_enter Try.func99,Try.ntmps99
 go_wp2
 refine bodyPost_ret (v:=.agg #[.int .i64 x0,.int .i64 x1,.int .i64 x2]) (by simp [results,Try.results99,go_sem]) rfl ⟨rfl,?_⟩
 repeat (first | exact Below.refl _ _ | refine Below.setCell ?_ (by simp <;> omega) _ | refine Below.alloc ?_ (by simp <;> omega) _)
theorem eqDone_same (x0 : Int) (x1 : Int) (x2 : Int) (w : World) :
  Calls Try.prog 102 #[.agg #[.int .i64 x0,.int .i64 x1,.int .i64 x2],.agg #[.int .i64 x0,.int .i64 x1,.int .i64 x2]] w fun e w'=>e = .returned (.bool true) ∧ Below w.heap.size w w':=by
 go_enter Try.func102,Try.ntmps102
 go_wp2
 go_ret
 exact ⟨rfl,((Below.refl _ _).alloc (Nat.le_refl _) _).alloc (by simp) _⟩
theorem infoDone : (Try.prog.info? 51).map (fun i=>(i.zero,i.size,i.bytes)) = some (some (.agg #[.int .i64 0,.int .i64 0,.int .i64 0]),3,24):=by kernel_rfl
theorem toDoneS_any (A : Option Addr) (n c : Nat) (zs : List Ey) (w : World) (hn : zs.length = n) (hm : n ≤ 1048576) (hr : Rd w 3 A n (zs.flatMap Ch)) :
  Calls Try.prog 63 #[.slice A n c] w fun e w'=>∃ g,e = .returned (.slice (some ⟨g,0,none⟩) n n) ∧ w'.ownsRow w.heap.size 51 3 (.slice (some ⟨g,0,none⟩) n n) n (zs.flatMap Ch) ∧ Below w.heap.size w w':=by
 subst hn;obtain ⟨i0,hi,hz0,hz1,hz2⟩:=info_parts infoDone
 go_enter Try.func63,Try.ntmps63
 go_wp2_with (with_reducible refine wpList_make_full _ rfl (.tmp 6) (.tmp 6) 27 rfl w.heap.size 51 i0 (.agg #[.int .i64 0,.int .i64 0,.int .i64 0]) 3 Try.underlying27 hi hz0 hz1 .i64 .i64 (zs.length : Int) (zs.length : Int) zs.length rfl rfl rfl rfl (by rw [hz2]; omega) (by unfold maxLen; omega) (Nat.le_refl _) ?_; intro w1 hown1 hg1)
 have hB1 : Below w.heap.size w w1:=(Below.refl _ _).grown hg1 (Nat.le_refl _) (by simp);obtain ⟨R,hR⟩ : ∃ R,R = (madeCells (Value.agg #[.int .i64 0,.int .i64 0,.int .i64 0]).cells (zs.length * 3)).toList:=⟨_,rfl⟩
 have hown2 : w1.ownsRow w.heap.size 51 3 (.slice (some ⟨w.heap.size,0,none⟩) zs.length zs.length) zs.length ((zs.take 0).flatMap Ch ++ R.drop (0 * 3)):=by
  rw [hR]
  simpa using hown1
 have hRl : R.length = zs.length * 3:=by
  have:=hown2.1
  simpa using this
 clear hown1 hg1 hR
 go_loopw [4] (fun i wr=>∃ k : Nat,k ≤ zs.length ∧ i = .int .i64 k ∧ wr.ownsRow w.heap.size 51 3 (.slice (some ⟨w.heap.size,0,none⟩) zs.length zs.length) zs.length ((zs.take k).flatMap Ch ++ R.drop (k * 3)) ∧ Below w.heap.size w wr) (fun i _=>zs.length - (intOf i).toNat)
 case atStart=>exact ⟨0,Nat.zero_le _,rfl,hown2,hB1⟩
 case round =>
  obtain ⟨k,hk,rfl,hown,hB⟩:=hrel;clear hown2 hB1;by_cases hlt : k < zs.length
  ·obtain ⟨b,o,rfl,hb,hc⟩:=Rd.get Dg (hr.below hB) rfl hlt;have hc0 : wr.cell? ⟨b,o + k * 3,none⟩ = some (.int .i64 zs[k].f0):=hc 0 _ (by omega) rfl;have hc1 : wr.cell? ⟨b,o + k * 3 + 1,none⟩ = some (.int .i64 zs[k].f1):=hc 1 _ (by omega) rfl;have hc2 : wr.cell? ⟨b,o + k * 3 + 2,none⟩ = some (.int .i64 zs[k].f2):=hc 2 _ (by omega) rfl
   go_wp2_with fail
   refine (toDone_any _ _ _ _).mono ?_;rintro e w1 ⟨rfl,hb1⟩;have hown1:=Ad hown hb1;have hBn:=Cb hB hb1;have hPl : ((zs.take k).flatMap Ch).length = k * 3:=by rw [Cd Ch 3 Dg,List.length_take_of_le (by omega)]
   have hd0 : w1.cell? ⟨w.heap.size,k * 3,none⟩ = some (R[k * 3]'(by omega)):=(hown1.cellAt (k * 3) (by omega)).trans (Cz hPl (by omega) (by omega));have hf0:=hown1.frozenAt (k * 3);have hd1 : w1.cell? ⟨w.heap.size,k * 3 + 1,none⟩ = some (R[k * 3 + 1]'(by omega)):=(hown1.cellAt (k * 3 + 1) (by omega)).trans (Cz hPl (by omega) (by omega));have hf1:=hown1.frozenAt (k * 3 + 1);have hd2 : w1.cell? ⟨w.heap.size,k * 3 + 2,none⟩ = some (R[k * 3 + 2]'(by omega)):=(hown1.cellAt (k * 3 + 2) (by omega)).trans (Cz hPl (by omega) (by omega));have hf2:=hown1.frozenAt (k * 3 + 2);have hs0:=(hown1).stored (k * 3) (.int .i64 zs[k].f0);rw [Cy hPl (by omega)] at hs0;have hs1:=(hs0.1).stored (k * 3 + 1) (.int .i64 zs[k].f1);rw [Cy (by simp only [List.length_append,List.length_cons,List.length_nil,hPl]) (by omega)] at hs1;have hs2:=(hs1.1).stored (k * 3 + 2) (.int .i64 zs[k].f2);rw [Cy (by simp only [List.length_append,List.length_cons,List.length_nil,hPl]) (by omega)] at hs2;have hlist : (zs.take k).flatMap Ch ++ [.int .i64 zs[k].f0] ++ [.int .i64 zs[k].f1] ++ [.int .i64 zs[k].f2] = (zs.take (k + 1)).flatMap Ch:=by
    rw [flatMap_take Ch hlt]; simp only [List.append_assoc]; rfl
   rw [hlist,show k * 3 + 2 + 1 = (k + 1) * 3 from by omega] at hs2;have hst:=Lib.hid hs2.1;have hgr:=Lib.hid (Bn (Bn (hs0.2) hs1.2) hs2.2);clear hown1 hown hlist hs0 hs1 hs2
   generalize R[k * 3]'_ = old0 at hd0
   generalize R[k * 3 + 1]'_ = old1 at hd1
   generalize R[k * 3 + 2]'_ = old2 at hd2
   go_wp2
   go_roundw
   case rel=>exact ⟨k + 1,by omega,by go_num,hst.out,hBn.grown hgr.out hBn.size (by simp)⟩
   case measure=>simp [intOf]; omega
  ·obtain rfl : k = zs.length:=by omega
   rw [List.take_length,List.drop_of_length_le (by omega),List.append_nil] at hown
   go_wp2
   go_ret
   exact ⟨w.heap.size,rfl,hown,hB⟩
theorem Fg (zs : List Ey) : ∀ u ∈ zs.flatMap Ch,u.oneCell' = true:=by
 intro u hu;obtain ⟨r,_,hr⟩:=List.mem_flatMap.1 hu;exact cDone_one r u hr
theorem cloneDone_any (A : Option Addr) (n c : Nat) (zs : List Ey) (w : World) (hn : zs.length = n) (hm : n ≤ 1048577) (hr : Rd w 3 A n (zs.flatMap Ch)) :
  Calls Try.prog 86 #[.slice A n c] w fun e w'=>∃ A' c',e = .returned (.slice A' n c') ∧ w'.ownsRow w.heap.size 51 3 (.slice A' n c') n (zs.flatMap Ch) ∧ Below w.heap.size w w':=by
 have q : ∀ (w : World) (a : Option Addr) (n c n' c' : Nat),(binOp .eql 27 (.slice a n c) (.slice none n' c')).run Try.prog w = .ok (.bool a.isNone) w:=fun w a n c n' c'=>Lib.run_eql_slice_nil w _ _ a n c n' c' Try.underlying27
 subst hn;cases A with
 | none =>
  obtain rfl : zs = []:=by
   cases zs with
   | nil=>rfl
   | cons z l =>
    obtain ⟨b,o,h0,_⟩:=hr.2 (by simp);cases h0
  go_enter Try.func86,Try.ntmps86
  go_wp2
  go_ret
  exact ⟨none,0,rfl,World.ownsRow_nil _ _ _ _,Below.refl _ _⟩
 | some ad =>
  go_enter Try.func86,Try.ntmps86
  go_wp2_with (at_builtin; refine Fc _ rfl (.tmp 5) (.tmp 6) 27 rfl 51 (.agg #[.int .i64 0,.int .i64 0,.int .i64 0]) 3 24 Try.underlying27 infoDone rfl (by decide) w.heap.size _ 0 0 [] rfl (World.ownsRow_made w #[] 0 (Nat.le_refl _) (Nat.zero_le _) rfl) (some ad) zs.length c (zs.flatMap Ch) rfl (fun h=>by cases h) (hr.alloc _) (Fg zs) (by omega) (by simp) ?_; intro A1 c1 w1 hown1 _ hB1)
  simp only [Nat.zero_add,List.nil_append] at hown1
  go_wp2
  go_ret
  exact ⟨A1,c1,by simp,hown1,((Below.refl _ _).alloc (Nat.le_refl _) _).trans hB1⟩
theorem szDoneS_any (A : Option Addr) (n c : Nat) (left : Int) (w : World) (hm : n ≤ 9223372036854775807) (h0 : 0 ≤ left) (h1 : left ≤ 1048576) :
  Calls Try.prog 56 #[.slice A n c,.int .i64 left] w fun e w'=>∃ q : Int,e = .returned (.int .i64 q) ∧ -1 ≤ q ∧ q ≤ left ∧ (0 ≤ q → n ≤ 1048576) ∧ w = w':=by
 by_cases hbig : left - n < 0
 ·go_enter Try.func56,Try.ntmps56
  go_wp2
  go_ret
  exact ⟨-1,rfl,by omega,by omega,by omega,rfl⟩
 ·go_enter Try.func56,Try.ntmps56
  go_wp2
  go_ret
  exact ⟨_,rfl,by omega,by omega,fun _=>by omega,rfl⟩
theorem eqDoneS_same (A B : Option Addr) (n m c d : Nat) (zs : List Ey) (w : World) (hn : zs.length = n) (hm : zs.length = m) (hb : n ≤ 4611686018427387904) (hr : Rd w 3 A n (zs.flatMap Ch)) (hs : Rd w 3 B m (zs.flatMap Ch)) :
  Calls Try.prog 67 #[.slice A n c,.slice B m d] w fun e w'=>e = .returned (.bool true) ∧ Below w.heap.size w w':=by
 subst hn;subst hm
 go_enter Try.func67,Try.ntmps67
 go_wp2_with fail
 go_loopw [5] (fun i wr=>∃ k : Nat,k ≤ zs.length ∧ i = .int .i64 k ∧ Below w.heap.size w wr) (fun i _=>zs.length - (intOf i).toNat)
 case atStart=>exact ⟨0,Nat.zero_le _,rfl,Below.refl _ _⟩
 case round =>
  obtain ⟨k,hk,rfl,hB⟩:=hrel;by_cases hlt : k < zs.length
  ·obtain ⟨b,o,rfl,hb,hc⟩:=Rd.get Dg (hr.below hB) rfl hlt;obtain ⟨b',o',rfl,hb',hd⟩:=Rd.get Dg (hs.below hB) rfl hlt;have k0 : (0 : Int) ≤ k:=by omega
   have k1 : (k : Int) < zs.length:=by omega
   have hc0 : wr.cell? ⟨b,o + k * 3,none⟩ = some (.int .i64 zs[k].f0):=hc 0 _ (by omega) rfl;have hc1 : wr.cell? ⟨b,o + k * 3 + 1,none⟩ = some (.int .i64 zs[k].f1):=hc 1 _ (by omega) rfl;have hc2 : wr.cell? ⟨b,o + k * 3 + 2,none⟩ = some (.int .i64 zs[k].f2):=hc 2 _ (by omega) rfl;have hd0 : wr.cell? ⟨b',o' + k * 3,none⟩ = some (.int .i64 zs[k].f0):=hd 0 _ (by omega) rfl;have hd1 : wr.cell? ⟨b',o' + k * 3 + 1,none⟩ = some (.int .i64 zs[k].f1):=hd 1 _ (by omega) rfl;have hd2 : wr.cell? ⟨b',o' + k * 3 + 2,none⟩ = some (.int .i64 zs[k].f2):=hd 2 _ (by omega) rfl;clear hc hd
   go_wp2_with fail
   have HK : Hid (∀ wx,Below wr.heap.size wr wx → (Below wr.heap.size wr wx ∧ wx.cell? ⟨b,o + k * 3,none⟩ = some (.int .i64 zs[k].f0) ∧ wx.cell? ⟨b,o + k * 3 + 1,none⟩ = some (.int .i64 zs[k].f1) ∧ wx.cell? ⟨b,o + k * 3 + 2,none⟩ = some (.int .i64 zs[k].f2) ∧ wx.cell? ⟨b',o' + k * 3,none⟩ = some (.int .i64 zs[k].f0) ∧ wx.cell? ⟨b',o' + k * 3 + 1,none⟩ = some (.int .i64 zs[k].f1) ∧ wx.cell? ⟨b',o' + k * 3 + 2,none⟩ = some (.int .i64 zs[k].f2))):=Lib.hid (fun wx h=>⟨h,(h.cell (p:=⟨b,o + k * 3,none⟩) hb).trans hc0,(h.cell (p:=⟨b,o + k * 3 + 1,none⟩) hb).trans hc1,(h.cell (p:=⟨b,o + k * 3 + 2,none⟩) hb).trans hc2,(h.cell (p:=⟨b',o' + k * 3,none⟩) hb').trans hd0,(h.cell (p:=⟨b',o' + k * 3 + 1,none⟩) hb').trans hd1,(h.cell (p:=⟨b',o' + k * 3 + 2,none⟩) hb').trans hd2⟩)
   go_region_held3 (fun wx=>Below wr.heap.size wr wx ∧ wx.cell? ⟨b,o + k * 3,none⟩ = some (.int .i64 zs[k].f0) ∧ wx.cell? ⟨b,o + k * 3 + 1,none⟩ = some (.int .i64 zs[k].f1) ∧ wx.cell? ⟨b,o + k * 3 + 2,none⟩ = some (.int .i64 zs[k].f2) ∧ wx.cell? ⟨b',o' + k * 3,none⟩ = some (.int .i64 zs[k].f0) ∧ wx.cell? ⟨b',o' + k * 3 + 1,none⟩ = some (.int .i64 zs[k].f1) ∧ wx.cell? ⟨b',o' + k * 3 + 2,none⟩ = some (.int .i64 zs[k].f2)) (first | exact HK.out _ (Below.refl _ _).drew | exact HK.out _ (Cb (And.left ‹_›) ‹_›)) (first | (go_at_call 102; refine (eqDone_same _ _ _ _).mono ?_; rintro e w' ⟨rfl,hb7⟩))
   all_goals
    rename_i hHeld
    have hB2:=Cb hB hHeld.1;clear hHeld
    go_wp2
    go_roundw
    case rel=>exact ⟨k + 1,by omega,by go_num,hB2⟩
    case measure=>simp [intOf]; omega
  ·go_wp2
   go_ret
   exact ⟨rfl,hB⟩
def markDone (k : Int) (j : Nat) : Ey:=⟨k + 3 * (j : Int),k + 3 * (j : Int) + 1,k + 3 * (j : Int) + 1 + 1⟩
def Di (k : Int) (n : Nat) : List Ey:=(List.range n).map fun (j : Nat)=>markDone k j
theorem marksDone_len (k : Int) (n : Nat) : (Di k n).length = n:=by simp [Di]
theorem marksDone_get (k : Int) (n j : Nat) (h : j < (Di k n).length) : (Di k n)[j] = markDone k j:=by simp [Di]
theorem marksDone_step (k : Int) (j : Nat) : (Di k (j + 1)).flatMap Ch = (Di k j).flatMap Ch ++ Ch (markDone k j):=by
 unfold Di;rw [List.range_succ,List.map_append,List.flatMap_append];simp
theorem markDoneS_any (base : Nat) (A : Option Addr) (n c : Nat) (xs : List Value) (k : Int) (w : World) (hk0 : 0 ≤ k) (hk1 : k ≤ 1152921504606846976) (hm : n ≤ 1048577) (hown : w.ownsRow base 51 3 (.slice A n c) n xs) :
  Calls Try.prog 73 #[.slice A n c,.int .i64 k] w fun e w'=>e = .returned (.int .i64 (k + 3 * n)) ∧ w'.ownsRow base 51 3 (.slice A n c) n ((Di k n).flatMap Ch) ∧ w.grownBy w' (A.map (·.block)):=by
 have hxl : xs.length = n * 3:=hown.1
 go_enter Try.func73,Try.ntmps73
 go_wp2_with fail
 go_loopw [1,5] (fun q i wr=>∃ j : Nat,j ≤ n ∧ i = .int .i64 j ∧ q = .int .i64 (k + 3 * j) ∧ wr.ownsRow base 51 3 (.slice A n c) n ((Di k j).flatMap Ch ++ xs.drop (j * 3)) ∧ w.grownBy wr (A.map (·.block))) (fun _ i _=>n - (intOf i).toNat)
 case atStart=>exact ⟨0,Nat.zero_le _,rfl,by simp,by simpa [Di] using hown,World.grownBy.refl _ _⟩
 case round =>
  obtain ⟨j,hj,rfl,rfl,hown',hg⟩:=hrel;clear hown;by_cases hlt : j < n
  ·have hAg : ∃ g,A = some ⟨g,0,none⟩:=by
    rcases hown'.2 with ⟨_,h0⟩ | ⟨g,cap,cur,hv,_⟩
    ·omega
    ·simp only [Value.slice.injEq,true_and] at hv;exact ⟨g,hv.1⟩
   obtain ⟨g,rfl⟩:=hAg;have hPl : ((Di k j).flatMap Ch).length = j * 3:=by rw [Cd Ch 3 Dg,marksDone_len]
   have hfin:=marksDone_step k j;have hd0:=((hown').cellAt (j * 3) (by omega)).trans (Cz hPl (by omega) (by omega));have hf0:=(hown').frozenAt (j * 3);have hs0:=(hown').stored (j * 3) (.int .i64 (k + 3 * (j : Int)));rw [Cy hPl (by omega)] at hs0;have hd1:=((hs0.1).cellAt (j * 3 + 1) (by omega)).trans (Cz (by simp only [List.length_append,List.length_cons,List.length_nil,hPl]) (by omega) (by omega));have hf1:=(hs0.1).frozenAt (j * 3 + 1);have hs1:=(hs0.1).stored (j * 3 + 1) (.int .i64 (k + 3 * (j : Int) + 1));rw [Cy (by simp only [List.length_append,List.length_cons,List.length_nil,hPl]) (by omega)] at hs1;have hd2:=((hs1.1).cellAt (j * 3 + 2) (by omega)).trans (Cz (by simp only [List.length_append,List.length_cons,List.length_nil,hPl]) (by omega) (by omega));have hf2:=(hs1.1).frozenAt (j * 3 + 2);have hs2:=(hs1.1).stored (j * 3 + 2) (.int .i64 (k + 3 * (j : Int) + 1 + 1));rw [Cy (by simp only [List.length_append,List.length_cons,List.length_nil,hPl]) (by omega)] at hs2;have hlist : (Di k j).flatMap Ch ++ [.int .i64 (k + 3 * (j : Int))] ++ [.int .i64 (k + 3 * (j : Int) + 1)] ++ [.int .i64 (k + 3 * (j : Int) + 1 + 1)] = (Di k (j + 1)).flatMap Ch:=by
    rw [hfin]; simp only [List.append_assoc]; rfl
   rw [hlist,show j * 3 + 2 + 1 = (j + 1) * 3 from by omega] at hs2;have hst:=Lib.hid hs2.1;have hgr:=Lib.hid (Bn (Bn (Bn (hg) hs0.2) hs1.2) hs2.2);clear hown' hlist hfin hs0 hs1 hs2
   generalize xs[j * 3]'_ = old0 at hd0
   generalize xs[j * 3 + 1]'_ = old1 at hd1
   generalize xs[j * 3 + 2]'_ = old2 at hd2
   go_wp2
   go_roundw
   case rel=>exact ⟨j + 1,by omega,by go_num,by go_num,hst.out,hgr.out⟩
   case measure=>simp [intOf]; omega
  ·obtain rfl : j = n:=by omega
   rw [List.drop_of_length_le (by omega),List.append_nil] at hown'
   go_wp2
   go_ret
   exact ⟨rfl,hown',hg⟩
theorem heldDoneS_any (A : Option Addr) (n c : Nat) (k : Int) (w : World) (hk0 : 0 ≤ k) (hk1 : k ≤ 1152921504606846976) (hm : n ≤ 1048577) (hr : Rd w 3 A n ((Di k n).flatMap Ch)) :
  Calls Try.prog 78 #[.slice A n c,.int .i64 k] w fun e w'=>e = .returned (.int .i64 (k + 3 * n)) ∧ Below w.heap.size w w':=by
 go_enter Try.func78,Try.ntmps78
 go_wp2_with fail
 go_loopw [1,5] (fun q i wr=>∃ j : Nat,j ≤ n ∧ i = .int .i64 j ∧ q = .int .i64 (k + 3 * j) ∧ Below w.heap.size w wr) (fun _ i _=>n - (intOf i).toNat)
 case atStart=>exact ⟨0,Nat.zero_le _,rfl,by simp,Below.refl _ _⟩
 case round =>
  obtain ⟨j,hj,rfl,rfl,hB⟩:=hrel;by_cases hlt : j < n
  ·have hlm : j < (Di k n).length:=by rw [marksDone_len]; exact hlt
   obtain ⟨b,o,rfl,hb,hc⟩:=Rd.get Dg (hr.below hB) (marksDone_len k n).symm hlm;rw [marksDone_get] at hc;have k0 : (0 : Int) ≤ j:=by omega
   have k1 : (j : Int) < n:=by omega
   have hc0 : wr.cell? ⟨b,o + j * 3,none⟩ = some (.int .i64 (k + 3 * (j : Int))):=hc 0 _ (by omega) rfl;have hc1 : wr.cell? ⟨b,o + j * 3 + 1,none⟩ = some (.int .i64 (k + 3 * (j : Int) + 1)):=hc 1 _ (by omega) rfl;have hc2 : wr.cell? ⟨b,o + j * 3 + 2,none⟩ = some (.int .i64 (k + 3 * (j : Int) + 1 + 1)):=hc 2 _ (by omega) rfl;clear hc
   go_wp2
   go_roundw
   case rel=>exact ⟨j + 1,by omega,by go_num,by go_num,hB⟩
   case measure=>simp [intOf]; omega
  ·obtain rfl : j = n:=by omega
   go_wp2
   go_ret
   exact ⟨rfl,hB⟩
end Go.Proofs.Ytoccapmoehdohaa
