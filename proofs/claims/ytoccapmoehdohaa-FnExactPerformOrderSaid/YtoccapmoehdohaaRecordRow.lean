/- Rows of Records: contracts of the statements' helpers. Written by a program of ours (rows.py). No condition. -/
import Derived.Test.YtoccapmoehdohaaBase
import Derived.Test.YtoccapmoehdohaaOpen
import Derived.Test.YtoccapmoehdohaaAppend
import Derived.Test.YtoccapmoehdohaaMarks
import Derived.Test.YtoccapmoehdohaaRec
namespace Go.Proofs.Ytoccapmoehdohaa
open Go.RowKit
structure Aw where
 f0 : Int
 f1 : Int
 f2 : Int
 f3 : List UInt8
instance : Inhabited Aw:=⟨⟨0,0,0,[]⟩⟩
def Ax (r : Aw) : List Value:=[.int .i64 r.f0,.int .i64 r.f1,.int .i64 r.f2,.string ⟨r.f3.toArray⟩]
theorem Be (r : Aw) : (Ax r).length = 4:=rfl
theorem cRecord_one (r : Aw) : ∀ u ∈ Ax r,u.oneCell' = true:=by intro u hu; simp only [Ax,List.mem_cons,List.not_mem_nil,or_false] at hu; rcases hu with rfl | rfl | rfl | rfl <;> rfl
def wfRecord (r : Aw) : Prop:=I64 r.f0 ∧ I64 r.f1 ∧ I64 r.f2 ∧ Txt r.f3
open Go.ChangeShapes in
theorem el_Record {H : Type} {enc : TypeId × Value → H} {w : World} {held : Bool} {fuel : Nat} {cs : List Value} {x : DataW H × List MemPlace}
  (h : DataW.trod enc Try.prog w 0 (fun _=>true) held fuel 141 cs = some x) : ∃ r,cs = Ax r ∧ wfRecord r:=by
 obtain ⟨hlen,m,hf⟩:=Fd Try.underlying141 h;have hC : Try.prog.cellsOf 141 = 4:=by kernel_rfl
 rw [hC] at hlen;obtain ⟨y0,e0⟩:=hf 0 3 0 1 (by kernel_rfl);obtain ⟨y1,e1⟩:=hf 1 3 1 1 (by kernel_rfl);obtain ⟨y2,e2⟩:=hf 2 3 2 1 (by kernel_rfl);obtain ⟨y3,e3⟩:=hf 3 9 3 1 (by kernel_rfl)
 match cs,hlen with
 | [c0,c1,c2,c3],_ =>
  obtain ⟨a0,q0,w0⟩:=Er Try.underlying3 e0;obtain ⟨a1,q1,w1⟩:=Er Try.underlying3 e1;obtain ⟨a2,q2,w2⟩:=Er Try.underlying3 e2;obtain ⟨a3,q3,w3⟩:=el_str Try.underlying9 e3;simp [cI,cS] at q0 q1 q2 q3;subst q0 q1 q2 q3;exact ⟨⟨a0,a1,a2,a3⟩,rfl,w0,w1,w2,w3⟩
theorem Eo : (Try.prog.info? 47).map (fun i=>(i.zero,i.size,i.bytes)) = some (some (.agg #[.int .i64 0,.int .i64 0,.int .i64 0,.string ⟨#[]⟩]),4,40):=by kernel_rfl
theorem toRecordS_any (A : Option Addr) (n c : Nat) (zs : List Aw) (w : World) (hn : zs.length = n) (hm : n ≤ 1048576) (hr : Rd w 4 A n (zs.flatMap Ax)) :
  Calls Try.prog 100 #[.slice A n c] w fun e w'=>∃ g,e = .returned (.slice (some ⟨g,0,none⟩) n n) ∧ w'.ownsRow w.heap.size 47 4 (.slice (some ⟨g,0,none⟩) n n) n (zs.flatMap Ax) ∧ Below w.heap.size w w':=by
 subst hn;obtain ⟨i0,hi,hz0,hz1,hz2⟩:=info_parts Eo
 go_enter Try.func100,Try.ntmps100
 go_wp2_with (with_reducible refine wpList_make_full _ rfl (.tmp 6) (.tmp 6) 28 rfl w.heap.size 47 i0 (.agg #[.int .i64 0,.int .i64 0,.int .i64 0,.string ⟨#[]⟩]) 4 Try.underlying28 hi hz0 hz1 .i64 .i64 (zs.length : Int) (zs.length : Int) zs.length rfl rfl rfl rfl (by rw [hz2]; omega) (by unfold maxLen; omega) (Nat.le_refl _) ?_; intro w1 hown1 hg1)
 have hB1 : Below w.heap.size w w1:=(Below.refl _ _).grown hg1 (Nat.le_refl _) (by simp);obtain ⟨R,hR⟩ : ∃ R,R = (madeCells (Value.agg #[.int .i64 0,.int .i64 0,.int .i64 0,.string ⟨#[]⟩]).cells (zs.length * 4)).toList:=⟨_,rfl⟩
 have hown2 : w1.ownsRow w.heap.size 47 4 (.slice (some ⟨w.heap.size,0,none⟩) zs.length zs.length) zs.length ((zs.take 0).flatMap Ax ++ R.drop (0 * 4)):=by
  rw [hR]
  simpa using hown1
 have hRl : R.length = zs.length * 4:=by
  have:=hown2.1
  simpa using this
 clear hown1 hg1 hR
 go_loopw [4] (fun i wr=>∃ k : Nat,k ≤ zs.length ∧ i = .int .i64 k ∧ wr.ownsRow w.heap.size 47 4 (.slice (some ⟨w.heap.size,0,none⟩) zs.length zs.length) zs.length ((zs.take k).flatMap Ax ++ R.drop (k * 4)) ∧ Below w.heap.size w wr) (fun i _=>zs.length - (intOf i).toNat)
 case atStart=>exact ⟨0,Nat.zero_le _,rfl,hown2,hB1⟩
 case round =>
  obtain ⟨k,hk,rfl,hown,hB⟩:=hrel;clear hown2 hB1;by_cases hlt : k < zs.length
  ·obtain ⟨b,o,rfl,hb,hc⟩:=Rd.get Be (hr.below hB) rfl hlt;have hc0 : wr.cell? ⟨b,o + k * 4,none⟩ = some (.int .i64 zs[k].f0):=hc 0 _ (by omega) rfl;have hc1 : wr.cell? ⟨b,o + k * 4 + 1,none⟩ = some (.int .i64 zs[k].f1):=hc 1 _ (by omega) rfl;have hc2 : wr.cell? ⟨b,o + k * 4 + 2,none⟩ = some (.int .i64 zs[k].f2):=hc 2 _ (by omega) rfl;have hc3 : wr.cell? ⟨b,o + k * 4 + 3,none⟩ = some (.string ⟨zs[k].f3.toArray⟩):=hc 3 _ (by omega) rfl
   go_wp2_with fail
   refine (toRecord_any _ _ _ _ _).mono ?_;rintro e w1 ⟨rfl,hb1⟩;have hown1:=Ad hown hb1;have hBn:=Cb hB hb1;have hPl : ((zs.take k).flatMap Ax).length = k * 4:=by rw [Cd Ax 4 Be,List.length_take_of_le (by omega)]
   have hd0 : w1.cell? ⟨w.heap.size,k * 4,none⟩ = some (R[k * 4]'(by omega)):=(hown1.cellAt (k * 4) (by omega)).trans (Cz hPl (by omega) (by omega));have hf0:=hown1.frozenAt (k * 4);have hd1 : w1.cell? ⟨w.heap.size,k * 4 + 1,none⟩ = some (R[k * 4 + 1]'(by omega)):=(hown1.cellAt (k * 4 + 1) (by omega)).trans (Cz hPl (by omega) (by omega));have hf1:=hown1.frozenAt (k * 4 + 1);have hd2 : w1.cell? ⟨w.heap.size,k * 4 + 2,none⟩ = some (R[k * 4 + 2]'(by omega)):=(hown1.cellAt (k * 4 + 2) (by omega)).trans (Cz hPl (by omega) (by omega));have hf2:=hown1.frozenAt (k * 4 + 2);have hd3 : w1.cell? ⟨w.heap.size,k * 4 + 3,none⟩ = some (R[k * 4 + 3]'(by omega)):=(hown1.cellAt (k * 4 + 3) (by omega)).trans (Cz hPl (by omega) (by omega));have hf3:=hown1.frozenAt (k * 4 + 3);have hs0:=(hown1).stored (k * 4) (.int .i64 zs[k].f0);rw [Cy hPl (by omega)] at hs0;have hs1:=(hs0.1).stored (k * 4 + 1) (.int .i64 zs[k].f1);rw [Cy (by simp only [List.length_append,List.length_cons,List.length_nil,hPl]) (by omega)] at hs1;have hs2:=(hs1.1).stored (k * 4 + 2) (.int .i64 zs[k].f2);rw [Cy (by simp only [List.length_append,List.length_cons,List.length_nil,hPl]) (by omega)] at hs2;have hs3:=(hs2.1).stored (k * 4 + 3) (.string ⟨zs[k].f3.toArray⟩);rw [Cy (by simp only [List.length_append,List.length_cons,List.length_nil,hPl]) (by omega)] at hs3;have hlist : (zs.take k).flatMap Ax ++ [.int .i64 zs[k].f0] ++ [.int .i64 zs[k].f1] ++ [.int .i64 zs[k].f2] ++ [.string ⟨zs[k].f3.toArray⟩] = (zs.take (k + 1)).flatMap Ax:=by
    rw [flatMap_take Ax hlt]; simp only [List.append_assoc]; rfl
   rw [hlist,show k * 4 + 3 + 1 = (k + 1) * 4 from by omega] at hs3;have hst:=Lib.hid hs3.1;have hgr:=Lib.hid (Bn (Bn (Bn (hs0.2) hs1.2) hs2.2) hs3.2);clear hown1 hown hlist hs0 hs1 hs2 hs3
   generalize R[k * 4]'_ = old0 at hd0
   generalize R[k * 4 + 1]'_ = old1 at hd1
   generalize R[k * 4 + 2]'_ = old2 at hd2
   generalize R[k * 4 + 3]'_ = old3 at hd3
   go_wp2
   go_roundw
   case rel=>exact ⟨k + 1,by omega,by go_num,hst.out,hBn.grown hgr.out hBn.size (by simp)⟩
   case measure=>simp [intOf]; omega
  ·obtain rfl : k = zs.length:=by omega
   rw [List.take_length,List.drop_of_length_le (by omega),List.append_nil] at hown
   go_wp2
   go_ret
   exact ⟨w.heap.size,rfl,hown,hB⟩
theorem Ed (zs : List Aw) : ∀ u ∈ zs.flatMap Ax,u.oneCell' = true:=by
 intro u hu;obtain ⟨r,_,hr⟩:=List.mem_flatMap.1 hu;exact cRecord_one r u hr
theorem cloneRecord_any (A : Option Addr) (n c : Nat) (zs : List Aw) (w : World) (hn : zs.length = n) (hm : n ≤ 1048577) (hr : Rd w 4 A n (zs.flatMap Ax)) :
  Calls Try.prog 109 #[.slice A n c] w fun e w'=>∃ A' c',e = .returned (.slice A' n c') ∧ w'.ownsRow w.heap.size 47 4 (.slice A' n c') n (zs.flatMap Ax) ∧ Below w.heap.size w w':=by
 have q : ∀ (w : World) (a : Option Addr) (n c n' c' : Nat),(binOp .eql 28 (.slice a n c) (.slice none n' c')).run Try.prog w = .ok (.bool a.isNone) w:=fun w a n c n' c'=>Lib.run_eql_slice_nil w _ _ a n c n' c' Try.underlying28
 subst hn;cases A with
 | none =>
  obtain rfl : zs = []:=by
   cases zs with
   | nil=>rfl
   | cons z l =>
    obtain ⟨b,o,h0,_⟩:=hr.2 (by simp);cases h0
  go_enter Try.func109,Try.ntmps109
  go_wp2
  go_ret
  exact ⟨none,0,rfl,World.ownsRow_nil _ _ _ _,Below.refl _ _⟩
 | some ad =>
  go_enter Try.func109,Try.ntmps109
  go_wp2_with (at_builtin; refine Fc _ rfl (.tmp 5) (.tmp 6) 28 rfl 47 (.agg #[.int .i64 0,.int .i64 0,.int .i64 0,.string ⟨#[]⟩]) 4 40 Try.underlying28 Eo rfl (by decide) w.heap.size _ 0 0 [] rfl (World.ownsRow_made w #[] 0 (Nat.le_refl _) (Nat.zero_le _) rfl) (some ad) zs.length c (zs.flatMap Ax) rfl (fun h=>by cases h) (hr.alloc _) (Ed zs) (by omega) (by simp) ?_; intro A1 c1 w1 hown1 _ hB1)
  simp only [Nat.zero_add,List.nil_append] at hown1
  go_wp2
  go_ret
  exact ⟨A1,c1,by simp,hown1,((Below.refl _ _).alloc (Nat.le_refl _) _).trans hB1⟩
theorem szRecordS_any (A : Option Addr) (n c : Nat) (zs : List Aw) (left : Int) (w : World) (hn : zs.length = n) (hm : n ≤ 9223372036854775807) (h0 : 0 ≤ left) (h1 : left ≤ 1048576) (hT : ∀ z ∈ zs,Txt z.f3) (hr : Rd w 4 A n (zs.flatMap Ax)) :
  Calls Try.prog 96 #[.slice A n c,.int .i64 left] w fun e w'=>∃ q : Int,e = .returned (.int .i64 q) ∧ -1 ≤ q ∧ q ≤ left ∧ (0 ≤ q → n ≤ 1048576) ∧ Below w.heap.size w w':=by
 subst hn;by_cases hbig : left - zs.length < 0
 ·go_enter Try.func96,Try.ntmps96
  go_wp2
  go_ret
  exact ⟨-1,rfl,by omega,by omega,by omega,Below.refl _ _⟩
 ·go_enter Try.func96,Try.ntmps96
  go_wp2_with fail
  go_loopw [1,5] (fun l i wr=>∃ (k : Nat) (q : Int),k ≤ zs.length ∧ i = .int .i64 k ∧ l = .int .i64 q ∧ 0 ≤ q ∧ q ≤ left ∧ Below w.heap.size w wr) (fun _ i _=>zs.length - (intOf i).toNat)
  case atStart=>exact ⟨0,left - zs.length,by omega,rfl,rfl,by omega,by omega,Below.refl _ _⟩
  case round =>
   obtain ⟨k,q,hk,rfl,rfl,hq0,hq1,hB⟩:=hrel;by_cases hlt : k < zs.length
   ·obtain ⟨b,o,rfl,hb,hc⟩:=Rd.get Be (hr.below hB) rfl hlt;have hc0 : wr.cell? ⟨b,o + k * 4,none⟩ = some (.int .i64 zs[k].f0):=hc 0 _ (by omega) rfl;have hc1 : wr.cell? ⟨b,o + k * 4 + 1,none⟩ = some (.int .i64 zs[k].f1):=hc 1 _ (by omega) rfl;have hc2 : wr.cell? ⟨b,o + k * 4 + 2,none⟩ = some (.int .i64 zs[k].f2):=hc 2 _ (by omega) rfl;have hc3 : wr.cell? ⟨b,o + k * 4 + 3,none⟩ = some (.string ⟨zs[k].f3.toArray⟩):=hc 3 _ (by omega) rfl;have htx:=hT zs[k] (List.getElem_mem _);clear hc
    go_wp2_with fail
    refine (szRecord_any _ _ _ _ _ _ htx (by omega) (by omega)).mono ?_;rintro e w1 ⟨q1,rfl,hx0,hx1,_,hb1⟩;have hB1:=Cb hB hb1;by_cases hneg : q1 < 0
    ·go_wp2
     go_ret
     exact ⟨-1,rfl,by omega,by omega,by omega,hB1⟩
    ·go_wp2
     go_roundw
     case rel=>exact ⟨k + 1,q1,by omega,by go_num,rfl,by omega,by omega,hB1⟩
     case measure=>simp [intOf]; omega
   ·go_wp2
    go_ret
    exact ⟨q,rfl,by omega,hq1,fun _=>by omega,hB⟩
theorem eqRecordS_same (A B : Option Addr) (n m c d : Nat) (zs : List Aw) (w : World) (hn : zs.length = n) (hm : zs.length = m) (hb : n ≤ 4611686018427387904) (hr : Rd w 4 A n (zs.flatMap Ax)) (hs : Rd w 4 B m (zs.flatMap Ax)) :
  Calls Try.prog 103 #[.slice A n c,.slice B m d] w fun e w'=>e = .returned (.bool true) ∧ Below w.heap.size w w':=by
 subst hn;subst hm
 go_enter Try.func103,Try.ntmps103
 go_wp2_with fail
 go_loopw [5] (fun i wr=>∃ k : Nat,k ≤ zs.length ∧ i = .int .i64 k ∧ Below w.heap.size w wr) (fun i _=>zs.length - (intOf i).toNat)
 case atStart=>exact ⟨0,Nat.zero_le _,rfl,Below.refl _ _⟩
 case round =>
  obtain ⟨k,hk,rfl,hB⟩:=hrel;by_cases hlt : k < zs.length
  ·obtain ⟨b,o,rfl,hb,hc⟩:=Rd.get Be (hr.below hB) rfl hlt;obtain ⟨b',o',rfl,hb',hd⟩:=Rd.get Be (hs.below hB) rfl hlt;have k0 : (0 : Int) ≤ k:=by omega
   have k1 : (k : Int) < zs.length:=by omega
   have hc0 : wr.cell? ⟨b,o + k * 4,none⟩ = some (.int .i64 zs[k].f0):=hc 0 _ (by omega) rfl;have hc1 : wr.cell? ⟨b,o + k * 4 + 1,none⟩ = some (.int .i64 zs[k].f1):=hc 1 _ (by omega) rfl;have hc2 : wr.cell? ⟨b,o + k * 4 + 2,none⟩ = some (.int .i64 zs[k].f2):=hc 2 _ (by omega) rfl;have hc3 : wr.cell? ⟨b,o + k * 4 + 3,none⟩ = some (.string ⟨zs[k].f3.toArray⟩):=hc 3 _ (by omega) rfl;have hd0 : wr.cell? ⟨b',o' + k * 4,none⟩ = some (.int .i64 zs[k].f0):=hd 0 _ (by omega) rfl;have hd1 : wr.cell? ⟨b',o' + k * 4 + 1,none⟩ = some (.int .i64 zs[k].f1):=hd 1 _ (by omega) rfl;have hd2 : wr.cell? ⟨b',o' + k * 4 + 2,none⟩ = some (.int .i64 zs[k].f2):=hd 2 _ (by omega) rfl;have hd3 : wr.cell? ⟨b',o' + k * 4 + 3,none⟩ = some (.string ⟨zs[k].f3.toArray⟩):=hd 3 _ (by omega) rfl;clear hc hd
   go_wp2_with fail
   have HK : Hid (∀ wx,Below wr.heap.size wr wx → (Below wr.heap.size wr wx ∧ wx.cell? ⟨b,o + k * 4,none⟩ = some (.int .i64 zs[k].f0) ∧ wx.cell? ⟨b,o + k * 4 + 1,none⟩ = some (.int .i64 zs[k].f1) ∧ wx.cell? ⟨b,o + k * 4 + 2,none⟩ = some (.int .i64 zs[k].f2) ∧ wx.cell? ⟨b,o + k * 4 + 3,none⟩ = some (.string ⟨zs[k].f3.toArray⟩) ∧ wx.cell? ⟨b',o' + k * 4,none⟩ = some (.int .i64 zs[k].f0) ∧ wx.cell? ⟨b',o' + k * 4 + 1,none⟩ = some (.int .i64 zs[k].f1) ∧ wx.cell? ⟨b',o' + k * 4 + 2,none⟩ = some (.int .i64 zs[k].f2) ∧ wx.cell? ⟨b',o' + k * 4 + 3,none⟩ = some (.string ⟨zs[k].f3.toArray⟩))):=Lib.hid (fun wx h=>⟨h,(h.cell (p:=⟨b,o + k * 4,none⟩) hb).trans hc0,(h.cell (p:=⟨b,o + k * 4 + 1,none⟩) hb).trans hc1,(h.cell (p:=⟨b,o + k * 4 + 2,none⟩) hb).trans hc2,(h.cell (p:=⟨b,o + k * 4 + 3,none⟩) hb).trans hc3,(h.cell (p:=⟨b',o' + k * 4,none⟩) hb').trans hd0,(h.cell (p:=⟨b',o' + k * 4 + 1,none⟩) hb').trans hd1,(h.cell (p:=⟨b',o' + k * 4 + 2,none⟩) hb').trans hd2,(h.cell (p:=⟨b',o' + k * 4 + 3,none⟩) hb').trans hd3⟩)
   go_region_held3 (fun wx=>Below wr.heap.size wr wx ∧ wx.cell? ⟨b,o + k * 4,none⟩ = some (.int .i64 zs[k].f0) ∧ wx.cell? ⟨b,o + k * 4 + 1,none⟩ = some (.int .i64 zs[k].f1) ∧ wx.cell? ⟨b,o + k * 4 + 2,none⟩ = some (.int .i64 zs[k].f2) ∧ wx.cell? ⟨b,o + k * 4 + 3,none⟩ = some (.string ⟨zs[k].f3.toArray⟩) ∧ wx.cell? ⟨b',o' + k * 4,none⟩ = some (.int .i64 zs[k].f0) ∧ wx.cell? ⟨b',o' + k * 4 + 1,none⟩ = some (.int .i64 zs[k].f1) ∧ wx.cell? ⟨b',o' + k * 4 + 2,none⟩ = some (.int .i64 zs[k].f2) ∧ wx.cell? ⟨b',o' + k * 4 + 3,none⟩ = some (.string ⟨zs[k].f3.toArray⟩)) (first | exact HK.out _ (Below.refl _ _).drew | exact HK.out _ (Cb (And.left ‹_›) ‹_›)) (first | (go_at_call 117; refine (eqRecord_same _ _ _ _ _).mono ?_; rintro e w' ⟨rfl,hb7⟩))
   all_goals
    rename_i hHeld
    have hB2:=Cb hB hHeld.1;clear hHeld
    go_wp2
    go_roundw
    case rel=>exact ⟨k + 1,by omega,by go_num,hB2⟩
    case measure=>simp [intOf]; omega
  ·go_wp2
   go_ret
   exact ⟨rfl,hB⟩
def markRecord (k : Int) (j : Nat) : Aw:=⟨k + 4 * (j : Int),k + 4 * (j : Int) + 1,k + 4 * (j : Int) + 1 + 1,markT (k + 4 * (j : Int) + 1 + 1 + 1)⟩
def Co (k : Int) (n : Nat) : List Aw:=(List.range n).map fun (j : Nat)=>markRecord k j
theorem Fj (k : Int) (n : Nat) : (Co k n).length = n:=by simp [Co]
theorem marksRecord_get (k : Int) (n j : Nat) (h : j < (Co k n).length) : (Co k n)[j] = markRecord k j:=by simp [Co]
theorem marksRecord_step (k : Int) (j : Nat) : (Co k (j + 1)).flatMap Ax = (Co k j).flatMap Ax ++ Ax (markRecord k j):=by
 unfold Co;rw [List.range_succ,List.map_append,List.flatMap_append];simp
theorem markRecordS_any (base : Nat) (A : Option Addr) (n c : Nat) (xs : List Value) (k : Int) (w : World) (hk0 : 1 ≤ k) (hk1 : k ≤ 1152921504606846976) (hm : n ≤ 1048577) (hown : w.ownsRow base 47 4 (.slice A n c) n xs) :
  Calls Try.prog 104 #[.slice A n c,.int .i64 k] w fun e w'=>e = .returned (.int .i64 (k + 4 * n)) ∧ w'.ownsRow base 47 4 (.slice A n c) n ((Co k n).flatMap Ax) ∧ w.grownBy w' (A.map (·.block)):=by
 have hxl : xs.length = n * 4:=hown.1
 go_enter Try.func104,Try.ntmps104
 go_wp2_with fail
 go_loopw [1,5] (fun q i wr=>∃ j : Nat,j ≤ n ∧ i = .int .i64 j ∧ q = .int .i64 (k + 4 * j) ∧ wr.ownsRow base 47 4 (.slice A n c) n ((Co k j).flatMap Ax ++ xs.drop (j * 4)) ∧ w.grownBy wr (A.map (·.block))) (fun _ i _=>n - (intOf i).toNat)
 case atStart=>exact ⟨0,Nat.zero_le _,rfl,by simp,by simpa [Co] using hown,World.grownBy.refl _ _⟩
 case round =>
  obtain ⟨j,hj,rfl,rfl,hown',hg⟩:=hrel;clear hown;by_cases hlt : j < n
  ·have hAg : ∃ g,A = some ⟨g,0,none⟩:=by
    rcases hown'.2 with ⟨_,h0⟩ | ⟨g,cap,cur,hv,_⟩
    ·omega
    ·simp only [Value.slice.injEq,true_and] at hv;exact ⟨g,hv.1⟩
   obtain ⟨g,rfl⟩:=hAg;have hPl : ((Co k j).flatMap Ax).length = j * 4:=by rw [Cd Ax 4 Be,Fj]
   have hfin:=marksRecord_step k j;have hd0:=((hown').cellAt (j * 4) (by omega)).trans (Cz hPl (by omega) (by omega));have hf0:=(hown').frozenAt (j * 4);have hs0:=(hown').stored (j * 4) (.int .i64 (k + 4 * (j : Int)));rw [Cy hPl (by omega)] at hs0;have hd1:=((hs0.1).cellAt (j * 4 + 1) (by omega)).trans (Cz (by simp only [List.length_append,List.length_cons,List.length_nil,hPl]) (by omega) (by omega));have hf1:=(hs0.1).frozenAt (j * 4 + 1);have hs1:=(hs0.1).stored (j * 4 + 1) (.int .i64 (k + 4 * (j : Int) + 1));rw [Cy (by simp only [List.length_append,List.length_cons,List.length_nil,hPl]) (by omega)] at hs1;have hd2:=((hs1.1).cellAt (j * 4 + 2) (by omega)).trans (Cz (by simp only [List.length_append,List.length_cons,List.length_nil,hPl]) (by omega) (by omega));have hf2:=(hs1.1).frozenAt (j * 4 + 2);have hs2:=(hs1.1).stored (j * 4 + 2) (.int .i64 (k + 4 * (j : Int) + 1 + 1));rw [Cy (by simp only [List.length_append,List.length_cons,List.length_nil,hPl]) (by omega)] at hs2
   go_wp2_with fail
   refine (markText_any _ _ (by omega) (by omega)).mono ?_;rintro e v0 ⟨rfl,hb0⟩;have hown3:=Ad hs2.1 hb0;have hg3:=grown_below (Bn (Bn (Bn (hg) hs0.2) hs1.2) hs2.2) hb0;have hd3:=((hown3).cellAt (j * 4 + 3) (by omega)).trans (Cz (by simp only [List.length_append,List.length_cons,List.length_nil,hPl]) (by omega) (by omega));have hf3:=(hown3).frozenAt (j * 4 + 3);have hs3:=(hown3).stored (j * 4 + 3) (.string ⟨(markT (k + 4 * (j : Int) + 1 + 1 + 1)).toArray⟩);rw [Cy (by simp only [List.length_append,List.length_cons,List.length_nil,hPl]) (by omega)] at hs3;have hlist : (Co k j).flatMap Ax ++ [.int .i64 (k + 4 * (j : Int))] ++ [.int .i64 (k + 4 * (j : Int) + 1)] ++ [.int .i64 (k + 4 * (j : Int) + 1 + 1)] ++ [.string ⟨(markT (k + 4 * (j : Int) + 1 + 1 + 1)).toArray⟩] = (Co k (j + 1)).flatMap Ax:=by
    rw [hfin]; simp only [List.append_assoc]; rfl
   rw [hlist,show j * 4 + 3 + 1 = (j + 1) * 4 from by omega] at hs3;have hst:=Lib.hid hs3.1;have hgr:=Lib.hid (Bn (hg3) hs3.2);clear hown' hlist hfin hs0 hs1 hs2 hs3
   generalize xs[j * 4]'_ = old0 at hd0
   generalize xs[j * 4 + 1]'_ = old1 at hd1
   generalize xs[j * 4 + 2]'_ = old2 at hd2
   generalize xs[j * 4 + 3]'_ = old3 at hd3
   go_wp2
   go_roundw
   case rel=>exact ⟨j + 1,by omega,by go_num,by go_num,hst.out,hgr.out⟩
   case measure=>simp [intOf]; omega
  ·obtain rfl : j = n:=by omega
   rw [List.drop_of_length_le (by omega),List.append_nil] at hown'
   go_wp2
   go_ret
   exact ⟨rfl,hown',hg⟩
theorem heldRecordS_any (A : Option Addr) (n c : Nat) (k : Int) (w : World) (hk0 : 1 ≤ k) (hk1 : k ≤ 1152921504606846976) (hm : n ≤ 1048577) (hr : Rd w 4 A n ((Co k n).flatMap Ax)) :
  Calls Try.prog 105 #[.slice A n c,.int .i64 k] w fun e w'=>e = .returned (.int .i64 (k + 4 * n)) ∧ Below w.heap.size w w':=by
 go_enter Try.func105,Try.ntmps105
 go_wp2_with fail
 go_loopw [1,5] (fun q i wr=>∃ j : Nat,j ≤ n ∧ i = .int .i64 j ∧ q = .int .i64 (k + 4 * j) ∧ Below w.heap.size w wr) (fun _ i _=>n - (intOf i).toNat)
 case atStart=>exact ⟨0,Nat.zero_le _,rfl,by simp,Below.refl _ _⟩
 case round =>
  obtain ⟨j,hj,rfl,rfl,hB⟩:=hrel;by_cases hlt : j < n
  ·have hlm : j < (Co k n).length:=by rw [Fj]; exact hlt
   obtain ⟨b,o,rfl,hb,hc⟩:=Rd.get Be (hr.below hB) (Fj k n).symm hlm;rw [marksRecord_get] at hc;have k0 : (0 : Int) ≤ j:=by omega
   have k1 : (j : Int) < n:=by omega
   have hc0 : wr.cell? ⟨b,o + j * 4,none⟩ = some (.int .i64 (k + 4 * (j : Int))):=hc 0 _ (by omega) rfl;have hc1 : wr.cell? ⟨b,o + j * 4 + 1,none⟩ = some (.int .i64 (k + 4 * (j : Int) + 1)):=hc 1 _ (by omega) rfl;have hc2 : wr.cell? ⟨b,o + j * 4 + 2,none⟩ = some (.int .i64 (k + 4 * (j : Int) + 1 + 1)):=hc 2 _ (by omega) rfl;have hc3 : wr.cell? ⟨b,o + j * 4 + 3,none⟩ = some (.string ⟨(markT (k + 4 * (j : Int) + 1 + 1 + 1)).toArray⟩):=hc 3 _ (by omega) rfl;clear hc
   go_wp2_with fail
   go_region_held3 (fun wx=>Below wr.heap.size wr wx ∧ wx.cell? ⟨b,o + j * 4 + 3,none⟩ = some (.string ⟨(markT (k + 4 * (j : Int) + 1 + 1 + 1)).toArray⟩)) (first | exact ⟨(Below.refl _ _).drew,hc3⟩ | exact held_step hb hc3 (by assumption) (by assumption)) (first | (go_at_call 118; refine (markText_any _ _ (by omega) (by omega)).mono ?_; rintro e w' ⟨rfl,hb7⟩))
   all_goals
    rename_i hHeld
    have hB2:=Cb hB hHeld.1;clear hHeld
    go_wp2
    go_roundw
    case rel=>exact ⟨j + 1,by omega,by go_num,by go_num,hB2⟩
    case measure=>simp [intOf]; omega
  ·obtain rfl : j = n:=by omega
   go_wp2
   go_ret
   exact ⟨rfl,hB⟩
end Go.Proofs.Ytoccapmoehdohaa
