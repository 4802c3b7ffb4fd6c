/- Rows of Waitings: contracts of the statements' helpers. Written by a program of ours (rows.py). No condition. -/
import Derived.Test.YtoccapmoehdohaaBase
import Derived.Test.YtoccapmoehdohaaOpen
import Derived.Test.YtoccapmoehdohaaAppend
import Derived.Test.YtoccapmoehdohaaWtEl
namespace Go.Proofs.Ytoccapmoehdohaa
open Go.RowKit _root_.Go.Proofs.Try
structure Bt where
 f0 : Int
 f1 : Int
 f2 : Int
 f3 : Int
 f4 : Int
instance : Inhabited Bt:=⟨⟨0,0,0,0,0⟩⟩
def Bd (r : Bt) : List Value:=[.int .i64 r.f0,.int .i64 r.f1,.int .i64 r.f2,.int .i64 r.f3,.int .i64 r.f4]
theorem Bk (r : Bt) : (Bd r).length = 5:=rfl
theorem cWaiting_one (r : Bt) : ∀ u ∈ Bd r,u.oneCell' = true:=by intro u hu; simp only [Bd,List.mem_cons,List.not_mem_nil,or_false] at hu; rcases hu with rfl | rfl | rfl | rfl | rfl <;> rfl
theorem Fr : (Try.prog.info? 45).map (fun i=>(i.zero,i.size,i.bytes)) = some (some (.agg #[.int .i64 0,.int .i64 0,.int .i64 0,.int .i64 0,.int .i64 0]),5,40):=by kernel_rfl
theorem toWaitingS_any (A : Option Addr) (n c : Nat) (zs : List Bt) (w : World) (hn : zs.length = n) (hm : n ≤ 1048576) (hr : Rd w 5 A n (zs.flatMap Bd)) :
  Calls Try.prog 62 #[.slice A n c] w fun e w'=>∃ g,e = .returned (.slice (some ⟨g,0,none⟩) n n) ∧ w'.ownsRow w.heap.size 45 5 (.slice (some ⟨g,0,none⟩) n n) n (zs.flatMap Bd) ∧ Below w.heap.size w w':=by
 subst hn;obtain ⟨i0,hi,hz0,hz1,hz2⟩:=info_parts Fr
 go_enter func62,Try.ntmps62
 go_wp2_with (with_reducible refine wpList_make_full _ rfl (.tmp 6) (.tmp 6) 26 rfl w.heap.size 45 i0 (.agg #[.int .i64 0,.int .i64 0,.int .i64 0,.int .i64 0,.int .i64 0]) 5 underlying26 hi hz0 hz1 .i64 .i64 (zs.length : Int) (zs.length : Int) zs.length rfl rfl rfl rfl (by rw [hz2]; omega) (by unfold maxLen; omega) (Nat.le_refl _) ?_; intro w1 hown1 hg1)
 have hB1 : Below w.heap.size w w1:=Br.grown hg1 (Nat.le_refl _) (by simp);obtain ⟨R,hR⟩ : ∃ R,R = (madeCells (Value.agg #[.int .i64 0,.int .i64 0,.int .i64 0,.int .i64 0,.int .i64 0]).cells (zs.length * 5)).toList:=⟨_,rfl⟩
 have hown2 : w1.ownsRow w.heap.size 45 5 (.slice (some ⟨w.heap.size,0,none⟩) zs.length zs.length) zs.length ((zs.take 0).flatMap Bd ++ R.drop (0 * 5)):=by
  rw [hR]
  simpa using hown1
 have hRl : R.length = zs.length * 5:=by
  have:=hown2.1
  simpa using this
 clear hown1 hg1 hR
 go_loopw [4] (fun i wr=>∃ k : Nat,k ≤ zs.length ∧ i = .int .i64 k ∧ wr.ownsRow w.heap.size 45 5 (.slice (some ⟨w.heap.size,0,none⟩) zs.length zs.length) zs.length ((zs.take k).flatMap Bd ++ R.drop (k * 5)) ∧ Below w.heap.size w wr) (fun i _=>zs.length - (intOf i).toNat)
 case atStart=>exact ⟨0,Nat.zero_le _,rfl,hown2,hB1⟩
 case round =>
  obtain ⟨k,hk,rfl,hown,hB⟩:=hrel;clear hown2 hB1;by_cases hlt : k < zs.length
  ·obtain ⟨b,o,rfl,hb,hc⟩:=Rd.get Bk (hr.below hB) rfl hlt;have hc0 : wr.cell? ⟨b,o + k * 5,none⟩ = some (.int .i64 zs[k].f0):=hc 0 _ (by omega) rfl;have hc1 : wr.cell? ⟨b,o + k * 5 + 1,none⟩ = some (.int .i64 zs[k].f1):=hc 1 _ (by omega) rfl;have hc2 : wr.cell? ⟨b,o + k * 5 + 2,none⟩ = some (.int .i64 zs[k].f2):=hc 2 _ (by omega) rfl;have hc3 : wr.cell? ⟨b,o + k * 5 + 3,none⟩ = some (.int .i64 zs[k].f3):=hc 3 _ (by omega) rfl;have hc4 : wr.cell? ⟨b,o + k * 5 + 4,none⟩ = some (.int .i64 zs[k].f4):=hc 4 _ (by omega) rfl
   go_wp2_with fail
   refine (toWaiting_any _ _ _ _ _ _).mono ?_;rintro e w1 ⟨rfl,hb1⟩;have hown1:=Ad hown hb1;have hBn:=Cb hB hb1;have hPl : ((zs.take k).flatMap Bd).length = k * 5:=by rw [Cd Bd 5 Bk,List.length_take_of_le (by omega)]
   have hd0 : w1.cell? ⟨w.heap.size,k * 5,none⟩ = some (R[k * 5]'(by omega)):=(hown1.cellAt (k * 5) (by omega)).trans (Cz hPl (by omega) (by omega));have hf0:=hown1.frozenAt (k * 5);have hd1 : w1.cell? ⟨w.heap.size,k * 5 + 1,none⟩ = some (R[k * 5 + 1]'(by omega)):=(hown1.cellAt (k * 5 + 1) (by omega)).trans (Cz hPl (by omega) (by omega));have hf1:=hown1.frozenAt (k * 5 + 1);have hd2 : w1.cell? ⟨w.heap.size,k * 5 + 2,none⟩ = some (R[k * 5 + 2]'(by omega)):=(hown1.cellAt (k * 5 + 2) (by omega)).trans (Cz hPl (by omega) (by omega));have hf2:=hown1.frozenAt (k * 5 + 2);have hd3 : w1.cell? ⟨w.heap.size,k * 5 + 3,none⟩ = some (R[k * 5 + 3]'(by omega)):=(hown1.cellAt (k * 5 + 3) (by omega)).trans (Cz hPl (by omega) (by omega));have hf3:=hown1.frozenAt (k * 5 + 3);have hd4 : w1.cell? ⟨w.heap.size,k * 5 + 4,none⟩ = some (R[k * 5 + 4]'(by omega)):=(hown1.cellAt (k * 5 + 4) (by omega)).trans (Cz hPl (by omega) (by omega));have hf4:=hown1.frozenAt (k * 5 + 4);have hs0:=(hown1).stored (k * 5) (.int .i64 zs[k].f0);rw [Cy hPl (by omega)] at hs0;have hs1:=(hs0.1).stored (k * 5 + 1) (.int .i64 zs[k].f1);rw [Cy (by simp only [List.length_append,List.length_cons,List.length_nil,hPl]) (by omega)] at hs1;have hs2:=(hs1.1).stored (k * 5 + 2) (.int .i64 zs[k].f2);rw [Cy (by simp only [List.length_append,List.length_cons,List.length_nil,hPl]) (by omega)] at hs2;have hs3:=(hs2.1).stored (k * 5 + 3) (.int .i64 zs[k].f3);rw [Cy (by simp only [List.length_append,List.length_cons,List.length_nil,hPl]) (by omega)] at hs3;have hs4:=(hs3.1).stored (k * 5 + 4) (.int .i64 zs[k].f4);rw [Cy (by simp only [List.length_append,List.length_cons,List.length_nil,hPl]) (by omega)] at hs4;have hlist : (zs.take k).flatMap Bd ++ [.int .i64 zs[k].f0] ++ [.int .i64 zs[k].f1] ++ [.int .i64 zs[k].f2] ++ [.int .i64 zs[k].f3] ++ [.int .i64 zs[k].f4] = (zs.take (k + 1)).flatMap Bd:=by
    rw [flatMap_take Bd hlt]; simp only [List.append_assoc]; rfl
   rw [hlist,show k * 5 + 4 + 1 = (k + 1) * 5 from by omega] at hs4;have hst:=Lib.hid hs4.1;have hgr:=Lib.hid (Bn (Bn (Bn (Bn (hs0.2) hs1.2) hs2.2) hs3.2) hs4.2);clear hown1 hown hlist hs0 hs1 hs2 hs3 hs4
   generalize R[k * 5]'_ = old0 at hd0
   generalize R[k * 5 + 1]'_ = old1 at hd1
   generalize R[k * 5 + 2]'_ = old2 at hd2
   generalize R[k * 5 + 3]'_ = old3 at hd3
   generalize R[k * 5 + 4]'_ = old4 at hd4
   go_wp2
   go_roundw
   case rel=>exact ⟨k + 1,by omega,by go_num,hst.out,hBn.grown hgr.out hBn.size (by simp)⟩
   case measure=>simp [intOf]; omega
  ·obtain rfl : k = zs.length:=by omega
   rw [List.take_length,List.drop_of_length_le (by omega),List.append_nil] at hown
   go_wp2
   go_ret
   exact ⟨w.heap.size,rfl,hown,hB⟩
theorem Fl (zs : List Bt) : ∀ u ∈ zs.flatMap Bd,u.oneCell' = true:=by
 intro u hu;obtain ⟨r,_,hr⟩:=List.mem_flatMap.1 hu;exact cWaiting_one r u hr
theorem cloneWaiting_any (A : Option Addr) (n c : Nat) (zs : List Bt) (w : World) (hn : zs.length = n) (hm : n ≤ 1048577) (hr : Rd w 5 A n (zs.flatMap Bd)) :
  Calls Try.prog 85 #[.slice A n c] w fun e w'=>∃ A' c',e = .returned (.slice A' n c') ∧ w'.ownsRow w.heap.size 45 5 (.slice A' n c') n (zs.flatMap Bd) ∧ Below w.heap.size w w':=by
 have q : ∀ (w : World) (a : Option Addr) (n c n' c' : Nat),(binOp .eql 26 (.slice a n c) (.slice none n' c')).run Try.prog w = .ok (.bool a.isNone) w:=fun w a n c n' c'=>Lib.run_eql_slice_nil w _ _ a n c n' c' underlying26
 subst hn;cases A with
 | none =>
  obtain rfl : zs = []:=by
   cases zs with
   | nil=>rfl
   | cons z l =>
    obtain ⟨b,o,h0,_⟩:=hr.2 (by simp);cases h0
  go_enter func85,Try.ntmps85
  go_wp2
  go_ret
  exact ⟨none,0,rfl,World.ownsRow_nil _ _ _ _,Below.refl _ _⟩
 | some ad =>
  go_enter func85,Try.ntmps85
  go_wp2_with (at_builtin; refine Fc _ rfl (.tmp 5) (.tmp 6) 26 rfl 45 (.agg #[.int .i64 0,.int .i64 0,.int .i64 0,.int .i64 0,.int .i64 0]) 5 40 underlying26 Fr rfl (by decide) w.heap.size _ 0 0 [] rfl (World.ownsRow_made w #[] 0 (Nat.le_refl _) (Nat.zero_le _) rfl) (some ad) zs.length c (zs.flatMap Bd) rfl (fun h=>by cases h) (hr.alloc _) (Fl zs) (by omega) (by simp) ?_; intro A1 c1 w1 hown1 _ hB1)
  simp only [Nat.zero_add,List.nil_append] at hown1
  go_wp2
  go_ret
  exact ⟨A1,c1,by simp,hown1,(Br.alloc (Nat.le_refl _) _).trans hB1⟩
theorem szWaitingS_any (A : Option Addr) (n c : Nat) (left : Int) (w : World) (hm : n ≤ 9223372036854775807) (h0 : 0 ≤ left) (h1 : left ≤ 1048576) :
  Calls Try.prog 55 #[.slice A n c,.int .i64 left] w fun e w'=>∃ q : Int,e = .returned (.int .i64 q) ∧ -1 ≤ q ∧ q ≤ left ∧ (0 ≤ q → n ≤ 1048576) ∧ w = w':=by
 by_cases hbig : left - n < 0
 ·go_enter func55,Try.ntmps55
  go_wp2
  go_ret
  exact ⟨-1,rfl,by omega,by omega,by omega,rfl⟩
 ·go_enter func55,Try.ntmps55
  go_wp2
  go_ret
  exact ⟨_,rfl,by omega,by omega,fun _=>by omega,rfl⟩
theorem eqWaitingS_same (A B : Option Addr) (n m c d : Nat) (zs : List Bt) (w : World) (hn : zs.length = n) (hm : zs.length = m) (hb : n ≤ 4611686018427387904) (hr : Rd w 5 A n (zs.flatMap Bd)) (hs : Rd w 5 B m (zs.flatMap Bd)) :
  Calls Try.prog 66 #[.slice A n c,.slice B m d] w fun e w'=>e = .returned (.bool true) ∧ Below w.heap.size w w':=by
 subst hn;subst hm
 go_enter func66,Try.ntmps66
 go_wp2_with fail
 go_loopw [5] (fun i wr=>∃ k : Nat,k ≤ zs.length ∧ i = .int .i64 k ∧ Below w.heap.size w wr) (fun i _=>zs.length - (intOf i).toNat)
 case atStart=>exact ⟨0,Nat.zero_le _,rfl,Below.refl _ _⟩
 case round =>
  obtain ⟨k,hk,rfl,hB⟩:=hrel;by_cases hlt : k < zs.length
  ·obtain ⟨b,o,rfl,hb,hc⟩:=Rd.get Bk (hr.below hB) rfl hlt;obtain ⟨b',o',rfl,hb',hd⟩:=Rd.get Bk (hs.below hB) rfl hlt;have k0 : (0 : Int) ≤ k:=by omega
   have k1 : (k : Int) < zs.length:=by omega
   have hc0 : wr.cell? ⟨b,o + k * 5,none⟩ = some (.int .i64 zs[k].f0):=hc 0 _ (by omega) rfl;have hc1 : wr.cell? ⟨b,o + k * 5 + 1,none⟩ = some (.int .i64 zs[k].f1):=hc 1 _ (by omega) rfl;have hc2 : wr.cell? ⟨b,o + k * 5 + 2,none⟩ = some (.int .i64 zs[k].f2):=hc 2 _ (by omega) rfl;have hc3 : wr.cell? ⟨b,o + k * 5 + 3,none⟩ = some (.int .i64 zs[k].f3):=hc 3 _ (by omega) rfl;have hc4 : wr.cell? ⟨b,o + k * 5 + 4,none⟩ = some (.int .i64 zs[k].f4):=hc 4 _ (by omega) rfl;have hd0 : wr.cell? ⟨b',o' + k * 5,none⟩ = some (.int .i64 zs[k].f0):=hd 0 _ (by omega) rfl;have hd1 : wr.cell? ⟨b',o' + k * 5 + 1,none⟩ = some (.int .i64 zs[k].f1):=hd 1 _ (by omega) rfl;have hd2 : wr.cell? ⟨b',o' + k * 5 + 2,none⟩ = some (.int .i64 zs[k].f2):=hd 2 _ (by omega) rfl;have hd3 : wr.cell? ⟨b',o' + k * 5 + 3,none⟩ = some (.int .i64 zs[k].f3):=hd 3 _ (by omega) rfl;have hd4 : wr.cell? ⟨b',o' + k * 5 + 4,none⟩ = some (.int .i64 zs[k].f4):=hd 4 _ (by omega) rfl;clear hc hd
   go_wp2_with fail
   have HK : Hid (∀ wx,Below wr.heap.size wr wx → (Below wr.heap.size wr wx ∧ wx.cell? ⟨b,o + k * 5,none⟩ = some (.int .i64 zs[k].f0) ∧ wx.cell? ⟨b,o + k * 5 + 1,none⟩ = some (.int .i64 zs[k].f1) ∧ wx.cell? ⟨b,o + k * 5 + 2,none⟩ = some (.int .i64 zs[k].f2) ∧ wx.cell? ⟨b,o + k * 5 + 3,none⟩ = some (.int .i64 zs[k].f3) ∧ wx.cell? ⟨b,o + k * 5 + 4,none⟩ = some (.int .i64 zs[k].f4) ∧ wx.cell? ⟨b',o' + k * 5,none⟩ = some (.int .i64 zs[k].f0) ∧ wx.cell? ⟨b',o' + k * 5 + 1,none⟩ = some (.int .i64 zs[k].f1) ∧ wx.cell? ⟨b',o' + k * 5 + 2,none⟩ = some (.int .i64 zs[k].f2) ∧ wx.cell? ⟨b',o' + k * 5 + 3,none⟩ = some (.int .i64 zs[k].f3) ∧ wx.cell? ⟨b',o' + k * 5 + 4,none⟩ = some (.int .i64 zs[k].f4))):=Lib.hid (fun wx h=>⟨h,(h.cell (p:=⟨b,o + k * 5,none⟩) hb).trans hc0,(h.cell (p:=⟨b,o + k * 5 + 1,none⟩) hb).trans hc1,(h.cell (p:=⟨b,o + k * 5 + 2,none⟩) hb).trans hc2,(h.cell (p:=⟨b,o + k * 5 + 3,none⟩) hb).trans hc3,(h.cell (p:=⟨b,o + k * 5 + 4,none⟩) hb).trans hc4,(h.cell (p:=⟨b',o' + k * 5,none⟩) hb').trans hd0,(h.cell (p:=⟨b',o' + k * 5 + 1,none⟩) hb').trans hd1,(h.cell (p:=⟨b',o' + k * 5 + 2,none⟩) hb').trans hd2,(h.cell (p:=⟨b',o' + k * 5 + 3,none⟩) hb').trans hd3,(h.cell (p:=⟨b',o' + k * 5 + 4,none⟩) hb').trans hd4⟩)
   go_region_held3 (fun wx=>Below wr.heap.size wr wx ∧ wx.cell? ⟨b,o + k * 5,none⟩ = some (.int .i64 zs[k].f0) ∧ wx.cell? ⟨b,o + k * 5 + 1,none⟩ = some (.int .i64 zs[k].f1) ∧ wx.cell? ⟨b,o + k * 5 + 2,none⟩ = some (.int .i64 zs[k].f2) ∧ wx.cell? ⟨b,o + k * 5 + 3,none⟩ = some (.int .i64 zs[k].f3) ∧ wx.cell? ⟨b,o + k * 5 + 4,none⟩ = some (.int .i64 zs[k].f4) ∧ wx.cell? ⟨b',o' + k * 5,none⟩ = some (.int .i64 zs[k].f0) ∧ wx.cell? ⟨b',o' + k * 5 + 1,none⟩ = some (.int .i64 zs[k].f1) ∧ wx.cell? ⟨b',o' + k * 5 + 2,none⟩ = some (.int .i64 zs[k].f2) ∧ wx.cell? ⟨b',o' + k * 5 + 3,none⟩ = some (.int .i64 zs[k].f3) ∧ wx.cell? ⟨b',o' + k * 5 + 4,none⟩ = some (.int .i64 zs[k].f4)) (first | exact HK.out _ Br.drew | exact HK.out _ (Cb (And.left ‹_›) ‹_›)) (first | (go_at_call 101; refine (eqWaiting_same _ _ _ _ _ _).mono ?_; rintro e w' ⟨rfl,hb7⟩))
   all_goals
    rename_i hHeld
    have hB2:=Cb hB hHeld.1;clear hHeld
    go_wp2
    go_roundw
    case rel=>exact ⟨k + 1,by omega,by go_num,hB2⟩
    case measure=>simp [intOf]; omega
  ·go_wp2
   go_ret
   exact ⟨rfl,hB⟩
def markWaiting (k : Int) (j : Nat) : Bt:=⟨k + 5 * (j : Int),k + 5 * (j : Int) + 1,k + 5 * (j : Int) + 1 + 1,k + 5 * (j : Int) + 1 + 1 + 1,k + 5 * (j : Int) + 1 + 1 + 1 + 1⟩
def Cs (k : Int) (n : Nat) : List Bt:=(List.range n).map fun (j : Nat)=>markWaiting k j
theorem Ff (k : Int) (n : Nat) : (Cs k n).length = n:=by simp [Cs]
theorem marksWaiting_get (k : Int) (n j : Nat) (h : j < (Cs k n).length) : (Cs k n)[j] = markWaiting k j:=by simp [Cs]
theorem marksWaiting_step (k : Int) (j : Nat) : (Cs k (j + 1)).flatMap Bd = (Cs k j).flatMap Bd ++ Bd (markWaiting k j):=by
 unfold Cs;rw [List.range_succ,List.map_append,List.flatMap_append];simp
theorem markWaitingS_any (base : Nat) (A : Option Addr) (n c : Nat) (xs : List Value) (k : Int) (w : World) (hk0 : 0 ≤ k) (hk1 : k ≤ 1152921504606846976) (hm : n ≤ 1048577) (hown : w.ownsRow base 45 5 (.slice A n c) n xs) :
  Calls Try.prog 72 #[.slice A n c,.int .i64 k] w fun e w'=>e = .returned (.int .i64 (k + 5 * n)) ∧ w'.ownsRow base 45 5 (.slice A n c) n ((Cs k n).flatMap Bd) ∧ w.grownBy w' (A.map (·.block)):=by
 have hxl : xs.length = n * 5:=hown.1
 go_enter func72,Try.ntmps72
 go_wp2_with fail
 go_loopw [1,5] (fun q i wr=>∃ j : Nat,j ≤ n ∧ i = .int .i64 j ∧ q = .int .i64 (k + 5 * j) ∧ wr.ownsRow base 45 5 (.slice A n c) n ((Cs k j).flatMap Bd ++ xs.drop (j * 5)) ∧ w.grownBy wr (A.map (·.block))) (fun _ i _=>n - (intOf i).toNat)
 case atStart=>exact ⟨0,Nat.zero_le _,rfl,by simp,by simpa [Cs] using hown,World.grownBy.refl _ _⟩
 case round =>
  obtain ⟨j,hj,rfl,rfl,hown',hg⟩:=hrel;clear hown;by_cases hlt : j < n
  ·have hAg : ∃ g,A = some ⟨g,0,none⟩:=by
    rcases hown'.2 with ⟨_,h0⟩ | ⟨g,cap,cur,hv,_⟩
    ·omega
    ·simp only [Value.slice.injEq,true_and] at hv;exact ⟨g,hv.1⟩
   obtain ⟨g,rfl⟩:=hAg;have hPl : ((Cs k j).flatMap Bd).length = j * 5:=by rw [Cd Bd 5 Bk,Ff]
   have hfin:=marksWaiting_step k j;have hd0:=((hown').cellAt (j * 5) (by omega)).trans (Cz hPl (by omega) (by omega));have hf0:=(hown').frozenAt (j * 5);have hs0:=(hown').stored (j * 5) (.int .i64 (k + 5 * (j : Int)));rw [Cy hPl (by omega)] at hs0;have hd1:=((hs0.1).cellAt (j * 5 + 1) (by omega)).trans (Cz (by simp only [List.length_append,List.length_cons,List.length_nil,hPl]) (by omega) (by omega));have hf1:=(hs0.1).frozenAt (j * 5 + 1);have hs1:=(hs0.1).stored (j * 5 + 1) (.int .i64 (k + 5 * (j : Int) + 1));rw [Cy (by simp only [List.length_append,List.length_cons,List.length_nil,hPl]) (by omega)] at hs1;have hd2:=((hs1.1).cellAt (j * 5 + 2) (by omega)).trans (Cz (by simp only [List.length_append,List.length_cons,List.length_nil,hPl]) (by omega) (by omega));have hf2:=(hs1.1).frozenAt (j * 5 + 2);have hs2:=(hs1.1).stored (j * 5 + 2) (.int .i64 (k + 5 * (j : Int) + 1 + 1));rw [Cy (by simp only [List.length_append,List.length_cons,List.length_nil,hPl]) (by omega)] at hs2;have hd3:=((hs2.1).cellAt (j * 5 + 3) (by omega)).trans (Cz (by simp only [List.length_append,List.length_cons,List.length_nil,hPl]) (by omega) (by omega));have hf3:=(hs2.1).frozenAt (j * 5 + 3);have hs3:=(hs2.1).stored (j * 5 + 3) (.int .i64 (k + 5 * (j : Int) + 1 + 1 + 1));rw [Cy (by simp only [List.length_append,List.length_cons,List.length_nil,hPl]) (by omega)] at hs3;have hd4:=((hs3.1).cellAt (j * 5 + 4) (by omega)).trans (Cz (by simp only [List.length_append,List.length_cons,List.length_nil,hPl]) (by omega) (by omega));have hf4:=(hs3.1).frozenAt (j * 5 + 4);have hs4:=(hs3.1).stored (j * 5 + 4) (.int .i64 (k + 5 * (j : Int) + 1 + 1 + 1 + 1));rw [Cy (by simp only [List.length_append,List.length_cons,List.length_nil,hPl]) (by omega)] at hs4;have hlist : (Cs k j).flatMap Bd ++ [.int .i64 (k + 5 * (j : Int))] ++ [.int .i64 (k + 5 * (j : Int) + 1)] ++ [.int .i64 (k + 5 * (j : Int) + 1 + 1)] ++ [.int .i64 (k + 5 * (j : Int) + 1 + 1 + 1)] ++ [.int .i64 (k + 5 * (j : Int) + 1 + 1 + 1 + 1)] = (Cs k (j + 1)).flatMap Bd:=by
    rw [hfin]; simp only [List.append_assoc]; rfl
   rw [hlist,show j * 5 + 4 + 1 = (j + 1) * 5 from by omega] at hs4;have hst:=Lib.hid hs4.1;have hgr:=Lib.hid (Bn (Bn (Bn (Bn (Bn (hg) hs0.2) hs1.2) hs2.2) hs3.2) hs4.2);clear hown' hlist hfin hs0 hs1 hs2 hs3 hs4
   generalize xs[j * 5]'_ = old0 at hd0
   generalize xs[j * 5 + 1]'_ = old1 at hd1
   generalize xs[j * 5 + 2]'_ = old2 at hd2
   generalize xs[j * 5 + 3]'_ = old3 at hd3
   generalize xs[j * 5 + 4]'_ = old4 at hd4
   go_wp2
   go_roundw
   case rel=>exact ⟨j + 1,by omega,by go_num,by go_num,hst.out,hgr.out⟩
   case measure=>simp [intOf]; omega
  ·obtain rfl : j = n:=by omega
   rw [List.drop_of_length_le (by omega),List.append_nil] at hown'
   go_wp2
   go_ret
   exact ⟨rfl,hown',hg⟩
theorem heldWaitingS_any (A : Option Addr) (n c : Nat) (k : Int) (w : World) (hk0 : 0 ≤ k) (hk1 : k ≤ 1152921504606846976) (hm : n ≤ 1048577) (hr : Rd w 5 A n ((Cs k n).flatMap Bd)) :
  Calls Try.prog 77 #[.slice A n c,.int .i64 k] w fun e w'=>e = .returned (.int .i64 (k + 5 * n)) ∧ Below w.heap.size w w':=by
 go_enter func77,Try.ntmps77
 go_wp2_with fail
 go_loopw [1,5] (fun q i wr=>∃ j : Nat,j ≤ n ∧ i = .int .i64 j ∧ q = .int .i64 (k + 5 * j) ∧ Below w.heap.size w wr) (fun _ i _=>n - (intOf i).toNat)
 case atStart=>exact ⟨0,Nat.zero_le _,rfl,by simp,Below.refl _ _⟩
 case round =>
  obtain ⟨j,hj,rfl,rfl,hB⟩:=hrel;by_cases hlt : j < n
  ·have hlm : j < (Cs k n).length:=by rw [Ff]; exact hlt
   obtain ⟨b,o,rfl,hb,hc⟩:=Rd.get Bk (hr.below hB) (Ff k n).symm hlm;rw [marksWaiting_get] at hc;have k0 : (0 : Int) ≤ j:=by omega
   have k1 : (j : Int) < n:=by omega
   have hc0 : wr.cell? ⟨b,o + j * 5,none⟩ = some (.int .i64 (k + 5 * (j : Int))):=hc 0 _ (by omega) rfl;have hc1 : wr.cell? ⟨b,o + j * 5 + 1,none⟩ = some (.int .i64 (k + 5 * (j : Int) + 1)):=hc 1 _ (by omega) rfl;have hc2 : wr.cell? ⟨b,o + j * 5 + 2,none⟩ = some (.int .i64 (k + 5 * (j : Int) + 1 + 1)):=hc 2 _ (by omega) rfl;have hc3 : wr.cell? ⟨b,o + j * 5 + 3,none⟩ = some (.int .i64 (k + 5 * (j : Int) + 1 + 1 + 1)):=hc 3 _ (by omega) rfl;have hc4 : wr.cell? ⟨b,o + j * 5 + 4,none⟩ = some (.int .i64 (k + 5 * (j : Int) + 1 + 1 + 1 + 1)):=hc 4 _ (by omega) rfl;clear hc
   go_wp2
   go_roundw
   case rel=>exact ⟨j + 1,by omega,by go_num,by go_num,hB⟩
   case measure=>simp [intOf]; omega
  ·obtain rfl : j = n:=by omega
   go_wp2
   go_ret
   exact ⟨rfl,hB⟩
end Go.Proofs.Ytoccapmoehdohaa
