/- Contracts of the statements' helpers on lists of numbers: a copy, equality, marks and whether they are held, a length taken off. No condition. -/
import Derived.Test.YtoccapmoehdohaaBase
import Derived.Test.YtoccapmoehdohaaOpen
namespace Go.Proofs.Ytoccapmoehdohaa
open Go.RowKit
theorem copy_step {zs : List Int} {k : Nat} (hk : k < zs.length) : ((zs.take k ++ List.replicate (zs.length - k) 0).flatMap cI).set k (.int .i64 zs[k]) = (zs.take (k + 1) ++ List.replicate (zs.length - (k + 1)) 0).flatMap cI:=by
 have e : ∀ l : List Int,l.flatMap cI = l.map (Value.int .i64):=fun l=>by
  induction l with
  | nil=>rfl
  | cons x l ih=>rw [List.flatMap_cons,ih]; rfl
 rw [e,e,← List.map_set]
 congr 1
 have hl : (zs.take k).length = k:=List.length_take_of_le (by omega);rw [List.set_append_right _ _ (by omega),hl,Nat.sub_self,show zs.length - k = (zs.length - (k + 1)) + 1 from by omega,List.replicate_succ,List.set_cons_zero,
  List.take_succ_eq_append_getElem hk,List.append_assoc]
 rfl
theorem toIntS_any (A : Option Addr) (n c : Nat) (zs : List Int) (w : World) (hn : zs.length = n) (hm : n ≤ 1048576) (hr : Rd w 1 A n (zs.flatMap cI)) :
  Calls Try.prog 61 #[.slice A n c] w fun e w'=>∃ g,e = .returned (.slice (some ⟨g,0,none⟩) n n) ∧ w'.ownsRow w.heap.size 3 1 (.slice (some ⟨g,0,none⟩) n n) n (zs.flatMap cI) ∧ Below w.heap.size w w':=by
 subst hn;obtain ⟨i0,hi,hz0,hz1,hz2⟩:=info_parts Fk
 go_enter Try.func61,Try.ntmps61
 go_wp2_with (with_reducible refine wpList_make_full _ rfl (.tmp 6) (.tmp 6) 24 rfl w.heap.size 3 i0 (.int .i64 0) 1 Try.underlying24 hi hz0 hz1 .i64 .i64 (zs.length : Int) (zs.length : Int) zs.length rfl rfl rfl rfl (by rw [hz2]; omega) (by unfold maxLen; omega) (Nat.le_refl _) ?_; intro w1 hown1 hg1)
 have hB1 : Below w.heap.size w w1:=(Below.refl _ _).grown hg1 (Nat.le_refl _) (by simp);rw [Nat.mul_one] at hown1;have hown2 : w1.ownsRow w.heap.size 3 1 (.slice (some ⟨w.heap.size,0,none⟩) zs.length zs.length) zs.length ((zs.take 0 ++ List.replicate (zs.length - 0) 0).flatMap cI):=by
  have e : (madeCells (Value.int IntKind.i64 0).cells zs.length).toList = (zs.take 0 ++ List.replicate (zs.length - 0) 0).flatMap cI:=by
   rw [show (Value.int IntKind.i64 0).cells = #[.int .i64 0] from rfl,toList_madeCells_one];have : ∀ m : Nat,List.replicate m (Value.int .i64 0) = (List.replicate m (0 : Int)).flatMap cI:=fun m=>by
    induction m with
    | zero=>rfl
    | succ m ih=>rw [List.replicate_succ,List.replicate_succ,List.flatMap_cons,ih]; rfl
   simpa using this zs.length
  rw [← e];exact hown1
 clear hown1 hg1
 go_loopw [4] (fun i wr=>∃ k : Nat,k ≤ zs.length ∧ i = .int .i64 k ∧ wr.ownsRow w.heap.size 3 1 (.slice (some ⟨w.heap.size,0,none⟩) zs.length zs.length) zs.length ((zs.take k ++ List.replicate (zs.length - k) 0).flatMap cI) ∧ Below w.heap.size w wr) (fun i _=>zs.length - (intOf i).toNat)
 case atStart=>exact ⟨0,Nat.zero_le _,rfl,hown2,hB1⟩
 case round =>
  obtain ⟨k,hk,rfl,hown,hB⟩:=hrel;clear hown2 hB1;by_cases hlt : k < zs.length
  ·obtain ⟨b,o,rfl,hb,hc⟩:=(hr.below hB).int rfl hlt;have hold:=hown.cellAt k (by omega);have hlen : (zs.take k ++ List.replicate (zs.length - k) 0).length = zs.length:=by simp; omega
   have hget:=flatMap_get cI 1 Fo (zs.take k ++ List.replicate (zs.length - k) 0) k 0 (by omega) (by omega);rw [Nat.mul_one,Nat.add_zero] at hget;have hcell : wr.cell? ⟨w.heap.size,k,none⟩ = some (.int .i64 ((zs.take k ++ List.replicate (zs.length - k) 0)[k]'(by omega))):=hold.trans hget
   generalize (zs.take k ++ List.replicate (zs.length - k) 0)[k] = old at hcell
   have hfr:=hown.frozenAt k;have hst:=hown.stored k (.int .i64 zs[k]);rw [copy_step hlt] at hst;have hst':=Lib.hid hst;clear hold hget hown hst hlen
   go_wp2
   go_roundw
   case rel=>exact ⟨k + 1,by omega,by go_num,hst'.out.1,hB.grown hst'.out.2 hB.size (by simp)⟩
   case measure=>simp [intOf]; omega
  ·obtain rfl : k = zs.length:=by omega
   rw [List.take_length,Nat.sub_self,List.replicate_zero,List.append_nil] at hown
   go_wp2
   go_ret
   exact ⟨w.heap.size,rfl,hown,hB⟩
theorem eqIntS_any (A B : Option Addr) (n m c d : Nat) (zs ys : List Int) (w : World) (hn : zs.length = n) (hm : ys.length = m) (hb : n ≤ 4611686018427387904) (hb' : m ≤ 4611686018427387904) (hr : Rd w 1 A n (zs.flatMap cI)) (hs : Rd w 1 B m (ys.flatMap cI)) :
  Calls Try.prog 65 #[.slice A n c,.slice B m d] w fun e w'=>e = .returned (.bool (decide (zs = ys))) ∧ Below w.heap.size w w':=by
 subst hn;subst hm;by_cases hl : zs.length = ys.length
 ·have hl2 : zs.length ≤ ys.length ∧ ys.length ≤ zs.length:=by omega
  have hl3 : ((zs.length : Int) != ys.length) = false:=by simp; omega
  have HL:=Lib.hid hl;clear hl
  go_enter Try.func65,Try.ntmps65
  go_wp2_with fail
  go_loopw [5] (fun i wr=>∃ k : Nat,k ≤ zs.length ∧ i = .int .i64 k ∧ Hid (zs.take k = ys.take k) ∧ Below w.heap.size w wr) (fun i _=>zs.length - (intOf i).toNat)
  case atStart=>exact ⟨0,Nat.zero_le _,rfl,rfl,Below.refl _ _⟩
  case round =>
   obtain ⟨k,hk,rfl,heq,hB⟩:=hrel;by_cases hlt : k < zs.length
   ·have hlt2 : k < ys.length:=by omega
    obtain ⟨b,o,rfl,_,hc⟩:=(hr.below hB).int rfl hlt;obtain ⟨b',o',rfl,_,hc'⟩:=(hs.below hB).int rfl hlt2;have k0 : (0 : Int) ≤ k:=by omega
    have k1 : (k : Int) < zs.length:=by omega
    have k2 : (k : Int) < ys.length:=by omega
    by_cases hx : zs[k] = ys[k]
    ·have hx' : (zs[k] != ys[k]) = false:=by simp [hx]
     have hnext : Hid (zs.take (k + 1) = ys.take (k + 1)):=Lib.hid (by
      rw [List.take_succ_eq_append_getElem hlt,List.take_succ_eq_append_getElem hlt2,heq.out,hx])
     clear hx
     go_wp2_with fail
     go_quiet (fail)
     go_wp2
     go_roundw
     case rel=>exact ⟨k + 1,by omega,by go_num,hnext.out,below_drewN hB _⟩
     case measure=>simp [intOf]; omega
    ·have hx' : (zs[k] != ys[k]) = true:=by simp [hx]
     have hne : Hid (decide (zs = ys) = false):=Lib.hid (decide_eq_false fun e=>hx (by subst e; rfl));clear hx
     go_wp2_with fail
     go_quiet (fail)
     go_wp2
     go_ret
     exact ⟨Cf hne.out.symm,below_drewN hB _⟩
   ·obtain rfl : k = zs.length:=by omega
    have hyes : Hid (decide (zs = ys) = true):=Lib.hid (decide_eq_true (by have:=heq.out; rwa [List.take_length,HL.out,List.take_length] at this))
    go_wp2
    go_ret
    exact ⟨Cf hyes.out.symm,hB⟩
 ·have hno : Hid (decide (zs = ys) = false):=Lib.hid (decide_eq_false fun e=>hl (by rw [e]));have hl' : ((zs.length : Int) != ys.length) = true:=by simp; omega
  clear hl
  go_enter Try.func65,Try.ntmps65
  go_wp2
  go_ret
  exact ⟨Cf hno.out.symm,Below.refl _ _⟩
def Ea (k : Int) (n : Nat) : List Int:=(List.range n).map fun (i : Nat)=>k + (i : Int)
theorem Fm (k : Int) (n : Nat) : (Ea k n).length = n:=by simp [Ea]
theorem marksI_get (k : Int) (n i : Nat) (h : i < (Ea k n).length) : (Ea k n)[i] = k + i:=by simp [Ea]
theorem marksI_step {xs : List Value} {k : Int} {i : Nat} (hi : i < xs.length) : ((Ea k i).flatMap cI ++ xs.drop i).set i (.int .i64 (k + i)) = (Ea k (i + 1)).flatMap cI ++ xs.drop (i + 1):=by
 have hl : ((Ea k i).flatMap cI).length = i:=by rw [Cd cI 1 Fo,Fm,Nat.mul_one]
 rw [List.set_append_right _ _ (by omega),hl,Nat.sub_self,List.drop_eq_getElem_cons hi,List.set_cons_zero];unfold Ea;rw [List.range_succ,List.map_append,List.flatMap_append,List.append_assoc]
 rfl
theorem marksI_cell {xs : List Value} {k : Int} {i : Nat} (hi : i < xs.length) : ((Ea k i).flatMap cI ++ xs.drop i)[i]? = some xs[i]:=by
 have hl : ((Ea k i).flatMap cI).length = i:=by rw [Cd cI 1 Fo,Fm,Nat.mul_one]
 rw [List.getElem?_append_right (by omega),hl,Nat.sub_self,List.getElem?_drop,Nat.add_zero,List.getElem?_eq_getElem hi]
theorem markIntS_any (base : Nat) (A : Option Addr) (n c : Nat) (xs : List Value) (k : Int) (w : World) (hk0 : 0 ≤ k) (hk1 : k ≤ 2305843009213693952) (hm : n ≤ 2305843009213693952) (hown : w.ownsRow base 3 1 (.slice A n c) n xs) :
  Calls Try.prog 71 #[.slice A n c,.int .i64 k] w fun e w'=>e = .returned (.int .i64 (k + n)) ∧ w'.ownsRow base 3 1 (.slice A n c) n ((Ea k n).flatMap cI) ∧ w.grownBy w' (A.map (·.block)):=by
 have hxl : xs.length = n:=by have:=hown.1; omega
 have hxl' : xs.length ≤ n ∧ n ≤ xs.length:=by omega
 clear hxl
 go_enter Try.func71,Try.ntmps71
 go_wp2_with fail
 go_loopw [1,5] (fun q i wr=>∃ j : Nat,j ≤ n ∧ i = .int .i64 j ∧ q = .int .i64 (k + j) ∧ wr.ownsRow base 3 1 (.slice A n c) n ((Ea k j).flatMap cI ++ xs.drop j) ∧ w.grownBy wr (A.map (·.block))) (fun _ i _=>n - (intOf i).toNat)
 case atStart=>exact ⟨0,Nat.zero_le _,rfl,by simp,by simpa [Ea] using hown,World.grownBy.refl _ _⟩
 case round =>
  obtain ⟨j,hj,rfl,rfl,hown',hg⟩:=hrel;clear hown;by_cases hlt : j < n
  ·have hjx : j < xs.length:=by omega
   rcases hown'.2 with ⟨_,h0⟩ | ⟨g,cap,cur,hv,_⟩
   ·omega
   ·simp only [Value.slice.injEq,true_and] at hv;obtain ⟨rfl,rfl⟩:=hv;have hcell : wr.cell? ⟨g,j,none⟩ = some xs[j]:=(hown'.cellAt j (by omega)).trans (marksI_cell hjx);have hfr:=hown'.frozenAt j;have hst:=hown'.stored j (.int .i64 (k + j));rw [marksI_step hjx] at hst;have hst':=Lib.hid hst;clear hown' hst
    generalize xs[j] = old at hcell
    go_wp2
    go_roundw
    case rel=>exact ⟨j + 1,by omega,by go_num,by go_num,hst'.out.1,Bn hg hst'.out.2⟩
    case measure=>simp [intOf]; omega
  ·obtain rfl : j = n:=by omega
   rw [List.drop_of_length_le (by omega),List.append_nil] at hown'
   go_wp2
   go_ret
   exact ⟨rfl,hown',hg⟩
theorem heldIntS_any (A : Option Addr) (n c : Nat) (k : Int) (w : World) (hk0 : 0 ≤ k) (hk1 : k ≤ 2305843009213693952) (hm : n ≤ 2305843009213693952) (hr : Rd w 1 A n ((Ea k n).flatMap cI)) :
  Calls Try.prog 75 #[.slice A n c,.int .i64 k] w fun e w'=>e = .returned (.int .i64 (k + n)) ∧ w = w':=by
 go_enter Try.func75,Try.ntmps75
 go_wp2_with fail
 go_loop [1,5] (fun q i=>∃ j : Nat,j ≤ n ∧ i = .int .i64 j ∧ q = .int .i64 (k + j)) (fun _ i=>n - (intOf i).toNat)
 case atStart=>exact ⟨0,Nat.zero_le _,rfl,by simp⟩
 case round =>
  obtain ⟨j,hj,rfl,rfl⟩:=hrel;by_cases hlt : j < n
  ·have hlm : j < (Ea k n).length:=by rw [Fm]; exact hlt
   obtain ⟨b,o,rfl,_,hc⟩:=hr.int (Fm k n) hlm;rw [marksI_get] at hc
   go_wp2
   go_round
   case rel=>exact ⟨j + 1,by omega,by go_num,by go_num⟩
   case measure=>simp [intOf]; omega
  ·obtain rfl : j = n:=by omega
   go_wp2
   go_ret
   exact ⟨rfl,rfl⟩
theorem szIntS_any (A : Option Addr) (n c : Nat) (left : Int) (w : World) (hm : n ≤ 9223372036854775807) (h0 : 0 ≤ left) (h1 : left ≤ 1048576) :
  Calls Try.prog 54 #[.slice A n c,.int .i64 left] w fun e w'=>∃ q : Int,e = .returned (.int .i64 q) ∧ -1 ≤ q ∧ q ≤ left ∧ (0 ≤ q → n ≤ 1048576) ∧ w = w':=by
 by_cases hbig : left - n < 0
 ·go_enter Try.func54,Try.ntmps54
  go_wp2
  go_ret
  exact ⟨-1,rfl,by omega,by omega,by omega,rfl⟩
 ·go_enter Try.func54,Try.ntmps54
  go_wp2
  go_ret
  exact ⟨_,rfl,by omega,by omega,fun _=>by omega,rfl⟩
end Go.Proofs.Ytoccapmoehdohaa
