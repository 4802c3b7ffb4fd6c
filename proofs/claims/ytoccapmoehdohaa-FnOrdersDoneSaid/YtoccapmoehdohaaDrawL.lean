/- Contracts of the draws: a cursor over the bytes of the code, drawn bytes and numbers below a bound. No condition. -/
import Derived.Test.YtoccapmoehdohaaOpen
import Derived.Test.YtoccapmoehdohaaBase
import Derived.Test.YtoccapmoehdohaaAppend
import Derived.Test.YtoccapmoehdohaaRelBox
namespace Go.Proofs.Ytoccapmoehdohaa
open Go.RowKit
theorem and_any (y : Int) (m : Nat) (hm : m < 9223372036854775808) : 0 ≤ bits .and .i64 y m ∧ bits .and .i64 y m ≤ m:=by
 have hx : (BitVec.ofInt 64 y).toNat &&& m ≤ m:=Nat.and_le_right;have e : bits .and .i64 y m = (((BitVec.ofInt 64 y).toNat &&& m : Nat) : Int):=by
  show IntKind.i64.wrap ((BitVec.ofInt 64 y &&& BitVec.ofInt 64 (m : Int)).toNat : Int) = _;rw [BitVec.toNat_and,ofInt_i64 m hm,IntKind.wrap_i64];omega
 rw [e];omega
theorem and255 (y : Int) : 0 ≤ bits .and .i64 y 255 ∧ bits .and .i64 y 255 ≤ 255:=and_any y 255 (by omega)
theorem and30 (y : Int) : 0 ≤ bits .and .i64 y 1073741823 ∧ bits .and .i64 y 1073741823 ≤ 1073741823:=and_any y 1073741823 (by omega)
theorem Et {w : World} {g : Nat} {cs : Array Value} {T : TypeId} (h : w.heap[g]? = some (.cells cs T (0,0))) (j : Nat) (v : Value) : (w.setCell ⟨g,j,none⟩ v).heap[g]? = some (.cells (cs.setIfInBounds j v) T (0,0)):=by
 rw [setCell_eq_setRow w g j cs T (0,0) v h];exact setRow_heap w g cs _ T _ h
theorem grown_refl (w : World) (r : Option Nat) : w.grownBy w r:=⟨rfl,rfl,rfl,Nat.le_refl _,fun _ _ _=>rfl⟩
theorem grown_setCell {w w' : World} {g : Nat} (h : w.grownBy w' (some g)) (j : Nat) (v : Value) : w.grownBy (w'.setCell ⟨g,j,none⟩ v) (some g) :=
 Ck h ⟨rfl,rfl,rfl,by simp,fun k _ hne=>Below.heap_setCell _ _ _ _ (fun e=>by first | exact hne (by rw [e]) | exact hne (by rw [← e]))⟩
theorem grown_drewN {w w' : World} {r : Option Nat} (h : w.grownBy w' r) (n : Nat) : w.grownBy (w'.drewN n) r:=⟨h.os,h.tape,h.output,h.size,h.block⟩
theorem Cx {w : World} {g : Nat} {cs : Array Value} {T : TypeId} (h : w.heap[g]? = some (.cells cs T (0,0))) (j : Nat) : w.frozen? ⟨g,j,none⟩ = false:=by simp [World.frozen?,h]
def Cur (w : World) (g : Nat) (A : Option Addr) (n c : Nat) : Prop:=∃ i h : Int,w.heap[g]? = some (.cells #[.slice A n c,.int .i64 i,.int .i64 h] 122 (0,0)) ∧ 0 ≤ i ∧ i ≤ n ∧ I64 h
theorem Cur.keep {w w' : World} {g : Nat} {A : Option Addr} {n c : Nat} (h : Cur w g A n c) (hb : Below w.heap.size w w') : Cur w' g A n c:=by
 obtain ⟨i,q,h1,h2⟩:=h;exact ⟨i,q,(hb.block g (Array.getElem?_eq_some_iff.1 h1).1).trans h1,h2⟩
theorem Cur.lt {w : World} {g : Nat} {A : Option Addr} {n c : Nat} (h : Cur w g A n c) : g < w.heap.size:=by
 obtain ⟨i,q,h1,_⟩:=h;exact (Array.getElem?_eq_some_iff.1 h1).1
theorem i64_wrap64 (x : Int) : I64 (wrap64 x):=by
 unfold I64 wrap64;omega
theorem l01Byte_any (g : Nat) (A : Option Addr) (n c : Nat) (zs : List UInt8) (w : World) (hn : zs.length = n) (hm : n ≤ 9223372036854775806) (hr : Rd w 1 A n (zs.flatMap cB)) (hne : 0 < n → ∀ b o,A = some ⟨b,o,none⟩ → b ≠ g) (hC : Cur w g A n c) :
  Calls Try.prog 92 #[.pointer (some ⟨g,0,none⟩)] w fun e w'=>∃ x : Int,e = .returned (.int .i64 x) ∧ 0 ≤ x ∧ x ≤ 255 ∧ Cur w' g A n c ∧ w.grownBy w' (some g):=by
 obtain ⟨i,h,hg,hi0,hi1,hh⟩:=hC;subst hn;have c0 : w.cell? ⟨g,0,none⟩ = some (.slice A zs.length c):=cell_of_row _ _ 0 _ _ _ hg;have c1 : w.cell? ⟨g,1,none⟩ = some (.int .i64 i):=cell_of_row _ _ 1 _ _ _ hg;have c2 : w.cell? ⟨g,2,none⟩ = some (.int .i64 h):=cell_of_row _ _ 2 _ _ _ hg;have f0:=Cx hg;have HG:=Lib.hid hg;clear hg;obtain ⟨A0,hA0⟩ : ∃ A0,A0 = A:=⟨A,rfl⟩
 rw [← hA0] at HG c0;by_cases hlt : i < zs.length
 ·obtain ⟨k,hk'⟩:=Int.eq_ofNat_of_zero_le hi0;have hk : k < zs.length:=by omega
  obtain ⟨b,o,hA,hb,hc⟩:=hr.byte rfl hk;have hbg:=hne (by omega) b o hA;have HA:=Lib.hid hA;have hA0':=hA0.trans hA;subst hA0';subst hk';have hz0:=num_lo zs[k];have hz1:=num_hi zs[k]
  generalize num zs[k] = z at *
  have hlt' : ((k : Int) < (zs.length : Int)):=hlt;have hbl : ∀ w1,w.grownBy w1 (some g) → w1.cell? ⟨b,o + k,none⟩ = some (.int .u8 z):=fun w1 h=>((rcell h).1 b _ hb (fun e=>hbg (by cases e; rfl))).trans hc
  have hBL:=Lib.hid hbl;clear hbl hr hne hA hA0 hc
  go_enter Try.func92,Try.ntmps92
  go_wp2
  have hH:=i64_wrap64 (wrap64 (h * 6364136223846793005) + 1442695040888963407)
  generalize wrap64 (wrap64 (h * 6364136223846793005) + 1442695040888963407) = H at hH ⊢
  obtain ⟨w1,hw1⟩ : ∃ W,W = w.setCell ⟨g,2,none⟩ (.int .i64 H):=⟨_,rfl⟩
  have h1 : w1.heap[g]? = some (.cells #[.slice (some ⟨b,o,none⟩) zs.length c,.int .i64 k,.int .i64 H] 122 (0,0)):=by rw [hw1]; exact Et HG.out 2 _
  have hb1 : w.grownBy w1 (some g):=by rw [hw1]; exact grown_setCell (grown_refl _ _) _ _
  rw [← hw1];clear hw1 c0 c1 c2 f0;have c0 : w1.cell? ⟨g,0,none⟩ = some (.slice (some ⟨b,o,none⟩) zs.length c):=cell_of_row _ _ 0 _ _ _ h1;have c1 : w1.cell? ⟨g,1,none⟩ = some (.int .i64 k):=cell_of_row _ _ 1 _ _ _ h1;have c2 : w1.cell? ⟨g,2,none⟩ = some (.int .i64 H):=cell_of_row _ _ 2 _ _ _ h1;have c3:=hBL.out _ hb1;have f0:=Cx h1;have H1:=Lib.hid h1;clear h1
  go_quiet (fail)
  go_wp2_with fail
  go_quiet (fail)
  go_wp2_with fail
  go_quiet (fail)
  go_wp2
  go_ret
  refine ⟨_,rfl,(and255 _).1,(and255 _).2,⟨k + 1,H,?_,by omega,by omega,hH⟩,?_⟩
  ·rw [HA.out];exact Et (w:=w1.drewN _) H1.out 1 _
  ·exact grown_setCell (grown_drewN hb1 _) _ _
 ·subst hA0;clear hr hne
  go_enter Try.func92,Try.ntmps92
  go_wp2
  have hH:=i64_wrap64 (wrap64 (h * 6364136223846793005) + 1442695040888963407)
  generalize wrap64 (wrap64 (h * 6364136223846793005) + 1442695040888963407) = H at hH ⊢
  obtain ⟨w1,hw1⟩ : ∃ W,W = w.setCell ⟨g,2,none⟩ (.int .i64 H):=⟨_,rfl⟩
  have h1 : w1.heap[g]? = some (.cells #[.slice A0 zs.length c,.int .i64 i,.int .i64 H] 122 (0,0)):=by rw [hw1]; exact Et HG.out 2 _
  have hb1 : w.grownBy w1 (some g):=by rw [hw1]; exact grown_setCell (grown_refl _ _) _ _
  rw [← hw1];clear hw1 c0 c1 c2 f0;have c0 : w1.cell? ⟨g,0,none⟩ = some (.slice A0 zs.length c):=cell_of_row _ _ 0 _ _ _ h1;have c1 : w1.cell? ⟨g,1,none⟩ = some (.int .i64 i):=cell_of_row _ _ 1 _ _ _ h1;have c2 : w1.cell? ⟨g,2,none⟩ = some (.int .i64 H):=cell_of_row _ _ 2 _ _ _ h1;have f0:=Cx h1;have H1:=Lib.hid h1;clear h1
  go_quiet (fail)
  go_wp2_with fail
  go_quiet (fail)
  go_wp2
  go_ret
  exact ⟨_,rfl,(and255 _).1,(and255 _).2,⟨i,H,H1.out,hi0,hi1,hH⟩,grown_drewN (grown_drewN hb1 _) _⟩
theorem Dx (g : Nat) (A : Option Addr) (n c : Nat) (zs : List UInt8) (m : Int) (w : World) (hm0 : 1 ≤ m) (hm1 : m ≤ 256) (hn : zs.length = n) (hm : n ≤ 9223372036854775806) (hr : Rd w 1 A n (zs.flatMap cB)) (hne : 0 < n → ∀ b o,A = some ⟨b,o,none⟩ → b ≠ g) (hC : Cur w g A n c) :
  Calls Try.prog 49 #[.pointer (some ⟨g,0,none⟩),.int .i64 m] w fun e w'=>∃ x : Int,e = .returned (.int .i64 x) ∧ 0 ≤ x ∧ x ≤ m - 1 ∧ Cur w' g A n c ∧ w.grownBy w' (some g):=by
 go_enter Try.func49,Try.ntmps49
 go_wp2_with fail
 refine (l01Byte_any g A n c zs _ hn hm hr hne hC).mono ?_;rintro e w1 ⟨x,rfl,hx0,hx1,hC1,hg1⟩
 go_wp2
 go_ret
 have h0:=Int.emod_nonneg x (b:=m) (by omega);have h1:=Int.emod_lt_of_pos x (b:=m) (by omega);exact ⟨_,rfl,h0,by omega,hC1,hg1⟩
theorem rd_grown {w w' : World} {size n g : Nat} {A : Option Addr} {xs : List Value} (h : Rd w size A n xs) (hg : w.grownBy w' (some g)) (hne : 0 < n → ∀ b o,A = some ⟨b,o,none⟩ → b ≠ g) : Rd w' size A n xs :=
 ⟨h.1,fun hn=>by
  obtain ⟨b,o,e,hlt,hc⟩:=h.2 hn;exact ⟨b,o,e,Nat.lt_of_lt_of_le hlt hg.size,fun j u hu=>((rcell hg).1 b _ hlt (fun e'=>hne hn b o e (by cases e'; rfl))).trans (hc j u hu)⟩⟩
theorem Dy {a b c : World} {row : Option Nat} (h : a.grownBy b row) (k : Below a.heap.size b c) : a.grownBy c row :=
 ⟨k.os.trans h.os,k.tape.trans h.tape,k.output.trans h.output,Nat.le_trans h.size k.size,fun i hi hne=>(k.block i hi).trans (h.block i hi hne)⟩
theorem Cur.under {w w' : World} {g B : Nat} {A : Option Addr} {n c : Nat} (h : Cur w g A n c) (hb : Below B w w') (hg : g < B) : Cur w' g A n c:=by
 obtain ⟨i,q,h1,h2⟩:=h;exact ⟨i,q,(hb.block g hg).trans h1,h2⟩
theorem l01New_any (A : Option Addr) (n c : Nat) (zs : List UInt8) (w : World) (hn : zs.length = n) (hm : n ≤ 1048576) (hr : Rd w 1 A n (zs.flatMap cB)) :
  Calls Try.prog 48 #[.slice A n c] w fun e w'=>e = .returned (.pointer (some ⟨w.heap.size,0,none⟩)) ∧ Cur w' w.heap.size A n c ∧ Below w.heap.size w w':=by
 subst hn
 go_enter Try.func48,Try.ntmps48
 go_wp2
 go_loop [3,4] (fun q i=>∃ (k : Nat) (h : Int),k ≤ zs.length ∧ k ≤ 4000 ∧ i = .int .i64 k ∧ q = .int .i64 h ∧ 0 ≤ h ∧ h ≤ 1073741823) (fun _ i=>zs.length - (intOf i).toNat)
 case atStart=>exact ⟨0,_,Nat.zero_le _,by omega,rfl,rfl,by omega,by omega⟩
 case round =>
  obtain ⟨k,h,hk,hk4,rfl,rfl,hh0,hh1⟩:=hrel;by_cases hlt : k < zs.length
  ·by_cases h4 : k < 4000
   ·have k0 : (0 : Int) ≤ k:=by omega
    have k1 : (k : Int) < zs.length:=by omega
    have k2 : (k : Int) < 4000:=by omega
    obtain ⟨b,o,rfl,hb,hc⟩:=hr.byte rfl hlt;have hz0:=num_lo zs[k];have hz1:=num_hi zs[k]
    generalize num zs[k] = z at *
    have hx:=and30 (h * 131 + z + 7)
    go_wp2
    go_round
    case rel=>exact ⟨k + 1,_,by omega,by omega,by go_num,rfl,hx.1,hx.2⟩
    case measure=>simp [intOf]; omega
   ·have k1 : (k : Int) < zs.length:=by omega
    have k2 : ¬ (k : Int) < 4000:=by omega
    go_wp2
    go_ret
    exact ⟨rfl,⟨0,h,by show (w.heap.push _)[w.heap.size]? = _; simp,by omega,by omega,by unfold I64; omega⟩,(Below.refl _ _).alloc (Nat.le_refl _) _⟩
  ·obtain rfl : k = zs.length:=by omega
   go_wp2
   go_ret
   exact ⟨rfl,⟨0,h,by show (w.heap.push _)[w.heap.size]? = _; simp,by omega,by omega,by unfold I64; omega⟩,(Below.refl _ _).alloc (Nat.le_refl _) _⟩
end Go.Proofs.Ytoccapmoehdohaa
