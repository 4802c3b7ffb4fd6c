/- Contracts: validity of a recorder, in the program and in the reference. No condition. -/
import Derived.Test.YtoccapmoehdohaaOpen
import Derived.BigQuiet
import Derived.Test.YtoccapmoehdohaaRecordRow
import Derived.Test.YtoccapmoehdohaaBase
import Derived.Test.YtoccapmoehdohaaAllB
import Derived.Test.YtoccapmoehdohaaAppend
import Derived.Deep.RegionLaw
namespace Go.Proofs.Ytoccapmoehdohaa
open Go.RowKit
structure BW (W : World) where
 w : World
 hb : Below W.heap.size W w
instance (W : World) : Nonempty (BW W):=⟨⟨W,Below.refl _ _⟩⟩
theorem bwcell {W : World} : (∀ (u : BW W) b o,b < W.heap.size → u.w.cell? ⟨b,o,none⟩ = W.cell? ⟨b,o,none⟩) ∧ (∀ (u : BW W) b o,b < W.heap.size → u.w.frozen? ⟨b,o,none⟩ = W.frozen? ⟨b,o,none⟩) :=
 ⟨fun u b o h=>u.hb.cell (p:=⟨b,o,none⟩) h,fun u b o h=>u.hb.frozen (p:=⟨b,o,none⟩) h⟩
theorem wp_region_bw {P : Program} {id : Nat} {Q : Exit → Act → World → Prop} {a : Act} {w : World} {l : List Oper} (hm : P.follows .mixedOrders = true) (hB : Region.lexB .any l.toArray = true)
  (h : wpQuiet P l.toArray (fun w'=>∃ u : BW w,w' = u.w) (fun a'=>∀ w',(∃ u : BW w,w' = u.w) → Q .normal a' w') l a) : (Code.region id l.toArray true).wp P Q a w :=
 wp_region_quiet (C:=fun w'=>∃ u : BW w,w' = u.w) hm hB ⟨⟨w.drew,(Below.refl _ _).drew⟩,rfl⟩ (by simpa using h)
theorem bw_call {P : Program} {f : FuncId} {args : Array Value} {W : World} {u : BW W} {v : Value} (h : Calls P f args u.w fun e w'=>e = .returned v ∧ Below u.w.heap.size u.w w') :
  Calls P f args u.w fun e w''=>e = .returned v ∧ ∃ u' : BW W,w'' = u'.w :=
 h.mono fun _ _ ⟨he,hb⟩=>⟨he,⟨_,u.hb.trans (hb.mono u.hb.size)⟩,rfl⟩
end Go.Proofs.Ytoccapmoehdohaa
namespace Go.Proofs.Ytoccapmoehdohaa
open Go.RowKit
theorem recordSize_any (a p t : Int) (d : List UInt8) (w : World) (hd : Txt d) (hs : d.length ≤ 1048576) :
  Calls Try.prog 95 #[.agg #[.int .i64 a,.int .i64 p,.int .i64 t,.string ⟨d.toArray⟩]] w fun e w'=>e = .returned (.int .i64 (6 + d.length)) ∧ Below w.heap.size w w':=by
 unfold Txt at hd
 go_enter Try.func95,Try.ntmps95
 go_wp2
 go_ret
 exact ⟨rfl,(Below.refl _ _).alloc (Nat.le_refl _) _⟩
def recAt (zs : List Av) (i : Nat) : Bool:=Ez (zs.getD i default).f0 (zs.getD i default).f1 (zs.getD i default).f2 (zs.getD i default).f3 && (decide (i = 0) || decide ((zs.getD (i - 1) default).f0 < (zs.getD i default).f0))
def recsTo (zs : List Av) (k : Nat) : Bool:=(List.range k).all (recAt zs)
def Cj (zs : List Av) : Nat:=(zs.map fun z=>6 + z.f3.length).sum
theorem usedN_take {zs : List Av} {k : Nat} (hk : k < zs.length) : Cj (zs.take (k + 1)) = Cj (zs.take k) + (6 + zs[k].f3.length):=by
 unfold Cj;rw [List.take_succ_eq_append_getElem hk,List.map_append,List.sum_append];simp
theorem recsTo_step {zs : List Av} {k : Nat} (h : recsTo zs k = true) (h1 : recAt zs k = true) : recsTo zs (k + 1) = true:=by
 unfold recsTo at h ⊢;rw [List.range_succ,List.all_append,h];simp [h1]
theorem recsTo_fail {zs : List Av} {k : Nat} (hk : k < zs.length) (h1 : recAt zs k = false) : recsTo zs zs.length = false:=by
 unfold recsTo;rw [List.all_eq_false];exact ⟨k,List.mem_range.2 hk,by simp [h1]⟩
def rcOk (room : Int) (zs : List Av) (ds : List Int) : Bool:=inB room 0 4000 && decide ((ds.length : Int) ≤ 65536) && recsTo zs zs.length && decide ((Cj zs : Int) ≤ room) && allB ds 0 65535
theorem Dk (room : Int) (A B : Option Addr) (n cp m dp : Nat) (zs : List Av) (ds : List Int) (w : World) (hn : zs.length = n) (hb : n ≤ 1048577) (hT : ∀ z ∈ zs,Txt z.f3) (hr : Rd w 4 A n (zs.flatMap Bo)) (hm : ds.length = m) (hbm : m ≤ 1048577) (hr' : Rd w 1 B m (ds.flatMap cI)) :
  Calls Try.prog 53 #[.agg #[.int .i64 room,.slice A n cp,.slice B m dp]] w fun e w'=>e = .returned (.bool (rcOk room zs ds)) ∧ Below w.heap.size w w':=by
 subst hn;subst hm;cases h1 : inB room 0 4000
 ·have hc:=Lib.hid (show rcOk room zs ds = false by unfold rcOk; rw [h1]; rfl)
  go_enter Try.func53,Try.ntmps53
  go_wp2_with (go_at_call 43; refine (Bu _ _ _ _).mono ?_; rintro e w' ⟨rfl,rfl⟩)
  go_ret
  exact ⟨Cz hc.out.symm,(Below.refl _ _).alloc (Nat.le_refl _) _⟩
 by_cases h2 : 65536 < (ds.length : Int)
 ·have hc:=Lib.hid (show rcOk room zs ds = false by unfold rcOk; rw [h1,decide_eq_false (by omega : ¬ (ds.length : Int) ≤ 65536)]; rfl)
  go_enter Try.func53,Try.ntmps53
  go_wp2_with (go_at_call 43; refine (Bu _ _ _ _).mono ?_; rintro e w' ⟨rfl,rfl⟩)
  go_ret
  exact ⟨Cz hc.out.symm,(Below.refl _ _).alloc (Nat.le_refl _) _⟩
 have hc:=Lib.hid (show rcOk room zs ds = (recsTo zs zs.length && decide ((Cj zs : Int) ≤ room) && allB ds 0 65535) by unfold rcOk; rw [h1,decide_eq_true (by omega : (ds.length : Int) ≤ 65536)]; rfl);have hrb:=Cw h1;have hB0 : Below w.heap.size w (w.alloc (.cells #[.int .i64 room,.slice A zs.length cp,.slice B ds.length dp] 30)):=(Below.refl _ _).alloc (Nat.le_refl _) _;have hcells : ∀ wr,Below (w.alloc (.cells #[.int .i64 room,.slice A zs.length cp,.slice B ds.length dp] 30)).heap.size (w.alloc (.cells #[.int .i64 room,.slice A zs.length cp,.slice B ds.length dp] 30)) wr → wr.cell? ⟨w.heap.size,0,none⟩ = some (.int .i64 room) ∧ wr.cell? ⟨w.heap.size,1,none⟩ = some (.slice A zs.length cp) ∧ wr.cell? ⟨w.heap.size,2,none⟩ = some (.slice B ds.length dp):=fun wr h =>
  ⟨(h.cell (p:=⟨w.heap.size,0,none⟩) (by simp)).trans (by simp [go_sem]),(h.cell (p:=⟨w.heap.size,1,none⟩) (by simp)).trans (by simp [go_sem]),(h.cell (p:=⟨w.heap.size,2,none⟩) (by simp)).trans (by simp [go_sem])⟩
 have HC:=Lib.hid hcells;have hsz : w.heap.size < (w.alloc (.cells #[.int .i64 room,.slice A zs.length cp,.slice B ds.length dp] 30)).heap.size:=by simp
 have hrA:=fun wr (h : Below w.heap.size w wr)=>hr.below h
 have hrB:=fun wr (h : Below w.heap.size w wr)=>hr'.below h
 clear hcells hr hr'
 go_enter Try.func53,Try.ntmps53
 go_wp2_with (first | (go_at_call 43; refine (Bu _ _ _ _).mono ?_; rintro e w' ⟨rfl,rfl⟩) | (fail))
 generalize hWe : w.alloc (.cells #[.int .i64 room,.slice A zs.length cp,.slice B ds.length dp] 30) = W at hB0 HC hsz ⊢
 clear hWe
 go_loopw [3,19] (fun q i wr=>∃ k : Nat,k ≤ zs.length ∧ Cj (zs.take k) ≤ 40 * k ∧ i = .int .i64 k ∧ q = .int .i64 (Cj (zs.take k) : Int) ∧ Hid (recsTo zs k = true) ∧ Below W.heap.size W wr) (fun _ i _=>zs.length - (intOf i).toNat)
 case atStart=>exact ⟨0,Nat.zero_le _,by simp [Cj],rfl,rfl,rfl,Below.refl _ _⟩
 case round =>
  obtain ⟨k,hk,hus,rfl,rfl,hall,hB⟩:=hrel;obtain ⟨x0,x1,x2⟩:=HC.out _ hB;have hBw : Below w.heap.size w wr:=hB0.trans (hB.mono hB0.size);have hzW:=hB.size;have hl0 : w.heap.size < wr.heap.size:=by omega
  by_cases hlt : k < zs.length
  ·have k0 : (0 : Int) ≤ k:=by omega
   have k1 : (k : Int) < zs.length:=by omega
   obtain ⟨b,o,rfl,hb1,hcl⟩:=Rd.get Bs (hrA _ hBw) rfl hlt;have q0 : wr.cell? ⟨b,o + k * 4,none⟩ = some (.int .i64 zs[k].f0):=hcl 0 _ (by omega) rfl;have q1 : wr.cell? ⟨b,o + k * 4 + 1,none⟩ = some (.int .i64 zs[k].f1):=hcl 1 _ (by omega) rfl;have q2 : wr.cell? ⟨b,o + k * 4 + 2,none⟩ = some (.int .i64 zs[k].f2):=hcl 2 _ (by omega) rfl;have q3 : wr.cell? ⟨b,o + k * 4 + 3,none⟩ = some (.string ⟨zs[k].f3.toArray⟩):=hcl 3 _ (by omega) rfl;have htx:=hT zs[k] (List.getElem_mem hlt);clear hcl;have hgd : zs.getD k default = zs[k]:=by simp [hlt]
   have hat : recAt zs k = (Ez zs[k].f0 zs[k].f1 zs[k].f2 zs[k].f3 && (decide (k = 0) || decide ((zs.getD (k - 1) default).f0 < zs[k].f0))):=by unfold recAt; rw [hgd]
   have hR:=fun W=>recordOk_any zs[k].f0 zs[k].f1 zs[k].f2 zs[k].f3 W htx
   have hus1:=Lib.hid (usedN_take hlt);have hfl : recAt zs k = false → Hid (recsTo zs zs.length = false):=fun h=>Lib.hid (recsTo_fail hlt h)
   have hst : recAt zs k = true → Hid (recsTo zs (k + 1) = true):=fun h=>Lib.hid (recsTo_step hall.out h)
   have hprev : ∀ j,k = j + 1 → wr.cell? ⟨b,o + j * 4,none⟩ = some (.int .i64 (zs.getD j default).f0):=by
    intro j hj;have hj' : j < zs.length:=by omega
    obtain ⟨b',o',e',_,hcl⟩:=Rd.get Bs (hrA _ hBw) rfl hj';cases e';have : zs.getD j default = zs[j]:=by simp [hj']
    rw [this];exact hcl 0 _ (by omega) rfl
   clear hgd
   generalize zs[k].f0 = v0 at *
   generalize zs[k].f1 = v1 at *
   generalize zs[k].f2 = v2 at *
   generalize zs[k].f3 = v3 at *
   go_wp2_with fail
   have hBx : Below wr.heap.size wr (wr.alloc (.cells #[.int .i64 v0,.int .i64 v1,.int .i64 v2,.string ⟨v3.toArray⟩] 47)):=(Below.refl _ _).alloc (Nat.le_refl _) _;have c0 : (wr.alloc (.cells #[.int .i64 v0,.int .i64 v1,.int .i64 v2,.string ⟨v3.toArray⟩] 47)).cell? ⟨wr.heap.size,0,none⟩ = some (.int .i64 v0):=by simp [go_sem]
   have c1 : (wr.alloc (.cells #[.int .i64 v0,.int .i64 v1,.int .i64 v2,.string ⟨v3.toArray⟩] 47)).cell? ⟨wr.heap.size,1,none⟩ = some (.int .i64 v1):=by simp [go_sem]
   have c2 : (wr.alloc (.cells #[.int .i64 v0,.int .i64 v1,.int .i64 v2,.string ⟨v3.toArray⟩] 47)).cell? ⟨wr.heap.size,2,none⟩ = some (.int .i64 v2):=by simp [go_sem]
   have c3 : (wr.alloc (.cells #[.int .i64 v0,.int .i64 v1,.int .i64 v2,.string ⟨v3.toArray⟩] 47)).cell? ⟨wr.heap.size,3,none⟩ = some (.string ⟨v3.toArray⟩):=by simp [go_sem]
   have c4:=al_cell (o:=.cells #[.int .i64 v0,.int .i64 v1,.int .i64 v2,.string ⟨v3.toArray⟩] 47) hl0 x1;have hszx : (wr.alloc (.cells #[.int .i64 v0,.int .i64 v1,.int .i64 v2,.string ⟨v3.toArray⟩] 47)).heap.size = wr.heap.size + 1:=by simp
   have hprx:=fun j hj=>al_cell (o:=.cells #[.int .i64 v0,.int .i64 v1,.int .i64 v2,.string ⟨v3.toArray⟩] 47) hb1 (hprev j hj)
   generalize wr.alloc (.cells #[.int .i64 v0,.int .i64 v1,.int .i64 v2,.string ⟨v3.toArray⟩] 47) = Wx at hBx c0 c1 c2 c3 c4 hszx hprx ⊢
   have hlx : wr.heap.size < Wx.heap.size:=by omega
   have hl0x : w.heap.size < Wx.heap.size:=by omega
   have hbx : b < Wx.heap.size:=by omega
   clear q0 q1 q2 q3 x0 x1 x2 hprev;cases hro : Ez v0 v1 v2 v3
   ·rw [hro] at hR hat;have hf:=hfl hat;clear hat hfl hst;refine wp_region_bw (by kernel_rfl) (by kernel_rfl) ?_;obtain ⟨uc,uf⟩:=bwcell (W:=Wx)
    repeat (go_big_quiet_step ((go_at_call 94; exact bw_call (hR _))))
    refine wpQuiet_nil ?_;rintro _ ⟨⟨w7,hb7⟩,rfl⟩;clear uc uf;obtain ⟨hc_w7,hf_w7⟩:=bcell hb7
    all_goals
     have hB7:=Eg hBw (hBx.trans (hb7.mono (by omega)))
     go_wp2
     go_ret
     exact ⟨Cz (by rw [hc.out,hf.out]; rfl),hB7⟩
   ·rw [hro] at hR hat;have hro2:=Ey hro;have hlen:=hro2.2.2.2;by_cases hk0 : k = 0
    ·subst hk0;have hnext:=hst (by rw [hat]; rfl);have husN : Cj [] = 0:=rfl;clear hat hfl hst;refine wp_region_bw (by kernel_rfl) (by kernel_rfl) ?_;obtain ⟨uc,uf⟩:=bwcell (W:=Wx)
     repeat (go_big_quiet_step ((go_at_call 94; exact bw_call (hR _))))
     refine wpQuiet_nil ?_;rintro _ ⟨⟨w7,hb7⟩,rfl⟩;clear uc uf;obtain ⟨hc_w7,hf_w7⟩:=bcell hb7
     all_goals
      have hB7:=Eg hB (hBx.trans (hb7.mono (by omega)))
      go_wp2_with fail
      refine (recordSize_any _ _ _ _ _ htx (by omega)).mono ?_;rintro e w8 ⟨rfl,hb8⟩;have hB8:=Eg hB7 hb8
      go_wp2
      go_roundw
      case rel=>exact ⟨0 + 1,by omega,by rw [hus1.out]; simp [Cj]; omega,by go_num,by rw [hus1.out]; simp [Cj],hnext.out,hB8⟩
      case measure=>simp [intOf]; omega
    ·obtain ⟨j,rfl⟩ : ∃ j,k = j + 1:=⟨k - 1,by omega⟩
     have c5:=hprx j rfl;have hw : IntKind.i64.wrap (((j + 1 : Nat) : Int) - 1) = (j : Int):=by rw [IntWalk.i64_in _ (by omega)]; omega
     have hj0 : (0 : Int) ≤ j:=by omega
     have hj1 : (j : Int) < zs.length:=by omega
     rw [show j + 1 - 1 = j from by omega,decide_eq_false hk0] at hat;clear hprx
     generalize (zs.getD j default).f0 = p0 at *
     by_cases hlt2 : p0 < v0
     ·have hnext:=hst (by rw [hat,decide_eq_true hlt2]; rfl);have hle : decide (v0 ≤ p0) = false:=decide_eq_false (by omega);clear hat hfl hst;refine wp_region_bw (by kernel_rfl) (by kernel_rfl) ?_;obtain ⟨uc,uf⟩:=bwcell (W:=Wx)
      repeat (go_big_quiet_step ((go_at_call 94; exact bw_call (hR _))))
      refine wpQuiet_nil ?_;rintro _ ⟨⟨w7,hb7⟩,rfl⟩;clear uc uf;obtain ⟨hc_w7,hf_w7⟩:=bcell hb7
      all_goals
       have hB7:=Eg hB (hBx.trans (hb7.mono (by omega)))
       go_wp2_with fail
       refine (recordSize_any _ _ _ _ _ htx (by omega)).mono ?_;rintro e w8 ⟨rfl,hb8⟩;have hB8:=Eg hB7 hb8
       go_wp2
       go_roundw
       case rel=>exact ⟨j + 1 + 1,by omega,by rw [hus1.out]; omega,by go_num,by rw [hus1.out]; go_num,hnext.out,hB8⟩
       case measure=>simp [intOf]; omega
     ·have hf:=hfl (by rw [hat,decide_eq_false hlt2]; rfl);have hle : decide (v0 ≤ p0) = true:=decide_eq_true (by omega);clear hat hfl hst;refine wp_region_bw (by kernel_rfl) (by kernel_rfl) ?_;obtain ⟨uc,uf⟩:=bwcell (W:=Wx)
      repeat (go_big_quiet_step ((go_at_call 94; exact bw_call (hR _))))
      refine wpQuiet_nil ?_;rintro _ ⟨⟨w7,hb7⟩,rfl⟩;clear uc uf;obtain ⟨hc_w7,hf_w7⟩:=bcell hb7
      all_goals
       have hB7:=Eg hBw (hBx.trans (hb7.mono (by omega)))
       go_wp2
       go_ret
       exact ⟨Cz (by rw [hc.out,hf.out]; rfl),hB7⟩
  ·obtain rfl : k = zs.length:=by omega
   have hus2 : Cj zs ≤ 40 * zs.length:=by rw [List.take_length] at hus; exact hus
   have hcc : rcOk room zs ds = (decide ((Cj zs : Int) ≤ room) && allB ds 0 65535):=by rw [hc.out,hall.out,Bool.true_and]
   have HCC:=Lib.hid hcc;clear hcc hc hall hus;simp only [List.take_length]
   generalize Cj zs = U at *
   by_cases hroom : (U : Int) ≤ room
   ·have hfin : decide (room < (U : Int)) = false:=decide_eq_false (by omega)
    go_wp2_with (go_at_call 51; refine (allBetween_any _ _ _ ds _ _ _ rfl (by omega) (hrB _ hBw)).mono ?_; rintro e w' ⟨rfl,rfl⟩)
    go_ret
    exact ⟨Cz (by rw [HCC.out,decide_eq_true hroom,Bool.true_and]),hBw⟩
   ·have hfin : decide (room < (U : Int)) = true:=decide_eq_true (by omega)
    go_wp2
    go_ret
    exact ⟨Cz (by rw [HCC.out,decide_eq_false (by omega : ¬ (U : Int) ≤ room)]; rfl),hBw⟩
end Go.Proofs.Ytoccapmoehdohaa
