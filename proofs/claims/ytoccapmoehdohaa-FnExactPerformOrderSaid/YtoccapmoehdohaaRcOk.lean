/- Contracts: validity of a recorder, in the program and in the reference. No condition. -/
import Derived.Test.YtoccapmoehdohaaRecordRow
import Derived.Test.YtoccapmoehdohaaInts
import Derived.Test.YtoccapmoehdohaaAllB
import Derived.Test.YtoccapmoehdohaaAppend
import Derived.Deep.RegionLaw
import Derived.Test.YtoccapmoehdohaaMild
namespace Go.Proofs.Ytoccapmoehdohaa
open Go.RowKit
theorem recordSize_any (a p t : Int) (d : List UInt8) (w : World) (hd : Txt d) (hs : d.length ≤ 1048576) :
  Calls Try.prog 95 #[.agg #[.int .i64 a,.int .i64 p,.int .i64 t,.string ⟨d.toArray⟩]] w fun e w'=>e = .returned (.int .i64 (6 + d.length)) ∧ Below w.heap.size w w':=by
 unfold Txt at hd
 go_enter Try.func95,Try.ntmps95
 go_wp2
 go_ret
 exact ⟨rfl,(Below.refl _ _).alloc (Nat.le_refl _) _⟩
def recAt (zs : List Aw) (i : Nat) : Bool:=Eg (zs.getD i default).f0 (zs.getD i default).f1 (zs.getD i default).f2 (zs.getD i default).f3 && (decide (i = 0) || decide ((zs.getD (i - 1) default).f0 < (zs.getD i default).f0))
def Ek (zs : List Aw) (k : Nat) : Bool:=(List.range k).all (recAt zs)
def Bz (zs : List Aw) : Nat:=(zs.map fun z=>6 + z.f3.length).sum
theorem usedN_take {zs : List Aw} {k : Nat} (hk : k < zs.length) : Bz (zs.take (k + 1)) = Bz (zs.take k) + (6 + zs[k].f3.length):=by
 unfold Bz;rw [List.take_succ_eq_append_getElem hk,List.map_append,List.sum_append];simp
theorem recsTo_step {zs : List Aw} {k : Nat} (h : Ek zs k = true) (h1 : recAt zs k = true) : Ek zs (k + 1) = true:=by
 unfold Ek at h ⊢;rw [List.range_succ,List.all_append,h];simp [h1]
theorem recsTo_fail {zs : List Aw} {k : Nat} (hk : k < zs.length) (h1 : recAt zs k = false) : Ek zs zs.length = false:=by
 unfold Ek;rw [List.all_eq_false];exact ⟨k,List.mem_range.2 hk,by simp [h1]⟩
def rcOk (room : Int) (zs : List Aw) (ds : List Int) : Bool:=inB room 0 4000 && decide ((ds.length : Int) ≤ 65536) && Ek zs zs.length && decide ((Bz zs : Int) ≤ room) && allB ds 0 65535
theorem Ec (room : Int) (A B : Option Addr) (n cp m dp : Nat) (zs : List Aw) (ds : List Int) (w : World) (hn : zs.length = n) (hb : n ≤ 1048577) (hT : ∀ z ∈ zs,Txt z.f3) (hr : Rd w 4 A n (zs.flatMap Ax)) (hm : ds.length = m) (hbm : m ≤ 1048577) (hr' : Rd w 1 B m (ds.flatMap cI)) :
  Calls Try.prog 53 #[.agg #[.int .i64 room,.slice A n cp,.slice B m dp]] w fun e w'=>e = .returned (.bool (rcOk room zs ds)) ∧ Below w.heap.size w w':=by
 subst hn;subst hm;cases h1 : inB room 0 4000
 ·have hc:=Lib.hid (show rcOk room zs ds = false by unfold rcOk; rw [h1]; rfl)
  go_enter Try.func53,Try.ntmps53
  go_wp2_with (go_at_call 43; refine (Ce _ _ _ _).mono ?_; rintro e w' ⟨rfl,rfl⟩)
  go_ret
  exact ⟨Cf hc.out.symm,(Below.refl _ _).alloc (Nat.le_refl _) _⟩
 by_cases h2 : 65536 < (ds.length : Int)
 ·have hc:=Lib.hid (show rcOk room zs ds = false by unfold rcOk; rw [h1,decide_eq_false (by omega : ¬ (ds.length : Int) ≤ 65536)]; rfl)
  go_enter Try.func53,Try.ntmps53
  go_wp2_with (go_at_call 43; refine (Ce _ _ _ _).mono ?_; rintro e w' ⟨rfl,rfl⟩)
  go_ret
  exact ⟨Cf hc.out.symm,(Below.refl _ _).alloc (Nat.le_refl _) _⟩
 have hc:=Lib.hid (show rcOk room zs ds = (Ek zs zs.length && decide ((Bz zs : Int) ≤ room) && allB ds 0 65535) by unfold rcOk; rw [h1,decide_eq_true (by omega : (ds.length : Int) ≤ 65536)]; rfl);have hrb:=Dk h1;have hB0 : Below w.heap.size w (w.alloc (.cells #[.int .i64 room,.slice A zs.length cp,.slice B ds.length dp] 30)):=(Below.refl _ _).alloc (Nat.le_refl _) _;have hcells : ∀ wr,Below (w.alloc (.cells #[.int .i64 room,.slice A zs.length cp,.slice B ds.length dp] 30)).heap.size (w.alloc (.cells #[.int .i64 room,.slice A zs.length cp,.slice B ds.length dp] 30)) wr → wr.cell? ⟨w.heap.size,0,none⟩ = some (.int .i64 room) ∧ wr.cell? ⟨w.heap.size,1,none⟩ = some (.slice A zs.length cp) ∧ wr.cell? ⟨w.heap.size,2,none⟩ = some (.slice B ds.length dp):=fun wr h =>
  ⟨(h.cell (p:=⟨w.heap.size,0,none⟩) (by simp)).trans (by simp [go_sem]),(h.cell (p:=⟨w.heap.size,1,none⟩) (by simp)).trans (by simp [go_sem]),(h.cell (p:=⟨w.heap.size,2,none⟩) (by simp)).trans (by simp [go_sem])⟩
 have HC:=Lib.hid hcells;have hsz : w.heap.size < (w.alloc (.cells #[.int .i64 room,.slice A zs.length cp,.slice B ds.length dp] 30)).heap.size:=by simp
 have hrA:=fun wr (h : Below w.heap.size w wr)=>hr.below h
 have hrB:=fun wr (h : Below w.heap.size w wr)=>hr'.below h
 clear hcells hr hr'
 go_enter Try.func53,Try.ntmps53
 go_wp2_with (first | (go_at_call 43; refine (Ce _ _ _ _).mono ?_; rintro e w' ⟨rfl,rfl⟩) | (fail))
 generalize hWe : w.alloc (.cells #[.int .i64 room,.slice A zs.length cp,.slice B ds.length dp] 30) = W at hB0 HC hsz ⊢
 clear hWe
 go_loopw [3,19] (fun q i wr=>∃ k : Nat,k ≤ zs.length ∧ Bz (zs.take k) ≤ 40 * k ∧ i = .int .i64 k ∧ q = .int .i64 (Bz (zs.take k) : Int) ∧ Hid (Ek zs k = true) ∧ Below W.heap.size W wr) (fun _ i _=>zs.length - (intOf i).toNat)
 case atStart=>exact ⟨0,Nat.zero_le _,by simp [Bz],rfl,rfl,rfl,Below.refl _ _⟩
 case round =>
  obtain ⟨k,hk,hus,rfl,rfl,hall,hB⟩:=hrel;obtain ⟨x0,x1,x2⟩:=HC.out _ hB;have hBw : Below w.heap.size w wr:=hB0.trans (hB.mono hB0.size);have hzW:=hB.size;have hl0 : w.heap.size < wr.heap.size:=by omega
  by_cases hlt : k < zs.length
  ·have k0 : (0 : Int) ≤ k:=by omega
   have k1 : (k : Int) < zs.length:=by omega
   obtain ⟨b,o,rfl,hb1,hcl⟩:=Rd.get Be (hrA _ hBw) rfl hlt;have q0 : wr.cell? ⟨b,o + k * 4,none⟩ = some (.int .i64 zs[k].f0):=hcl 0 _ (by omega) rfl;have q1 : wr.cell? ⟨b,o + k * 4 + 1,none⟩ = some (.int .i64 zs[k].f1):=hcl 1 _ (by omega) rfl;have q2 : wr.cell? ⟨b,o + k * 4 + 2,none⟩ = some (.int .i64 zs[k].f2):=hcl 2 _ (by omega) rfl;have q3 : wr.cell? ⟨b,o + k * 4 + 3,none⟩ = some (.string ⟨zs[k].f3.toArray⟩):=hcl 3 _ (by omega) rfl;have htx:=hT zs[k] (List.getElem_mem hlt);clear hcl;have hgd : zs.getD k default = zs[k]:=by simp [hlt]
   have hat : recAt zs k = (Eg zs[k].f0 zs[k].f1 zs[k].f2 zs[k].f3 && (decide (k = 0) || decide ((zs.getD (k - 1) default).f0 < zs[k].f0))):=by unfold recAt; rw [hgd]
   have hR:=fun W=>recordOk_any zs[k].f0 zs[k].f1 zs[k].f2 zs[k].f3 W htx
   have hus1:=Lib.hid (usedN_take hlt);have hfl : recAt zs k = false → Hid (Ek zs zs.length = false):=fun h=>Lib.hid (recsTo_fail hlt h)
   have hst : recAt zs k = true → Hid (Ek zs (k + 1) = true):=fun h=>Lib.hid (recsTo_step hall.out h)
   have hprev : ∀ j,k = j + 1 → wr.cell? ⟨b,o + j * 4,none⟩ = some (.int .i64 (zs.getD j default).f0):=by
    intro j hj;have hj' : j < zs.length:=by omega
    obtain ⟨b',o',e',_,hcl⟩:=Rd.get Be (hrA _ hBw) rfl hj';cases e';have : zs.getD j default = zs[j]:=by simp [hj']
    rw [this];exact hcl 0 _ (by omega) rfl
   clear hgd
   generalize zs[k].f0 = v0 at *
   generalize zs[k].f1 = v1 at *
   generalize zs[k].f2 = v2 at *
   generalize zs[k].f3 = v3 at *
   go_wp2_with fail
   have hBx : Below wr.heap.size wr (wr.alloc (.cells #[.int .i64 v0,.int .i64 v1,.int .i64 v2,.string ⟨v3.toArray⟩] 47)):=(Below.refl _ _).alloc (Nat.le_refl _) _;have c0 : (wr.alloc (.cells #[.int .i64 v0,.int .i64 v1,.int .i64 v2,.string ⟨v3.toArray⟩] 47)).cell? ⟨wr.heap.size,0,none⟩ = some (.int .i64 v0):=by simp [go_sem]
   have c1 : (wr.alloc (.cells #[.int .i64 v0,.int .i64 v1,.int .i64 v2,.string ⟨v3.toArray⟩] 47)).cell? ⟨wr.heap.size,1,none⟩ = some (.int .i64 v1):=by simp [go_sem]
   have c2 : (wr.alloc (.cells #[.int .i64 v0,.int .i64 v1,.int .i64 v2,.string ⟨v3.toArray⟩] 47)).cell? ⟨wr.heap.size,2,none⟩ = some (.int .i64 v2):=by simp [go_sem]
   have c3 : (wr.alloc (.cells #[.int .i64 v0,.int .i64 v1,.int .i64 v2,.string ⟨v3.toArray⟩] 47)).cell? ⟨wr.heap.size,3,none⟩ = some (.string ⟨v3.toArray⟩):=by simp [go_sem]
   have c4:=al_cell (o:=.cells #[.int .i64 v0,.int .i64 v1,.int .i64 v2,.string ⟨v3.toArray⟩] 47) hl0 x1;have hszx : (wr.alloc (.cells #[.int .i64 v0,.int .i64 v1,.int .i64 v2,.string ⟨v3.toArray⟩] 47)).heap.size = wr.heap.size + 1:=by simp
   have hprx:=fun j hj=>al_cell (o:=.cells #[.int .i64 v0,.int .i64 v1,.int .i64 v2,.string ⟨v3.toArray⟩] 47) hb1 (hprev j hj)
   generalize wr.alloc (.cells #[.int .i64 v0,.int .i64 v1,.int .i64 v2,.string ⟨v3.toArray⟩] 47) = Wx at hBx c0 c1 c2 c3 c4 hszx hprx ⊢
   have hlx : wr.heap.size < Wx.heap.size:=by omega
   have hl0x : w.heap.size < Wx.heap.size:=by omega
   have hbx : b < Wx.heap.size:=by omega
   clear q0 q1 q2 q3 x0 x1 x2 hprev;cases hro : Eg v0 v1 v2 v3
   ·rw [hro] at hR hat;have hf:=hfl hat;clear hat hfl hst;refine Ei (by kernel_rfl) (by kernel_rfl) ?_;obtain ⟨uc,uf⟩:=bwcell (W:=Wx)
    repeat (go_big_quiet_step ((go_at_call 94; exact bw_call (hR _))))
    refine wpQuiet_nil ?_;rintro _ ⟨⟨w7,hb7⟩,rfl⟩;clear uc uf;obtain ⟨hc_w7,hf_w7⟩:=bcell hb7
    all_goals
     have hB7:=Cb hBw (hBx.trans (hb7.mono (by omega)))
     go_wp2
     go_ret
     exact ⟨Cf (by rw [hc.out,hf.out]; rfl),hB7⟩
   ·rw [hro] at hR hat;have hro2:=Ez hro;have hlen:=hro2.2.2.2;by_cases hk0 : k = 0
    ·subst hk0;have hnext:=hst (by rw [hat]; rfl);have husN : Bz [] = 0:=rfl;clear hat hfl hst;refine Ei (by kernel_rfl) (by kernel_rfl) ?_;obtain ⟨uc,uf⟩:=bwcell (W:=Wx)
     repeat (go_big_quiet_step ((go_at_call 94; exact bw_call (hR _))))
     refine wpQuiet_nil ?_;rintro _ ⟨⟨w7,hb7⟩,rfl⟩;clear uc uf;obtain ⟨hc_w7,hf_w7⟩:=bcell hb7
     all_goals
      have hB7:=Cb hB (hBx.trans (hb7.mono (by omega)))
      go_wp2_with fail
      refine (recordSize_any _ _ _ _ _ htx (by omega)).mono ?_;rintro e w8 ⟨rfl,hb8⟩;have hB8:=Cb hB7 hb8
      go_wp2
      go_roundw
      case rel=>exact ⟨0 + 1,by omega,by rw [hus1.out]; simp [Bz]; omega,by go_num,by rw [hus1.out]; simp [Bz],hnext.out,hB8⟩
      case measure=>simp [intOf]; omega
    ·obtain ⟨j,rfl⟩ : ∃ j,k = j + 1:=⟨k - 1,by omega⟩
     have c5:=hprx j rfl;have hw : IntKind.i64.wrap (((j + 1 : Nat) : Int) - 1) = (j : Int):=by rw [IntWalk.i64_in _ (by omega)]; omega
     have hj0 : (0 : Int) ≤ j:=by omega
     have hj1 : (j : Int) < zs.length:=by omega
     rw [show j + 1 - 1 = j from by omega,decide_eq_false hk0] at hat;clear hprx
     generalize (zs.getD j default).f0 = p0 at *
     by_cases hlt2 : p0 < v0
     ·have hnext:=hst (by rw [hat,decide_eq_true hlt2]; rfl);have hle : decide (v0 ≤ p0) = false:=decide_eq_false (by omega);clear hat hfl hst;refine Ei (by kernel_rfl) (by kernel_rfl) ?_;obtain ⟨uc,uf⟩:=bwcell (W:=Wx)
      repeat (go_big_quiet_step ((go_at_call 94; exact bw_call (hR _))))
      refine wpQuiet_nil ?_;rintro _ ⟨⟨w7,hb7⟩,rfl⟩;clear uc uf;obtain ⟨hc_w7,hf_w7⟩:=bcell hb7
      all_goals
       have hB7:=Cb hB (hBx.trans (hb7.mono (by omega)))
       go_wp2_with fail
       refine (recordSize_any _ _ _ _ _ htx (by omega)).mono ?_;rintro e w8 ⟨rfl,hb8⟩;have hB8:=Cb hB7 hb8
       go_wp2
       go_roundw
       case rel=>exact ⟨j + 1 + 1,by omega,by rw [hus1.out]; omega,by go_num,by rw [hus1.out]; go_num,hnext.out,hB8⟩
       case measure=>simp [intOf]; omega
     ·have hf:=hfl (by rw [hat,decide_eq_false hlt2]; rfl);have hle : decide (v0 ≤ p0) = true:=decide_eq_true (by omega);clear hat hfl hst;refine Ei (by kernel_rfl) (by kernel_rfl) ?_;obtain ⟨uc,uf⟩:=bwcell (W:=Wx)
      repeat (go_big_quiet_step ((go_at_call 94; exact bw_call (hR _))))
      refine wpQuiet_nil ?_;rintro _ ⟨⟨w7,hb7⟩,rfl⟩;clear uc uf;obtain ⟨hc_w7,hf_w7⟩:=bcell hb7
      all_goals
       have hB7:=Cb hBw (hBx.trans (hb7.mono (by omega)))
       go_wp2
       go_ret
       exact ⟨Cf (by rw [hc.out,hf.out]; rfl),hB7⟩
  ·obtain rfl : k = zs.length:=by omega
   have hus2 : Bz zs ≤ 40 * zs.length:=by rw [List.take_length] at hus; exact hus
   have hcc : rcOk room zs ds = (decide ((Bz zs : Int) ≤ room) && allB ds 0 65535):=by rw [hc.out,hall.out,Bool.true_and]
   have HCC:=Lib.hid hcc;clear hcc hc hall hus;simp only [List.take_length]
   generalize Bz zs = U at *
   by_cases hroom : (U : Int) ≤ room
   ·have hfin : decide (room < (U : Int)) = false:=decide_eq_false (by omega)
    go_wp2_with (go_at_call 51; refine (allBetween_any _ _ _ ds _ _ _ rfl (by omega) (hrB _ hBw)).mono ?_; rintro e w' ⟨rfl,rfl⟩)
    go_ret
    exact ⟨Cf (by rw [HCC.out,decide_eq_true hroom,Bool.true_and]),hBw⟩
   ·have hfin : decide (room < (U : Int)) = true:=decide_eq_true (by omega)
    go_wp2
    go_ret
    exact ⟨Cf (by rw [HCC.out,decide_eq_false (by omega : ¬ (U : Int) ≤ room)]; rfl),hBw⟩
theorem l05Used_any (A : Option Addr) (n cp : Nat) (zs : List Aw) (w : World) (hn : zs.length = n) (hb : n ≤ 1048577) (hT : ∀ z ∈ zs,Txt z.f3) (hs : ∀ k,k ≤ zs.length → Bz (zs.take k) ≤ 4611686018427387904) (hr : Rd w 4 A n (zs.flatMap Ax)) :
  Calls Try.prog 98 #[.slice A n cp] w fun e w'=>e = .returned (.int .i64 (Bz zs)) ∧ w = w':=by
 subst hn
 go_enter Try.func98,Try.ntmps98
 go_wp2
 go_loop [3,4] (fun q i=>∃ k : Nat,k ≤ zs.length ∧ i = .int .i64 k ∧ q = .int .i64 (Bz (zs.take k) : Int)) (fun _ i=>zs.length - (intOf i).toNat)
 case atStart=>exact ⟨0,Nat.zero_le _,rfl,rfl⟩
 case round =>
  obtain ⟨k,hk,rfl,rfl⟩:=hrel;by_cases hlt : k < zs.length
  ·have k0 : (0 : Int) ≤ k:=by omega
   have k1 : (k : Int) < zs.length:=by omega
   obtain ⟨b,o,rfl,hb1,hcl⟩:=Rd.get Be hr rfl hlt;have q3 : w.cell? ⟨b,o + k * 4 + 3,none⟩ = some (.string ⟨zs[k].f3.toArray⟩):=hcl 3 _ (by omega) rfl;have htx:=hT zs[k] (List.getElem_mem hlt);unfold Txt at htx;clear hcl;have hs0:=hs k hk;have hs1:=hs (k + 1) hlt;have hus1:=usedN_take hlt;have hs2 : Bz (zs.take k) + (6 + zs[k].f3.length) ≤ 4611686018427387904:=by rw [← hus1]; exact hs1
   have HU:=Lib.hid hus1;clear hus1 hs1 hs
   go_wp2
   go_round
   case rel=>exact ⟨k + 1,by omega,by go_num,by rw [HU.out]; go_num⟩
   case measure=>simp [intOf]; omega
  ·obtain rfl : k = zs.length:=by omega
   simp only [List.take_length]
   go_wp2
   go_ret
   exact ⟨rfl,rfl⟩
theorem recsTo_used {zs : List Aw} : ∀ k,k ≤ zs.length → Ek zs k = true → Bz (zs.take k) ≤ 40 * k
 | 0,_,_=>by simp [Bz]
 | k + 1,hk,h=>by
  have h0 : Ek zs k = true ∧ recAt zs k = true:=by
   unfold Ek at h ⊢;rw [List.range_succ,List.all_append] at h
   simpa using h
  have ih:=recsTo_used k (by omega) h0.1;rw [usedN_take hk];have h1:=h0.2;unfold recAt at h1;have hgd : zs.getD k default = zs[k]:=by simp [Nat.lt_of_succ_le hk]
  rw [hgd,Bool.and_eq_true] at h1;have:=(Ez h1.1).2.2.2;omega
theorem recsTo_le {zs : List Aw} {n k : Nat} (hk : k ≤ n) (h : Ek zs n = true) : Ek zs k = true:=by
 unfold Ek at h ⊢;rw [List.all_eq_true] at h ⊢;exact fun x hx=>h x (List.mem_range.2 (Nat.lt_of_lt_of_le (List.mem_range.1 hx) hk))
theorem Ef (room : Int) (A B : Option Addr) (n cp m dp : Nat) (zs : List Aw) (ds : List Int) (w : World) (hn : zs.length = n) (hb : n ≤ 1048577) (hT : ∀ z ∈ zs,Txt z.f3) (hr : Rd w 4 A n (zs.flatMap Ax)) (hm : ds.length = m) (hbm : m ≤ 1048577) (hr' : Rd w 1 B m (ds.flatMap cI)) :
  Calls Try.prog 59 #[.agg #[.int .i64 room,.slice A n cp,.slice B m dp]] w fun e w'=>e = .returned (.bool (rcOk room zs ds)) ∧ Below w.heap.size w w':=by
 subst hn;subst hm;cases h1 : inB room 0 4000
 ·have hc:=Lib.hid (show rcOk room zs ds = false by unfold rcOk; rw [h1]; rfl)
  go_enter Try.func59,Try.ntmps59
  go_wp2_with (go_at_call 58; refine (Cn _ _ _ _).mono ?_; rintro e w' ⟨rfl,rfl⟩)
  go_ret
  exact ⟨Cf hc.out.symm,(Below.refl _ _).alloc (Nat.le_refl _) _⟩
 by_cases h2 : 65536 < (ds.length : Int)
 ·have hc:=Lib.hid (show rcOk room zs ds = false by unfold rcOk; rw [h1,decide_eq_false (by omega : ¬ (ds.length : Int) ≤ 65536)]; rfl)
  go_enter Try.func59,Try.ntmps59
  go_wp2_with (go_at_call 58; refine (Cn _ _ _ _).mono ?_; rintro e w' ⟨rfl,rfl⟩)
  go_ret
  exact ⟨Cf hc.out.symm,(Below.refl _ _).alloc (Nat.le_refl _) _⟩
 have hc:=Lib.hid (show rcOk room zs ds = (Ek zs zs.length && decide ((Bz zs : Int) ≤ room) && allB ds 0 65535) by unfold rcOk; rw [h1,decide_eq_true (by omega : (ds.length : Int) ≤ 65536)]; rfl);have hrb:=Dk h1;have hB0 : Below w.heap.size w (w.alloc (.cells #[.int .i64 room,.slice A zs.length cp,.slice B ds.length dp] 30)):=(Below.refl _ _).alloc (Nat.le_refl _) _;have hcells : ∀ wr,Below (w.alloc (.cells #[.int .i64 room,.slice A zs.length cp,.slice B ds.length dp] 30)).heap.size (w.alloc (.cells #[.int .i64 room,.slice A zs.length cp,.slice B ds.length dp] 30)) wr → wr.cell? ⟨w.heap.size,0,none⟩ = some (.int .i64 room) ∧ wr.cell? ⟨w.heap.size,1,none⟩ = some (.slice A zs.length cp) ∧ wr.cell? ⟨w.heap.size,2,none⟩ = some (.slice B ds.length dp):=fun wr h =>
  ⟨(h.cell (p:=⟨w.heap.size,0,none⟩) (by simp)).trans (by simp [go_sem]),(h.cell (p:=⟨w.heap.size,1,none⟩) (by simp)).trans (by simp [go_sem]),(h.cell (p:=⟨w.heap.size,2,none⟩) (by simp)).trans (by simp [go_sem])⟩
 have HC:=Lib.hid hcells;have hsz : w.heap.size < (w.alloc (.cells #[.int .i64 room,.slice A zs.length cp,.slice B ds.length dp] 30)).heap.size:=by simp
 have hrA:=fun wr (h : Below w.heap.size w wr)=>hr.below h
 have hrB:=fun wr (h : Below w.heap.size w wr)=>hr'.below h
 clear hcells hr hr'
 go_enter Try.func59,Try.ntmps59
 go_wp2_with (first | (go_at_call 58; refine (Cn _ _ _ _).mono ?_; rintro e w' ⟨rfl,rfl⟩) | (fail))
 generalize hWe : w.alloc (.cells #[.int .i64 room,.slice A zs.length cp,.slice B ds.length dp] 30) = W at hB0 HC hsz ⊢
 clear hWe;obtain ⟨W0,W1,W2⟩:=HC.out _ (Below.refl _ _)
 go_loop [3] (fun i=>∃ k : Nat,k ≤ ds.length ∧ i = .int .i64 k ∧ Hid (allB (ds.take k) 0 65535 = true)) (fun i=>ds.length - (intOf i).toNat)
 case atStart=>exact ⟨0,Nat.zero_le _,rfl,rfl⟩
 case round =>
  obtain ⟨k,hk,rfl,hall⟩:=hrel;by_cases hlt : k < ds.length
  ·have k0 : (0 : Int) ≤ k:=by omega
   have k1 : (k : Int) < ds.length:=by omega
   obtain ⟨b,o,rfl,hb1,hcl⟩:=(hrB _ hB0).int rfl hlt;cases hin : inB ds[k] 0 65535
   ·have hf:=Lib.hid (allB_fail hlt hin)
    go_wp2_with (go_at_call 58; refine (Cn _ _ _ _).mono ?_; rintro e w' ⟨rfl,rfl⟩)
    go_ret
    exact ⟨Cf (by rw [hc.out,hf.out,Bool.and_false]),hB0⟩
   ·have hnext:=Lib.hid (allB_take hlt hall.out hin)
    go_wp2_with (go_at_call 58; refine (Cn _ _ _ _).mono ?_; rintro e w' ⟨rfl,rfl⟩)
    go_round
    case rel=>exact ⟨k + 1,by omega,by go_num,hnext.out⟩
    case measure=>simp [intOf]; omega
  ·obtain rfl : k = ds.length:=by omega
   have hcc : rcOk room zs ds = (Ek zs zs.length && decide ((Bz zs : Int) ≤ room)):=by rw [hc.out,show allB ds 0 65535 = true from by have:=hall.out; rwa [List.take_length] at this,Bool.and_true]
   have HCC:=Lib.hid hcc;clear hcc hc hall
   go_wp2
   go_loopw [4] (fun i wr=>∃ k : Nat,k ≤ zs.length ∧ i = .int .i64 k ∧ Hid (Ek zs k = true) ∧ Below W.heap.size W wr) (fun i _=>zs.length - (intOf i).toNat)
   case atStart=>exact ⟨0,Nat.zero_le _,rfl,rfl,Below.refl _ _⟩
   case round =>
    obtain ⟨k,hk,rfl,hall,hB⟩:=hrel;obtain ⟨x0,x1,x2⟩:=HC.out _ hB;have hBw : Below w.heap.size w wr:=hB0.trans (hB.mono hB0.size);have hzW:=hB.size;have hl0 : w.heap.size < wr.heap.size:=by omega
    clear W0 W1 W2;by_cases hlt : k < zs.length
    ·have k0 : (0 : Int) ≤ k:=by omega
     have k1 : (k : Int) < zs.length:=by omega
     obtain ⟨b,o,rfl,hb1,hcl⟩:=Rd.get Be (hrA _ hBw) rfl hlt;have q0 : wr.cell? ⟨b,o + k * 4,none⟩ = some (.int .i64 zs[k].f0):=hcl 0 _ (by omega) rfl;have q1 : wr.cell? ⟨b,o + k * 4 + 1,none⟩ = some (.int .i64 zs[k].f1):=hcl 1 _ (by omega) rfl;have q2 : wr.cell? ⟨b,o + k * 4 + 2,none⟩ = some (.int .i64 zs[k].f2):=hcl 2 _ (by omega) rfl;have q3 : wr.cell? ⟨b,o + k * 4 + 3,none⟩ = some (.string ⟨zs[k].f3.toArray⟩):=hcl 3 _ (by omega) rfl;have htx:=hT zs[k] (List.getElem_mem hlt);clear hcl;have hgd : zs.getD k default = zs[k]:=by simp [hlt]
     have hat : recAt zs k = (Eg zs[k].f0 zs[k].f1 zs[k].f2 zs[k].f3 && (decide (k = 0) || decide ((zs.getD (k - 1) default).f0 < zs[k].f0))):=by unfold recAt; rw [hgd]
     have hR:=fun W=>sRecordOk_any zs[k].f0 zs[k].f1 zs[k].f2 zs[k].f3 W htx
     have hfl : recAt zs k = false → Hid (Ek zs zs.length = false):=fun h=>Lib.hid (recsTo_fail hlt h)
     have hst : recAt zs k = true → Hid (Ek zs (k + 1) = true):=fun h=>Lib.hid (recsTo_step hall.out h)
     have hprev : ∀ j,k = j + 1 → wr.cell? ⟨b,o + j * 4,none⟩ = some (.int .i64 (zs.getD j default).f0):=by
      intro j hj;have hj' : j < zs.length:=by omega
      obtain ⟨b',o',e',_,hcl⟩:=Rd.get Be (hrA _ hBw) rfl hj';cases e';have : zs.getD j default = zs[j]:=by simp [hj']
      rw [this];exact hcl 0 _ (by omega) rfl
     clear hgd
     generalize zs[k].f0 = v0 at *
     generalize zs[k].f1 = v1 at *
     generalize zs[k].f2 = v2 at *
     generalize zs[k].f3 = v3 at *
     go_wp2_with fail
     cases hro : Eg v0 v1 v2 v3
     ·rw [hro] at hR hat;have hf:=hfl hat;clear hat hfl hst hprev;refine Ei (by kernel_rfl) (by kernel_rfl) ?_;obtain ⟨uc,uf⟩:=bwcell (W:=wr)
      repeat (go_big_quiet_step ((go_at_call 97; exact bw_call (hR _))))
      refine wpQuiet_nil ?_;rintro _ ⟨⟨w7,hb7⟩,rfl⟩;clear uc uf;obtain ⟨hc_w7,hf_w7⟩:=bcell hb7;have hB7:=Cb hBw hb7
      go_wp2
      go_ret
      exact ⟨Cf (by rw [HCC.out,hf.out]; rfl),hB7⟩
     ·rw [hro] at hR hat;by_cases hk0 : k = 0
      ·subst hk0;have hnext:=hst (by rw [hat]; rfl);clear hat hfl hst hprev;simp only [Nat.zero_mul,Nat.add_zero] at q0 q1 q2 q3;refine Ei (by kernel_rfl) (by kernel_rfl) ?_;obtain ⟨uc,uf⟩:=bwcell (W:=wr)
       repeat (go_big_quiet_step ((go_at_call 97; exact bw_call (hR _))))
       refine wpQuiet_nil ?_;rintro _ ⟨⟨w7,hb7⟩,rfl⟩;clear uc uf;obtain ⟨hc_w7,hf_w7⟩:=bcell hb7;have hB7:=Cb hB hb7
       go_wp2
       go_roundw
       case rel=>exact ⟨0 + 1,by omega,by go_num,hnext.out,hB7⟩
       case measure=>simp [intOf]; omega
      ·obtain ⟨j,rfl⟩ : ∃ j,k = j + 1:=⟨k - 1,by omega⟩
       have c5:=hprev j rfl;have hw : IntKind.i64.wrap (((j + 1 : Nat) : Int) - 1) = (j : Int):=by rw [IntWalk.i64_in _ (by omega)]; omega
       have hj0 : (0 : Int) ≤ j:=by omega
       have hj1 : (j : Int) < zs.length:=by omega
       rw [show j + 1 - 1 = j from by omega,decide_eq_false hk0] at hat;clear hprev
       generalize (zs.getD j default).f0 = p0 at *
       by_cases hlt2 : p0 < v0
       ·have hnext:=hst (by rw [hat,decide_eq_true hlt2]; rfl);have hle : decide (v0 ≤ p0) = false:=decide_eq_false (by omega);clear hat hfl hst;refine Ei (by kernel_rfl) (by kernel_rfl) ?_;obtain ⟨uc,uf⟩:=bwcell (W:=wr)
        repeat (go_big_quiet_step ((go_at_call 97; exact bw_call (hR _))))
        refine wpQuiet_nil ?_;rintro _ ⟨⟨w7,hb7⟩,rfl⟩;clear uc uf;obtain ⟨hc_w7,hf_w7⟩:=bcell hb7;have hB7:=Cb hB hb7
        go_wp2
        go_roundw
        case rel=>exact ⟨j + 1 + 1,by omega,by go_num,hnext.out,hB7⟩
        case measure=>simp [intOf]; omega
       ·have hf:=hfl (by rw [hat,decide_eq_false hlt2]; rfl);have hle : decide (v0 ≤ p0) = true:=decide_eq_true (by omega);clear hat hfl hst;refine Ei (by kernel_rfl) (by kernel_rfl) ?_;obtain ⟨uc,uf⟩:=bwcell (W:=wr)
        repeat (go_big_quiet_step ((go_at_call 97; exact bw_call (hR _))))
        refine wpQuiet_nil ?_;rintro _ ⟨⟨w7,hb7⟩,rfl⟩;clear uc uf;obtain ⟨hc_w7,hf_w7⟩:=bcell hb7;have hB7:=Cb hBw hb7
        go_wp2
        go_ret
        exact ⟨Cf (by rw [HCC.out,hf.out]; rfl),hB7⟩
    ·obtain rfl : k = zs.length:=by omega
     have hcc : rcOk room zs ds = decide ((Bz zs : Int) ≤ room):=by rw [HCC.out,hall.out,Bool.true_and]
     have HC2:=Lib.hid hcc;have hU:=fun W (hW : Below w.heap.size w W)=>l05Used_any A zs.length cp zs W rfl hb hT (fun k hk=>Nat.le_trans (recsTo_used k hk (recsTo_le hk hall.out)) (by omega)) (hrA _ hW)
     clear hcc HCC
     generalize Bz zs = U at *
     go_wp2_with fail
     refine Ei (by kernel_rfl) (by kernel_rfl) ?_;obtain ⟨uc,uf⟩:=bwcell (W:=wr)
     repeat (go_big_quiet_step ((go_at_call 98; exact bw_same (hU _ (Cb hBw (BW.hb _))))))
     refine wpQuiet_nil ?_;rintro _ ⟨⟨w7,hb7⟩,rfl⟩;clear uc uf;obtain ⟨hc_w7,hf_w7⟩:=bcell hb7;have hB7:=Cb hBw hb7
     go_wp2
     go_ret
     exact ⟨Cf HC2.out.symm,hB7⟩
end Go.Proofs.Ytoccapmoehdohaa
