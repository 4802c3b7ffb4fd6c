/- Contract: the room that a recorder has left, in the program. No condition. -/
import Derived.Test.YtoccapmoehdohaaRcOk
namespace Go.Proofs.Ytoccapmoehdohaa
open Go.RowKit
def roomLeft (room : Int) (zs : List Av) (ds : List Int) : Int:=if rcOk room zs ds = true then room - Cj zs else 0
theorem rcOk_parts {room : Int} {zs : List Av} {ds : List Int} (h : rcOk room zs ds = true) : (0 ≤ room ∧ room ≤ 4000) ∧ ds.length ≤ 65536 ∧ recsTo zs zs.length = true ∧ (Cj zs : Int) ≤ room ∧ allB ds 0 65535 = true:=by
 unfold rcOk at h;simp only [Bool.and_eq_true,decide_eq_true_eq] at h;obtain ⟨⟨⟨⟨h1,h2⟩,h3⟩,h4⟩,h5⟩:=h;exact ⟨Cw h1,by omega,h3,h4,h5⟩
theorem usedN_le {zs : List Av} {k : Nat} (_hk : k ≤ zs.length) : Cj (zs.take k) ≤ Cj zs:=by
 have h : Cj zs = Cj (zs.take k) + Cj (zs.drop k):=by
  unfold Cj;rw [← List.sum_append,← List.map_append,List.take_append_drop]
 omega
theorem usedN_len (zs : List Av) : 6 * zs.length ≤ Cj zs:=by
 unfold Cj
 induction zs with
 | nil=>simp
 | cons z zs ih=>simp only [List.map_cons,List.sum_cons,List.length_cons]; omega
theorem recOk_at {zs : List Av} {n k : Nat} (h : recsTo zs n = true) (hn : k < n) (hk : k < zs.length) : Ez zs[k].f0 zs[k].f1 zs[k].f2 zs[k].f3 = true:=by
 unfold recsTo at h;rw [List.all_eq_true] at h;have h1:=h k (List.mem_range.2 hn);unfold recAt at h1;have hgd : zs.getD k default = zs[k]:=by simp [hk]
 rw [hgd,Bool.and_eq_true] at h1;exact h1.1
theorem roomLeft_any (room : Int) (A B : Option Addr) (n cp m dp : Nat) (zs : List Av) (ds : List Int) (w : World) (hn : zs.length = n) (hb : n ≤ 1048577) (hT : ∀ z ∈ zs,Txt z.f3) (hr : Rd w 4 A n (zs.flatMap Bo)) (hm : ds.length = m) (hbm : m ≤ 1048577) (hr' : Rd w 1 B m (ds.flatMap cI)) :
  Calls Try.prog 111 #[.agg #[.int .i64 room,.slice A n cp,.slice B m dp]] w fun e w'=>e = .returned (.int .i64 (roomLeft room zs ds)) ∧ Below w.heap.size w w':=by
 have hrA:=fun wr (h : Below w.heap.size w wr)=>hr.below h
 have hR:=fun W (h : Below w.heap.size w W)=>Dk room A B n cp m dp zs ds W hn hb hT (hr.below h) hm hbm (hr'.below h)
 have hB0 : Below w.heap.size w (w.alloc (.cells #[.int .i64 room,.slice A n cp,.slice B m dp] 30)):=(Below.refl _ _).alloc (Nat.le_refl _) _;cases hok : rcOk room zs ds
 ·rw [hok] at hR;have hc:=Lib.hid (show roomLeft room zs ds = 0 by unfold roomLeft; rw [hok]; rfl)
  go_enter Try.func111,Try.ntmps111
  go_wp2_with fail
  refine (hR _ hB0).mono ?_;rintro e w1 ⟨rfl,hb1⟩;have hB1:=Eg hB0 hb1
  go_wp2
  go_ret
  exact ⟨ret_int hc.out.symm,hB1⟩
 ·rw [hok] at hR;have hc:=Lib.hid (show roomLeft room zs ds = room - Cj zs by unfold roomLeft; rw [hok]; rfl);obtain ⟨hq1,_,hq3,hq4,_⟩:=rcOk_parts hok;subst hn;have hq3':=Lib.hid hq3;clear hq3
  go_enter Try.func111,Try.ntmps111
  go_wp2_with fail
  refine (hR _ hB0).mono ?_;rintro e w1 ⟨rfl,hb1⟩;obtain ⟨hc1,hf1⟩:=bcell hb1;have hz1:=hb1.size;simp only [World.size_alloc] at hz1;have hl1 : w.heap.size < w1.heap.size:=by omega
  have e0 : w1.cell? ⟨w.heap.size,0,none⟩ = some (.int .i64 room):=by simp [hc1,go_sem]
  have e1 : w1.cell? ⟨w.heap.size,1,none⟩ = some (.slice A zs.length cp):=by simp [hc1,go_sem]
  have hB1:=Eg hB0 hb1;clear hc1 hf1
  go_wp2
  go_loopw [3,14] (fun q i wr=>∃ k : Nat,k ≤ zs.length ∧ i = .int .i64 k ∧ q = .int .i64 (room - Cj (zs.take k)) ∧ Below w.heap.size w wr) (fun _ i _=>zs.length - (intOf i).toNat)
  case atStart=>exact ⟨0,Nat.zero_le _,rfl,by simp [Cj],hB1⟩
  case round =>
   obtain ⟨k,hk,rfl,rfl,hB⟩:=hrel;clear e0 e1;by_cases hlt : k < zs.length
   ·have k0 : (0 : Int) ≤ k:=by omega
    have k1 : (k : Int) < zs.length:=by omega
    obtain ⟨b,o,rfl,hb1,hcl⟩:=Rd.get Bs (hrA _ hB) rfl hlt;have q0 : wr.cell? ⟨b,o + k * 4,none⟩ = some (.int .i64 zs[k].f0):=hcl 0 _ (by omega) rfl;have q1 : wr.cell? ⟨b,o + k * 4 + 1,none⟩ = some (.int .i64 zs[k].f1):=hcl 1 _ (by omega) rfl;have q2 : wr.cell? ⟨b,o + k * 4 + 2,none⟩ = some (.int .i64 zs[k].f2):=hcl 2 _ (by omega) rfl;have q3 : wr.cell? ⟨b,o + k * 4 + 3,none⟩ = some (.string ⟨zs[k].f3.toArray⟩):=hcl 3 _ (by omega) rfl;have htx:=hT zs[k] (List.getElem_mem hlt);have hro:=(Ey (recOk_at hq3'.out hlt hlt)).2.2.2;have hu1:=usedN_le (zs:=zs) (k:=k + 1) hlt;have hu2:=usedN_take hlt;have hu3 : Cj (zs.take k) + (6 + zs[k].f3.length) ≤ Cj zs:=by rw [← hu2]; exact hu1
    have HU:=Lib.hid hu2;clear hcl hu1 hu2
    generalize zs[k].f0 = v0 at *
    generalize zs[k].f1 = v1 at *
    generalize zs[k].f2 = v2 at *
    generalize zs[k].f3 = v3 at *
    generalize Cj (zs.take k) = U at *
    generalize Cj zs = V at *
    go_wp2_with fail
    refine (recordSize_any _ _ _ _ _ htx (by omega)).mono ?_;rintro e w8 ⟨rfl,hb8⟩;have hB8:=Eg hB (((Below.refl _ _).alloc (Nat.le_refl _) _).trans (hb8.mono (by simp)))
    go_wp2
    go_roundw
    case rel=>exact ⟨k + 1,by omega,by go_num,by rw [HU.out]; go_num,hB8⟩
    case measure=>simp [intOf]; omega
   ·obtain rfl : k = zs.length:=by omega
    simp only [List.take_length]
    go_wp2
    go_ret
    exact ⟨ret_int hc.out.symm,hB⟩
end Go.Proofs.Ytoccapmoehdohaa
