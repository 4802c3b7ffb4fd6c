/- Plain law: what a recorder keeps and gives up when a record comes; the index of the record that goes first, in the program's and in the reference's way. No condition. -/
import Derived.Test.YtoccapmoehdohaaLeast
import Derived.Test.YtoccapmoehdohaaRcOk
import Derived.Test.YtoccapmoehdohaaRoomLeftI
namespace Go.Proofs.Ytoccapmoehdohaa
open Go.RowKit _root_.Go.Proofs.Try
def Dp (z : Av) : Nat:=6 + z.f3.length
def lesS (p : Int) (zs : List Av) : Nat:=(zs.map fun z=>if z.f1 < p then Dp z else 0).sum
theorem usedN_sum (zs : List Av) : Cj zs = (zs.map Dp).sum:=rfl
theorem sum_erase {α : Type} (f : α → Nat) : ∀ (zs : List α) (k : Nat) (h : k < zs.length),((zs.eraseIdx k).map f).sum + f zs[k] = (zs.map f).sum
 | z :: zs,0,_=>by simp [Nat.add_comm]
 | z :: zs,k + 1,h=>by
  have:=sum_erase f zs k (by simpa using h);simp only [List.eraseIdx_cons_succ,List.map_cons,List.sum_cons,List.getElem_cons_succ];omega
theorem usedN_erase {zs : List Av} {k : Nat} (h : k < zs.length) : Cj (zs.eraseIdx k) + Dp zs[k] = Cj zs:=sum_erase Dp zs k h
theorem lesS_erase {p : Int} {zs : List Av} {k : Nat} (h : k < zs.length) (hp : zs[k].f1 < p) : lesS p (zs.eraseIdx k) + Dp zs[k] = lesS p zs:=by
 have:=sum_erase (fun z=>if z.f1 < p then Dp z else 0) zs k h;simp only [hp,if_true] at this;exact this
theorem lesS_take {p : Int} {zs : List Av} {k : Nat} (h : k < zs.length) : lesS p (zs.take (k + 1)) = lesS p (zs.take k) + (if zs[k].f1 < p then Dp zs[k] else 0):=by
 unfold lesS;rw [List.take_succ_eq_append_getElem h,List.map_append,List.sum_append];simp
theorem lesS_le (p : Int) (zs : List Av) : lesS p zs ≤ Cj zs:=by
 rw [usedN_sum];unfold lesS
 induction zs with
 | nil=>simp
 | cons z zs ih =>
  simp only [List.map_cons,List.sum_cons]
  split <;> omega
theorem lesS_take_le {p : Int} {zs : List Av} (k : Nat) : lesS p (zs.take k) ≤ lesS p zs:=by
 have h : lesS p zs = lesS p (zs.take k) + lesS p (zs.drop k):=by
  unfold lesS;rw [← List.sum_append,← List.map_append,List.take_append_drop]
 omega
theorem leastTo_min {zs : List Av} (h0 : 0 < zs.length) : ∀ (k : Nat) (hk : k ≤ zs.length) (i : Nat) (hi : i < zs.length),i < k → (zs[Ct zs k]'(leastTo_lt zs h0 k hk)).f1 ≤ zs[i].f1:=by
 intro k
 induction k with
 | zero=>intro _ i _ h; omega
 | succ k ih =>
  intro hk i hi hik;have hkl : k < zs.length:=by omega
  have hl:=leastTo_lt zs h0 k (by omega);have hih:=ih (by omega);by_cases hc : zs[k].f1 < zs[Ct zs k].f1
  ·have e:=leastTo_yes hkl rfl hl hc;simp only [e];by_cases hik' : i = k
   ·subst hik'; omega
   ·have:=hih i hi (by omega);omega
  ·have e:=leastTo_no hkl rfl hl hc;simp only [e];by_cases hik' : i = k
   ·subst hik'; omega
   ·exact hih i hi (by omega)
theorem lesS_pos {p : Int} : ∀ {zs : List Av},0 < lesS p zs → ∃ i,∃ h : i < zs.length,zs[i].f1 < p
 | [],h=>by simp [lesS] at h
 | z :: zs,h=>by
  by_cases hz : z.f1 < p
  ·exact ⟨0,by simp,hz⟩
  ·have : 0 < lesS p zs:=by
    have e : lesS p (z :: zs) = (if z.f1 < p then Dp z else 0) + lesS p zs:=by simp [lesS]
    rw [e,if_neg hz] at h;omega
   obtain ⟨i,hi,hp⟩:=lesS_pos this;exact ⟨i + 1,by simpa using hi,by simpa using hp⟩
theorem least_lesser {p : Int} {zs : List Av} (h : 0 < lesS p zs) : ∃ hl : Ct zs zs.length < zs.length,zs[Ct zs zs.length].f1 < p:=by
 obtain ⟨i,hi,hp⟩:=lesS_pos h;have h0 : 0 < zs.length:=by omega
 refine ⟨leastTo_lt zs h0 _ (Nat.le_refl _),?_⟩;have:=leastTo_min h0 zs.length (Nat.le_refl _) i hi hi;omega
def evict (room need : Int) : Nat → List Av → List Int → List Av × List Int
 | 0,zs,ds=>(zs,ds)
 | n + 1,zs,ds=>if (Cj zs : Int) + need ≤ room then (zs,ds) else evict room need n (zs.eraseIdx (Ct zs zs.length)) (ds ++ [(zs.getD (Ct zs zs.length) default).f0])
def kFits (room : Int) (zs : List Av) (x : Av) : Bool:=decide ((Dp x : Int) ≤ room - Cj zs + lesS x.f1 zs)
def kLast (zs : List Av) (x : Av) : Bool:=decide (0 < zs.length → (zs.getD (zs.length - 1) default).f0 < x.f0)
def kOk (room : Int) (zs : List Av) (ds : List Int) (x : Av) : Bool:=rcOk room zs ds && Ez x.f0 x.f1 x.f2 x.f3 && kLast zs x
def kRes (room : Int) (zs : List Av) (ds : List Int) (x : Av) : List Av × List Int :=
 if kFits room zs x then ((evict room (Dp x) zs.length zs ds).1 ++ [x],(evict room (Dp x) zs.length zs ds).2) else (zs,ds ++ [x.f0])
def Ed (room : Int) (zs : List Av) (ds : List Int) (x : Av) : List Av × List Int :=
 if kOk room zs ds x && rcOk room (kRes room zs ds x).1 (kRes room zs ds x).2 then kRes room zs ds x else (zs,ds)
theorem evict_stop {room need : Int} {zs : List Av} {ds : List Int} (h : (Cj zs : Int) + need ≤ room) : ∀ n,evict room need n zs ds = (zs,ds)
 | 0=>rfl
 | n + 1=>by unfold evict; rw [if_pos h]
theorem evict_go {room need : Int} {zs : List Av} {ds : List Int} {k n : Nat} (h : ¬ (Cj zs : Int) + need ≤ room) (hk : k < zs.length) (hk' : Ct zs zs.length = k) (hn : n = zs.length) : evict room need n zs ds = evict room need (zs.eraseIdx k).length (zs.eraseIdx k) (ds ++ [zs[k].f0]):=by
 subst hk' hn;obtain ⟨m,hm⟩ : ∃ m,zs.length = m + 1:=⟨zs.length - 1,by omega⟩
 have e : (zs.eraseIdx (Ct zs zs.length)).length = m:=by rw [List.length_eraseIdx,if_pos hk]; omega
 have eg : zs.getD (Ct zs zs.length) default = zs[Ct zs zs.length]:=by simp [hk]
 rw [e]
 conv=>lhs; rw [hm]; unfold evict
 rw [if_neg h,eg]
theorem evict_len {room need : Int} : ∀ (n : Nat) (zs : List Av) (ds : List Int),(evict room need n zs ds).1.length ≤ zs.length ∧ (evict room need n zs ds).2.length ≤ ds.length + n
 | 0,zs,ds=>⟨Nat.le_refl _,Nat.le_refl _⟩
 | n + 1,zs,ds=>by
  unfold evict
  split
  ·exact ⟨Nat.le_refl _,by simp only; omega⟩
  ·have:=evict_len (room:=room) (need:=need) n (zs.eraseIdx (Ct zs zs.length)) (ds ++ [(zs.getD (Ct zs zs.length) default).f0]);have h2:=List.length_eraseIdx_le zs (Ct zs zs.length);simp only [List.length_append,List.length_cons,List.length_nil] at this;omega
theorem keepR_no {room : Int} {zs : List Av} {ds : List Int} {x : Av} (h : kOk room zs ds x = false) : Ed room zs ds x = (zs,ds):=by
 unfold Ed;rw [h]
 rfl
theorem keepR_bad {room : Int} {zs : List Av} {ds : List Int} {x : Av} {ls : List Av} {es : List Int} (hr : kRes room zs ds x = (ls,es)) (h : rcOk room ls es = false) : Ed room zs ds x = (zs,ds):=by
 unfold Ed;rw [hr,h,Bool.and_false]
 rfl
theorem keepR_yes {room : Int} {zs : List Av} {ds : List Int} {x : Av} {ls : List Av} {es : List Int} (hk : kOk room zs ds x = true) (hr : kRes room zs ds x = (ls,es)) (h : rcOk room ls es = true) : Ed room zs ds x = (ls,es):=by
 unfold Ed;rw [hk,hr,h]
 rfl
theorem kRes_fits {room : Int} {zs : List Av} {ds : List Int} {x : Av} {ls : List Av} {es : List Int} (h : kFits room zs x = true) (he : evict room (Dp x) zs.length zs ds = (ls,es)) : kRes room zs ds x = (ls ++ [x],es):=by
 unfold kRes;rw [if_pos h,he]
theorem kRes_not {room : Int} {zs : List Av} {ds : List Int} {x : Av} (h : kFits room zs x = false) : kRes room zs ds x = (zs,ds ++ [x.f0]):=by
 unfold kRes;rw [h]
 rfl
theorem keepR_len {room : Int} {zs : List Av} {ds : List Int} {x : Av} : (Ed room zs ds x).1.length ≤ zs.length + 1 ∧ (Ed room zs ds x).2.length ≤ ds.length + zs.length + 1:=by
 unfold Ed
 split
 ·unfold kRes
  split
  ·have:=evict_len (room:=room) (need:=Dp x) zs.length zs ds;simp only [List.length_append,List.length_cons,List.length_nil];omega
  ·simp only [List.length_append,List.length_cons,List.length_nil];omega
 ·simp only;omega
end Go.Proofs.Ytoccapmoehdohaa
