/- Plain law: what a recorder keeps and gives up when a record comes; the index of the record that goes first, in the program's and in the reference's way. No condition. -/
import Derived.Test.YtoccapmoehdohaaLeast
import Derived.Test.YtoccapmoehdohaaRcOk
import Derived.Test.YtoccapmoehdohaaRoomLeftI
namespace Go.Proofs.Ytoccapmoehdohaa
open Go.RowKit _root_.Go.Proofs.Try
def Ds (z : Aw) : Nat:=6 + z.f3.length
def lesS (p : Int) (zs : List Aw) : Nat:=(zs.map fun z=>if z.f1 < p then Ds z else 0).sum
theorem usedN_sum (zs : List Aw) : Bz zs = (zs.map Ds).sum:=rfl
theorem sum_erase {α : Type} (f : α → Nat) : ∀ (zs : List α) (k : Nat) (h : k < zs.length),((zs.eraseIdx k).map f).sum + f zs[k] = (zs.map f).sum
 | z :: zs,0,_=>by simp [Nat.add_comm]
 | z :: zs,k + 1,h=>by
  have:=sum_erase f zs k (by simpa using h);simp only [List.eraseIdx_cons_succ,List.map_cons,List.sum_cons,List.getElem_cons_succ];omega
theorem usedN_erase {zs : List Aw} {k : Nat} (h : k < zs.length) : Bz (zs.eraseIdx k) + Ds zs[k] = Bz zs:=sum_erase Ds zs k h
theorem lesS_erase {p : Int} {zs : List Aw} {k : Nat} (h : k < zs.length) (hp : zs[k].f1 < p) : lesS p (zs.eraseIdx k) + Ds zs[k] = lesS p zs:=by
 have:=sum_erase (fun z=>if z.f1 < p then Ds z else 0) zs k h;simp only [hp,if_true] at this;exact this
theorem lesS_take {p : Int} {zs : List Aw} {k : Nat} (h : k < zs.length) : lesS p (zs.take (k + 1)) = lesS p (zs.take k) + (if zs[k].f1 < p then Ds zs[k] else 0):=by
 unfold lesS;rw [List.take_succ_eq_append_getElem h,List.map_append,List.sum_append];simp
theorem lesS_le (p : Int) (zs : List Aw) : lesS p zs ≤ Bz zs:=by
 rw [usedN_sum];unfold lesS
 induction zs with
 | nil=>simp
 | cons z zs ih =>
  simp only [List.map_cons,List.sum_cons]
  split <;> omega
theorem lesS_take_le {p : Int} {zs : List Aw} (k : Nat) : lesS p (zs.take k) ≤ lesS p zs:=by
 have h : lesS p zs = lesS p (zs.take k) + lesS p (zs.drop k):=by
  unfold lesS;rw [← List.sum_append,← List.map_append,List.take_append_drop]
 omega
theorem leastTo_min {zs : List Aw} (h0 : 0 < zs.length) : ∀ (k : Nat) (hk : k ≤ zs.length) (i : Nat) (hi : i < zs.length),i < k → (zs[Cl zs k]'(leastTo_lt zs h0 k hk)).f1 ≤ zs[i].f1:=by
 intro k
 induction k with
 | zero=>intro _ i _ h; omega
 | succ k ih =>
  intro hk i hi hik;have hkl : k < zs.length:=by omega
  have hl:=leastTo_lt zs h0 k (by omega);have hih:=ih (by omega);by_cases hc : zs[k].f1 < zs[Cl zs k].f1
  ·have e:=leastTo_yes hkl rfl hl hc;simp only [e];by_cases hik' : i = k
   ·subst hik'; omega
   ·have:=hih i hi (by omega);omega
  ·have e:=leastTo_no hkl rfl hl hc;simp only [e];by_cases hik' : i = k
   ·subst hik'; omega
   ·exact hih i hi (by omega)
theorem lesS_pos {p : Int} : ∀ {zs : List Aw},0 < lesS p zs → ∃ i,∃ h : i < zs.length,zs[i].f1 < p
 | [],h=>by simp [lesS] at h
 | z :: zs,h=>by
  by_cases hz : z.f1 < p
  ·exact ⟨0,by simp,hz⟩
  ·have : 0 < lesS p zs:=by
    have e : lesS p (z :: zs) = (if z.f1 < p then Ds z else 0) + lesS p zs:=by simp [lesS]
    rw [e,if_neg hz] at h;omega
   obtain ⟨i,hi,hp⟩:=lesS_pos this;exact ⟨i + 1,by simpa using hi,by simpa using hp⟩
theorem least_lesser {p : Int} {zs : List Aw} (h : 0 < lesS p zs) : ∃ hl : Cl zs zs.length < zs.length,zs[Cl zs zs.length].f1 < p:=by
 obtain ⟨i,hi,hp⟩:=lesS_pos h;have h0 : 0 < zs.length:=by omega
 refine ⟨leastTo_lt zs h0 _ (Nat.le_refl _),?_⟩;have:=leastTo_min h0 zs.length (Nat.le_refl _) i hi hi;omega
def lbTo (zs : List Aw) (p : Int) : Nat → Int
 | 0=>-1
 | k + 1=>if (zs.getD k default).f1 < p ∧ (lbTo zs p k < 0 ∨ (zs.getD k default).f1 < (zs.getD (lbTo zs p k).toNat default).f1) then (k : Int) else lbTo zs p k
theorem lbTo_step {zs : List Aw} {p : Int} (h0 : 0 < zs.length) : ∀ k,k ≤ zs.length → (lbTo zs p k = -1 ∧ ∀ i (hi : i < zs.length),i < k → p ≤ zs[i].f1) ∨ (lbTo zs p k = (Cl zs k : Nat) ∧ ∃ hl : Cl zs k < zs.length,zs[Cl zs k].f1 < p)
 | 0,_=>.inl ⟨rfl,fun i _ h=>by omega⟩
 | k + 1,hk=>by
  have hkl : k < zs.length:=by omega
  have hl:=leastTo_lt zs h0 k (by omega);have eg : zs.getD k default = zs[k]:=by simp [hkl]
  rcases lbTo_step h0 k (by omega) with ⟨h1,h2⟩ | ⟨h1,_,h2⟩
  ·by_cases hp : zs[k].f1 < p
   ·refine .inr ?_;have e : lbTo zs p (k + 1) = (k : Int):=by
     unfold lbTo;rw [eg,h1,if_pos ⟨hp,.inl (by omega)⟩]
    have e2 : Cl zs (k + 1) = k:=by
     by_cases hk0 : k = 0
     ·subst hk0;have : Cl zs 0 = 0:=rfl;unfold Cl;rw [this];simp
     ·have:=h2 (Cl zs k) hl (by
       have : ∀ j,0 < j → Cl zs j < j:=by
        intro j
        induction j with
        | zero=>intro h; omega
        | succ j ih =>
         intro _;unfold Cl
         split
         ·omega
         ·by_cases hj : j = 0
          ·subst hj; exact Nat.zero_lt_one
          ·have:=ih (by omega); omega
       exact this k (by omega))
      exact leastTo_yes hkl rfl hl (by omega)
    exact ⟨by rw [e,e2],by rw [e2]; exact hkl,by simp only [e2]; exact hp⟩
   ·refine .inl ⟨?_,fun i hi hik=>?_⟩
    ·unfold lbTo;rw [eg,if_neg (fun h=>hp h.1),h1]
    ·by_cases hik' : i = k
     ·subst hik'; omega
     ·exact h2 i hi (by omega)
  ·refine .inr ?_;have eg2 : zs.getD (lbTo zs p k).toNat default = zs[Cl zs k]:=by rw [h1]; simp [hl]
   by_cases hc : zs[k].f1 < zs[Cl zs k].f1
   ·have e : lbTo zs p (k + 1) = (k : Int):=by
     unfold lbTo;rw [eg,eg2,if_pos ⟨by omega,.inr hc⟩]
    have e2:=leastTo_yes hkl rfl hl hc;exact ⟨by rw [e,e2],by rw [e2]; exact hkl,by simp only [e2]; omega⟩
   ·have e : lbTo zs p (k + 1) = lbTo zs p k:=by
     show (if _ then _ else _) = _;rw [eg,eg2,if_neg (fun h=>by rcases h.2 with h3 | h3 <;> omega)]
    have e2:=leastTo_no hkl rfl hl hc;exact ⟨by rw [e,e2,h1],by rw [e2]; exact hl,by simp only [e2]; exact h2⟩
theorem lb_yes {zs : List Aw} {p : Int} (h : 0 < lesS p zs) : lbTo zs p zs.length = (Cl zs zs.length : Nat):=by
 obtain ⟨i,hi,hp⟩:=lesS_pos h;rcases lbTo_step (p:=p) (by omega) zs.length (Nat.le_refl _) with ⟨_,h2⟩ | ⟨h1,_⟩
 ·have:=h2 i hi hi;omega
 ·exact h1
theorem lb_no {zs : List Aw} {p : Int} (h : lesS p zs = 0) : lbTo zs p zs.length = -1:=by
 by_cases h0 : 0 < zs.length
 ·rcases lbTo_step (p:=p) h0 zs.length (Nat.le_refl _) with ⟨h1,_⟩ | ⟨_,hl,h2⟩
  ·exact h1
  ·have:=lesS_erase hl h2;have : 0 < Ds zs[Cl zs zs.length]:=by unfold Ds; omega
   omega
 ·have : zs = []:=List.eq_nil_of_length_eq_zero (by omega);subst this
  rfl
def evict (room need : Int) : Nat → List Aw → List Int → List Aw × List Int
 | 0,zs,ds=>(zs,ds)
 | n + 1,zs,ds=>if (Bz zs : Int) + need ≤ room then (zs,ds) else evict room need n (zs.eraseIdx (Cl zs zs.length)) (ds ++ [(zs.getD (Cl zs zs.length) default).f0])
def kFits (room : Int) (zs : List Aw) (x : Aw) : Bool:=decide ((Ds x : Int) ≤ room - Bz zs + lesS x.f1 zs)
def kLast (zs : List Aw) (x : Aw) : Bool:=decide (0 < zs.length → (zs.getD (zs.length - 1) default).f0 < x.f0)
def kOk (room : Int) (zs : List Aw) (ds : List Int) (x : Aw) : Bool:=rcOk room zs ds && Eg x.f0 x.f1 x.f2 x.f3 && kLast zs x
def kRes (room : Int) (zs : List Aw) (ds : List Int) (x : Aw) : List Aw × List Int :=
 if kFits room zs x then ((evict room (Ds x) zs.length zs ds).1 ++ [x],(evict room (Ds x) zs.length zs ds).2) else (zs,ds ++ [x.f0])
def Em (room : Int) (zs : List Aw) (ds : List Int) (x : Aw) : List Aw × List Int :=
 if kOk room zs ds x && rcOk room (kRes room zs ds x).1 (kRes room zs ds x).2 then kRes room zs ds x else (zs,ds)
theorem evict_stop {room need : Int} {zs : List Aw} {ds : List Int} (h : (Bz zs : Int) + need ≤ room) : ∀ n,evict room need n zs ds = (zs,ds)
 | 0=>rfl
 | n + 1=>by unfold evict; rw [if_pos h]
theorem evict_go {room need : Int} {zs : List Aw} {ds : List Int} {k n : Nat} (h : ¬ (Bz zs : Int) + need ≤ room) (hk : k < zs.length) (hk' : Cl zs zs.length = k) (hn : n = zs.length) : evict room need n zs ds = evict room need (zs.eraseIdx k).length (zs.eraseIdx k) (ds ++ [zs[k].f0]):=by
 subst hk' hn;obtain ⟨m,hm⟩ : ∃ m,zs.length = m + 1:=⟨zs.length - 1,by omega⟩
 have e : (zs.eraseIdx (Cl zs zs.length)).length = m:=by rw [List.length_eraseIdx,if_pos hk]; omega
 have eg : zs.getD (Cl zs zs.length) default = zs[Cl zs zs.length]:=by simp [hk]
 rw [e]
 conv=>lhs; rw [hm]; unfold evict
 rw [if_neg h,eg]
theorem evict_len {room need : Int} : ∀ (n : Nat) (zs : List Aw) (ds : List Int),(evict room need n zs ds).1.length ≤ zs.length ∧ (evict room need n zs ds).2.length ≤ ds.length + n
 | 0,zs,ds=>⟨Nat.le_refl _,Nat.le_refl _⟩
 | n + 1,zs,ds=>by
  unfold evict
  split
  ·exact ⟨Nat.le_refl _,by simp only; omega⟩
  ·have:=evict_len (room:=room) (need:=need) n (zs.eraseIdx (Cl zs zs.length)) (ds ++ [(zs.getD (Cl zs zs.length) default).f0]);have h2:=List.length_eraseIdx_le zs (Cl zs zs.length);simp only [List.length_append,List.length_cons,List.length_nil] at this;omega
theorem keepR_no {room : Int} {zs : List Aw} {ds : List Int} {x : Aw} (h : kOk room zs ds x = false) : Em room zs ds x = (zs,ds):=by
 unfold Em;rw [h]
 rfl
theorem keepR_bad {room : Int} {zs : List Aw} {ds : List Int} {x : Aw} {ls : List Aw} {es : List Int} (hr : kRes room zs ds x = (ls,es)) (h : rcOk room ls es = false) : Em room zs ds x = (zs,ds):=by
 unfold Em;rw [hr,h,Bool.and_false]
 rfl
theorem keepR_yes {room : Int} {zs : List Aw} {ds : List Int} {x : Aw} {ls : List Aw} {es : List Int} (hk : kOk room zs ds x = true) (hr : kRes room zs ds x = (ls,es)) (h : rcOk room ls es = true) : Em room zs ds x = (ls,es):=by
 unfold Em;rw [hk,hr,h]
 rfl
theorem kRes_fits {room : Int} {zs : List Aw} {ds : List Int} {x : Aw} {ls : List Aw} {es : List Int} (h : kFits room zs x = true) (he : evict room (Ds x) zs.length zs ds = (ls,es)) : kRes room zs ds x = (ls ++ [x],es):=by
 unfold kRes;rw [if_pos h,he]
theorem kRes_not {room : Int} {zs : List Aw} {ds : List Int} {x : Aw} (h : kFits room zs x = false) : kRes room zs ds x = (zs,ds ++ [x.f0]):=by
 unfold kRes;rw [h]
 rfl
theorem keepR_len {room : Int} {zs : List Aw} {ds : List Int} {x : Aw} : (Em room zs ds x).1.length ≤ zs.length + 1 ∧ (Em room zs ds x).2.length ≤ ds.length + zs.length + 1:=by
 unfold Em
 split
 ·unfold kRes
  split
  ·have:=evict_len (room:=room) (need:=Ds x) zs.length zs ds;simp only [List.length_append,List.length_cons,List.length_nil];omega
  ·simp only [List.length_append,List.length_cons,List.length_nil];omega
 ·simp only;omega
end Go.Proofs.Ytoccapmoehdohaa
