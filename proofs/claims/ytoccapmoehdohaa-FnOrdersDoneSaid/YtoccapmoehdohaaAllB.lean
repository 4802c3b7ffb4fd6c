/- Contract: a range test over a list. No condition. -/
import Derived.Test.YtoccapmoehdohaaBase
import Derived.Test.YtoccapmoehdohaaOpen
namespace Go.Proofs.Ytoccapmoehdohaa
open Go.RowKit
def allB (zs : List Int) (lo hi : Int) : Bool:=zs.all fun n=>inB n lo hi
theorem allB_take {zs : List Int} {lo hi : Int} {k : Nat} (hk : k < zs.length) (h : allB (zs.take k) lo hi = true) (h1 : inB zs[k] lo hi = true) : allB (zs.take (k + 1)) lo hi = true:=by
 unfold allB at h ⊢;rw [List.take_succ_eq_append_getElem hk,List.all_append,h];simp [h1]
theorem allB_fail {zs : List Int} {lo hi : Int} {k : Nat} (hk : k < zs.length) (h1 : inB zs[k] lo hi = false) : allB zs lo hi = false:=by
 unfold allB;rw [List.all_eq_false];exact ⟨zs[k],List.getElem_mem hk,by simp [h1]⟩
theorem allBetween_any (A : Option Addr) (n c : Nat) (zs : List Int) (lo hi : Int) (w : World) (hn : zs.length = n) (hm : n ≤ 9223372036854775807) (hr : Rd w 1 A n (zs.flatMap cI)) :
  Calls Try.prog 51 #[.slice A n c,.int .i64 lo,.int .i64 hi] w fun e w'=>e = .returned (.bool (allB zs lo hi)) ∧ w = w':=by
 subst hn
 go_enter Try.func51,Try.ntmps51
 go_wp2
 go_loop [11] (fun i=>∃ k : Nat,k ≤ zs.length ∧ i = .int .i64 k ∧ Hid (allB (zs.take k) lo hi = true)) (fun i=>zs.length - (intOf i).toNat)
 case atStart=>exact ⟨0,Nat.zero_le _,rfl,rfl⟩
 case round =>
  obtain ⟨k,hk,rfl,hall⟩:=hrel;by_cases hlt : k < zs.length
  ·obtain ⟨b,o,rfl,hb,hc⟩:=hr.int rfl hlt;cases hin : inB zs[k] lo hi
   ·have hf:=Lib.hid (allB_fail hlt hin)
    go_wp2_with (go_at_call 43; refine (Bu _ _ _ _).mono ?_; rintro e w' ⟨rfl,rfl⟩)
    go_ret
    exact ⟨Cz hf.out.symm,rfl⟩
   ·have hnext:=Lib.hid (allB_take hlt hall.out hin)
    go_wp2_with (go_at_call 43; refine (Bu _ _ _ _).mono ?_; rintro e w' ⟨rfl,rfl⟩)
    go_round
    case rel=>exact ⟨k + 1,by omega,by go_num,hnext.out⟩
    case measure=>simp [intOf]; omega
  ·obtain rfl : k = zs.length:=by omega
   have hf:=Lib.hid (show allB zs lo hi = true by have:=hall.out; rwa [List.take_length] at this)
   go_wp2
   go_ret
   exact ⟨Cz hf.out.symm,rfl⟩
end Go.Proofs.Ytoccapmoehdohaa
