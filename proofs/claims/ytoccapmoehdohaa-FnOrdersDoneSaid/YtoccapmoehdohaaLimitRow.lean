/- Rows of Limits: contracts of the statements' helpers. Written by a program of ours (rows.py). No condition. -/
import Derived.Test.YtoccapmoehdohaaBase
import Derived.Test.YtoccapmoehdohaaOpen
import Derived.Test.YtoccapmoehdohaaAppend
namespace Go.Proofs.Ytoccapmoehdohaa
open Go.RowKit
structure Dv where
 f0 : Int
 f1 : Int
 f2 : Int
instance : Inhabited Dv:=⟨⟨0,0,0⟩⟩
def Cd (r : Dv) : List Value:=[.int .i64 r.f0,.int .i64 r.f1,.int .i64 r.f2]
theorem Cl (r : Dv) : (Cd r).length = 3:=rfl
theorem cLimit_one (r : Dv) : ∀ u ∈ Cd r,u.oneCell' = true:=by intro u hu; simp only [Cd,List.mem_cons,List.not_mem_nil,or_false] at hu; rcases hu with rfl | rfl | rfl <;> rfl
theorem infoLimit : (Try.prog.info? 36).map (fun i=>(i.zero,i.size,i.bytes)) = some (some (.agg #[.int .i64 0,.int .i64 0,.int .i64 0]),3,24):=by kernel_rfl
theorem flatLimit_one (zs : List Dv) : ∀ u ∈ zs.flatMap Cd,u.oneCell' = true:=by
 intro u hu;obtain ⟨r,_,hr⟩:=List.mem_flatMap.1 hu;exact cLimit_one r u hr
theorem cloneLimit_any (A : Option Addr) (n c : Nat) (zs : List Dv) (w : World) (hn : zs.length = n) (hm : n ≤ 1048577) (hr : Rd w 3 A n (zs.flatMap Cd)) :
  Calls Try.prog 39 #[.slice A n c] w fun e w'=>∃ A' c',e = .returned (.slice A' n c') ∧ w'.ownsRow w.heap.size 36 3 (.slice A' n c') n (zs.flatMap Cd) ∧ Below w.heap.size w w':=by
 have q : ∀ (w : World) (a : Option Addr) (n c n' c' : Nat),(binOp .eql 25 (.slice a n c) (.slice none n' c')).run Try.prog w = .ok (.bool a.isNone) w:=fun w a n c n' c'=>Lib.run_eql_slice_nil w _ _ a n c n' c' Try.underlying25
 subst hn;cases A with
 | none =>
  obtain rfl : zs = []:=by
   cases zs with
   | nil=>rfl
   | cons z l =>
    obtain ⟨b,o,h0,_⟩:=hr.2 (by simp);cases h0
  go_enter Try.func39,Try.ntmps39
  go_wp2
  go_ret
  exact ⟨none,0,rfl,World.ownsRow_nil _ _ _ _,Below.refl _ _⟩
 | some ad =>
  go_enter Try.func39,Try.ntmps39
  go_wp2_with (at_builtin; refine wpList_copy _ rfl (.tmp 5) (.tmp 6) 25 rfl 36 (.agg #[.int .i64 0,.int .i64 0,.int .i64 0]) 3 24 Try.underlying25 infoLimit rfl (by decide) w.heap.size _ 0 0 [] rfl (World.ownsRow_made w #[] 0 (Nat.le_refl _) (Nat.zero_le _) rfl) (some ad) zs.length c (zs.flatMap Cd) rfl (fun h=>by cases h) (hr.alloc _) (flatLimit_one zs) (by omega) (by simp) ?_; intro A1 c1 w1 hown1 _ hB1)
  simp only [Nat.zero_add,List.nil_append] at hown1
  go_wp2
  go_ret
  exact ⟨A1,c1,by simp,hown1,((Below.refl _ _).alloc (Nat.le_refl _) _).trans hB1⟩
end Go.Proofs.Ytoccapmoehdohaa
