/- Rows of Waitings: contracts of the statements' helpers. Written by a program of ours (rows.py). No condition. -/
import Derived.Test.YtoccapmoehdohaaBase
import Derived.Test.YtoccapmoehdohaaOpen
import Derived.Test.YtoccapmoehdohaaAppend
import Derived.Test.YtoccapmoehdohaaWtEl
namespace Go.Proofs.Ytoccapmoehdohaa
open Go.RowKit _root_.Go.Proofs.Try
structure Az where
 f0 : Int
 f1 : Int
 f2 : Int
 f3 : Int
 f4 : Int
instance : Inhabited Az:=⟨⟨0,0,0,0,0⟩⟩
def Ax (r : Az) : List Value:=[.int .i64 r.f0,.int .i64 r.f1,.int .i64 r.f2,.int .i64 r.f3,.int .i64 r.f4]
theorem Ay (r : Az) : (Ax r).length = 5:=rfl
theorem cWaiting_one (r : Az) : ∀ u ∈ Ax r,u.oneCell' = true:=by intro u hu; simp only [Ax,List.mem_cons,List.not_mem_nil,or_false] at hu; rcases hu with rfl | rfl | rfl | rfl | rfl <;> rfl
theorem infoWaiting : (Try.prog.info? 45).map (fun i=>(i.zero,i.size,i.bytes)) = some (some (.agg #[.int .i64 0,.int .i64 0,.int .i64 0,.int .i64 0,.int .i64 0]),5,40):=by kernel_rfl
theorem Eu (zs : List Az) : ∀ u ∈ zs.flatMap Ax,u.oneCell' = true:=by
 intro u hu;obtain ⟨r,_,hr⟩:=List.mem_flatMap.1 hu;exact cWaiting_one r u hr
theorem cloneWaiting_any (A : Option Addr) (n c : Nat) (zs : List Az) (w : World) (hn : zs.length = n) (hm : n ≤ 1048577) (hr : Rd w 5 A n (zs.flatMap Ax)) :
  Calls Try.prog 85 #[.slice A n c] w fun e w'=>∃ A' c',e = .returned (.slice A' n c') ∧ w'.ownsRow w.heap.size 45 5 (.slice A' n c') n (zs.flatMap Ax) ∧ Below w.heap.size w w':=by
 have q : ∀ (w : World) (a : Option Addr) (n c n' c' : Nat),(binOp .eql 26 (.slice a n c) (.slice none n' c')).run Try.prog w = .ok (.bool a.isNone) w:=fun w a n c n' c'=>Lib.run_eql_slice_nil w _ _ a n c n' c' underlying26
 subst hn;cases A with
 | none =>
  obtain rfl : zs = []:=by
   cases zs with
   | nil=>rfl
   | cons z l =>
    obtain ⟨b,o,h0,_⟩:=hr.2 (by simp);cases h0
  go_enter func85,Try.ntmps85
  go_wp2
  go_ret
  exact ⟨none,0,rfl,World.ownsRow_nil _ _ _ _,Below.refl _ _⟩
 | some ad =>
  go_enter func85,Try.ntmps85
  go_wp2_with (at_builtin; refine wpList_copy _ rfl (.tmp 5) (.tmp 6) 26 rfl 45 (.agg #[.int .i64 0,.int .i64 0,.int .i64 0,.int .i64 0,.int .i64 0]) 5 40 underlying26 infoWaiting rfl (by decide) w.heap.size _ 0 0 [] rfl (World.ownsRow_made w #[] 0 (Nat.le_refl _) (Nat.zero_le _) rfl) (some ad) zs.length c (zs.flatMap Ax) rfl (fun h=>by cases h) (hr.alloc _) (Eu zs) (by omega) (by simp) ?_; intro A1 c1 w1 hown1 _ hB1)
  simp only [Nat.zero_add,List.nil_append] at hown1
  go_wp2
  go_ret
  exact ⟨A1,c1,by simp,hown1,(Br.alloc (Nat.le_refl _) _).trans hB1⟩
end Go.Proofs.Ytoccapmoehdohaa
