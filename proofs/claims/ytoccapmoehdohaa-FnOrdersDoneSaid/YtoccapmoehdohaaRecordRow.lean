/- Rows of Records: contracts of the statements' helpers. Written by a program of ours (rows.py). No condition. -/
import Derived.Test.YtoccapmoehdohaaBase
import Derived.Test.YtoccapmoehdohaaOpen
import Derived.Test.YtoccapmoehdohaaAppend
import Derived.Test.YtoccapmoehdohaaRec
namespace Go.Proofs.Ytoccapmoehdohaa
open Go.RowKit
structure Av where
 f0 : Int
 f1 : Int
 f2 : Int
 f3 : List UInt8
instance : Inhabited Av:=⟨⟨0,0,0,[]⟩⟩
def Bo (r : Av) : List Value:=[.int .i64 r.f0,.int .i64 r.f1,.int .i64 r.f2,.string ⟨r.f3.toArray⟩]
theorem Bs (r : Av) : (Bo r).length = 4:=rfl
theorem cRecord_one (r : Av) : ∀ u ∈ Bo r,u.oneCell' = true:=by intro u hu; simp only [Bo,List.mem_cons,List.not_mem_nil,or_false] at hu; rcases hu with rfl | rfl | rfl | rfl <;> rfl
theorem infoRecord : (Try.prog.info? 47).map (fun i=>(i.zero,i.size,i.bytes)) = some (some (.agg #[.int .i64 0,.int .i64 0,.int .i64 0,.string ⟨#[]⟩]),4,40):=by kernel_rfl
theorem flatRecord_one (zs : List Av) : ∀ u ∈ zs.flatMap Bo,u.oneCell' = true:=by
 intro u hu;obtain ⟨r,_,hr⟩:=List.mem_flatMap.1 hu;exact cRecord_one r u hr
theorem cloneRecord_any (A : Option Addr) (n c : Nat) (zs : List Av) (w : World) (hn : zs.length = n) (hm : n ≤ 1048577) (hr : Rd w 4 A n (zs.flatMap Bo)) :
  Calls Try.prog 109 #[.slice A n c] w fun e w'=>∃ A' c',e = .returned (.slice A' n c') ∧ w'.ownsRow w.heap.size 47 4 (.slice A' n c') n (zs.flatMap Bo) ∧ Below w.heap.size w w':=by
 have q : ∀ (w : World) (a : Option Addr) (n c n' c' : Nat),(binOp .eql 28 (.slice a n c) (.slice none n' c')).run Try.prog w = .ok (.bool a.isNone) w:=fun w a n c n' c'=>Lib.run_eql_slice_nil w _ _ a n c n' c' Try.underlying28
 subst hn;cases A with
 | none =>
  obtain rfl : zs = []:=by
   cases zs with
   | nil=>rfl
   | cons z l =>
    obtain ⟨b,o,h0,_⟩:=hr.2 (by simp);cases h0
  go_enter Try.func109,Try.ntmps109
  go_wp2
  go_ret
  exact ⟨none,0,rfl,World.ownsRow_nil _ _ _ _,Below.refl _ _⟩
 | some ad =>
  go_enter Try.func109,Try.ntmps109
  go_wp2_with (at_builtin; refine wpList_copy _ rfl (.tmp 5) (.tmp 6) 28 rfl 47 (.agg #[.int .i64 0,.int .i64 0,.int .i64 0,.string ⟨#[]⟩]) 4 40 Try.underlying28 infoRecord rfl (by decide) w.heap.size _ 0 0 [] rfl (World.ownsRow_made w #[] 0 (Nat.le_refl _) (Nat.zero_le _) rfl) (some ad) zs.length c (zs.flatMap Bo) rfl (fun h=>by cases h) (hr.alloc _) (flatRecord_one zs) (by omega) (by simp) ?_; intro A1 c1 w1 hown1 _ hB1)
  simp only [Nat.zero_add,List.nil_append] at hown1
  go_wp2
  go_ret
  exact ⟨A1,c1,by simp,hown1,((Below.refl _ _).alloc (Nat.le_refl _) _).trans hB1⟩
end Go.Proofs.Ytoccapmoehdohaa
