/- Contracts: copies of a recorder, in the program and in the reference. No condition. -/
import Derived.Test.YtoccapmoehdohaaBase
import Derived.Test.YtoccapmoehdohaaOpen
import Derived.Test.YtoccapmoehdohaaAppend
import Derived.Test.YtoccapmoehdohaaRecordRow
namespace Go.Proofs.Ytoccapmoehdohaa
open Go.RowKit
theorem Fc (zs : List Int) : ∀ u ∈ zs.flatMap cI,u.oneCell' = true:=by
 intro u hu;obtain ⟨r,_,hr⟩:=List.mem_flatMap.1 hu;rw [List.mem_singleton.1 hr]
 rfl
theorem cloneI_any (A : Option Addr) (n c : Nat) (zs : List Int) (w : World) (hn : zs.length = n) (hm : n ≤ 1048577) (hr : Rd w 1 A n (zs.flatMap cI)) :
  Calls Try.prog 84 #[.slice A n c] w fun e w'=>∃ A' c',e = .returned (.slice A' n c') ∧ w'.ownsRow w.heap.size 3 1 (.slice A' n c') n (zs.flatMap cI) ∧ Below w.heap.size w w':=by
 have q : ∀ (w : World) (a : Option Addr) (n c n' c' : Nat),(binOp .eql 24 (.slice a n c) (.slice none n' c')).run Try.prog w = .ok (.bool a.isNone) w:=fun w a n c n' c'=>Lib.run_eql_slice_nil w _ _ a n c n' c' Try.underlying24
 subst hn;cases A with
 | none =>
  obtain rfl : zs = []:=by
   cases zs with
   | nil=>rfl
   | cons z l =>
    obtain ⟨b,o,h0,_⟩:=hr.2 (by simp);cases h0
  go_enter Try.func84,Try.ntmps84
  go_wp2
  go_ret
  exact ⟨none,0,rfl,World.ownsRow_nil _ _ _ _,Below.refl _ _⟩
 | some ad =>
  go_enter Try.func84,Try.ntmps84
  go_wp2_with (at_builtin; refine wpList_copy _ rfl (.tmp 5) (.tmp 6) 24 rfl 3 (.int .i64 0) 1 8 Try.underlying24 infoI64 rfl (by decide) w.heap.size _ 0 0 [] rfl (World.ownsRow_made w #[] 0 (Nat.le_refl _) (Nat.zero_le _) rfl) (some ad) zs.length c (zs.flatMap cI) rfl (fun h=>by cases h) (hr.alloc _) (Fc zs) (by omega) (by simp) ?_; intro A1 c1 w1 hown1 _ hB1)
  simp only [Nat.zero_add,List.nil_append] at hown1
  go_wp2
  go_ret
  exact ⟨A1,c1,by simp,hown1,((Below.refl _ _).alloc (Nat.le_refl _) _).trans hB1⟩
end Go.Proofs.Ytoccapmoehdohaa
namespace Go.Proofs.Ytoccapmoehdohaa
open Go.RowKit
theorem Dd (a : Int) (A B : Option Addr) (n cp m dp : Nat) (zs : List Av) (ds : List Int) (w : World) (hn : zs.length = n) (hm : n ≤ 1048577) (hr : Rd w 4 A n (zs.flatMap Bo)) (hn' : ds.length = m) (hm' : m ≤ 1048577) (hr' : Rd w 1 B m (ds.flatMap cI)) :
  Calls Try.prog 87 #[.agg #[.int .i64 a,.slice A n cp,.slice B m dp]] w fun e w'=>∃ A' c' B' d',e = .returned (.agg #[.int .i64 a,.slice A' n c',.slice B' m d']) ∧ w'.ownsRow w.heap.size 47 4 (.slice A' n c') n (zs.flatMap Bo) ∧ w'.ownsRow w.heap.size 3 1 (.slice B' m d') m (ds.flatMap cI) ∧ Below w.heap.size w w':=by
 go_enter Try.func87,Try.ntmps87
 go_wp2_with fail
 refine (cloneRecord_any _ _ _ zs _ hn hm ((hr.alloc _).alloc _)).mono ?_;rintro e w1 ⟨A1,c1,rfl,hown1,hb1⟩;obtain ⟨hc,hf⟩:=bcell hb1;have hz:=hb1.size;simp only [World.size_alloc] at hz hown1;have hl0 : w.heap.size < w1.heap.size:=by omega
 have hl1 : w.heap.size + 1 < w1.heap.size:=by omega
 have hB1 : Below w.heap.size w w1:=(((Below.refl _ _).alloc (Nat.le_refl _) _).alloc (by simp) _).trans (hb1.mono (by simp; omega));have hA1:=Cu hown1;have e0 : w1.cell? ⟨w.heap.size,0,none⟩ = some (.int .i64 a):=by simp [hc,go_sem]
 have e1 : w1.cell? ⟨w.heap.size,1,none⟩ = some (.slice A n cp):=by simp [hc,go_sem]
 have e2 : w1.cell? ⟨w.heap.size,2,none⟩ = some (.slice B m dp):=by simp [hc,go_sem]
 have d0 : w1.cell? ⟨w.heap.size + 1,0,none⟩ = some (.int .i64 0):=by simp [hc,go_sem]
 have d1 : w1.cell? ⟨w.heap.size + 1,1,none⟩ = some (.slice none 0 0):=by simp [hc,go_sem]
 have d2 : w1.cell? ⟨w.heap.size + 1,2,none⟩ = some (.slice none 0 0):=by simp [hc,go_sem]
 have f1 : ∀ o,w1.frozen? ⟨w.heap.size,o,none⟩ = false:=fun o=>by simp [hf,go_sem] <;> omega
 have f2 : ∀ o,w1.frozen? ⟨w.heap.size + 1,o,none⟩ = false:=fun o=>by simp [hf,go_sem] <;> omega
 have hne1 : A1.map (·.block) ≠ some w.heap.size:=fun e=>by have:=hA1 _ e; omega
 have hBs:=hB1.setCell (p:=⟨w.heap.size,1,none⟩) (by simp) (.slice A1 n c1);have hownS:=own_setCell hown1 ⟨w.heap.size,1,none⟩ (.slice A1 n c1) hne1;clear hc hf hb1 hown1
 go_wp2_with fail
 refine (cloneI_any _ _ _ ds _ hn' hm' (hr'.below hBs)).mono ?_;rintro e w2 ⟨B1,d1',rfl,hown2,hb2⟩;obtain ⟨hc2,hf2⟩:=bcell hb2;have hz2:=hb2.size;simp only [World.size_setCell] at hz2 hown2;have n1 : w.heap.size < w2.heap.size:=by omega
 have n2 : w.heap.size + 1 < w2.heap.size:=by omega
 have hown1':=Ac hownS hb2;have z0 : w2.cell? ⟨w.heap.size,0,none⟩ = some (.int .i64 a):=by simp [hc2,go_sem,hl0,e0]
 have z1 : w2.cell? ⟨w.heap.size,1,none⟩ = some (.slice A1 n c1):=by simp [hc2,go_sem,hl0,e1]
 have z2 : w2.cell? ⟨w.heap.size,2,none⟩ = some (.slice B m dp):=by simp [hc2,go_sem,hl0,e2]
 have y0 : w2.cell? ⟨w.heap.size + 1,0,none⟩ = some (.int .i64 0):=by simp [hc2,go_sem,hl1,d0]
 have y1 : w2.cell? ⟨w.heap.size + 1,1,none⟩ = some (.slice none 0 0):=by simp [hc2,go_sem,hl1,d1]
 have y2 : w2.cell? ⟨w.heap.size + 1,2,none⟩ = some (.slice none 0 0):=by simp [hc2,go_sem,hl1,d2]
 have g1 : ∀ o,w2.frozen? ⟨w.heap.size,o,none⟩ = false:=fun o=>by simp [hf2,go_sem,hl0,f1]
 have g2 : ∀ o,w2.frozen? ⟨w.heap.size + 1,o,none⟩ = false:=fun o=>by simp [hf2,go_sem,hl1,f2]
 have hB2 : Below w.heap.size w w2:=hBs.trans (hb2.mono (by simp; omega));clear hc2 hf2 hb2 e0 e1 e2 d0 d1 d2 f1 f2 hownS
 go_wp2
 refine bodyPost_ret (v:=.agg #[.int .i64 a,.slice A1 n c1,.slice B1 m d1']) (by simp [results,Try.results87,go_sem,↓cell_some,y0,y1,y2]) rfl ⟨A1,c1,B1,d1',rfl,?_,?_,?_⟩
 ·refine Ai (base':=w.heap.size + 1 + 1) ?_ (by omega)
  repeat refine ownsRow_setCell_below ?_ (by simp <;> omega) _
  exact hown1'
 ·refine Ai (base':=w1.heap.size) ?_ (by omega)
  repeat refine ownsRow_setCell_below ?_ (by simp <;> omega) _
  exact hown2
 ·repeat refine Below.setCell ?_ (by simp <;> omega) _
  exact hB2
end Go.Proofs.Ytoccapmoehdohaa
