/- An argument that is a recorder: opened, its size, its copy, equality of equal ones. No condition. -/
import Derived.Test.YtoccapmoehdohaaRecordRow
import Derived.Test.YtoccapmoehdohaaInts
import Derived.Test.YtoccapmoehdohaaAppend
namespace Go.Proofs.Ytoccapmoehdohaa
open Go.RowKit Go.ChangeShapes
theorem open_Recorder {H : Type} {enc : TypeId × Value → H} {w : World} {held : Bool} {fuel : Nat} {cs : List Value} {x : DataW H × List MemPlace}
  (h : DataW.trod enc Try.prog w 0 (fun _=>true) held fuel 60 cs = some x) :
  ∃ (a : Int) (A : Option Addr) (n cp : Nat) (rs : List Aw) (B : Option Addr) (m dp : Nat) (ds : List Int),cs = [.int .i64 a,.slice A n cp,.slice B m dp] ∧ I64 a ∧ (rs.length = n ∧ n ≤ cp ∧ cp ≤ maxLen ∧ Rd w 4 A n (rs.flatMap Ax) ∧ ∀ r ∈ rs,wfRecord r) ∧ (ds.length = m ∧ m ≤ dp ∧ dp ≤ maxLen ∧ Rd w 1 B m (ds.flatMap cI) ∧ ∀ r ∈ ds,I64 r):=by
 obtain ⟨hlen,m,hf⟩:=Fd Try.underlying60 h;have hC : Try.prog.cellsOf 60 = 3:=by kernel_rfl
 rw [hC] at hlen;obtain ⟨y0,e0⟩:=hf 0 3 0 1 (by kernel_rfl);obtain ⟨y1,e1⟩:=hf 1 58 1 1 (by kernel_rfl);obtain ⟨y2,e2⟩:=hf 2 24 2 1 (by kernel_rfl)
 match cs,hlen with
 | [c0,c1,c2],_ =>
  obtain ⟨a,ea,wa⟩:=Er Try.underlying3 e0;obtain ⟨A,n,cp,rs,eb,hn,hnc,hcm,hr,hwf⟩:=En Ax wfRecord 4 Be Try.underlying58 (by kernel_rfl) (by decide) (fun _ _ _ hh=>el_Record hh) e1;obtain ⟨B,n',cp',ds,ec,hn',hnc',hcm',hr',hwf'⟩:=En cI I64 1 Fo Try.underlying24 (by kernel_rfl) (by decide) (fun _ _ _ hh=>Er Try.underlying3 hh) e2;simp [cI] at ea eb ec;subst ea eb ec;exact ⟨a,A,n,cp,rs,B,n',cp',ds,rfl,wa,⟨hn,hnc,hcm,hr,hwf⟩,⟨hn',hnc',hcm',hr',hwf'⟩⟩
theorem szRecorder_any (a : Int) (A B : Option Addr) (n cp m dp : Nat) (zs : List Aw) (left : Int) (w : World) (hn : zs.length = n) (hm : n ≤ 9223372036854775807) (hm' : m ≤ 9223372036854775807) (h0 : 0 ≤ left) (h1 : left ≤ 1048576) (hT : ∀ z ∈ zs,Txt z.f3) (hr : Rd w 4 A n (zs.flatMap Ax)) :
  Calls Try.prog 57 #[.agg #[.int .i64 a,.slice A n cp,.slice B m dp],.int .i64 left] w fun e w'=>∃ q : Int,e = .returned (.int .i64 q) ∧ -1 ≤ q ∧ q ≤ left ∧ (0 ≤ q → n ≤ 1048576 ∧ m ≤ 1048576) ∧ Below w.heap.size w w':=by
 go_enter Try.func57,Try.ntmps57
 go_wp2_with fail
 refine (szRecordS_any _ _ _ zs _ _ hn hm (by omega) (by omega) hT (hr.alloc _)).mono ?_;rintro e w1 ⟨q,rfl,hq0,hq1,hq2,hb1⟩;obtain ⟨hc,hf⟩:=bcell hb1;have hB:=((Below.refl _ _).alloc (Nat.le_refl _) _).trans (hb1.mono (by simp));by_cases hq : q < 0
 ·go_wp2
  go_ret
  exact ⟨-1,rfl,by omega,by omega,by omega,hB⟩
 ·skip
  go_wp2_with fail
  refine (szIntS_any _ _ _ _ _ hm' (by omega) (by omega)).mono ?_;rintro e w2 ⟨q',rfl,hx0,hx1,hx2,rfl⟩;by_cases hq' : q' < 0
  ·go_wp2
   go_ret
   exact ⟨-1,rfl,by omega,by omega,by omega,hB⟩
  ·go_wp2
   go_ret
   exact ⟨q',rfl,hx0,by omega,fun hh=>⟨hq2 (by omega),hx2 hh⟩,hB⟩
theorem toRecorder_any (a : Int) (A B : Option Addr) (n cp m dp : Nat) (zs : List Aw) (ds : List Int) (w : World) (hn : zs.length = n) (hm : n ≤ 1048576) (hr : Rd w 4 A n (zs.flatMap Ax)) (hn' : ds.length = m) (hm' : m ≤ 1048576) (hr' : Rd w 1 B m (ds.flatMap cI)) :
  Calls Try.prog 64 #[.agg #[.int .i64 a,.slice A n cp,.slice B m dp]] w fun e w'=>∃ g g',e = .returned (.agg #[.int .i64 a,.slice (some ⟨g,0,none⟩) n n,.slice (some ⟨g',0,none⟩) m m]) ∧ w'.ownsRow w.heap.size 47 4 (.slice (some ⟨g,0,none⟩) n n) n (zs.flatMap Ax) ∧ w'.ownsRow w.heap.size 3 1 (.slice (some ⟨g',0,none⟩) m m) m (ds.flatMap cI) ∧ g < g' ∧ Below w.heap.size w w':=by
 go_enter Try.func64,Try.ntmps64
 go_wp2_with fail
 refine (toRecordS_any _ _ _ zs _ hn hm (((hr.alloc _).alloc _).alloc _)).mono ?_;rintro e w1 ⟨g,rfl,hown1,hb1⟩;obtain ⟨hc,hf⟩:=bcell hb1;have hz:=hb1.size;simp only [World.size_alloc] at hz hown1;have hl0 : w.heap.size < w1.heap.size:=by omega
 have hl1 : w.heap.size + 1 < w1.heap.size:=by omega
 have hl2 : w.heap.size + 1 + 1 < w1.heap.size:=by omega
 have hB1 : Below w.heap.size w w1:=((((Below.refl _ _).alloc (Nat.le_refl _) _).alloc (by simp) _).alloc (by simp; omega) _).trans (hb1.mono (by simp; omega));have hg1:=own_lt hown1
 go_wp2_with fail
 refine (toIntS_any _ _ _ ds _ hn' hm' (hr'.below (hB1.setCell (by simp <;> omega) _))).mono ?_;rintro e w2 ⟨g',rfl,hown2,hb2⟩;obtain ⟨hc2,hf2⟩:=bcell hb2;have hz2:=hb2.size;simp only [World.size_setCell] at hz2 hown2;have n1 : w.heap.size + 1 < w2.heap.size:=by omega
 have n2 : w.heap.size + 1 + 1 < w2.heap.size:=by omega
 have hne1 : (some (⟨g,0,none⟩ : Addr)).map (·.block) ≠ some (w.heap.size + 1 + 1):=fun e=>by have:=Cq hown1 _ e; omega
 have hown1':=Ad (own_setCell hown1 ⟨w.heap.size + 1 + 1,1,none⟩ (.slice (some ⟨g,0,none⟩) n n) hne1) hb2;have hg2:=own_lt hown2;have e0 : w1.cell? ⟨w.heap.size + 1 + 1,0,none⟩ = some (.int .i64 a):=by simp [hc,go_sem]
 have e1 : w1.cell? ⟨w.heap.size + 1 + 1,1,none⟩ = some (.slice none 0 0):=by simp [hc,go_sem]
 have e2 : w1.cell? ⟨w.heap.size + 1 + 1,2,none⟩ = some (.slice none 0 0):=by simp [hc,go_sem]
 have d0 : w1.cell? ⟨w.heap.size + 1,0,none⟩ = some (.int .i64 0):=by simp [hc,go_sem]
 have d1 : w1.cell? ⟨w.heap.size + 1,1,none⟩ = some (.slice none 0 0):=by simp [hc,go_sem]
 have d2 : w1.cell? ⟨w.heap.size + 1,2,none⟩ = some (.slice none 0 0):=by simp [hc,go_sem]
 have z0 : w2.cell? ⟨w.heap.size + 1 + 1,0,none⟩ = some (.int .i64 a):=by simp [hc2,go_sem,hl2,e0]
 have z1 : w2.cell? ⟨w.heap.size + 1 + 1,1,none⟩ = some (.slice (some ⟨g,0,none⟩) n n):=by simp [hc2,go_sem,hl2,e1]
 have z2 : w2.cell? ⟨w.heap.size + 1 + 1,2,none⟩ = some (.slice none 0 0):=by simp [hc2,go_sem,hl2,e2]
 have y0 : w2.cell? ⟨w.heap.size + 1,0,none⟩ = some (.int .i64 0):=by simp [hc2,go_sem,hl1,d0]
 have y1 : w2.cell? ⟨w.heap.size + 1,1,none⟩ = some (.slice none 0 0):=by simp [hc2,go_sem,hl1,d1]
 have y2 : w2.cell? ⟨w.heap.size + 1,2,none⟩ = some (.slice none 0 0):=by simp [hc2,go_sem,hl1,d2]
 have f1 : ∀ o,w2.frozen? ⟨w.heap.size + 1,o,none⟩ = false:=fun o=>by simp [hf2,hf,go_sem,hl1] <;> omega
 have f2 : ∀ o,w2.frozen? ⟨w.heap.size + 1 + 1,o,none⟩ = false:=fun o=>by simp [hf2,hf,go_sem,hl2] <;> omega
 have hB2 : Below w.heap.size w w2:=(hB1.setCell (by simp <;> omega) _).trans (hb2.mono (by simp; omega));clear hc hf hc2 hf2 hb1 hb2 e0 e1 e2 d0 d1 d2
 go_wp2
 refine bodyPost_ret (v:=.agg #[.int .i64 a,.slice (some ⟨g,0,none⟩) n n,.slice (some ⟨g',0,none⟩) m m]) (by simp [results,Try.results64,go_sem,↓cell_some,y0,y1,y2]) rfl ⟨g,g',rfl,?_,?_,by omega,?_⟩
 ·refine As (base':=w.heap.size + 1 + 1 + 1) ?_ (by omega)
  repeat refine ownsRow_setCell_below ?_ (by simp <;> omega) _
  exact hown1'
 ·refine As (base':=w1.heap.size) ?_ (by omega)
  repeat refine ownsRow_setCell_below ?_ (by simp <;> omega) _
  exact hown2
 ·repeat refine Below.setCell ?_ (by simp <;> omega) _
  exact hB2
theorem eqRecorder_same (a : Int) (A B A' B' : Option Addr) (n n' cp cp' m m' dp dp' : Nat) (zs : List Aw) (ds : List Int) (w : World) (hn : zs.length = n) (hn2 : zs.length = n') (hb : n ≤ 1048577) (hm : ds.length = m) (hm2 : ds.length = m') (hbm : m ≤ 1048577)
  (hr : Rd w 4 A n (zs.flatMap Ax)) (hs : Rd w 4 A' n' (zs.flatMap Ax)) (hr' : Rd w 1 B m (ds.flatMap cI)) (hs' : Rd w 1 B' m' (ds.flatMap cI)) :
  Calls Try.prog 68 #[.agg #[.int .i64 a,.slice A n cp,.slice B m dp],.agg #[.int .i64 a,.slice A' n' cp',.slice B' m' dp']] w fun e w'=>e = .returned (.bool true) ∧ Below w.heap.size w w':=by
 go_enter Try.func68,Try.ntmps68
 go_wp2_with fail
 refine (eqRecordS_same _ _ _ _ _ _ zs _ hn hn2 (by omega) ((hr.alloc _).alloc _) ((hs.alloc _).alloc _)).mono ?_;rintro e w1 ⟨rfl,hb1⟩;obtain ⟨hc,hf⟩:=bcell hb1;have hz:=hb1.size;simp only [World.size_alloc] at hz;have hl0 : w.heap.size < w1.heap.size:=by omega
 have hl1 : w.heap.size + 1 < w1.heap.size:=by omega
 have hB1 : Below w.heap.size w w1:=(((Below.refl _ _).alloc (Nat.le_refl _) _).alloc (by simp) _).trans (hb1.mono (by simp; omega))
 go_wp2_with fail
 refine (eqIntS_any _ _ _ _ _ _ ds ds _ hm hm2 (by omega) (by omega) (hr'.below hB1) (hs'.below hB1)).mono ?_;rintro e w2 ⟨rfl,hb2⟩;have hd:=Lib.hid (show decide (ds = ds) = true from decide_eq_true rfl);rw [hd.out]
 go_wp2
 go_ret
 exact ⟨rfl,Cb hB1 hb2⟩
end Go.Proofs.Ytoccapmoehdohaa
