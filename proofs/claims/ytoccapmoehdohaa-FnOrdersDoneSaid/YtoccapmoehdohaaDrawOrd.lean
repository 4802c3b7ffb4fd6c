/- Contracts of the draws of orders. No condition. -/
import Derived.Test.YtoccapmoehdohaaPick
import Derived.Test.YtoccapmoehdohaaOrd
namespace Go.Proofs.Ytoccapmoehdohaa
open Go.RowKit
theorem ord_mk {k t a b : Int} (hk : 0 ≤ k ∧ k ≤ 4) (ht : 0 ≤ t ∧ t ≤ 1000000) (hb : 0 ≤ b ∧ b ≤ 65535) (hb1 : k ≠ 0 → b = 0) (ha : 0 ≤ a ∧ a ≤ 255) (hak : (k = 0 → a ≤ 7) ∧ (k = 1 → a ≤ 3) ∧ (k = 2 → a ≤ 1) ∧ (k = 3 → a ≤ 7)) : Da k t a b = true:=by
 have ht' : topA k = (if k = 0 then 7 else if k = 1 then 3 else if k = 2 then 1 else if k = 3 then 7 else 255):=rfl;have hA : a ≤ topA k:=by
  rw [ht']
  repeat' split
  all_goals omega
 unfold Da;rw [Es hk.1 hk.2,Es ht.1 ht.2,Es ha.1 hA];by_cases h0 : k = 0
 ·rw [if_pos h0,Es hb.1 hb.2]; rfl
 ·rw [if_neg h0,hb1 h0]; rfl
set_option maxHeartbeats 8000000 in
theorem l05Order_any (g : Nat) (A : Option Addr) (n c : Nat) (zs : List UInt8) (now : Int) (w : World) (hw0 : 0 ≤ now) (hw1 : now ≤ 1000) (hn : zs.length = n) (hm : n ≤ 9223372036854775806) (hr : Rd w 1 A n (zs.flatMap cB)) (hne : 0 < n → ∀ b o,A = some ⟨b,o,none⟩ → b ≠ g) (hC : Cur w g A n c) :
  Calls Try.prog 50 #[.pointer (some ⟨g,0,none⟩),.int .i64 now] w fun e w'=>∃ k t a b : Int,e = .returned (.agg #[.int .i64 k,.int .i64 t,.int .i64 a,.int .i64 b]) ∧ Da k t a b = true ∧ now ≤ t ∧ t ≤ now + 11 ∧ a ≤ 11 ∧ Cur w' g A n c ∧ w.grownBy w' (some g):=by
 have hgl:=hC.lt;have HR0:=Lib.hid hr;have hq0 : w.heap.size ≠ g:=by omega
 have hq1 : w.heap.size + 1 ≠ g:=by omega
 go_enter Try.func50,Try.ntmps50
 go_wp2_with fail
 refine (l01PickInt_any g A n c zs (some ⟨w.heap.size + 1,0,none⟩) 8 8 [0,0,1,1,1,2,3,4] _ rfl (by omega) (by omega) (rd_litI _ _ (by simp) [0,0,1,1,1,2,3,4] _ _ 8 rfl) (fun b o e=>by cases e; exact hq1) hn hm ((hr.alloc _).alloc _) hne ((hC.allocs _).allocs _)).mono ?_;rintro e w1 ⟨k,rfl,hk,hC1,hg1⟩;have hz1 : w.heap.size + 2 ≤ w1.heap.size:=by have:=hg1.size; simp at this; omega
 have hb4 : w1.heap[w.heap.size]? = some (.cells #[.int .i64 0,.int .i64 0,.int .i64 0,.int .i64 0] 40 (0,0)):=Db hg1 (heap_alloc _ (heap_new _ _)) hq0;have hG1 : w.grownBy w1 (some g):=Ck (Dy (grown_refl _ _) (((Below.refl _ _).alloc (Nat.le_refl _) _).alloc (by simp) _)) hg1;clear hg1
 go_wp2_with fail
 refine (Dx g A n c zs 12 _ (by omega) (by omega) hn hm (rd_grown hr hG1 hne) hne hC1).mono ?_;rintro e w2 ⟨x,rfl,hx0,hx1,hC2,hg2⟩;have hz2:=hg2.size;have hb4:=Db hg2 hb4 hq0;have hG2:=Ck hG1 hg2;clear hg2 hC hC1 hG1;have hr2:=rd_grown hr hG2 hne;have hk' : k = 0 ∨ k = 1 ∨ k = 2 ∨ k = 3 ∨ k = 4:=by simp at hk; omega
 have hl2 : w.heap.size < w2.heap.size:=by omega
 have hq2 : w2.heap.size ≠ g:=by omega
 have hq3 : w2.heap.size + 1 ≠ g:=by omega
 have hAl : ∀ o,w.grownBy (w2.alloc o) (some g):=fun o=>Dy hG2 ((Below.refl _ _).alloc (by omega) o)
 have HAl:=Lib.hid hAl;have hC2a:=fun o=>hC2.allocs o
 have HCa:=Lib.hid hC2a;have HR2:=Lib.hid (fun o=>rd_grown hr (hAl o) hne);clear hk hAl hC2a hC2 hr hr2;rcases hk' with rfl | rfl | rfl | rfl | rfl
 ·skip
  go_wp2_with fail
  refine (Dx g A n c zs 8 _ (by omega) (by omega) hn hm (HR2.out _) hne (HCa.out _)).mono ?_;rintro e w3 ⟨a,rfl,ha0,ha1,hC3,hg3⟩;have hz3 : w2.heap.size + 1 ≤ w3.heap.size:=by have:=hg3.size; simp at this; omega
  have hb5:=Db hg3 (heap_new _ _) hq2;have hb4:=Db hg3 (heap_alloc _ hb4) hq0;have hG3:=Ck (HAl.out _) hg3;clear hg3;have z0 : (w3).cell? ⟨w.heap.size,0,none⟩ = some (.int .i64 0):=cell_of_row _ _ 0 _ _ _ hb4;have z1 : (w3).cell? ⟨w.heap.size,1,none⟩ = some (.int .i64 (0)):=cell_of_row _ _ 1 _ _ _ hb4;have z2 : (w3).cell? ⟨w.heap.size,2,none⟩ = some (.int .i64 0):=cell_of_row _ _ 2 _ _ _ hb4;have z3 : (w3).cell? ⟨w.heap.size,3,none⟩ = some (.int .i64 0):=cell_of_row _ _ 3 _ _ _ hb4;have z9:=Cx hb4;have y0 : (w3).cell? ⟨w2.heap.size,0,none⟩ = some (.int .i64 0):=cell_of_row _ _ 0 _ _ _ hb5;have y1 : (w3).cell? ⟨w2.heap.size,1,none⟩ = some (.int .i64 (now + x)):=cell_of_row _ _ 1 _ _ _ hb5;have y2 : (w3).cell? ⟨w2.heap.size,2,none⟩ = some (.int .i64 0):=cell_of_row _ _ 2 _ _ _ hb5;have y3 : (w3).cell? ⟨w2.heap.size,3,none⟩ = some (.int .i64 0):=cell_of_row _ _ 3 _ _ _ hb5;have y9:=Cx hb5;have hl4 : w.heap.size < w3.heap.size:=by omega
  have hl5 : w2.heap.size < w3.heap.size:=by omega
  have hP : w.grownBy ((w3.setCell ⟨w2.heap.size,2,none⟩ (.int .i64 a)).alloc (.cells #[.int .i64 0,.int .i64 5,.int .i64 300,.int .i64 65535] 3)) (some g):=Dy hG3 (((Below.refl _ _).setCell (by simp; omega) _).alloc (by simp; omega) _);have hCP:=hC3.under (((Below.refl w.heap.size w3).setCell (p:=⟨w2.heap.size,2,none⟩) (by simp; omega) (.int .i64 a)).alloc (by simp; omega) (.cells #[.int .i64 0,.int .i64 5,.int .i64 300,.int .i64 65535] 3)) hgl;have hrP:=rd_grown HR0.out hP hne;have HB5:=Lib.hid hb5;have HB4:=Lib.hid hb4;clear hb4 hb5
  go_wp2_with fail
  refine (l01PickInt_any g A n c zs (some ⟨w3.heap.size,0,none⟩) 4 4 [0,5,300,65535] _ rfl (by omega) (by omega) (rd_litI _ _ (by simp) [0,5,300,65535] _ _ 4 rfl) (fun b o e=>by cases e; omega) hn hm hrP hne hCP).mono ?_;rintro e w4 ⟨b,rfl,hb,hC4,hg4⟩;have hb' : b = 0 ∨ b = 5 ∨ b = 300 ∨ b = 65535:=by simp at hb; omega
  have hz4 : w3.heap.size + 1 ≤ w4.heap.size:=by have:=hg4.size; simp at this; omega
  have hb5:=Db hg4 (heap_alloc _ (Et HB5.out 2 (.int .i64 a))) hq2;have hb4:=Db hg4 (heap_alloc _ ((Below.heap_setCell w3 ⟨w2.heap.size,2,none⟩ (.int .i64 a) w.heap.size (by simp; omega)).trans HB4.out)) hq0;have hG4:=Ck hP hg4;clear z0 z1 z2 z3 z9 y0 y1 y2 y3 y9 hg4 hP hCP hb;have z0 : (w4).cell? ⟨w.heap.size,0,none⟩ = some (.int .i64 0):=cell_of_row _ _ 0 _ _ _ hb4;have z1 : (w4).cell? ⟨w.heap.size,1,none⟩ = some (.int .i64 (0)):=cell_of_row _ _ 1 _ _ _ hb4;have z2 : (w4).cell? ⟨w.heap.size,2,none⟩ = some (.int .i64 0):=cell_of_row _ _ 2 _ _ _ hb4;have z3 : (w4).cell? ⟨w.heap.size,3,none⟩ = some (.int .i64 0):=cell_of_row _ _ 3 _ _ _ hb4;have z9:=Cx hb4;have y0 : (w4).cell? ⟨w2.heap.size,0,none⟩ = some (.int .i64 0):=cell_of_row _ _ 0 _ _ _ hb5;have y1 : (w4).cell? ⟨w2.heap.size,1,none⟩ = some (.int .i64 (now + x)):=cell_of_row _ _ 1 _ _ _ hb5;have y2 : (w4).cell? ⟨w2.heap.size,2,none⟩ = some (.int .i64 a):=cell_of_row _ _ 2 _ _ _ hb5;have y3 : (w4).cell? ⟨w2.heap.size,3,none⟩ = some (.int .i64 0):=cell_of_row _ _ 3 _ _ _ hb5;have y9:=Cx hb5;have hl4 : w.heap.size < w4.heap.size:=by omega
  have hl5 : w2.heap.size < w4.heap.size:=by omega
  clear hb4 hb5
  go_wp2
  refine bodyPost_ret (v:=.agg #[.int .i64 0,.int .i64 (now + x),.int .i64 a,.int .i64 b]) (by simp [results,Try.results50,go_sem,↓cell_some,z0,z1,z2,z3]) rfl ⟨0,now + x,a,b,rfl,?_,by omega,by omega,by omega,?_,?_⟩
  ·exact ord_mk (by omega) (by omega) (by omega) (by omega) (by omega) (by omega)
  ·refine hC4.under (B:=w.heap.size) ?_ hgl
   repeat (first | exact Below.refl _ _ | refine Below.setCell ?_ (by simp <;> omega) _)
  ·refine Dy hG4 ?_
   repeat (first | exact Below.refl _ _ | refine Below.setCell ?_ (by simp <;> omega) _)
 ·skip
  go_wp2_with fail
  refine (Dx g A n c zs 4 _ (by omega) (by omega) hn hm (HR2.out _) hne (HCa.out _)).mono ?_;rintro e w3 ⟨a,rfl,ha0,ha1,hC3,hg3⟩;have hz3 : w2.heap.size + 1 ≤ w3.heap.size:=by have:=hg3.size; simp at this; omega
  have hb5:=Db hg3 (heap_new _ _) hq2;have hb4:=Db hg3 (heap_alloc _ hb4) hq0;have hG3:=Ck (HAl.out _) hg3;clear hg3;have z0 : (w3).cell? ⟨w.heap.size,0,none⟩ = some (.int .i64 0):=cell_of_row _ _ 0 _ _ _ hb4;have z1 : (w3).cell? ⟨w.heap.size,1,none⟩ = some (.int .i64 (0)):=cell_of_row _ _ 1 _ _ _ hb4;have z2 : (w3).cell? ⟨w.heap.size,2,none⟩ = some (.int .i64 0):=cell_of_row _ _ 2 _ _ _ hb4;have z3 : (w3).cell? ⟨w.heap.size,3,none⟩ = some (.int .i64 0):=cell_of_row _ _ 3 _ _ _ hb4;have z9:=Cx hb4;have y0 : (w3).cell? ⟨w2.heap.size,0,none⟩ = some (.int .i64 1):=cell_of_row _ _ 0 _ _ _ hb5;have y1 : (w3).cell? ⟨w2.heap.size,1,none⟩ = some (.int .i64 (now + x)):=cell_of_row _ _ 1 _ _ _ hb5;have y2 : (w3).cell? ⟨w2.heap.size,2,none⟩ = some (.int .i64 0):=cell_of_row _ _ 2 _ _ _ hb5;have y3 : (w3).cell? ⟨w2.heap.size,3,none⟩ = some (.int .i64 0):=cell_of_row _ _ 3 _ _ _ hb5;have y9:=Cx hb5;have hl4 : w.heap.size < w3.heap.size:=by omega
  have hl5 : w2.heap.size < w3.heap.size:=by omega
  clear hb4 hb5
  go_wp2
  refine bodyPost_ret (v:=.agg #[.int .i64 1,.int .i64 (now + x),.int .i64 a,.int .i64 0]) (by simp [results,Try.results50,go_sem,↓cell_some,z0,z1,z2,z3]) rfl ⟨1,now + x,a,0,rfl,?_,by omega,by omega,by omega,?_,?_⟩
  ·exact ord_mk (by omega) (by omega) (by omega) (by omega) (by omega) (by omega)
  ·refine hC3.under (B:=w.heap.size) ?_ hgl
   repeat (first | exact Below.refl _ _ | refine Below.setCell ?_ (by simp <;> omega) _)
  ·refine Dy hG3 ?_
   repeat (first | exact Below.refl _ _ | refine Below.setCell ?_ (by simp <;> omega) _)
 ·skip
  have hP : w.grownBy ((w2.alloc (.cells #[.int .i64 2,.int .i64 (now + x),.int .i64 0,.int .i64 0] 40)).alloc (.cells #[.int .i64 0,.int .i64 0,.int .i64 1] 3)) (some g):=Dy (HAl.out _) ((Below.refl _ _).alloc (by simp; omega) _)
  go_wp2_with fail
  refine (l01PickInt_any g A n c zs (some ⟨w2.heap.size + 1,0,none⟩) 3 3 [0,0,1] _ rfl (by omega) (by omega) (rd_litI _ _ (by simp) [0,0,1] _ _ 3 rfl) (fun b o e=>by cases e; exact hq3) hn hm ((HR2.out _).alloc _) hne ((HCa.out _).allocs _)).mono ?_;rintro e w3 ⟨a,rfl,ha,hC3,hg3⟩;have ha' : a = 0 ∨ a = 1:=by simp at ha; omega
  have hz3 : w2.heap.size + 2 ≤ w3.heap.size:=by have:=hg3.size; simp at this; omega
  have hb5:=Db hg3 (heap_alloc _ (heap_new _ _)) hq2;have hb4:=Db hg3 (heap_alloc _ (heap_alloc _ hb4)) hq0;have hG3:=Ck hP hg3;clear hg3 hP ha;have z0 : (w3).cell? ⟨w.heap.size,0,none⟩ = some (.int .i64 0):=cell_of_row _ _ 0 _ _ _ hb4;have z1 : (w3).cell? ⟨w.heap.size,1,none⟩ = some (.int .i64 (0)):=cell_of_row _ _ 1 _ _ _ hb4;have z2 : (w3).cell? ⟨w.heap.size,2,none⟩ = some (.int .i64 0):=cell_of_row _ _ 2 _ _ _ hb4;have z3 : (w3).cell? ⟨w.heap.size,3,none⟩ = some (.int .i64 0):=cell_of_row _ _ 3 _ _ _ hb4;have z9:=Cx hb4;have y0 : (w3).cell? ⟨w2.heap.size,0,none⟩ = some (.int .i64 2):=cell_of_row _ _ 0 _ _ _ hb5;have y1 : (w3).cell? ⟨w2.heap.size,1,none⟩ = some (.int .i64 (now + x)):=cell_of_row _ _ 1 _ _ _ hb5;have y2 : (w3).cell? ⟨w2.heap.size,2,none⟩ = some (.int .i64 0):=cell_of_row _ _ 2 _ _ _ hb5;have y3 : (w3).cell? ⟨w2.heap.size,3,none⟩ = some (.int .i64 0):=cell_of_row _ _ 3 _ _ _ hb5;have y9:=Cx hb5;have hl4 : w.heap.size < w3.heap.size:=by omega
  have hl5 : w2.heap.size < w3.heap.size:=by omega
  clear hb4 hb5
  go_wp2
  refine bodyPost_ret (v:=.agg #[.int .i64 2,.int .i64 (now + x),.int .i64 a,.int .i64 0]) (by simp [results,Try.results50,go_sem,↓cell_some,z0,z1,z2,z3]) rfl ⟨2,now + x,a,0,rfl,?_,by omega,by omega,by omega,?_,?_⟩
  ·exact ord_mk (by omega) (by omega) (by omega) (by omega) (by omega) (by omega)
  ·refine hC3.under (B:=w.heap.size) ?_ hgl
   repeat (first | exact Below.refl _ _ | refine Below.setCell ?_ (by simp <;> omega) _)
  ·refine Dy hG3 ?_
   repeat (first | exact Below.refl _ _ | refine Below.setCell ?_ (by simp <;> omega) _)
 ·skip
  go_wp2_with fail
  refine (Dx g A n c zs 8 _ (by omega) (by omega) hn hm (HR2.out _) hne (HCa.out _)).mono ?_;rintro e w3 ⟨a,rfl,ha0,ha1,hC3,hg3⟩;have hz3 : w2.heap.size + 1 ≤ w3.heap.size:=by have:=hg3.size; simp at this; omega
  have hb5:=Db hg3 (heap_new _ _) hq2;have hb4:=Db hg3 (heap_alloc _ hb4) hq0;have hG3:=Ck (HAl.out _) hg3;clear hg3;have z0 : (w3).cell? ⟨w.heap.size,0,none⟩ = some (.int .i64 0):=cell_of_row _ _ 0 _ _ _ hb4;have z1 : (w3).cell? ⟨w.heap.size,1,none⟩ = some (.int .i64 (0)):=cell_of_row _ _ 1 _ _ _ hb4;have z2 : (w3).cell? ⟨w.heap.size,2,none⟩ = some (.int .i64 0):=cell_of_row _ _ 2 _ _ _ hb4;have z3 : (w3).cell? ⟨w.heap.size,3,none⟩ = some (.int .i64 0):=cell_of_row _ _ 3 _ _ _ hb4;have z9:=Cx hb4;have y0 : (w3).cell? ⟨w2.heap.size,0,none⟩ = some (.int .i64 3):=cell_of_row _ _ 0 _ _ _ hb5;have y1 : (w3).cell? ⟨w2.heap.size,1,none⟩ = some (.int .i64 (now + x)):=cell_of_row _ _ 1 _ _ _ hb5;have y2 : (w3).cell? ⟨w2.heap.size,2,none⟩ = some (.int .i64 0):=cell_of_row _ _ 2 _ _ _ hb5;have y3 : (w3).cell? ⟨w2.heap.size,3,none⟩ = some (.int .i64 0):=cell_of_row _ _ 3 _ _ _ hb5;have y9:=Cx hb5;have hl4 : w.heap.size < w3.heap.size:=by omega
  have hl5 : w2.heap.size < w3.heap.size:=by omega
  clear hb4 hb5
  go_wp2
  refine bodyPost_ret (v:=.agg #[.int .i64 3,.int .i64 (now + x),.int .i64 a,.int .i64 0]) (by simp [results,Try.results50,go_sem,↓cell_some,z0,z1,z2,z3]) rfl ⟨3,now + x,a,0,rfl,?_,by omega,by omega,by omega,?_,?_⟩
  ·exact ord_mk (by omega) (by omega) (by omega) (by omega) (by omega) (by omega)
  ·refine hC3.under (B:=w.heap.size) ?_ hgl
   repeat (first | exact Below.refl _ _ | refine Below.setCell ?_ (by simp <;> omega) _)
  ·refine Dy hG3 ?_
   repeat (first | exact Below.refl _ _ | refine Below.setCell ?_ (by simp <;> omega) _)
 ·skip
  go_wp2_with fail
  refine (Dx g A n c zs 12 _ (by omega) (by omega) hn hm (HR2.out _) hne (HCa.out _)).mono ?_;rintro e w3 ⟨a,rfl,ha0,ha1,hC3,hg3⟩;have hz3 : w2.heap.size + 1 ≤ w3.heap.size:=by have:=hg3.size; simp at this; omega
  have hb5:=Db hg3 (heap_new _ _) hq2;have hb4:=Db hg3 (heap_alloc _ hb4) hq0;have hG3:=Ck (HAl.out _) hg3;clear hg3;have z0 : (w3).cell? ⟨w.heap.size,0,none⟩ = some (.int .i64 0):=cell_of_row _ _ 0 _ _ _ hb4;have z1 : (w3).cell? ⟨w.heap.size,1,none⟩ = some (.int .i64 (0)):=cell_of_row _ _ 1 _ _ _ hb4;have z2 : (w3).cell? ⟨w.heap.size,2,none⟩ = some (.int .i64 0):=cell_of_row _ _ 2 _ _ _ hb4;have z3 : (w3).cell? ⟨w.heap.size,3,none⟩ = some (.int .i64 0):=cell_of_row _ _ 3 _ _ _ hb4;have z9:=Cx hb4;have y0 : (w3).cell? ⟨w2.heap.size,0,none⟩ = some (.int .i64 4):=cell_of_row _ _ 0 _ _ _ hb5;have y1 : (w3).cell? ⟨w2.heap.size,1,none⟩ = some (.int .i64 (now + x)):=cell_of_row _ _ 1 _ _ _ hb5;have y2 : (w3).cell? ⟨w2.heap.size,2,none⟩ = some (.int .i64 0):=cell_of_row _ _ 2 _ _ _ hb5;have y3 : (w3).cell? ⟨w2.heap.size,3,none⟩ = some (.int .i64 0):=cell_of_row _ _ 3 _ _ _ hb5;have y9:=Cx hb5;have hl4 : w.heap.size < w3.heap.size:=by omega
  have hl5 : w2.heap.size < w3.heap.size:=by omega
  clear hb4 hb5
  go_wp2
  refine bodyPost_ret (v:=.agg #[.int .i64 4,.int .i64 (now + x),.int .i64 a,.int .i64 0]) (by simp [results,Try.results50,go_sem,↓cell_some,z0,z1,z2,z3]) rfl ⟨4,now + x,a,0,rfl,?_,by omega,by omega,by omega,?_,?_⟩
  ·exact ord_mk (by omega) (by omega) (by omega) (by omega) (by omega) (by omega)
  ·refine hC3.under (B:=w.heap.size) ?_ hgl
   repeat (first | exact Below.refl _ _ | refine Below.setCell ?_ (by simp <;> omega) _)
  ·refine Dy hG3 ?_
   repeat (first | exact Below.refl _ _ | refine Below.setCell ?_ (by simp <;> omega) _)
end Go.Proofs.Ytoccapmoehdohaa
