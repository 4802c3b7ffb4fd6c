/- Contract of the draw of one number of a list. No condition. -/
import Derived.Test.YtoccapmoehdohaaDrawL
namespace Go.Proofs.Ytoccapmoehdohaa
open Go.RowKit
theorem Db {w w' : World} {g q : Nat} {o : Obj} (hg : w.grownBy w' (some g)) (h : w.heap[q]? = some o) (hq : q ≠ g) : w'.heap[q]? = some o :=
 (hg.block q (Array.getElem?_eq_some_iff.1 h).1 (fun e=>by cases e; exact hq rfl)).trans h
theorem heap_alloc {w : World} {q : Nat} {o : Obj} (x : Obj) (h : w.heap[q]? = some o) : (w.alloc x).heap[q]? = some o:=(Below.heap_alloc w x q (Array.getElem?_eq_some_iff.1 h).1).trans h
theorem heap_new (w : World) (x : Obj) : (w.alloc x).heap[w.heap.size]? = some x:=by
 show (w.heap.push x)[w.heap.size]? = _;simp
theorem rd_lit (w : World) (cs : List Value) (T : TypeId) (fr : Nat × Nat) (n : Nat) (hn : cs.length = n) : Rd (w.alloc (.cells cs.toArray T fr)) 1 (some ⟨w.heap.size,0,none⟩) n cs :=
 ⟨by omega,fun _=>⟨_,0,rfl,by simp,fun j u hu=>by
  rw [Nat.zero_add,cell_of_row _ _ j _ _ _ (heap_new w _)]
  simpa using hu⟩⟩
theorem rd_litI (w : World) (B : Nat) (hB : B = w.heap.size) (xs : List Int) (T : TypeId) (fr : Nat × Nat) (n : Nat) (hn : xs.length = n) : Rd (w.alloc (.cells (xs.map (Value.int .i64)).toArray T fr)) 1 (some ⟨B,0,none⟩) n (xs.flatMap cI):=by
 have e : xs.flatMap cI = xs.map (Value.int .i64):=by
  clear hn
  induction xs with
  | nil=>rfl
  | cons x xs ih=>rw [List.flatMap_cons,ih]; rfl
 rw [e];subst hB;exact rd_lit w _ T fr n (by simpa using hn)
theorem Cur.allocs {w : World} {g : Nat} {A : Option Addr} {n c : Nat} (h : Cur w g A n c) (o : Obj) : Cur (w.alloc o) g A n c:=h.keep ((Below.refl _ _).alloc (Nat.le_refl _) _)
theorem l01PickInt_any (g : Nat) (A : Option Addr) (n c : Nat) (zs : List UInt8) (B : Option Addr) (m d : Nat) (xs : List Int) (w : World) (hxm : xs.length = m) (hm0 : 1 ≤ m) (hm1 : m ≤ 256) (hrb : Rd w 1 B m (xs.flatMap cI)) (hneb : ∀ b o,B = some ⟨b,o,none⟩ → b ≠ g)
  (hn : zs.length = n) (hm : n ≤ 9223372036854775806) (hr : Rd w 1 A n (zs.flatMap cB)) (hne : 0 < n → ∀ b o,A = some ⟨b,o,none⟩ → b ≠ g) (hC : Cur w g A n c) :
  Calls Try.prog 93 #[.pointer (some ⟨g,0,none⟩),.slice B m d] w fun e w'=>∃ x : Int,e = .returned (.int .i64 x) ∧ x ∈ xs ∧ Cur w' g A n c ∧ w.grownBy w' (some g):=by
 subst hxm
 go_enter Try.func93,Try.ntmps93
 go_wp2_with fail
 refine (Dx g A n c zs xs.length _ (by omega) (by omega) hn hm hr hne hC).mono ?_;rintro e w1 ⟨x,rfl,hx0,hx1,hC1,hg1⟩;obtain ⟨k,rfl⟩:=Int.eq_ofNat_of_zero_le hx0;have hk : k < xs.length:=by omega
 obtain ⟨b,o,rfl,hb,hc⟩:=(rd_grown hrb hg1 (fun _=>hneb)).int rfl hk;have h1 : (k : Int) < xs.length:=by omega
 go_wp2
 go_ret
 exact ⟨_,rfl,List.getElem_mem hk,hC1,hg1⟩
end Go.Proofs.Ytoccapmoehdohaa
