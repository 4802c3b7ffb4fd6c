/- Contract of the draw of a list of orders. No condition. -/
import Derived.Test.YtoccapmoehdohaaBase
import Derived.Test.YtoccapmoehdohaaOpen
import Derived.Test.YtoccapmoehdohaaDrawOrd
namespace Go.Proofs.Ytoccapmoehdohaa
open Go.RowKit
structure EOrder where
 f0 : Int
 f1 : Int
 f2 : Int
 f3 : Int
instance : Inhabited EOrder:=⟨⟨0,0,0,0⟩⟩
def cOrder (r : EOrder) : List Value:=[.int .i64 r.f0,.int .i64 r.f1,.int .i64 r.f2,.int .i64 r.f3]
theorem cOrder_len (r : EOrder) : (cOrder r).length = 4:=rfl
end Go.Proofs.Ytoccapmoehdohaa
namespace Go.Proofs.Ytoccapmoehdohaa
open Go.RowKit
theorem infoOrder : (Try.prog.info? 40).map (fun i=>(i.zero,i.size,i.bytes)) = some (some (.agg #[.int .i64 0,.int .i64 0,.int .i64 0,.int .i64 0]),4,32):=by kernel_rfl
def DrawnOrds (now : Int) (os : List EOrder) : Prop:=∀ o ∈ os,Da o.f0 o.f1 o.f2 o.f3 = true ∧ o.f1 ≤ now ∧ o.f2 ≤ 11
theorem drawn_snoc {now : Int} {os : List EOrder} {o : EOrder} (h : DrawnOrds now os) (h1 : Da o.f0 o.f1 o.f2 o.f3 = true) (h2 : o.f1 ≤ now) (h3 : o.f2 ≤ 11) : DrawnOrds now (os ++ [o]):=by
 intro y hy;rcases List.mem_append.1 hy with h' | h'
 ·exact h y h'
 ·rw [List.mem_singleton.1 h']; exact ⟨h1,h2,h3⟩
theorem drawOrders_any (A : Option Addr) (n c : Nat) (zs : List UInt8) (w : World) (hn : zs.length = n) (hm : n ≤ 1048576) (hr : Rd w 1 A n (zs.flatMap cB)) :
  Calls Try.prog 18 #[.slice A n c] w fun e w'=>∃ (os : List EOrder) (B : Option Addr) (d : Nat),e = .returned (.slice B os.length d) ∧ w'.ownsRow w.heap.size 40 4 (.slice B os.length d) os.length (os.flatMap cOrder) ∧ DrawnOrds 30 os ∧ os.length ≤ 13 ∧ Below w.heap.size w w':=by
 have hne : 0 < n → ∀ b o,A = some ⟨b,o,none⟩ → b ≠ w.heap.size:=by
  intro h0 b o hA hb;obtain ⟨b',o',e,hlt,_⟩:=hr.2 h0;rw [hA] at e;cases e;omega
 go_enter Try.func18,Try.ntmps18
 go_wp2_with fail
 refine (l01New_any A n c zs _ hn hm hr).mono ?_;rintro e w1 ⟨rfl,hC1,hb1⟩;have hl1:=hC1.lt;have hz1:=hb1.size
 go_wp2_with fail
 have hown0:=own_fresh w1 w1.heap.size w1.heap.size 40 4 rfl (Nat.le_refl _);have hB1:=hb1.alloc hz1 (.cells #[] 40);have hC1':=hC1.allocs (.cells #[] 40);have hz2 : w1.heap.size < (w1.alloc (.cells #[] 40)).heap.size:=by simp
 generalize w1.alloc (.cells #[] 40) = w2 at hown0 hB1 hC1' hz2 ⊢
 refine (Dx w.heap.size A n c zs 14 _ (by omega) (by omega) hn (by omega) (hr.below hB1) hne hC1').mono ?_;rintro e w3 ⟨x,rfl,hx0,hx1,hC3,hg3⟩;have hz3:=hg3.size;have hown3:=Aw hown0 hg3 (fun b h1 h2=>by simp at h1 h2; omega);have hB3:=hB1.grown hg3 hB1.size (fun k hk=>by cases hk; exact Nat.le_refl _);clear hC1 hC1' hb1 hown0 hg3 hB1
 go_wp2
 go_loopw [4,5] (fun v k wr=>∃ (os : List EOrder) (B : Option Addr) (d : Nat) (m : Int),v = .slice B os.length d ∧ k = .int .i64 m ∧ 0 ≤ m ∧ os.length + m ≤ 13 ∧ wr.ownsRow w1.heap.size 40 4 (.slice B os.length d) os.length (os.flatMap cOrder) ∧ Hid (DrawnOrds 30 os) ∧ Cur wr w.heap.size A n c ∧ Below w.heap.size w wr ∧ w1.heap.size ≤ wr.heap.size) (fun _ k _=>(intOf k).toNat)
 case atStart=>exact ⟨[],_,_,x,rfl,rfl,hx0,by simp; omega,hown3,Lib.hid (fun o ho=>by cases ho),hC3,hB3,by omega⟩
 case round =>
  obtain ⟨os,B,d,m,rfl,rfl,hm0,hm1,hown,hD,hC,hB,hzr⟩:=hrel;by_cases hlt : 0 < m
  ·skip
   go_wp2_with fail
   refine (Dx w.heap.size A n c zs 20 _ (by omega) (by omega) hn (by omega) (hr.below hB) hne hC).mono ?_;rintro e w4 ⟨y,rfl,hy0,hy1,hC4,hg4⟩;have hz4:=hg4.size;have hown4:=Aw hown hg4 (fun b h1 h2=>by have:=Cu hown b h1; cases h2; omega);have hB4:=hB.grown hg4 hB.size (fun k hk=>by cases hk; exact Nat.le_refl _);clear hC hg4 hown hB hown3 hC3 hB3
   go_wp2_with fail
   refine (l05Order_any w.heap.size A n c zs y _ hy0 (by omega) hn (by omega) (hr.below hB4) hne hC4).mono ?_;rintro e w5 ⟨q0,q1,q2,q3,rfl,hok,hq0,hq1,hq2,hC5,hg5⟩;have hz5:=hg5.size;have hown5:=Aw hown4 hg5 (fun b h1 h2=>by have:=Cu hown4 b h1; cases h2; omega);have hB5:=hB4.grown hg5 hB4.size (fun k hk=>by cases hk; exact Nat.le_refl _);have hsz : w1.heap.size ≤ w5.heap.size:=by omega
   have hD5:=Lib.hid (drawn_snoc (o:=⟨q0,q1,q2,q3⟩) hD.out hok (show q1 ≤ 30 by omega) hq2);clear hC4 hg5 hown4 hB4 hok hD
   go_wp2_with (at_builtin; refine wpList_append1 _ rfl (.tmp 15) (.tmp 20) 48 rfl 40 (.agg #[.int .i64 0,.int .i64 0,.int .i64 0,.int .i64 0]) 4 32 Try.underlying48 infoOrder rfl (by decide) w1.heap.size _ _ _ _ rfl hown5 [.int .i64 q0,.int .i64 q1,.int .i64 q2,.int .i64 q3] _ rfl rfl rfl (by simp [Value.oneCell']) (by omega) hsz ?_; intro g6 c6 w6 hown6 _ hb6)
   have hz6:=hb6.size
   go_roundw
   case rel=>exact ⟨os ++ [⟨q0,q1,q2,q3⟩],some ⟨g6,0,none⟩,c6,m - 1,by simp,by go_num,by omega,by simp; omega,by simpa [cOrder] using hown6,hD5,hC5.under hb6 (by omega),hB5.trans (hb6.mono (by omega)),by omega⟩
   case measure=>simp [intOf]; omega
  ·go_wp2
   go_ret
   exact ⟨os,B,d,rfl,Ai hown (by omega),hD.out,by omega,hB⟩
end Go.Proofs.Ytoccapmoehdohaa
