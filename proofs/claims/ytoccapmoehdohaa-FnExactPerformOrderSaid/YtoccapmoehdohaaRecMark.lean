/- Contracts: marks on a recorder's rows, and whether they are still there. No condition. -/
import Derived.Test.YtoccapmoehdohaaRecorder
import Derived.Test.YtoccapmoehdohaaFlowMem
namespace Go.Proofs.Ytoccapmoehdohaa
open Go.RowKit _root_.Go.Proofs.Try
theorem markRecordS_any' {base : Nat} {A : Option Addr} {n c : Nat} {xs : List Value} {k : Int} (w : World) (hk0 : 1 ≤ k) (hk1 : k ≤ 1152921504606846976) (hm : n ≤ 1048577) (hown : w.ownsRow base 47 4 (.slice A n c) n xs) :
  Calls Try.prog 104 #[.slice A n c,.int .i64 k] w fun e w'=>e = .returned (.int .i64 (k + 4 * ((n : Nat) : Int))) ∧ w'.ownsRow base 47 4 (.slice A n c) n ((Co k n).flatMap Ax) ∧ w.grownBy w' (A.map (·.block)):=markRecordS_any base A n c xs k w hk0 hk1 hm hown
theorem heldRecordS_any' {A : Option Addr} {n c : Nat} {k : Int} (w : World) (hk0 : 1 ≤ k) (hk1 : k ≤ 1152921504606846976) (hm : n ≤ 1048577) (hr : Rd w 4 A n ((Co k n).flatMap Ax)) :
  Calls Try.prog 105 #[.slice A n c,.int .i64 k] w fun e w'=>e = .returned (.int .i64 (k + 4 * ((n : Nat) : Int))) ∧ Below w.heap.size w w':=heldRecordS_any A n c k w hk0 hk1 hm hr
theorem grown_alloc {w w' : World} {row : Option Nat} {o : Obj} (k : (w.alloc o).grownBy w' row) : w.grownBy w' row:=Bn (World.grownBy_alloc w o row) k
theorem markRecorder_any {base base' : Nat} {room : Int} {A B : Option Addr} {n m c d : Nat} {xs ys : List Value} {k : Int} (w : World) (hk0 : 1 ≤ k) (hk1 : k ≤ 576460752303423488) (hn : n ≤ 1048577) (hm : m ≤ 1048577) (hoz : w.ownsRow base 47 4 (.slice A n c) n xs) (hod : w.ownsRow base' 3 1 (.slice B m d) m ys) :
  Calls Try.prog 74 #[.agg #[.int .i64 room,.slice A n c,.slice B m d],.int .i64 k] w fun e w'=>e = .returned (.int .i64 (k + 4 * ((n : Nat) : Int) + ((m : Nat) : Int))) ∧ ∃ w1,w1.ownsRow base 47 4 (.slice A n c) n ((Co k n).flatMap Ax) ∧ w.grownBy w1 (A.map (·.block)) ∧ w'.ownsRow base' 3 1 (.slice B m d) m ((Ea (k + 4 * ((n : Nat) : Int)) m).flatMap cI) ∧ w1.grownBy w' (B.map (·.block)):=by
 have hA:=Cq hoz;have hB:=Cq hod;have hd:=Az hoz hod (by decide)
 go_enter func74,Try.ntmps74
 go_wp2_with fail
 refine (markRecordS_any' _ hk0 (by omega) hn (hoz.alloc _)).mono ?_;rintro e w1 ⟨rfl,oz,gz⟩;have hod1:=Ap (hod.alloc _) gz (fun b h1 h2=>hd b h2 h1);have hz:=gz.size;simp only [World.size_alloc] at hz;have l0 : w.heap.size < w1.heap.size:=by omega
 have hne : A.map (·.block) ≠ some w.heap.size:=fun e=>by have:=hA _ e; omega
 have c2 : w1.cell? ⟨w.heap.size,2,none⟩ = some (.slice B m d):=((rcell gz).1 _ _ (by simp) hne).trans (by simp [go_sem]);have gz':=grown_alloc gz;clear gz hne;have hk2 : 0 ≤ k + 4 * (n : Int):=by omega
 go_wp2_with fail
 refine (markIntS_any _ _ _ _ _ _ _ hk2 (by omega) (by omega) hod1).mono ?_;rintro e w2 ⟨rfl,od,gd⟩
 go_wp2
 go_ret
 exact ⟨rfl,w1,oz,gz',od,gd⟩
theorem heldRecorder_any {room : Int} {A B : Option Addr} {n m c d : Nat} {k : Int} (w : World) (hk0 : 1 ≤ k) (hk1 : k ≤ 576460752303423488) (hn : n ≤ 1048577) (hm : m ≤ 1048577) (hr : Rd w 4 A n ((Co k n).flatMap Ax)) (hr' : Rd w 1 B m ((Ea (k + 4 * ((n : Nat) : Int)) m).flatMap cI)) :
  Calls Try.prog 79 #[.agg #[.int .i64 room,.slice A n c,.slice B m d],.int .i64 k] w fun e w'=>e = .returned (.int .i64 (k + 4 * ((n : Nat) : Int) + ((m : Nat) : Int))) ∧ Below w.heap.size w w':=by
 go_enter func79,Try.ntmps79
 go_wp2_with fail
 refine (heldRecordS_any' _ hk0 (by omega) hn (hr.alloc _)).mono ?_;rintro e w1 ⟨rfl,hb1⟩;have hz:=hb1.size;simp only [World.size_alloc] at hz;have l0 : w.heap.size < w1.heap.size:=by omega
 have c2 : w1.cell? ⟨w.heap.size,2,none⟩ = some (.slice B m d):=(hb1.cell (p:=⟨w.heap.size,2,none⟩) (by simp)).trans (by simp [go_sem]);have hB1 : Below w.heap.size w w1:=(Br.alloc (Nat.le_refl _) _).trans (hb1.mono (by simp));clear hb1;have hk2 : 0 ≤ k + 4 * (n : Int):=by omega
 have hk3 : ¬ (k + 4 * (n : Int) < 0):=by omega
 have hk4 : ¬ (k + 4 * (n : Int) + m < 0):=by omega
 go_wp2_with fail
 refine (heldIntS_any _ _ _ _ _ hk2 (by omega) (by omega) (hr'.below hB1)).mono ?_;rintro e w' ⟨rfl,rfl⟩
 go_wp2
 go_ret
 exact ⟨rfl,hB1⟩
end Go.Proofs.Ytoccapmoehdohaa
