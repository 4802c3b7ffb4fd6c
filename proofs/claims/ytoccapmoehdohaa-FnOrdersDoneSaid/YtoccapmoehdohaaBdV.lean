/- Contracts of a board's functions, at boards that have names. No condition. -/
import Derived.Test.YtoccapmoehdohaaBdRun
import Derived.Test.YtoccapmoehdohaaBdNew
import Derived.Test.YtoccapmoehdohaaBdAcc
namespace Go.Proofs.Ytoccapmoehdohaa
open Go.RowKit _root_.Go.Proofs.Try
set_option linter.unusedSimpArgs false
set_option linter.unusedVariables false
theorem newBoard_v {room : Int} {A : Option Addr} {n c : Nat} {ls : List Dv} {b : Ar} (h1 : (bdNew room ls).1 = b) (h2 : (bdNew room ls).2 = true) (w : World) (hn : ls.length = n) (hm : n ≤ 1048576) (hnn_l : A = none → n = 0 ∧ c = 0) (hr_l : Rd w 3 A n (ls.flatMap Cd)) :
  Calls Try.prog 12 #[.int .i64 room,.slice A n c] w fun e w'=>∃ S',e = .returned (.tuple #[bdV S' b,.bool true]) ∧ OwnB w' w.heap.size S' b ∧ Below w.heap.size w w':=by
 subst h1;rw [← h2];exact newBoard_any w hn hm hnn_l hr_l
theorem acceptOrder_v {S : BSl} {b b2 : Ar} {ok ot oa ob : Int} (h : (bdAcc b ok ot oa ob).1 = b2) (h2 : (bdAcc b ok ot oa ob).2 = true) (w : World) (hR : RdB w S b) (hW : BdW b) :
  Calls Try.prog 13 #[bdV S b,.agg #[.int .i64 ok,.int .i64 ot,.int .i64 oa,.int .i64 ob]] w fun e w'=>∃ S',e = .returned (.tuple #[bdV S' b2,.bool true]) ∧ OwnB w' w.heap.size S' b2 ∧ Below w.heap.size w w':=by
 subst h;rw [← h2];exact acceptOrder_any w hR hW
theorem runBoard_v {S : BSl} {b b2 : Ar} {n : Int} (h : bdRun b n = b2) (w : World) (hR : RdB w S b) (hW : BdW b) :
  Calls Try.prog 15 #[bdV S b,.int .i64 n] w fun e w'=>∃ S',e = .returned (bdV S' b2) ∧ OwnB w' w.heap.size S' b2 ∧ Below w.heap.size w w':=by
 subst h;exact runBoard_any w hR hW
theorem boardOk_yes {S : BSl} {b : Ar} (h : boOk b = true) (w : World) (hR : RdB w S b) :
  Calls Try.prog 21 #[bdV S b] w fun e w'=>e = .returned (.bool true) ∧ Below w.heap.size w w':=by
 have:=Dz w hR (boOk_w h);rw [h] at this;exact this
end Go.Proofs.Ytoccapmoehdohaa
