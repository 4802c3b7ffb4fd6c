/- Arguments that are structs of numbers, texts and truth values: opened. No condition. -/
import Derived.Test.YtoccapmoehdohaaOpen
namespace Go.Proofs.Ytoccapmoehdohaa
open Go.RowKit Go.ChangeShapes

theorem open_Order {H : Type} {enc : TypeId × Value → H} {w : World} {held : Bool} {fuel : Nat} {cs : List Value} {x : DataW H × List MemPlace}
    (h : DataW.trod enc Try.prog w 0 (fun _ => true) held fuel 73 cs = some x) :
    ∃ (a : Int) (b : Int) (c : Int) (d : Int), cs = [.int .i64 a, .int .i64 b, .int .i64 c, .int .i64 d] ∧ I64 a ∧ I64 b ∧ I64 c ∧ I64 d := by
  obtain ⟨hlen, m, hf⟩ := trod_fields Try.underlying73 h
  have hC : Try.prog.cellsOf 73 = 4 := by kernel_rfl
  rw [hC] at hlen
  obtain ⟨y0, e0⟩ := hf 0 3 0 1 (by kernel_rfl)
  obtain ⟨y1, e1⟩ := hf 1 3 1 1 (by kernel_rfl)
  obtain ⟨y2, e2⟩ := hf 2 3 2 1 (by kernel_rfl)
  obtain ⟨y3, e3⟩ := hf 3 3 3 1 (by kernel_rfl)
  match cs, hlen with
  | [c0, c1, c2, c3], _ =>
    obtain ⟨a, qa, wa⟩ := el_int Try.underlying3 e0
    obtain ⟨b, qb, wb⟩ := el_int Try.underlying3 e1
    obtain ⟨c, qc, wc⟩ := el_int Try.underlying3 e2
    obtain ⟨d, qd, wd⟩ := el_int Try.underlying3 e3
    simp [cI] at qa qb qc qd
    subst qa qb qc qd
    exact ⟨a, b, c, d, rfl, wa, wb, wc, wd⟩

end Go.Proofs.Ytoccapmoehdohaa
