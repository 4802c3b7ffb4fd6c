/- Arguments that are receivers of commands: opened. No condition. -/
import Derived.Test.YtpnejmlbfadaaaaOpen
namespace Go.Proofs.Ytpnejmlbfadaaaa
open Go.RowKit Go.ChangeShapes

theorem open_Receiver {H : Type} {enc : TypeId × Value → H} {w : World} {held : Bool} {fuel : Nat} {cs : List Value} {x : DataW H × List MemPlace}
    (h : DataW.trod enc Try.prog w 0 (fun _ => true) held fuel 23 cs = some x) :
    ∃ (a : Int) (b c : Bool) (d : Int), cs = [.int .i64 a, .bool b, .bool c, .int .i64 d] ∧ I64 a ∧ I64 d := by
  obtain ⟨hlen, m, hf⟩ := trod_fields Try.underlying23 h
  have hC : Try.prog.cellsOf 23 = 4 := by kernel_rfl
  rw [hC] at hlen
  obtain ⟨y0, e0⟩ := hf 0 3 0 1 (by kernel_rfl)
  obtain ⟨y1, e1⟩ := hf 1 4 1 1 (by kernel_rfl)
  obtain ⟨y2, e2⟩ := hf 2 4 2 1 (by kernel_rfl)
  obtain ⟨y3, e3⟩ := hf 3 3 3 1 (by kernel_rfl)
  match cs, hlen with
  | [c0, c1, c2, c3], _ =>
    obtain ⟨a, ea, wa⟩ := el_int Try.underlying3 e0
    obtain ⟨b, eb⟩ := el_bool Try.underlying4 e1
    obtain ⟨c, ec⟩ := el_bool Try.underlying4 e2
    obtain ⟨d, ed, wd⟩ := el_int Try.underlying3 e3
    simp [cI] at ea eb ec ed
    subst ea eb ec ed
    exact ⟨a, b, c, d, rfl, wa, wd⟩

theorem open_Notice {H : Type} {enc : TypeId × Value → H} {w : World} {held : Bool} {fuel : Nat} {cs : List Value} {x : DataW H × List MemPlace}
    (h : DataW.trod enc Try.prog w 0 (fun _ => true) held fuel 53 cs = some x) :
    ∃ (a : Int) (b c : Bool), cs = [.int .i64 a, .bool b, .bool c] ∧ I64 a := by
  obtain ⟨hlen, m, hf⟩ := trod_fields Try.underlying53 h
  have hC : Try.prog.cellsOf 53 = 3 := by kernel_rfl
  rw [hC] at hlen
  obtain ⟨y0, e0⟩ := hf 0 3 0 1 (by kernel_rfl)
  obtain ⟨y1, e1⟩ := hf 1 4 1 1 (by kernel_rfl)
  obtain ⟨y2, e2⟩ := hf 2 4 2 1 (by kernel_rfl)
  match cs, hlen with
  | [c0, c1, c2], _ =>
    obtain ⟨a, ea, wa⟩ := el_int Try.underlying3 e0
    obtain ⟨b, eb⟩ := el_bool Try.underlying4 e1
    obtain ⟨c, ec⟩ := el_bool Try.underlying4 e2
    simp [cI] at ea eb ec
    subst ea eb ec
    exact ⟨a, b, c, rfl, wa⟩
end Go.Proofs.Ytpnejmlbfadaaaa
