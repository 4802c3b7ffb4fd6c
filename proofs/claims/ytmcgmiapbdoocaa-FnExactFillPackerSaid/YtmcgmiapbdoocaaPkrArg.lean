/- An argument that is a packer: opened. No condition. -/
import Derived.Test.YtmcgmiapbdoocaaOpen
namespace Go.Proofs.Ytmcgmiapbdoocaa
open Go.RowKit Go.ChangeShapes

theorem open_Packer {H : Type} {enc : TypeId × Value → H} {w : World} {held : Bool} {fuel : Nat} {cs : List Value} {x : DataW H × List MemPlace}
    (h : DataW.trod enc Try.prog w 0 (fun _ => true) held fuel 48 cs = some x) :
    ∃ (a b : Int) (s : List UInt8) (B : Option Addr) (m dp : Nat) (ds : List Int), cs = [.int .i64 a, .int .i64 b, .string ⟨s.toArray⟩, .slice B m dp] ∧ Txt s ∧ (ds.length = m ∧ Rd w 1 B m (ds.flatMap cI)) ∧ m ≤ maxLen := by
  obtain ⟨hlen, m, hf⟩ := trod_fields Try.underlying48 h
  have hC : Try.prog.cellsOf 48 = 4 := by kernel_rfl
  rw [hC] at hlen
  obtain ⟨y0, e0⟩ := hf 0 3 0 1 (by kernel_rfl)
  obtain ⟨y1, e1⟩ := hf 1 3 1 1 (by kernel_rfl)
  obtain ⟨y2, e2⟩ := hf 2 9 2 1 (by kernel_rfl)
  obtain ⟨y3, e3⟩ := hf 3 26 3 1 (by kernel_rfl)
  match cs, hlen with
  | [c0, c1, c2, c3], _ =>
    obtain ⟨a, ea, _⟩ := el_int Try.underlying3 e0
    obtain ⟨b, eb, _⟩ := el_int Try.underlying3 e1
    obtain ⟨s, es, ws⟩ := el_str Try.underlying9 e2
    obtain ⟨B, n', cp', ds, ec, hn', hnc', hcm', hr', _⟩ := open_slice_of cI I64 1 cI_len Try.underlying26 (by kernel_rfl) (by decide) (fun _ _ _ hh => el_int Try.underlying3 hh) e3
    simp [cI, cS] at ea eb es ec
    subst ea eb es ec
    exact ⟨a, b, s, B, n', cp', ds, rfl, ws, ⟨hn', hr'⟩, Nat.le_trans hnc' hcm'⟩
end Go.Proofs.Ytmcgmiapbdoocaa
