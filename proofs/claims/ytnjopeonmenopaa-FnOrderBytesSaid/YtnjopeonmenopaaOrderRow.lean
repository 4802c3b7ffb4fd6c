/- Rows of Orders: contracts of the statements' helpers. Written by a program of ours (rows.py). No condition. -/
import Derived.Test.YtnjopeonmenopaaBase
import Derived.Test.YtnjopeonmenopaaOpen
namespace Go.Proofs.Ytnjopeonmenopaa
open Go.RowKit

structure EOrder where
  f0 : Int
  f1 : Int
  f2 : Int
  f3 : Int
instance : Inhabited EOrder := ⟨⟨0, 0, 0, 0⟩⟩
def cOrder (r : EOrder) : List Value := [.int .i64 r.f0, .int .i64 r.f1, .int .i64 r.f2, .int .i64 r.f3]
theorem cOrder_len (r : EOrder) : (cOrder r).length = 4 := rfl
theorem cOrder_one (r : EOrder) : ∀ u ∈ cOrder r, u.oneCell' = true := by intro u hu; simp only [cOrder, List.mem_cons, List.not_mem_nil, or_false] at hu; rcases hu with rfl | rfl | rfl | rfl <;> rfl

end Go.Proofs.Ytnjopeonmenopaa
