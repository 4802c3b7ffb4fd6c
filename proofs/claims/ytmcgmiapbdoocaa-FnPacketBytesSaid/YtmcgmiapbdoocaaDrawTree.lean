/- Walks by letters: a region that draws its order, every order by itself. No condition. -/
import Derived.Test.YtmcgmiapbdoocaaFlow
namespace Go.Proofs.Ytmcgmiapbdoocaa
open Go.RowKit
section
variable {P : Program} {ops : Array Oper} {Q : Exit → Act → World → Prop}
theorem wp_tree {id n : Nat} {a : Act} {w : World} {l : List Oper} (hm : P.follows .mixedOrders = true) (hn : l.toArray.size = n) (h : ∀ W, Below w.heap.size w W → wpAny P .any l.toArray Q n (Array.replicate n false) a W) : (Code.region id l.toArray true).wp P Q a w := by
  refine wp_region_any hm ?_
  rw [hn]
  exact h w.drew (Below.refl _ _).drew
section
variable {fuel : Nat} {listed : Array Bool} {a : Act} {w : World}
theorem t_leaf (hr : Region.ready .any ops listed = []) (h : Q .normal a w) : wpAny P .any ops Q fuel listed a w := by
  cases fuel with
  | zero => exact ⟨hr, h⟩
  | succ n => exact ⟨fun _ => h, fun i hi => by rw [hr] at hi; cases hi⟩
theorem t_nodes {r : List Nat} (hr : Region.ready .any ops listed = r) (hne : r ≠ []) (h : ∀ i ∈ r, wpOp P ops Q i (wpAny P .any ops Q fuel (listed.setIfInBounds i true)) a w) : wpAny P .any ops Q (fuel + 1) listed a w :=
  ⟨fun h0 => absurd (hr.symm.trans h0) hne, fun i hi => h i (hr ▸ hi)⟩
theorem t_node1 {i : Nat} (hr : Region.ready .any ops listed = [i]) (h : wpOp P ops Q i (wpAny P .any ops Q fuel (listed.setIfInBounds i true)) a w) : wpAny P .any ops Q (fuel + 1) listed a w :=
  t_nodes hr (by simp) fun k hk => by
    simp only [List.mem_cons, List.not_mem_nil, or_false] at hk
    rcases hk with rfl
    exact h
theorem t_node2 {i j : Nat} (hr : Region.ready .any ops listed = [i, j]) (h : wpOp P ops Q i (wpAny P .any ops Q fuel (listed.setIfInBounds i true)) a w) (h2 : wpOp P ops Q j (wpAny P .any ops Q fuel (listed.setIfInBounds j true)) a w) : wpAny P .any ops Q (fuel + 1) listed a w :=
  t_nodes hr (by simp) fun k hk => by
    simp only [List.mem_cons, List.not_mem_nil, or_false] at hk
    rcases hk with rfl | rfl
    · exact h
    · exact h2
theorem t_node3 {i j m : Nat} (hr : Region.ready .any ops listed = [i, j, m]) (h : wpOp P ops Q i (wpAny P .any ops Q fuel (listed.setIfInBounds i true)) a w) (h2 : wpOp P ops Q j (wpAny P .any ops Q fuel (listed.setIfInBounds j true)) a w) (h3 : wpOp P ops Q m (wpAny P .any ops Q fuel (listed.setIfInBounds m true)) a w) : wpAny P .any ops Q (fuel + 1) listed a w :=
  t_nodes hr (by simp) fun k hk => by
    simp only [List.mem_cons, List.not_mem_nil, or_false] at hk
    rcases hk with rfl | rfl | rfl
    · exact h
    · exact h2
    · exact h3
end
section
variable {i : Nat} {o : Oper} {d : Tmp} {a : Act} {w : World} {K : Act → World → Prop}
theorem w_any (ho : ops[i]? = some o) (hg : o.guard = none) (h : goesR P o a.eval w (fun v w' => K (a.put o.dst v) w')) : wpOp P ops Q i K a w := by
  have hw : Region.wanted o (yielded ops a.tmps) = true := by unfold Region.wanted; rw [hg]
  unfold wpOp
  rw [ho]
  simp only [hw, if_true]
  exact .inl (goes_wp (show goes P o a w _ from h) fun v w' hv => hv)
theorem w_val (ho : ops[i]? = some o) (hg : o.guard = none) (hd : o.dst = some d) (h : goesR P o a.eval w (fun v w' => ∀ b, Put d v a b → K b w')) : wpOp P ops Q i K a w :=
  w_any ho hg (goesR_mono (fun v w' hv => by rw [hd]; exact hv _ ⟨rfl⟩) h)
theorem w_eff (ho : ops[i]? = some o) (hg : o.guard = none) (hd : o.dst = none) (h : goesR P o a.eval w (fun _ w' => K a w')) : wpOp P ops Q i K a w :=
  w_any ho hg (goesR_mono (fun v w' hv => by rw [hd]; exact hv) h)
end
end
end Go.Proofs.Ytmcgmiapbdoocaa
