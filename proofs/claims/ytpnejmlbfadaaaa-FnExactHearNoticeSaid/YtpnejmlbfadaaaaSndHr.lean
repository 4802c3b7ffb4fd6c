/- A sender hears a notice: the program and the reference answer alike. No condition. -/
import Derived.Test.YtpnejmlbfadaaaaSndHear
import Derived.Test.YtpnejmlbfadaaaaSndHearS
namespace Go.Proofs.Ytpnejmlbfadaaaa
open Go.RowKit

/-- What a call that hears a notice does: the sender, its row in new memory. -/
def Hears (f : FuncId) (nx wd : Int) (zs : List ESent) (dn ex : Int) (lk ag : Bool) (zs' : List ESent) (dn' : Int) : Prop :=
  ∀ (W : World) (A : Option Addr) (c : Nat), (A = none → zs.length = 0 ∧ c = 0) → zs.length ≤ c → Rd W 2 A zs.length (zs.flatMap cSent) →
    Calls Try.prog f #[.agg #[.int .i64 nx, .int .i64 wd, .slice A zs.length c, .int .i64 dn], .agg #[.int .i64 ex, .bool lk, .bool ag]] W fun e w' => ∃ A' c', e = .returned (.agg #[.int .i64 nx, .int .i64 wd, .slice A' zs'.length c', .int .i64 dn']) ∧ w'.ownsRow W.heap.size 80 2 (.slice A' zs'.length c') zs'.length (zs'.flatMap cSent) ∧ Below W.heap.size W w'
theorem hears (nx wd : Int) (zs : List ESent) (dn ex : Int) (lk ag : Bool) (hm : zs.length ≤ 1048576) (hT : ∀ z ∈ zs, Txt z.f1) :
    ∃ zs' dn', zs'.length ≤ 1048576 ∧ (∀ z ∈ zs', Txt z.f1) ∧ Hears 34 nx wd zs dn ex lk ag zs' dn' ∧ Hears 56 nx wd zs dn ex lk ag zs' dn' := by
  have hkb := hearK_bounds ex zs
  by_cases h : sndOk nx wd zs dn = false ∨ zs.length = 0 ∨ inB ex 0 255 = false ∨ (zs.length : Int) < hearK ex zs
  · exact ⟨zs, dn, hm, hT, fun W A c hnn _ hr => hearNotice_no nx wd A _ c zs dn ex lk ag W rfl hm hT hnn hr h, fun W A c hnn _ hr => sHearNotice_no nx wd A _ c zs dn ex lk ag W rfl hm hT hnn hr h⟩
  · have h1 : sndOk nx wd zs dn = true := by cases hx : sndOk nx wd zs dn <;> simp_all
    have h2 : 0 < zs.length := by
      by_cases hz : zs.length = 0
      · exact absurd (Or.inr (Or.inl hz)) h
      · omega
    have h3 : inB ex 0 255 = true := by cases hx : inB ex 0 255 <;> simp_all
    have h4 : ¬ (zs.length : Int) < hearK ex zs := fun hz => h (Or.inr (Or.inr (Or.inr hz)))
    obtain ⟨k, hk⟩ := Int.eq_ofNat_of_zero_le hkb.1
    have hkn : k ≤ zs.length := by omega
    refine ⟨zs.drop k, min (dn + k) 1000000, by rw [List.length_drop]; omega, fun z hz => hT z (List.mem_of_mem_drop hz), fun W A c hnn hnc hr => ?_, fun W A c hnn hnc hr => ?_⟩
    · rw [List.length_drop]
      exact hearNotice_yes nx wd A _ c zs dn ex lk ag W rfl hm hnc hT hnn hr h1 h2 h3 k hk hkn
    · rw [List.length_drop]
      exact sHearNotice_yes nx wd A _ c zs dn ex lk ag W rfl hm hnc hT hnn hr h1 h2 h3 k hk hkn
end Go.Proofs.Ytpnejmlbfadaaaa
