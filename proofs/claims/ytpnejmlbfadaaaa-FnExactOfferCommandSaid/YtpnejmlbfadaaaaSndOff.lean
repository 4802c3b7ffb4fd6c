/- A command offered to a sender: the program and the reference answer alike. No condition. -/
import Derived.Test.YtpnejmlbfadaaaaSndOffS
namespace Go.Proofs.Ytpnejmlbfadaaaa
open Go.RowKit

/-- What a call that offers a command does: the sender and the answer, the row in new memory. -/
def Offers (f : FuncId) (nx wd : Int) (zs : List ESent) (dn : Int) (d : List UInt8) (nx' : Int) (zs' : List ESent) (b : Bool) : Prop :=
  ∀ (W : World) (A : Option Addr) (c : Nat), (A = none → zs.length = 0 ∧ c = 0) → Rd W 2 A zs.length (zs.flatMap cSent) →
    Calls Try.prog f #[.agg #[.int .i64 nx, .int .i64 wd, .slice A zs.length c, .int .i64 dn], .string ⟨d.toArray⟩] W fun e w' => ∃ A' c', e = .returned (.tuple #[.agg #[.int .i64 nx', .int .i64 wd, .slice A' zs'.length c', .int .i64 dn], .bool b]) ∧ w'.ownsRow W.heap.size 80 2 (.slice A' zs'.length c') zs'.length (zs'.flatMap cSent) ∧ Below W.heap.size W w'
theorem offers (nx wd : Int) (zs : List ESent) (dn : Int) (d : List UInt8) (hm : zs.length ≤ 1048576) (hT : ∀ z ∈ zs, Txt z.f1) (hd : Txt d) :
    ∃ nx' zs' b, zs'.length ≤ 1048577 ∧ (∀ z ∈ zs', Txt z.f1) ∧ Offers 29 nx wd zs dn d nx' zs' b ∧ Offers 55 nx wd zs dn d nx' zs' b := by
  have hT' : ∀ z ∈ offZ nx zs d, Txt z.f1 := by
    intro z hz
    unfold offZ at hz
    rcases List.mem_append.1 hz with hz | hz
    · exact hT z hz
    · simp only [List.mem_singleton] at hz; subst hz; exact hd
  cases h : sndOk nx wd zs dn
  · exact ⟨nx, zs, false, by omega, hT, fun W A c _ hr => offerCommand_no nx wd A _ c zs dn d W rfl hm hT hr h, fun W A c hnn hr => sOfferCommand_no nx wd A _ c zs dn d W rfl hm hT hnn hr h⟩
  · have hx : 0 ≤ nx ∧ nx ≤ 255 := by
      unfold sndOk at h
      simp only [Bool.and_eq_true] at h
      exact (sndPre_parts h.1).1
    cases h2 : sndOk ((nx + 1) % 256) wd (offZ nx zs d) dn
    · exact ⟨nx, zs, false, by omega, hT, fun W A c _ hr => offerCommand_yes nx wd A _ c zs dn d false W rfl hm hT hd hr hx h h2, fun W A c hnn hr => sOfferCommand_yes nx wd A _ c zs dn d false W rfl hm hT hd hnn hr hx h h2⟩
    · refine ⟨(nx + 1) % 256, offZ nx zs d, true, by rw [offZ_len]; omega, hT', fun W A c _ hr => ?_, fun W A c hnn hr => ?_⟩
      · rw [offZ_len]
        exact offerCommand_yes nx wd A _ c zs dn d true W rfl hm hT hd hr hx h h2
      · rw [offZ_len]
        exact sOfferCommand_yes nx wd A _ c zs dn d true W rfl hm hT hd hnn hr hx h h2
end Go.Proofs.Ytpnejmlbfadaaaa
