/- Contracts of the recorder's functions at a recorder that is filled with records of rising numbers. No condition. -/
import Derived.Test.YtnjopeonmenopaaRecLaw
import Derived.Test.YtnjopeonmenopaaKeep
import Derived.Test.YtnjopeonmenopaaTakeRec
import Derived.Test.YtnjopeonmenopaaAt
namespace Go.Proofs.Ytnjopeonmenopaa
open Go.RowKit

def atN (zs : List UInt8) (k : Nat) : Nat := (atV zs ((k : Nat) : Int)).toNat
theorem atN_le (zs : List UInt8) (k : Nat) : atN zs k ≤ 255 := by
  have := atV_hi zs k
  have := atV_lo zs k
  unfold atN
  omega
theorem at_nat {w : World} {A : Option Addr} {n c : Nat} {zs : List UInt8} (hlen : zs.length = n) (hnc : n ≤ c) (hcm : c ≤ maxLen) (hrd : Rd w 1 A n (zs.flatMap cB)) (k : Nat) (hk : k ≤ 1000000000) :
    Calls Try.prog 33 #[.slice A n c, .int .i64 ((k : Nat) : Int)] w fun e w' => e = .returned (.int .i64 ((atN zs k : Nat) : Int)) ∧ w = w' :=
  (at_any A n c zs hlen hnc hcm hrd k (by omega) (by omega)).mono fun _ _ ⟨he, hw⟩ => ⟨by
    have := atV_lo zs k
    rw [he]
    unfold atN
    rw [Int.toNat_of_nonneg this], hw⟩
theorem RecG.txt {room : Int} {zs : List ERecord} {ds : List Int} {k : Nat} (h : RecG room zs ds k) : ∀ z ∈ zs, Txt z.f3 := fun z hz => by
  have := (recOk_parts (h.all z hz).1).2.2.2
  unfold Txt
  omega
theorem recorderOk_g {room : Int} {A B : Option Addr} {n cp m dp k : Nat} {zs : List ERecord} {ds : List Int} {w : World} (hG : RecG room zs ds k) (hk : k ≤ 1000) (hn : zs.length = n) (hr : Rd w 4 A n (zs.flatMap cRecord)) (hm : ds.length = m) (hr' : Rd w 1 B m (ds.flatMap cI)) :
    Calls Try.prog 35 #[.agg #[.int .i64 room, .slice A n cp, .slice B m dp]] w fun e w' => e = .returned (.bool true) ∧ Below w.heap.size w w' := by
  have hl := hG.len
  refine (recorderOk_any room A B n cp m dp zs ds w hn (by omega) hG.txt hr hm (by omega) hr').mono fun _ _ ⟨he, hb⟩ => ⟨?_, hb⟩
  rw [he, hG.ok (by omega)]
theorem roomLeft_g {room : Int} {A B : Option Addr} {n cp m dp k : Nat} {zs : List ERecord} {ds : List Int} {w : World} (hG : RecG room zs ds k) (hk : k ≤ 1000) (hn : zs.length = n) (hr : Rd w 4 A n (zs.flatMap cRecord)) (hm : ds.length = m) (hr' : Rd w 1 B m (ds.flatMap cI)) :
    Calls Try.prog 36 #[.agg #[.int .i64 room, .slice A n cp, .slice B m dp]] w fun e w' => e = .returned (.int .i64 (room - ((usedN zs : Nat) : Int))) ∧ Below w.heap.size w w' := by
  have hl := hG.len
  exact roomLeft_at w (hG.ok (by omega)) hn (by omega) hG.txt hr hm (by omega) hr'
theorem keepRecord_g {room : Int} {A B : Option Addr} {n cp m dp k : Nat} {zs : List ERecord} {ds : List Int} {x : ERecord} {w : World} (hG : RecG room zs ds k) (hk : k ≤ 1000) (hx : recOk x.f0 x.f1 x.f2 x.f3 = true) (hid : x.f0 = (k : Int)) (hn : zs.length = n) (hnc : n ≤ cp) (hr : Rd w 4 A n (zs.flatMap cRecord)) (hnn : A = none → n = 0 ∧ cp = 0) (hm : ds.length = m) (hnn' : B = none → m = 0 ∧ dp = 0) (hr' : Rd w 1 B m (ds.flatMap cI)) :
    Calls Try.prog 34 #[.agg #[.int .i64 room, .slice A n cp, .slice B m dp], .agg #[.int .i64 x.f0, .int .i64 x.f1, .int .i64 x.f2, .string ⟨(x.f3).toArray⟩]] w fun e w' => ∃ (ys : List ERecord) (es gone : List Int) (A' : Option Addr) (c' : Nat) (B' : Option Addr) (d' : Nat), e = .returned (.agg #[.int .i64 room, .slice A' ys.length c', .slice B' es.length d']) ∧ w'.ownsRow w.heap.size 26 4 (.slice A' ys.length c') ys.length (ys.flatMap cRecord) ∧ w'.ownsRow w.heap.size 3 1 (.slice B' es.length d') es.length (es.flatMap cI) ∧ RecG room ys es (k + 1) ∧ es = ds ++ gone ∧ (∀ d ∈ gone, ∀ z ∈ zs, z.f0 = d → z.f1 < x.f1) ∧ ((recSz x : Int) ≤ room - usedN zs → gone = []) ∧ Below w.heap.size w w' := by
  have hl := hG.len
  have hT : Txt x.f3 := by have := (recOk_parts hx).2.2.2; unfold Txt; omega
  obtain ⟨h1, gone, h2, h3, h4⟩ := hG.keep (by omega) hx hid
  refine (keepRecord_any room A B n cp m dp zs ds x w hn (by omega) hnc hG.txt hr hnn hm (by omega) hnn' hr' hT).mono fun _ _ ⟨v, he, hv, hb⟩ => ?_
  obtain ⟨A', n', c', B', m', d', rfl, rfl, rfl, ho, ho'⟩ := hv
  exact ⟨_, _, gone, A', c', B', d', he, ho, ho', h1, h2, h3, h4, hb⟩
theorem takeOne_g {room : Int} {A B : Option Addr} {n cp m dp k : Nat} {zs : List ERecord} {ds : List Int} {w : World} (hG : RecG room zs ds k) (hk : k ≤ 1000) (hn : zs.length = n) (hnc : n ≤ cp) (hcm : cp ≤ 9223372036854775807) (hr : Rd w 4 A n (zs.flatMap cRecord)) (hnn : A = none → n = 0 ∧ cp = 0) (hm : ds.length = m) (hnn' : B = none → m = 0 ∧ dp = 0) (hr' : Rd w 1 B m (ds.flatMap cI)) :
    Calls Try.prog 37 #[.agg #[.int .i64 room, .slice A n cp, .slice B m dp], .int .i64 1] w fun e w' => ∃ (A' : Option Addr) (c' : Nat) (B' : Option Addr) (d' : Nat) (G : Option Addr) (g : Nat), e = .returned (.tuple #[.agg #[.int .i64 room, .slice A' (zs.length - 1) c', .slice B' m d'], .slice G (zs.take 1).length g]) ∧ w'.ownsRow w.heap.size 26 4 (.slice A' (zs.length - 1) c') (zs.length - 1) ((zs.drop 1).flatMap cRecord) ∧ w'.ownsRow w.heap.size 3 1 (.slice B' m d') m (ds.flatMap cI) ∧ w'.ownsRow w.heap.size 26 4 (.slice G (zs.take 1).length g) (zs.take 1).length ((zs.take 1).flatMap cRecord) ∧ (∀ b, A'.map (·.block) = some b → G.map (·.block) ≠ some b) ∧ Below w.heap.size w w' := by
  have hl := hG.len
  have hok := hG.ok (by omega)
  have e1 : trL room 1 zs ds = zs.drop 1 ∧ trG room 1 zs ds = zs.take 1 := by
    have hn : trN 1 zs = min 1 zs.length := rfl
    unfold trL trG trOk
    rw [hok, hn]
    cases zs with
    | nil => simp
    | cons z zs => simp
  refine (takeRecords_any room 1 A B n cp m dp zs ds w hn (by omega) hnc hcm hG.txt hr hnn hm (by omega) hnn' hr').mono fun _ _ ⟨v, he, hv, hb⟩ => ?_
  obtain ⟨A', c', B', d', G, g, rfl, ho, ho', hg, hne⟩ := hv
  rw [e1.1, e1.2] at he
  rw [e1.1] at ho
  rw [e1.2] at hg
  rw [List.length_drop] at he ho
  subst hm
  exact ⟨A', c', B', d', G, g, he, ho, ho', hg, hne, hb⟩
end Go.Proofs.Ytnjopeonmenopaa
