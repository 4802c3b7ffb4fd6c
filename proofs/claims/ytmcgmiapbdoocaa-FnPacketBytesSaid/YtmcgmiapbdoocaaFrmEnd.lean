/- Plain law: all frames that arrive, one after the other. No condition. -/
import Derived.Test.YtmcgmiapbdoocaaFrmPush
namespace Go.Proofs.Ytmcgmiapbdoocaa
open Go.RowKit

def keptF (t : Nat → Bool) (P : List EPacket) (c0 : Int) : Nat → Nat → List EFrame
  | _, 0 => []
  | i, k + 1 => (if t i then [frAt P ((c0 + i) % 256) (24 * i)] else []) ++ keptF t P c0 (i + 1) k
def WhyN (t : Nat → Bool) (A : List EPacket) (i : Nat) : Prop := 24 * i = (flatP A).length ∨ ∃ j, (flatP A).length / 24 ≤ j ∧ j < i ∧ t j = false
structure UsV (u : EUnp) (m : Nat) : Prop where
  ch : u.ch = 0
  nx : -1 ≤ u.nx ∧ u.nx ≤ 255
  len : u.rest.length ≤ 43
  emp : u.sy = false → u.rest = []
  lost : 0 ≤ u.lost ∧ u.lost ≤ (m : Int)
theorem UsV.ok {u : EUnp} {m : Nat} (h : UsV u m) (hm : m ≤ 1000000) : unpOk u = true := by
  have := h.lost
  unfold unpOk
  rw [h.ch, inB_mk (by decide) (by decide), inB_mk h.nx.1 h.nx.2, inB_mk h.lost.1 (by omega), decide_eq_true (by have := h.len; omega : ((u.rest.length : Nat) : Int) ≤ 43)]
  cases hs : u.sy with
  | true => rfl
  | false => rw [h.emp hs]; rfl
theorem frAt_ok {P : List EPacket} {ct : Int} {n : Nat} (hN : n + 24 ≤ (flatP P).length) (hct : 0 ≤ ct ∧ ct ≤ 255) : frOk (frAt P ct n) = true := by
  have h3 : (((flatP P).drop n).take 24).length = 24 := by rw [List.length_take, List.length_drop]; omega
  have h2 : (inB (firstOf (dsAt P n)) 0 23 || decide (firstOf (dsAt P n) = 255)) = true := by
    cases hd : dsAt P n with
    | nil => rfl
    | cons d l =>
      have hm : d ∈ dsAt P n := by rw [hd]; exact List.mem_cons_self ..
      obtain ⟨k, _, hk, rfl⟩ := relD_mem hm
      unfold firstOf
      by_cases h : ((k : Nat) : Int) - ((n : Nat) : Int) < 24
      · simp only [h, if_true]
        rw [inB_mk (by omega) (by omega)]
        rfl
      · simp only [h, if_false]
        simp
  unfold frOk frAt
  simp only
  rw [inB_mk (by decide) (by decide), inB_mk hct.1 hct.2, h2, h3]
  rfl
/-- What holds ahead of frame i. -/
def Us (t : Nat → Bool) (A B : List EPacket) (i : Nat) (u : EUnp) : Prop :=
  (u.nx = -1 ∧ u.sy = false ∧ u.rest = [] ∧ WhyN t A i) ∨ (u.nx = ((i : Nat) : Int) % 256 ∧ Rc t A B i u.sy u.rest) ∨ ((∃ j, j < i ∧ u.nx = ((j : Nat) : Int) % 256 ∧ t j = false) ∧ WhyN t A i)
theorem kept_all {t : Nat → Bool} {P : List EPacket} (hP : ∀ x ∈ P, pkOk x = true) : ∀ (k i : Nat) (A B : List EPacket) (u : EUnp), 24 * (i + k) ≤ (flatP P).length → i + k ≤ 255 → AtP P A B (24 * i) → UsV u i → Us t A B i u → ((∃ j, j < i ∧ t j = false) ∨ u.lost = 0) →
    PushOk u (keptF t P 0 i k) ∧ UsV (pushUs u (keptF t P 0 i k)) (i + k) ∧ ((∃ j, j < i + k ∧ t j = false) ∨ (pushUs u (keptF t P 0 i k)).lost = 0) ∧
    ∃ B1 B2, AtP P (A ++ B1) B2 (24 * (i + k)) ∧ pushLs u (keptF t P 0 i k) = notIdle (wantL t (flatP A).length B1)
  | 0, i, A, B, u, _, _, hA, hv, hu, hl => ⟨trivial, hv, hl, [], B, by rw [List.append_nil]; exact hA, rfl⟩
  | k + 1, i, A, B, u, hN, hk, hA, hv, hu, hl => by
    have hi : (((0 : Int) + ((i : Nat) : Int)) % 256) = (i : Int) := by omega
    by_cases hti : t i = true
    · simp only [keptF, hti, if_true, List.singleton_append, hi]
      have hok := hv.ok (by omega)
      have hfok := frAt_ok (P := P) (ct := (i : Int)) (n := 24 * i) (by omega) (by omega)
      -- the lost part
      have hL : Rc t A B i (lostU u (frAt P (i : Int) (24 * i))).sy (lostU u (frAt P (i : Int) (24 * i))).rest ∧ UsV (lostU u (frAt P (i : Int) (24 * i))) (i + 1) ∧ ((∃ j, j < i + 1 ∧ t j = false) ∨ (lostU u (frAt P (i : Int) (24 * i))).lost = 0) := by
        have hv1 : UsV u (i + 1) := ⟨hv.ch, hv.nx, hv.len, hv.emp, hv.lost.1, by have := hv.lost; omega⟩
        have hl1 : (∃ j, j < i + 1 ∧ t j = false) ∨ u.lost = 0 := hl.imp (fun ⟨j, h1, h2⟩ => ⟨j, by omega, h2⟩) id
        have hf1 : (frAt P (i : Int) (24 * i)).f1 = (i : Int) := rfl
        unfold lostU
        rw [hf1]
        rcases hu with ⟨h1, h2, h3, h4⟩ | ⟨h1, h2⟩ | ⟨⟨j, hj, h1, htj⟩, h2⟩
        · rw [if_neg (fun h => h.1 h1)]
          exact ⟨.inr ⟨h2, h3, h4⟩, hv1, hl1⟩
        · rw [if_neg (fun h => h.2 (by omega))]
          exact ⟨h2, hv1, hl1⟩
        · rw [if_pos ⟨by omega, by omega⟩]
          have := hv.lost
          refine ⟨.inr ⟨rfl, rfl, h2⟩, ⟨hv.ch, hv.nx, by simp [loseU], fun _ => rfl, ?_⟩, .inl ⟨j, by omega, htj⟩⟩
          unfold loseU
          simp only
          split <;> omega
      obtain ⟨hR, hv1, hl1⟩ := hL
      obtain ⟨B1, B2, sy, rest, hA', hR', hc, hd, hlen, hemp⟩ := core_at (ct := (i : Int)) hP (by omega) hA hti hR
      have hpu : pushU u (frAt P (i : Int) (24 * i)) = ⟨0, ((i : Int) + 1) % 256, sy, rest, (lostU u (frAt P (i : Int) (24 * i))).lost⟩ := by
        unfold pushU
        rw [hc, hv1.ch]
      have hpl : pushL u (frAt P (i : Int) (24 * i)) = notIdle (wantL t (flatP A).length B1) := by
        unfold pushL
        rw [hd]
      have hv2 : UsV (pushU u (frAt P (i : Int) (24 * i))) (i + 1) := by
        rw [hpu]
        exact ⟨rfl, by simp only; omega, hlen, hemp, hv1.lost⟩
      have hu2 : Us t (A ++ B1) B2 (i + 1) (pushU u (frAt P (i : Int) (24 * i))) := by
        rw [hpu]
        exact .inr (.inl ⟨by simp only; omega, hR'⟩)
      have hl2 : (∃ j, j < i + 1 ∧ t j = false) ∨ (pushU u (frAt P (i : Int) (24 * i))).lost = 0 := by rw [hpu]; exact hl1
      obtain ⟨h1, h2, h3, C1, C2, h4, h5⟩ := kept_all hP k (i + 1) (A ++ B1) B2 _ (by omega) (by omega) hA' hv2 hu2 hl2
      rw [show i + 1 + k = i + (k + 1) from by omega] at h2 h3 h4
      refine ⟨⟨hok, hfok, hv.ch, h1⟩, h2, h3, B1 ++ C1, C2, by rw [← List.append_assoc]; exact h4, ?_⟩
      simp only [pushLs]
      rw [hpl, h5, wantL_append, notIdle_append, flatP_append, List.length_append]
    · have hti : t i = false := by simpa using hti
      simp only [keptF, hti, Bool.false_eq_true, if_false, List.nil_append]
      obtain ⟨B1, B2, hA', hw, hwhy⟩ := skip_at hA hti
      have hu2 : Us t (A ++ B1) B2 (i + 1) u := by
        rcases hu with ⟨h1, h2, h3, h4⟩ | ⟨h1, h2⟩ | ⟨⟨j, hj, h1, htj⟩, h2⟩
        · exact .inl ⟨h1, h2, h3, hwhy⟩
        · exact .inr (.inr ⟨⟨i, by omega, h1, hti⟩, hwhy⟩)
        · exact .inr (.inr ⟨⟨j, by omega, h1, htj⟩, hwhy⟩)
      have hv1 : UsV u (i + 1) := ⟨hv.ch, hv.nx, hv.len, hv.emp, hv.lost.1, by have := hv.lost; omega⟩
      obtain ⟨h1, h2, h3, C1, C2, h4, h5⟩ := kept_all hP k (i + 1) (A ++ B1) B2 u (by omega) (by omega) hA' hv1 hu2 (.inl ⟨i, by omega, hti⟩)
      rw [show i + 1 + k = i + (k + 1) from by omega] at h2 h3 h4
      refine ⟨h1, h2, h3, B1 ++ C1, C2, by rw [← List.append_assoc]; exact h4, ?_⟩
      rw [h5, wantL_append, hw, List.nil_append, flatP_append, List.length_append]
theorem wantL_sub (t : Nat → Bool) : ∀ (A : List EPacket) (s : Nat), ∀ x ∈ wantL t s A, x ∈ A
  | [], s, x, h => h
  | y :: A, s, x, h => by
    simp only [wantL] at h
    rcases List.mem_append.1 h with h | h
    · split at h
      · rw [List.mem_singleton.1 h]; exact List.mem_cons_self ..
      · exact (List.not_mem_nil h).elim
    · exact List.mem_cons_of_mem _ (wantL_sub t A _ x h)
theorem notIdle_id {l : List EPacket} (h : ∀ x ∈ l, x.f0 ≠ 15) : notIdle l = l := by
  unfold notIdle
  rw [List.filter_eq_self]
  intro x hx
  rw [decide_eq_false (h x hx)]
  rfl
theorem notIdle_nil {l : List EPacket} (h : ∀ x ∈ l, x.f0 = 15) : notIdle l = [] := by
  unfold notIdle
  rw [List.filter_eq_nil_iff]
  intro x hx
  rw [decide_eq_true (h x hx)]
  simp
def newU : EUnp := ⟨0, -1, false, [], 0⟩
theorem newU_v (m : Nat) : UsV newU m := ⟨rfl, by decide, by decide, fun _ => rfl, by decide, by show (0 : Int) ≤ _; omega⟩
theorem at_zero (P : List EPacket) : AtP P [] P 0 := ⟨rfl, by simp [flatP], fun y B' _ => by have := pkB_len y; omega⟩
theorem at_end {P A B : List EPacket} {n : Nat} (h : AtP P A B n) (hn : (flatP P).length = n) : A = P ∧ B = [] := by
  cases hb : B with
  | nil =>
    have := h.eq
    rw [hb, List.append_nil] at this
    exact ⟨this.symm, rfl⟩
  | cons y B' =>
    have h1 := h.lt y B' hb
    have h2 : (flatP P).length = (flatP A).length + (flatP B).length := by rw [h.eq, flatP_append, List.length_append]
    rw [hb, flatP_cons, List.length_append] at h2
    omega
/-- The law of frames that are lost. -/
theorem lost_law {t : Nat → Bool} {ps I : List EPacket} {N : Nat} (h1 : ∀ x ∈ ps, pkOk x = true ∧ x.f0 ≠ 15) (h2 : ∀ x ∈ I, pkOk x = true ∧ x.f0 = 15) (hN : (flatP (ps ++ I)).length = 24 * N) (hN2 : N ≤ 255) :
    PushOk newU (keptF t (ps ++ I) 0 0 N) ∧ unpOk (pushUs newU (keptF t (ps ++ I) 0 0 N)) = true ∧ ((∃ j, j < N ∧ t j = false) ∨ (pushUs newU (keptF t (ps ++ I) 0 0 N)).lost = 0) ∧ pushLs newU (keptF t (ps ++ I) 0 0 N) = wantL t 0 ps := by
  have hP : ∀ x ∈ ps ++ I, pkOk x = true := fun x hx => (List.mem_append.1 hx).elim (fun h => (h1 x h).1) (fun h => (h2 x h).1)
  obtain ⟨g1, g2, g3, B1, B2, g4, g5⟩ := kept_all (t := t) hP N 0 [] (ps ++ I) newU (by omega) (by omega) (at_zero _) (newU_v 0) (.inl ⟨rfl, rfl, rfl, .inl rfl⟩) (.inr rfl)
  rw [Nat.zero_add] at g2 g3 g4
  refine ⟨g1, g2.ok (by omega), g3, ?_⟩
  have := (at_end g4 hN).1
  rw [List.nil_append] at this
  rw [g5, this]
  show notIdle (wantL t 0 (ps ++ I)) = _
  rw [wantL_append, notIdle_append, notIdle_id (fun x hx => (h1 x (wantL_sub t ps 0 x hx)).2), notIdle_nil (fun x hx => (h2 x (wantL_sub t I _ x hx)).2), List.append_nil]

/-! ### All frames arrive -/
def allT : Nat → Bool := fun _ => true
structure Uw (c0 : Int) (P : List EPacket) (i : Nat) (u : EUnp) (got : List EPacket) : Prop where
  v : UsV u 0
  le : 24 * i ≤ (flatP P).length
  st : ∃ A B, AtP P A B (24 * i) ∧ got = notIdle A ∧ ((u.nx = -1 ∧ u.sy = false ∧ u.rest = [] ∧ i = 0) ∨ (u.nx = (c0 + (i : Int)) % 256 ∧ Rc allT A B i u.sy u.rest))
theorem Uw.new (c0 : Int) : Uw c0 [] 0 newU [] := ⟨newU_v 0, by simp, [], [], at_zero [], rfl, .inl ⟨rfl, rfl, rfl, rfl⟩⟩
theorem Uw.more {c0 : Int} {P : List EPacket} {i : Nat} {u : EUnp} {got : List EPacket} (h : Uw c0 P i u got) (Q : List EPacket) : Uw c0 (P ++ Q) i u got := by
  obtain ⟨A, B, hA, hg, hs⟩ := h.st
  have hle := h.le
  have hP : (flatP P).length = (flatP A).length + (flatP B).length := by rw [hA.eq, flatP_append, List.length_append]
  refine ⟨h.v, by rw [flatP_append, List.length_append]; omega, A, B ++ Q, ⟨by rw [hA.eq, List.append_assoc], hA.le, fun y B' e => ?_⟩, hg, hs.imp id fun ⟨h1, h2⟩ => ⟨h1, ?_⟩⟩
  · cases hb : B with
    | nil =>
      have := pkB_len y
      rw [hb, flatP_nil, List.length_nil] at hP
      omega
    | cons z B1 =>
      rw [hb, List.cons_append] at e
      obtain ⟨rfl, rfl⟩ := List.cons.inj e
      exact hA.lt _ _ hb
  · refine h2.imp (fun ⟨h3, h4, h5⟩ => ⟨h3, ?_, h5⟩) id
    rw [h4, flatP_append, List.take_append_of_le_length (by omega)]
theorem whole_all {P : List EPacket} {c0 : Int} (h0 : 0 ≤ c0) (hP : ∀ x ∈ P, pkOk x = true) : ∀ (k i : Nat) (u : EUnp) (got : List EPacket), 24 * (i + k) ≤ (flatP P).length → Uw c0 P i u got →
    PushOk u (frs P c0 i k) ∧ Uw c0 P (i + k) (pushUs u (frs P c0 i k)) (got ++ pushLs u (frs P c0 i k))
  | 0, i, u, got, _, h => ⟨trivial, by show Uw c0 P i u (got ++ []); rw [List.append_nil]; exact h⟩
  | k + 1, i, u, got, hN, h => by
    obtain ⟨A, B, hA, hg, hs⟩ := h.st
    simp only [frs]
    obtain ⟨ct, hct⟩ : ∃ ct : Int, ct = (c0 + (i : Int)) % 256 := ⟨_, rfl⟩
    rw [← hct]
    rw [← hct] at hs
    have hok := h.v.ok (by omega)
    have hfok := frAt_ok (P := P) (ct := ct) (n := 24 * i) (by omega) (by omega)
    have hlo : lostU u (frAt P ct (24 * i)) = u := by
      unfold lostU
      rw [if_neg]
      rintro ⟨h1, h2⟩
      rcases hs with ⟨h3, _⟩ | ⟨h3, _⟩
      · exact h1 h3
      · exact h2 h3
    have hR : Rc allT A B i u.sy u.rest := by
      rcases hs with ⟨_, h2, h3, h4⟩ | ⟨_, h3⟩
      · refine .inr ⟨h2, h3, .inl ?_⟩
        have := hA.le
        omega
      · exact h3
    obtain ⟨B1, B2, sy, rest, hA', hR', hc, hd, hlen, hemp⟩ := core_at (ct := ct) hP (by omega) hA (show allT i = true from rfl) hR
    have hpu : pushU u (frAt P ct (24 * i)) = ⟨0, (ct + 1) % 256, sy, rest, u.lost⟩ := by
      unfold pushU
      rw [hlo, hc, h.v.ch]
    have hpl : pushL u (frAt P ct (24 * i)) = notIdle B1 := by
      unfold pushL
      rw [hlo, hd, wantL_all (t := allT) _ _ (fun _ _ _ => rfl)]
    have hw : Uw c0 P (i + 1) (pushU u (frAt P ct (24 * i))) (got ++ pushL u (frAt P ct (24 * i))) := by
      refine ⟨?_, by omega, A ++ B1, B2, hA', by rw [hpl, hg, notIdle_append], .inr ?_⟩
      · rw [hpu]
        exact ⟨rfl, by simp only; omega, hlen, hemp, h.v.lost⟩
      · rw [hpu]
        exact ⟨by simp only; omega, hR'⟩
    obtain ⟨g1, g2⟩ := whole_all h0 hP k (i + 1) _ _ (by omega) hw
    rw [show i + 1 + k = i + (k + 1) from by omega] at g2
    refine ⟨⟨hok, hfok, h.v.ch, g1⟩, ?_⟩
    simp only [pushUs, pushLs]
    rw [← List.append_assoc]
    exact g2
theorem Uw.end {c0 : Int} {P : List EPacket} {i : Nat} {u : EUnp} {got : List EPacket} (h : Uw c0 P i u got) (he : (flatP P).length = 24 * i) : got = notIdle P ∧ u.lost = 0 ∧ u.rest = [] := by
  obtain ⟨A, B, hA, hg, hs⟩ := h.st
  obtain ⟨h1, h2⟩ := at_end hA he
  refine ⟨by rw [hg, h1], by have := h.v.lost; omega, ?_⟩
  rcases hs with ⟨_, _, h3, _⟩ | ⟨_, ⟨_, h3, _⟩ | ⟨_, h3, _⟩⟩
  · exact h3
  · rw [h3, h2, flatP_nil, List.take_nil]
  · exact h3
end Go.Proofs.Ytmcgmiapbdoocaa
