/- Plain law: what comes out of the frames that arrive. No condition. -/
import Derived.Test.YtmcgmiapbdoocaaFrmCut
namespace Go.Proofs.Ytmcgmiapbdoocaa
open Go.RowKit

structure EUnp where
  ch : Int
  nx : Int
  sy : Bool
  rest : List UInt8
  lost : Int
def unpOk (u : EUnp) : Bool := inB u.ch 0 2 && (inB u.nx (-1) 255 && (inB u.lost 0 1000000 && ((u.sy || decide (u.rest = [])) && decide (((u.rest.length : Nat) : Int) ≤ 43))))
def frOk (f : EFrame) : Bool := inB f.f0 0 2 && (inB f.f1 0 255 && ((inB f.f2 0 23 || decide (f.f2 = 255)) && decide (((f.f3.length : Nat) : Int) = 24)))
def loseU (u : EUnp) : EUnp := ⟨u.ch, u.nx, false, [], if u.lost < 1000000 then u.lost + 1 else u.lost⟩
/-- A frame of the unpacker's channel, both valid. -/
def lostU (u : EUnp) (f : EFrame) : EUnp := if u.nx ≠ -1 ∧ u.nx ≠ f.f1 then loseU u else u
def restU (u : EUnp) (f : EFrame) : List UInt8 := if u.sy then u.rest ++ f.f3 else if f.f2 = 255 then u.rest else f.f3.drop f.f2.toNat
def syU (u : EUnp) (f : EFrame) : Bool := u.sy || !decide (f.f2 = 255)
def coreU (u : EUnp) (f : EFrame) : EUnp :=
  let v : EUnp := ⟨u.ch, (f.f1 + 1) % 256, syU u f, (decs (restU u f)).2, u.lost⟩
  if badH (decs (restU u f)).2 then loseU v else v
def notIdle (l : List EPacket) : List EPacket := l.filter (fun x => !decide (x.f0 = 15))
theorem notIdle_append (a b : List EPacket) : notIdle (a ++ b) = notIdle a ++ notIdle b := List.filter_append ..
def pushU (u : EUnp) (f : EFrame) : EUnp := coreU (lostU u f) f
def pushL (u : EUnp) (f : EFrame) : List EPacket := notIdle (decs (restU (lostU u f) f)).1
def pushUs : EUnp → List EFrame → EUnp
  | u, [] => u
  | u, f :: l => pushUs (pushU u f) l
def pushLs : EUnp → List EFrame → List EPacket
  | _, [] => []
  | u, f :: l => pushL u f ++ pushLs (pushU u f) l
/-- All is valid along the way. -/
def PushOk : EUnp → List EFrame → Prop
  | _, [] => True
  | u, f :: l => unpOk u = true ∧ frOk f = true ∧ u.ch = f.f0 ∧ PushOk (pushU u f) l

/-! ### Which packets are wanted -/
def whB (t : Nat → Bool) (s l : Nat) : Bool := (List.range ((s + l - 1) / 24 + 1 - s / 24)).all fun j => t (s / 24 + j)
theorem whB_iff {t : Nat → Bool} {s l : Nat} : whB t s l = true ↔ ∀ i, s / 24 ≤ i → i ≤ (s + l - 1) / 24 → t i = true := by
  unfold whB
  rw [List.all_eq_true]
  constructor
  · intro h i h1 h2
    have := h (i - s / 24) (List.mem_range.2 (by omega))
    rwa [show s / 24 + (i - s / 24) = i from by omega] at this
  · intro h j hj
    exact h _ (by omega) (by have := List.mem_range.1 hj; omega)
def wantL (t : Nat → Bool) : Nat → List EPacket → List EPacket
  | _, [] => []
  | s, y :: B => (if whB t s (pkB y).length then [y] else []) ++ wantL t (s + (pkB y).length) B
theorem wantL_append (t : Nat → Bool) : ∀ (A : List EPacket) (s : Nat) (B : List EPacket), wantL t s (A ++ B) = wantL t s A ++ wantL t (s + (flatP A).length) B
  | [], s, B => by simp [wantL, flatP]
  | y :: A, s, B => by
    simp only [List.cons_append, wantL, flatP_cons, List.length_append]
    rw [wantL_append t A, List.append_assoc, Nat.add_assoc]
theorem wantL_all {t : Nat → Bool} : ∀ (A : List EPacket) (s : Nat), (∀ i, s / 24 ≤ i → i ≤ (s + (flatP A).length - 1) / 24 → t i = true) → wantL t s A = A
  | [], s, _ => rfl
  | y :: A, s, h => by
    have hl := pkB_len y
    rw [flatP_cons, List.length_append] at h
    simp only [wantL]
    rw [if_pos (whB_iff.2 fun i h1 h2 => h i h1 (by omega)), wantL_all A _ fun i h1 h2 => h i (by omega) (by omega)]
    rfl
theorem wantL_none {t : Nat → Bool} {i0 : Nat} (h0 : t i0 = false) : ∀ (A : List EPacket) (s : Nat), (∀ (y : EPacket), ∀ A1 A2, A = A1 ++ y :: A2 → (s + (flatP A1).length) / 24 ≤ i0 ∧ i0 ≤ (s + (flatP A1).length + (pkB y).length - 1) / 24) → wantL t s A = []
  | [], s, _ => rfl
  | y :: A, s, h => by
    simp only [wantL]
    have h1 := h y [] A rfl
    simp only [flatP_nil, List.length_nil, Nat.add_zero] at h1
    have e : whB t s (pkB y).length = false := by
      cases hw : whB t s (pkB y).length with
      | false => rfl
      | true => rw [whB_iff.1 hw i0 h1.1 h1.2] at h0; cases h0
    rw [e, wantL_none h0 A (s + (pkB y).length) fun z A1 A2 e => ?_]
    · rfl
    · have := h z (y :: A1) A2 (by rw [e]; rfl)
      rw [flatP_cons, List.length_append] at this
      rwa [Nat.add_assoc s]

/-! ### One frame that arrives -/
/-- What the unpacker holds ahead of frame i (a lost part has been dropped). -/
def Rc (t : Nat → Bool) (A B : List EPacket) (i : Nat) (sy : Bool) (rest : List UInt8) : Prop :=
  (sy = true ∧ rest = (flatP B).take (24 * i - (flatP A).length) ∧ ∀ j, (flatP A).length / 24 ≤ j → j < i → t j = true) ∨
  (sy = false ∧ rest = [] ∧ (24 * i = (flatP A).length ∨ ∃ j, (flatP A).length / 24 ≤ j ∧ j < i ∧ t j = false))
theorem flatP_len_pos {y : EPacket} {B : List EPacket} : 4 ≤ (flatP (y :: B)).length := by
  rw [flatP_cons, List.length_append]
  have := pkB_len y
  omega
theorem cut_zero (B : List EPacket) : cut B 0 = ([], B) := by
  cases B with
  | nil => rfl
  | cons y B =>
    have := pkB_len y
    unfold cut
    rw [if_neg (by omega)]
theorem core_at {t : Nat → Bool} {P A B : List EPacket} {i : Nat} {ct : Int} {u : EUnp} (hP : ∀ x ∈ P, pkOk x = true) (hN : 24 * i + 24 ≤ (flatP P).length) (hA : AtP P A B (24 * i)) (hti : t i = true) (hR : Rc t A B i u.sy u.rest) :
    ∃ (B1 B2 : List EPacket) (sy : Bool) (rest : List UInt8), AtP P (A ++ B1) B2 (24 * (i + 1)) ∧ Rc t (A ++ B1) B2 (i + 1) sy rest ∧ coreU u (frAt P ct (24 * i)) = ⟨u.ch, (ct + 1) % 256, sy, rest, u.lost⟩ ∧
      (decs (restU u (frAt P ct (24 * i)))).1 = wantL t (flatP A).length B1 ∧ rest.length ≤ 43 ∧ (sy = false → rest = []) := by
  have hgo := hA.go 24
  have hle := hA.le
  have hPl : (flatP P).length = (flatP A).length + (flatP B).length := by rw [hA.eq, flatP_append, List.length_append]
  have hBo : ∀ x ∈ B, pkOk x = true := fun x hx => hP x (by rw [hA.eq]; exact List.mem_append_right _ hx)
  obtain ⟨m, hm⟩ : ∃ m, m = 24 * i - (flatP A).length + 24 := ⟨_, rfl⟩
  rw [← hm] at hgo
  rw [show 24 * i + 24 = 24 * (i + 1) from by omega] at hgo hN
  have hcut := cut_at B m
  have hB1 : (flatP A).length + (flatP (cut B m).1).length ≤ 24 * (i + 1) := by have := hcut.le; omega
  have hpart := rest_part hgo hP
  have hA1 : (flatP (A ++ (cut B m).1)).length = (flatP A).length + (flatP (cut B m).1).length := by rw [flatP_append, List.length_append]
  have hdecs := decs_cut B m hBo
  -- the case that all of the stream from A on is read on
  have synced : ∀ r : List UInt8, r = (flatP B).take m → (∀ j, (flatP A).length / 24 ≤ j → j < i → t j = true) → restU u (frAt P ct (24 * i)) = r → syU u (frAt P ct (24 * i)) = true → ∃ (B1 B2 : List EPacket) (sy : Bool) (rest : List UInt8), AtP P (A ++ B1) B2 (24 * (i + 1)) ∧ Rc t (A ++ B1) B2 (i + 1) sy rest ∧ coreU u (frAt P ct (24 * i)) = ⟨u.ch, (ct + 1) % 256, sy, rest, u.lost⟩ ∧
      (decs (restU u (frAt P ct (24 * i)))).1 = wantL t (flatP A).length B1 ∧ rest.length ≤ 43 ∧ (sy = false → rest = []) := fun r hr hok hrest hsy => by
    refine ⟨(cut B m).1, (cut B m).2, true, (flatP (cut B m).2).take (24 * (i + 1) - (flatP (A ++ (cut B m).1)).length), hgo, .inl ⟨rfl, rfl, fun j h1 h2 => ?_⟩, ?_, ?_, hpart.2.2, fun h => by cases h⟩
    · by_cases hj : j = i
      · rw [hj]; exact hti
      · refine hok j ?_ (by omega)
        rw [hA1] at h1
        omega
    · have e : (decs (restU u (frAt P ct (24 * i)))).2 = (flatP (cut B m).2).take (24 * (i + 1) - (flatP (A ++ (cut B m).1)).length) := by
        rw [hrest, hr, hdecs, hA1]
        show List.take _ _ = _
        congr 1
        omega
      unfold coreU
      rw [e, hsy, hpart.2.1]
      rfl
    · rw [hrest, hr, hdecs]
      show (cut B m).1 = _
      rw [wantL_all]
      intro j h1 h2
      by_cases hj : j < i
      · exact hok j h1 hj
      · by_cases hz : (flatP (cut B m).1).length = 0
        · have : j = i := by omega
          rw [this]; exact hti
        · have : j = i := by omega
          rw [this]; exact hti
  rcases hR with ⟨hsy, hrest, hok⟩ | ⟨hsy, hrest, hwhy⟩
  · refine synced _ rfl hok ?_ (by unfold syU; rw [hsy]; rfl)
    unfold restU frAt
    rw [hsy, if_pos rfl, hrest, hA.take 24, hm]
  · by_cases heven : 24 * i = (flatP A).length
    · -- the frame begins with a packet
      have hBn : B ≠ [] := fun h => by rw [h, flatP_nil, List.length_nil] at hPl; omega
      have hf : firstOf (dsAt P (24 * i)) = 0 := by
        rw [dsAt_even hA heven, firstOf_stN, if_pos ⟨hBn, by decide⟩]
        rfl
      refine synced _ rfl (fun j h1 h2 => by omega) ?_ ?_
      · unfold restU frAt
        simp only [hf, hsy, Bool.false_eq_true, if_false]
        rw [if_neg (by decide)]
        show List.drop 0 _ = _
        rw [List.drop_zero, hA.drop, hm]
        rw [show 24 * i - (flatP A).length = 0 from by omega, List.drop_zero, Nat.zero_add]
      · unfold syU frAt
        simp only [hf, hsy]
        rfl
    · obtain ⟨j0, hj1, hj2, hj3⟩ := hwhy.resolve_left heven
      clear hwhy
      obtain ⟨y, B', rfl⟩ : ∃ y B', B = y :: B' := by
        cases B with
        | nil => rw [flatP_nil, List.length_nil] at hPl; omega
        | cons y B' => exact ⟨y, B', rfl⟩
      have hy := hA.lt y B' rfl
      have hyl := pkB_len y
      have hfo : firstOf (dsAt P (24 * i)) = if B' ≠ [] ∧ (flatP A).length + (pkB y).length - 24 * i < 24 then (((flatP A).length + (pkB y).length - 24 * i : Nat) : Int) else 255 := by
        rw [dsAt_odd hA (by omega), firstOf_stN]
      by_cases hf : B' ≠ [] ∧ (flatP A).length + (pkB y).length - 24 * i < 24
      · -- the rest of y, and then a packet begins
        rw [if_pos hf] at hfo
        obtain ⟨s2, hs2⟩ : ∃ s2, s2 = (flatP A).length + (pkB y).length - 24 * i := ⟨_, rfl⟩
        rw [← hs2] at hfo hf
        have hym : (pkB y).length ≤ m := by omega
        have hc1 : cut (y :: B') m = (y :: (cut B' (24 - s2)).1, (cut B' (24 - s2)).2) := by
          conv => lhs; unfold cut
          rw [if_pos hym, show m - (pkB y).length = 24 - s2 from by omega]
        have hdecs' := decs_cut B' (24 - s2) (fun x hx => hBo x (List.mem_cons_of_mem _ hx))
        rw [hc1] at hgo hcut hB1 hpart hA1
        simp only at hgo hcut hB1 hpart hA1
        have hrs : restU u (frAt P ct (24 * i)) = (flatP B').take (24 - s2) := by
          unfold restU frAt
          simp only [hfo, hsy, Bool.false_eq_true, if_false]
          rw [if_neg (by omega), Int.toNat_natCast, hA.drop, flatP_cons, List.drop_append_of_le_length (by omega), List.take_append, List.drop_append, List.length_take, List.length_drop,
            List.drop_of_length_le (by rw [List.length_take, List.length_drop]; omega), List.nil_append]
          rw [show s2 - min 24 ((pkB y).length - (24 * i - (flatP A).length)) = 0 from by omega, List.drop_zero]
          congr 1
          omega
        have hcl : (flatP (y :: (cut B' (24 - s2)).1)).length = (pkB y).length + (flatP (cut B' (24 - s2)).1).length := by rw [flatP_cons, List.length_append]
        refine ⟨y :: (cut B' (24 - s2)).1, (cut B' (24 - s2)).2, true, (flatP (cut B' (24 - s2)).2).take (24 * (i + 1) - (flatP (A ++ y :: (cut B' (24 - s2)).1)).length), hgo, .inl ⟨rfl, rfl, fun j h1 h2 => ?_⟩, ?_, ?_, hpart.2.2, fun h => by cases h⟩
        · have : j = i := by rw [hA1, hcl] at h1; omega
          rw [this]; exact hti
        · have e : (decs (restU u (frAt P ct (24 * i)))).2 = (flatP (cut B' (24 - s2)).2).take (24 * (i + 1) - (flatP (A ++ y :: (cut B' (24 - s2)).1)).length) := by
            rw [hrs, hdecs', hA1, hcl]
            show List.take _ _ = _
            congr 1
            omega
          have hsy2 : syU u (frAt P ct (24 * i)) = true := by
            unfold syU frAt
            simp only [hfo, hsy]
            rw [decide_eq_false (by omega)]
            rfl
          unfold coreU
          rw [e, hsy2, hpart.2.1]
          rfl
        · rw [hrs, hdecs']
          show (cut B' (24 - s2)).1 = _
          simp only [wantL]
          have hno : whB t (flatP A).length (pkB y).length = false := by
            cases hw : whB t (flatP A).length (pkB y).length with
            | false => rfl
            | true => rw [whB_iff.1 hw j0 hj1 (by omega)] at hj3; cases hj3
          rw [hno, wantL_all _ _ fun j h1 h2 => ?_]
          · rfl
          · have hcc := (cut_at B' (24 - s2)).le
            have : j = i := by omega
            rw [this]; exact hti
      · -- nothing begins in this frame
        rw [if_neg hf] at hfo
        have hrs : restU u (frAt P ct (24 * i)) = [] := by
          unfold restU frAt
          simp only [hfo, hsy, Bool.false_eq_true, if_false]
          rw [if_pos trivial, hrest]
        have hsy2 : syU u (frAt P ct (24 * i)) = false := by
          unfold syU frAt
          simp only [hfo, hsy]
          rfl
        have hdn : decs ([] : List UInt8) = ([], []) := decs_none dec0_nil.1
        have hcore : coreU u (frAt P ct (24 * i)) = ⟨u.ch, (ct + 1) % 256, false, [], u.lost⟩ := by
          unfold coreU
          rw [hrs, hdn, hsy2]
          rfl
        have hge : m ≤ (pkB y).length := by
          by_cases hB' : B' = []
          · subst hB'
            rw [flatP_cons, flatP_nil, List.append_nil] at hPl
            omega
          · have h9 : ¬ (flatP A).length + (pkB y).length - 24 * i < 24 := fun k => hf ⟨hB', k⟩
            omega
        by_cases hem : (pkB y).length = m
        · have hc1 : cut (y :: B') m = ([y], B') := by
            conv => lhs; unfold cut
            rw [if_pos (by omega), show m - (pkB y).length = 0 from by omega, cut_zero]
          rw [hc1] at hgo hA1
          rw [flatP_one] at hA1
          refine ⟨[y], B', false, [], hgo, .inr ⟨rfl, rfl, .inl (by rw [hA1]; omega)⟩, hcore, ?_, by simp, fun _ => rfl⟩
          rw [hrs, hdn]
          simp only [wantL]
          have hno : whB t (flatP A).length (pkB y).length = false := by
            cases hw : whB t (flatP A).length (pkB y).length with
            | false => rfl
            | true => rw [whB_iff.1 hw j0 hj1 (by omega)] at hj3; cases hj3
          rw [hno]
          rfl
        · have hc1 : cut (y :: B') m = ([], y :: B') := by
            conv => lhs; unfold cut
            rw [if_neg (by omega)]
          rw [hc1] at hgo
          refine ⟨[], y :: B', false, [], hgo, .inr ⟨rfl, rfl, .inr ⟨j0, by rw [List.append_nil]; exact hj1, by omega, hj3⟩⟩, hcore, ?_, by simp, fun _ => rfl⟩
          rw [hrs, hdn]
          rfl
/-- A frame that does not arrive: nothing that ends in it is wanted. -/
theorem skip_at {t : Nat → Bool} {P A B : List EPacket} {i : Nat} (hA : AtP P A B (24 * i)) (hti : t i = false) :
    ∃ B1 B2 : List EPacket, AtP P (A ++ B1) B2 (24 * (i + 1)) ∧ wantL t (flatP A).length B1 = [] ∧ (24 * (i + 1) = (flatP (A ++ B1)).length ∨ ∃ j, (flatP (A ++ B1)).length / 24 ≤ j ∧ j < i + 1 ∧ t j = false) := by
  have hgo := hA.go 24
  rw [show 24 * i + 24 = 24 * (i + 1) from by omega] at hgo
  have hle := hA.le
  refine ⟨_, _, hgo, wantL_none hti _ _ fun y A1 A2 e => ?_, ?_⟩
  · have hg := hgo.le
    rw [e, flatP_append, flatP_append, flatP_cons] at hg
    simp only [List.length_append] at hg
    have hyl := pkB_len y
    refine ⟨by omega, ?_⟩
    -- the packet ends behind the frame's begin
    have hlt : 24 * i < (flatP A).length + (flatP A1).length + (pkB y).length := by
      cases A1 with
      | nil =>
        have hb : B = y :: (A2 ++ (cut B (24 * i - (flatP A).length + 24)).2) := by
          have := (cut_at B (24 * i - (flatP A).length + 24)).eq
          rw [e] at this
          exact this
        have := hA.lt y _ hb
        rw [flatP_nil, List.length_nil]
        omega
      | cons z A1 =>
        have hb : B = z :: (A1 ++ y :: A2 ++ (cut B (24 * i - (flatP A).length + 24)).2) := by
          have := (cut_at B (24 * i - (flatP A).length + 24)).eq
          rw [e] at this
          simpa using this
        have := hA.lt z _ hb
        rw [flatP_cons, List.length_append]
        omega
    omega
  · by_cases h : 24 * (i + 1) = (flatP (A ++ (cut B (24 * i - (flatP A).length + 24)).1)).length
    · exact .inl h
    · have := hgo.le
      exact .inr ⟨i, by omega, by omega, hti⟩
end Go.Proofs.Ytmcgmiapbdoocaa
