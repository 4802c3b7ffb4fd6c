/- Plain law: packets laid into frames, and what comes out of the frames that arrive. No condition. -/
import Derived.Test.YtmcgmiapbdoocaaFill
namespace Go.Proofs.Ytmcgmiapbdoocaa
open Go.RowKit

def flatP (P : List EPacket) : List UInt8 := P.flatMap pkB
theorem flatP_append (A B : List EPacket) : flatP (A ++ B) = flatP A ++ flatP B := List.flatMap_append
theorem flatP_cons (y : EPacket) (B : List EPacket) : flatP (y :: B) = pkB y ++ flatP B := rfl
theorem flatP_nil : flatP [] = [] := rfl
theorem flatP_one (y : EPacket) : flatP [y] = pkB y := by rw [flatP_cons, flatP_nil, List.append_nil]
theorem pkB_eq (x : EPacket) : pkB x = by1 x.f0 :: by1 (x.f1 / 256) :: by1 (x.f1 % 256) :: by1 ((x.f2.length : Nat) : Int) :: x.f2 := rfl

/-! ### One packet out of its bytes -/
def dec0 (t : List UInt8) : Option EPacket :=
  if 4 ≤ t.length ∧ nth t 0 ≤ 15 ∧ nth t 3 ≤ 40 ∧ nth t 3 ≤ ((t.length : Nat) : Int) - 4 then
    some ⟨nth t 0, nth t 1 * 256 + nth t 2, (t.drop 4).take (nth t 3).toNat⟩ else none
def badH (t : List UInt8) : Bool := decide (4 ≤ t.length) && (decide (15 < nth t 0) || decide (40 < nth t 3))
theorem pkB_nums {x : EPacket} (h : pkOk x = true) (c : Nat) (r : List UInt8) (hc : 4 ≤ c) : let t := (pkB x).take c ++ r
    nth t 0 = x.f0 ∧ nth t 1 * 256 + nth t 2 = x.f1 ∧ nth t 3 = ((x.f2.length : Nat) : Int) := by
  obtain ⟨⟨h1, h2⟩, ⟨h3, h4⟩, h5⟩ := pkOk_parts h
  obtain ⟨d, rfl⟩ : ∃ d, c = d + 4 := ⟨c - 4, by omega⟩
  rw [pkB_eq]
  simp only [List.take_succ_cons, List.cons_append]
  refine ⟨(num_by1 _ h1 (by omega)), ?_, num_by1 _ (by omega) (by omega)⟩
  show num (by1 (x.f1 / 256)) * 256 + num (by1 (x.f1 % 256)) = x.f1
  rw [num_by1 _ (by omega) (by omega), num_by1 _ (by omega) (by omega)]
  omega
theorem dec0_enc {x : EPacket} (h : pkOk x = true) (r : List UInt8) : dec0 (pkB x ++ r) = some x := by
  obtain ⟨h1, h2, h3⟩ := pkB_nums h (pkB x).length r (by have := pkB_len x; omega)
  rw [List.take_length] at h1 h2 h3
  obtain ⟨⟨h4, h5⟩, _, h6⟩ := pkOk_parts h
  have hl := pkB_len x
  unfold dec0
  rw [h1, h2, h3, if_pos (by rw [List.length_append]; omega)]
  congr 1
  have : (pkB x ++ r).drop 4 = x.f2 ++ r := rfl
  rw [this, Int.toNat_natCast, List.take_left' rfl]
theorem dec0_part {x : EPacket} (h : pkOk x = true) {c : Nat} (hc : c < (pkB x).length) : dec0 ((pkB x).take c) = none ∧ badH ((pkB x).take c) = false := by
  have hl := pkB_len x
  have hcl : ((pkB x).take c).length = c := by rw [List.length_take]; omega
  by_cases h4 : 4 ≤ c
  · obtain ⟨h1, h2, h3⟩ := pkB_nums h c [] h4
    rw [List.append_nil] at h1 h2 h3
    obtain ⟨⟨_, h5⟩, _, h6⟩ := pkOk_parts h
    unfold dec0 badH
    rw [h1, h2, h3, hcl, if_neg (by omega), decide_eq_false (by omega : ¬ 15 < x.f0), decide_eq_false (by omega : ¬ (40 : Int) < ((x.f2.length : Nat) : Int))]
    simp
  · unfold dec0 badH
    rw [hcl, if_neg (by omega), decide_eq_false h4]
    simp
theorem dec0_nil : dec0 [] = none ∧ badH [] = false := ⟨rfl, rfl⟩
theorem dec0_len {t : List UInt8} {x : EPacket} (h : dec0 t = some x) : 4 + x.f2.length ≤ t.length := by
  unfold dec0 at h
  split at h
  · rename_i hh
    obtain ⟨h1, h2, h3, h4⟩ := hh
    simp only [Option.some.injEq] at h
    subst h
    have := nth_lo t 3
    simp only [List.length_take, List.length_drop]
    omega
  · cases h
theorem dec0_ok {t : List UInt8} {x : EPacket} (h : dec0 t = some x) : pkOk x = true := by
  unfold dec0 at h
  split at h
  · rename_i hh
    obtain ⟨h1, h2, h3, h4⟩ := hh
    simp only [Option.some.injEq] at h
    subst h
    have a0 := nth_lo t 0
    have a1 := nth_lo t 1
    have a2 := nth_lo t 2
    have b1 := nth_hi t 1
    have b2 := nth_hi t 2
    unfold pkOk inB
    simp only [List.length_take, List.length_drop, Bool.and_eq_true, decide_eq_true_eq]
    omega
  · cases h

/-! ### All packets at the head of a text -/
def decsN : Nat → List UInt8 → List EPacket × List UInt8
  | 0, r => ([], r)
  | n + 1, r => match dec0 r with
    | none => ([], r)
    | some x => (x :: (decsN n (r.drop (4 + x.f2.length))).1, (decsN n (r.drop (4 + x.f2.length))).2)
def decs (r : List UInt8) : List EPacket × List UInt8 := decsN r.length r
theorem decsN_fuel : ∀ (n : Nat) (r : List UInt8), r.length ≤ n → decsN n r = decsN r.length r := by
  intro n
  induction n using Nat.strongRecOn with
  | _ n ih =>
    intro r h
    match n, r with
    | 0, r => 
      have : r.length = 0 := by omega
      rw [this]
    | n + 1, r =>
      cases hd : dec0 r with
      | none =>
        have e : ∀ m, decsN m r = ([], r) := fun m => by cases m with
          | zero => rfl
          | succ m => simp only [decsN, hd]
        rw [e, e]
      | some x =>
        have hl := dec0_len hd
        obtain ⟨m, hm⟩ : ∃ m, r.length = m + 1 := ⟨r.length - 1, by omega⟩
        have hr : (r.drop (4 + x.f2.length)).length ≤ m := by rw [List.length_drop]; omega
        rw [hm]
        simp only [decsN, hd]
        rw [ih n (by omega) _ (by omega)]
        by_cases hmn : m = n
        · subst hmn
          rw [ih m (by omega) _ hr]
        · rw [ih m (by omega) _ hr]
theorem decs_none {r : List UInt8} (h : dec0 r = none) : decs r = ([], r) := by
  unfold decs
  cases hl : r.length with
  | zero => rfl
  | succ n => simp only [decsN, h]
theorem decs_some {r : List UInt8} {x : EPacket} (h : dec0 r = some x) : decs r = (x :: (decs (r.drop (4 + x.f2.length))).1, (decs (r.drop (4 + x.f2.length))).2) := by
  have hl := dec0_len h
  obtain ⟨m, hm⟩ : ∃ m, r.length = m + 1 := ⟨r.length - 1, by omega⟩
  have hr : (r.drop (4 + x.f2.length)).length ≤ m := by rw [List.length_drop]; omega
  unfold decs
  rw [hm]
  simp only [decsN, h]
  rw [decsN_fuel m _ hr]

/-! ### Packets that end up to a place -/
def cut : List EPacket → Nat → List EPacket × List EPacket
  | [], _ => ([], [])
  | y :: B, n => if (pkB y).length ≤ n then (y :: (cut B (n - (pkB y).length)).1, (cut B (n - (pkB y).length)).2) else ([], y :: B)
structure AtP (P A B : List EPacket) (n : Nat) : Prop where
  eq : P = A ++ B
  le : (flatP A).length ≤ n
  lt : ∀ y B', B = y :: B' → n < (flatP A).length + (pkB y).length
theorem cut_at : ∀ (B : List EPacket) (m : Nat), AtP B (cut B m).1 (cut B m).2 m
  | [], m => ⟨rfl, by simp [cut, flatP], fun y B' h => by simp [cut] at h⟩
  | y :: B, m => by
    unfold cut
    split
    · rename_i hy
      have h := cut_at B (m - (pkB y).length)
      refine ⟨by rw [List.cons_append, ← h.eq], ?_, fun z B' e => ?_⟩
      · rw [flatP_cons, List.length_append]
        have := h.le
        omega
      · have := h.lt z B' e
        rw [flatP_cons, List.length_append]
        omega
    · rename_i hy
      refine ⟨rfl, by simp [flatP], fun z B' e => ?_⟩
      obtain ⟨rfl, rfl⟩ := List.cons.inj e
      simp [flatP]
      omega
theorem AtP.go {P A B : List EPacket} {n : Nat} (h : AtP P A B n) (m : Nat) : AtP P (A ++ (cut B (n - (flatP A).length + m)).1) (cut B (n - (flatP A).length + m)).2 (n + m) := by
  have k := cut_at B (n - (flatP A).length + m)
  have hl := h.le
  refine ⟨by rw [List.append_assoc, ← k.eq, ← h.eq], ?_, fun y B' e => ?_⟩
  · rw [flatP_append, List.length_append]
    have := k.le
    omega
  · have := k.lt y B' e
    rw [flatP_append, List.length_append]
    omega
theorem AtP.drop {P A B : List EPacket} {n : Nat} (h : AtP P A B n) : (flatP P).drop n = (flatP B).drop (n - (flatP A).length) := by
  rw [h.eq, flatP_append, List.drop_append, List.drop_of_length_le h.le, List.nil_append]
theorem AtP.take {P A B : List EPacket} {n : Nat} (h : AtP P A B n) (m : Nat) : (flatP B).take (n - (flatP A).length) ++ ((flatP P).drop n).take m = (flatP B).take (n - (flatP A).length + m) := by
  rw [h.drop, List.take_add]
theorem decs_cut : ∀ (B : List EPacket) (m : Nat), (∀ x ∈ B, pkOk x = true) → decs ((flatP B).take m) = ((cut B m).1, (flatP (cut B m).2).take (m - (flatP (cut B m).1).length))
  | [], m, _ => by simp [cut, flatP, decs, decsN]
  | y :: B, m, h => by
    have hy : pkOk y = true := h y (List.mem_cons_self ..)
    have hl := pkB_len y
    unfold cut
    split
    · rename_i hm
      have ih := decs_cut B (m - (pkB y).length) (fun x hx => h x (List.mem_cons_of_mem _ hx))
      have e : (flatP (y :: B)).take m = pkB y ++ (flatP B).take (m - (pkB y).length) := by
        rw [flatP_cons, List.take_append, List.take_of_length_le hm]
      rw [e, decs_some (dec0_enc hy _), List.drop_left' (by omega), ih]
      simp only [flatP_cons, List.length_append, Nat.sub_sub]
    · rename_i hm
      have e : (flatP (y :: B)).take m = (pkB y).take m := by
        rw [flatP_cons, List.take_append_of_le_length (by omega)]
      simp only [flatP_nil, List.length_nil, Nat.sub_zero]
      rw [e, decs_none (dec0_part hy (by omega)).1]
theorem rest_part {P A B : List EPacket} {n : Nat} (h : AtP P A B n) (hP : ∀ x ∈ P, pkOk x = true) : dec0 ((flatP B).take (n - (flatP A).length)) = none ∧ badH ((flatP B).take (n - (flatP A).length)) = false ∧ ((flatP B).take (n - (flatP A).length)).length ≤ 43 := by
  cases B with
  | nil => simp [flatP, dec0, badH]
  | cons y B' =>
    have := h.lt y B' rfl
    have hl := h.le
    have hy : pkOk y = true := hP y (by rw [h.eq]; simp)
    have hyl := pkB_len y
    have := (pkOk_parts hy).2.2
    rw [flatP_cons, List.take_append_of_le_length (by omega)]
    obtain ⟨h1, h2⟩ := dec0_part hy (c := n - (flatP A).length) (by omega)
    exact ⟨h1, h2, by rw [List.length_take]; omega⟩
end Go.Proofs.Ytmcgmiapbdoocaa
