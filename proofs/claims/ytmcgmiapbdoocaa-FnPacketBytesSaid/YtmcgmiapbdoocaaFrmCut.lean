/- Plain law: what a packer holds while packets are laid in and frames are taken out. No condition. -/
import Derived.Test.YtmcgmiapbdoocaaFrmLaw
namespace Go.Proofs.Ytmcgmiapbdoocaa
open Go.RowKit

def stN : Nat → List EPacket → List Nat
  | _, [] => []
  | s, y :: B => s :: stN (s + (pkB y).length) B
def relD (n : Nat) (l : List Nat) : List Int := (l.filter (fun d => decide (n ≤ d))).map (fun d => ((d : Nat) : Int) - ((n : Nat) : Int))
def dsAt (P : List EPacket) (n : Nat) : List Int := relD n (stN 0 P)
def cutDs (ds : List Int) : List Int := (ds.filter (fun d => decide (24 ≤ d))).map (fun d => d - 24)
def firstOf (ds : List Int) : Int := match ds with
  | [] => 255
  | d :: _ => if d < 24 then d else 255
theorem stN_append : ∀ (A : List EPacket) (s : Nat) (B : List EPacket), stN s (A ++ B) = stN s A ++ stN (s + (flatP A).length) B
  | [], s, B => by simp [stN, flatP]
  | y :: A, s, B => by
    rw [List.cons_append]
    simp only [stN, List.cons_append, flatP_cons, List.length_append]
    rw [stN_append A, Nat.add_assoc]
theorem stN_lo : ∀ (A : List EPacket) (s d : Nat), d ∈ stN s A → s ≤ d ∧ d < s + (flatP A).length
  | [], s, d, h => by simp [stN] at h
  | y :: A, s, d, h => by
    have hl := pkB_len y
    rw [flatP_cons, List.length_append]
    simp only [stN, List.mem_cons] at h
    rcases h with rfl | h
    · omega
    · have := stN_lo A _ d h
      omega
theorem relD_append (n : Nat) (a b : List Nat) : relD n (a ++ b) = relD n a ++ relD n b := by unfold relD; rw [List.filter_append, List.map_append]
theorem relD_none {n : Nat} {a : List Nat} (h : ∀ d ∈ a, d < n) : relD n a = [] := by
  unfold relD
  rw [List.filter_eq_nil_iff.2 (fun d hd => by have := h d hd; simp; omega)]
  rfl
theorem relD_stN : ∀ (B : List EPacket) (n s : Nat), n ≤ s → relD n (stN s B) = relD 0 (stN (s - n) B)
  | [], n, s, _ => rfl
  | y :: B, n, s, h => by
    have ih := relD_stN B n (s + (pkB y).length) (by omega)
    unfold relD at ih ⊢
    simp only [stN]
    rw [List.filter_cons_of_pos (by simpa using h), List.filter_cons_of_pos (by simp), List.map_cons, List.map_cons, ih, show s + (pkB y).length - n = s - n + (pkB y).length from by omega]
    congr 1
    omega
theorem cutDs_relD : ∀ (l : List Nat) (n : Nat), cutDs (relD n l) = relD (n + 24) l
  | [], n => rfl
  | d :: l, n => by
    have ih := cutDs_relD l n
    have e1 : relD n (d :: l) = (if n ≤ d then [((d : Nat) : Int) - ((n : Nat) : Int)] else []) ++ relD n l := by
      unfold relD
      by_cases h : n ≤ d <;> simp [h]
    have e2 : relD (n + 24) (d :: l) = (if n + 24 ≤ d then [((d : Nat) : Int) - ((n + 24 : Nat) : Int)] else []) ++ relD (n + 24) l := by
      unfold relD
      by_cases h : n + 24 ≤ d <;> simp [h]
    have e3 : ∀ a b : List Int, cutDs (a ++ b) = cutDs a ++ cutDs b := fun a b => by unfold cutDs; rw [List.filter_append, List.map_append]
    rw [e1, e2, e3, ih]
    congr 1
    by_cases h : n + 24 ≤ d
    · rw [if_pos h, if_pos (by omega)]
      unfold cutDs
      rw [List.filter_cons_of_pos (by simp; omega)]
      simp
      omega
    · rw [if_neg h]
      by_cases h2 : n ≤ d
      · rw [if_pos h2]
        unfold cutDs
        rw [List.filter_cons_of_neg (by simp; omega)]
        rfl
      · rw [if_neg h2]
        rfl
theorem cutDs_at (P : List EPacket) (n : Nat) : cutDs (dsAt P n) = dsAt P (n + 24) := cutDs_relD _ _
theorem dsAt_nil (n : Nat) : dsAt [] n = [] := rfl
theorem dsAt_end {P : List EPacket} {n : Nat} (h : (flatP P).length ≤ n) : dsAt P n = [] := relD_none fun d hd => by have := stN_lo P 0 d hd; omega
/-- What a packer at place n of the stream has as starts. -/
theorem dsAt_even {P A B : List EPacket} {n : Nat} (h : AtP P A B n) (he : n = (flatP A).length) : dsAt P n = relD 0 (stN 0 B) := by
  unfold dsAt
  rw [h.eq, stN_append, relD_append, relD_none (fun d hd => by have := stN_lo A 0 d hd; omega), List.nil_append, relD_stN _ _ _ (by omega)]
  congr 2
  omega
theorem dsAt_odd {P A B' : List EPacket} {y : EPacket} {n : Nat} (h : AtP P A (y :: B') n) (he : (flatP A).length < n) : dsAt P n = relD 0 (stN ((flatP A).length + (pkB y).length - n) B') := by
  unfold dsAt
  have := h.lt y B' rfl
  rw [h.eq, stN_append, relD_append, relD_none (fun d hd => by have := stN_lo A 0 d hd; omega), List.nil_append]
  show relD n ((0 + (flatP A).length) :: stN (0 + (flatP A).length + (pkB y).length) B') = _
  have e : relD n ((0 + (flatP A).length) :: stN (0 + (flatP A).length + (pkB y).length) B') = relD n [0 + (flatP A).length] ++ relD n (stN (0 + (flatP A).length + (pkB y).length) B') := relD_append n [0 + (flatP A).length] _
  rw [e, relD_none (fun d hd => by simp at hd; omega), List.nil_append, relD_stN _ _ _ (by omega), Nat.zero_add]
theorem firstOf_stN (B : List EPacket) (s : Nat) : firstOf (relD 0 (stN s B)) = if B ≠ [] ∧ s < 24 then ((s : Nat) : Int) else 255 := by
  cases B with
  | nil => rfl
  | cons y B =>
    have e : relD 0 (s :: stN (s + (pkB y).length) B) = (((s : Nat) : Int) - ((0 : Nat) : Int)) :: relD 0 (stN (s + (pkB y).length) B) := by
      unfold relD
      rw [List.filter_cons_of_pos (by simp), List.map_cons]
    show firstOf (relD 0 (s :: stN (s + (pkB y).length) B)) = _
    rw [e]
    show (if ((s : Nat) : Int) - ((0 : Nat) : Int) < 24 then ((s : Nat) : Int) - ((0 : Nat) : Int) else 255) = _
    by_cases h : s < 24
    · rw [if_pos (by omega), if_pos ⟨by simp, h⟩]
      omega
    · rw [if_neg (by omega), if_neg (fun k => h k.2)]

/-! ### A packer in the midst of its stream is valid -/
theorem stTo_of {L : Int} {ds : List Int} (h : ∀ d ∈ ds, 0 ≤ d ∧ d ≤ L) (hp : ds.Pairwise (· < ·)) : stTo L ds ds.length = true := by
  unfold stTo
  rw [List.all_eq_true]
  intro i hi
  have hi : i < ds.length := List.mem_range.1 hi
  unfold stAt
  rw [show ds.getD i 0 = ds[i] from by simp [hi]]
  have hm := h _ (List.getElem_mem hi)
  rw [inB_mk hm.1 hm.2]
  by_cases h0 : i = 0
  · simp [h0]
  · have hi' : i - 1 < ds.length := by omega
    rw [show ds.getD (i - 1) 0 = ds[i - 1] from by simp [hi']]
    have := List.pairwise_iff_getElem.1 hp (i - 1) i hi' hi (by omega)
    simp [this]
theorem stN_up : ∀ (A : List EPacket) (s : Nat), (stN s A).Pairwise (· < ·)
  | [], s => List.Pairwise.nil
  | y :: A, s => by
    refine List.Pairwise.cons (fun d hd => ?_) (stN_up A _)
    have := stN_lo A _ d hd
    have := pkB_len y
    omega
theorem relD_up {l : List Nat} (n : Nat) (h : l.Pairwise (· < ·)) : (relD n l).Pairwise (· < ·) := by
  unfold relD
  rw [List.pairwise_map]
  exact (h.filter _).imp fun h => by omega
theorem relD_mem {n : Nat} {l : List Nat} {d : Int} (h : d ∈ relD n l) : ∃ k ∈ l, n ≤ k ∧ d = ((k : Nat) : Int) - ((n : Nat) : Int) := by
  unfold relD at h
  obtain ⟨k, hk, rfl⟩ := List.mem_map.1 h
  have := List.mem_filter.1 hk
  exact ⟨k, this.1, by simpa using this.2, rfl⟩
theorem pkr_at {P : List EPacket} {n : Nat} {ct : Int} (hn : n ≤ (flatP P).length) (hb : (flatP P).length ≤ n + 5000) (hc : 0 ≤ ct ∧ ct ≤ 255) : pkrOk 0 ct ((flatP P).drop n) (dsAt P n) = true := by
  unfold pkrOk
  rw [inB_mk (by decide) (by decide), inB_mk hc.1 hc.2, List.length_drop, decide_eq_true (by omega), show stTo _ (dsAt P n) (dsAt P n).length = true from stTo_of (fun d hd => ?_) (relD_up n (stN_up P 0))]
  · rfl
  · obtain ⟨k, hk, h1, rfl⟩ := relD_mem hd
    have := stN_lo P 0 k hk
    omega
theorem dsAt_snoc {P : List EPacket} {n : Nat} (x : EPacket) (hn : n ≤ (flatP P).length) : dsAt (P ++ [x]) n = dsAt P n ++ [((((flatP P).drop n).length : Nat) : Int)] := by
  unfold dsAt
  rw [stN_append, relD_append]
  congr 1
  show relD n [0 + (flatP P).length] = _
  unfold relD
  rw [List.filter_cons_of_pos (by simp; omega), List.length_drop]
  simp
  omega
theorem drop_snoc {P : List EPacket} {n : Nat} (x : EPacket) (hn : n ≤ (flatP P).length) : (flatP P).drop n ++ pkB x = (flatP (P ++ [x])).drop n := by
  rw [flatP_append, flatP_one, List.drop_append_of_le_length hn]
theorem pkEnc_ok {x : EPacket} (h : pkOk x = true) : pkEnc x = pkB x := by unfold pkEnc; rw [if_pos h]
theorem pack_at {P : List EPacket} {n : Nat} {ct : Int} {x : EPacket} (hx : pkOk x = true) (hn : n ≤ (flatP P).length) (hb : (flatP P).length + 44 ≤ n + 5000) (hc : 0 ≤ ct ∧ ct ≤ 255) :
    packR 0 ct ((flatP P).drop n) (dsAt P n) x = (((flatP (P ++ [x])).drop n, dsAt (P ++ [x]) n), true) := by
  have hl : (flatP (P ++ [x])).length = (flatP P).length + (pkB x).length := by rw [flatP_append, flatP_one, List.length_append]
  have := pkB_len x
  have := (pkOk_parts hx).2.2
  unfold packR
  rw [pkEnc_ok hx, drop_snoc x hn, ← dsAt_snoc x hn, pkr_at hn (by omega) hc, hx, pkr_at (by omega) (by omega) hc]
  rfl
/-- The packer is filled: perhaps one idle packet more. -/
theorem fill_at {P : List EPacket} {n : Nat} {ct : Int} (hn : n ≤ (flatP P).length) (hb : (flatP P).length + 44 ≤ n + 5000) (hc : 0 ≤ ct ∧ ct ≤ 255) :
    ∃ I : List EPacket, fillR 0 ct ((flatP P).drop n) (dsAt P n) = ((flatP (P ++ I)).drop n, dsAt (P ++ I) n) ∧ (∀ x ∈ I, pkOk x = true ∧ x.f0 = 15) ∧ ((flatP (P ++ I)).length - n) % 24 = 0 ∧ (flatP (P ++ I)).length ≤ (flatP P).length + 27 := by
  by_cases h : ((flatP P).drop n).length % 24 = 0
  · refine ⟨[], by rw [fillR_no (.inr h), List.append_nil], fun x hx => (List.not_mem_nil hx).elim, by rw [List.append_nil]; rw [List.length_drop] at h; exact h, by rw [List.append_nil]; omega⟩
  · have hk : fillN ((flatP P).drop n).length < 24 := Nat.mod_lt _ (by decide)
    have hx : pkOk ⟨15, 0, List.replicate (fillN ((flatP P).drop n).length) 0⟩ = true := by
      unfold pkOk
      simp only [List.length_replicate]
      rw [inB_mk (by decide) (by decide), inB_mk (by decide) (by decide), decide_eq_true (by omega)]
      rfl
    refine ⟨[⟨15, 0, List.replicate (fillN ((flatP P).drop n).length) 0⟩], ?_, fun x hx' => ?_, ?_⟩
    · rw [fillR_yes (pkr_at hn (by omega) hc) h rfl, pack_at hx hn hb hc]
    · simp only [List.mem_singleton] at hx'
      subst hx'
      exact ⟨hx, rfl⟩
    · have e : (flatP (P ++ [⟨15, 0, List.replicate (fillN ((flatP P).drop n).length) 0⟩])).length = (flatP P).length + (fillN ((flatP P).drop n).length + 4) := by
        rw [flatP_append, flatP_one, List.length_append, pkB_len, List.length_replicate]
      rw [e]
      rw [List.length_drop] at h hk ⊢
      unfold fillN at hk ⊢
      omega

/-! ### Frames out of a packer -/
structure EFrame where
  f0 : Int
  f1 : Int
  f2 : Int
  f3 : List UInt8
instance : Inhabited EFrame := ⟨⟨0, 0, 0, []⟩⟩
def cFrame (r : EFrame) : List Value := [.int .i64 r.f0, .int .i64 r.f1, .int .i64 r.f2, .string ⟨r.f3.toArray⟩]
def tfOk (ch ct : Int) (rest : List UInt8) (ds : List Int) : Bool := pkrOk ch ct rest ds && decide (24 ≤ rest.length)
def tfF (ch ct : Int) (rest : List UInt8) (ds : List Int) : EFrame := if tfOk ch ct rest ds then ⟨ch, ct, firstOf ds, rest.take 24⟩ else ⟨0, 0, 0, []⟩
def tfC (ch ct : Int) (rest : List UInt8) (ds : List Int) : Int := if tfOk ch ct rest ds then (ct + 1) % 256 else ct
def tfR (ch ct : Int) (rest : List UInt8) (ds : List Int) : List UInt8 := if tfOk ch ct rest ds then rest.drop 24 else rest
def tfD (ch ct : Int) (rest : List UInt8) (ds : List Int) : List Int := if tfOk ch ct rest ds then cutDs ds else ds
structure PkS where
  ct : Int
  rest : List UInt8
  ds : List Int
def takeFsN (ch : Int) : Nat → PkS → PkS × List EFrame
  | 0, p => (p, [])
  | n + 1, p => if tfOk ch p.ct p.rest p.ds then ((takeFsN ch n ⟨(p.ct + 1) % 256, p.rest.drop 24, cutDs p.ds⟩).1, tfF ch p.ct p.rest p.ds :: (takeFsN ch n ⟨(p.ct + 1) % 256, p.rest.drop 24, cutDs p.ds⟩).2) else (p, [])
def takeFs (ch : Int) (p : PkS) : PkS × List EFrame := takeFsN ch (p.rest.length / 24) p
theorem takeFs_no {ch : Int} {p : PkS} (h : tfOk ch p.ct p.rest p.ds = false) : takeFs ch p = (p, []) := by
  unfold takeFs
  cases p.rest.length / 24 with
  | zero => rfl
  | succ n => simp only [takeFsN, h, if_false, Bool.false_eq_true]
theorem takeFs_yes {ch : Int} {p : PkS} (h : tfOk ch p.ct p.rest p.ds = true) : takeFs ch p = ((takeFs ch ⟨(p.ct + 1) % 256, p.rest.drop 24, cutDs p.ds⟩).1, tfF ch p.ct p.rest p.ds :: (takeFs ch ⟨(p.ct + 1) % 256, p.rest.drop 24, cutDs p.ds⟩).2) := by
  have hl : 24 ≤ p.rest.length := by
    unfold tfOk at h
    simp only [Bool.and_eq_true, decide_eq_true_eq] at h
    exact h.2
  unfold takeFs
  obtain ⟨m, hm⟩ : ∃ m, p.rest.length / 24 = m + 1 := ⟨p.rest.length / 24 - 1, by omega⟩
  rw [hm]
  simp only [takeFsN, h, if_true, List.length_drop]
  rw [show (p.rest.length - 24) / 24 = m from by omega]
def pkAt (P : List EPacket) (ct : Int) (n : Nat) : PkS := ⟨ct, (flatP P).drop n, dsAt P n⟩
def frAt (P : List EPacket) (ct : Int) (n : Nat) : EFrame := ⟨0, ct, firstOf (dsAt P n), ((flatP P).drop n).take 24⟩
def frs (P : List EPacket) (c0 : Int) : Nat → Nat → List EFrame
  | _, 0 => []
  | i, k + 1 => frAt P ((c0 + i) % 256) (24 * i) :: frs P c0 (i + 1) k
theorem takeFs_at {P : List EPacket} {c0 : Int} (h0 : 0 ≤ c0) : ∀ (k i : Nat), 24 * (i + k) ≤ (flatP P).length → (flatP P).length < 24 * (i + k) + 24 → (flatP P).length ≤ 24 * i + 5000 →
    takeFs 0 (pkAt P ((c0 + i) % 256) (24 * i)) = (pkAt P ((c0 + ((i + k : Nat) : Int)) % 256) (24 * (i + k)), frs P c0 i k)
  | 0, i, h1, h2, h3 => by
    rw [takeFs_no]
    · rfl
    · unfold tfOk pkAt
      simp only [List.length_drop]
      rw [decide_eq_false (by omega), Bool.and_false]
  | k + 1, i, h1, h2, h3 => by
    have hok : tfOk 0 (pkAt P ((c0 + i) % 256) (24 * i)).ct (pkAt P ((c0 + i) % 256) (24 * i)).rest (pkAt P ((c0 + i) % 256) (24 * i)).ds = true := by
      unfold tfOk pkAt
      simp only [List.length_drop]
      rw [pkr_at (by omega) h3 (by omega), decide_eq_true (by omega)]
      rfl
    rw [takeFs_yes hok]
    have ih := takeFs_at (P := P) h0 k (i + 1) (by omega) (by omega) (by omega)
    have e : (⟨((pkAt P ((c0 + i) % 256) (24 * i)).ct + 1) % 256, (pkAt P ((c0 + i) % 256) (24 * i)).rest.drop 24, cutDs (pkAt P ((c0 + i) % 256) (24 * i)).ds⟩ : PkS) = pkAt P ((c0 + ((i + 1 : Nat) : Int)) % 256) (24 * (i + 1)) := by
      unfold pkAt
      simp only [List.drop_drop, cutDs_at, PkS.mk.injEq]
      refine ⟨by omega, by rw [show 24 * i + 24 = 24 * (i + 1) from by omega], by rw [show 24 * i + 24 = 24 * (i + 1) from by omega]⟩
    rw [e, ih]
    unfold tfF
    rw [if_pos hok]
    simp only [frs, show i + 1 + k = i + (k + 1) from by omega]
    rfl
end Go.Proofs.Ytmcgmiapbdoocaa
