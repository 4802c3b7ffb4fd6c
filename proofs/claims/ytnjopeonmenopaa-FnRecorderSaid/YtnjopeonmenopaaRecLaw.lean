/- Plain law: a recorder that is filled with records of rising numbers stays valid, and gives up only what is of lesser priority. No condition. -/
import Derived.Test.YtnjopeonmenopaaKeepLaw
namespace Go.Proofs.Ytnjopeonmenopaa
open Go.RowKit

theorem evict_law {room need p : Int} : ∀ (n : Nat) (zs : List ERecord) (ds : List Int), n = zs.length → need ≤ room - usedN zs + lesS p zs →
    ∃ gone : List Int, (evict room need n zs ds).2 = ds ++ gone ∧ (evict room need n zs ds).1.Sublist zs ∧ (evict room need n zs ds).1.length + gone.length = zs.length ∧ (∀ d ∈ gone, ∃ z ∈ zs, z.f0 = d ∧ z.f1 < p) ∧ (usedN (evict room need n zs ds).1 : Int) + need ≤ room := by
  intro n
  induction n with
  | zero =>
    intro zs ds hn hfit
    have hz : zs = [] := List.eq_nil_of_length_eq_zero hn.symm
    subst hz
    refine ⟨[], by simp [evict], List.Sublist.refl _, rfl, fun d hd => (List.not_mem_nil hd).elim, ?_⟩
    have h1 : lesS p [] = 0 := rfl
    have h2 : usedN [] = 0 := rfl
    rw [h1, h2] at hfit
    show ((usedN [] : Nat) : Int) + need ≤ room
    rw [h2]
    omega
  | succ n ih =>
    intro zs ds hn hfit
    by_cases hs : (usedN zs : Int) + need ≤ room
    · rw [evict_stop hs]
      exact ⟨[], by simp, List.Sublist.refl _, by simp, fun d hd => (List.not_mem_nil hd).elim, hs⟩
    · have hpos : 0 < lesS p zs := by omega
      obtain ⟨hkl, hkp⟩ := least_lesser hpos
      have hl : (zs.eraseIdx (leastTo zs zs.length)).length = n := by rw [List.length_eraseIdx, if_pos hkl]; omega
      have hu := usedN_erase hkl
      have hle := lesS_erase hkl hkp
      rw [evict_go hs hkl rfl hn, hl]
      obtain ⟨gone, h1, h2, h3, h4, h5⟩ := ih (zs.eraseIdx (leastTo zs zs.length)) (ds ++ [zs[leastTo zs zs.length].f0]) hl.symm (by omega)
      refine ⟨zs[leastTo zs zs.length].f0 :: gone, by rw [h1]; simp, h2.trans (List.eraseIdx_sublist _ _), by simp only [List.length_cons]; omega, fun d hd => ?_, h5⟩
      rcases List.mem_cons.1 hd with rfl | hd
      · exact ⟨_, List.getElem_mem hkl, rfl, hkp⟩
      · obtain ⟨z, hz, h6, h7⟩ := h4 d hd
        exact ⟨z, (List.eraseIdx_sublist _ _).subset hz, h6, h7⟩

/-- What holds of the recorder ahead of the k-th record. -/
structure RecG (room : Int) (zs : List ERecord) (ds : List Int) (k : Nat) : Prop where
  rm : 0 ≤ room ∧ room ≤ 4000
  all : ∀ z ∈ zs, recOk z.f0 z.f1 z.f2 z.f3 = true ∧ z.f0 < (k : Int)
  up : zs.Pairwise (fun a b => a.f0 < b.f0)
  used : (usedN zs : Int) ≤ room
  dr : ∀ d ∈ ds, 0 ≤ d ∧ d < (k : Int)
  len : zs.length + ds.length = k
theorem RecG.nil {room : Int} (h : 0 ≤ room ∧ room ≤ 4000) : RecG room [] [] 0 := ⟨h, fun z hz => (List.not_mem_nil hz).elim, List.Pairwise.nil, by have : usedN [] = 0 := rfl; rw [this]; exact h.1, fun z hz => (List.not_mem_nil hz).elim, rfl⟩
theorem RecG.ok {room : Int} {zs : List ERecord} {ds : List Int} {k : Nat} (h : RecG room zs ds k) (hk : k ≤ 65536) : rcOk room zs ds = true := by
  have hl := h.len
  have h1 : inB room 0 4000 = true := by unfold inB; simp; exact h.rm
  have h2 : recsTo zs zs.length = true := by
    unfold recsTo
    rw [List.all_eq_true]
    intro i hi
    have hi : i < zs.length := List.mem_range.1 hi
    have e : zs.getD i default = zs[i] := by simp [hi]
    unfold recAt
    rw [e, (h.all _ (List.getElem_mem hi)).1]
    by_cases h0 : i = 0
    · subst h0; simp
    · have hi' : i - 1 < zs.length := by omega
      have e2 : zs.getD (i - 1) default = zs[i - 1] := by simp [hi']
      have := List.pairwise_iff_getElem.1 h.up (i - 1) i hi' hi (by omega)
      rw [e2]
      simp [this]
  have h3 : allB ds 0 65535 = true := by
    unfold allB
    rw [List.all_eq_true]
    intro d hd
    have := h.dr d hd
    unfold inB
    simp
    omega
  unfold rcOk
  rw [h1, h2, h3, decide_eq_true (by omega), decide_eq_true h.used]
  rfl
/-- One record comes. -/
theorem RecG.keep {room : Int} {zs : List ERecord} {ds : List Int} {k : Nat} {x : ERecord} (h : RecG room zs ds k) (hk : k < 65535) (hx : recOk x.f0 x.f1 x.f2 x.f3 = true) (hid : x.f0 = (k : Int)) :
    RecG room (keepR room zs ds x).1 (keepR room zs ds x).2 (k + 1) ∧ ∃ gone : List Int, (keepR room zs ds x).2 = ds ++ gone ∧ (∀ d ∈ gone, ∀ z ∈ zs, z.f0 = d → z.f1 < x.f1) ∧ ((recSz x : Int) ≤ room - usedN zs → gone = []) := by
  have hok := h.ok (by omega)
  have hkok : kOk room zs ds x = true := by
    have hlast : kLast zs x = true := by
      unfold kLast
      refine decide_eq_true fun h0 => ?_
      have hl : zs.length - 1 < zs.length := by omega
      have e : zs.getD (zs.length - 1) default = zs[zs.length - 1] := by simp [hl]
      rw [e, hid]
      exact (h.all _ (List.getElem_mem hl)).2
    unfold kOk
    rw [hok, hx, hlast]
    rfl
  have hpos : (0 : Int) < (recSz x : Int) := by unfold recSz; omega
  have hlen := h.len
  suffices hs : RecG room (kRes room zs ds x).1 (kRes room zs ds x).2 (k + 1) ∧ ∃ gone : List Int, (kRes room zs ds x).2 = ds ++ gone ∧ (∀ d ∈ gone, ∀ z ∈ zs, z.f0 = d → z.f1 < x.f1) ∧ ((recSz x : Int) ≤ room - usedN zs → gone = []) by
    have e : keepR room zs ds x = kRes room zs ds x := keepR_yes hkok rfl (hs.1.ok (by omega))
    rw [e]
    exact hs
  have hup : ∀ z ∈ zs, ∀ y ∈ zs, z.f0 = y.f0 → z.f1 = y.f1 := by
    intro z hz y hy he
    obtain ⟨i, hi, rfl⟩ := List.mem_iff_getElem.1 hz
    obtain ⟨j, hj, rfl⟩ := List.mem_iff_getElem.1 hy
    have hp := List.pairwise_iff_getElem.1 h.up
    rcases Nat.lt_trichotomy i j with hij | hij | hij
    · have := hp i j hi hj hij; omega
    · subst hij; rfl
    · have := hp j i hj hi hij; omega
  cases hf : kFits room zs x with
  | true =>
    have hfit : (recSz x : Int) ≤ room - usedN zs + lesS x.f1 zs := of_decide_eq_true hf
    obtain ⟨gone, h1, h2, h3, h4, h5⟩ := evict_law zs.length zs ds rfl hfit
    rw [kRes_fits (ls := (evict room (recSz x) zs.length zs ds).1) (es := (evict room (recSz x) zs.length zs ds).2) hf rfl]
    refine ⟨⟨h.rm, fun z hz => ?_, ?_, ?_, fun d hd => ?_, ?_⟩, gone, h1, fun d hd z hz he => ?_, fun hr => ?_⟩
    · rcases List.mem_append.1 hz with hz | hz
      · have := h.all z (h2.subset hz); exact ⟨this.1, by omega⟩
      · rw [List.mem_singleton.1 hz]; exact ⟨hx, by omega⟩
    · refine List.pairwise_append.2 ⟨h.up.sublist h2, List.pairwise_singleton _ _, fun a ha b hb => ?_⟩
      rw [List.mem_singleton.1 hb, hid]
      exact (h.all a (h2.subset ha)).2
    · have e : usedN ((evict room (recSz x) zs.length zs ds).1 ++ [x]) = usedN (evict room (recSz x) zs.length zs ds).1 + recSz x := by
        rw [usedN_sum, usedN_sum, List.map_append, List.sum_append]; simp
      rw [e]
      omega
    · rw [h1] at hd
      rcases List.mem_append.1 hd with hd | hd
      · have := h.dr d hd; omega
      · obtain ⟨z, hz, h6, _⟩ := h4 d hd
        have h7 := h.all z hz
        have := (recOk_parts h7.1).1
        omega
    · rw [h1]
      simp only [List.length_append, List.length_cons, List.length_nil]
      omega
    · obtain ⟨y, hy, h6, h7⟩ := h4 d hd
      rw [hup z hz y hy (by omega)]
      exact h7
    · have := evict_stop (room := room) (need := recSz x) (zs := zs) (ds := ds) (by omega) zs.length
      rw [this] at h3
      simp only at h3
      exact List.eq_nil_of_length_eq_zero (by omega)
  | false =>
    have hno := of_decide_eq_false hf
    rw [kRes_not hf]
    refine ⟨⟨h.rm, fun z hz => ?_, h.up, h.used, fun d hd => ?_, ?_⟩, [x.f0], rfl, fun d hd z hz he => ?_, fun hr => ?_⟩
    · have := h.all z hz; exact ⟨this.1, by omega⟩
    · rcases List.mem_append.1 hd with hd | hd
      · have := h.dr d hd; omega
      · rw [List.mem_singleton.1 hd]; omega
    · simp only [List.length_append, List.length_cons, List.length_nil]
      omega
    · have := (h.all z hz).2
      have hd := List.mem_singleton.1 hd
      omega
    · exact (hno (by omega)).elim
end Go.Proofs.Ytnjopeonmenopaa
