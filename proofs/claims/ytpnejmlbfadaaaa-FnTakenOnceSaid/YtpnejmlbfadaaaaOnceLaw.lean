/- Plain: a sender and a receiver of commands over a link that loses and repeats. No condition. -/
import Derived.Test.YtpnejmlbfadaaaaSndOffer
import Derived.Test.YtpnejmlbfadaaaaSndHear
import Derived.Test.YtpnejmlbfadaaaaSndNew
import Derived.Test.YtpnejmlbfadaaaaBlocks
import Derived.Test.YtpnejmlbfadaaaaLock
namespace Go.Proofs.Ytpnejmlbfadaaaa
open Go.RowKit
set_option linter.unusedSimpArgs false
set_option linter.unusedVariables false

/-- Commands with their numbers. -/
def numL (L : List (List UInt8)) : List ESent := L.zipIdx.map fun p => ⟨((p.2 : Nat) : Int), p.1⟩
theorem numL_len (L : List (List UInt8)) : (numL L).length = L.length := by unfold numL; simp
theorem numL_get {L : List (List UInt8)} {i : Nat} (h : i < (numL L).length) (h' : i < L.length) : (numL L)[i] = ⟨((i : Nat) : Int), L[i]⟩ := by
  have e : (numL L)[i]? = some ⟨((i : Nat) : Int), L[i]⟩ := by
    unfold numL
    simp [h']
  exact (List.getElem?_eq_some_iff.1 e).2
theorem numL_snoc (L : List (List UInt8)) (d : List UInt8) : numL (L ++ [d]) = numL L ++ [⟨((L.length : Nat) : Int), d⟩] := by
  unfold numL
  rw [List.zipIdx_append, List.map_append]
  simp
/-- The commands that wait: those from the D-th on. -/
def wtL (L : List (List UInt8)) (D : Nat) : List ESent := (numL L).drop D
theorem wtL_len (L : List (List UInt8)) (D : Nat) : (wtL L D).length = L.length - D := by unfold wtL; rw [List.length_drop, numL_len]
theorem wtL_get {L : List (List UInt8)} {D i : Nat} (h : i < (wtL L D).length) (h' : D + i < L.length) : (wtL L D)[i] = ⟨((D + i : Nat) : Int), L[D + i]⟩ := by
  have e : (wtL L D)[i]? = some ⟨((D + i : Nat) : Int), L[D + i]⟩ := by
    have h2 : D + i < (numL L).length := by rw [numL_len]; exact h'
    unfold wtL
    rw [List.getElem?_drop, List.getElem?_eq_getElem h2, numL_get h2 h']
  exact (List.getElem?_eq_some_iff.1 e).2
theorem wtL_drop (L : List (List UInt8)) (D k : Nat) : (wtL L D).drop k = wtL L (D + k) := by unfold wtL; rw [List.drop_drop]
theorem wtL_snoc {L : List (List UInt8)} {D : Nat} (h : D ≤ L.length) (d : List UInt8) : wtL (L ++ [d]) D = wtL L D ++ [⟨((L.length : Nat) : Int), d⟩] := by
  unfold wtL
  rw [numL_snoc, List.drop_append_of_le_length (by rw [numL_len]; exact h)]
/-- What holds of the sender: L was offered, D of it is acknowledged. -/
structure SnG (L : List (List UInt8)) (D : Nat) (wd : Int) : Prop where
  le : D ≤ L.length
  n : L.length ≤ 30
  w1 : 1 ≤ wd
  w2 : wd ≤ 20
  wn : ((L.length : Nat) : Int) - D ≤ wd
  all : ∀ d ∈ L, 1 ≤ d.length ∧ d.length ≤ 40
theorem SnG.txt {L : List (List UInt8)} {D : Nat} {wd : Int} (h : SnG L D wd) : ∀ z ∈ wtL L D, Txt z.f1 := fun z hz => by
  obtain ⟨i, hi, rfl⟩ := List.mem_iff_getElem.1 hz
  have hl := wtL_len L D
  rw [wtL_get hi (by omega)]
  exact txt_le (h.all _ (List.getElem_mem _)).2
theorem SnG.ok {L : List (List UInt8)} {D : Nat} {wd : Int} (h : SnG L D wd) : sndOk ((L.length : Nat) : Int) wd (wtL L D) ((D : Nat) : Int) = true := by
  have h1 := h.le
  have h2 := h.n
  have h3 := h.w1
  have h4 := h.w2
  have h5 := h.wn
  have hl := wtL_len L D
  unfold sndOk sndPre okTo
  rw [inB_mk (show (0 : Int) ≤ ((L.length : Nat) : Int) by omega) (by omega), inB_mk h3 h4, inB_mk (show (0 : Int) ≤ ((D : Nat) : Int) by omega) (by omega), decide_eq_true (show (((wtL L D).length : Nat) : Int) ≤ wd by omega)]
  simp only [Bool.true_and, Bool.and_self]
  rw [List.all_eq_true]
  intro i hi
  have hi := List.mem_range.1 hi
  have hg : (wtL L D).getD i default = (wtL L D)[i] := by simp [hi]
  have ha := h.all _ (List.getElem_mem (show D + i < L.length by omega))
  unfold elAt
  rw [hg, wtL_get hi (by omega), inB_mk (show (1 : Int) ≤ _ by simp only; omega) (by simp only; omega), Bool.true_and, beq_iff_eq]
  simp only
  omega
theorem offer_law {L : List (List UInt8)} {D : Nat} {wd : Int} {d : List UInt8} (h : SnG L D wd) (hn : L.length < 30) (hd : 1 ≤ d.length ∧ d.length ≤ 40) :
    (SnG (L ++ [d]) D wd ∧ sndOk ((((L.length : Nat) : Int) + 1) % 256) wd (offZ ((L.length : Nat) : Int) (wtL L D) d) ((D : Nat) : Int) = true) ∨ sndOk ((((L.length : Nat) : Int) + 1) % 256) wd (offZ ((L.length : Nat) : Int) (wtL L D) d) ((D : Nat) : Int) = false := by
  have h1 := h.le
  have hl := wtL_len L D
  have hz : offZ ((L.length : Nat) : Int) (wtL L D) d = wtL (L ++ [d]) D := by unfold offZ; rw [wtL_snoc h1]
  have e1 : (((L.length : Nat) : Int) + 1) % 256 = (((L ++ [d]).length : Nat) : Int) := by simp only [List.length_append, List.length_cons, List.length_nil]; omega
  by_cases hr : ((L.length : Nat) : Int) + 1 - D ≤ wd
  · left
    have hS : SnG (L ++ [d]) D wd := by
      refine ⟨by simp only [List.length_append]; omega, by simp only [List.length_append, List.length_cons, List.length_nil]; omega, h.w1, h.w2, by simp only [List.length_append, List.length_cons, List.length_nil]; omega, fun x hx => ?_⟩
      rcases List.mem_append.1 hx with hx | hx
      · exact h.all x hx
      · rw [List.mem_singleton.1 hx]; exact hd
    exact ⟨hS, by rw [hz, e1]; exact hS.ok⟩
  · right
    unfold sndOk sndPre
    rw [decide_eq_false (show ¬ (((offZ ((L.length : Nat) : Int) (wtL L D) d).length : Nat) : Int) ≤ wd by rw [offZ_len]; omega)]
    simp
theorem offer_ex {L : List (List UInt8)} {D : Nat} {wd : Int} {d : List UInt8} (h : SnG L D wd) (hl : L.length < 30) (hd : 1 ≤ d.length ∧ d.length ≤ 40) : ∃ (L1 : List (List UInt8)) (b : Bool), SnG L1 D wd ∧ (b = true → L ++ [d] = L1) ∧ (b = false → L = L1) ∧
    ∀ {A : Option Addr} {n c : Nat} (w : World), (wtL L D).length = n → Rd w 2 A n ((wtL L D).flatMap cSent) →
    Calls Try.prog 29 #[.agg #[.int .i64 ((L.length : Nat) : Int), .int .i64 wd, .slice A n c, .int .i64 ((D : Nat) : Int)], .string ⟨d.toArray⟩] w fun e w' => ∃ (A' : Option Addr) (c' : Nat), e = .returned (.tuple #[.agg #[.int .i64 ((L1.length : Nat) : Int), .int .i64 wd, .slice A' (wtL L1 D).length c', .int .i64 ((D : Nat) : Int)], .bool b]) ∧ w'.ownsRow w.heap.size 80 2 (.slice A' (wtL L1 D).length c') (wtL L1 D).length ((wtL L1 D).flatMap cSent) ∧ Below w.heap.size w w' := by
  have hle := h.le
  have hlen := wtL_len L D
  have hnx : (0 : Int) ≤ ((L.length : Nat) : Int) ∧ ((L.length : Nat) : Int) ≤ 255 := by omega
  have hz : offZ ((L.length : Nat) : Int) (wtL L D) d = wtL (L ++ [d]) D := by unfold offZ; rw [wtL_snoc hle]
  rcases offer_law h hl hd with ⟨hS, h2⟩ | h2
  · refine ⟨L ++ [d], true, hS, fun _ => rfl, fun hc => (by cases hc), fun {A n c} w hn hr => ?_⟩
    refine (offerCommand_yes _ wd A n c (wtL L D) _ d true w hn (by omega) h.txt (txt_le hd.2) hr hnx h.ok h2).mono fun e w' ⟨A', c', he, ho, hb⟩ => ⟨A', c', ?_, ?_, hb⟩
    · have e1 : (((L.length : Nat) : Int) + 1) % 256 = (((L ++ [d]).length : Nat) : Int) := by simp only [List.length_append, List.length_cons, List.length_nil]; omega
      have e2 : n + 1 = (wtL (L ++ [d]) D).length := by rw [wtL_len]; simp only [List.length_append, List.length_cons, List.length_nil]; omega
      rw [he, if_pos rfl, if_pos rfl, e1, e2]
    · have e2 : n + 1 = (wtL (L ++ [d]) D).length := by rw [wtL_len]; simp only [List.length_append, List.length_cons, List.length_nil]; omega
      simp only [if_true] at ho
      rw [hz, e2] at ho
      exact ho
  · refine ⟨L, false, h, fun hc => (by cases hc), fun _ => rfl, fun {A n c} w hn hr => ?_⟩
    refine (offerCommand_yes _ wd A n c (wtL L D) _ d false w hn (by omega) h.txt (txt_le hd.2) hr hnx h.ok h2).mono fun e w' ⟨A', c', he, ho, hb⟩ => ⟨A', c', ?_, ?_, hb⟩
    · rw [he, if_neg (by decide), if_neg (by decide), hn]
    · rw [hn]
      simpa using ho
theorem SnG.hear {L : List (List UInt8)} {D T : Nat} {wd : Int} (h : SnG L D wd) (hD : D ≤ T) (hT : T ≤ L.length) : SnG L T wd := ⟨hT, h.n, h.w1, h.w2, by have := h.wn; omega, h.all⟩
theorem hear_on {L : List (List UInt8)} {D T : Nat} {wd : Int} {lk ag : Bool} {A : Option Addr} {n c : Nat} (w : World) (h : SnG L D wd) (hD : D ≤ T) (hT : T ≤ L.length) (hn : (wtL L D).length = n) (hnc : n ≤ c) (hnn : A = none → n = 0 ∧ c = 0) (hr : Rd w 2 A n ((wtL L D).flatMap cSent)) :
    Calls Try.prog 34 #[.agg #[.int .i64 ((L.length : Nat) : Int), .int .i64 wd, .slice A n c, .int .i64 ((D : Nat) : Int)], .agg #[.int .i64 ((T : Nat) : Int), .bool lk, .bool ag]] w fun e w' => ∃ (A' : Option Addr) (c' : Nat), e = .returned (.agg #[.int .i64 ((L.length : Nat) : Int), .int .i64 wd, .slice A' (wtL L T).length c', .int .i64 ((T : Nat) : Int)]) ∧ w'.ownsRow w.heap.size 80 2 (.slice A' (wtL L T).length c') (wtL L T).length ((wtL L T).flatMap cSent) ∧ Below w.heap.size w w' := by
  have hle := h.le
  have hn30 := h.n
  have hwn := h.wn
  have hw2 := h.w2
  have hlen := wtL_len L D
  by_cases h0 : n = 0
  · have e : T = D := by omega
    subst e
    refine (hearNotice_no _ wd A n c (wtL L T) _ _ lk ag w hn (by omega) h.txt hnn hr (.inr (.inl h0))).mono fun e w' ⟨A', c', he, ho, hb⟩ => ⟨A', c', by rw [he, hn], by rw [hn]; exact ho, hb⟩
  · have hk : hearK ((T : Nat) : Int) (wtL L D) = ((T - D : Nat) : Int) := by
      have hg : (wtL L D).getD 0 default = (wtL L D)[0] := by simp [show 0 < (wtL L D).length by omega]
      unfold hearK
      rw [hg, wtL_get (by omega) (by omega)]
      simp only [Nat.add_zero]
      omega
    refine (hearNotice_yes _ wd A n c (wtL L D) _ _ lk ag w hn (by omega) hnc h.txt hnn hr h.ok (by omega) (inB_mk (by omega) (by omega)) (T - D) hk (by omega)).mono fun e w' ⟨A', c', he, ho, hb⟩ => ?_
    have e1 : D + (T - D) = T := by omega
    have e2 : n - (T - D) = (wtL L T).length := by rw [wtL_len]; omega
    have e3 : min (((D : Nat) : Int) + ((T - D : Nat) : Int)) 1000000 = ((T : Nat) : Int) := by omega
    rw [wtL_drop, e1, e2] at ho
    rw [e2, e3] at he
    exact ⟨A', c', he, ho, hb⟩
/-- The receiver takes the j-th command. -/
theorem take_ex {L : List (List UInt8)} {T j : Nat} {ag : Bool} {x : List UInt8} (hj : j < L.length) (hx : x = encCmd 0 ((j : Nat) : Int) L[j]) (hn : L.length ≤ 30) (hT : T ≤ L.length) (h1 : T ≤ j + 20) (h2 : j ≤ T + 20) (hall : ∀ d ∈ L, 1 ≤ d.length ∧ d.length ≤ 40) :
    ∃ (T' : Nat) (ag' t : Bool) (d : List UInt8), T ≤ T' ∧ T' ≤ L.length ∧ (j ≤ T → j + 1 ≤ T') ∧ (t = true → T' = T + 1 ∧ L.take T ++ [d] = L.take (T + 1)) ∧ (t = false → T = T') ∧
    ∀ w : World, Calls Try.prog 33 #[.agg #[.int .i64 ((T : Nat) : Int), .bool false, .bool ag, .int .i64 ((T : Nat) : Int)], .string ⟨x.toArray⟩] w fun e w' => e = .returned (.tuple #[.agg #[.int .i64 ((T' : Nat) : Int), .bool false, .bool ag', .int .i64 ((T' : Nat) : Int)], .string ⟨d.toArray⟩, .bool t]) ∧ Below w.heap.size w w' := by
  subst hx
  have hd := hall _ (List.getElem_mem hj)
  have hc : cmdOk 0 ((j : Nat) : Int) L[j] = true := cmdOk_mk (.inl rfl) (by omega) (by omega) hd.2
  have hr : recvOk ((T : Nat) : Int) ((T : Nat) : Int) = true := recvOk_mk (by omega) (by omega) (by omega) (by omega)
  have base : ¬ (recvOk ((T : Nat) : Int) ((T : Nat) : Int) = false ∨ true = false) := by rw [hr]; simp
  by_cases e : j = T
  · subst e
    have hv : tkV ((j : Nat) : Int) false ag ((j : Nat) : Int) true 0 ((j : Nat) : Int) L[j] = recvV ((j + 1 : Nat) : Int) false false ((j + 1 : Nat) : Int) L[j] true := by
      unfold tkV
      rw [if_neg base, if_neg (by decide), if_neg (by decide), if_pos ⟨by omega, by omega⟩, show (((j : Nat) : Int) + 1) % 256 = ((j + 1 : Nat) : Int) by omega, show ((j : Nat) : Int) + 1 = ((j + 1 : Nat) : Int) by omega]
    exact ⟨j + 1, false, true, L[j], by omega, by omega, fun _ => Nat.le_refl _, fun _ => ⟨rfl, (List.take_succ_eq_append_getElem hj).symm⟩, fun h => (by cases h), fun w => takeEnc _ _ _ _ _ _ _ _ w hc hv⟩
  · by_cases e2 : T < j
    · have hv : tkV ((T : Nat) : Int) false ag ((T : Nat) : Int) true 0 ((j : Nat) : Int) L[j] = recvV ((T : Nat) : Int) false true ((T : Nat) : Int) [] false := by
        unfold tkV
        rw [if_neg base, if_neg (by decide), if_neg (by decide), if_neg (by omega), if_pos (inB_mk (by omega) (by omega))]
      exact ⟨T, true, false, [], Nat.le_refl _, hT, fun h => by omega, fun h => (by cases h), fun _ => rfl, fun w => takeEnc _ _ _ _ _ _ _ _ w hc hv⟩
    · have hv : tkV ((T : Nat) : Int) false ag ((T : Nat) : Int) true 0 ((j : Nat) : Int) L[j] = recvV ((T : Nat) : Int) false ag ((T : Nat) : Int) [] false := by
        unfold tkV
        have b1 : inB ((((j : Nat) : Int) - ((T : Nat) : Int) + 256) % 256) 1 40 = false := by unfold inB; simp only [Bool.and_eq_false_iff, decide_eq_false_iff_not]; omega
        have b2 : inB ((((j : Nat) : Int) - ((T : Nat) : Int) + 256) % 256) 41 215 = false := by unfold inB; simp only [Bool.and_eq_false_iff, decide_eq_false_iff_not]; omega
        rw [if_neg base, if_neg (by decide), if_neg (by decide), if_neg (by omega), b1, b2, if_neg (by decide), if_neg (by decide)]
      exact ⟨T, ag, false, [], Nat.le_refl _, hT, fun h => by omega, fun h => (by cases h), fun _ => rfl, fun w => takeEnc _ _ _ _ _ _ _ _ w hc hv⟩
theorem blocks_on {L : List (List UInt8)} {D : Nat} {wd : Int} {A : Option Addr} {n c : Nat} (w : World) (h : SnG L D wd) (hn : (wtL L D).length = n) (hr : Rd w 2 A n ((wtL L D).flatMap cSent)) :
    Calls Try.prog 31 #[.agg #[.int .i64 ((L.length : Nat) : Int), .int .i64 wd, .slice A n c, .int .i64 ((D : Nat) : Int)]] w fun e w' => ∃ A' c', e = .returned (.slice A' (blocksL (wtL L D)).length c') ∧ w'.ownsRow w.heap.size 9 1 (.slice A' (blocksL (wtL L D)).length c') (blocksL (wtL L D)).length ((blocksL (wtL L D)).flatMap cS) ∧ Below w.heap.size w w' := by
  have hl := wtL_len L D
  have hn30 := h.n
  have := commandBlocks_any ((L.length : Nat) : Int) wd A n c (wtL L D) ((D : Nat) : Int) w hn (by omega) h.txt hr
  unfold cbL at this
  rw [h.ok] at this
  exact this
theorem blocks_get {L : List (List UInt8)} {D i : Nat} (h : i < (blocksL (wtL L D)).length) (h' : D + i < L.length) : (blocksL (wtL L D))[i] = encCmd 0 ((D + i : Nat) : Int) L[D + i] := by
  have h2 : i < (wtL L D).length := by rw [blocksL_len] at h; exact h
  have e : (blocksL (wtL L D))[i]? = some (encCmd 0 ((D + i : Nat) : Int) L[D + i]) := by
    unfold blocksL
    rw [List.getElem?_map, List.getElem?_eq_getElem h2, wtL_get h2 h']
    rfl
  exact (List.getElem?_eq_some_iff.1 e).2
theorem blk_len (L : List (List UInt8)) (D : Nat) : (blocksL (wtL L D)).length = L.length - D := by rw [blocksL_len, wtL_len]
theorem senderOk_on {L : List (List UInt8)} {D : Nat} {wd : Int} {A : Option Addr} {n c : Nat} (w : World) (h : SnG L D wd) (hn : (wtL L D).length = n) (hr : Rd w 2 A n ((wtL L D).flatMap cSent)) :
    Calls Try.prog 36 #[.agg #[.int .i64 ((L.length : Nat) : Int), .int .i64 wd, .slice A n c, .int .i64 ((D : Nat) : Int)]] w fun e w' => e = .returned (.bool true) ∧ Below w.heap.size w w' := by
  have hl := wtL_len L D
  have hn30 := h.n
  have := senderOk_any ((L.length : Nat) : Int) wd A n c (wtL L D) ((D : Nat) : Int) w hn (by omega) h.txt hr
  rw [h.ok] at this
  exact this
theorem receiverOk_on {T : Nat} {lk ag : Bool} (w : World) (h : T ≤ 30) : Calls Try.prog 20 #[.agg #[.int .i64 ((T : Nat) : Int), .bool lk, .bool ag, .int .i64 ((T : Nat) : Int)]] w fun e w' => e = .returned (.bool true) ∧ Below w.heap.size w w' := by
  have := receiverOk_any ((T : Nat) : Int) lk ag ((T : Nat) : Int) w
  rw [recvOk_mk (by omega) (by omega) (by omega) (by omega)] at this
  exact this
theorem newSender_on {wd : Int} (w : World) (h1 : 1 ≤ wd) (h2 : wd ≤ 20) : Calls Try.prog 27 #[.int .i64 wd] w fun e w' => e = .returned (.tuple #[.agg #[.int .i64 0, .int .i64 wd, .slice none 0 0, .int .i64 0], .bool true]) ∧ Below w.heap.size w w' := by
  have := newSender_any wd w
  rw [inB_mk h1 h2] at this
  exact this
theorem SnG.new {wd : Int} (h1 : 1 ≤ wd) (h2 : wd ≤ 20) : SnG [] 0 wd := ⟨Nat.le_refl _, by decide, h1, h2, by simp only [List.length_nil]; omega, fun d hd => by cases hd⟩
end Go.Proofs.Ytpnejmlbfadaaaa
