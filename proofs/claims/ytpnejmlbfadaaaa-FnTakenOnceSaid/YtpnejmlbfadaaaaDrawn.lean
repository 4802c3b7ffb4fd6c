/- Regions that draw their order: operations in any order, then a chain of operations that write (an append, a store ..), each behind the one before; operations that look at no memory may come at any time. One walk for every order. No condition. -/
import Derived.Test.YtpnejmlbfadaaaaRelBox
namespace Go.Proofs.Ytpnejmlbfadaaaa
open Go.RowKit

/-! ### What the listed operations have left -/
/-- The frame in which the operations that p names have put their values. -/
def frameL (x : Nat → Value) (p : Nat → Bool) : Nat → List Oper → Act → Act
  | _, [], a => a
  | k, o :: l, a => frameL x p (k + 1) l (if p k then a.put o.dst (x k) else a)
theorem frameL_size (x : Nat → Value) (p : Nat → Bool) : ∀ (l : List Oper) (k : Nat) (a : Act), (frameL x p k l a).tmps.size = a.tmps.size ∧ (frameL x p k l a).defers = a.defers
  | [], _, _ => ⟨rfl, rfl⟩
  | o :: l, k, a => by
    have h := frameL_size x p l (k + 1) (if p k then a.put o.dst (x k) else a)
    have e1 : (if p k then a.put o.dst (x k) else a).tmps.size = a.tmps.size := by split <;> simp [put_size]
    have e2 : (if p k then a.put o.dst (x k) else a).defers = a.defers := by split <;> simp [put_defers]
    exact ⟨h.1.trans e1, h.2.trans e2⟩
theorem frameL_none (x : Nat → Value) (p : Nat → Bool) {t : Tmp} : ∀ (l : List Oper) (k : Nat) (a : Act), (∀ (i : Nat) (o : Oper), l[i]? = some o → p (k + i) = true → o.dst ≠ some t) → (frameL x p k l a).tmps[t]? = a.tmps[t]?
  | [], _, _, _ => rfl
  | o :: l, k, a, h => by
    have h1 := frameL_none x p l (k + 1) (if p k then a.put o.dst (x k) else a) (fun i o' ho hp => h (i + 1) o' (by simpa using ho) (by rw [show k + (i + 1) = k + 1 + i from by omega]; exact hp))
    show (frameL x p (k + 1) l (if p k then a.put o.dst (x k) else a)).tmps[t]? = _
    rw [h1]
    split
    · rename_i hp
      exact put_other a _ _ (h 0 o rfl hp)
    · rfl
theorem frameL_dst (x : Nat → Value) (p : Nat → Bool) {t : Tmp} : ∀ (l : List Oper) (k : Nat) (a : Act) (j : Nat) (o : Oper), l[j]? = some o → o.dst = some t → p (k + j) = true → (∀ (i : Nat) (o' : Oper), i ≠ j → l[i]? = some o' → o'.dst ≠ some t) →
    (frameL x p k l a).tmps[t]? = if t < a.tmps.size then some (x (k + j)) else none
  | [], _, _, _, _, h, _, _, _ => by simp at h
  | o :: l, k, a, 0, o1, h, hd, hp, hu => by
    obtain rfl : o = o1 := by simpa using h
    have h1 := frameL_none x p (t := t) l (k + 1) (if p k then a.put o.dst (x k) else a) (fun i o' ho _ => hu (i + 1) o' (by omega) (by simpa using ho))
    show (frameL x p (k + 1) l (if p k then a.put o.dst (x k) else a)).tmps[t]? = _
    rw [Nat.add_zero] at hp
    rw [h1, if_pos hp, hd, put_same, Nat.add_zero]
  | o :: l, k, a, j + 1, o1, h, hd, hp, hu => by
    have h1 := frameL_dst x p l (k + 1) (if p k then a.put o.dst (x k) else a) j o1 (by simpa using h) hd (by rw [show k + 1 + j = k + (j + 1) from by omega]; exact hp) (fun i o' hi ho => hu (i + 1) o' (by omega) (by simpa using ho))
    show (frameL x p (k + 1) l (if p k then a.put o.dst (x k) else a)).tmps[t]? = _
    rw [h1, show k + 1 + j = k + (j + 1) from by omega]
    have e1 : (if p k then a.put o.dst (x k) else a).tmps.size = a.tmps.size := by split <;> simp [put_size]
    rw [e1]
theorem frameL_all (x : Nat → Value) (p : Nat → Bool) : ∀ (l : List Oper) (k : Nat) (a : Act), (∀ i, i < l.length → p (k + i) = true) → frameL x p k l a = frameX x k l a
  | [], _, _, _ => rfl
  | o :: l, k, a, h => by
    show frameL x p (k + 1) l (if p k then a.put o.dst (x k) else a) = frameX x (k + 1) l (a.put o.dst (x k))
    have h0 := h 0 (by simp)
    rw [Nat.add_zero] at h0
    rw [if_pos h0]
    exact frameL_all x p l (k + 1) _ (fun i hi => by rw [show k + 1 + i = k + (i + 1) from by omega]; exact h (i + 1) (by simpa using hi))
/-- What the region's text must bear: a slot that one operation writes is read by none but those that wait for it, or that it waits for. -/
def regOk (l : List Oper) : Bool :=
  Region.noSelect l.toArray &&
  (List.range l.length).all fun i => match l[i]? with
   | none => true
   | some oi =>
     oi.after.all (fun e => !Region.binds .any e || decide (e.on < i)) &&
     (match oi.dst with
      | none => true
      | some t => (List.range l.length).all fun j => match l[j]? with
        | none => true
        | some oj => (i == j || oj.dst != some t) && (!(oj.looksAt l.toArray).contains t || depOn oj i || depOn oi j))
structure RegF (l : List Oper) : Prop where
  nosel : Region.noSelect l.toArray = true
  lex : ∀ (i : Nat) (o : Oper), l[i]? = some o → ∀ e ∈ o.after, Region.binds .any e = true → e.on < i
  dst : ∀ (i j : Nat) (oi oj : Oper) (t : Tmp), l[i]? = some oi → l[j]? = some oj → oi.dst = some t → oj.dst = some t → i = j
  look : ∀ (i j : Nat) (oi oj : Oper) (t : Tmp), l[i]? = some oi → l[j]? = some oj → oi.dst = some t → t ∈ oj.looksAt l.toArray → depOn oj i = true ∨ depOn oi j = true
theorem regF {l : List Oper} (h : regOk l = true) : RegF l := by
  unfold regOk at h
  rw [Bool.and_eq_true] at h
  obtain ⟨h1, h4⟩ := h
  have h5 : ∀ (i : Nat) (oi : Oper), l[i]? = some oi → (oi.after.all (fun e => !Region.binds .any e || decide (e.on < i)) = true) ∧
     (match oi.dst with
      | none => true
      | some t => (List.range l.length).all fun j => match l[j]? with
        | none => true
        | some oj => (i == j || oj.dst != some t) && (!(oj.looksAt l.toArray).contains t || depOn oj i || depOn oi j)) = true := by
    intro i oi hi
    have hlt : i < l.length := (List.getElem?_eq_some_iff.1 hi).1
    have := List.all_eq_true.1 h4 i (List.mem_range.2 hlt)
    rw [hi] at this
    simpa only [Bool.and_eq_true] using this
  refine ⟨h1, fun i o ho e he hb => ?_, fun i j oi oj t hi hj hd hd' => ?_, fun i j oi oj t hi hj hd ht => ?_⟩
  · have := Array.all_eq_true_iff_forall_mem.1 (h5 i o ho).1 e he
    simpa [hb] using this
  · have h6 := (h5 i oi hi).2
    rw [hd] at h6
    have hlt : j < l.length := (List.getElem?_eq_some_iff.1 hj).1
    have h7 := List.all_eq_true.1 h6 j (List.mem_range.2 hlt)
    rw [hj] at h7
    simp only [Bool.and_eq_true, Bool.or_eq_true, beq_iff_eq, bne_iff_ne] at h7
    rcases h7.1 with h8 | h8
    · exact h8
    · exact absurd hd' h8
  · have h6 := (h5 i oi hi).2
    rw [hd] at h6
    have hlt : j < l.length := (List.getElem?_eq_some_iff.1 hj).1
    have h7 := List.all_eq_true.1 h6 j (List.mem_range.2 hlt)
    rw [hj] at h7
    simp only [Bool.and_eq_true, Bool.or_eq_true, Bool.not_eq_true'] at h7
    rcases h7.2 with (h8 | h8) | h8
    · simp [ht] at h8
    · exact .inl h8
    · exact .inr h8
/-- What is listed stands in its place, and nothing else. -/
structure Stands (l : List Oper) (a0 : Act) (x : Nat → Value) (listed : Array Bool) (a : Act) : Prop where
  defers : a.defers = a0.defers
  size : a.tmps.size = a0.tmps.size
  at_ : ∀ t : Nat, a.tmps[t]? = (frameL x (fun i => listed.getD i false) 0 l a0).tmps[t]?
section
variable {P : Program} {l : List Oper} {a0 : Act}
theorem Stands.start {x : Nat → Value} {listed : Array Bool} (h : ∀ i, i < l.length → listed.getD i false = false) : Stands l a0 x listed a0 :=
  ⟨rfl, rfl, fun t => (frameL_none x _ l 0 a0 (fun i o hi hp => by
    rw [Nat.zero_add, h i (List.getElem?_eq_some_iff.1 hi).1] at hp
    cases hp)).symm⟩
theorem Stands.all {x : Nat → Value} {listed : Array Bool} {a : Act} (h : Stands l a0 x listed a) (hall : ∀ i, i < l.length → listed.getD i false = true) : a = frameX x 0 l a0 := by
  have e := frameL_all x (fun i => listed.getD i false) l 0 a0 (fun i hi => by rw [Nat.zero_add]; exact hall i hi)
  have h1 : a.tmps = (frameX x 0 l a0).tmps := Array.ext_getElem? (fun t => by rw [← e]; exact h.at_ t)
  have h2 : a.defers = (frameX x 0 l a0).defers := by rw [(frame_size x l 0 a0).2, h.defers]
  cases a
  generalize frameX x 0 l a0 = b at h1 h2
  cases b
  simp only at h1 h2
  rw [h1, h2]
theorem Stands.step (F : RegF l) {x : Nat → Value} {listed : Array Bool} {a : Act} (h : Stands l a0 x listed a) {i : Nat} {o : Oper} (hi : l[i]? = some o) (hlt : i < listed.size) (v : Value) :
    Stands l a0 (updX x i v) (listed.setIfInBounds i true) (a.put o.dst v) := by
  refine ⟨by rw [put_defers, h.defers], by rw [put_size, h.size], fun t => ?_⟩
  by_cases hd : o.dst = some t
  · rw [hd, put_same, h.size, frameL_dst (updX x i v) _ l 0 a0 i o hi hd (by show (listed.setIfInBounds i true).getD (0 + i) false = true; rw [Nat.zero_add, getD_listed hlt, if_pos rfl]) (fun i' o' hne ho' hd' => hne (F.dst i' i o' o t ho' hi hd' hd)), Nat.zero_add, updX_self]
  · rw [put_other _ _ _ hd, h.at_ t]
    by_cases hex : ∃ (j : Nat) (oj : Oper), l[j]? = some oj ∧ oj.dst = some t
    · obtain ⟨j, oj, hj, hdj⟩ := hex
      have hu : ∀ (i' : Nat) (o' : Oper), i' ≠ j → l[i']? = some o' → o'.dst ≠ some t := fun i' o' hne ho' hd' => hne (F.dst i' j o' oj t ho' hj hd' hdj)
      have hji : j ≠ i := fun e => by
        subst e
        rw [hi] at hj
        cases hj
        exact hd hdj
      by_cases hl : listed.getD j false = true
      · rw [frameL_dst x _ l 0 a0 j oj hj hdj (by rw [Nat.zero_add]; exact hl) hu, frameL_dst (updX x i v) _ l 0 a0 j oj hj hdj (by show (listed.setIfInBounds i true).getD (0 + j) false = true; rw [Nat.zero_add, getD_listed hlt, if_neg hji]; exact hl) hu, Nat.zero_add, updX_ne x v hji]
      · rw [frameL_none x _ l 0 a0 (fun i' o' ho' hp => by
          by_cases hij : i' = j
          · rw [Nat.zero_add, hij] at hp
            exact absurd hp hl
          · exact hu i' o' hij ho'), frameL_none (updX x i v) _ l 0 a0 (fun i' o' ho' hp => by
          by_cases hij : i' = j
          · rw [hij] at hp
            replace hp : (listed.setIfInBounds i true).getD (0 + j) false = true := hp
            rw [Nat.zero_add, getD_listed hlt, if_neg hji] at hp
            exact absurd hp hl
          · exact hu i' o' hij ho')]
    · have hn : ∀ (i : Nat) (o : Oper), l[i]? = some o → o.dst ≠ some t := fun i o hi hd => hex ⟨i, o, hi, hd⟩
      rw [frameL_none x _ l 0 a0 (fun i' o' ho' _ => hn i' o' ho'), frameL_none (updX x i v) _ l 0 a0 (fun i' o' ho' _ => hn i' o' ho')]
/-- An operation that comes up reads what those that it waits for have left. -/
theorem Stands.tmp (F : RegF l) {x : Nat → Value} {listed : Array Bool} {a : Act} (h : Stands l a0 x listed a) (hC : Closed l listed) {j : Nat} {o : Oper} (hj : l[j]? = some o) (hun : listed.getD j false = false) (hdep : ∀ i, depOn o i = true → listed.getD i false = true) {t : Tmp} (ht : t ∈ o.looksAt l.toArray) :
    a.tmps[t]? = (frameL x (depOn o) 0 l a0).tmps[t]? := by
  rw [h.at_ t]
  by_cases hex : ∃ (i : Nat) (oi : Oper), l[i]? = some oi ∧ oi.dst = some t
  · obtain ⟨i, oi, hi, hd⟩ := hex
    have hu : ∀ (i' : Nat) (o' : Oper), i' ≠ i → l[i']? = some o' → o'.dst ≠ some t := fun i' o' hne ho' hd' => hne (F.dst i' i o' oi t ho' hi hd' hd)
    by_cases hdi : depOn o i = true
    · rw [frameL_dst x _ l 0 a0 i oi hi hd (by rw [Nat.zero_add]; exact hdep i hdi) hu, frameL_dst x (depOn o) l 0 a0 i oi hi hd (by rw [Nat.zero_add]; exact hdi) hu]
    · have hil : ¬ listed.getD i false = true := fun hl => by
        rcases F.look i j oi o t hi hj hd ht with h1 | h1
        · exact hdi h1
        · have := hC i oi hi hl j h1
          rw [this] at hun
          cases hun
      rw [frameL_none x _ l 0 a0 (fun i' o' ho' hp => by
          by_cases hij : i' = i
          · rw [Nat.zero_add, hij] at hp
            exact absurd hp hil
          · exact hu i' o' hij ho'), frameL_none x (depOn o) l 0 a0 (fun i' o' ho' hp => by
          by_cases hij : i' = i
          · rw [Nat.zero_add, hij] at hp
            exact absurd hp hdi
          · exact hu i' o' hij ho')]
  · have hn : ∀ (i : Nat) (o : Oper), l[i]? = some o → o.dst ≠ some t := fun i o hi hd => hex ⟨i, o, hi, hd⟩
    rw [frameL_none x _ l 0 a0 (fun i' o' ho' _ => hn i' o' ho'), frameL_none x (depOn o) l 0 a0 (fun i' o' ho' _ => hn i' o' ho')]
theorem Stands.exec (F : RegF l) {x : Nat → Value} {listed : Array Bool} {a : Act} (h : Stands l a0 x listed a) (hC : Closed l listed) {j : Nat} {o : Oper} (hj : l[j]? = some o) (hun : listed.getD j false = false) (hdep : ∀ i, depOn o i = true → listed.getD i false = true) :
    execOp a.eval o = execOp (frameL x (depOn o) 0 l a0).eval o :=
  execOp_congr o (fun cs b => Region.noSelect_spec F.nosel j o cs b (by simpa using hj)) (fun y hy => by
    cases y with
    | tmp t =>
      have := h.tmp F hC hj hun hdep (t := t) (List.mem_append_left _ (List.mem_filterMap.2 ⟨.tmp t, by simpa using hy, rfl⟩))
      simp only [Act.eval, Array.getD_eq_getD_getElem?, this]
    | const v => rfl
    | global g => rfl
    | func f => rfl)
theorem Stands.want (F : RegF l) {x : Nat → Value} {listed : Array Bool} {a : Act} (h : Stands l a0 x listed a) (hC : Closed l listed) {j : Nat} {o : Oper} (hj : l[j]? = some o) (hun : listed.getD j false = false) (hdep : ∀ i, depOn o i = true → listed.getD i false = true) :
    Region.wanted o (yielded l.toArray a.tmps) = Region.wanted o (yielded l.toArray (frameL x (depOn o) 0 l a0).tmps) := by
  unfold Region.wanted
  cases hg : o.guard with
  | none => rfl
  | some gw =>
    obtain ⟨g, want⟩ := gw
    have hy : yielded l.toArray a.tmps g = yielded l.toArray (frameL x (depOn o) 0 l a0).tmps g := by
      unfold yielded
      cases ht : (l.toArray[g]?).bind (·.dst) with
      | none => rfl
      | some t =>
        have := h.tmp F hC hj hun hdep (t := t) (List.mem_append_right _ (by simp only [hg, ht]; simp))
        simp only [Option.bind_some, this]
    simp only [hy]
theorem ready_none (F : RegF l) {listed : Array Bool} (hsz : listed.size = l.length) (h : Region.ready .any l.toArray listed = []) : ∀ i, i < l.length → listed.getD i false = true := by
  intro i
  induction i using Nat.strongRecOn with
  | ind i ih =>
    intro hi
    cases hg : listed.getD i false with
    | true => rfl
    | false =>
      exfalso
      have ho : l[i]? = some l[i] := List.getElem?_eq_getElem hi
      have hm : i ∈ Region.ready .any l.toArray listed := mem_ready.2 ⟨by
        have : i < listed.size := by omega
        simpa [this] using hg, l[i], by simp, fun e he hb => ih e.on (F.lex i _ ho e he hb) (by have := F.lex i _ ho e he hb; omega)⟩
      rw [h] at hm
      cases hm
end
/-- What an operation reads: what those that it waits for have yielded, and the frame as it was. -/
structure ReadsO (l : List Oper) (a0 : Act) (o : Oper) (x : Nat → Value) (ρ : Operand → Value) : Prop where
  out : ∀ (j t : Nat), (l[j]?).bind (·.dst) = some t → t < a0.tmps.size → depOn o j = true → ρ (.tmp t) = x j
  inn : ∀ t : Nat, ((List.range l.length).all fun i => match l[i]? with | some oi => oi.dst != some t || !depOn o i | none => true) = true → ρ (.tmp t) = a0.tmps.getD t undef
  cst : ∀ v, ρ (.const v) = v
  fn : ∀ f, ρ (.func f) = .func (.func f) #[] #[]
theorem readsO_frame {l : List Oper} (F : RegF l) (a0 : Act) (o : Oper) (x : Nat → Value) : ReadsO l a0 o x (frameL x (depOn o) 0 l a0).eval := by
  refine ⟨fun j t h hs hdp => ?_, fun t h => ?_, fun _ => rfl, fun _ => rfl⟩
  · cases ho : l[j]? with
    | none => rw [ho] at h; cases h
    | some oj =>
      rw [ho] at h
      have hd : oj.dst = some t := h
      have := frameL_dst x (depOn o) l 0 a0 j oj ho hd (by rw [Nat.zero_add]; exact hdp) (fun i' o' hne ho' hd' => hne (F.dst i' j o' oj t ho' ho hd' hd))
      rw [if_pos hs, Nat.zero_add] at this
      simp only [Act.eval, Array.getD_eq_getD_getElem?, this, Option.getD_some]
  · have := frameL_none x (depOn o) (t := t) l 0 a0 (fun i oi ho hp hd => by
      have h1 := List.all_eq_true.1 h i (List.mem_range.2 (List.getElem?_eq_some_iff.1 ho).1)
      rw [Nat.zero_add] at hp
      simp [ho, hd, hp] at h1)
    simp only [Act.eval, Array.getD_eq_getD_getElem?, this]
theorem reads_all {l : List Oper} (F : RegF l) (a0 : Act) (x : Nat → Value) : Reads l a0 x (frameX x 0 l a0).eval := by
  refine ⟨fun j t h hs => ?_, fun t h => ?_, fun _ => rfl, fun _ => rfl⟩
  · cases ho : l[j]? with
    | none => rw [ho] at h; cases h
    | some o =>
      rw [ho] at h
      have hd : o.dst = some t := h
      have := frame_dst x l 0 a0 j o ho hd (fun i' o' hne ho' hd' => hne (F.dst i' j o' o t ho' ho hd' hd))
      rw [if_pos hs, Nat.zero_add] at this
      simp only [Act.eval, Array.getD_eq_getD_getElem?, this, Option.getD_some]
  · have := frame_none x (t := t) l 0 a0 (fun i o ho hd => by
      have h1 := List.all_eq_true.1 h o (List.mem_of_getElem? ho)
      simp [hd] at h1)
    simp only [Act.eval, Array.getD_eq_getD_getElem?, this]

/-- What the chain asks of a region's text. -/
def chOk (l : List Oper) (late chain : List Nat) : Bool :=
  (List.range chain.length).all (fun p => match chain[p]? with
    | none => true
    | some s => decide (s < l.length) && !late.contains s &&
      (match l[s]? with | some o => o.guard.isNone && (match chain[p + 1]? with | some t => (match l[t]? with | some o' => depOn o' s | none => false) | none => true) | none => false)) &&
  (match chain[0]? with
   | none => true
   | some s => (List.range l.length).all fun i => chain.contains i || late.contains i || (List.range l.length).any fun j => decide (i < j) && (match l[j]? with | some oj => depOn oj i | none => false) && (j == s || (!late.contains j && !chain.contains j)))
structure ChFacts (l : List Oper) (late chain : List Nat) : Prop where
  lt : ∀ (p s : Nat), chain[p]? = some s → s < l.length
  nlate : ∀ (p s : Nat), chain[p]? = some s → late.contains s = false
  guard : ∀ (p s : Nat) (o : Oper), chain[p]? = some s → l[s]? = some o → o.guard = none
  next : ∀ (p s t : Nat) (o : Oper), chain[p]? = some s → chain[p + 1]? = some t → l[t]? = some o → depOn o s = true
  feeds : ∀ (s i : Nat) (o : Oper), chain[0]? = some s → l[i]? = some o → chain.contains i = false → late.contains i = false → ∃ (j : Nat) (oj : Oper), l[j]? = some oj ∧ i < j ∧ depOn oj i = true ∧ (j = s ∨ (late.contains j = false ∧ chain.contains j = false))
theorem chFacts {l : List Oper} {late chain : List Nat} (h : chOk l late chain = true) : ChFacts l late chain := by
  unfold chOk at h
  rw [Bool.and_eq_true] at h
  obtain ⟨h1, h2⟩ := h
  have h3 : ∀ (p s : Nat), chain[p]? = some s → s < l.length ∧ late.contains s = false ∧ ∃ o, l[s]? = some o ∧ o.guard = none ∧ ∀ t o', chain[p + 1]? = some t → l[t]? = some o' → depOn o' s = true := by
    intro p s hp
    have hlt : p < chain.length := (List.getElem?_eq_some_iff.1 hp).1
    have := List.all_eq_true.1 h1 p (List.mem_range.2 hlt)
    rw [hp] at this
    simp only [Bool.and_eq_true, decide_eq_true_eq, Bool.not_eq_true'] at this
    obtain ⟨⟨a1, a2⟩, a3⟩ := this
    refine ⟨a1, a2, ?_⟩
    cases ho : l[s]? with
    | none => rw [ho] at a3; cases a3
    | some o =>
      rw [ho] at a3
      simp only [Bool.and_eq_true, Option.isNone_iff_eq_none] at a3
      refine ⟨o, rfl, a3.1, fun t o' ht ho' => ?_⟩
      have := a3.2
      rw [ht] at this
      simp only [ho'] at this
      exact this
  refine ⟨fun p s hp => (h3 p s hp).1, fun p s hp => (h3 p s hp).2.1, fun p s o hp ho => ?_, fun p s t o hp ht ho => ?_, fun s i o hs hi hc hl => ?_⟩
  · obtain ⟨o', ho', hg, _⟩ := (h3 p s hp).2.2
    rw [ho] at ho'
    cases ho'
    exact hg
  · obtain ⟨_, _, _, hn⟩ := (h3 p s hp).2.2
    exact hn t o ht ho
  · rw [hs] at h2
    have hlt : i < l.length := (List.getElem?_eq_some_iff.1 hi).1
    have h4 := List.all_eq_true.1 h2 i (List.mem_range.2 hlt)
    simp only [hc, hl, Bool.false_or, List.any_eq_true, Bool.and_eq_true, decide_eq_true_eq, Bool.or_eq_true, beq_iff_eq, Bool.not_eq_true'] at h4
    obtain ⟨j, _, ⟨h5, h6⟩, h7⟩ := h4
    cases hj : l[j]? with
    | none => rw [hj] at h6; cases h6
    | some oj => rw [hj] at h6; exact ⟨j, oj, hj, h5, h6, h7⟩

/-- The chain, one operation after the other. -/
def ChainC (P : Program) (l : List Oper) (a0 : Act) (late chain0 : List Nat) (links : List (Nat × Nat)) (R : Nat → Value → World → Prop) (Q : Exit → Act → World → Prop) (x0 : Nat → Value) (w0 : World) : List Nat → List (Nat × Value) → World → Prop
  | [], kn, w => ∀ x : Nat → Value, (∀ i, i < l.length → late.contains i = false → chain0.contains i = false → x i = x0 i) → (∀ i, i < l.length → late.contains i = true → R i (x i) w0) → (∀ c ∈ kn, x c.1 = c.2) → (∀ c ∈ links, x c.1 = x c.2) → Q .normal (frameX x 0 l a0) w
  | s :: rest, kn, w => ∀ o, l[s]? = some o → ∀ x : Nat → Value, (∀ i, i < l.length → late.contains i = false → chain0.contains i = false → x i = x0 i) → (∀ i, late.contains i = true → depOn o i = true → R i (x i) w0) → (∀ c ∈ kn, x c.1 = c.2) →
      goesR P o (frameL x (depOn o) 0 l a0).eval w (fun v w1 => ChainC P l a0 late chain0 links R Q x0 w0 rest ((s, v) :: kn) w1)

section
variable {P : Program} {l : List Oper} {a0 : Act} {late chain : List Nat} {links : List (Nat × Nat)} {R : Nat → Value → World → Prop} {W : World} {Q : Exit → Act → World → Prop}

/-- What is asked of the operations. -/
structure ChHyps (P : Program) (l : List Oper) (late chain : List Nat) (links : List (Nat × Nat)) (a0 : Act) (R : Nat → Value → World → Prop) (W : World) (Q : Exit → Act → World → Prop) : Prop where
  stab : ∀ (i : Nat) (v : Value) (w w' : World), Below w.heap.size w w' → R i v w → R i v w'
  step : ∀ (i : Nat) (o : Oper) (x : Nat → Value) (w' : World), l[i]? = some o → chain.contains i = false → late.contains i = false → Below W.heap.size W w' → (∀ j, depOn o j = true → R j (x j) w') →
      if Region.wanted o (yielded l.toArray (frameL x (depOn o) 0 l a0).tmps) = true then goes P o (frameL x (depOn o) 0 l a0) w' (fun v w'' => Below w'.heap.size w' w'' ∧ R i v w'') else R i undef w'
  lates : ∀ (i : Nat) (o : Oper) (x : Nat → Value) (w' : World), l[i]? = some o → late.contains i = true → Below W.heap.size W w' → (∀ j, depOn o j = true → chain.contains j = false → R j (x j) w') →
      if Region.wanted o (yielded l.toArray (frameL x (depOn o) 0 l a0).tmps) = true then ∃ v, (∀ w', (execOp (frameL x (depOn o) 0 l a0).eval o).run P w' = .ok (.value v) w') ∧ R i v w' else R i undef w'
  chn : ∀ (x0 : Nat → Value) (w0 : World), Below W.heap.size W w0 → (∀ i, i < l.length → chain.contains i = false → late.contains i = false → R i (x0 i) w0) → ChainC P l a0 late chain links R Q x0 w0 chain [] w0

/-- A late operation that hands on what another one yielded. -/
def linkOk (l : List Oper) (late : List Nat) (n : Nat) (links : List (Nat × Nat)) : Bool := links.all fun c => late.contains c.1 && (match l[c.1]?, l[c.2]? with
  | some ok, some oi => depOn ok c.2 && ok.guard.isNone && (match ok.op, oi.dst with | .move (.tmp t), some d => t == d && decide (t < n) | .assign (.tmp t), some d => t == d && decide (t < n) | _, _ => false)
  | _, _ => false)
structure LinkFacts (l : List Oper) (late : List Nat) (n : Nat) (links : List (Nat × Nat)) : Prop where
  late : ∀ c ∈ links, late.contains c.1 = true
  lt : ∀ c ∈ links, c.1 < l.length
  dep : ∀ c ∈ links, ∀ o, l[c.1]? = some o → depOn o c.2 = true ∧ o.guard = none
  val : ∀ c ∈ links, ∀ (o : Oper) (ρ : Operand → Value) (P : Program) (w w' : World) (v : Value), l[c.1]? = some o → (execOp ρ o).run P w = .ok (.value v) w' → ∃ t oi, l[c.2]? = some oi ∧ oi.dst = some t ∧ t < n ∧ v = ρ (.tmp t)
theorem linkFacts {n : Nat} (h : linkOk l late n links = true) : LinkFacts l late n links := by
  unfold linkOk at h
  rw [List.all_eq_true] at h
  refine ⟨fun c hc => (by have := h c hc; rw [Bool.and_eq_true] at this; exact this.1), fun c hc => ?_, fun c hc o ho => ?_, fun c hc o ρ P w w' v ho hr => ?_⟩
  · have := h c hc
    rw [Bool.and_eq_true] at this
    cases ho : l[c.1]? with
    | none => rw [ho] at this; cases this.2
    | some o => exact (List.getElem?_eq_some_iff.1 ho).1
  · have := h c hc
    rw [Bool.and_eq_true, ho] at this
    obtain ⟨_, h2⟩ := this
    cases hi : l[c.2]? with
    | none => rw [hi] at h2; cases h2
    | some oi =>
      rw [hi] at h2
      simp only [Bool.and_eq_true, Option.isNone_iff_eq_none] at h2
      exact h2.1
  · have := h c hc
    rw [Bool.and_eq_true, ho] at this
    obtain ⟨_, h2⟩ := this
    cases hi : l[c.2]? with
    | none => rw [hi] at h2; cases h2
    | some oi =>
      rw [hi] at h2
      simp only [Bool.and_eq_true] at h2
      obtain ⟨_, h3⟩ := h2
      cases hd : oi.dst with
      | none => rw [hd] at h3; split at h3 <;> simp_all
      | some d =>
        rw [hd] at h3
        split at h3
        · rename_i t d' hop hdd
          simp only [Bool.and_eq_true, beq_iff_eq, decide_eq_true_eq] at h3
          refine ⟨t, oi, rfl, by rw [hd, h3.1]; exact hdd ▸ rfl, h3.2, ?_⟩
          unfold execOp at hr
          simp only [hop, Sem.run_pure, Result.ok.injEq, Next.value.injEq] at hr
          exact hr.1.symm
        · rename_i t d' hop hdd
          simp only [Bool.and_eq_true, beq_iff_eq, decide_eq_true_eq] at h3
          refine ⟨t, oi, rfl, by rw [hd, h3.1]; exact hdd ▸ rfl, h3.2, ?_⟩
          unfold execOp at hr
          simp only [hop, Sem.run_pure, Result.ok.injEq, Next.value.injEq] at hr
          exact hr.1.symm
        · cases h3
theorem link_val (F : RegF l) {n : Nat} (LF : LinkFacts l late n links) (hn : a0.tmps.size = n) {c : Nat × Nat} (hc : c ∈ links) {o : Oper} (ho : l[c.1]? = some o) {x : Nat → Value} {w w' : World} {v : Value} (hr : (execOp (frameL x (depOn o) 0 l a0).eval o).run P w = .ok (.value v) w') : v = x c.2 := by
  obtain ⟨t, oi, hi, hd, ht, hv⟩ := LF.val c hc o _ P w w' v ho hr
  have hf := frameL_dst x (depOn o) l 0 a0 c.2 oi hi hd (by rw [Nat.zero_add]; exact (LF.dep c hc o ho).1) (fun i' o' hne ho' hd' => hne (F.dst i' c.2 o' oi t ho' hi hd' hd))
  rw [if_pos (by rw [hn]; exact ht), Nat.zero_add] at hf
  rw [hv]
  simp only [Act.eval, Array.getD_eq_getD_getElem?, hf, Option.getD_some]
/-- The links stay. -/
theorem links_step {n : Nat} (LF : LinkFacts l late n links) {listed : Array Bool} (hC : Closed l listed) {i : Nat} (hlt : i < listed.size) (hsz : listed.size = l.length) (hun : listed.getD i false = false) {x : Nat → Value} (hk : ∀ c ∈ links, listed.getD c.1 false = true → x c.1 = x c.2) {v : Value}
    {o : Oper} (ho : l[i]? = some o) (hdep : ∀ j, depOn o j = true → listed.getD j false = true) (hv : ∀ c ∈ links, c.1 = i → v = x c.2) : ∀ c ∈ links, (listed.setIfInBounds i true).getD c.1 false = true → updX x i v c.1 = updX x i v c.2 := by
  intro c hc hl
  have hlen : ∀ j, listed.getD j false = true → j < l.length := fun j hj => by
    rcases Nat.lt_or_ge j l.length with h | h
    · exact h
    · have h1 : listed.size ≤ j := by omega
      simp [h1] at hj
  have hne2 : ∀ o', l[c.1]? = some o' → (c.1 = i ∨ listed.getD c.1 false = true) → c.2 ≠ i := fun o' ho' hor e => by
    have hd := (LF.dep c hc o' ho').1
    rcases hor with h1 | h1
    · rw [h1] at ho'
      rw [ho] at ho'
      cases ho'
      have := hdep _ hd
      rw [e, hun] at this
      cases this
    · have := hC c.1 o' ho' h1 c.2 hd
      rw [e, hun] at this
      cases this
  by_cases hci : c.1 = i
  · have := hne2 o (by rw [hci]; exact ho) (.inl hci)
    rw [hci, updX_self, updX_ne x v this]
    exact hv c hc hci
  · rw [getD_listed hlt, if_neg hci] at hl
    have := hne2 _ (List.getElem?_eq_getElem (hlen _ hl)) (.inr hl)
    rw [updX_ne x v hci, updX_ne x v this]
    exact hk c hc hl

theorem ready_lt {listed : Array Bool} (hsz : listed.size = l.length) {o : Oper} (hdep : ∀ j, depOn o j = true → listed.getD j false = true) : ∀ j, depOn o j = true → j < l.length := fun j hj => by
  have := hdep j hj
  rcases Nat.lt_or_ge j l.length with h | h
  · exact h
  · have h1 : listed.size ≤ j := by omega
    simp [h1] at this
theorem mem_contains {c : List Nat} {i : Nat} : c.contains i = true ↔ ∃ p : Nat, c[p]? = some i := by
  rw [List.contains_iff_mem]
  exact List.mem_iff_getElem?

/-- Behind the chain's first p operations. -/
theorem ch_late (F : RegF l) {nn : Nat} (LF : LinkFacts l late nn links) (hnn : a0.tmps.size = nn) (C : ChFacts l late chain) (H : ChHyps P l late chain links a0 R W Q) {x0 : Nat → Value} {w0 : World} (hW : Below W.heap.size W w0) (hx0 : ∀ i, i < l.length → chain.contains i = false → late.contains i = false → R i (x0 i) w0) :
    ∀ (fuel : Nat) (listed : Array Bool) (a : Act) (w : World) (x : Nat → Value) (p : Nat) (rest : List Nat) (kn : List (Nat × Value)), listed.size = l.length → left l.length listed ≤ fuel → Stands l a0 x listed a → Closed l listed → chain.drop p = rest → 0 < p →
      (∀ q s : Nat, q < p → chain[q]? = some s → listed.getD s false = true) → (∀ q s : Nat, p ≤ q → chain[q]? = some s → listed.getD s false = false) →
      (∀ i, i < l.length → chain.contains i = false → late.contains i = false → listed.getD i false = true) →
      (∀ i, i < l.length → late.contains i = false → chain.contains i = false → x i = x0 i) →
      (∀ i, i < l.length → listed.getD i false = true → late.contains i = true → R i (x i) w0) →
      (∀ c ∈ kn, x c.1 = c.2 ∧ listed.getD c.1 false = true) → (∀ c ∈ links, listed.getD c.1 false = true → x c.1 = x c.2) →
      ChainC P l a0 late chain links R Q x0 w0 rest kn w → wpAny P .any l.toArray Q fuel listed a w := by
  intro fuel
  have hlate : ∀ c ∈ links, late.contains c.1 = true := LF.late
  have hlks : ∀ c ∈ links, c.1 < l.length := LF.lt
  have hdone : ∀ (listed : Array Bool) (a : Act) (w : World) (x : Nat → Value) (p : Nat) (rest : List Nat) (kn : List (Nat × Value)), Stands l a0 x listed a → (∀ i, i < l.length → listed.getD i false = true) → chain.drop p = rest →
      (∀ q s : Nat, p ≤ q → chain[q]? = some s → listed.getD s false = false) →
      (∀ i, i < l.length → late.contains i = false → chain.contains i = false → x i = x0 i) → (∀ i, i < l.length → listed.getD i false = true → late.contains i = true → R i (x i) w0) → (∀ c ∈ kn, x c.1 = c.2 ∧ listed.getD c.1 false = true) → (∀ c ∈ links, listed.getD c.1 false = true → x c.1 = x c.2) →
      ChainC P l a0 late chain links R Q x0 w0 rest kn w → Q .normal a w := by
    intro listed a w x p rest kn hA hall hr hn hx hR hk hlk hch
    have hlall : ∀ c ∈ links, listed.getD c.1 false = true := fun c hc => hall _ (hlks c hc)
    have hrest : rest = [] := by
      cases hrr : rest with
      | nil => rfl
      | cons s t =>
        have h1 : chain[p]? = some s := by
          have h2 : (chain.drop p)[0]? = some s := by rw [hr, hrr]; rfl
          rwa [List.getElem?_drop, Nat.add_zero] at h2
        have h3 := hn p s (Nat.le_refl _) h1
        rw [hall s (C.lt p s h1)] at h3
        cases h3
    rw [hrest] at hch
    rw [hA.all hall]
    exact hch x hx (fun i hi hl => hR i hi (hall i hi) hl) (fun c hc => (hk c hc).1) (fun c hc => hlk c hc (hlall c hc))
  induction fuel with
  | zero =>
    intro listed a w x p rest kn hsz hleft hA hC hr hp hcl hcn hf hx hR hk hlk hch
    have hall := left_zero hleft
    refine ⟨?_, hdone listed a w x p rest kn hA hall hr hcn hx hR hk hlk hch⟩
    cases hrd : Region.ready .any l.toArray listed with
    | nil => rfl
    | cons i t =>
      obtain ⟨o, ho, hi, hun, _⟩ := ready_spec hsz (i := i) (by rw [hrd]; exact List.mem_cons_self)
      rw [hall i hi] at hun
      cases hun
  | succ fuel ih =>
    intro listed a w x p rest kn hsz hleft hA hC hr hp hcl hcn hf hx hR hk hlk hch
    refine ⟨fun hrd => hdone listed a w x p rest kn hA (ready_none F hsz hrd) hr hcn hx hR hk hlk hch, fun i hi => ?_⟩
    obtain ⟨o, ho, hin, hun, hdep⟩ := ready_spec hsz hi
    have hlt : i < listed.size := by omega
    have hdlt := ready_lt hsz hdep
    have hkn' : ∀ v, ∀ c ∈ kn, updX x i v c.1 = c.2 ∧ (listed.setIfInBounds i true).getD c.1 false = true := fun v c hc => by
      obtain ⟨h1, h2⟩ := hk c hc
      have hne : c.1 ≠ i := fun e => by rw [e, hun] at h2; cases h2
      exact ⟨by rw [updX_ne x v hne]; exact h1, listed_mono hlt h2⟩
    have hx' : ∀ v, (chain.contains i = true ∨ late.contains i = true) → ∀ j, j < l.length → late.contains j = false → chain.contains j = false → updX x i v j = x0 j := fun v hor j hj h1 h2 => by
      have hne : j ≠ i := fun e => by
        subst e
        rcases hor with h3 | h3
        · rw [h2] at h3; cases h3
        · rw [h1] at h3; cases h3
      rw [updX_ne x v hne]
      exact hx j hj h1 h2
    cases hic : chain.contains i with
    | true =>
      obtain ⟨q, hq⟩ := mem_contains.1 hic
      have hpq : q = p := by
        rcases Nat.lt_trichotomy q p with h1 | h1 | h1
        · have := hcl q i h1 hq
          rw [this] at hun
          cases hun
        · exact h1
        · exfalso
          have hql : q < chain.length := (List.getElem?_eq_some_iff.1 hq).1
          have hq1 : chain[q - 1]? = some (chain[q - 1]'(by omega)) := List.getElem?_eq_getElem _
          have hd := C.next (q - 1) _ i o hq1 (by rw [show q - 1 + 1 = q from by omega]; exact hq) ho
          have h3 := hcn (q - 1) _ (by omega) hq1
          rw [hdep _ hd] at h3
          cases h3
      subst hpq
      have hrest : rest = i :: chain.drop (q + 1) := by
        rw [← hr]
        have hql : q < chain.length := (List.getElem?_eq_some_iff.1 hq).1
        rw [List.drop_eq_getElem_cons hql, (List.getElem?_eq_some_iff.1 hq).2]
      rw [hrest] at hch
      have hgo := hch o ho x hx (fun j hl hd => hR j (hdlt j hd) (hdep j hd) hl) (fun c hc => (hk c hc).1)
      unfold wpOp
      simp only [List.getElem?_toArray, ho]
      rw [if_pos (by simp [Region.wanted, C.guard q i o hq ho])]
      refine .inl (goes_wp (goes_congr (hA.exec F hC ho hun hdep) (show goes P o (frameL x (depOn o) 0 l a0) w _ from hgo)) (fun v w' hv => ?_))
      refine ih _ _ w' (updX x i v) (q + 1) _ _ (by rw [Array.size_setIfInBounds]; exact hsz) (left_step hin hlt hun hleft) (hA.step F ho hlt v) (hC.step ho hlt hdep) rfl (by omega) (fun r s hr' hs => ?_) (fun r s hr' hs => ?_) (fun j hj h1 h2 => listed_mono hlt (hf j hj h1 h2)) (hx' v (.inl hic)) (fun j hj hjl hl => ?_) (fun c hc => ?_) (links_step LF hC hlt hsz hun hlk ho hdep (fun c hc e => by have := hlate c hc; rw [e, C.nlate q i hq] at this; cases this)) hv
      · rcases Nat.lt_or_ge r q with h1 | h1
        · exact listed_mono hlt (hcl r s h1 hs)
        · obtain rfl : r = q := by omega
          rw [hq] at hs
          cases hs
          rw [getD_listed hlt, if_pos rfl]
      · rw [getD_listed hlt]
        have hsi : s ≠ i := fun e => by
          subst e
          -- a chain holds no operation twice: each stands behind the one before
          have key : ∀ d s' t : Nat, chain[q]? = some s' → chain[q + 1 + d]? = some t → s' < t := by
            intro d
            induction d with
            | zero =>
              intro s' t h1 h2
              have hto := C.lt _ _ h2
              obtain ⟨e, he, hb⟩ := List.any_eq_true.1 (C.next q s' t _ h1 h2 (List.getElem?_eq_getElem hto))
              simp only [Bool.and_eq_true, beq_iff_eq] at hb
              have := F.lex t _ (List.getElem?_eq_getElem hto) e (by simpa using he) hb.1
              omega
            | succ d ih2 =>
              intro s' t h1 h2
              have hlen : q + 1 + d < chain.length := by have := (List.getElem?_eq_some_iff.1 h2).1; omega
              have h3 := ih2 s' _ h1 (List.getElem?_eq_getElem hlen)
              have hto := C.lt _ _ h2
              obtain ⟨e, he, hb⟩ := List.any_eq_true.1 (C.next (q + 1 + d) _ t _ (List.getElem?_eq_getElem hlen) (by rw [show q + 1 + d + 1 = q + 1 + (d + 1) from by omega]; exact h2) (List.getElem?_eq_getElem hto))
              simp only [Bool.and_eq_true, beq_iff_eq] at hb
              have := F.lex t _ (List.getElem?_eq_getElem hto) e (by simpa using he) hb.1
              omega
          have := key (r - (q + 1)) s s hq (by rw [show q + 1 + (r - (q + 1)) = r from by omega]; exact hs)
          omega
        rw [if_neg hsi]
        exact hcn r s (by omega) hs
      · have hne : j ≠ i := fun e => by
          subst e
          have := C.nlate q j hq
          rw [this] at hl
          cases hl
        rw [getD_listed hlt, if_neg hne] at hjl
        rw [updX_ne x v hne]
        exact hR j hj hjl hl
      · rcases List.mem_cons.1 hc with rfl | hc
        · exact ⟨updX_self x i v, by rw [getD_listed hlt, if_pos rfl]⟩
        · exact hkn' v c hc
    | false =>
      have hil : late.contains i = true := by
        cases hb : late.contains i with
        | true => rfl
        | false =>
          have := hf i hin hic hb
          rw [this] at hun
          cases hun
      have key : ∀ v, R i v w0 → (∀ c ∈ links, c.1 = i → v = x c.2) → wpAny P .any l.toArray Q fuel (listed.setIfInBounds i true) (a.put o.dst v) w := by
        intro v hv hlv
        refine ih _ _ w (updX x i v) p rest kn (by rw [Array.size_setIfInBounds]; exact hsz) (left_step hin hlt hun hleft) (hA.step F ho hlt v) (hC.step ho hlt hdep) hr hp (fun q s h1 h2 => listed_mono hlt (hcl q s h1 h2)) (fun q s h1 h2 => ?_) (fun j hj h1 h2 => listed_mono hlt (hf j hj h1 h2)) (hx' v (.inr hil)) (fun j hj hjl hl => ?_) (hkn' v) (links_step LF hC hlt hsz hun hlk ho hdep hlv) hch
        · have hne : s ≠ i := fun e => by
            subst e
            have := mem_contains.2 ⟨q, h2⟩
            rw [this] at hic
            cases hic
          rw [getD_listed hlt, if_neg hne]
          exact hcn q s h1 h2
        · by_cases hji : j = i
          · subst hji
            rw [updX_self]
            exact hv
          · rw [getD_listed hlt, if_neg hji] at hjl
            rw [updX_ne x v hji]
            exact hR j hj hjl hl
      have hl := H.lates i o x w0 ho hil hW (fun j hj hjc => by
        have hjlt := hdlt j hj
        cases hjl : late.contains j with
        | true => exact hR j hjlt (hdep j hj) hjl
        | false =>
          rw [hx j hjlt hjl hjc]
          exact hx0 j hjlt hjc hjl)
      unfold wpOp
      simp only [List.getElem?_toArray, ho]
      rw [hA.want F hC ho hun hdep]
      split
      · rename_i hw
        rw [if_pos hw] at hl
        obtain ⟨v, hv, hr'⟩ := hl
        refine .inl ?_
        unfold Oper.wp
        rw [hA.exec F hC ho hun hdep, hv w]
        exact key v hr' (fun c hc e => link_val F LF hnn hc (by rw [e]; exact ho) (hv w))
      · rename_i hw
        rw [if_neg hw] at hl
        exact key undef hl (fun c hc e => absurd (by unfold Region.wanted; rw [(LF.dep c hc o (by rw [e]; exact ho)).2]) hw)

theorem ch_feeds (C : ChFacts l late chain) {listed : Array Bool} (hC : Closed l listed) {s : Nat} {os : Oper} (hs : chain[0]? = some s) (hos : l[s]? = some os) (hdep : ∀ j, depOn os j = true → listed.getD j false = true) :
    ∀ i, i < l.length → chain.contains i = false → late.contains i = false → listed.getD i false = true := by
  have key : ∀ d i, l.length - i ≤ d → i < l.length → chain.contains i = false → late.contains i = false → listed.getD i false = true := by
    intro d
    induction d with
    | zero => intro i h1 h2; omega
    | succ d ih =>
      intro i h1 h2 h3 h4
      obtain ⟨j, oj, hj, hij, hd, hor⟩ := C.feeds s i _ hs (List.getElem?_eq_getElem h2) h3 h4
      have hjl : j < l.length := (List.getElem?_eq_some_iff.1 hj).1
      rcases hor with h5 | ⟨h5, h6⟩
      · subst h5
        rw [hos] at hj
        cases hj
        exact hdep i hd
      · exact hC j oj hj (ih j (by omega) hjl h6 h5) i hd
  intro i
  exact key _ i (Nat.le_refl _)

theorem ch_any (F : RegF l) {nn : Nat} (LF : LinkFacts l late nn links) (hnn : a0.tmps.size = nn) (C : ChFacts l late chain) (H : ChHyps P l late chain links a0 R W Q) :
    ∀ (fuel : Nat) (listed : Array Bool) (a : Act) (w : World) (x : Nat → Value), listed.size = l.length → left l.length listed ≤ fuel → Stands l a0 x listed a → Closed l listed → Below W.heap.size W w → (∀ q s : Nat, chain[q]? = some s → listed.getD s false = false) →
      (∀ i, i < l.length → listed.getD i false = true → R i (x i) w) → (∀ c ∈ links, listed.getD c.1 false = true → x c.1 = x c.2) → wpAny P .any l.toArray Q fuel listed a w := by
  intro fuel
  have hdone : ∀ (listed : Array Bool) (a : Act) (w : World) (x : Nat → Value), Stands l a0 x listed a → (∀ i, i < l.length → listed.getD i false = true) → Below W.heap.size W w → (∀ q s : Nat, chain[q]? = some s → listed.getD s false = false) →
      (∀ i, i < l.length → listed.getD i false = true → R i (x i) w) → (∀ c ∈ links, listed.getD c.1 false = true → x c.1 = x c.2) → Q .normal a w := by
    intro listed a w x hA hall hB hs hR hlk
    have hnil : chain = [] := by
      cases hcc : chain with
      | nil => rfl
      | cons s t =>
        have h1 : chain[0]? = some s := by rw [hcc]; rfl
        have := hs 0 s h1
        rw [hall s (C.lt 0 s h1)] at this
        cases this
    rw [hA.all hall]
    have hch := H.chn x w hB (fun i hi _ _ => hR i hi (hall i hi))
    rw [hnil] at hch
    exact hch x (fun _ _ _ _ => rfl) (fun i hi _ => hR i hi (hall i hi)) (fun c hc => by cases hc) (fun c hc => hlk c hc (hall _ (LF.lt c hc)))
  induction fuel with
  | zero =>
    intro listed a w x hsz hleft hA hC hB hs hR hlk
    have hall := left_zero hleft
    refine ⟨?_, hdone listed a w x hA hall hB hs hR hlk⟩
    cases hr : Region.ready .any l.toArray listed with
    | nil => rfl
    | cons i t =>
      obtain ⟨o, ho, hi, hun, _⟩ := ready_spec hsz (i := i) (by rw [hr]; exact List.mem_cons_self)
      rw [hall i hi] at hun
      cases hun
  | succ fuel ih =>
    intro listed a w x hsz hleft hA hC hB hs hR hlk
    refine ⟨fun hr => hdone listed a w x hA (ready_none F hsz hr) hB hs hR hlk, fun i hi => ?_⟩
    obtain ⟨o, ho, hin, hun, hdep⟩ := ready_spec hsz hi
    have hlt : i < listed.size := by omega
    have hdlt := ready_lt hsz hdep
    cases hic : chain.contains i with
    | true =>
      obtain ⟨q, hq⟩ := mem_contains.1 hic
      have hq0 : q = 0 := by
        rcases Nat.eq_zero_or_pos q with h1 | h1
        · exact h1
        · exfalso
          have hql : q < chain.length := (List.getElem?_eq_some_iff.1 hq).1
          have hq1 : chain[q - 1]? = some (chain[q - 1]'(by omega)) := List.getElem?_eq_getElem _
          have hd := C.next (q - 1) _ i o hq1 (by rw [show q - 1 + 1 = q from by omega]; exact hq) ho
          have h3 := hs (q - 1) _ hq1
          rw [hdep _ hd] at h3
          cases h3
      subst hq0
      have hnl := ch_feeds C hC hq ho hdep
      have hx0 : ∀ i, i < l.length → chain.contains i = false → late.contains i = false → R i (x i) w := fun k hk h1 h2 => hR k hk (hnl k hk h1 h2)
      have hch := H.chn x w hB hx0
      have hcc : chain = i :: chain.drop 1 := by
        have hql : 0 < chain.length := (List.getElem?_eq_some_iff.1 hq).1
        have h5 := List.drop_eq_getElem_cons hql
        rw [List.drop_zero, (List.getElem?_eq_some_iff.1 hq).2] at h5
        exact h5
      have hch2 : ChainC P l a0 late chain links R Q x w (i :: chain.drop 1) [] w := by rw [← hcc]; exact hch
      have hgo := hch2 o ho x (fun _ _ _ _ => rfl) (fun j hl hd => hR j (hdlt j hd) (hdep j hd)) (fun c hc => by cases hc)
      unfold wpOp
      simp only [List.getElem?_toArray, ho]
      rw [if_pos (by simp [Region.wanted, C.guard 0 i o hq ho])]
      refine .inl (goes_wp (goes_congr (hA.exec F hC ho hun hdep) (show goes P o (frameL x (depOn o) 0 l a0) w _ from hgo)) (fun v w' hv => ?_))
      have hne2 : ∀ r s : Nat, 1 ≤ r → chain[r]? = some s → s ≠ i := by
        intro r s hr hs' e
        subst e
        have key : ∀ d t : Nat, chain[1 + d]? = some t → s < t := by
          intro d
          induction d with
          | zero =>
            intro t h2
            have hto := C.lt _ _ h2
            obtain ⟨e, he, hb⟩ := List.any_eq_true.1 (C.next 0 s t _ hq h2 (List.getElem?_eq_getElem hto))
            simp only [Bool.and_eq_true, beq_iff_eq] at hb
            have := F.lex t _ (List.getElem?_eq_getElem hto) e (by simpa using he) hb.1
            omega
          | succ d ih2 =>
            intro t h2
            have hlen : 1 + d < chain.length := by have := (List.getElem?_eq_some_iff.1 h2).1; omega
            have h3 := ih2 _ (List.getElem?_eq_getElem hlen)
            have hto := C.lt _ _ h2
            obtain ⟨e, he, hb⟩ := List.any_eq_true.1 (C.next (1 + d) _ t _ (List.getElem?_eq_getElem hlen) (by rw [show 1 + d + 1 = 1 + (d + 1) from by omega]; exact h2) (List.getElem?_eq_getElem hto))
            simp only [Bool.and_eq_true, beq_iff_eq] at hb
            have := F.lex t _ (List.getElem?_eq_getElem hto) e (by simpa using he) hb.1
            omega
        have := key (r - 1) s (by rw [show 1 + (r - 1) = r from by omega]; exact hs')
        omega
      refine ch_late F LF hnn C H hB hx0 fuel _ _ w' (updX x i v) 1 _ _ (by rw [Array.size_setIfInBounds]; exact hsz) (left_step hin hlt hun hleft) (hA.step F ho hlt v) (hC.step ho hlt hdep) rfl (by omega) (fun r s hr' hs' => ?_) (fun r s hr' hs' => ?_) (fun j hj h1 h2 => listed_mono hlt (hnl j hj h1 h2)) (fun j hj h1 h2 => ?_) (fun j hj hjl hl => ?_) (fun c hc => ?_) (links_step LF hC hlt hsz hun hlk ho hdep (fun c hc e => by have := LF.late c hc; rw [e, C.nlate 0 i hq] at this; cases this)) hv
      · obtain rfl : r = 0 := by omega
        rw [hq] at hs'
        cases hs'
        rw [getD_listed hlt, if_pos rfl]
      · rw [getD_listed hlt, if_neg (hne2 r s hr' hs')]
        exact hs r s hs'
      · have hne : j ≠ i := fun e => by rw [e, hic] at h2; cases h2
        rw [updX_ne x v hne]
      · have hne : j ≠ i := fun e => by
          subst e
          rw [C.nlate 0 j hq] at hl
          cases hl
        rw [getD_listed hlt, if_neg hne] at hjl
        rw [updX_ne x v hne]
        exact hR j hj hjl
      · rcases List.mem_cons.1 hc with rfl | hc
        · exact ⟨updX_self x i v, by rw [getD_listed hlt, if_pos rfl]⟩
        · cases hc
    | false =>
      have hs' : ∀ q s : Nat, chain[q]? = some s → (listed.setIfInBounds i true).getD s false = false := fun q s hq => by
        have hne : s ≠ i := fun e => by
          subst e
          have := mem_contains.2 ⟨q, hq⟩
          rw [this] at hic
          cases hic
        rw [getD_listed hlt, if_neg hne]
        exact hs q s hq
      have key : ∀ v w', Below w.heap.size w w' → R i v w' → (∀ c ∈ links, c.1 = i → v = x c.2) → wpAny P .any l.toArray Q fuel (listed.setIfInBounds i true) (a.put o.dst v) w' := by
        intro v w' hb hv hlv
        refine ih _ _ w' (updX x i v) (by rw [Array.size_setIfInBounds]; exact hsz) (left_step hin hlt hun hleft) (hA.step F ho hlt v) (hC.step ho hlt hdep) (hB.trans (hb.mono hB.size)) hs' (fun k hk hkl => ?_) (links_step LF hC hlt hsz hun hlk ho hdep hlv)
        rw [getD_listed hlt] at hkl
        by_cases hki : k = i
        · rw [hki, updX_self]; exact hv
        · rw [if_neg hki] at hkl
          rw [updX_ne x v hki]
          exact H.stab k _ w w' hb (hR k hk hkl)
      unfold wpOp
      simp only [List.getElem?_toArray, ho]
      rw [hA.want F hC ho hun hdep]
      cases hil : late.contains i with
      | true =>
        have hl := H.lates i o x w ho hil hB (fun j hj _ => hR j (hdlt j hj) (hdep j hj))
        split
        · rename_i hw
          rw [if_pos hw] at hl
          obtain ⟨v, hv, hr⟩ := hl
          refine .inl ?_
          unfold Oper.wp
          rw [hA.exec F hC ho hun hdep, hv w]
          exact key v w (Below.refl _ _) hr (fun c hc e => link_val F LF hnn hc (by rw [e]; exact ho) (hv w))
        · rename_i hw
          rw [if_neg hw] at hl
          exact key undef w (Below.refl _ _) hl (fun c hc e => absurd (by unfold Region.wanted; rw [(LF.dep c hc o (by rw [e]; exact ho)).2]) hw)
      | false =>
        have hl := H.step i o x w ho hic hil hB (fun j hj => hR j (hdlt j hj) (hdep j hj))
        split
        · rename_i hw
          rw [if_pos hw] at hl
          exact .inl (goes_wp (goes_congr (hA.exec F hC ho hun hdep) hl) (fun v w' hv => key v w' hv.1 hv.2 (fun c hc e => by have := LF.late c hc; rw [e, hil] at this; cases this)))
        · rename_i hw
          rw [if_neg hw] at hl
          exact key undef w (Below.refl _ _) hl (fun c hc e => by have := LF.late c hc; rw [e, hil] at this; cases this)

theorem wp_region_ch {id n : Nat} {a : Act} {w : World} (late chain : List Nat) (links : List (Nat × Nat)) (R : Nat → Value → World → Prop) (hm : P.follows .mixedOrders = true) (hB : (regOk l && chOk l late chain) = true) (hL : linkOk l late n links = true) (hn : a.tmps.size = n)
    (h : ∀ W, Below w.heap.size w W → W.heap.size = w.heap.size → ChHyps P l late chain links a R W Q) : (Code.region id l.toArray true).wp P Q a w := by
  rw [Bool.and_eq_true] at hB
  have F := regF hB.1
  have C := chFacts hB.2
  refine wp_region_any hm ?_
  have hz : ∀ i, (Array.replicate l.toArray.size false).getD i false = false := fun i => by
    rw [Array.getD_eq_getD_getElem?, Array.getElem?_replicate]
    split <;> rfl
  refine ch_any F (linkFacts hL) hn C (h w.drew (Below.refl _ _).drew rfl) _ _ a _ (fun _ => undef) (by simp) ?_ (Stands.start (fun i _ => hz i)) (fun j o _ hl => by rw [hz] at hl; cases hl) (Below.refl _ _) (fun q s _ => hz s) (fun i _ hl => by rw [hz] at hl; cases hl) (fun _ _ _ => rfl)
  unfold left
  refine Nat.le_trans List.countP_le_length ?_
  simp
end

/-! ### One operation after the other -/
section
variable {P : Program} {l : List Oper} {late chain : List Nat} {a0 : Act} {R : Nat → Value → World → Prop} {W : World} {Q : Exit → Act → World → Prop}
/-- An operation of the region, whatever has come up before it: what its guard says, and what it does. -/
def StepD (P : Program) (l : List Oper) (a0 : Act) (R : Nat → Value → World → Prop) (W : World) (k : Nat) (o : Oper) : Prop :=
  ∀ (x : Nat → Value) (w' : World) (ρ : Operand → Value), ReadsO l a0 o x ρ → Below W.heap.size W w' → (∀ j, depOn o j = true → R j (x j) w') → ∀ K : Value → World → Prop, (∀ v w'', Below w'.heap.size w' w'' → R k v w'' → K v w'') → goesR P o ρ w' K
def LateD (P : Program) (l : List Oper) (a0 : Act) (chain : List Nat) (R : Nat → Value → World → Prop) (W : World) (k : Nat) (o : Oper) : Prop :=
  ∀ (x : Nat → Value) (w' : World) (ρ : Operand → Value), ReadsO l a0 o x ρ → Below W.heap.size W w' → (∀ j, depOn o j = true → chain.contains j = false → R j (x j) w') → ∃ v, (∀ w', (execOp ρ o).run P w' = .ok (.value v) w') ∧ R k v w'
/-- The guard is settled: it says yes. -/
def GuardYes (l : List Oper) (R : Nat → Value → World → Prop) (o : Oper) : Prop :=
  o.guard = none ∨ ∃ g b t, o.guard = some (g, b) ∧ (l[g]?).bind (·.dst) = some t ∧ depOn o g = true ∧ ∀ v w, R g v w → v = .bool b
def GuardNo (l : List Oper) (R : Nat → Value → World → Prop) (o : Oper) : Prop :=
  ∃ g b t, o.guard = some (g, b) ∧ (l[g]?).bind (·.dst) = some t ∧ depOn o g = true ∧ ∀ v w, R g v w → v = .bool (!b) ∨ v = undef
def StepsD (P : Program) (l : List Oper) (late chain : List Nat) (a0 : Act) (R : Nat → Value → World → Prop) (W : World) : Nat → List Oper → Prop
  | _, [] => True
  | k, o :: rest => (chain.contains k = false → (GuardNo l R o ∧ ∀ w, R k undef w) ∨ (GuardYes l R o ∧ (late.contains k = false → StepD P l a0 R W k o) ∧ (late.contains k = true → LateD P l a0 chain R W k o))) ∧ StepsD P l late chain a0 R W (k + 1) rest
theorem d_nil {k : Nat} : StepsD P l late chain a0 R W k [] := trivial
theorem d_step {k : Nat} {o : Oper} {rest : List Oper} (hl : late.contains k = false) (hg : o.guard = none) (h : StepD P l a0 R W k o) (h2 : StepsD P l late chain a0 R W (k + 1) rest) : StepsD P l late chain a0 R W k (o :: rest) :=
  ⟨fun _ => .inr ⟨.inl hg, fun _ => h, fun h' => by rw [hl] at h'; cases h'⟩, h2⟩
theorem d_take {k : Nat} {o : Oper} {rest : List Oper} (hl : late.contains k = false) (g : Nat) (b : Bool) (t : Nat) (hg : o.guard = some (g, b)) (ht : (l[g]?).bind (·.dst) = some t) (hd : depOn o g = true) (hR : ∀ v w, R g v w → v = .bool b) (h : StepD P l a0 R W k o) (h2 : StepsD P l late chain a0 R W (k + 1) rest) : StepsD P l late chain a0 R W k (o :: rest) :=
  ⟨fun _ => .inr ⟨.inr ⟨g, b, t, hg, ht, hd, hR⟩, fun _ => h, fun h' => by rw [hl] at h'; cases h'⟩, h2⟩
theorem d_skip {k : Nat} {o : Oper} {rest : List Oper} (g : Nat) (b : Bool) (t : Nat) (hg : o.guard = some (g, b)) (ht : (l[g]?).bind (·.dst) = some t) (hd : depOn o g = true) (hR : ∀ v w, R g v w → v = .bool (!b) ∨ v = undef) (h : ∀ w, R k undef w) (h2 : StepsD P l late chain a0 R W (k + 1) rest) : StepsD P l late chain a0 R W k (o :: rest) :=
  ⟨fun _ => .inl ⟨⟨g, b, t, hg, ht, hd, hR⟩, h⟩, h2⟩
theorem d_late {k : Nat} {o : Oper} {rest : List Oper} (hl : late.contains k = true) (hg : o.guard = none) (h : LateD P l a0 chain R W k o) (h2 : StepsD P l late chain a0 R W (k + 1) rest) : StepsD P l late chain a0 R W k (o :: rest) :=
  ⟨fun _ => .inr ⟨.inl hg, fun h' => (by rw [hl] at h'; cases h'), fun _ => h⟩, h2⟩
theorem d_chain {k : Nat} {o : Oper} {rest : List Oper} (hk : chain.contains k = true) (h2 : StepsD P l late chain a0 R W (k + 1) rest) : StepsD P l late chain a0 R W k (o :: rest) :=
  ⟨fun h => absurd (hk.symm.trans h) (by simp), h2⟩
theorem d_at : ∀ (m : List Oper) (k i : Nat) (o : Oper), StepsD P l late chain a0 R W k m → m[i]? = some o → chain.contains (k + i) = false →
    (GuardNo l R o ∧ ∀ w, R (k + i) undef w) ∨ (GuardYes l R o ∧ (late.contains (k + i) = false → StepD P l a0 R W (k + i) o) ∧ (late.contains (k + i) = true → LateD P l a0 chain R W (k + i) o))
  | [], _, _, _, _, h, _ => by simp at h
  | o :: m, k, 0, o', h, ho, hs => by
    obtain rfl : o = o' := by simpa using ho
    exact h.1 hs
  | o :: m, k, i + 1, o', h, ho, hs => by
    have := d_at m (k + 1) i o' h.2 (by simpa using ho) (by rwa [show k + 1 + i = k + (i + 1) from by omega])
    rwa [show k + 1 + i = k + (i + 1) from by omega] at this
theorem guard_yes (F : RegF l) {o : Oper} {x : Nat → Value} {w' : World} (hg : GuardYes l R o) (hd : ∀ j, depOn o j = true → chain.contains j = false → R j (x j) w') (hc : ∀ g b, o.guard = some (g, b) → chain.contains g = false) (hsz : ∀ t, (∃ o' ∈ l, o'.dst = some t) → t < a0.tmps.size) : Region.wanted o (yielded l.toArray (frameL x (depOn o) 0 l a0).tmps) = true := by
  unfold Region.wanted
  rcases hg with h | ⟨g, b, t, h, ht, hdep, hR⟩
  · rw [h]
  · rw [h]
    have hv := hR _ _ (hd g hdep (hc g b h))
    cases ho : l[g]? with
    | none => rw [ho] at ht; cases ht
    | some og =>
      rw [ho] at ht
      have hdst : og.dst = some t := ht
      have hf := frameL_dst x (depOn o) l 0 a0 g og ho hdst (by rw [Nat.zero_add]; exact hdep) (fun i' o' hne ho' hd' => hne (F.dst i' g o' og t ho' ho hd' hdst))
      rw [if_pos (hsz t ⟨og, List.mem_of_getElem? ho, hdst⟩), Nat.zero_add, hv] at hf
      have : yielded l.toArray (frameL x (depOn o) 0 l a0).tmps g = some b := by
        unfold yielded
        simp only [List.getElem?_toArray, ho, Option.bind_some, hdst, hf]
      simp [this]
theorem guard_no (F : RegF l) {o : Oper} {x : Nat → Value} {w' : World} (hg : GuardNo l R o) (hd : ∀ j, depOn o j = true → chain.contains j = false → R j (x j) w') (hc : ∀ g b, o.guard = some (g, b) → chain.contains g = false) (hsz : ∀ t, (∃ o' ∈ l, o'.dst = some t) → t < a0.tmps.size) : ¬ Region.wanted o (yielded l.toArray (frameL x (depOn o) 0 l a0).tmps) = true := by
  unfold Region.wanted
  obtain ⟨g, b, t, h, ht, hdep, hR⟩ := hg
  rw [h]
  have hv := hR _ _ (hd g hdep (hc g b h))
  cases ho : l[g]? with
  | none => rw [ho] at ht; cases ht
  | some og =>
    rw [ho] at ht
    have hdst : og.dst = some t := ht
    have hf := frameL_dst x (depOn o) l 0 a0 g og ho hdst (by rw [Nat.zero_add]; exact hdep) (fun i' o' hne ho' hd' => hne (F.dst i' g o' og t ho' ho hd' hdst))
    rw [if_pos (hsz t ⟨og, List.mem_of_getElem? ho, hdst⟩), Nat.zero_add] at hf
    rcases hv with hv | hv
    · rw [hv] at hf
      have : yielded l.toArray (frameL x (depOn o) 0 l a0).tmps g = some (!b) := by
        unfold yielded
        simp only [List.getElem?_toArray, ho, Option.bind_some, hdst, hf]
      simp only [this]
      cases b <;> simp
    · rw [hv] at hf
      have : yielded l.toArray (frameL x (depOn o) 0 l a0).tmps g = none := by
        unfold yielded
        simp only [List.getElem?_toArray, ho, Option.bind_some, hdst, hf]
        rfl
      simp only [this]
      simp
def sizeOkD (l : List Oper) (n : Nat) : Bool := l.all fun o => match o.dst with | some t => decide (t < n) | none => true
def guardOkD (l : List Oper) (chain : List Nat) : Bool := l.all fun o => match o.guard with | some (g, _) => !chain.contains g | none => true
theorem wp_region_d {id n : Nat} {a : Act} {w : World} (late chain : List Nat) (links : List (Nat × Nat)) (R : Nat → Value → World → Prop) (hm : P.follows .mixedOrders = true) (hB : (regOk l && chOk l late chain) = true) (hS : (sizeOkD l n && guardOkD l chain) = true) (hL : linkOk l late n links = true) (hn : a.tmps.size = n)
    (hstab : ∀ (i : Nat) (v : Value) (w w' : World), Below w.heap.size w w' → R i v w → R i v w')
    (hsteps : StepsD P l late chain a R w 0 l)
    (hch : ∀ (x0 : Nat → Value) (w0 : World), Below w.heap.size w w0 → (∀ i, i < l.length → chain.contains i = false → late.contains i = false → R i (x0 i) w0) → ChainC P l a late chain links R Q x0 w0 chain [] w0) : (Code.region id l.toArray true).wp P Q a w := by
  refine wp_region_ch late chain links R hm hB hL hn (fun W hW hz => ?_)
  rw [Bool.and_eq_true] at hB hS
  have F := regF hB.1
  have hsz : ∀ t, (∃ o' ∈ l, o'.dst = some t) → t < a.tmps.size := fun t ⟨o', ho', hd⟩ => by
    have := List.all_eq_true.1 hS.1 o' ho'
    rw [hd] at this
    rw [hn]
    simpa using this
  have hgc : ∀ o' ∈ l, ∀ g b, o'.guard = some (g, b) → chain.contains g = false := fun o' ho' g b hg => by
    have := List.all_eq_true.1 hS.2 o' ho'
    rw [hg] at this
    simpa using this
  have conv : ∀ {w'}, Below W.heap.size W w' → Below w.heap.size w w' := fun hb => hW.trans (hb.mono (by rw [hz]; exact Nat.le_refl _))
  refine ⟨hstab, fun i o x w' ho hic hil hb hd => ?_, fun i o x w' ho hil hb hd => ?_, fun x0 w0 hb hr => hch x0 w0 (conv hb) hr⟩
  · have hst := d_at l 0 i o hsteps ho (by rw [Nat.zero_add]; exact hic)
    rw [Nat.zero_add] at hst
    rcases hst with ⟨hg, hu⟩ | ⟨hg, h1, _⟩
    · rw [if_neg (guard_no F hg (fun j hj _ => hd j hj) (hgc o (List.mem_of_getElem? ho)) hsz)]
      exact hu w'
    · rw [if_pos (guard_yes F hg (fun j hj _ => hd j hj) (hgc o (List.mem_of_getElem? ho)) hsz)]
      exact (h1 hil) x w' _ (readsO_frame F a o x) (conv hb) hd _ (fun v w'' h1 h2 => ⟨h1, h2⟩)
  · have hic : chain.contains i = false := by
      cases hc : chain.contains i with
      | false => rfl
      | true =>
        obtain ⟨q, hq⟩ := mem_contains.1 hc
        rw [(chFacts hB.2).nlate q i hq] at hil
        cases hil
    have hst := d_at l 0 i o hsteps ho (by rw [Nat.zero_add]; exact hic)
    rw [Nat.zero_add] at hst
    rcases hst with ⟨hg, hu⟩ | ⟨hg, _, h1⟩
    · rw [if_neg (guard_no F hg hd (hgc o (List.mem_of_getElem? ho)) hsz)]
      exact hu w'
    · rw [if_pos (guard_yes F hg hd (hgc o (List.mem_of_getElem? ho)) hsz)]
      exact (h1 hil) x w' _ (readsO_frame F a o x) (conv hb) hd
end

/-! ### The chain, said of what the slots hold -/
def ChainA (P : Program) (l : List Oper) (a0 : Act) (late chain0 : List Nat) (links : List (Nat × Nat)) (R : Nat → Value → World → Prop) (Q : Exit → Act → World → Prop) (x0 : Nat → Value) (w0 : World) : List Nat → List (Nat × Value) → World → Prop
  | [], kn, w => ∀ (x : Nat → Value) (b : Act), Reads l a0 x b.eval → b.tmps.size = a0.tmps.size → b.defers = a0.defers → (∀ i, i < l.length → late.contains i = false → chain0.contains i = false → x i = x0 i) → (∀ i, i < l.length → late.contains i = true → R i (x i) w0) → (∀ c ∈ kn, x c.1 = c.2) → (∀ c ∈ links, x c.1 = x c.2) → Q .normal b w
  | s :: rest, kn, w => ∀ o, l[s]? = some o → ∀ (x : Nat → Value) (ρ : Operand → Value), ReadsO l a0 o x ρ → (∀ i, i < l.length → late.contains i = false → chain0.contains i = false → x i = x0 i) → (∀ i, late.contains i = true → depOn o i = true → R i (x i) w0) → (∀ c ∈ kn, x c.1 = c.2) →
      goesR P o ρ w (fun v w1 => ChainA P l a0 late chain0 links R Q x0 w0 rest ((s, v) :: kn) w1)
theorem goesR_mono {P : Program} {o : Oper} {ρ : Operand → Value} {w : World} {K K' : Value → World → Prop} (hk : ∀ v w', K v w' → K' v w') (h : goesR P o ρ w K) : goesR P o ρ w K' := by
  unfold goesR at *
  generalize (execOp ρ o).run P w = r at h ⊢
  cases r with
  | ok n w' =>
    cases n <;> simp only at h ⊢
    case value v => exact hk _ _ h
    case skip => exact hk _ _ h
    case enter f args => exact h.mono fun e w'' ⟨v, he, hv⟩ => ⟨v, he, hk _ _ hv⟩
  | halt x w' => exact h.elim
theorem chainA_C {P : Program} {l : List Oper} {a0 : Act} {late chain0 : List Nat} {links : List (Nat × Nat)} {R : Nat → Value → World → Prop} {Q : Exit → Act → World → Prop} (F : RegF l) (x0 : Nat → Value) (w0 : World) :
    ∀ (c : List Nat) (kn : List (Nat × Value)) (w : World), ChainA P l a0 late chain0 links R Q x0 w0 c kn w → ChainC P l a0 late chain0 links R Q x0 w0 c kn w
  | [], _, _, h => fun x h1 h2 h3 h4 => h x (frameX x 0 l a0) (reads_all F a0 x) (frame_size x l 0 a0).1 (frame_size x l 0 a0).2 h1 h2 h3 h4
  | _ :: rest, _, _, h => fun o ho x h1 h2 h3 => goesR_mono (fun _ w1 hv => chainA_C F x0 w0 rest _ w1 hv) (h o ho x _ (readsO_frame F a0 o x) h1 h2 h3)
theorem wp_drawn {P : Program} {l : List Oper} {Q : Exit → Act → World → Prop} {id n : Nat} {a : Act} {w : World} (late chain : List Nat) (links : List (Nat × Nat)) (R : Nat → Value → World → Prop) (hm : P.follows .mixedOrders = true) (hB : (regOk l && chOk l late chain) = true) (hS : (sizeOkD l n && guardOkD l chain) = true) (hL : linkOk l late n links = true) (hn : a.tmps.size = n)
    (hstab : ∀ (i : Nat) (v : Value) (w w' : World), Below w.heap.size w w' → R i v w → R i v w')
    (hsteps : StepsD P l late chain a R w 0 l)
    (hch : ∀ (x0 : Nat → Value) (w0 : World), Below w.heap.size w w0 → (∀ i, i < l.length → chain.contains i = false → late.contains i = false → R i (x0 i) w0) → ChainA P l a late chain links R Q x0 w0 chain [] w0) : (Code.region id l.toArray true).wp P Q a w :=
  wp_region_d late chain links R hm hB hS hL hn hstab hsteps fun x0 w0 hb hr => chainA_C (regF (Bool.and_eq_true .. ▸ hB : _ ∧ _).1) x0 w0 chain [] w0 (hch x0 w0 hb hr)
end Go.Proofs.Ytpnejmlbfadaaaa
