/- Regions that draw their order, whose operations hand back what the world settles (a row's block, a new variable's block): whatever order is drawn, each operation finds what it waits for. A store may end the region. No condition. -/
import Derived.Test.YtpnejmlbfadaaaaOpen
import Derived.Orders
namespace Go.Proofs.Ytpnejmlbfadaaaa
open Go.RowKit

/-- What an operation does, its value apart. -/
def goes (P : Program) (o : Oper) (a : Act) (w : World) (K : Value → World → Prop) : Prop :=
  match (execOp a.eval o).run P w with
  | .ok (.value v) w' => K v w'
  | .ok .skip w' => K undef w'
  | .ok (.enter f args) w' => Calls P f args w' (fun e w'' => ∃ v, e = .returned v ∧ K v w'')
  | _ => False
theorem goes_congr {P : Program} {o : Oper} {a b : Act} {w : World} {K : Value → World → Prop} (he : execOp a.eval o = execOp b.eval o) (h : goes P o b w K) : goes P o a w K := by
  unfold goes at *
  rw [he]
  exact h
theorem goes_wp {P : Program} {o : Oper} {a : Act} {w : World} {K : Value → World → Prop} {K' : Act → World → Prop} {Q : Exit → Act → World → Prop} (h : goes P o a w K) (hk : ∀ v w', K v w' → K' (a.put o.dst v) w') : o.wp P a w K' Q := by
  unfold goes at h
  unfold Oper.wp
  generalize (execOp a.eval o).run P w = r at h ⊢
  cases r with
  | ok n w' =>
    cases n <;> simp only [Oper.upon] at h ⊢
    case value v => exact hk _ _ h
    case skip => exact hk _ _ h
    case enter f args => exact h.mono fun e w'' ⟨v, he, hv⟩ => by subst he; exact hk _ _ hv
  | halt x w' => exact h.elim

def depOn (o : Oper) (i : Nat) : Bool := o.after.toList.any fun e => Region.binds .any e && e.on == i
def updX (x : Nat → Value) (i : Nat) (v : Value) : Nat → Value := fun j => if j = i then v else x j
theorem updX_self (x : Nat → Value) (i : Nat) (v : Value) : updX x i v i = v := if_pos rfl
theorem updX_ne (x : Nat → Value) {i j : Nat} (v : Value) (h : j ≠ i) : updX x i v j = x j := if_neg h
/-- The frame in which each operation's place holds its value. -/
def frameX (x : Nat → Value) : Nat → List Oper → Act → Act
  | _, [], a => a
  | k, o :: l, a => frameX x (k + 1) l (a.put o.dst (x k))

theorem put_size (a : Act) (d : Option Tmp) (v : Value) : (a.put d v).tmps.size = a.tmps.size := by cases d <;> simp [Act.put]
theorem put_defers (a : Act) (d : Option Tmp) (v : Value) : (a.put d v).defers = a.defers := by cases d <;> rfl
theorem put_same (a : Act) (t : Tmp) (v : Value) : (a.put (some t) v).tmps[t]? = if t < a.tmps.size then some v else none := by
  simp [Act.put, Array.getElem?_setIfInBounds]
theorem put_other (a : Act) (d : Option Tmp) (v : Value) {t : Tmp} (h : d ≠ some t) : (a.put d v).tmps[t]? = a.tmps[t]? := by
  cases d with
  | none => rfl
  | some d => simp only [Act.put]; exact Array.getElem?_setIfInBounds_ne (fun e => h (by rw [e]))
theorem frame_size (x : Nat → Value) : ∀ (l : List Oper) (k : Nat) (a : Act), (frameX x k l a).tmps.size = a.tmps.size ∧ (frameX x k l a).defers = a.defers
  | [], _, _ => ⟨rfl, rfl⟩
  | o :: l, k, a => by
    have h := frame_size x l (k + 1) (a.put o.dst (x k))
    rw [put_size, put_defers] at h
    exact h
theorem frame_none (x : Nat → Value) {t : Tmp} : ∀ (l : List Oper) (k : Nat) (a : Act), (∀ (i : Nat) (o : Oper), l[i]? = some o → o.dst ≠ some t) → (frameX x k l a).tmps[t]? = a.tmps[t]?
  | [], _, _, _ => rfl
  | o :: l, k, a, h => by
    have h1 := frame_none x l (k + 1) (a.put o.dst (x k)) (fun i o' ho => h (i + 1) o' (by simpa using ho))
    rw [put_other a _ _ (h 0 o rfl)] at h1
    exact h1
theorem frame_dst (x : Nat → Value) {t : Tmp} : ∀ (l : List Oper) (k : Nat) (a : Act) (j : Nat) (o : Oper), l[j]? = some o → o.dst = some t → (∀ (i : Nat) (o' : Oper), i ≠ j → l[i]? = some o' → o'.dst ≠ some t) →
    (frameX x k l a).tmps[t]? = if t < a.tmps.size then some (x (k + j)) else none
  | [], _, _, _, _, h, _, _ => by simp at h
  | o :: l, k, a, 0, o1, h, hd, hu => by
    obtain rfl : o = o1 := by simpa using h
    have h1 := frame_none x (t := t) l (k + 1) (a.put o.dst (x k)) (fun i o' ho => hu (i + 1) o' (by omega) (by simpa using ho))
    show (frameX x (k + 1) l (a.put o.dst (x k))).tmps[t]? = _
    rw [h1, hd, put_same, Nat.add_zero]
  | o :: l, k, a, j + 1, o1, h, hd, hu => by
    have h1 := frame_dst x l (k + 1) (a.put o.dst (x k)) j o1 (by simpa using h) hd (fun i o' hi ho => hu (i + 1) o' (by omega) (by simpa using ho))
    show (frameX x (k + 1) l (a.put o.dst (x k))).tmps[t]? = _
    rw [h1, put_size, show k + 1 + j = k + (j + 1) from by omega]

/-! ### What the region's text must bear -/
def relOk (l : List Oper) (late : List Nat) (s : Nat) : Bool :=
  Region.noSelect l.toArray && !late.contains s &&
  (match l[s]? with | some o => o.dst.isNone && o.guard.isNone | none => true) &&
  (List.range l.length).all fun i => match l[i]? with
   | none => true
   | some oi =>
     oi.after.all (fun e => !Region.binds .any e || decide (e.on < i)) &&
     (i == s || late.contains i || decide (l.length ≤ s) || (List.range l.length).any fun j => decide (i < j) && (match l[j]? with | some oj => depOn oj i | none => false) && (j == s || !late.contains j)) &&
     (match oi.dst with
      | none => true
      | some t => (List.range l.length).all fun j => match l[j]? with
        | none => true
        | some oj => (i == j || oj.dst != some t) && (!(oj.looksAt l.toArray).contains t || depOn oj i))
structure RelFacts (l : List Oper) (late : List Nat) (s : Nat) : Prop where
  nosel : Region.noSelect l.toArray = true
  slate : late.contains s = false
  sdst : ∀ o, l[s]? = some o → o.dst = none ∧ o.guard = none
  lex : ∀ (i : Nat) (o : Oper), l[i]? = some o → ∀ e ∈ o.after, Region.binds .any e = true → e.on < i
  feeds : ∀ (i : Nat) (o : Oper), l[i]? = some o → i ≠ s → late.contains i = false → s < l.length → ∃ (j : Nat) (oj : Oper), l[j]? = some oj ∧ i < j ∧ depOn oj i = true ∧ (j = s ∨ late.contains j = false)
  dst : ∀ (i j : Nat) (oi oj : Oper) (t : Tmp), l[i]? = some oi → l[j]? = some oj → oi.dst = some t → oj.dst = some t → i = j
  look : ∀ (i j : Nat) (oi oj : Oper) (t : Tmp), l[i]? = some oi → l[j]? = some oj → oi.dst = some t → t ∈ oj.looksAt l.toArray → depOn oj i = true
theorem relFacts {l : List Oper} {late : List Nat} {s : Nat} (h : relOk l late s = true) : RelFacts l late s := by
  unfold relOk at h
  simp only [Bool.and_eq_true, Bool.not_eq_true'] at h
  obtain ⟨⟨⟨h1, h2⟩, h3⟩, h4⟩ := h
  have h5 : ∀ (i : Nat) (oi : Oper), l[i]? = some oi → (oi.after.all (fun e => !Region.binds .any e || decide (e.on < i)) = true ∧
     (i == s || late.contains i || decide (l.length ≤ s) || (List.range l.length).any fun j => decide (i < j) && (match l[j]? with | some oj => depOn oj i | none => false) && (j == s || !late.contains j)) = true) ∧
     (match oi.dst with
      | none => true
      | some t => (List.range l.length).all fun j => match l[j]? with
        | none => true
        | some oj => (i == j || oj.dst != some t) && (!(oj.looksAt l.toArray).contains t || depOn oj i)) = true := by
    intro i oi hi
    have hlt : i < l.length := (List.getElem?_eq_some_iff.1 hi).1
    have := List.all_eq_true.1 h4 i (List.mem_range.2 hlt)
    rw [hi] at this
    simpa only [Bool.and_eq_true] using this
  refine ⟨h1, h2, ?_, ?_, ?_, ?_, ?_⟩
  · intro o ho
    rw [ho] at h3
    simpa [Option.isNone_iff_eq_none] using h3
  · intro i o hi e he hb
    have := Array.all_eq_true_iff_forall_mem.1 (h5 i o hi).1.1 e he
    simpa [hb] using this
  · intro i o hi his hl hs
    have h6 := (h5 i o hi).1.2
    simp only [Bool.or_eq_true, beq_iff_eq, his, hl, decide_eq_true_eq, false_or, Bool.false_eq_true, List.any_eq_true, Bool.and_eq_true, Bool.not_eq_true'] at h6
    rcases h6 with h6 | ⟨j, hj, ⟨h7, h8⟩, h9⟩
    · omega
    · cases hj' : l[j]? with
      | none => rw [hj'] at h8; cases h8
      | some oj => rw [hj'] at h8; exact ⟨j, oj, hj', h7, h8, h9⟩
  · intro i j oi oj t hi hj hd hd'
    have h6 := (h5 i oi hi).2
    rw [hd] at h6
    have hlt : j < l.length := (List.getElem?_eq_some_iff.1 hj).1
    have h7 := List.all_eq_true.1 h6 j (List.mem_range.2 hlt)
    rw [hj] at h7
    simp only [Bool.and_eq_true, Bool.or_eq_true, beq_iff_eq, bne_iff_ne] at h7
    rcases h7.1 with h8 | h8
    · exact h8
    · exact absurd hd' h8
  · intro i j oi oj t hi hj hd ht
    have h6 := (h5 i oi hi).2
    rw [hd] at h6
    have hlt : j < l.length := (List.getElem?_eq_some_iff.1 hj).1
    have h7 := List.all_eq_true.1 h6 j (List.mem_range.2 hlt)
    rw [hj] at h7
    simp only [Bool.and_eq_true, Bool.or_eq_true, Bool.not_eq_true'] at h7
    rcases h7.2 with h8 | h8
    · simp [ht] at h8
    · exact h8

/-! ### The state in the middle of a region -/
section
variable {P : Program} {l : List Oper} {a0 : Act}
/-- What is listed stands in its place. -/
structure Agrees (l : List Oper) (a0 : Act) (x : Nat → Value) (listed : Array Bool) (a : Act) : Prop where
  defers : a.defers = a0.defers
  size : a.tmps.size = a0.tmps.size
  at_ : ∀ t, (∀ (i : Nat) (o : Oper), l[i]? = some o → o.dst = some t → listed.getD i false = true) → a.tmps[t]? = (frameX x 0 l a0).tmps[t]?
theorem Agrees.start {x : Nat → Value} {listed : Array Bool} (h : ∀ i, i < l.length → listed.getD i false = false) : Agrees l a0 x listed a0 :=
  ⟨rfl, rfl, fun t ht => (frame_none x l 0 a0 (fun i o hi hd => by
    have h1 := ht i o hi hd
    rw [h i (List.getElem?_eq_some_iff.1 hi).1] at h1
    cases h1)).symm⟩
theorem Agrees.all {x : Nat → Value} {listed : Array Bool} {a : Act} (h : Agrees l a0 x listed a) (hall : ∀ i, i < l.length → listed.getD i false = true) : a = frameX x 0 l a0 := by
  have h1 : a.tmps = (frameX x 0 l a0).tmps := Array.ext_getElem? (fun t => h.at_ t (fun i o hi _ => hall i (List.getElem?_eq_some_iff.1 hi).1))
  have h2 : a.defers = (frameX x 0 l a0).defers := by rw [(frame_size x l 0 a0).2, h.defers]
  cases a
  generalize frameX x 0 l a0 = b at h1 h2
  cases b
  simp only at h1 h2
  rw [h1, h2]
theorem getD_listed {listed : Array Bool} {i j : Nat} (hi : i < listed.size) : (listed.setIfInBounds i true).getD j false = (if j = i then true else listed.getD j false) := by
  by_cases h : j = i
  · subst h
    simp [hi]
  · rw [if_neg h]
    simp [Array.getElem?_setIfInBounds_ne (fun e => h e.symm)]
theorem Agrees.step {late : List Nat} {s : Nat} (F : RelFacts l late s) {x : Nat → Value} {listed : Array Bool} {a : Act} (h : Agrees l a0 x listed a) {i : Nat} {o : Oper} (hi : l[i]? = some o) (hlt : i < listed.size) (v : Value) :
    Agrees l a0 (updX x i v) (listed.setIfInBounds i true) (a.put o.dst v) := by
  refine ⟨by rw [put_defers, h.defers], by rw [put_size, h.size], fun t ht => ?_⟩
  by_cases hd : o.dst = some t
  · rw [hd, put_same, h.size, frame_dst (updX x i v) l 0 a0 i o hi hd (fun i' o' hne ho' hd' => hne (F.dst i' i o' o t ho' hi hd' hd)), Nat.zero_add, updX_self]
  · rw [put_other _ _ _ hd]
    have h1 : a.tmps[t]? = (frameX x 0 l a0).tmps[t]? := by
      refine h.at_ t (fun j oj hj hdj => ?_)
      have h2 := ht j oj hj hdj
      rw [getD_listed hlt] at h2
      by_cases hji : j = i
      · subst hji
        rw [hi] at hj
        cases hj
        exact absurd hdj hd
      · rwa [if_neg hji] at h2
    rw [h1]
    by_cases hex : ∃ (j : Nat) (oj : Oper), l[j]? = some oj ∧ oj.dst = some t
    · obtain ⟨j, oj, hj, hdj⟩ := hex
      have hu : ∀ (i' : Nat) (o' : Oper), i' ≠ j → l[i']? = some o' → o'.dst ≠ some t := fun i' o' hne ho' hd' => hne (F.dst i' j o' oj t ho' hj hd' hdj)
      have hji : j ≠ i := fun e => by
        subst e
        rw [hi] at hj
        cases hj
        exact hd hdj
      rw [frame_dst x l 0 a0 j oj hj hdj hu, frame_dst (updX x i v) l 0 a0 j oj hj hdj hu, Nat.zero_add, updX_ne x v hji]
    · have hn : ∀ (i : Nat) (o : Oper), l[i]? = some o → o.dst ≠ some t := fun i o hi hd => hex ⟨i, o, hi, hd⟩
      rw [frame_none x l 0 a0 hn, frame_none (updX x i v) l 0 a0 hn]
/-- An operation of which all that it waits for is listed reads what the frame of the values holds. -/
theorem Agrees.tmp {late : List Nat} {s : Nat} (F : RelFacts l late s) {x : Nat → Value} {listed : Array Bool} {a : Act} (h : Agrees l a0 x listed a) {j : Nat} {o : Oper} (hj : l[j]? = some o) (hdep : ∀ i, depOn o i = true → listed.getD i false = true) {t : Tmp} (ht : t ∈ o.looksAt l.toArray) :
    a.tmps[t]? = (frameX x 0 l a0).tmps[t]? :=
  h.at_ t (fun i oi hi hd => hdep i (F.look i j oi o t hi hj hd ht))
theorem Agrees.exec {late : List Nat} {s : Nat} (F : RelFacts l late s) {x : Nat → Value} {listed : Array Bool} {a : Act} (h : Agrees l a0 x listed a) {j : Nat} {o : Oper} (hj : l[j]? = some o) (hdep : ∀ i, depOn o i = true → listed.getD i false = true) :
    execOp a.eval o = execOp (frameX x 0 l a0).eval o :=
  execOp_congr o (fun cs b => Region.noSelect_spec F.nosel j o cs b (by simpa using hj)) (fun y hy => by
    cases y with
    | tmp t =>
      have := h.tmp F hj hdep (t := t) (List.mem_append_left _ (List.mem_filterMap.2 ⟨.tmp t, by simpa using hy, rfl⟩))
      simp only [Act.eval, Array.getD_eq_getD_getElem?, this]
    | const v => rfl
    | global g => rfl
    | func f => rfl)
theorem Agrees.want {late : List Nat} {s : Nat} (F : RelFacts l late s) {x : Nat → Value} {listed : Array Bool} {a : Act} (h : Agrees l a0 x listed a) {j : Nat} {o : Oper} (hj : l[j]? = some o) (hdep : ∀ i, depOn o i = true → listed.getD i false = true) :
    Region.wanted o (yielded l.toArray a.tmps) = Region.wanted o (yielded l.toArray (frameX x 0 l a0).tmps) := by
  unfold Region.wanted
  cases hg : o.guard with
  | none => rfl
  | some gw =>
    obtain ⟨g, want⟩ := gw
    have hy : yielded l.toArray a.tmps g = yielded l.toArray (frameX x 0 l a0).tmps g := by
      unfold yielded
      cases ht : (l.toArray[g]?).bind (·.dst) with
      | none => rfl
      | some t =>
        have := h.tmp F hj hdep (t := t) (List.mem_append_right _ (by simp only [hg, ht]; simp))
        simp only [Option.bind_some, this]
    simp only [hy]
end

/-! ### The walk over every order -/
section
variable {P : Program} {l : List Oper} {a0 : Act}
theorem countP_lt {p q : Nat → Bool} (hpq : ∀ j, q j = true → p j = true) : ∀ (L : List Nat) (i : Nat), i ∈ L → p i = true → q i = false → L.countP q < L.countP p
  | [], i, h, _, _ => by cases h
  | k :: L, i, h, hp, hq => by
    rw [List.countP_cons, List.countP_cons]
    have hle : L.countP q ≤ L.countP p := List.countP_mono_left (fun j _ => hpq j)
    rcases List.mem_cons.1 h with rfl | h1
    · rw [hp, hq]
      simp
      omega
    · have h2 := countP_lt hpq L i h1 hp hq
      by_cases hk : q k = true
      · rw [hk, hpq k hk]
        simp
        exact h2
      · rw [Bool.not_eq_true] at hk
        rw [hk]
        simp
        omega
def left (n : Nat) (listed : Array Bool) : Nat := (List.range n).countP fun i => !listed.getD i false
theorem left_step {n i : Nat} {listed : Array Bool} (hi : i < n) (hlt : i < listed.size) (hun : listed.getD i false = false) {fuel : Nat} (h : left n listed ≤ fuel + 1) : left n (listed.setIfInBounds i true) ≤ fuel := by
  have := countP_lt (p := fun i => !listed.getD i false) (q := fun j => !(listed.setIfInBounds i true).getD j false) (fun j hj => by
    rw [getD_listed hlt] at hj
    by_cases hji : j = i
    · subst hji; simp at hj
    · simpa [hji] using hj) (List.range n) i (List.mem_range.2 hi) (by simpa using hun) (by rw [getD_listed hlt]; simp)
  unfold left at *
  omega
theorem left_zero {n : Nat} {listed : Array Bool} (h : left n listed ≤ 0) : ∀ i, i < n → listed.getD i false = true := by
  intro i hi
  unfold left at h
  have h1 : (List.range n).countP (fun i => !listed.getD i false) = 0 := by omega
  rw [List.countP_eq_zero] at h1
  simpa using h1 i (List.mem_range.2 hi)
theorem ready_spec {listed : Array Bool} (hsz : listed.size = l.length) {i : Nat} (h : i ∈ Region.ready .any l.toArray listed) :
    ∃ o, l[i]? = some o ∧ i < l.length ∧ listed.getD i false = false ∧ ∀ j, depOn o j = true → listed.getD j false = true := by
  obtain ⟨h0, o, ho, hall⟩ := mem_ready.1 h
  have ho' : l[i]? = some o := by simpa using ho
  have hlt : i < l.length := (List.getElem?_eq_some_iff.1 ho').1
  refine ⟨o, ho', hlt, ?_, fun j hj => ?_⟩
  · have : i < listed.size := by omega
    simpa [this] using h0
  · obtain ⟨e, he, hb⟩ := List.any_eq_true.1 hj
    simp only [Bool.and_eq_true, beq_iff_eq] at hb
    have := hall e (by simpa using he) hb.1
    rwa [hb.2] at this
theorem ready_nil {late : List Nat} {s : Nat} (F : RelFacts l late s) {listed : Array Bool} (hsz : listed.size = l.length) (h : Region.ready .any l.toArray listed = []) : ∀ i, i < l.length → listed.getD i false = true := by
  intro i
  induction i using Nat.strongRecOn with
  | ind i ih =>
    intro hi
    cases hg : listed.getD i false with
    | true => rfl
    | false =>
      exfalso
      have ho : l[i]? = some l[i] := List.getElem?_eq_getElem hi
      have hm : i ∈ Region.ready .any l.toArray listed := mem_ready.2 ⟨by
        have : i < listed.size := by omega
        simpa [this] using hg, l[i], by simp, fun e he hb => ih e.on (F.lex i _ ho e he hb) (by have := F.lex i _ ho e he hb; omega)⟩
      rw [h] at hm
      cases hm
def Closed (l : List Oper) (listed : Array Bool) : Prop := ∀ (j : Nat) (o : Oper), l[j]? = some o → listed.getD j false = true → ∀ i, depOn o i = true → listed.getD i false = true
theorem Closed.step {listed : Array Bool} (h : Closed l listed) {i : Nat} {o : Oper} (hi : l[i]? = some o) (hlt : i < listed.size) (hdep : ∀ j, depOn o j = true → listed.getD j false = true) : Closed l (listed.setIfInBounds i true) := by
  intro j oj hj hl k hk
  rw [getD_listed hlt] at hl ⊢
  by_cases hki : k = i
  · rw [if_pos hki]
  · rw [if_neg hki]
    by_cases hji : j = i
    · subst hji
      rw [hi] at hj
      cases hj
      exact hdep k hk
    · rw [if_neg hji] at hl
      exact h j oj hj hl k hk
theorem listed_mono {listed : Array Bool} {i j : Nat} (hlt : i < listed.size) (h : listed.getD j false = true) : (listed.setIfInBounds i true).getD j false = true := by
  rw [getD_listed hlt]
  split
  · rfl
  · exact h
/-- What holds of the listed ones still holds when one more has its value. -/
theorem rel_keep {R : Nat → (Nat → Value) → World → Prop} (hloc : ∀ (i : Nat) (o : Oper) (x y : Nat → Value) (w : World), l[i]? = some o → (∀ j, (j = i ∨ depOn o j = true) → x j = y j) → R i x w → R i y w)
    {listed : Array Bool} (hc : Closed l listed) {i k : Nat} {x : Nat → Value} {w : World} {o : Oper} (hk : l[k]? = some o) (hkl : listed.getD k false = true) (hun : listed.getD i false = false) (v : Value) (h : R k x w) : R k (updX x i v) w := by
  refine hloc k o x _ w hk (fun j hj => ?_) h
  have hji : j ≠ i := by
    rintro rfl
    rcases hj with rfl | hd
    · rw [hkl] at hun; cases hun
    · have := hc k o hk hkl j hd
      rw [this] at hun
      cases hun
  exact (updX_ne x v hji).symm

/-- Behind the store: what is left neither reads nor writes memory. -/
theorem late_any {late : List Nat} {s : Nat} (F : RelFacts l late s) {R : Nat → (Nat → Value) → World → Prop} {Q : Exit → Act → World → Prop} {w0 w : World} {os : Oper} (hos : l[s]? = some os)
    (hloc : ∀ (i : Nat) (o : Oper) (x y : Nat → Value) (w : World), l[i]? = some o → (∀ j, (j = i ∨ depOn o j = true) → x j = y j) → R i x w → R i y w)
    (hlate : ∀ (i : Nat) (o : Oper) (x : Nat → Value), l[i]? = some o → late.contains i = true → (∀ j, depOn o j = true → j ≠ s → R j x w0) →
      if Region.wanted o (yielded l.toArray (frameX x 0 l a0).tmps) = true then ∃ v, (∀ w', (execOp (frameX x 0 l a0).eval o).run P w' = .ok (.value v) w') ∧ R i (updX x i v) w0 else R i (updX x i undef) w0)
    (hend : ∀ x : Nat → Value, (∀ i, i < l.length → i ≠ s → R i x w0) → (execOp (frameX x 0 l a0).eval os).run P w0 = .ok .skip w → Q .normal (frameX x 0 l a0) w) :
    ∀ (fuel : Nat) (listed : Array Bool) (a : Act) (x : Nat → Value), listed.size = l.length → left l.length listed ≤ fuel → Agrees l a0 x listed a → Closed l listed → listed.getD s false = true →
      (∀ i, i < l.length → late.contains i = false → listed.getD i false = true) → (∀ i, i < l.length → listed.getD i false = true → i ≠ s → R i x w0) →
      (execOp (frameX x 0 l a0).eval os).run P w0 = .ok .skip w → wpAny P .any l.toArray Q fuel listed a w := by
  intro fuel
  have hdone : ∀ (listed : Array Bool) (a : Act) (x : Nat → Value), Agrees l a0 x listed a → (∀ i, i < l.length → listed.getD i false = true) → (∀ i, i < l.length → listed.getD i false = true → i ≠ s → R i x w0) →
      (execOp (frameX x 0 l a0).eval os).run P w0 = .ok .skip w → Q .normal a w := by
    intro listed a x hA hall hR hrun
    rw [hA.all hall]
    exact hend x (fun i hi his => hR i hi (hall i hi) his) hrun
  induction fuel with
  | zero =>
    intro listed a x hsz hleft hA hC hsl hnl hR hrun
    have hall := left_zero hleft
    refine ⟨?_, hdone listed a x hA hall hR hrun⟩
    cases hr : Region.ready .any l.toArray listed with
    | nil => rfl
    | cons i t =>
      obtain ⟨o, ho, hi, hun, _⟩ := ready_spec hsz (i := i) (by rw [hr]; exact List.mem_cons_self)
      rw [hall i hi] at hun
      cases hun
  | succ fuel ih =>
    intro listed a x hsz hleft hA hC hsl hnl hR hrun
    refine ⟨fun hr => hdone listed a x hA (ready_nil F hsz hr) hR hrun, fun i hi => ?_⟩
    obtain ⟨o, ho, hin, hun, hdep⟩ := ready_spec hsz hi
    have hil : late.contains i = true := by
      cases hb : late.contains i with
      | true => rfl
      | false =>
        have := hnl i hin hb
        rw [this] at hun
        cases hun
    have his : i ≠ s := fun e => by
      rw [e, hsl] at hun
      cases hun
    have hlt : i < listed.size := by omega
    have hsdep : ∀ j, depOn os j = true → listed.getD j false = true := fun j hj => hC s os hos hsl j hj
    have key : ∀ v, R i (updX x i v) w0 → wpAny P .any l.toArray Q fuel (listed.setIfInBounds i true) (a.put o.dst v) w := by
      intro v hv
      have hA' := hA.step F ho hlt v
      refine ih _ _ (updX x i v) (by rw [Array.size_setIfInBounds]; exact hsz) (left_step hin hlt hun hleft) hA' (hC.step ho hlt hdep) (listed_mono hlt hsl) (fun k hk hkl => listed_mono hlt (hnl k hk hkl)) (fun k hk hkl hks => ?_) ?_
      · rw [getD_listed hlt] at hkl
        by_cases hki : k = i
        · rw [hki]; exact hv
        · rw [if_neg hki] at hkl
          exact rel_keep hloc hC (List.getElem?_eq_getElem hk) hkl hun v (hR k hk hkl hks)
      · rw [← hA'.exec F hos (fun j hj => listed_mono hlt (hsdep j hj)), execOp_put (ops := l.toArray) os (fun cs b => Region.noSelect_spec F.nosel s os cs b (by simpa using hos)) a o.dst v (fun d hd hm => by
          have := hsdep i (F.look i s o os d ho hos hd hm)
          rw [this] at hun
          cases hun), hA.exec F hos hsdep]
        exact hrun
    have hl := hlate i o x ho hil (fun j hj hjs => hR j (by
      have := hdep j hj
      rcases Nat.lt_or_ge j l.length with h | h
      · exact h
      · have h1 : listed.size ≤ j := by omega
        simp [h1] at this) (hdep j hj) hjs)
    unfold wpOp
    simp only [List.getElem?_toArray, ho]
    rw [hA.want F ho hdep]
    split
    · rename_i hw
      rw [if_pos hw] at hl
      obtain ⟨v, hv, hr⟩ := hl
      refine .inl ?_
      unfold Oper.wp
      rw [hA.exec F ho hdep, hv w]
      exact key v hr
    · rename_i hw
      rw [if_neg hw] at hl
      exact key undef hl

/-- What is asked of a region's operations. -/
structure RelHyps (P : Program) (l : List Oper) (late : List Nat) (s : Nat) (a0 : Act) (R : Nat → (Nat → Value) → World → Prop) (W : World) (Q : Exit → Act → World → Prop) : Prop where
  loc : ∀ (i : Nat) (o : Oper) (x y : Nat → Value) (w : World), l[i]? = some o → (∀ j, (j = i ∨ depOn o j = true) → x j = y j) → R i x w → R i y w
  stab : ∀ (i : Nat) (x : Nat → Value) (w w' : World), Below w.heap.size w w' → R i x w → R i x w'
  step : ∀ (i : Nat) (o : Oper) (x : Nat → Value) (w' : World), l[i]? = some o → i ≠ s → late.contains i = false → Below W.heap.size W w' → (∀ j, depOn o j = true → R j x w') →
      if Region.wanted o (yielded l.toArray (frameX x 0 l a0).tmps) = true then goes P o (frameX x 0 l a0) w' (fun v w'' => Below w'.heap.size w' w'' ∧ R i (updX x i v) w'') else R i (updX x i undef) w'
  lates : ∀ (i : Nat) (o : Oper) (x : Nat → Value) (w' : World), l[i]? = some o → late.contains i = true → Below W.heap.size W w' → (∀ j, depOn o j = true → j ≠ s → R j x w') →
      if Region.wanted o (yielded l.toArray (frameX x 0 l a0).tmps) = true then ∃ v, (∀ w', (execOp (frameX x 0 l a0).eval o).run P w' = .ok (.value v) w') ∧ R i (updX x i v) w' else R i (updX x i undef) w'
  sto : ∀ (o : Oper) (x : Nat → Value) (w' : World), l[s]? = some o → Below W.heap.size W w' → (∀ i, i < l.length → i ≠ s → late.contains i = false → R i x w') → ∃ w1, (execOp (frameX x 0 l a0).eval o).run P w' = .ok .skip w1
  fin : ∀ (o : Oper) (x : Nat → Value) (w' w1 : World), l[s]? = some o → Below W.heap.size W w' → (∀ i, i < l.length → i ≠ s → R i x w') → (execOp (frameX x 0 l a0).eval o).run P w' = .ok .skip w1 → Q .normal (frameX x 0 l a0) w1
  fin0 : l.length ≤ s → ∀ (x : Nat → Value) (w' : World), Below W.heap.size W w' → (∀ i, i < l.length → R i x w') → Q .normal (frameX x 0 l a0) w'

theorem feeds_listed {late : List Nat} {s : Nat} (F : RelFacts l late s) {listed : Array Bool} (hC : Closed l listed) {os : Oper} (hos : l[s]? = some os) (hdep : ∀ j, depOn os j = true → listed.getD j false = true) :
    ∀ i, i < l.length → i ≠ s → late.contains i = false → listed.getD i false = true := by
  have hs : s < l.length := (List.getElem?_eq_some_iff.1 hos).1
  have key : ∀ d i, l.length - i ≤ d → i < l.length → i ≠ s → late.contains i = false → listed.getD i false = true := by
    intro d
    induction d with
    | zero => intro i h1 h2; omega
    | succ d ih =>
      intro i h1 h2 h3 h4
      obtain ⟨j, oj, hj, hij, hd, hor⟩ := F.feeds i _ (List.getElem?_eq_getElem h2) h3 h4 hs
      have hjl : j < l.length := (List.getElem?_eq_some_iff.1 hj).1
      by_cases hjs : j = s
      · subst hjs
        rw [hos] at hj
        cases hj
        exact hdep i hd
      · rcases hor with h5 | h5
        · exact absurd h5 hjs
        · exact hC j oj hj (ih j (by omega) hjl hjs h5) i hd
  intro i
  exact key _ i (Nat.le_refl _)

theorem rel_any {late : List Nat} {s : Nat} (F : RelFacts l late s) {R : Nat → (Nat → Value) → World → Prop} {W : World} {Q : Exit → Act → World → Prop} (H : RelHyps P l late s a0 R W Q) :
    ∀ (fuel : Nat) (listed : Array Bool) (a : Act) (w : World) (x : Nat → Value), listed.size = l.length → left l.length listed ≤ fuel → Agrees l a0 x listed a → Closed l listed → Below W.heap.size W w → listed.getD s false = false →
      (∀ i, i < l.length → listed.getD i false = true → R i x w) → wpAny P .any l.toArray Q fuel listed a w := by
  intro fuel
  have hdone : ∀ (listed : Array Bool) (a : Act) (w : World) (x : Nat → Value), Agrees l a0 x listed a → (∀ i, i < l.length → listed.getD i false = true) → Below W.heap.size W w → listed.getD s false = false →
      (∀ i, i < l.length → listed.getD i false = true → R i x w) → Q .normal a w := by
    intro listed a w x hA hall hB hs hR
    rw [hA.all hall]
    refine H.fin0 ?_ x w hB (fun i hi => hR i hi (hall i hi))
    rcases Nat.lt_or_ge s l.length with h | h
    · rw [hall s h] at hs
      cases hs
    · exact h
  induction fuel with
  | zero =>
    intro listed a w x hsz hleft hA hC hB hs hR
    have hall := left_zero hleft
    refine ⟨?_, hdone listed a w x hA hall hB hs hR⟩
    cases hr : Region.ready .any l.toArray listed with
    | nil => rfl
    | cons i t =>
      obtain ⟨o, ho, hi, hun, _⟩ := ready_spec hsz (i := i) (by rw [hr]; exact List.mem_cons_self)
      rw [hall i hi] at hun
      cases hun
  | succ fuel ih =>
    intro listed a w x hsz hleft hA hC hB hs hR
    refine ⟨fun hr => hdone listed a w x hA (ready_nil F hsz hr) hB hs hR, fun i hi => ?_⟩
    obtain ⟨o, ho, hin, hun, hdep⟩ := ready_spec hsz hi
    have hlt : i < listed.size := by omega
    have hdlt : ∀ j, depOn o j = true → j < l.length := fun j hj => by
      have := hdep j hj
      rcases Nat.lt_or_ge j l.length with h | h
      · exact h
      · have h1 : listed.size ≤ j := by omega
        simp [h1] at this
    by_cases his : i = s
    · subst his
      have hnl := feeds_listed F hC ho hdep
      obtain ⟨w1, hrun⟩ := H.sto o x w ho hB (fun k hk hki hkl => hR k hk (hnl k hk hki hkl))
      have hsd := F.sdst o ho
      have hA' := hA.step F ho hlt undef
      have hput : a.put o.dst undef = a := by rw [hsd.1]; rfl
      rw [hput] at hA'
      unfold wpOp
      simp only [List.getElem?_toArray, ho]
      rw [if_pos (by simp [Region.wanted, hsd.2])]
      refine .inl ?_
      unfold Oper.wp
      rw [hA.exec F ho hdep, hrun]
      show wpAny P .any l.toArray Q fuel (listed.setIfInBounds i true) (a.put o.dst undef) w1
      rw [hput]
      refine late_any F ho H.loc (fun k ok y hk hkl hR' => H.lates k ok y w hk hkl hB hR') (fun y hy hr => H.fin o y w w1 ho hB hy hr) fuel _ a (updX x i undef) (by rw [Array.size_setIfInBounds]; exact hsz) (left_step hin hlt hun hleft) hA' (hC.step ho hlt hdep) (by rw [getD_listed hlt, if_pos rfl])
        (fun k hk hkl => ?_) (fun k hk hkl hki => ?_) ?_
      · by_cases hki : k = i
        · rw [hki, getD_listed hlt, if_pos rfl]
        · exact listed_mono hlt (hnl k hk hki hkl)
      · rw [getD_listed hlt, if_neg hki] at hkl
        exact rel_keep H.loc hC (List.getElem?_eq_getElem hk) hkl hun undef (hR k hk hkl)
      · rw [← hA'.exec F ho (fun j hj => listed_mono hlt (hdep j hj)), hA.exec F ho hdep]
        exact hrun
    · have hs' : (listed.setIfInBounds i true).getD s false = false := by rw [getD_listed hlt, if_neg (fun e => his e.symm)]; exact hs
      have key : ∀ v w', Below w.heap.size w w' → R i (updX x i v) w' → wpAny P .any l.toArray Q fuel (listed.setIfInBounds i true) (a.put o.dst v) w' := by
        intro v w' hb hv
        refine ih _ _ w' (updX x i v) (by rw [Array.size_setIfInBounds]; exact hsz) (left_step hin hlt hun hleft) (hA.step F ho hlt v) (hC.step ho hlt hdep) (hB.trans (hb.mono hB.size)) hs' (fun k hk hkl => ?_)
        rw [getD_listed hlt] at hkl
        by_cases hki : k = i
        · rw [hki]; exact hv
        · rw [if_neg hki] at hkl
          exact H.stab k _ w w' hb (rel_keep H.loc hC (List.getElem?_eq_getElem hk) hkl hun v (hR k hk hkl))
      unfold wpOp
      simp only [List.getElem?_toArray, ho]
      rw [hA.want F ho hdep]
      cases hil : late.contains i with
      | true =>
        have hl := H.lates i o x w ho hil hB (fun j hj _ => hR j (hdlt j hj) (hdep j hj))
        split
        · rename_i hw
          rw [if_pos hw] at hl
          obtain ⟨v, hv, hr⟩ := hl
          refine .inl ?_
          unfold Oper.wp
          rw [hA.exec F ho hdep, hv w]
          exact key v w (Below.refl _ _) hr
        · rename_i hw
          rw [if_neg hw] at hl
          exact key undef w (Below.refl _ _) hl
      | false =>
        have hl := H.step i o x w ho his hil hB (fun j hj => hR j (hdlt j hj) (hdep j hj))
        split
        · rename_i hw
          rw [if_pos hw] at hl
          exact .inl (goes_wp (goes_congr (hA.exec F ho hdep) hl) (fun v w' hv => key v w' hv.1 hv.2))
        · rename_i hw
          rw [if_neg hw] at hl
          exact key undef w (Below.refl _ _) hl

theorem wp_region_rel {id : Nat} {Q : Exit → Act → World → Prop} {a : Act} {w : World} (late : List Nat) (s : Nat) (R : Nat → (Nat → Value) → World → Prop) (hm : P.follows .mixedOrders = true) (hB : relOk l late s = true)
    (h : ∀ W, Below w.heap.size w W → W.heap.size = w.heap.size → RelHyps P l late s a R W Q) : (Code.region id l.toArray true).wp P Q a w := by
  have F := relFacts hB
  refine wp_region_any hm ?_
  have hz : ∀ i, (Array.replicate l.toArray.size false).getD i false = false := fun i => by
    rw [Array.getD_eq_getD_getElem?, Array.getElem?_replicate]
    split <;> rfl
  refine rel_any F (h w.drew (Below.refl _ _).drew rfl) _ _ a _ (fun _ => undef) (by simp) ?_ (Agrees.start (fun i _ => hz i)) (fun j o _ hl => by rw [hz] at hl; cases hl) (Below.refl _ _) (hz s) (fun i _ hl => by rw [hz] at hl; cases hl)
  unfold left
  refine Nat.le_trans List.countP_le_length ?_
  simp
end
end Go.Proofs.Ytpnejmlbfadaaaa
