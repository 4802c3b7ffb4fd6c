/- Walks by letters: a step, the new frame's form and the new slot's value in one. No condition. -/
import Derived.Test.YtpnejmlbfadaaaaFlow
namespace Go.Proofs.Ytpnejmlbfadaaaa
open Go.RowKit
structure PutS (n : Nat) (d : Tmp) (v : Value) (a b : Act) : Prop where
  p : Put d v a b
  s : St n b
  v : b.eval (.tmp d) = v
theorem PutS.k {n : Nat} {d t : Tmp} {v V : Value} {a b : Act} (q : PutS n d v a b) (h : a.eval (.tmp t) = V) (hne : (d == t) = false := by rfl) : b.eval (.tmp t) = V := (q.p.ne hne).trans h
theorem Put.k {d t : Tmp} {v V : Value} {a b : Act} (q : Put d v a b) (h : a.eval (.tmp t) = V) (hne : (d == t) = false) : b.eval (.tmp t) = V := (q.ne hne).trans h
theorem putS {n : Nat} {d : Tmp} {v : Value} {a b : Act} (hs : St n a) (hn : Nat.blt d n = true) (p : Put d v a b) : PutS n d v a b := ⟨p, p.st hs, p.at hs (by rw [Nat.blt_eq] at hn; exact hn)⟩
theorem out2 {l : List Oper} {a0 : Act} {o : Oper} {x : Nat → Value} {ρ : Operand → Value} {n : Nat} (h : ReadsO l a0 o x ρ) (hs : St n a0) (i t : Nat) (h1 : (l[i]?).bind (·.dst) = some t) (h2 : Nat.blt t n = true) (h3 : depOn o i = true) : ρ (.tmp t) = x i := h.out i t h1 (by rw [hs.size]; rw [Nat.blt_eq] at h2; exact h2) h3
theorem O2 {l : List Oper} {a0 : Act} {o : Oper} {x : Nat → Value} {ρ : Operand → Value} {n : Nat} (h : ReadsO l a0 o x ρ) (hs : St n a0) (i t : Nat) (h1 : (l[i]?).bind (·.dst) = some t := by rfl) (h2 : Nat.blt t n = true := by rfl) (h3 : depOn o i = true := by rfl) : ρ (.tmp t) = x i := out2 h hs i t h1 h2 h3
/-- What stays in a frame behind some steps. -/
structure Kps (ds : List Tmp) (a b : Act) : Prop where
  e : ∀ t, ds.contains t = false → b.eval (.tmp t) = a.eval (.tmp t)
theorem Kps.nil (a : Act) : Kps [] a a := ⟨fun _ _ => rfl⟩
theorem kps_cons {ds : List Tmp} {a b c : Act} {d : Tmp} (h : Kps ds a b) (p : ∀ t, (d == t) = false → c.eval (.tmp t) = b.eval (.tmp t)) : Kps (d :: ds) a c := ⟨fun t ht => by
  simp only [List.contains_cons, Bool.or_eq_false_iff] at ht
  rw [p t (by rw [beq_eq_false_iff_ne]; intro e; subst e; simp at ht), h.e t ht.2]⟩
theorem Kps.u {ds : List Tmp} {a b c : Act} {n : Nat} {d : Tmp} {v : Value} (h : Kps ds a b) (p : PutS n d v b c) : Kps (d :: ds) a c := kps_cons h (fun _ hne => p.p.ne hne)
theorem Kps.k {ds : List Tmp} {a b : Act} {t : Tmp} {V : Value} (h : Kps ds a b) (hs : a.eval (.tmp t) = V) (hne : ds.contains t = false := by rfl) : b.eval (.tmp t) = V := (h.e t hne).trans hs
section
variable {P : Program} {ops : Array Oper} {Q : Exit → Act → World → Prop} {o : Oper} {rest : List Oper} {a : Act} {w : World} {d : Tmp} {n : Nat}
theorem q_v (hs : St n a) (hg : o.guard = none) (hd : o.dst = some d) (hn : Nat.blt d n = true) (h : goesR P o a.eval w (fun v w' => ∀ b, PutS n d v a b → wpList P ops Q rest b w')) : wpList P ops Q (o :: rest) a w :=
  q_val hg hd (goesR_mono (fun _ _ hv b p => hv b (putS hs hn p)) h)
theorem Qv (hs : St n a) (h : goesR P o a.eval w (fun v w' => ∀ b, PutS n d v a b → wpList P ops Q rest b w')) (hg : o.guard = none := by rfl) (hd : o.dst = some d := by rfl) (hn : Nat.blt d n = true := by rfl) : wpList P ops Q (o :: rest) a w :=
  q_v hs hg hd hn h
theorem q_t {g : Nat} {b : Bool} {t : Tmp} (hs : St n a) (hg : o.guard = some (g, b)) (ht : (ops[g]?).bind (·.dst) = some t) (hv : a.eval (.tmp t) = .bool b) (hd : o.dst = some d) (hn : Nat.blt d n = true) (h : goesR P o a.eval w (fun v w' => ∀ b, PutS n d v a b → wpList P ops Q rest b w')) : wpList P ops Q (o :: rest) a w :=
  q_take hg ht hv hd (goesR_mono (fun _ _ hv b p => hv b (putS hs hn p)) h)
theorem q_u {g : Nat} {b : Bool} {t : Tmp} (hs : St n a) (hg : o.guard = some (g, b)) (ht : (ops[g]?).bind (·.dst) = some t) (hv : a.eval (.tmp t) = undef) (hd : o.dst = some d) (hn : Nat.blt d n = true) (h : ∀ c, PutS n d undef a c → wpList P ops Q rest c w) : wpList P ops Q (o :: rest) a w :=
  q_skipU hg ht hv hd (fun c p => h c (putS hs hn p))
theorem q_s {g : Nat} {b : Bool} {t : Tmp} (hs : St n a) (hg : o.guard = some (g, b)) (ht : (ops[g]?).bind (·.dst) = some t) (hv : a.eval (.tmp t) = .bool (!b)) (hd : o.dst = some d) (hn : Nat.blt d n = true) (h : ∀ c, PutS n d undef a c → wpList P ops Q rest c w) : wpList P ops Q (o :: rest) a w :=
  q_skip hg ht hv hd (fun c p => h c (putS hs hn p))
end
end Go.Proofs.Ytpnejmlbfadaaaa
