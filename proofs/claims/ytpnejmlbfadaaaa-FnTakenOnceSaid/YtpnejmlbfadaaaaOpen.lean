/- A slice that came in, or that a call made, as a list of cells; how the arguments of a statement are opened to such lists. No condition. -/
import Derived.Test.YtpnejmlbfadaaaaKit
import Derived.ProofKit
import Derived.OpenShut
import Derived.ShutString
import Derived.ChangeOld
import Derived.Below
import Derived.Deep.Slices
namespace Go.Proofs.Ytpnejmlbfadaaaa
open Go.RowKit Go.ChangeShapes Go.WideShapes Go.Deep

/-- The slice value of address A and length n holds the cells xs, 'size' to an element. -/
def Rd (w : World) (size : Nat) (A : Option Addr) (n : Nat) (xs : List Value) : Prop :=
  xs.length = n * size ∧ (0 < n → ∃ b o, A = some ⟨b, o, none⟩ ∧ b < w.heap.size ∧ ∀ j u, xs[j]? = some u → w.cell? ⟨b, o + j, none⟩ = some u)

theorem Rd.nil_ {w : World} {size : Nat} {A : Option Addr} : Rd w size A 0 [] := ⟨by simp, fun h => absurd h (by omega)⟩
theorem Rd.below {w w' : World} {size n : Nat} {A : Option Addr} {xs : List Value} (h : Rd w size A n xs) (hb : Below w.heap.size w w') : Rd w' size A n xs :=
  ⟨h.1, fun hn => by
    obtain ⟨b, o, e, hlt, hc⟩ := h.2 hn
    exact ⟨b, o, e, Nat.lt_of_lt_of_le hlt hb.size, fun j u hu => (hb.cell (p := ⟨b, o + j, none⟩) hlt).trans (hc j u hu)⟩⟩
theorem Rd.drewN {w : World} {size n : Nat} {A : Option Addr} {xs : List Value} (h : Rd w size A n xs) (k : Nat) : Rd (w.drewN k) size A n xs := h
theorem Rd.alloc {w : World} {size n : Nat} {A : Option Addr} {xs : List Value} (h : Rd w size A n xs) (o : Obj) : Rd (w.alloc o) size A n xs :=
  h.below ((Below.refl _ _).alloc (Nat.le_refl _) o)
theorem Rd.of_own {w : World} {base : Nat} {e : TypeId} {size n c : Nat} {A : Option Addr} {xs : List Value} (h : w.ownsRow base e size (.slice A n c) n xs) : Rd w size A n xs := by
  refine ⟨h.1, fun hn => ?_⟩
  rcases h.2 with ⟨_, h0⟩ | ⟨g, cap, cur, hv, _⟩
  · omega
  · simp only [Value.slice.injEq] at hv
    obtain ⟨rfl, _, rfl⟩ := hv
    refine ⟨g, 0, rfl, (h.lt g rfl).2, fun j u hu => ?_⟩
    have hj : j < n * size := by
      have := (List.getElem?_eq_some_iff.1 hu).1
      have := h.1
      omega
    rw [Nat.zero_add, h.cellAt j hj, hu]

/-- What is owned stays owned while a call leaves all that is there. -/
theorem own_below {w w' : World} {base : Nat} {e : TypeId} {size n : Nat} {v : Value} {xs : List Value} (h : w.ownsRow base e size v n xs) (hb : Below w.heap.size w w') : w'.ownsRow base e size v n xs := by
  refine ⟨h.1, ?_⟩
  rcases h.2 with h0 | ⟨g, cap, cur, hv, hg, hh, r⟩
  · exact .inl h0
  · have hlt : g < w.heap.size := by
      rcases Nat.lt_or_ge g w.heap.size with h1 | h1
      · exact h1
      · rw [Array.getElem?_eq_none h1] at hh; cases hh
    exact .inr ⟨g, cap, cur, hv, hg, (hb.block g hlt).trans hh, r⟩

/-- All old cells and marks read as before. -/
theorem bcell {W w1 : World} (hb : Below W.heap.size W w1) : (∀ b o, b < W.heap.size → w1.cell? ⟨b, o, none⟩ = W.cell? ⟨b, o, none⟩) ∧ (∀ b o, b < W.heap.size → w1.frozen? ⟨b, o, none⟩ = W.frozen? ⟨b, o, none⟩) :=
  ⟨fun b o h => hb.cell (p := ⟨b, o, none⟩) h, fun b o h => hb.frozen (p := ⟨b, o, none⟩) h⟩
theorem gcell {W w1 : World} {g : Nat} (hb : W.grownBy w1 (some g)) : (∀ b o, b < W.heap.size → b ≠ g → w1.cell? ⟨b, o, none⟩ = W.cell? ⟨b, o, none⟩) ∧ (∀ b o, b < W.heap.size → b ≠ g → w1.frozen? ⟨b, o, none⟩ = W.frozen? ⟨b, o, none⟩) :=
  ⟨fun b o h hn => World.cell?_of_block (w := W) (a := ⟨b, o, none⟩) (hb.block b h (by simpa using hn)), fun b o h hn => World.frozen?_of_block (w := W) (a := ⟨b, o, none⟩) (hb.block b h (by simpa using hn))⟩
theorem own_lt {w : World} {base : Nat} {e : TypeId} {size n c : Nat} {g : Nat} {xs : List Value} (h : w.ownsRow base e size (.slice (some ⟨g, 0, none⟩) n c) n xs) : base ≤ g ∧ g < w.heap.size := h.lt g rfl

theorem own_base {w : World} {base base' : Nat} {e : TypeId} {size n : Nat} {v : Value} {xs : List Value} (h : w.ownsRow base' e size v n xs) (hb : base ≤ base') : w.ownsRow base e size v n xs := by
  refine ⟨h.1, ?_⟩
  rcases h.2 with h0 | ⟨g, cap, cur, hv, hg, r⟩
  · exact .inl h0
  · exact .inr ⟨g, cap, cur, hv, Nat.le_trans hb hg, r⟩

theorem flatMap_length {α : Type} (f : α → List Value) (size : Nat) (hf : ∀ r, (f r).length = size) : ∀ rs : List α, (rs.flatMap f).length = rs.length * size
  | [] => by simp
  | r :: rs => by rw [List.flatMap_cons, List.length_append, hf, flatMap_length f size hf rs, List.length_cons, Nat.add_mul]; omega
/-- A cell of a row of records. -/
theorem flatMap_get {α : Type} (f : α → List Value) (size : Nat) (hf : ∀ r, (f r).length = size) : ∀ (rs : List α) (i j : Nat) (h : i < rs.length), j < size → (rs.flatMap f)[i * size + j]? = (f rs[i])[j]?
  | r :: rs, 0, j, _, hj => by
    rw [List.flatMap_cons, Nat.zero_mul, Nat.zero_add, List.getElem?_append_left (by rw [hf]; exact hj)]
    rfl
  | r :: rs, i + 1, j, h, hj => by
    have hsz := hf r
    rw [List.flatMap_cons, List.getElem?_append_right (by rw [hsz, Nat.add_mul]; omega)]
    have e : (i + 1) * size + j - (f r).length = i * size + j := by rw [hsz, Nat.add_mul]; omega
    rw [e, flatMap_get f size hf rs i j (by simpa using h) hj]
    rfl
  | [], i, j, h, _ => by simp at h
/-- Where a cell of a row of records lies. -/
theorem Rd.get {α : Type} {w : World} {size n : Nat} {A : Option Addr} {f : α → List Value} (hf : ∀ r, (f r).length = size) {rs : List α} (h : Rd w size A n (rs.flatMap f)) (hn : n = rs.length) {i : Nat} (hi : i < rs.length) :
    ∃ b o, A = some ⟨b, o, none⟩ ∧ b < w.heap.size ∧ ∀ j u, j < size → (f rs[i])[j]? = some u → w.cell? ⟨b, o + (i * size + j), none⟩ = some u := by
  obtain ⟨b, o, e, hlt, hc⟩ := h.2 (by omega)
  exact ⟨b, o, e, hlt, fun j u hj hu => hc _ u (by rw [flatMap_get f size hf rs i j hi hj]; exact hu)⟩

section
variable {H : Type} {enc : TypeId × Value → H} {P : Program} {w : World} {held : Bool}
/-- An argument that is a slice, opened by its elements' reading. -/
theorem open_slice_of {α : Type} [Inhabited α] (f : α → List Value) (Wf : α → Prop) (size : Nat) (hf : ∀ r, (f r).length = size) {t e : TypeId} {fuel : Nat} {cs : List Value} {x : DataW H × List MemPlace}
    (ht : P.underlying t = some (.slice e)) (hC : P.cellsOf e = size) (hsz : 0 < size) (hel : ∀ (n : Nat) (cs : List Value) (x : DataW H × List MemPlace), DataW.trod enc P w 0 (fun _ => true) held n e cs = some x → ∃ r, cs = f r ∧ Wf r)
    (h : DataW.trod enc P w 0 (fun _ => true) held fuel t cs = some x) :
    ∃ (A : Option Addr) (n c : Nat) (rs : List α), cs = [.slice A n c] ∧ rs.length = n ∧ n ≤ c ∧ c ≤ maxLen ∧ Rd w size A n (rs.flatMap f) ∧ ∀ r ∈ rs, Wf r := by
  rcases open_slice ht h with ⟨rfl, _⟩ | ⟨a, len, cap, m, n, D, Pl, rfl, _, hl, hm, hmm, _, hi⟩
  · exact ⟨none, 0, 0, [], rfl, rfl, Nat.le_refl _, Nat.zero_le _, Rd.nil_, by simp⟩
  · rw [if_pos rfl] at hmm
    subst hmm
    have key : ∀ k, k ≤ len → ∃ rs : List α, rs.length = k ∧ (∀ i (hik : i < rs.length), ∀ j u, j < size → (f rs[i])[j]? = some u → w.cell? (a.add (i * size + j)) = some u) ∧ ∀ r ∈ rs, Wf r := by
      intro k
      induction k with
      | zero => intro _; exact ⟨[], rfl, fun i h => by simp at h, by simp⟩
      | succ k ih =>
        intro hk
        obtain ⟨rs, hlen, hcell, hwf⟩ := ih (by omega)
        obtain ⟨cs', hc, htr⟩ := hi k (by omega)
        obtain ⟨r, rfl, hr⟩ := hel _ _ _ htr
        obtain ⟨_, _, hat⟩ := World.cells?_some hc
        rw [hC] at hat
        refine ⟨rs ++ [r], by simp [hlen], fun i hik j u hj hu => ?_, fun q hq => ?_⟩
        · by_cases hik' : i < rs.length
          · rw [List.getElem_append_left hik'] at hu
            exact hcell i hik' j u hj hu
          · have hie : i = rs.length := by simp at hik; omega
            subst hie
            rw [List.getElem_append_right (Nat.le_refl _)] at hu
            simp only [Nat.sub_self, List.getElem_cons_zero] at hu
            rw [hlen, ← add_add, hat j hj, hu]
        · rcases List.mem_append.1 hq with h1 | h1
          · exact hwf q h1
          · rw [List.mem_singleton.1 h1]
            exact hr
    obtain ⟨rs, hlen, hcell, hwf⟩ := key len (Nat.le_refl _)
    refine ⟨some a, len, m, rs, rfl, hlen, hl, hm, ⟨by rw [flatMap_length f size hf, hlen], fun hn => ?_⟩, hwf⟩
    obtain ⟨b, o, spot⟩ := a
    have h0 : 0 < rs.length := by omega
    have hv : (f rs[0])[0]? = some ((f rs[0])[0]'(by rw [hf]; exact hsz)) := List.getElem?_eq_getElem _
    have hc0 := hcell 0 h0 0 _ hsz hv
    have hsp : spot = none := by simpa [Addr.add] using World.cell?_spot hc0
    subst hsp
    refine ⟨b, o, rfl, World.block_lt_of_cell? w _ (by simpa [Addr.add] using hc0), fun j u hu => ?_⟩
    have hj : j < rs.length * size := by
      have := (List.getElem?_eq_some_iff.1 hu).1
      rwa [flatMap_length f size hf] at this
    have hdiv : j / size < rs.length := (Nat.div_lt_iff_lt_mul hsz).2 hj
    have hmod : j % size < size := Nat.mod_lt _ hsz
    have hje : j / size * size + j % size = j := by rw [Nat.mul_comm]; exact Nat.div_add_mod j size
    rw [← hje, flatMap_get f size hf rs _ _ hdiv hmod] at hu
    have := hcell _ hdiv _ u hmod hu
    rw [hje, Addr.add_lit] at this
    exact this
end

/-! ### Plain elements -/
def cI (n : Int) : List Value := [.int .i64 n]
def cB (b : UInt8) : List Value := [.int .u8 (num b)]
def cS (l : List UInt8) : List Value := [.string ⟨l.toArray⟩]
theorem cI_len (n : Int) : (cI n).length = 1 := rfl
theorem cB_len (b : UInt8) : (cB b).length = 1 := rfl
theorem cS_len (l : List UInt8) : (cS l).length = 1 := rfl
/-- A number of 64 bits. -/
def I64 (n : Int) : Prop := -9223372036854775808 ≤ n ∧ n ≤ 9223372036854775807
/-- A text's length fits. -/
def Txt (l : List UInt8) : Prop := l.length ≤ 9223372036854775807
theorem txt_of {l : List UInt8} (h : (ByteArray.mk l.toArray).size ≤ maxLen) : Txt l := by
  unfold Txt
  unfold maxLen at h
  simpa [ByteArray.size] using h
theorem i64_of_wf {n : Int} (h : (Lit.int .i64 n).wf = true) : I64 n := by
  simp [Lit.wf, IntKind.min, IntKind.max, IntKind.signed, IntKind.bits] at h
  exact h
theorem flatMap_take {α : Type} (f : α → List Value) {rs : List α} {k : Nat} (hk : k < rs.length) : (rs.take (k + 1)).flatMap f = (rs.take k).flatMap f ++ f rs[k] := by
  rw [List.take_succ_eq_append_getElem hk, List.flatMap_append, List.flatMap_cons, List.flatMap_nil, List.append_nil]
theorem flatMap_set1 {α : Type} (f : α → List Value) (hf : ∀ r, (f r).length = 1) {r : α} {v : Value} (hv : f r = [v]) : ∀ (l : List α) (k : Nat), (l.flatMap f).set k v = (l.set k r).flatMap f
  | [], k => by simp
  | x :: l, 0 => by
    rw [List.set_cons_zero, List.flatMap_cons, List.flatMap_cons, hv, List.set_append_left _ _ (by rw [hf]; omega)]
    match f x, hf x with
    | [_], _ => rfl
  | x :: l, k + 1 => by
    rw [List.set_cons_succ, List.flatMap_cons, List.flatMap_cons, List.set_append_right _ _ (by rw [hf]; omega), hf, Nat.add_sub_cancel, flatMap_set1 f hf hv l k]
theorem take_rep_set {α : Type} {zs : List α} {z : α} {k : Nat} (hk : k < zs.length) : (zs.take k ++ List.replicate (zs.length - k) z).set k zs[k] = zs.take (k + 1) ++ List.replicate (zs.length - (k + 1)) z := by
  have hl : (zs.take k).length = k := List.length_take_of_le (by omega)
  rw [List.set_append_right _ _ (by omega), hl, Nat.sub_self, show zs.length - k = (zs.length - (k + 1)) + 1 from by omega, List.replicate_succ, List.set_cons_zero,
    List.take_succ_eq_append_getElem hk, List.append_assoc]
  rfl
theorem replicate_flat {α : Type} (f : α → List Value) {z : α} {v : Value} (hv : f z = [v]) : ∀ m : Nat, List.replicate m v = (List.replicate m z).flatMap f
  | 0 => rfl
  | m + 1 => by rw [List.replicate_succ, List.replicate_succ, List.flatMap_cons, ← replicate_flat f hv m, hv]; rfl
/-- A row of numbers, of bytes, of texts: the k-th cell. -/
theorem Rd.int {w : World} {A : Option Addr} {n : Nat} {zs : List Int} (h : Rd w 1 A n (zs.flatMap cI)) (hn : zs.length = n) {k : Nat} (hk : k < zs.length) :
    ∃ b o, A = some ⟨b, o, none⟩ ∧ b < w.heap.size ∧ w.cell? ⟨b, o + k, none⟩ = some (.int .i64 zs[k]) := by
  obtain ⟨b, o, e, hb, hc⟩ := Rd.get cI_len h hn.symm hk
  exact ⟨b, o, e, hb, by simpa using hc 0 _ (by omega) rfl⟩
theorem Rd.byte {w : World} {A : Option Addr} {n : Nat} {zs : List UInt8} (h : Rd w 1 A n (zs.flatMap cB)) (hn : zs.length = n) {k : Nat} (hk : k < zs.length) :
    ∃ b o, A = some ⟨b, o, none⟩ ∧ b < w.heap.size ∧ w.cell? ⟨b, o + k, none⟩ = some (.int .u8 (num zs[k])) := by
  obtain ⟨b, o, e, hb, hc⟩ := Rd.get cB_len h hn.symm hk
  exact ⟨b, o, e, hb, by simpa using hc 0 _ (by omega) rfl⟩
theorem Rd.str {w : World} {A : Option Addr} {n : Nat} {zs : List (List UInt8)} (h : Rd w 1 A n (zs.flatMap cS)) (hn : zs.length = n) {k : Nat} (hk : k < zs.length) :
    ∃ b o, A = some ⟨b, o, none⟩ ∧ b < w.heap.size ∧ w.cell? ⟨b, o + k, none⟩ = some (.string ⟨zs[k].toArray⟩) := by
  obtain ⟨b, o, e, hb, hc⟩ := Rd.get cS_len h hn.symm hk
  exact ⟨b, o, e, hb, by simpa using hc 0 _ (by omega) rfl⟩
section
variable {H : Type} {enc : TypeId × Value → H} {P : Program} {w : World} {held : Bool} {t : TypeId} {n : Nat} {cs : List Value} {x : DataW H × List MemPlace} {base : Nat} {sp : Nat → Bool}
/-- A struct, field by field: type, place and size of each field by a closed fact. -/
theorem trod_fields {fs : Array Field} (ht : P.underlying t = some (.struct fs)) (h : DataW.trod enc P w base sp held n t cs = some x) :
    cs.length = P.cellsOf t ∧ ∃ m, ∀ (i : Nat) (ty : TypeId) (off sz : Nat), (fs[i]?).map (fun f => (f.type, f.offset, P.cellsOf f.type)) = some (ty, off, sz) → ∃ y, DataW.trod enc P w base sp held m ty ((cs.drop off).take sz) = some y := by
  obtain ⟨xs, m, _, _, hlen, hxl, hf⟩ := DataW.trod_struct ht h
  refine ⟨hlen, m, fun i ty off sz he => ?_⟩
  cases hi : fs[i]? with
  | none => rw [hi] at he; cases he
  | some f =>
    rw [hi] at he
    simp only [Option.map_some, Option.some.injEq, Prod.mk.injEq] at he
    obtain ⟨rfl, rfl, rfl⟩ := he
    have hlt : i < xs.length := by rw [hxl]; exact (Array.getElem?_eq_some_iff.1 hi).1
    exact ⟨_, (hf i f hi).trans (List.getElem?_eq_getElem hlt)⟩
theorem el_int (ht : P.underlying t = some (.int .i64)) (h : DataW.trod enc P w base sp held n t cs = some x) : ∃ r, cs = cI r ∧ I64 r := by
  obtain ⟨r, rfl, _, hw⟩ := DataW.trod_int ht h
  exact ⟨r, rfl, i64_of_wf hw⟩
theorem el_byte (ht : P.underlying t = some (.int .u8)) (h : DataW.trod enc P w base sp held n t cs = some x) : ∃ r, cs = cB r ∧ True := by
  obtain ⟨r, rfl, _, hw⟩ := DataW.trod_int ht h
  have hr : 0 ≤ r ∧ r ≤ 255 := by simpa [Lit.wf, IntKind.min, IntKind.max, IntKind.signed, IntKind.bits] using hw
  exact ⟨by1 r, by unfold cB; rw [num_by1 r hr.1 hr.2], trivial⟩
theorem el_str (ht : P.underlying t = some .string) (h : DataW.trod enc P w base sp held n t cs = some x) : ∃ r, cs = cS r ∧ Txt r := by
  obtain ⟨s, rfl, _, hw⟩ := DataW.trod_string ht h
  refine ⟨s.data.toList, by unfold cS; simp, ?_⟩
  unfold Txt
  unfold maxLen at hw
  rw [Array.length_toList]
  exact hw
theorem el_bool (ht : P.underlying t = some .bool) (h : DataW.trod enc P w base sp held n t cs = some x) : ∃ b, cs = [.bool b] := by
  obtain ⟨b, rfl, _⟩ := DataW.trod_bool ht h
  exact ⟨b, rfl⟩
end
/-- A write makes no cell and takes none. -/
theorem cell_some (w : World) (a b : Addr) (v : Value) : ((w.setCell a v).cell? b).isSome = (w.cell? b).isSome := by
  by_cases h : a = b
  · subst h
    unfold World.cell?
    simp only [World.setCell, Array.getElem?_modify, ↓reduceIte]
    cases hb : w.heap[a.block]? with
    | none => simp
    | some x =>
      cases x <;> simp
      cases hs : a.spot <;> simp [Array.getElem?_setIfInBounds]
      split <;> simp [*]
  · exact congrArg Option.isSome (World.cell?_setCell_other w a b v h)

theorem grown_trans' {a b c : World} {row : Option Nat} (h : a.grownBy b row) (k : b.grownBy c row) : a.grownBy c row :=
  ⟨k.os.trans h.os, k.tape.trans h.tape, k.output.trans h.output, Nat.le_trans h.size k.size, fun i hi hne => (k.block i (Nat.lt_of_lt_of_le hi h.size) hne).trans (h.block i hi hne)⟩

theorem grown_below {a b c : World} {row : Option Nat} (h : a.grownBy b row) (k : Below b.heap.size b c) : a.grownBy c row :=
  ⟨k.os.trans h.os, k.tape.trans h.tape, k.output.trans h.output, Nat.le_trans h.size k.size, fun i hi hne => (k.block i (Nat.lt_of_lt_of_le hi h.size)).trans (h.block i hi hne)⟩

/-- A row of which the first cells were written: one more. -/
theorem grow_set {P R : List Value} {p : Nat} {v : Value} (hp : P.length = p) (h : p < R.length) : (P ++ R.drop p).set p v = (P ++ [v]) ++ R.drop (p + 1) := by
  subst hp
  rw [List.set_append_right _ _ (by omega), Nat.sub_self, List.drop_eq_getElem_cons h, List.set_cons_zero, List.append_assoc]
  rfl
theorem grow_get {P R : List Value} {p j : Nat} (hp : P.length = p) (hj : p ≤ j) (h : j < R.length) : (P ++ R.drop p)[j]? = some R[j] := by
  subst hp
  rw [List.getElem?_append_right (by omega), List.getElem?_drop, show P.length + (j - P.length) = j from by omega, List.getElem?_eq_getElem h]
end Go.Proofs.Ytpnejmlbfadaaaa
