/- Small laws that the walks use: bits of numbers that are not negative; a new row of bytes turned into a text. No condition. -/
import Derived.Test.YtpnejmlbfadaaaaRows
import Derived.Test.YtpnejmlbfadaaaaPlain
import Derived.WalkKit
import Derived.WalkSpells
import Derived.WalkLawsBesides
import Derived.Laws.BytesArg
import Derived.Lib.Hide
import Derived.Deep.Draws
import Derived.BigQuiet
import Derived.Deep.RegionHeld3
import Derived.Deep.QuietTactic
namespace Go.Proofs.Ytpnejmlbfadaaaa
open Go.RowKit

/-- A text's byte, as the walk reads it. -/
@[go_sem] theorem byte_nth (l : List UInt8) (i : Nat) (h : i < (ByteArray.mk l.toArray).size) : ((((ByteArray.mk l.toArray)[i]'h).toNat : Nat) : Int) = nth l (i : Int) := by
  have h' : i < l.length := by simpa [ByteArray.size] using h
  rw [nth_of_lt l i h']
  unfold num
  congr 1

attribute [go_sem] ByteArray.extract_mk nth_max pwS_1 pwS_2 pwS_3 pw1_len pw2_len pw3_len
@[go_sem] theorem wrap_nth (l : List UInt8) (i : Int) : IntKind.i64.wrap (nth l i) = nth l i := by
  have h0 := nth_lo l i
  have h1 := nth_hi l i
  rw [IntKind.wrap_i64]
  omega
@[go_sem] theorem wrap64_nth (l : List UInt8) (i : Int) : wrap64 (nth l i) = nth l i := by
  have h0 := nth_lo l i
  have h1 := nth_hi l i
  exact IntWalk.wrap64_in _ ⟨by omega, by omega⟩
theorem below_step {a w w' : World} (h : Below a.heap.size a w) (k : Below w.heap.size w w') : Below a.heap.size a w' := h.trans (k.mono h.size)
theorem held_step {a w w' : World} {b x : Nat} {v : Value} (hbl : b < a.heap.size) (hc : a.cell? ⟨b, x, none⟩ = some v) (h : Below a.heap.size a w ∧ w.cell? ⟨b, x, none⟩ = some v) (k : Below w.heap.size w w') : Below a.heap.size a w' ∧ w'.cell? ⟨b, x, none⟩ = some v :=
  have h' := below_step h.1 k
  ⟨h', (h'.cell (p := ⟨b, x, none⟩) hbl).trans hc⟩
theorem quiet_add_left {P : Program} {f : FuncId} {args : Array Value} {w : World} {a n : Nat} {v : Value}
    (h : Calls P f args (w.drewN (a + n)) fun e w' => e = .returned v ∧ w.drewN (a + n) = w') :
    Calls P f args (w.drewN (a + n)) fun e w'' => e = .returned v ∧ ∃ m, w'' = w.drewN (a + m) :=
  h.mono fun _ _ ⟨he, hm⟩ => ⟨he, n, hm.symm⟩
theorem quiet_left {P : Program} {f : FuncId} {args : Array Value} {w : World} {n : Nat} {v : Value}
    (h : Calls P f args (w.drewN n) fun e w' => e = .returned v ∧ w.drewN n = w') : Calls P f args (w.drewN n) fun e w'' => e = .returned v ∧ ∃ m, w'' = w.drewN m :=
  h.mono fun _ _ ⟨he, hm⟩ => ⟨he, n, hm.symm⟩
theorem below_drewN {B : Nat} {a w : World} (h : Below B a w) (n : Nat) : Below B a (w.drewN n) := ⟨h.os, h.tape, h.output, h.size, h.block⟩
@[go_sem] theorem drop_all (l : List UInt8) (k : Nat) : (l.drop k).take (l.length - k) = l.drop k := List.take_of_length_le (by simp)
theorem ret_int {a b : Int} (h : a = b) : Ending.returned (.int .i64 a) = Ending.returned (.int .i64 b) := by rw [h]
theorem ret_bool {a b : Bool} (h : a = b) : Ending.returned (.bool a) = Ending.returned (.bool b) := by rw [h]
theorem ret_str {a b : List UInt8} (h : a = b) : Ending.returned (.string ⟨a.toArray⟩) = Ending.returned (.string ⟨b.toArray⟩) := by rw [h]
theorem ret_app {x y r : List UInt8} (h : x ++ y = r) : Ending.returned (.string (ByteArray.mk x.toArray ++ ByteArray.mk y.toArray)) = Ending.returned (.string ⟨r.toArray⟩) := by rw [ByteArray.mk_append_mk, h]
theorem str_app {x y r : List UInt8} (h : x ++ y = r) : Value.string (ByteArray.mk x.toArray ++ ByteArray.mk y.toArray) = Value.string ⟨r.toArray⟩ := by rw [ByteArray.mk_append_mk, h]
theorem ret_ext {l r : List UInt8} {a b : Nat} (h : (l.drop a).take (b - a) = r) : Ending.returned (.string ((ByteArray.mk l.toArray).extract a b)) = Ending.returned (.string ⟨r.toArray⟩) := by rw [ByteArray.extract_mk, h]
theorem results_tmp4 {fn : Func} {t u v x : Tmp} (h : fn.results = #[.tmp t, .tmp u, .tmp v, .tmp x]) (tmps : Array Value) (P : Program) (w : World) :
    (results fn tmps).run P w = .ok (.tuple #[tmps.getD t undef, tmps.getD u undef, tmps.getD v undef, tmps.getD x undef]) w := by simp [results, h]
theorem ret_iisb {a b c d : Int} {r s : List UInt8} {p q : Bool} (h1 : a = c) (h2 : b = d) (h3 : r = s) (h4 : p = q) :
    Ending.returned (.tuple #[.int .i64 a, .int .i64 b, .string ⟨r.toArray⟩, .bool p]) = Ending.returned (.tuple #[.int .i64 c, .int .i64 d, .string ⟨s.toArray⟩, .bool q]) := by rw [h1, h2, h3, h4]
theorem ret_iixb {a b c d : Int} {l s : List UInt8} {i j : Nat} {p q : Bool} (h1 : a = c) (h2 : b = d) (h3 : (l.drop i).take (j - i) = s) (h4 : p = q) :
    Ending.returned (.tuple #[.int .i64 a, .int .i64 b, .string ((ByteArray.mk l.toArray).extract i j), .bool p]) = Ending.returned (.tuple #[.int .i64 c, .int .i64 d, .string ⟨s.toArray⟩, .bool q]) := by rw [ByteArray.extract_mk, h1, h2, h3, h4]
theorem ret_isb {a b : Int} {v u : Value} {p q : Bool} (h1 : a = b) (h2 : v = u) (h3 : p = q) :
    Ending.returned (.tuple #[.int .i64 a, v, .bool p]) = Ending.returned (.tuple #[.int .i64 b, u, .bool q]) := by rw [h1, h2, h3]
theorem ret_iiib {a b c d x y : Int} {p q : Bool} (h1 : a = c) (h2 : b = d) (h3 : x = y) (h4 : p = q) :
    Ending.returned (.tuple #[.int .i64 a, .int .i64 b, .int .i64 x, .bool p]) = Ending.returned (.tuple #[.int .i64 c, .int .i64 d, .int .i64 y, .bool q]) := by rw [h1, h2, h3, h4]
theorem ret_ib {a b : Int} {c d : Bool} (h : a = b) (k : c = d) : Ending.returned (.tuple #[.int .i64 a, .bool c]) = Ending.returned (.tuple #[.int .i64 b, .bool d]) := by rw [h, k]

theorem ofInt_i64 (a : Nat) (ha : a < 9223372036854775808) : (BitVec.ofInt 64 (a : Int)).toNat = a := by
  rw [BitVec.ofInt_natCast, BitVec.toNat_ofNat]; exact Nat.mod_eq_of_lt (by omega)
theorem i64_and_nat (a b : Nat) (ha : a < 9223372036854775808) (hb : b < 9223372036854775808) : bits .and .i64 (a : Int) (b : Int) = ((a &&& b : Nat) : Int) := by
  have hx : a &&& b < 2 ^ 63 := Nat.and_lt_two_pow _ (by omega)
  show IntKind.i64.wrap ((BitVec.ofInt 64 (a : Int) &&& BitVec.ofInt 64 (b : Int)).toNat : Int) = _
  rw [BitVec.toNat_and, ofInt_i64 a ha, ofInt_i64 b hb, IntKind.wrap_i64]
  omega
theorem i64_xor_nat (a b : Nat) (ha : a < 9223372036854775808) (hb : b < 9223372036854775808) : bits .xor .i64 (a : Int) (b : Int) = ((a ^^^ b : Nat) : Int) := by
  have hx : a ^^^ b < 2 ^ 63 := Nat.xor_lt_two_pow (by omega) (by omega)
  show IntKind.i64.wrap ((BitVec.ofInt 64 (a : Int) ^^^ BitVec.ofInt 64 (b : Int)).toNat : Int) = _
  rw [BitVec.toNat_xor, ofInt_i64 a ha, ofInt_i64 b hb, IntKind.wrap_i64]
  omega
/-- The lowest byte. -/
theorem and_255 (n : Int) (h0 : 0 ≤ n) (h1 : n < 9223372036854775808) : bits .and .i64 n 255 = n % 256 := by
  obtain ⟨a, rfl⟩ := Int.eq_ofNat_of_zero_le h0
  rw [show (255 : Int) = ((255 : Nat) : Int) from rfl, i64_and_nat a 255 (by omega) (by omega), show (255 : Nat) = 2 ^ 8 - 1 from rfl, Nat.and_two_pow_sub_one_eq_mod]
  omega
/-- A new row of bytes, as a text. -/
theorem run_conv_new (P : Program) (w : World) (src e dst : TypeId) (hs : P.underlying src = some (.slice e)) (he : P.underlying e = some (.int .u8)) (hd : P.underlying dst = some .string) (zs : List Int) (cap : Nat) :
    (convert src dst (.slice (some ⟨w.heap.size, 0, none⟩) zs.length cap)).run P (w.alloc (.cells (zs.map (Value.int .u8)).toArray e)) =
      .ok (.string ⟨(zs.map fun n => UInt8.ofNat n.toNat).toArray⟩) (w.alloc (.cells (zs.map (Value.int .u8)).toArray e)) :=
  run_convert_bytes_arg (P := P) (w.alloc (.cells (zs.map (Value.int .u8)).toArray e)) src e hs he w.heap.size 0 zs.length cap zs rfl (fun i hi => by
    rw [World.cell?_alloc_at _ _ _ _ rfl]
    simp [hi]) dst hd

/-! ### append of one element onto a row of the call's own -/
theorem grownBy_of_alloc {W w' : World} {o : Obj} {row : Option Nat} (h : (W.alloc o).grownBy w' row) : W.grownBy w' row :=
  ⟨h.os, h.tape, h.output, Nat.le_trans (by simp) h.size, fun k hk hne => (h.block k (by simp; omega) hne).trans (Below.heap_alloc W o k hk)⟩
theorem ownBlock_slice (A : Option Addr) (n c : Nat) : Value.ownBlock (.slice A n c) = A.map (·.block) := by cases A <;> rfl
theorem below_of_own {W w' : World} {base : Nat} {e : TypeId} {size : Nat} {A : Option Addr} {n c : Nat} {xs : List Value} (h : W.ownsRow base e size (.slice A n c) n xs) (hg : W.grownBy w' (A.map (·.block))) (hB : base ≤ W.heap.size) : Below base W w' := by
  refine (Below.refl _ _).grown hg hB fun k hk => ?_
  have := h.lt k (by rw [ownBlock_slice]; exact hk)
  omega
theorem wpList_append1 {P : Program} (W : World) {ops : Array Oper} {rest : List Oper} {o : Oper} {a : Act} {Q : Exit → Act → World → Prop} (hgd : o.guard = none) (s x : Operand) (t : TypeId)
    (ho : o.op = .call { callee := .builtin .append, args := #[s, x], argTypes := #[t, t] })
    (e : TypeId) (z : Value) (size bytes : Nat) (ht : P.underlying t = some (.slice e)) (hi : (P.info? e).map (fun i => (i.zero, i.size, i.bytes)) = some (some z, size, bytes)) (hzs : z.cells.size = size) (hsz : 0 < size)
    (base : Nat) (A : Option Addr) (n c : Nat) (xs : List Value) (hs : a.eval s = .slice A n c) (hown : W.ownsRow base e size (.slice A n c) n xs) (cs : List Value) (q : Nat) (hx : a.eval x = .slice (some ⟨q, 0, none⟩) 1 1) (hq : q = W.heap.size) (hcs : cs.length = size)
    (h1 : ∀ u ∈ cs, u.oneCell' = true) (hb : (n + 1) * bytes ≤ 140737488355328) (hbase : base ≤ W.heap.size)
    (h : ∀ g c' w', w'.ownsRow base e size (.slice (some ⟨g, 0, none⟩) (n + 1) c') (n + 1) (xs ++ cs) → W.grownBy w' (A.map (·.block)) → Below base W w' → wpList P ops Q rest (a.put o.dst (.slice (some ⟨g, 0, none⟩) (n + 1) c')) w') (hby : 0 < bytes := by decide) :
    wpList P ops Q (o :: rest) a (W.alloc (.cells cs.toArray e)) := by
  subst hq
  obtain ⟨i, hi1, hz, hsize, hby'⟩ := info_parts hi
  have h63 : n + 1 ≤ maxLen := by
    have : (n + 1) * 1 ≤ (n + 1) * bytes := Nat.mul_le_mul_left _ hby
    unfold maxLen
    omega
  refine wpList_append_own (W.alloc (.cells cs.toArray e)) hgd s x t ho base e i z size bytes ht hi1 hz hsize hby' hzs hsz _ n xs hs (hown.alloc _) ⟨W.heap.size, 0, none⟩ 1 1 cs hx (by omega) ?_ h1 h63 hb (by simp; omega) ?_
  · intro j u hj
    rw [Addr.add_lit, World.cell?_alloc_at _ _ _ _ rfl]
    simpa using hj
  · intro v' w' hown' hg _
    rw [ownBlock_slice] at hg
    have hg' := grownBy_of_alloc hg
    rcases hown'.2 with ⟨_, h0⟩ | ⟨g, cap, cur, rfl, _, _, hc, _, _, _⟩
    · omega
    · exact h g cap w' hown' hg' (below_of_own hown hg' hbase)

/-- A row of bytes of the call's own, as a text. -/
theorem run_conv_own (P : Program) (w : World) (src e dst : TypeId) (hs : P.underlying src = some (.slice e)) (he : P.underlying e = some (.int .u8)) (hd : P.underlying dst = some .string) {base : Nat} {g n c : Nat} (zs : List Int)
    (h : w.ownsRow base e 1 (.slice (some ⟨g, 0, none⟩) n c) n (zs.map (Value.int .u8))) :
    (convert src dst (.slice (some ⟨g, 0, none⟩) n c)).run P w = .ok (.string ⟨(zs.map fun n => UInt8.ofNat n.toNat).toArray⟩) w :=
  run_convert_bytes_arg (P := P) w src e hs he g 0 n c zs (by simpa using h.1) (fun i hi => by
    have hl : zs.length = n := by simpa using h.1
    rw [Nat.zero_add, h.cellAt i (by omega)]
    simp [show i < zs.length by omega]) dst hd

end Go.Proofs.Ytpnejmlbfadaaaa
