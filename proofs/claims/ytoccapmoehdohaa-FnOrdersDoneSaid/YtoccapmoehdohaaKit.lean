/- Small laws that the walks use: bits of numbers that are not negative; a new row of bytes turned into a text. No condition. -/
import Derived.Test.YtoccapmoehdohaaRows
import Derived.Test.YtoccapmoehdohaaPlain
import Derived.WalkKit
import Derived.WalkSpells
import Derived.WalkLawsBesides
import Derived.Laws.BytesArg
import Derived.Lib.Hide
import Derived.Deep.Draws
import Derived.BigQuiet
import Derived.Deep.RegionHeld3
import Derived.Deep.QuietTactic
namespace Go.Proofs.Ytoccapmoehdohaa
open Go.RowKit
@[go_sem] theorem byte_nth (l : List UInt8) (i : Nat) (h : i < (ByteArray.mk l.toArray).size) : ((((ByteArray.mk l.toArray)[i]'h).toNat : Nat) : Int) = nth l (i : Int):=by
 have h' : i < l.length:=by simpa [ByteArray.size] using h
 rw [nth_of_lt l i h'];unfold num
 congr 1
attribute [go_sem] ByteArray.extract_mk nth_max pwS_1 pwS_2 pwS_3 pw1_len pw2_len pw3_len
@[go_sem] theorem wrap_nth (l : List UInt8) (i : Int) : IntKind.i64.wrap (nth l i) = nth l i:=by
 have h0:=nth_lo l i;have h1:=nth_hi l i;rw [IntKind.wrap_i64];omega
@[go_sem] theorem wrap64_nth (l : List UInt8) (i : Int) : wrap64 (nth l i) = nth l i:=by
 have h0:=nth_lo l i;have h1:=nth_hi l i;exact IntWalk.wrap64_in _ ⟨by omega,by omega⟩
theorem Eg {a w w' : World} (h : Below a.heap.size a w) (k : Below w.heap.size w w') : Below a.heap.size a w':=h.trans (k.mono h.size)
@[go_sem] theorem drop_all (l : List UInt8) (k : Nat) : (l.drop k).take (l.length - k) = l.drop k:=List.take_of_length_le (by simp)
theorem ret_int {a b : Int} (h : a = b) : Ending.returned (.int .i64 a) = Ending.returned (.int .i64 b):=by rw [h]
theorem Cz {a b : Bool} (h : a = b) : Ending.returned (.bool a) = Ending.returned (.bool b):=by rw [h]
theorem ofInt_i64 (a : Nat) (ha : a < 9223372036854775808) : (BitVec.ofInt 64 (a : Int)).toNat = a:=by
 rw [BitVec.ofInt_natCast,BitVec.toNat_ofNat]; exact Nat.mod_eq_of_lt (by omega)
theorem i64_and_nat (a b : Nat) (ha : a < 9223372036854775808) (hb : b < 9223372036854775808) : bits .and .i64 (a : Int) (b : Int) = ((a &&& b : Nat) : Int):=by
 have hx : a &&& b < 2 ^ 63:=Nat.and_lt_two_pow _ (by omega);show IntKind.i64.wrap ((BitVec.ofInt 64 (a : Int) &&& BitVec.ofInt 64 (b : Int)).toNat : Int) = _;rw [BitVec.toNat_and,ofInt_i64 a ha,ofInt_i64 b hb,IntKind.wrap_i64];omega
theorem and_255 (n : Int) (h0 : 0 ≤ n) (h1 : n < 9223372036854775808) : bits .and .i64 n 255 = n % 256:=by
 obtain ⟨a,rfl⟩:=Int.eq_ofNat_of_zero_le h0;rw [show (255 : Int) = ((255 : Nat) : Int) from rfl,i64_and_nat a 255 (by omega) (by omega),show (255 : Nat) = 2 ^ 8 - 1 from rfl,Nat.and_two_pow_sub_one_eq_mod];omega
theorem run_conv_new (P : Program) (w : World) (src e dst : TypeId) (hs : P.underlying src = some (.slice e)) (he : P.underlying e = some (.int .u8)) (hd : P.underlying dst = some .string) (zs : List Int) (cap : Nat) :
  (convert src dst (.slice (some ⟨w.heap.size,0,none⟩) zs.length cap)).run P (w.alloc (.cells (zs.map (Value.int .u8)).toArray e)) =
   .ok (.string ⟨(zs.map fun n=>UInt8.ofNat n.toNat).toArray⟩) (w.alloc (.cells (zs.map (Value.int .u8)).toArray e)) :=
 run_convert_bytes_arg (P:=P) (w.alloc (.cells (zs.map (Value.int .u8)).toArray e)) src e hs he w.heap.size 0 zs.length cap zs rfl (fun i hi=>by
  rw [World.cell?_alloc_at _ _ _ _ rfl];simp [hi]) dst hd
theorem grownBy_of_alloc {W w' : World} {o : Obj} {row : Option Nat} (h : (W.alloc o).grownBy w' row) : W.grownBy w' row :=
 ⟨h.os,h.tape,h.output,Nat.le_trans (by simp) h.size,fun k hk hne=>(h.block k (by simp; omega) hne).trans (Below.heap_alloc W o k hk)⟩
theorem Eb (A : Option Addr) (n c : Nat) : Value.ownBlock (.slice A n c) = A.map (·.block):=by cases A <;> rfl
theorem below_of_own {W w' : World} {base : Nat} {e : TypeId} {size : Nat} {A : Option Addr} {n c : Nat} {xs : List Value} (h : W.ownsRow base e size (.slice A n c) n xs) (hg : W.grownBy w' (A.map (·.block))) (hB : base ≤ W.heap.size) : Below base W w':=by
 refine (Below.refl _ _).grown hg hB fun k hk=>?_;have:=h.lt k (by rw [Eb]; exact hk);omega
theorem wpList_append1 {P : Program} (W : World) {ops : Array Oper} {rest : List Oper} {o : Oper} {a : Act} {Q : Exit → Act → World → Prop} (hgd : o.guard = none) (s x : Operand) (t : TypeId)
  (ho : o.op = .call { callee:=.builtin .append,args:=#[s,x],argTypes:=#[t,t] })
  (e : TypeId) (z : Value) (size bytes : Nat) (ht : P.underlying t = some (.slice e)) (hi : (P.info? e).map (fun i=>(i.zero,i.size,i.bytes)) = some (some z,size,bytes)) (hzs : z.cells.size = size) (hsz : 0 < size)
  (base : Nat) (A : Option Addr) (n c : Nat) (xs : List Value) (hs : a.eval s = .slice A n c) (hown : W.ownsRow base e size (.slice A n c) n xs) (cs : List Value) (q : Nat) (hx : a.eval x = .slice (some ⟨q,0,none⟩) 1 1) (hq : q = W.heap.size) (hcs : cs.length = size)
  (h1 : ∀ u ∈ cs,u.oneCell' = true) (hb : (n + 1) * bytes ≤ 140737488355328) (hbase : base ≤ W.heap.size)
  (h : ∀ g c' w',w'.ownsRow base e size (.slice (some ⟨g,0,none⟩) (n + 1) c') (n + 1) (xs ++ cs) → W.grownBy w' (A.map (·.block)) → Below base W w' → wpList P ops Q rest (a.put o.dst (.slice (some ⟨g,0,none⟩) (n + 1) c')) w') (hby : 0 < bytes:=by decide) :
  wpList P ops Q (o :: rest) a (W.alloc (.cells cs.toArray e)):=by
 subst hq;obtain ⟨i,hi1,hz,hsize,hby'⟩:=info_parts hi;have h63 : n + 1 ≤ maxLen:=by
  have : (n + 1) * 1 ≤ (n + 1) * bytes:=Nat.mul_le_mul_left _ hby;unfold maxLen;omega
 refine wpList_append_own (W.alloc (.cells cs.toArray e)) hgd s x t ho base e i z size bytes ht hi1 hz hsize hby' hzs hsz _ n xs hs (hown.alloc _) ⟨W.heap.size,0,none⟩ 1 1 cs hx (by omega) ?_ h1 h63 hb (by simp; omega) ?_
 ·intro j u hj;rw [Addr.add_lit,World.cell?_alloc_at _ _ _ _ rfl]
  simpa using hj
 ·intro v' w' hown' hg _;rw [Eb] at hg;have hg':=grownBy_of_alloc hg;rcases hown'.2 with ⟨_,h0⟩ | ⟨g,cap,cur,rfl,_,_,hc,_,_,_⟩
  ·omega
  ·exact h g cap w' hown' hg' (below_of_own hown hg' hbase)
end Go.Proofs.Ytoccapmoehdohaa
