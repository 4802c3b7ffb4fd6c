/- Contracts at a place of the stream of packets; laws of steps for the walks of frames. No condition. -/
import Derived.Test.YtmcgmiapbdoocaaFrmTake
import Derived.Test.YtmcgmiapbdoocaaFrmPushs
import Derived.Test.YtmcgmiapbdoocaaFrmCode
import Derived.Test.YtmcgmiapbdoocaaFrmEnd
import Derived.Test.YtmcgmiapbdoocaaDrawPkt
import Derived.Test.YtmcgmiapbdoocaaTurn
import Derived.Test.YtmcgmiapbdoocaaAt
import Derived.Laws.StructEq
namespace Go.Proofs.Ytmcgmiapbdoocaa
open Go.RowKit

def atN (zs : List UInt8) (k : Nat) : Nat := (atV zs ((k : Nat) : Int)).toNat
theorem atN_le (zs : List UInt8) (k : Nat) : atN zs k ≤ 255 := by
  have := atV_hi zs k
  have := atV_lo zs k
  unfold atN
  omega
theorem at_nat {w : World} {A : Option Addr} {n c : Nat} {zs : List UInt8} (hlen : zs.length = n) (hnc : n ≤ c) (hcm : c ≤ maxLen) (hrd : Rd w 1 A n (zs.flatMap cB)) (k : Nat) (hk : k ≤ 1000000000) :
    Calls Try.prog 12 #[.slice A n c, .int .i64 ((k : Nat) : Int)] w fun e w' => e = .returned (.int .i64 ((atN zs k : Nat) : Int)) ∧ w = w' :=
  (at_any A n c zs hlen hnc hcm hrd k (by omega) (by omega)).mono fun _ _ ⟨he, hw⟩ => ⟨by
    have := atV_lo zs k
    rw [he]
    unfold atN
    rw [Int.toNat_of_nonneg this], hw⟩

/-! ### Steps -/
theorem g_quo {P : Program} {o : Oper} {ρ : Operand → Value} {w : World} {K : Value → World → Prop} {x y : Operand} {T T' : TypeId} {m n : Int} {N M : Nat} (ho : o.op = .binOp .quo T x y T') (hx : ρ x = .int .i64 m) (hy : ρ y = .int .i64 n) (hm : m = (N : Int)) (hn : n = (M : Int)) (h0 : 0 < M) (hM : N ≤ 9223372036854775807) (h : K (.int .i64 ((N / M : Nat) : Int)) w) : goesR P o ρ w K := by
  subst hm hn
  unfold goesR execOp
  simp only [ho]
  have hl : N / M ≤ N := Nat.div_le_self _ _
  have e : (N : Int).tdiv (M : Int) = ((N / M : Nat) : Int) := by rw [Int.tdiv_eq_ediv_of_nonneg (by omega)]; rfl
  have hw : IntKind.i64.wrap ((N / M : Nat) : Int) = ((N / M : Nat) : Int) := by
    generalize N / M = q at hl ⊢
    exact IntWalk.i64_in _ (by omega)
  have hne : ¬ ((M : Int) = 0) := by omega
  go_simp
  simp_all
theorem eqFrameV (a b c : Int) (s : ByteArray) (w : World) : (Op.equalIn 10000 40 (.agg #[.int .i64 a, .int .i64 b, .int .i64 c, .string s]) (.agg #[.int .i64 a, .int .i64 b, .int .i64 c, .string s])).run Try.prog w = .ok true w := by
  have u3 := Try.underlying3
  have a3 := Try.isAgg3
  have z3 := Try.sizeOf3
  have u9 := Try.underlying9
  have a9 := Try.isAgg9
  have z9 := Try.sizeOf9
  have hS : Try.prog.underlying 40 = some (.struct (Try.prog.fieldsOf 40)) := by kernel_rfl
  have hp : Try.prog.stoodInHeld 40 = false := by kernel_rfl
  rw [show (10000 : Nat) = 9999 + 1 from rfl, run_equalIn_agg w 9999 40 _ _ hS hp]
  simp only [Program.fieldsOf, Try.underlying40]
  go_simp
theorem g_eqlF {o : Oper} {ρ : Operand → Value} {w : World} {K : Value → World → Prop} {x y : Operand} {T' : TypeId} {a b c : Int} {s : ByteArray} {u : Value} (ho : o.op = .binOp .eql 40 x y T') (hx : ρ x = .agg #[.int .i64 a, .int .i64 b, .int .i64 c, .string s]) (hy : ρ y = u) (hu : u = .agg #[.int .i64 a, .int .i64 b, .int .i64 c, .string s]) (h : K (.bool true) w) : goesR Try.prog o ρ w K := by
  subst hu
  have hm : Try.prog.eqGuardType Try.prog.depth 40 = false := by kernel_rfl
  unfold goesR execOp
  simp only [ho]
  have he := fun w => eqFrameV a b c s w
  have hg := fun w => run_eqGuard_agg (P := Try.prog) w .eql 40 x y #[.int .i64 a, .int .i64 b, .int .i64 c, .string s] #[.int .i64 a, .int .i64 b, .int .i64 c, .string s] hm
  go_simp
  simpa [he, hg] using h
theorem eqPacketV (a b : Int) (s : ByteArray) (w : World) : (Op.equalIn 10000 32 (.agg #[.int .i64 a, .int .i64 b, .string s]) (.agg #[.int .i64 a, .int .i64 b, .string s])).run Try.prog w = .ok true w := by
  have u3 := Try.underlying3
  have a3 := Try.isAgg3
  have z3 := Try.sizeOf3
  have u9 := Try.underlying9
  have a9 := Try.isAgg9
  have z9 := Try.sizeOf9
  have hS : Try.prog.underlying 32 = some (.struct (Try.prog.fieldsOf 32)) := by kernel_rfl
  have hp : Try.prog.stoodInHeld 32 = false := by kernel_rfl
  rw [show (10000 : Nat) = 9999 + 1 from rfl, run_equalIn_agg w 9999 32 _ _ hS hp]
  simp only [Program.fieldsOf, Try.underlying32]
  go_simp
theorem g_neqP {o : Oper} {ρ : Operand → Value} {w : World} {K : Value → World → Prop} {x y : Operand} {T' : TypeId} {a b : Int} {s : ByteArray} {u : Value} (ho : o.op = .binOp .neq 32 x y T') (hx : ρ x = .agg #[.int .i64 a, .int .i64 b, .string s]) (hy : ρ y = u) (hu : u = .agg #[.int .i64 a, .int .i64 b, .string s]) (h : K (.bool false) w) : goesR Try.prog o ρ w K := by
  subst hu
  have hm : Try.prog.eqGuardType Try.prog.depth 32 = false := by kernel_rfl
  unfold goesR execOp
  simp only [ho]
  have he := fun w => eqPacketV a b s w
  have hg := fun w => run_eqGuard_agg (P := Try.prog) w .neq 32 x y #[.int .i64 a, .int .i64 b, .string s] #[.int .i64 a, .int .i64 b, .string s] hm
  go_simp
  simpa [he, hg] using h
def cT (b : Bool) : List Value := [.bool b]
theorem cT_len (b : Bool) : (cT b).length = 1 := rfl
theorem flatT_one (zs : List Bool) : ∀ u ∈ zs.flatMap cT, u.oneCell' = true := by
  intro u hu
  obtain ⟨r, _, hr⟩ := List.mem_flatMap.1 hu
  simp only [cT, List.mem_cons, List.not_mem_nil, or_false] at hr
  rcases hr with rfl
  rfl

/-! ### Places -/
theorem relD_le (n : Nat) (l : List Nat) : (relD n l).length ≤ l.length := by
  unfold relD
  rw [List.length_map]
  exact List.length_filter_le _ _
theorem stN_length : ∀ (A : List EPacket) (s : Nat), (stN s A).length = A.length
  | [], _ => rfl
  | y :: A, s => by simp only [stN, List.length_cons]; rw [stN_length A]
theorem dsAt_len (P : List EPacket) (n : Nat) : (dsAt P n).length ≤ P.length := by
  have := relD_le n (stN 0 P)
  rw [stN_length] at this
  exact this
theorem flatP_len4 : ∀ (P : List EPacket), 4 * P.length ≤ (flatP P).length
  | [] => by simp
  | y :: P => by
    have := flatP_len4 P
    have := pkB_len y
    rw [flatP_cons, List.length_append, List.length_cons]
    omega
theorem packPacket_at {P P' : List EPacket} {n : Nat} {ct : Int} {x : EPacket} {B : Option Addr} {m dp : Nat} {w : World} (hx : pkOk x = true) (hn : n ≤ (flatP P).length) (hb : (flatP P).length + 44 ≤ n + 5000) (hc : 0 ≤ ct ∧ ct ≤ 255) (hP : P.length ≤ 1048576) (hP' : P ++ [x] = P')
    (hm : (dsAt P n).length = m) (hnn_d : B = none → m = 0 ∧ dp = 0) (hr_d : Rd w 1 B m ((dsAt P n).flatMap cI)) :
    Calls Try.prog 9 #[.agg #[.int .i64 0, .int .i64 ct, .string ⟨((flatP P).drop n).toArray⟩, .slice B m dp], .agg #[.int .i64 x.f0, .int .i64 x.f1, .string ⟨(x.f2).toArray⟩]] w fun e w' => ∃ (A : Option Addr) (c : Nat), e = .returned (.tuple #[.agg #[.int .i64 0, .int .i64 ct, .string ⟨((flatP P').drop n).toArray⟩, .slice A (dsAt P' n).length c], .bool true]) ∧ w'.ownsRow w.heap.size 3 1 (.slice A (dsAt P' n).length c) (dsAt P' n).length ((dsAt P' n).flatMap cI) ∧ Below w.heap.size w w' := by
  subst hP'
  have hl := dsAt_len P n
  have hx2 := (pkOk_parts hx).2.2
  refine (packPacket_any 0 ct ((flatP P).drop n) B m dp (dsAt P n) x w (by rw [List.length_drop]; omega) hm (by omega) hnn_d hr_d (by unfold Txt; omega)).mono fun e w' ⟨v, he, ⟨p, hv, hp⟩, hb'⟩ => ?_
  rw [pack_at hx hn hb hc] at hv hp
  obtain ⟨A, k, c, rfl, hk, ho⟩ := hp
  simp only at hk ho
  subst hk
  exact ⟨A, c, by rw [he, hv], ho, hb'⟩
theorem fillPacker_at {P : List EPacket} {n : Nat} {ct : Int} {B : Option Addr} {m dp : Nat} {w : World} (hn : n ≤ (flatP P).length) (hb : (flatP P).length + 44 ≤ n + 5000) (hc : 0 ≤ ct ∧ ct ≤ 255) (hP : P.length ≤ 1048576)
    (hm : (dsAt P n).length = m) (hnn_d : B = none → m = 0 ∧ dp = 0) (hr_d : Rd w 1 B m ((dsAt P n).flatMap cI)) :
    Calls Try.prog 11 #[.agg #[.int .i64 0, .int .i64 ct, .string ⟨((flatP P).drop n).toArray⟩, .slice B m dp]] w fun e w' => ∃ (I : List EPacket) (A : Option Addr) (c : Nat), e = .returned (.agg #[.int .i64 0, .int .i64 ct, .string ⟨((flatP (P ++ I)).drop n).toArray⟩, .slice A (dsAt (P ++ I) n).length c]) ∧ w'.ownsRow w.heap.size 3 1 (.slice A (dsAt (P ++ I) n).length c) (dsAt (P ++ I) n).length ((dsAt (P ++ I) n).flatMap cI) ∧
      (∀ x ∈ I, pkOk x = true ∧ x.f0 = 15) ∧ ((flatP (P ++ I)).length - n) % 24 = 0 ∧ (flatP (P ++ I)).length ≤ (flatP P).length + 27 ∧ Below w.heap.size w w' := by
  have hl := dsAt_len P n
  obtain ⟨I, h1, h2, h3, h4⟩ := fill_at (P := P) (n := n) (ct := ct) hn hb hc
  refine (fillPacker_any 0 ct ((flatP P).drop n) B m dp (dsAt P n) w (by rw [List.length_drop]; omega) hm (by omega) hnn_d hr_d).mono fun e w' ⟨v, he, hp, hb'⟩ => ?_
  rw [h1] at hp
  obtain ⟨A, k, c, rfl, hk, ho⟩ := hp
  simp only at hk ho
  subst hk
  exact ⟨I, A, c, he, ho, h2, h3, h4, hb'⟩
theorem takeFrames_at {P : List EPacket} {c0 ct : Int} {i k : Nat} {B : Option Addr} {m dp : Nat} {w : World} (hct : ct = (c0 + (i : Int)) % 256) (h0 : 0 ≤ c0) (h1 : 24 * (i + k) ≤ (flatP P).length) (h2 : (flatP P).length < 24 * (i + k) + 24) (h3 : (flatP P).length ≤ 24 * i + 5000) (hP : P.length ≤ 1048576)
    (hm : (dsAt P (24 * i)).length = m) (hnn_d : B = none → m = 0 ∧ dp = 0) (hr_d : Rd w 1 B m ((dsAt P (24 * i)).flatMap cI)) :
    Calls Try.prog 10 #[.agg #[.int .i64 0, .int .i64 ct, .string ⟨((flatP P).drop (24 * i)).toArray⟩, .slice B m dp]] w fun e w' => ∃ (A : Option Addr) (c : Nat) (G : Option Addr) (g : Nat), e = .returned (.tuple #[.agg #[.int .i64 0, .int .i64 ((c0 + ((i + k : Nat) : Int)) % 256), .string ⟨((flatP P).drop (24 * (i + k))).toArray⟩, .slice A (dsAt P (24 * (i + k))).length c], .slice G (frs P c0 i k).length g]) ∧ w'.ownsRow w.heap.size 3 1 (.slice A (dsAt P (24 * (i + k))).length c) (dsAt P (24 * (i + k))).length ((dsAt P (24 * (i + k))).flatMap cI) ∧ w'.ownsRow w.heap.size 40 4 (.slice G (frs P c0 i k).length g) (frs P c0 i k).length ((frs P c0 i k).flatMap cFrame) ∧ Below w.heap.size w w' := by
  subst hct
  have hl := dsAt_len P (24 * i)
  refine (takeFrames_any 0 ((c0 + (i : Int)) % 256) ((flatP P).drop (24 * i)) B m dp (dsAt P (24 * i)) w (by rw [List.length_drop]; omega) hm (by omega) hnn_d hr_d).mono fun e w' ⟨A, c, G, g, he, ho, hg, hb'⟩ => ?_
  have e := takeFs_at (P := P) h0 k i h1 h2 h3
  unfold pkAt at e
  rw [e] at he ho hg
  exact ⟨A, c, G, g, he, ho, hg, hb'⟩

/-! ### Frames by number -/
theorem frs_len (P : List EPacket) (c0 : Int) : ∀ (k i : Nat), (frs P c0 i k).length = k
  | 0, _ => rfl
  | k + 1, i => by simp only [frs, List.length_cons]; rw [frs_len P c0 k]
theorem frs_at (P : List EPacket) (c0 : Int) : ∀ (k i j : Nat) (h : j < (frs P c0 i k).length), (frs P c0 i k)[j] = frAt P ((c0 + ((i + j : Nat) : Int)) % 256) (24 * (i + j))
  | 0, _, j, h => by rw [frs_len] at h; omega
  | k + 1, i, 0, h => rfl
  | k + 1, i, j + 1, h => by
    have := frs_at P c0 k (i + 1) j (by rw [frs_len] at h ⊢; omega)
    rw [show i + 1 + j = i + (j + 1) from by omega] at this
    exact this
theorem keptF_snoc (t : Nat → Bool) (P : List EPacket) (c0 : Int) : ∀ (k i : Nat), keptF t P c0 i (k + 1) = keptF t P c0 i k ++ (if t (i + k) then [frAt P ((c0 + ((i + k : Nat) : Int)) % 256) (24 * (i + k))] else [])
  | 0, i => by simp only [keptF, List.append_nil, List.nil_append, Nat.add_zero]
  | k + 1, i => by
    have := keptF_snoc t P c0 k (i + 1)
    rw [show i + 1 + k = i + (k + 1) from by omega] at this
    rw [keptF, this, keptF, List.append_assoc]
theorem keptF_le (t : Nat → Bool) (P : List EPacket) (c0 : Int) : ∀ (k i : Nat), (keptF t P c0 i k).length ≤ k
  | 0, _ => Nat.le_refl _
  | k + 1, i => by
    have := keptF_le t P c0 k (i + 1)
    rw [keptF, List.length_append]
    split <;> simp <;> omega
theorem keptF_lt (t : Nat → Bool) (P : List EPacket) (c0 : Int) : ∀ (k i : Nat), (∃ j, j < i + k ∧ i ≤ j ∧ t j = false) → (keptF t P c0 i k).length < k
  | 0, i, ⟨j, h1, h2, _⟩ => by omega
  | k + 1, i, ⟨j, h1, h2, h3⟩ => by
    rw [keptF, List.length_append]
    by_cases hj : j = i
    · subst hj
      have := keptF_le t P c0 k (j + 1)
      rw [h3]
      simp
      omega
    · have := keptF_lt t P c0 k (i + 1) ⟨j, by omega, by omega, h3⟩
      split <;> simp <;> omega
end Go.Proofs.Ytmcgmiapbdoocaa
