/- Plain facts on lists of bytes, words and the check, with no program in sight: what a text is as a list of bytes; the words of one to three bytes; the check is one-to-one in its state and in each byte. No condition. -/
namespace Go.Proofs.Ytpnejmlbfadaaaa

/-- A number as one byte. -/
def by1 (n : Int) : UInt8 := UInt8.ofNat n.toNat
/-- The words of one, two and three bytes. -/
def pw1 (n : Int) : List UInt8 := [by1 n]
def pw2 (n : Int) : List UInt8 := [by1 (n / 256), by1 (n % 256)]
def pw3 (n : Int) : List UInt8 := [by1 (n / 65536), by1 (n / 256 % 256), by1 (n % 256)]
/-- The word of one, two or three bytes. -/
def pwS (n size : Int) : List UInt8 := if size = 1 then pw1 n else if size = 2 then pw2 n else pw3 n
theorem pwS_1 (n : Int) : pwS n 1 = pw1 n := rfl
theorem pwS_2 (n : Int) : pwS n 2 = pw2 n := rfl
theorem pwS_3 (n : Int) : pwS n 3 = pw3 n := rfl
theorem pw1_len (n : Int) : (pw1 n).length = 1 := rfl
theorem pw2_len (n : Int) : (pw2 n).length = 2 := rfl
theorem pw3_len (n : Int) : (pw3 n).length = 3 := rfl
/-- A byte as a number, and the values of words. -/
def num (b : UInt8) : Int := (b.toNat : Int)

theorem num_lo (b : UInt8) : 0 ≤ num b := by unfold num; omega
theorem num_hi (b : UInt8) : num b ≤ 255 := by unfold num; have := b.toNat_lt; omega
theorem num_by1 (n : Int) (h0 : 0 ≤ n) (h1 : n ≤ 255) : num (by1 n) = n := by
  unfold num by1
  rw [UInt8.toNat_ofNat']
  omega
theorem by1_num (b : UInt8) : by1 (num b) = b := by
  unfold num by1
  simp
theorem num_inj {a b : UInt8} (h : num a = num b) : a = b := by rw [← by1_num a, h, by1_num]

/-- A byte of a text, by its place. -/
def nth (l : List UInt8) (i : Int) : Int := num (l.getD i.toNat 0)
theorem nth_lo (l : List UInt8) (i : Int) : 0 ≤ nth l i := num_lo _
theorem nth_hi (l : List UInt8) (i : Int) : nth l i ≤ 255 := num_hi _
theorem nth_max (l : List UInt8) (i : Int) : nth l (max i 0) = nth l i := by
  unfold nth
  rw [show (max i 0).toNat = i.toNat from by omega]
theorem nth_of_lt (l : List UInt8) (i : Nat) (h : i < l.length) : nth l (i : Int) = num l[i] := by
  unfold nth
  simp [h]
theorem nth_cons_zero (b : UInt8) (l : List UInt8) : nth (b :: l) 0 = num b := rfl

theorem take_same (xs : List UInt8) (m n : Nat) (h : m = n ∨ (xs.length ≤ m ∧ xs.length ≤ n)) : xs.take m = xs.take n := by
  rcases h with rfl | ⟨h1, h2⟩
  · rfl
  · rw [List.take_of_length_le h1, List.take_of_length_le h2]

/-! ### The check -/
def crcStep (x : Nat) : Nat := if 32768 ≤ x then (2 * x % 65536) ^^^ 4129 else 2 * x
def crcN : Nat → Nat → Nat
  | 0, x => x
  | k + 1, x => crcStep (crcN k x)
def crcByte (x : Nat) (b : UInt8) : Nat := crcN 8 (x ^^^ (256 * b.toNat))
def crcOf (l : List UInt8) : Nat := l.foldl crcByte 65535

theorem crcStep_lt {x : Nat} (h : x < 65536) : crcStep x < 65536 := by
  unfold crcStep
  split
  · exact Nat.xor_lt_two_pow (n := 16) (by omega) (by omega)
  · omega
theorem crcN_lt {x : Nat} (h : x < 65536) : ∀ k, crcN k x < 65536
  | 0 => h
  | k + 1 => crcStep_lt (crcN_lt h k)
theorem xor_byte_lt {x : Nat} (h : x < 65536) (b : UInt8) : x ^^^ (256 * b.toNat) < 65536 :=
  Nat.xor_lt_two_pow (n := 16) h (by have := b.toNat_lt; omega)
theorem crcByte_lt {x : Nat} (h : x < 65536) (b : UInt8) : crcByte x b < 65536 := crcN_lt (xor_byte_lt h b) 8
theorem crcFold_lt (l : List UInt8) : ∀ {x : Nat}, x < 65536 → l.foldl crcByte x < 65536 := by
  induction l with
  | nil => intro x h; exact h
  | cons b l ih =>
    intro x h
    have h1 := crcByte_lt h b
    rw [List.foldl_cons]
    generalize crcByte x b = y at h1 ⊢
    exact ih h1
theorem start_lt : (65535 : Nat) < 65536 := by omega
theorem crcOf_lt (l : List UInt8) : crcOf l < 65536 := by
  unfold crcOf
  exact crcFold_lt l start_lt

theorem xor_cancel {a b c : Nat} (h : a ^^^ c = b ^^^ c) : a = b := by
  have h2 : (a ^^^ c) ^^^ c = (b ^^^ c) ^^^ c := by rw [h]
  rw [Nat.xor_assoc, Nat.xor_assoc, Nat.xor_self, Nat.xor_zero, Nat.xor_zero] at h2
  exact h2
theorem xor_cancel_left {a b c : Nat} (h : c ^^^ a = c ^^^ b) : a = b := by
  rw [Nat.xor_comm c a, Nat.xor_comm c b] at h
  exact xor_cancel h
theorem xor_odd (x : Nat) : ((2 * x) ^^^ 4129) % 2 = 1 := by
  have h : ((2 * x) ^^^ 4129).testBit 0 = true := by
    rw [Nat.testBit_xor]
    have h1 : (2 * x).testBit 0 = false := by rw [Nat.testBit_zero]; simp
    rw [h1]
    decide
  rw [Nat.testBit_zero] at h
  exact of_decide_eq_true h
theorem crcStep_inj {x y : Nat} (hx : x < 65536) (hy : y < 65536) (h : crcStep x = crcStep y) : x = y := by
  unfold crcStep at h
  have e : ∀ z, 2 * z % 65536 = 2 * (z % 32768) := by intro z; omega
  rw [e x, e y] at h
  split at h <;> split at h
  · have := xor_cancel h; omega
  · have := xor_odd (x % 32768); omega
  · have := xor_odd (y % 32768); omega
  · omega
theorem crcN_inj {x y : Nat} (hx : x < 65536) (hy : y < 65536) : ∀ k, crcN k x = crcN k y → x = y
  | 0, h => h
  | k + 1, h => crcN_inj hx hy k (crcStep_inj (crcN_lt hx k) (crcN_lt hy k) h)
theorem crcByte_inj {x y : Nat} (hx : x < 65536) (hy : y < 65536) (b : UInt8) (h : crcByte x b = crcByte y b) : x = y :=
  xor_cancel (crcN_inj (xor_byte_lt hx b) (xor_byte_lt hy b) 8 h)
theorem crcByte_inj_byte {x : Nat} (hx : x < 65536) {a b : UInt8} (h : crcByte x a = crcByte x b) : a = b := by
  have h1 := crcN_inj (xor_byte_lt hx a) (xor_byte_lt hx b) 8 h
  have h2 := xor_cancel_left h1
  exact UInt8.toNat_inj.1 (by omega)
theorem crcFold_inj (l : List UInt8) : ∀ {x y : Nat}, x < 65536 → y < 65536 → l.foldl crcByte x = l.foldl crcByte y → x = y := by
  induction l with
  | nil => intro x y _ _ h; exact h
  | cons b l ih =>
    intro x y hx hy h
    have h1 := crcByte_lt hx b
    have h2 := crcByte_lt hy b
    have h3 := crcByte_inj hx hy b
    rw [List.foldl_cons, List.foldl_cons] at h
    generalize crcByte x b = x' at h h1 h3
    generalize crcByte y b = y' at h h2 h3
    exact h3 (ih h1 h2 h)
/-- Two texts that differ in one byte have different checks. -/
theorem crcOf_set {l : List UInt8} {k : Nat} {b : UInt8} (hk : k < l.length) (hb : l[k] ≠ b) : crcOf (l.set k b) ≠ crcOf l := by
  intro h
  have e1 : l.set k b = l.take k ++ b :: l.drop (k + 1) := by rw [List.set_eq_take_append_cons_drop, if_pos hk]
  have e2 : l = l.take k ++ l[k] :: l.drop (k + 1) := by
    rw [List.getElem_cons_drop, List.take_append_drop]
  unfold crcOf at h
  rw [e1] at h
  conv at h => rhs; rw [e2]
  rw [List.foldl_append, List.foldl_append, List.foldl_cons, List.foldl_cons] at h
  have hlt : List.foldl crcByte 65535 (l.take k) < 65536 := crcFold_lt _ start_lt
  have h1 := crcFold_inj _ (crcByte_lt hlt _) (crcByte_lt hlt _) h
  exact hb (crcByte_inj_byte hlt h1).symm

/-- The check behind the first k bytes. -/
def crcTo (l : List UInt8) (k : Nat) : Nat := (l.take k).foldl crcByte 65535
theorem crcTo_lt (l : List UInt8) (k : Nat) : crcTo l k < 65536 := by
  unfold crcTo
  exact crcFold_lt _ start_lt
theorem crcTo_succ (l : List UInt8) (k : Nat) (h : k < l.length) : crcTo l (k + 1) = crcByte (crcTo l k) l[k] := by
  unfold crcTo
  rw [List.take_succ_eq_append_getElem h, List.foldl_append, List.foldl_cons, List.foldl_nil]
theorem crcTo_all (l : List UInt8) : crcTo l l.length = crcOf l := by
  unfold crcTo crcOf
  rw [List.take_length]

/-! ### Sealed texts -/
def sealT (l : List UInt8) : List UInt8 := l ++ pw2 (crcOf l)
theorem sealT_length (l : List UInt8) : (sealT l).length = l.length + 2 := by simp [sealT, pw2]
theorem sealT_take (l : List UInt8) : (sealT l).take (l.length) = l := by simp [sealT]
theorem pw2_inj {a b : Int} (ha : 0 ≤ a) (ha' : a < 65536) (hb : 0 ≤ b) (hb' : b < 65536) (h : pw2 a = pw2 b) : a = b := by
  simp only [pw2, List.cons.injEq, and_true] at h
  have h1 := congrArg num h.1
  have h2 := congrArg num h.2
  rw [num_by1 _ (by omega) (by omega), num_by1 _ (by omega) (by omega)] at h1 h2
  omega
/-- A sealed text with one byte changed is no sealed text. -/
theorem sealT_set {l t : List UInt8} {k : Nat} {b : UInt8} (hk : k < (sealT l).length) (hb : (sealT l)[k] ≠ b) : sealT t ≠ (sealT l).set k b := by
  intro h
  have hlen : t.length = l.length := by
    have := congrArg List.length h
    rw [List.length_set, sealT_length, sealT_length] at this
    omega
  have hsplit : ∀ u : List UInt8, u.length = l.length → sealT u = (sealT l).set k b → u = ((sealT l).set k b).take l.length ∧ pw2 (crcOf u) = ((sealT l).set k b).drop l.length := by
    intro u hu e
    rw [← e, ← hu]
    simp [sealT]
  obtain ⟨h1, h2⟩ := hsplit t hlen h
  by_cases hkl : k < l.length
  · have e1 : ((sealT l).set k b).take l.length = l.set k b := by
      unfold sealT
      rw [List.set_append_left _ _ hkl]
      have : (l.set k b).length = l.length := List.length_set
      rw [List.take_append_of_le_length (by omega), ← this, List.take_length]
    have e2 : ((sealT l).set k b).drop l.length = pw2 (crcOf l) := by
      unfold sealT
      rw [List.set_append_left _ _ hkl]
      have : (l.set k b).length = l.length := List.length_set
      rw [← this, List.drop_left]
    rw [e1] at h1
    rw [e2] at h2
    have h3 := pw2_inj (by omega) (by have := crcOf_lt t; omega) (by omega) (by have := crcOf_lt l; omega) h2
    have hne : l[k] ≠ b := by
      intro e
      apply hb
      rw [← e]
      simp [sealT, List.getElem_append_left hkl]
    exact crcOf_set hkl hne (by rw [← h1]; omega)
  · have e1 : ((sealT l).set k b).take l.length = l := by
      unfold sealT
      rw [List.set_append_right _ _ (by omega), List.take_left]
    have e2 : ((sealT l).set k b).drop l.length = (pw2 (crcOf l)).set (k - l.length) b := by
      unfold sealT
      rw [List.set_append_right _ _ (by omega), List.drop_left]
    rw [e1] at h1
    rw [e2, h1] at h2
    have hk2 : k - l.length < (pw2 (crcOf l)).length := by rw [sealT_length] at hk; rw [pw2_len]; omega
    apply hb
    have h3 : (pw2 (crcOf l))[k - l.length] = b := by
      have := congrArg (fun (z : List UInt8) => z[k - l.length]?) h2
      simp only [List.getElem?_set_self hk2, List.getElem?_eq_getElem hk2] at this
      exact Option.some.inj this
    rw [← h3]
    simp only [sealT]
    rw [List.getElem_append_right (by omega)]

end Go.Proofs.Ytpnejmlbfadaaaa
