/- Plain facts on lists of bytes, words and the check, with no program in sight: what a text is as a list of bytes; the words of one to three bytes; the check is one-to-one in its state and in each byte. No condition. -/
namespace Go.Proofs.Ytoccapmoehdohaa
def by1 (n : Int) : UInt8:=UInt8.ofNat n.toNat
def pw1 (n : Int) : List UInt8:=[by1 n]
def pw2 (n : Int) : List UInt8:=[by1 (n / 256),by1 (n % 256)]
def pw3 (n : Int) : List UInt8:=[by1 (n / 65536),by1 (n / 256 % 256),by1 (n % 256)]
def pwS (n size : Int) : List UInt8:=if size = 1 then pw1 n else if size = 2 then pw2 n else pw3 n
theorem pwS_1 (n : Int) : pwS n 1 = pw1 n:=rfl
theorem pwS_2 (n : Int) : pwS n 2 = pw2 n:=rfl
theorem pwS_3 (n : Int) : pwS n 3 = pw3 n:=rfl
theorem pw1_len (n : Int) : (pw1 n).length = 1:=rfl
theorem pw2_len (n : Int) : (pw2 n).length = 2:=rfl
theorem pw3_len (n : Int) : (pw3 n).length = 3:=rfl
def num (b : UInt8) : Int:=(b.toNat : Int)
theorem num_lo (b : UInt8) : 0 ≤ num b:=by unfold num; omega
theorem num_hi (b : UInt8) : num b ≤ 255:=by unfold num; have:=b.toNat_lt; omega
theorem num_by1 (n : Int) (h0 : 0 ≤ n) (h1 : n ≤ 255) : num (by1 n) = n:=by
 unfold num by1;rw [UInt8.toNat_ofNat'];omega
def nth (l : List UInt8) (i : Int) : Int:=num (l.getD i.toNat 0)
theorem nth_lo (l : List UInt8) (i : Int) : 0 ≤ nth l i:=num_lo _
theorem nth_hi (l : List UInt8) (i : Int) : nth l i ≤ 255:=num_hi _
theorem nth_max (l : List UInt8) (i : Int) : nth l (max i 0) = nth l i:=by
 unfold nth;rw [show (max i 0).toNat = i.toNat from by omega]
theorem nth_of_lt (l : List UInt8) (i : Nat) (h : i < l.length) : nth l (i : Int) = num l[i]:=by
 unfold nth;simp [h]
end Go.Proofs.Ytoccapmoehdohaa
