/- Plain law and laws of steps for frames that are taken: rows of frames and packets, remainders. No condition. -/
import Derived.Test.YtmcgmiapbdoocaaFrmWalk
namespace Go.Proofs.Ytmcgmiapbdoocaa
open Go.RowKit

theorem infoFrame : (Try.prog.info? 40).map (fun i => (i.zero, i.size, i.bytes)) = some (some (.agg #[.int .i64 0, .int .i64 0, .int .i64 0, .string ⟨#[]⟩]), 4, 40) := by kernel_rfl
theorem infoPacket : (Try.prog.info? 32).map (fun i => (i.zero, i.size, i.bytes)) = some (some (.agg #[.int .i64 0, .int .i64 0, .string ⟨#[]⟩]), 3, 32) := by kernel_rfl
theorem cFrame_len (r : EFrame) : (cFrame r).length = 4 := rfl
theorem cPacket_len (r : EPacket) : (cPacket r).length = 3 := rfl
theorem flatFrame_one (zs : List EFrame) : ∀ u ∈ zs.flatMap cFrame, u.oneCell' = true := by
  intro u hu
  obtain ⟨r, _, hr⟩ := List.mem_flatMap.1 hu
  simp only [cFrame, List.mem_cons, List.not_mem_nil, or_false] at hr
  rcases hr with rfl | rfl | rfl | rfl <;> rfl
theorem flatPacket_one (zs : List EPacket) : ∀ u ∈ zs.flatMap cPacket, u.oneCell' = true := by
  intro u hu
  obtain ⟨r, _, hr⟩ := List.mem_flatMap.1 hu
  simp only [cPacket, List.mem_cons, List.not_mem_nil, or_false] at hr
  rcases hr with rfl | rfl | rfl <;> rfl
theorem g_remI {P : Program} {o : Oper} {ρ : Operand → Value} {w : World} {K : Value → World → Prop} {x y : Operand} {T T' : TypeId} {m n : Int} (ho : o.op = .binOp .rem T x y T') (hx : ρ x = .int .i64 m) (hy : ρ y = .int .i64 n) (h0 : 0 ≤ m) (h1 : 0 < n) (h2 : n ≤ 9223372036854775807) (h : K (.int .i64 (m % n)) w) : goesR P o ρ w K := by
  obtain ⟨a, rfl⟩ := Int.eq_ofNat_of_zero_le h0
  obtain ⟨b, rfl⟩ := Int.eq_ofNat_of_zero_le (Int.le_of_lt h1)
  exact g_rem ho hx hy rfl rfl (by omega) (by omega) (by simpa using h)
theorem firstOf_yes {ds : List Int} (h : 0 < ds.length) (h2 : ds[0] < 24) : firstOf ds = ds[0] := by
  cases ds with
  | nil => cases h
  | cons d l => exact if_pos h2
theorem firstOf_no {ds : List Int} (h : 0 < ds.length) (h2 : ¬ ds[0] < 24) : firstOf ds = 255 := by
  cases ds with
  | nil => cases h
  | cons d l => exact if_neg h2
theorem firstOf_nil {ds : List Int} (h : ¬ 0 < ds.length) : firstOf ds = 255 := by
  cases ds with
  | nil => rfl
  | cons d l => exact absurd (Nat.succ_pos _) h
theorem stTo_at {L : Int} {ds : List Int} {k : Nat} (h : stTo L ds ds.length = true) (hk : k < ds.length) : 0 ≤ ds[k] ∧ ds[k] ≤ L := by
  unfold stTo at h
  have := List.all_eq_true.1 h k (List.mem_range.2 hk)
  unfold stAt at this
  rw [show ds.getD k 0 = ds[k] from by simp [hk], Bool.and_eq_true] at this
  exact inB_true this.1
theorem cutDs_len (ds : List Int) : (cutDs ds).length ≤ ds.length := by
  unfold cutDs
  rw [List.length_map]
  exact List.length_filter_le _ _
theorem cutDs_step {ds : List Int} {k : Nat} (hk : k < ds.length) : cutDs (ds.take (k + 1)) = cutDs (ds.take k) ++ if 24 ≤ ds[k] then [ds[k] - 24] else [] := by
  unfold cutDs
  rw [List.take_succ_eq_append_getElem hk, List.filter_append, List.map_append]
  congr 1
  by_cases h : 24 ≤ ds[k] <;> simp [h]
theorem cutDs_in {ds : List Int} {k : Nat} (hk : k < ds.length) (h : 24 ≤ ds[k]) : cutDs (ds.take (k + 1)) = cutDs (ds.take k) ++ [ds[k] - 24] := by rw [cutDs_step hk, if_pos h]
theorem cutDs_out {ds : List Int} {k : Nat} (hk : k < ds.length) (h : ¬ 24 ≤ ds[k]) : cutDs (ds.take (k + 1)) = cutDs (ds.take k) := by rw [cutDs_step hk, if_neg h, List.append_nil]
theorem tf_yes {ch ct : Int} {rest : List UInt8} {ds : List Int} (h : tfOk ch ct rest ds = true) : tfF ch ct rest ds = ⟨ch, ct, firstOf ds, rest.take 24⟩ ∧ tfC ch ct rest ds = (ct + 1) % 256 ∧ tfR ch ct rest ds = rest.drop 24 ∧ tfD ch ct rest ds = cutDs ds := by
  unfold tfF tfC tfR tfD
  simp only [h, if_true, and_self]
theorem tf_no {ch ct : Int} {rest : List UInt8} {ds : List Int} (h : tfOk ch ct rest ds = false) : tfF ch ct rest ds = ⟨0, 0, 0, []⟩ ∧ tfC ch ct rest ds = ct ∧ tfR ch ct rest ds = rest ∧ tfD ch ct rest ds = ds := by
  unfold tfF tfC tfR tfD
  simp only [h, Bool.false_eq_true, if_false, and_self]
theorem tf_len {ch ct : Int} {rest : List UInt8} {ds : List Int} : (tfR ch ct rest ds).length + 24 * (tfOk ch ct rest ds).toNat ≤ rest.length ∧ (tfD ch ct rest ds).length ≤ ds.length := by
  cases h : tfOk ch ct rest ds with
  | true =>
    obtain ⟨_, _, h3, h4⟩ := tf_yes h
    have hl : 24 ≤ rest.length := by
      unfold tfOk at h
      simp only [Bool.and_eq_true, decide_eq_true_eq] at h
      exact h.2
    rw [h3, h4, List.length_drop]
    exact ⟨by simp; omega, cutDs_len ds⟩
  | false =>
    obtain ⟨_, _, h3, h4⟩ := tf_no h
    rw [h3, h4]
    exact ⟨by simp, Nat.le_refl _⟩
def nextP (ch : Int) (p : PkS) : PkS := ⟨tfC ch p.ct p.rest p.ds, tfR ch p.ct p.rest p.ds, tfD ch p.ct p.rest p.ds⟩
/-- What holds while frames are taken: p is the packer now, f the last frame, if ok. -/
structure TfI (ch : Int) (p0 p : PkS) (f : EFrame) (ok : Bool) (fs : List EFrame) : Prop where
  eq : takeFs ch p0 = ((takeFs ch p).1, fs ++ if ok then f :: (takeFs ch p).2 else [])
  no : ok = false → takeFs ch p = (p, [])
  bd : 24 * fs.length + 24 * ok.toNat + p.rest.length ≤ p0.rest.length
  dl : p.ds.length ≤ p0.ds.length
theorem tfs_one (ch : Int) (p : PkS) : takeFs ch p = ((takeFs ch (nextP ch p)).1, if tfOk ch p.ct p.rest p.ds then tfF ch p.ct p.rest p.ds :: (takeFs ch (nextP ch p)).2 else []) ∧ (tfOk ch p.ct p.rest p.ds = false → takeFs ch (nextP ch p) = (nextP ch p, [])) := by
  cases h : tfOk ch p.ct p.rest p.ds with
  | true =>
    obtain ⟨_, h2, h3, h4⟩ := tf_yes h
    refine ⟨?_, fun k => by cases k⟩
    unfold nextP
    rw [h2, h3, h4]
    exact takeFs_yes h
  | false =>
    obtain ⟨_, h2, h3, h4⟩ := tf_no h
    have e : nextP ch p = p := by unfold nextP; rw [h2, h3, h4]
    rw [e, takeFs_no h]
    exact ⟨rfl, fun _ => rfl⟩
theorem TfI.first (ch : Int) (p : PkS) : TfI ch p (nextP ch p) (tfF ch p.ct p.rest p.ds) (tfOk ch p.ct p.rest p.ds) [] := by
  have hl := tf_len (ch := ch) (ct := p.ct) (rest := p.rest) (ds := p.ds)
  refine ⟨(tfs_one ch p).1, (tfs_one ch p).2, ?_, hl.2⟩
  show 24 * 0 + 24 * (tfOk ch p.ct p.rest p.ds).toNat + (tfR ch p.ct p.rest p.ds).length ≤ _
  omega
theorem TfI.next {ch : Int} {p0 p : PkS} {f : EFrame} {fs : List EFrame} (h : TfI ch p0 p f true fs) : TfI ch p0 (nextP ch p) (tfF ch p.ct p.rest p.ds) (tfOk ch p.ct p.rest p.ds) (fs ++ [f]) := by
  have hl := tf_len (ch := ch) (ct := p.ct) (rest := p.rest) (ds := p.ds)
  have hb := h.bd
  have hd := h.dl
  refine ⟨?_, (tfs_one ch p).2, ?_, Nat.le_trans hl.2 hd⟩
  · rw [h.eq, if_pos rfl, (tfs_one ch p).1]
    simp only [List.append_assoc, List.singleton_append]
  · rw [List.length_append]
    show 24 * (fs.length + 1) + 24 * (tfOk ch p.ct p.rest p.ds).toNat + (tfR ch p.ct p.rest p.ds).length ≤ _
    simp only [Bool.toNat_true] at hb
    omega
theorem TfI.end {ch : Int} {p0 p : PkS} {f : EFrame} {fs : List EFrame} (h : TfI ch p0 p f false fs) : takeFs ch p0 = (p, fs) := by
  rw [h.eq, h.no rfl]
  simp
theorem tfs_mu {ch ct : Int} {rest : List UInt8} {ds : List Int} : (tfR ch ct rest ds).length + boolN (.bool (tfOk ch ct rest ds)) < rest.length + boolN (.bool true) := by
  have hl := tf_len (ch := ch) (ct := ct) (rest := rest) (ds := ds)
  have e : ∀ b : Bool, boolN (.bool b) = b.toNat := fun b => by cases b <;> rfl
  rw [e, e]
  simp only [Bool.toNat_true]
  omega
end Go.Proofs.Ytmcgmiapbdoocaa
