/- octet, in plain words: what is read where it lies. -/
import Derived.Test.YtaikcehdomaebaaDoorOctR
namespace Go.Proofs.YtaikcehdomaebaaDoor
open Go.RowKit
theorem leb_deb : ∀ l : List UInt8, leb (deb l) l.length = l
  | [] => rfl
  | b :: l => by
    have hb := b.toNat_lt
    show UInt8.ofNat ((b.toNat + 256 * deb l) % 256) :: leb ((b.toNat + 256 * deb l) / 256) l.length = b :: l
    rw [show (b.toNat + 256 * deb l) % 256 = b.toNat by omega, show (b.toNat + 256 * deb l) / 256 = deb l by omega, leb_deb l, UInt8.ofNat_toNat]
theorem ba_toList (l : List UInt8) : (⟨l.toArray⟩ : ByteArray).data.toList = l := rfl
theorem ba_size (s : ByteArray) : s.data.toList.length = s.size := rfl
theorem ba_mk (s : ByteArray) : (⟨s.data.toList.toArray⟩ : ByteArray) = s := rfl
theorem ex_toList (s : ByteArray) (i n : Nat) : (s.extract i (i + n)).data.toList = (s.data.toList.drop i).take n := by
  rw [ByteArray.data_extract, Array.toList_extract]
  simp
theorem ba_ext {s t : ByteArray} (h : s.data.toList = t.data.toList) : s = t := by
  cases s; cases t
  simp only at h
  congr 1
  exact Array.ext' h
/-- what is read where it lies -/
theorem RS.take_fwd {R : RS} {a b : List UInt8} (hf : R.f = none) (hr : R.s.data.toList.drop R.at_ = a ++ b) (hle : R.at_ ≤ R.s.size) : R.take (a.length : Int) = (⟨a.toArray⟩, ⟨R.s, R.at_ + a.length, none⟩) := by
  have hl := congrArg List.length hr
  rw [List.length_drop, ba_size, List.length_append] at hl
  rw [RS.take_ok hf (by omega) (by omega)]
  rw [Int.toNat_natCast]
  have e1 : R.s.extract R.at_ (R.at_ + a.length) = ⟨a.toArray⟩ := by
    apply ba_ext
    rw [ex_toList, hr, ba_toList]
    simp
  rw [e1]
  obtain ⟨s, p, f⟩ := R
  simp only at hf
  subst hf
  rfl
theorem RS.take_bwd {R : RS} {n : Int} (h : (R.take n).2.f = none) : R.f = none ∧ 0 ≤ n ∧ (R.take n).1.size = n.toNat ∧ (R.take n).2 = ⟨R.s, R.at_ + n.toNat, none⟩ ∧ R.s.data.toList.drop R.at_ = (R.take n).1.data.toList ++ R.s.data.toList.drop (R.at_ + n.toNat) ∧ R.at_ + n.toNat ≤ R.s.size := by
  by_cases h0 : R.f.isSome = true
  · rw [RS.take_f h0] at h
    simp only at h
    rw [h] at h0; cases h0
  have hf : R.f = none := by simpa using h0
  by_cases h1 : n < 0
  · rw [RS.take_neg hf h1] at h; cases h
  by_cases h2 : (R.s.size : Int) - R.at_ < n
  · rw [RS.take_short hf h1 h2] at h; cases h
  rw [RS.take_ok hf h1 h2]
  refine ⟨hf, by omega, ?_, ?_, ?_, by omega⟩
  · rw [ByteArray.size_extract]; omega
  · obtain ⟨s, p, f⟩ := R
    simp only at hf
    subst hf
    rfl
  · rw [ex_toList, ← List.drop_drop, List.take_append_drop]
theorem RS.num_fwd {R : RS} {k n : Nat} {b : List UInt8} (hf : R.f = none) (hr : R.s.data.toList.drop R.at_ = leb n k ++ b) (hle : R.at_ ≤ R.s.size) (hn : n < 256 ^ k) : R.num k = (n, ⟨R.s, R.at_ + k, none⟩) := by
  have h := RS.take_fwd hf hr hle
  rw [leb_length] at h
  unfold RS.num
  rw [h]
  show (deb (⟨(leb n k).toArray⟩ : ByteArray).data.toList, _) = _
  rw [ba_toList, deb_leb k n hn]
theorem RS.num_bwd {R : RS} {k : Nat} (h : (R.num k).2.f = none) : R.f = none ∧ (R.num k).2 = ⟨R.s, R.at_ + k, none⟩ ∧ R.s.data.toList.drop R.at_ = leb (R.num k).1 k ++ R.s.data.toList.drop (R.at_ + k) ∧ R.at_ + k ≤ R.s.size ∧ (R.num k).1 < 256 ^ k := by
  obtain ⟨h1, _, h3, h4, h5, h6⟩ := RS.take_bwd (R := R) (n := (k : Int)) h
  rw [Int.toNat_natCast] at h3 h4 h5 h6
  refine ⟨h1, h4, ?_, h6, R.num_lt k⟩
  have e : leb (R.num k).1 k = (R.take (k : Int)).1.data.toList := by
    have := leb_deb (R.take (k : Int)).1.data.toList
    rw [ba_size, h3] at this
    exact this
  rw [e]; exact h5
end Go.Proofs.YtaikcehdomaebaaDoor
