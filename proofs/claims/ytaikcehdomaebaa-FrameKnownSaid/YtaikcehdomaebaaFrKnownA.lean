/- FrameKnown: the plain facts; what make makes. -/
import Derived.Test.YtaikcehdomaebaaFrWorks
import Derived.Test.YtaikcehdomaebaaRefEnc
namespace Go.Proofs.Ytaikcehdomaebaa
open Go.RowKit
def zeros (n : Nat) : List (Int × ByteArray) := List.replicate n (0, ⟨#[]⟩)
def e16 : ByteArray := ⟨(encB (zeros 16)).toArray⟩
def lng : ByteArray := ⟨#[77, 73, 76, 69, 49, 1, 1, 5, 255, 255, 255, 255, 255, 255, 255, 255, 0, 0, 0, 0]⟩
theorem kn_k16 : encV (zeros 16) = .tuple #[.string e16, .int .i64 0] := by unfold encV; rw [if_pos (by decide)]; rfl
theorem kn_k17 : encV (zeros 17) = .tuple #[.string ⟨#[]⟩, .int .i64 2] := by unfold encV; rw [if_neg (by decide)]
theorem kn_km1 : encV [(-1, ⟨#[]⟩)] = .tuple #[.string ⟨#[]⟩, .int .i64 2] := by unfold encV; rw [if_neg (by decide)]
theorem kn_z16 : e16.size = 219 := by kernel_rfl
theorem kn_d16 : (decV e16).1 = 0 := by decide +kernel
theorem kn_l16 : (decV e16).2.length = 16 := by decide +kernel
theorem kn_d0 : (decV s0).1 = 0 := by decide +kernel
theorem kn_l0 : (decV s0).2 = [] := by decide +kernel
theorem kn_de : (decV ⟨#[]⟩).1 = 23 := by decide +kernel
theorem kn_d2 : (decV ⟨#[77, 73, 76, 69, 50, 1, 0]⟩).1 = 23 := by decide +kernel
theorem kn_dl : (decV (lng ++ ⟨(leb (Crc.sum lng.data.toList) 4).toArray⟩)).1 = 23 := by decide +kernel
theorem kn_sum : Crc.sum lng.data.toList = 1761052712 := by decide +kernel
theorem kn_dl2 : (decV (lng ++ ⟨#[40, 136, 247, 104]⟩)).1 = 23 := by decide +kernel
theorem kn_q : (decV ((⟨#[77, 73, 76, 69, 49, 1, 1, 5, 255, 255, 255, 255, 255, 255, 255, 255, 0, 0, 0, 0]⟩ : ByteArray) ++ ⟨#[40, 136, 247, 104]⟩)).1 = 23 ∧ ((⟨#[77, 73, 76, 69, 49, 1, 1, 5, 255, 255, 255, 255, 255, 255, 255, 255, 0, 0, 0, 0]⟩ : ByteArray) ++ ⟨#[40, 136, 247, 104]⟩).size ≤ 1000000 := ⟨kn_dl2, app_size _ _ 20 4 rfl rfl (by omega)⟩
/-- sections that are made -/
def secs (n : Nat) : Array Value := madeCells #[.int .i64 0, .string ⟨#[]⟩] (n * 2)
theorem secs_get0 (n i : Nat) (hi : i < n) : (secs n)[i * 2]? = some (.int .i64 0) := by
  have h : i * 2 < n * 2 := by omega
  have e : i * 2 % 2 = 0 := by omega
  simp [secs, madeCells, h, e]
theorem secs_get1 (n i : Nat) (hi : i < n) : (secs n)[i * 2 + 1]? = some (.string ⟨#[]⟩) := by
  have h : i * 2 + 1 < n * 2 := by omega
  have e : (i * 2 + 1) % 2 = 1 := by omega
  simp [secs, madeCells, h, e]
theorem make_secs (n : Nat) (hn : n ≤ 100) (u : World) : (Instr.makeSlice 22 (.int .i64 n) (.int .i64 n)).run Try.prog u = .ok (.slice (some ⟨u.heap.size, 0, none⟩) n n) (u.alloc (.cells (secs n) 44)) := by
  obtain ⟨i0, hi, hz0, hz1, hz2⟩ := info_parts infoSe
  have h := run_make (P := Try.prog) (w := u) 22 44 i0 (.agg #[.int .i64 0, .string ⟨#[]⟩]) Try.underlying22 hi hz0 .i64 .i64 (n : Int) (n : Int) (by omega) (Int.le_refl _) (by rw [hz2]; omega) (by omega)
  simpa [hz1, Value.cells, secs] using h
theorem slS_zeros (w : World) (n : Nat) (hn : n ≤ 100) : SlS (w.alloc (.cells (secs n) 44)) (.slice (some ⟨w.heap.size, 0, none⟩) n n) (zeros n) := by
  have hb := Blk.new w (secs n) 44 (0, 0)
  have hl : (zeros n).length = n := by simp [zeros]
  refine ⟨_, n, by rw [hl], by omega, by unfold maxLen; omega, fun i hi => ⟨w.heap.size, 0, rfl, ?_⟩⟩
  rw [hl] at hi
  have e : (zeros n)[i]'(by rw [hl]; exact hi) = (0, ⟨#[]⟩) := by simp [zeros]
  rw [e, Nat.zero_add, hb.cell, hb.cell]
  exact ⟨secs_get0 n i hi, secs_get1 n i hi⟩
end Go.Proofs.Ytaikcehdomaebaa
