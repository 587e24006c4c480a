/- the net laws' small graph. -/
import Derived.Test.YtnkcmlngoeofgaaDoorNetTurned
import Derived.Test.YtnkcmlngoeofgaaDoorGrWorks
namespace Go.Proofs.YtnkcmlngoeofgaaDoor
open Go.RowKit
def smallR : Raw := ⟨3, [1, 2, 3], [0, 0, 5], [(0, 1, 5), (1, 2, 0), (0, 1, 7), (2, 2, 1)]⟩
set_option maxHeartbeats 4000000 in
theorem small_any (w : World) : Calls Tryd.prog 52 #[] w fun e w' => ∃ v', e = .returned v' ∧ RawV w' v' smallR ∧ Below w.heap.size w w' := by
  obtain ⟨wf, hwf⟩ : ∃ wf, wf = (((w.alloc (.cells #[.int .i64 3, .slice (some ⟨w.heap.size + 1, 0, none⟩) 3 3, .slice (some ⟨w.heap.size + 1 + 1, 0, none⟩) 3 3, .slice (some ⟨w.heap.size + 1 + 1 + 1, 0, none⟩) 4 4] 25)).alloc (.cells #[.int .i64 1, .int .i64 2, .int .i64 3] 2)).alloc (.cells #[.int .i64 0, .int .i64 0, .int .i64 5] 2)).alloc (.cells #[.int .i64 0, .int .i64 1, .int .i64 5, .int .i64 1, .int .i64 2, .int .i64 0, .int .i64 0, .int .i64 1, .int .i64 7, .int .i64 2, .int .i64 2, .int .i64 1] 54) := ⟨_, rfl⟩
  have hb : Below w.heap.size w wf := by rw [hwf]; exact ((((Below.refl _ _).alloc (Nat.le_refl _) _).alloc (by simp) _).alloc (by simp; omega) _).alloc (by simp; omega) _
  have k0 : Blk wf w.heap.size #[.int .i64 3, .slice (some ⟨w.heap.size + 1, 0, none⟩) 3 3, .slice (some ⟨w.heap.size + 1 + 1, 0, none⟩) 3 3, .slice (some ⟨w.heap.size + 1 + 1 + 1, 0, none⟩) 4 4] 25 (0, 0) := by rw [hwf]; exact (((Blk.new _ _ _ _).alloc _).alloc _).alloc _
  have k1 : Blk wf (w.heap.size + 1) #[.int .i64 1, .int .i64 2, .int .i64 3] 2 (0, 0) := by
    rw [hwf]
    have h := Blk.new (w.alloc (.cells #[.int .i64 3, .slice (some ⟨w.heap.size + 1, 0, none⟩) 3 3, .slice (some ⟨w.heap.size + 1 + 1, 0, none⟩) 3 3, .slice (some ⟨w.heap.size + 1 + 1 + 1, 0, none⟩) 4 4] 25)) #[.int .i64 1, .int .i64 2, .int .i64 3] 2 (0, 0)
    rw [World.size_alloc] at h
    exact (h.alloc _).alloc _
  have k2 : Blk wf (w.heap.size + 1 + 1) #[.int .i64 0, .int .i64 0, .int .i64 5] 2 (0, 0) := by
    rw [hwf]
    have h := Blk.new ((w.alloc (.cells #[.int .i64 3, .slice (some ⟨w.heap.size + 1, 0, none⟩) 3 3, .slice (some ⟨w.heap.size + 1 + 1, 0, none⟩) 3 3, .slice (some ⟨w.heap.size + 1 + 1 + 1, 0, none⟩) 4 4] 25)).alloc (.cells #[.int .i64 1, .int .i64 2, .int .i64 3] 2)) #[.int .i64 0, .int .i64 0, .int .i64 5] 2 (0, 0)
    rw [World.size_alloc, World.size_alloc] at h
    exact h.alloc _
  have k3 : Blk wf (w.heap.size + 1 + 1 + 1) #[.int .i64 0, .int .i64 1, .int .i64 5, .int .i64 1, .int .i64 2, .int .i64 0, .int .i64 0, .int .i64 1, .int .i64 7, .int .i64 2, .int .i64 2, .int .i64 1] 54 (0, 0) := by
    rw [hwf]
    have h := Blk.new (((w.alloc (.cells #[.int .i64 3, .slice (some ⟨w.heap.size + 1, 0, none⟩) 3 3, .slice (some ⟨w.heap.size + 1 + 1, 0, none⟩) 3 3, .slice (some ⟨w.heap.size + 1 + 1 + 1, 0, none⟩) 4 4] 25)).alloc (.cells #[.int .i64 1, .int .i64 2, .int .i64 3] 2)).alloc (.cells #[.int .i64 0, .int .i64 0, .int .i64 5] 2)) #[.int .i64 0, .int .i64 1, .int .i64 5, .int .i64 1, .int .i64 2, .int .i64 0, .int .i64 0, .int .i64 1, .int .i64 7, .int .i64 2, .int .i64 2, .int .i64 1] 54 (0, 0)
    rw [World.size_alloc, World.size_alloc, World.size_alloc] at h
    exact h
  have HK := Lib.hid (And.intro k0 (And.intro k1 (And.intro k2 (And.intro k3 hb)))); have HW := Lib.hid hwf
  clear k0 k1 k2 k3 hb hwf
  go_enter Tryd.func52, Tryd.ntmps52
  go_wp2_with fail
  rw [← HW.out]
  obtain ⟨k0, k1, k2, k3, hb⟩ := HK.out
  have z0 := k0.cell 0; have z1 := k0.cell 1; have z2 := k0.cell 2; have z3 := k0.cell 3
  simp only [List.getElem?_toArray, List.getElem?_cons_succ, List.getElem?_cons_zero] at z0 z1 z2 z3
  exact bodyPost_ret (v := .agg #[.int .i64 3, .slice (some ⟨w.heap.size + 1, 0, none⟩) 3 3, .slice (some ⟨w.heap.size + 1 + 1, 0, none⟩) 3 3, .slice (some ⟨w.heap.size + 1 + 1 + 1, 0, none⟩) 4 4]) (by simp [results, Tryd.results52, go_sem, z0, z1, z2, z3]) rfl ⟨_, rfl, ⟨_, _, _, rfl, slX_new (L := [1, 2, 3]) k1 rfl rfl (by decide), slX_new (L := [0, 0, 5]) k2 rfl rfl (by decide), slA_new (L := [(0, 1, 5), (1, 2, 0), (0, 1, 7), (2, 2, 1)]) k3 rfl rfl (by decide)⟩, hb⟩
end Go.Proofs.YtnkcmlngoeofgaaDoor
