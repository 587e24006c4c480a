/- THE WALKS over crc. -/
import Derived.Test.YtaikcehdomaebaaCrcMath
import Derived.Test.YtaikcehdomaebaaRows
import Derived.WalkKit
import Derived.WalkSpells
import Derived.WalkLawsBesides
import Derived.Lib.Hide
namespace Go.Proofs.Ytaikcehdomaebaa
open Go.RowKit

/-- the table's rows -/
def row (i : Nat) : Int := (Crc.steps 4 i : Int)
/-- the table as far as it is filled -/
def tab (n : Nat) : Array Value := ((List.range 16).map fun i => Value.int .u32 (if i < n then row i else 0)).toArray
theorem tab_get (n i : Nat) (hi : i < 16) : (tab n)[i]? = some (.int .u32 (if i < n then row i else 0)) := by
  unfold tab; simp [hi]
theorem tab_size (n : Nat) : (tab n).size = 16 := by unfold tab; simp
theorem tab_set (n : Nat) (hn : n < 16) : (tab n).setIfInBounds n (.int .u32 (row n)) = tab (n + 1) := by
  apply Array.ext_getElem?
  intro i
  rw [Array.getElem?_setIfInBounds, tab_size]
  by_cases hi : i < 16
  · rw [tab_get _ _ hi, tab_get _ _ hi]
    by_cases e : n = i
    · subst e; simp [hn]
    · have : i < n + 1 ↔ i < n := by omega
      simp [e, this]
  · have e : n ≠ i := by omega
    simp [e, tab_size, hi]
theorem tab_one (n : Nat) : (tab n).all (·.oneCell') = true := by unfold tab; simp [Value.oneCell']
theorem setRow_alloc (w : World) (c c' : Array Value) (t : TypeId) : (w.alloc (.cells c t)).setRow w.heap.size c' = w.alloc (.cells c' t) := by
  have h : (w.heap.push (.cells c t)).modify w.heap.size (fun | .cells _ elem frozen => .cells c' elem frozen | o => o) = w.heap.push (.cells c' t) := by
    apply Array.ext_getElem?
    intro i
    rw [Array.getElem?_modify, Array.getElem?_push, Array.getElem?_push]
    by_cases e : w.heap.size = i
    · subst e; simp
    · have e' : i ≠ w.heap.size := fun h => e h.symm
      simp [e, e']
  show ({ w with heap := (w.heap.push (.cells c t)).modify w.heap.size (fun | .cells _ elem frozen => .cells c' elem frozen | o => o) } : World) = { w with heap := w.heap.push (.cells c' t) }
  rw [h]
theorem take_step (x : Nat) (hx : x < 4294967296) : bits BinOp.xor IntKind.u32 (↑x / 2) (bits BinOp.and IntKind.u32 3988292384 (-bits BinOp.and IntKind.u32 (↑x) 1 % 4294967296)) = (Crc.step x : Int) := by
  have h1 : bits BinOp.and IntKind.u32 (↑x) 1 = ((x % 2 : Nat) : Int) := by
    rw [show (1 : Int) = ((1 : Nat) : Int) from rfl, u32_and_nat _ _ hx (by decide), nat_mask1]
  rw [h1]
  have hd : ((x : Int) / 2) = ((x / 2 : Nat) : Int) := by omega
  rw [hd]
  rcases Crc.mod2 x with h | h
  · rw [h]
    rw [show (-((0 : Nat) : Int) % 4294967296) = ((0 : Nat) : Int) from rfl, show (3988292384 : Int) = ((3988292384 : Nat) : Int) from rfl,
      u32_and_nat _ _ (by decide) (by decide), u32_xor_nat _ _ (by omega) (by decide)]
    unfold Crc.step; rw [h]; simp
  · rw [h]
    rw [show (-((1 : Nat) : Int) % 4294967296) = ((4294967295 : Nat) : Int) from rfl, show (3988292384 : Int) = ((3988292384 : Nat) : Int) from rfl,
      u32_and_nat _ _ (by decide) (by decide), u32_xor_nat _ _ (by omega) (by decide)]
    unfold Crc.step Crc.poly; rw [h]; rfl
set_option maxHeartbeats 400000 in
theorem halves_any (w : World) :
    Calls Try.prog 54 #[] w fun e w' => e = .returned (.agg (tab 16)) ∧ w.alloc (.cells (tab 16) 102) = w' := by
  go_enter Try.func54, Try.ntmps54
  go_wp2
  go_loopw [1, 2, 3] (fun i r k wr => ∃ n : Nat, n ≤ 16 ∧ k = .int .i64 n ∧ wr = w.alloc (.cells (tab n) 102)) (fun _ _ i _ => 16 - (intOf i).toNat)
  case atStart => exact ⟨0, by omega, rfl, rfl⟩
  case round =>
    obtain ⟨n, hn, rfl, rfl⟩ := hrel
    by_cases hlt : n < 16
    · have ht := tab_get n n hlt
      rw [if_neg (Nat.lt_irrefl n)] at ht
      go_wp2
      go_loop [2, 8] (fun r k => ∃ m : Nat, m ≤ 4 ∧ k = .int .i64 m ∧ r = .int .u32 (Crc.steps m n)) (fun _ i => 4 - (intOf i).toNat)
      case atStart => exact ⟨0, by omega, rfl, rfl⟩
      case round =>
        obtain ⟨m, hm, rfl, rfl⟩ := hrel
        have hx := Crc.steps_lt m n (by omega)
        generalize hX : Crc.steps m n = x at *
        have HX := Lib.hid hX; clear hX
        by_cases hm4 : m < 4
        · go_wp2
          go_round
          case rel => exact ⟨m + 1, by omega, by go_num, by rw [take_step x hx, Crc.steps_add, HX.out]; rfl⟩
          case measure => simp [intOf]; omega
        · obtain rfl : m = 4 := by omega
          go_wp2
          go_roundw
          case rel => exact ⟨n + 1, by omega, by go_num, by rw [← tab_set n hlt]; unfold row; rw [HX.out]⟩
          case measure => simp [intOf]; omega
    · obtain rfl : n = 16 := by omega
      go_wp2_with (first | (refine wpList_store_row rfl 102 _ _ rfl w.heap.size (tab 16) rfl rfl 102 (tab 16) (heap_alloc_new _ _) (by rw [tab_size]; kernel_rfl) rfl (tab_one _) ?_; rw [setRow_alloc]) | refine wpList_load_row rfl 102 _ rfl w.heap.size rfl 102 (tab 16) (0, 0) _ (heap_alloc_new _ _) Try.underlying102 rfl (by rw [tab_size]; kernel_rfl) ?_)
      exact bodyPost_ret (v := .agg (tab 16)) (results_cell_row rfl _ _ w.heap.size 102 (tab 16) (0, 0) _ rfl (heap_alloc_new _ _) Try.underlying102 rfl (by rw [tab_size]; kernel_rfl)) rfl ⟨rfl, rfl⟩

theorem size_alloc (w : World) (o : Obj) : (w.alloc o).heap.size = w.heap.size + 1 := by simp
theorem heap_new3 (w : World) (A B C : Obj) : (((w.alloc A).alloc B).alloc C).heap[w.heap.size + 1 + 1]? = some C := by
  have h := heap_alloc_new ((w.alloc A).alloc B) C
  rwa [size_alloc, size_alloc] at h
theorem setRow_new3 (w : World) (A B : Obj) (c c' : Array Value) (t : TypeId) : (((w.alloc A).alloc B).alloc (.cells c t)).setRow (w.heap.size + 1 + 1) c' = ((w.alloc A).alloc B).alloc (.cells c' t) := by
  have h := setRow_alloc ((w.alloc A).alloc B) c c' t
  rwa [size_alloc, size_alloc] at h
set_option maxHeartbeats 400000 in
theorem taker_any (r : Int) (w : World) :
    Calls Try.prog 48 #[.int .u32 r] w fun e w' => e = .returned (.func (.func 55) #[] #[.pointer (some ⟨w.heap.size, 0, none⟩), .pointer (some ⟨w.heap.size + 2, 0, none⟩)])
      ∧ ((w.alloc (.cells #[.int .u32 r] 42)).alloc (.cells (tab 16) 102)).alloc (.cells (tab 16) 102) = w' := by
  go_enter Try.func48, Try.ntmps48
  go_wp2_with (first | (go_at_call 54; refine (halves_any _).mono ?_; rintro e w' ⟨rfl, rfl⟩) | (refine wpList_store_row rfl 102 _ _ rfl (w.heap.size + 1 + 1) (tab 16) rfl rfl 102 _ (heap_new3 _ _ _ _) (by rw [tab_size]; kernel_rfl) (by rw [tab_size]; rfl) (tab_one _) ?_; rw [setRow_new3]))
  go_ret
  exact ⟨rfl, rfl⟩

end Go.Proofs.Ytaikcehdomaebaa
