/- octet's laws: an item is written, and read. -/
import Derived.Test.YtaikcehdomaebaaDoorOctWorks
import Derived.Test.YtaikcehdomaebaaDoorRefRd
import Derived.Test.YtaikcehdomaebaaDoorRefPut
namespace Go.Proofs.YtaikcehdomaebaaDoor
open Go.RowKit
/-- an item: what, number, text -/
abbrev It := Nat × Nat × ByteArray
def itOk (x : It) : Prop := x.1 < 256 ∧ x.2.1 < 18446744073709551616 ∧ x.2.2.size ≤ 9223372036854775807
def itV (x : It) : Value := .agg #[.int .u8 (x.1 : Nat), .int .u64 (x.2.1 : Nat), .string x.2.2]
/-- its bytes -/
def itB (x : It) : List UInt8 :=
  if x.1 % 5 = 0 then leb x.2.1 1 else if x.1 % 5 = 1 then leb x.2.1 4 else if x.1 % 5 = 2 then leb x.2.1 8 else if x.1 % 5 = 3 then leb x.2.1 8 else (x.2.2.extract 0 (min x.2.2.size 40)).data.toList
theorem itB_len (x : It) : (itB x).length ≤ 40 := by
  unfold itB
  split
  · rw [leb_length]; omega
  · split
    · rw [leb_length]; omega
    · split
      · rw [leb_length]; omega
      · split
        · rw [leb_length]; omega
        · rw [Array.length_toList]
          show (x.2.2.extract 0 (min x.2.2.size 40)).size ≤ 40
          rw [ByteArray.size_extract]; omega
theorem leb_mod (k : Nat) : ∀ n, leb (n % 256 ^ k) k = leb n k := by
  induction k with
  | zero => intro n; rfl
  | succ k ih =>
    intro n
    show UInt8.ofNat (n % 256 ^ (k + 1) % 256) :: leb (n % 256 ^ (k + 1) / 256) k = UInt8.ofNat (n % 256) :: leb (n / 256) k
    rw [Nat.pow_succ, Nat.mul_comm, Nat.mod_mul_right_mod, Nat.mod_mul_right_div_self, ih]
theorem n64_wrap64 (N : Nat) (h : N < 18446744073709551616) : n64 (wrap64 (N : Int)) = N := by
  unfold n64
  have e : IntKind.u64.wrap (wrap64 (N : Int)) = (N : Int) := by
    simp only [wrap64, IntKind.wrap, IntKind.signed, IntKind.bits]
    simp
    omega
  rw [e]; rfl
theorem mod5 (a : Nat) : a % 5 = 0 ∨ a % 5 = 1 ∨ a % 5 = 2 ∨ a % 5 = 3 ∨ a % 5 = 4 := by omega
theorem run_min2 {P : Program} (x y : Int) (u : World) (ts : Array TypeId) (t : TypeId) (m : Int) (hm : m = min x y) : (Builtin.min_ ts t #[.int .i64 x, .int .i64 y]).run P u = .ok (.int .i64 m) u := by
  rw [run_min_int2, hm]; congr 2; simp only [Int.min_def]; repeat' split
  all_goals omega
set_option maxHeartbeats 4000000 in
theorem write_any (w0 w : World) (p : Nat) (l : List UInt8) (x : It) (hx : itOk x) (h : WS w0 w p l) (hl : l.length ≤ 100000000) :
    Calls Tryd.prog 27 #[itV x, .pointer (some ⟨p, 0, none⟩)] w fun e w' => e = .returned (.string ⟨(itB x).toArray⟩) ∧ WS w0 w' p (l ++ itB x) := by
  obtain ⟨a, n, s⟩ := x
  obtain ⟨ha, hn, hs⟩ := hx
  simp only at ha hn hs
  have hbx := Blk.new w #[.int .u8 (a : Nat), .int .u64 (n : Nat), .string s] 54 (0, 0)
  have hH := h.later ((Below.refl w.heap.size w).alloc (Nat.le_refl _) (.cells #[.int .u8 (a : Nat), .int .u64 (n : Nat), .string s] 54))
  have H := Lib.hid hH; have HX := Lib.hid hbx
  obtain ⟨a5, ha5⟩ : ∃ a5, a5 = a % 5 := ⟨_, rfl⟩
  have f1 : (a : Int).tmod 5 = (a5 : Int) := by rw [Int.tmod_eq_emod_of_nonneg (by omega), ha5]; rfl
  have f2 : (a : Int) % 5 = (a5 : Int) := by rw [ha5]; rfl
  have f3 : IntKind.u8.wrap (a5 : Int) = a5 := by simp [IntKind.wrap, IntKind.signed, IntKind.bits]; omega
  have hB : itB (a, n, s) = if a5 = 0 then leb n 1 else if a5 = 1 then leb n 4 else if a5 = 2 then leb n 8 else if a5 = 3 then leb n 8 else (s.extract 0 (min s.size 40)).data.toList := by rw [ha5]; rfl
  have hc := mod5 a
  rw [← ha5] at hc
  clear ha5 hbx hH h
  show Calls Tryd.prog 27 #[.agg #[.int .u8 (a : Nat), .int .u64 (n : Nat), .string s], .pointer (some ⟨p, 0, none⟩)] w _
  generalize itB (a, n, s) = B at *
  rcases hc with rfl | rfl | rfl | rfl | rfl
  · have HB : Hid (B = leb n 1) := Lib.hid (by rw [hB]; simp)
    clear hB
    have CP := Lib.hid (fun u => put_ref n 1 hn (by decide) u)
    go_enter Tryd.func27, Tryd.ntmps27
    go_wp2_with fail
    refine (ws_u8 H.out _ _ _ (by simp) (by omega)).mono ?_
    rintro e w1 ⟨⟨v, rfl⟩, hw, hk⟩
    rw [show ((n : Int) % 256) = ((n % 256 : Nat) : Int) by omega, n64_nat _ (by omega), show n % 256 = n % 256 ^ 1 from rfl, leb_mod 1] at hw
    have HW := Lib.hid hw
    have hX1 := hk _ _ _ _ HX.out (by decide) (by decide)
    have c1 := hX1.cell 1
    change w1.cell? ⟨w.heap.size, 1, none⟩ = some (.int .u64 (n : Nat)) at c1
    clear hw hk hX1 H
    go_wp2_with fail
    refine (CP.out w1).mono ?_
    rintro e w2 ⟨rfl, hb⟩
    have HW2 := Lib.hid (HW.out.later hb)
    clear hb HW
    go_wp2_with fail
    go_ret
    rw [HB.out]
    exact ⟨rfl, HW2.out⟩
  · have HB : Hid (B = leb n 4) := Lib.hid (by rw [hB]; simp)
    clear hB
    have CP := Lib.hid (fun u => put_ref n 4 hn (by decide) u)
    go_enter Tryd.func27, Tryd.ntmps27
    go_wp2_with fail
    refine (ws_u32 H.out [(n : Int) % 4294967296] _ _ (by simp) _ rfl 1 rfl (by simp; omega)).mono ?_
    rintro e w1 ⟨⟨v, rfl⟩, hw, hk⟩
    simp only [List.flatMap_cons, List.flatMap_nil, List.append_nil] at hw
    rw [show ((n : Int) % 4294967296) = ((n % 4294967296 : Nat) : Int) by omega, n64_nat _ (by omega), show n % 4294967296 = n % 256 ^ 4 from rfl, leb_mod 4] at hw
    have HW := Lib.hid hw
    have hX1 := hk _ _ _ _ HX.out (by decide) (by decide)
    have c1 := hX1.cell 1
    change w1.cell? ⟨w.heap.size, 1, none⟩ = some (.int .u64 (n : Nat)) at c1
    clear hw hk hX1 H
    go_wp2_with fail
    refine (CP.out w1).mono ?_
    rintro e w2 ⟨rfl, hb⟩
    have HW2 := Lib.hid (HW.out.later hb)
    clear hb HW
    go_wp2_with fail
    go_ret
    rw [HB.out]
    exact ⟨rfl, HW2.out⟩
  · have HB : Hid (B = leb n 8) := Lib.hid (by rw [hB]; simp)
    clear hB
    have CP := Lib.hid (fun u => put_ref n 8 hn (by decide) u)
    go_enter Tryd.func27, Tryd.ntmps27
    go_wp2_with fail
    refine (ws_u64 H.out _ (by omega) _ _ (by simp) (by omega)).mono ?_
    rintro e w1 ⟨⟨v, rfl⟩, hw, hk⟩
    rw [n64_nat _ hn] at hw
    have HW := Lib.hid hw
    have hX1 := hk _ _ _ _ HX.out (by decide) (by decide)
    have c1 := hX1.cell 1
    change w1.cell? ⟨w.heap.size, 1, none⟩ = some (.int .u64 (n : Nat)) at c1
    clear hw hk hX1 H
    go_wp2_with fail
    refine (CP.out w1).mono ?_
    rintro e w2 ⟨rfl, hb⟩
    have HW2 := Lib.hid (HW.out.later hb)
    clear hb HW
    go_wp2_with fail
    go_ret
    rw [HB.out]
    exact ⟨rfl, HW2.out⟩
  · have HB : Hid (B = leb n 8) := Lib.hid (by rw [hB]; simp)
    clear hB
    have CP := Lib.hid (fun u => put_ref n 8 hn (by decide) u)
    go_enter Tryd.func27, Tryd.ntmps27
    go_wp2_with fail
    refine (ws_i64 H.out [wrap64 (n : Int)] _ _ (by simp) _ rfl 1 rfl (by simp; omega)).mono ?_
    rintro e w1 ⟨⟨v, rfl⟩, hw, hk⟩
    simp only [List.flatMap_cons, List.flatMap_nil, List.append_nil] at hw
    rw [n64_wrap64 n hn] at hw
    have HW := Lib.hid hw
    have hX1 := hk _ _ _ _ HX.out (by decide) (by decide)
    have c1 := hX1.cell 1
    change w1.cell? ⟨w.heap.size, 1, none⟩ = some (.int .u64 (n : Nat)) at c1
    clear hw hk hX1 H
    go_wp2_with fail
    refine (CP.out w1).mono ?_
    rintro e w2 ⟨rfl, hb⟩
    have HW2 := Lib.hid (HW.out.later hb)
    clear hb HW
    go_wp2_with fail
    go_ret
    rw [HB.out]
    exact ⟨rfl, HW2.out⟩
  · have HB : Hid (B = (s.extract 0 (min s.size 40)).data.toList) := Lib.hid (by rw [hB]; simp)
    clear hB
    obtain ⟨m, hm⟩ : ∃ m, m = min s.size 40 := ⟨_, rfl⟩
    rw [← hm] at HB
    have hmin := fun u => run_min2 (P := Tryd.prog) s.size 40 u #[3, 3] 3 (m : Int) (by omega)
    have q1 : (0 : Int) ≤ (m : Int) := by omega
    have q2 : (m : Int) ≤ (s.size : Int) := by omega
    have hz : (s.extract 0 m).size ≤ 40 := by rw [ByteArray.size_extract]; omega
    have HZ := Lib.hid hz
    clear hm hz
    go_enter Tryd.func27, Tryd.ntmps27
    go_wp2_with fail
    refine (ws_text H.out (s.extract 0 m) (by have := HZ.out; omega)).mono ?_
    rintro e w1 ⟨⟨v, rfl⟩, hw, _⟩
    have HW := Lib.hid hw
    clear hw H
    go_wp2_with fail
    go_ret
    rw [HB.out]
    exact ⟨rfl, HW.out⟩
end Go.Proofs.YtaikcehdomaebaaDoor
