/- THE WALKS over bits, VII: Row as a plain call, ints, works. -/
import Derived.Test.YtcnpldeehbleeaaBitsRowB
import Derived.Test.YtcnpldeehbleeaaBitsD
import Derived.Test.YtcnpldeehbleeaaOwn
namespace Go.Proofs.Ytcnpldeehbleeaa
open Go.RowKit Go.Shelf
theorem sl_of_owns {w : World} {v : Value} {base n : Nat} {e : TypeId} {k : IntKind} {l : List Int} (h : w.ownsRow base e 1 v n (l.map (Value.int k))) : SlI w v k l := by
  by_cases hv : v = .slice none 0 0
  · subst hv
    have hn : n = l.length := by have := h.1; simp at this; omega
    rcases h.2 with ⟨_, h0⟩ | ⟨g, cap, cur, e, _⟩
    · have hl : l.length = 0 := by omega
      exact ⟨none, 0, by rw [hl], by omega, Nat.zero_le _, fun i hi => absurd hi (by omega)⟩
    · cases e
  · obtain ⟨g, _, ho⟩ := ownI_of h hv
    exact ho.sl
/-- the bits of a row that are on, as numbers -/
def rowOf (n wd : Nat) (l : List UInt8) (r : Int) : List Int := (onTo n wd l r wd).map fun i : Nat => (i : Int)
theorem row_any (p g n wd : Nat) (l : List UInt8) (r : Int) (w : World) (h : Bt w p g n wd l) :
    Calls Try.prog 29 #[.pointer (some ⟨p, 0, none⟩), .int .i64 r] w fun e w' => ∃ v, e = .returned v ∧ SlI w' v .i64 (rowOf n wd l r) ∧ Below w.heap.size w w' := by
  refine ((callsIn_wide (n := 3)).1 (row_in 3 (by omega) p g n wd l r w h)).mono ?_
  rintro e w' ⟨v, rfl, ho, _, hb⟩
  refine ⟨v, rfl, sl_of_owns (base := w.heap.size) (n := (onTo n wd l r wd).length) (e := 3) ?_, hb⟩
  have e : ((rowOf n wd l r).map (Value.int .i64)) = (onTo n wd l r wd).map fun i => Value.int .i64 (i : Nat) := by
    unfold rowOf; rw [List.map_map]; rfl
  rw [e]; exact ho
set_option maxHeartbeats 1000000 in
theorem ints_any (u v : Value) (l m : List Int) (w : World) (hu : SlI w u .i64 l) (hv : SlI w v .i64 m) :
    Calls Try.prog 31 #[u, v] w fun e w' => e = .returned (.bool (decide (l = m))) ∧ Below w.heap.size w w' := by
  obtain ⟨a, ca, rfl, ha1, ha2, ha3⟩ := id hu
  obtain ⟨b, cb, rfl, hb1, hb2, hb3⟩ := id hv
  unfold maxLen at ha2 hb2
  have HU := Lib.hid hu; have HV := Lib.hid hv
  clear hu hv ha3 hb3
  obtain ⟨R, hR⟩ : ∃ R : Bool, R = decide (l = m) := ⟨_, rfl⟩
  rw [← hR]
  have HR := Lib.hid hR
  clear hR
  by_cases hl : l.length = m.length
  · have e1 : ((l.length : Int) != (m.length : Int)) = false := by rw [bne_eq_false_iff_eq]; omega
    have e2 : decide (l.length = m.length) = true := decide_eq_true hl
    have Hl := Lib.hid hl
    clear hl
    go_enter Try.func31, Try.ntmps31
    go_wp2_with fail
    go_loopw [5] (fun i wr => ∃ k : Nat, k ≤ l.length ∧ i = .int .i64 k ∧ Hid (l.take k = m.take k) ∧ Below w.heap.size w wr) (fun i _ => l.length - (intOf i).toNat)
    case atStart => exact ⟨0, Nat.zero_le _, rfl, Lib.hid rfl, Below.refl _ _⟩
    case round =>
      obtain ⟨k, hk, rfl, hpre, hB⟩ := hrel
      by_cases hlt : k < l.length
      · have hlt2 : k < m.length := by have := Hl.out; omega
        obtain ⟨ba, oa, ha0, hca⟩ : ∃ ba oa, a = some ⟨ba, oa, none⟩ ∧ w.cell? ⟨ba, oa + k, none⟩ = some (.int .i64 l[k]) := by
          obtain ⟨a', c', e, _, _, hh⟩ := HU.out
          obtain ⟨bl, ol, e2, hc⟩ := hh k hlt
          have e3 : a = a' := (Value.slice.inj e).1
          exact ⟨bl, ol, by rw [e3, e2], hc⟩
        obtain ⟨bb, ob, hb0, hcb⟩ : ∃ bb ob, b = some ⟨bb, ob, none⟩ ∧ w.cell? ⟨bb, ob + k, none⟩ = some (.int .i64 m[k]) := by
          obtain ⟨a', c', e, _, _, hh⟩ := HV.out
          obtain ⟨bl, ol, e2, hc⟩ := hh k hlt2
          have e3 : b = a' := (Value.slice.inj e).1
          exact ⟨bl, ol, by rw [e3, e2], hc⟩
        subst ha0 hb0
        have hca' : wr.cell? ⟨ba, oa + k, none⟩ = some (.int .i64 l[k]) := (World.cell?_of_block (hB.block ba (block_lt_of_cell hca))).trans hca
        have hcb' : wr.cell? ⟨bb, ob + k, none⟩ = some (.int .i64 m[k]) := (World.cell?_of_block (hB.block bb (block_lt_of_cell hcb))).trans hcb
        have htl : l.take (k + 1) = l.take k ++ [l[k]] := List.take_succ_eq_append_getElem hlt
        have htm : m.take (k + 1) = m.take k ++ [m[k]] := List.take_succ_eq_append_getElem hlt2
        have hne : l = m → l[k] = m[k] := fun e => by subst e; rfl
        generalize l[k] = x at *
        generalize m[k] = y at *
        have Htl := Lib.hid htl; have Htm := Lib.hid htm; have Hne := Lib.hid hne
        clear htl htm hne hca hcb
        by_cases hxy : x = y
        · subst hxy
          have f1 : ((x : Int) != x) = false := by simp
          go_wp2_with fail
          go_quiet (fail)
          go_wp2_with fail
          go_roundw
          case rel => exact ⟨k + 1, by omega, by go_num, Lib.hid (by rw [Htl.out, Htm.out, hpre.out]), by first | exact hB.drew | exact ⟨hB.os, hB.tape, hB.output, hB.size, hB.block⟩⟩
          case measure => simp [intOf]; omega
        · have f1 : ((x : Int) != y) = true := by rw [bne_iff_ne]; exact hxy
          have Hxy := Lib.hid hxy
          clear hxy
          go_wp2_with fail
          go_quiet (fail)
          go_wp2_with fail
          go_ret
          refine ⟨?_, by first | exact hB.drew | exact ⟨hB.os, hB.tape, hB.output, hB.size, hB.block⟩⟩
          exact congrArg (fun z => Ending.returned (.bool z)) (HR.out.trans (decide_eq_false (fun e => Hxy.out (Hne.out e)))).symm
      · obtain rfl : k = l.length := by omega
        go_wp2_with fail
        go_ret
        refine ⟨?_, hB⟩
        have h1 := hpre.out
        have h2 := Hl.out
        rw [List.take_length, h2, List.take_length] at h1
        exact congrArg (fun z => Ending.returned (.bool z)) (HR.out.trans (decide_eq_true h1)).symm
  · have e1 : ((l.length : Int) != (m.length : Int)) = true := by rw [bne_iff_ne]; omega
    have e2 : decide (l.length = m.length) = false := decide_eq_false hl
    have Hl := Lib.hid hl
    clear hl
    go_enter Try.func31, Try.ntmps31
    go_wp2_with fail
    go_ret
    refine ⟨?_, Below.refl _ _⟩
    exact congrArg (fun z => Ending.returned (.bool z)) (HR.out.trans (decide_eq_false (fun e => Hl.out (by rw [e])))).symm
theorem bytes_ext {n lg : Nat} {l m : List UInt8} (hl : l.length = n * lg) (hm : m.length = n * lg) (h : ∀ r, r < n → ∀ i, i < 8 * lg → bitAt lg l r i = bitAt lg m r i) : l = m := by
  refine List.ext_getElem (by omega) fun j h1 h2 => ?_
  have hlg : 0 < lg := by
    rcases Nat.eq_zero_or_pos lg with e | e
    · rw [e, Nat.mul_zero] at hl; omega
    · exact e
  have hr : j / lg < n := Nat.div_lt_of_lt_mul (by rw [Nat.mul_comm, ← hl]; exact h1)
  have hd : j % lg < lg := Nat.mod_lt _ hlg
  have hj : j / lg * lg + j % lg = j := by rw [Nat.mul_comm]; exact Nat.div_add_mod j lg
  apply UInt8.toNat_inj.1
  apply Nat.eq_of_testBit_eq
  intro q
  by_cases hq : q < 8
  · have := h (j / lg) hr (8 * (j % lg) + q) (by omega)
    unfold bitAt at this
    rw [show (8 * (j % lg) + q) / 8 = j % lg by omega, show (8 * (j % lg) + q) % 8 = q by omega, hj, List.getElem?_eq_getElem h1, List.getElem?_eq_getElem h2] at this
    exact this
  · have e : ∀ x : UInt8, x.toNat.testBit q = false := fun x => Nat.testBit_lt_two_pow (Nat.lt_of_lt_of_le x.toNat_lt (Nat.pow_le_pow_right (by omega) (show 8 ≤ q by omega)))
    rw [e, e]
end Go.Proofs.Ytcnpldeehbleeaa
