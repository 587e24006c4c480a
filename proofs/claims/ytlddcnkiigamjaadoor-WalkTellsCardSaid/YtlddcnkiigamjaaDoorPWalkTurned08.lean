/- Texts of the law WalkTurned, merged: RoundReg, NetInts. -/
import Derived.Test.YtlddcnkiigamjaaDoorPWalkTurned07
import Derived.RangeFuncCalls
import Derived.Test.YtlddcnkiigamjaaDoorPWalkTurned02
import Derived.BigQuiet
import Derived.Deep.QuietTactic
import Derived.WalkSmall
/-
  A REGION THAT DRAWS ITS ORDER, IN THE ROUND OF A RANGE OVER A FUNCTION: as everywhere, where no operation of it defers.
-/
namespace Go.Proofs.YtlddcnkiigamjaaDoor
section
variable {P : Program} {ops : Array Oper} {Q : Exit → Act → World → Prop} {S : World → Prop} {D : Nat}
theorem callsIn_anyN {n m : Nat} {f : FuncId} {args : Array Value} {w : World} {R : Ending → World → Prop} (h : CallsIn Fence.wide n P f args w R) : CallsIn Fence.wide m P f args w R := callsIn_wide.2 (callsIn_wide.1 h)
theorem rowsIn_anyN {n m : Nat} {r : String} {args : Array Value} {w : World} {R : Value → World → Prop} (h : RowsIn Fence.wide n P r args w R) : RowsIn Fence.wide m P r args w R := fun c cs _ => h c cs (room_wide _)
theorem roundIn_anyN {n m l : Nat} {f : FuncId} {t : Array Value} {a b : Code} {w : World} {R : Ending → World → Prop} (h : RoundIn Fence.wide n P l f t a b w R) : RoundIn Fence.wide m P l f t a b w R := ⟨trivial, fun c cs _ => h.2 c cs (room_wide _)⟩
/-- no operation defers -/
def noDefer (ops : Array Oper) : Bool := ops.all fun o => match o.op with | .defer _ => false | _ => true
theorem uponIn_round {n m l : Nat} {o : Oper} {a : Act} {K : Act → World → Prop} {r : Result Next} (h : o.uponIn Fence.wide n P a K Q r) : o.uponIn (Fence.wide.inRound l) m P a K Q r := by
  cases r with
  | ok x w' =>
    cases x with
    | enter f args => exact ⟨fun h => (by cases h), (callsIn_anyN (n := n - 1) (m := m - 1) h.2).inRound l⟩
    | row r args => exact ⟨fun h => (by cases h), rowsIn_anyN (m := m - 1) h.2⟩
    | round l' f t ad bd => exact ⟨fun h => (by cases h), roundIn_anyN (m := m - 1) h.2⟩
    | _ => exact h
  | halt x w' => cases x <;> exact h
theorem wpOpIn_inRound {n m l i : Nat} {K : Act → World → Prop} {a : Act} {w : World} (hd : noDefer ops = true) (h : wpOpIn Fence.wide n P ops Q i K a w) : wpOpIn (Fence.wide.inRound l) m P ops Q i K a w := by
  unfold wpOpIn at *
  cases ho : ops[i]? with
  | none => simp only [ho] at h ⊢; exact h
  | some o =>
    simp only [ho] at h ⊢
    have hnd : ∀ c, o.op ≠ .defer c := fun c e => by
      obtain ⟨hi, e2⟩ := Array.getElem?_eq_some_iff.1 ho
      have := Array.all_eq_true.1 hd i hi
      rw [e2, e] at this
      cases this
    split
    · rename_i hw
      rw [if_pos hw] at h
      refine ⟨fun _ _ => trivial, ?_⟩
      have h2 := h.2
      rw [Oper.semAt_eq _ _ _ hnd] at h2
      rw [Oper.semAt_eq _ _ _ hnd]
      exact uponIn_round h2
    · rename_i hw
      rw [if_neg hw] at h
      exact ⟨fun _ _ => trivial, h.2⟩
theorem wpAnyIn_inRound {n m l : Nat} (hd : noDefer ops = true) : ∀ (fuel : Nat) (listed : Array Bool) (a : Act) (w : World), wpAnyIn Fence.wide n P .any ops Q fuel listed a w → wpAnyIn (Fence.wide.inRound l) m P .any ops Q fuel listed a w
  | 0, _, _, _, h => h
  | fuel + 1, _, _, _, h => ⟨h.1, fun i hi => wpOpIn_inRound hd (wpOpIn_mono (fun a' w' h' => wpAnyIn_inRound hd fuel _ a' w' h') (h.2 i hi))⟩
/-- the region, in a round -/
theorem round_region_heldD {id m l : Nat} {a : Act} {w : World} (S : World → Prop) (D : Nat) (hm : P.follows .mixedOrders = true) (hd : noDefer ops = true) (h : heldD Fence.wide 9 P ops Q S D ops.size (Array.replicate ops.size false) a { w with drawn := w.drawn + 1 }) : (Code.region id ops true).wpIn (Fence.wide.inRound l) m P Q a w :=
  wpIn_region_any hm (wpAnyIn_inRound hd _ _ _ _ (any_of_heldD _ _ _ _ h))
/-- the region, in a fenced walk -/
theorem wide_region_heldD {id m : Nat} {a : Act} {w : World} (S : World → Prop) (D : Nat) (hm : P.follows .mixedOrders = true) (h : heldD Fence.wide 9 P ops Q S D ops.size (Array.replicate ops.size false) a { w with drawn := w.drawn + 1 }) : (Code.region id ops true).wpIn Fence.wide m P Q a w :=
  wpIn_wide.2 (wp_region_heldD S D hm h)
end
end Go.Proofs.YtlddcnkiigamjaaDoor
/- milestoneref07.Ints -/
namespace Go.Proofs.YtlddcnkiigamjaaDoor
open Go.RowKit
set_option maxHeartbeats 1000000 in
theorem ints_any (va vb : Value) (A B : List Int) (w : World) (ha : SlX w va A) (hb : SlX w vb B) : Calls Tryd.prog 16 #[va, vb] w fun e w' => e = .returned (.bool (decide (A = B))) ∧ Below w.heap.size w w' := by
  have haw := ha; have hbw := hb
  obtain ⟨aa, ca, rfl, hca, hma, _⟩ := ha
  obtain ⟨ab, cb, rfl, hcb, hmb, _⟩ := hb
  unfold maxLen at hma hmb
  by_cases hlen : A.length = B.length
  · have hl2 : (B.length : Int) = A.length := by omega
    rw [show B.length = A.length from hlen.symm] at hbw
    rw [← hlen] at hcb
    have HAW := Lib.hid haw; have HBW := Lib.hid hbw
    have HLen := Lib.hid hlen
    have hBl : ∀ k, k < A.length → k < B.length := fun k h => by omega
    have HBl := Lib.hid hBl
    rw [show B.length = A.length from hlen.symm]
    clear haw hbw hlen hl2 hBl
    go_enter Tryd.func16, Tryd.ntmps16
    go_wp2_with fail
    go_loopw [5] (fun i wr => ∃ (k : Nat), k ≤ A.length ∧ i = .int .i64 k ∧ Hid (A.take k = B.take k) ∧ Hid (Below w.heap.size w wr)) (fun i _ => A.length - (intOf i).toNat)
    case atStart => exact ⟨0, Nat.zero_le _, rfl, Lib.hid rfl, Lib.hid (Below.refl _ _)⟩
    case round =>
      obtain ⟨k, hk, rfl, hpre, hbel⟩ := hrel
      by_cases hlt : k < A.length
      · have hkw := KpC.of_below hbel.out
        obtain ⟨ba, oa, rfl, da⟩ := (HAW.out.keep hkw).at k hlt
        obtain ⟨bb, ob, rfl, db⟩ := (HBW.out.keep hkw).at k (HBl.out k hlt)
        have hBd := Lib.hid (hbel.out.drew)
        have i1 : (0 : Int) ≤ (k : Int) := by omega
        have i2 : (k : Int) < (A.length : Int) := by omega
        have hA1 : Hid (A.take (k + 1) = A.take k ++ [A[k]]) := Lib.hid (List.take_succ_eq_append_getElem hlt)
        have hB1 : Hid (B.take (k + 1) = B.take k ++ [B[k]'(HBl.out k hlt)]) := Lib.hid (List.take_succ_eq_append_getElem (HBl.out k hlt))
        obtain ⟨x, hx⟩ : ∃ x, x = A[k] := ⟨_, rfl⟩
        obtain ⟨y, hy⟩ : ∃ y, y = B[k]'(HBl.out k hlt) := ⟨_, rfl⟩
        rw [← hx] at da; rw [← hy] at db
        have HX := Lib.hid hx.symm; have HY := Lib.hid hy.symm
        clear hx hy
        clear hkw
        go_wp2_with fail
        go_quiet (fail)
        generalize hwd : wr.drewN _ = wd at *
        by_cases hxy : x = y
        · subst hxy
          have hbq : (x == x) = true := by simp
          go_wp2_with fail
          go_roundw
          case rel =>
            refine ⟨k + 1, by omega, by go_num, Lib.hid ?_, Lib.hid ?_⟩
            · rw [hA1.out, hB1.out, hpre.out, HX.out, HY.out]
            · rw [← hwd]; exact below_drewN hbel.out _
          case measure => simp [intOf]; omega
        · have hne : Hid (A ≠ B) := Lib.hid (fun e => hxy (by rw [← HX.out, ← HY.out]; simp [e]))
          have hbq : (x == y) = false := by simpa using hxy
          go_wp2_with fail
          go_ret
          refine ⟨?_, by rw [← hwd]; exact below_drewN hbel.out _⟩
          rw [decide_eq_false hne.out]; rfl
      · obtain rfl : k = A.length := by omega
        go_wp2_with fail
        go_ret
        refine ⟨?_, hbel.out⟩
        have h := hpre.out
        rw [List.take_length, HLen.out, List.take_length] at h
        rw [decide_eq_true h]; rfl
  · have hne : A ≠ B := fun h => hlen (by rw [h])
    have hn : ¬ (A.length : Int) = (B.length : Int) := by omega
    have hn2 : ((A.length : Int) == (B.length : Int)) = false := by simpa using hn
    rw [decide_eq_false hne]
    clear haw hbw hne hn
    go_enter Tryd.func16, Tryd.ntmps16
    go_wp2_with fail
    go_ret
    exact ⟨rfl, Below.refl _ _⟩

/- one of some -/
end Go.Proofs.YtlddcnkiigamjaaDoor
