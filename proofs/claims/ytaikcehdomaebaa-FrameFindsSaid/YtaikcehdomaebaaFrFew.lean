/- frame's laws: few, right. -/
import Derived.Test.YtaikcehdomaebaaFrPlain
import Derived.Test.YtaikcehdomaebaaFrWorks
import Derived.Test.YtaikcehdomaebaaLater
import Derived.Deep.AppendLies
namespace Go.Proofs.Ytaikcehdomaebaa
open Go.RowKit
/-- a section, its body cut -/
def cutS (x : Int × ByteArray) : Int × ByteArray := (x.1, x.2.extract 0 (min x.2.size 60))
def fewL (L : List (Int × ByteArray)) : List (Int × ByteArray) := (L.take 18).map cutS
/-- sections that are the call's own -/
def OwS (B : Nat) (w : World) (v : Value) (L : List (Int × ByteArray)) : Prop := w.ownsRow B 44 2 v L.length (L.flatMap secC)
theorem OwS.sl {B : Nat} {w : World} {v : Value} {L : List (Int × ByteArray)} (h : OwS B w v L) : SlS w v L := SlS.of rfl h
theorem OwS.block {B : Nat} {w : World} {v : Value} {L : List (Int × ByteArray)} (h : OwS B w v L) : ∀ b, v.ownBlock = some b → B ≤ b := fun _ hb => (ownsRow_blk h hb).1
theorem cut_size (x : Int × ByteArray) : (cutS x).2.size = min x.2.size 60 := by
  unfold cutS; rw [ByteArray.size_extract]; omega
theorem below_grown {B : Nat} {w A A' : World} {row : Option Nat} (h : Below B w A) (hg : A.grownBy A' row) (hr : ∀ j, row = some j → B ≤ j) (hB : B ≤ A.heap.size) : Below B w A' :=
  ⟨hg.os.trans h.os, hg.tape.trans h.tape, hg.output.trans h.output, Nat.le_trans h.size hg.size, fun k hk => (hg.block k (Nat.lt_of_lt_of_le hk hB) (fun e => by have := hr k e.symm; omega)).trans (h.block k hk)⟩
set_option maxHeartbeats 1000000 in
set_option maxRecDepth 100000 in
theorem few_any (v : Value) (L : List (Int × ByteArray)) (w : World) (hs : SlS w v L) :
    Calls Try.prog 8 #[v] w fun e w' => ∃ v', e = .returned v' ∧ OwS w.heap.size w' v' (fewL L) ∧ Below w.heap.size w w' := by
  obtain ⟨a, cap, rfl, h1, h2, h3⟩ := id hs
  unfold maxLen at h2
  have HS := Lib.hid hs
  clear hs h3
  obtain ⟨i0, hi, hz0, hz1, hz2⟩ := info_parts infoSe
  have HI := Lib.hid hi; have HZ0 := Lib.hid hz0; have HZ1 := Lib.hid hz1; have HZ2 := Lib.hid hz2
  clear hi hz0 hz1 hz2
  go_enter Try.func8, Try.ntmps8
  go_wp2_with fail
  go_loopw [3, 4] (fun o i wr => ∃ (k : Nat) (sv : Value), k ≤ L.length ∧ k ≤ 18 ∧ i = .int .i64 k ∧ sv = o ∧ Hid (OwS w.heap.size wr sv ((L.take k).map cutS) ∧ Below w.heap.size w wr)) (fun _ i _ => L.length - (intOf i).toNat)
  case atStart => exact ⟨0, _, Nat.zero_le _, Nat.zero_le _, rfl, rfl, Lib.hid ⟨World.ownsRow_nil _ _ _ _, Below.refl _ _⟩⟩
  case round =>
    obtain ⟨k, sv, hk, hk18, rfl, rfl, hrel⟩ := hrel
    by_cases hlt : k < L.length
    · by_cases h18 : k < 18
      · obtain ⟨ba, oa, ha0, hc1, hc2⟩ : ∃ ba oa, a = some ⟨ba, oa, none⟩ ∧ w.cell? ⟨ba, oa + k * 2, none⟩ = some (.int .i64 L[k].1) ∧ w.cell? ⟨ba, oa + k * 2 + 1, none⟩ = some (.string L[k].2) := by
          obtain ⟨a', c', e, _, _, hh⟩ := HS.out
          obtain ⟨bl, ol, e2, q1, q2⟩ := hh k hlt
          have e3 : a = a' := (Value.slice.inj e).1
          exact ⟨bl, ol, by rw [e3, e2], q1, q2⟩
        subst ha0
        have hbl : ba < w.heap.size := block_lt_of_cell hc1
        have hd1 := (World.cell?_of_block (hrel.out.2.block ba hbl)).trans hc1
        have hd2 := (World.cell?_of_block (hrel.out.2.block ba hbl)).trans hc2
        have htk : (L.take (k + 1)).map cutS = (L.take k).map cutS ++ [cutS L[k]] := by rw [List.take_succ_eq_append_getElem hlt, List.map_append]; rfl
        have hcut : cutS L[k] = (L[k].1, L[k].2.extract 0 (min L[k].2.size 60)) := rfl
        have hll : ((L.take k).map cutS).length = k := by rw [List.length_map, List.length_take]; omega
        generalize L[k] = x at *
        obtain ⟨kd, s⟩ := x
        simp only at hd1 hd2 hcut
        obtain ⟨m, hm⟩ : ∃ m, m = min s.size 60 := ⟨_, rfl⟩
        rw [← hm] at hcut
        have m1 : (if (60 : Int) < (s.size : Int) then (60 : Int) else (s.size : Int)) = (m : Int) := by split <;> omega
        have m2 : (if (s.size : Int) < (60 : Int) then (s.size : Int) else (60 : Int)) = (m : Int) := by split <;> omega
        have m3 : (if s.size < 60 then (s.size : Int) else (60 : Int)) = (m : Int) := by split <;> omega
        have m4 : (if 60 < s.size then (60 : Int) else (s.size : Int)) = (m : Int) := by split <;> omega
        have m5 : (0 : Int) ≤ (m : Int) := by omega
        have m6 : (m : Int) ≤ (s.size : Int) := by omega
        have hown := hrel.out.1
        unfold OwS at hown
        rw [hll] at hown
        rw [show ((L.take k).map cutS).flatMap secC = ((L.take k).map cutS).flatMap secC from rfl] at hown
        have HOwn := Lib.hid hown; have Htk := Lib.hid htk; have Hcut := Lib.hid hcut; have Hm := Lib.hid hm; have Hll := Lib.hid hll
        have hblk := fun b hb => (ownsRow_blk hown (g := b) hb).1
        have hne : some ba ≠ sv.ownBlock := fun e => by have := hblk ba e.symm; omega
        have HBl := Lib.hid hblk
        have hbw : ba < wr.heap.size := Nat.lt_of_lt_of_le hbl hrel.out.2.size
        have hsz : w.heap.size ≤ wr.heap.size := hrel.out.2.size
        have i1 : (0 : Int) ≤ (k : Int) := by omega
        have i2 : (k : Int) < (L.length : Int) := by omega
        clear hown htk hcut hm hll hblk hc1 hc2
        go_wp2_with fail
        go_region_held3 (fun w' => w'.cell? ⟨ba, oa + k * 2, none⟩ = some (.int .i64 kd) ∧ w'.cell? ⟨ba, oa + k * 2 + 1, none⟩ = some (.string s))
          (first
            | go_keep
            | (go_split_ands
               refine ⟨?_, ?_⟩
               · (rw [hgrow.cell_far _ (by simp; omega) hne]; simp; assumption)
               · (rw [hgrow.cell_far _ (by simp; omega) hne]; simp; assumption)))
          ((refine step_append_lies _ (by rfl) _ _ _ (by rfl) w.heap.size 44 i0 _ 2 24 Try.underlying22 HI.out HZ0.out HZ1.out HZ2.out rfl (by omega) sv k (((L.take k).map cutS).flatMap secC) (by rfl) ((HOwn.out.alloc _).drew)
              ⟨wr.heap.size, 0, none⟩ 1 1 [.int .i64 kd, .string (s.extract 0 m)] (by rfl) (by rfl) (World.news_of_block (cs := #[.int .i64 kd, .string (s.extract 0 m)]) (t := 44) (fr := (0, 0)) (heap_alloc_new wr _)) (by simp [Value.oneCell'])
              (by omega) (by unfold maxLen; omega) (by omega) (by simp; omega) (wr.heap.size + 1) (by simp) ?_; intro gg c2 w1 hown1 hgrow hat hlt2))
        have hB2 := below_grown ((hrel.out.2.alloc hsz (.cells #[.int .i64 kd, .string (s.extract 0 m)] 44)).drew) hgrow HBl.out (by simp; omega)
        have HB2 := Lib.hid hB2; have HOwn1 := Lib.hid hown1
        clear hB2 hown1 hgrow hat hd1 hd2 m1 m2 m3 m4
        go_wp2_with fail
        go_roundw
        case rel => exact ⟨k + 1, _, by omega, by omega, by go_num, rfl, Lib.hid ⟨by
          unfold OwS
          rw [Htk.out, List.length_append, Hll.out, List.flatMap_append, Hcut.out]
          exact HOwn1.out, HB2.out⟩⟩
        case measure => simp [intOf]; omega
      · obtain rfl : k = 18 := by omega
        go_wp2_with fail
        go_ret
        exact ⟨_, rfl, hrel.out.1, hrel.out.2⟩
    · obtain rfl : k = L.length := by omega
      have he : (L.take L.length).map cutS = fewL L := by unfold fewL; rw [List.take_length, List.take_of_length_le hk18]
      have hr1 := hrel.out.1
      rw [he] at hr1
      have HR1 := Lib.hid hr1; have HR2 := Lib.hid hrel.out.2
      clear hr1 hrel he
      go_wp2_with fail
      go_ret
      exact ⟨_, rfl, HR1.out, HR2.out⟩
end Go.Proofs.Ytaikcehdomaebaa
