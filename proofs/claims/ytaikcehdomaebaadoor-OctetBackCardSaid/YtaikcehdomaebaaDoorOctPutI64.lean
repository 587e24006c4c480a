/- THE WALKS over octet: put, at int64. -/
import Derived.Test.YtaikcehdomaebaaDoorOctW
namespace Go.Proofs.YtaikcehdomaebaaDoor
open Go.RowKit
set_option maxHeartbeats 4000000 in
set_option maxRecDepth 100000 in
theorem putI64_any (p : Nat) (l : List UInt8) (F : Nat → Prop) (many : Nat) (hmany : many ≤ 8) (vs : Value) (ns : List Int) (w : World) (h : Wr w p l F) (hs : SlI w vs .i64 ns) (hl : l.length + 8 * ns.length ≤ 1099511627776)
    (hsep : ∀ b, vs.ownBlock = some b → ¬ F b) :
    Calls Tryd.prog 32 #[.pointer (some ⟨p, 0, none⟩), .int .i64 many, vs] w fun e w' => (∃ v, e = .returned v) ∧ WrOn w p (l ++ ns.flatMap (fun x => leb (n64 x) many)) F w' := by
  obtain ⟨a, cap, rfl, h1, h2, h3⟩ := id hs
  unfold maxLen at h2
  have hlen : ns.length ≤ 137438953472 := by omega
  have HS := Lib.hid hs; have HSep := Lib.hid hsep; have HW := Lib.hid h
  clear hs h3 hsep h
  go_enter Tryd.func32, Tryd.ntmps32
  go_wp2_with fail
  go_loopw [7, 8, 9, 10, 15, 21] (fun _ _ _ _ i _ wr => ∃ k : Nat, k ≤ ns.length ∧ i = .int .i64 k ∧ Hid (∃ F' : Nat → Prop, Wr wr p (l ++ (ns.take k).flatMap (fun x => leb (n64 x) many)) F' ∧ Kept F w wr ∧ (∀ b, F' b → F b ∨ w.heap.size ≤ b))) (fun _ _ _ _ i _ _ => ns.length - (intOf i).toNat)
  case atStart => exact ⟨0, Nat.zero_le _, rfl, Lib.hid ⟨F, by simpa using HW.out, Kept.refl _ _, fun b hb => .inl hb⟩⟩
  case round =>
    obtain ⟨k, hk, rfl, hrel⟩ := hrel
    by_cases hlt : k < ns.length
    · obtain ⟨F', hw, hkp, hF⟩ := hrel.out
      obtain ⟨ba, oa, ha0, hca⟩ : ∃ ba oa, a = some ⟨ba, oa, none⟩ ∧ w.cell? ⟨ba, oa + k, none⟩ = some (.int .i64 ns[k]) := by
        obtain ⟨a', c', e, _, _, hh⟩ := HS.out
        obtain ⟨bl, ol, e2, hc⟩ := hh k hlt
        have e3 : a = a' := (Value.slice.inj e).1
        exact ⟨bl, ol, by rw [e3, e2], hc⟩
      subst ha0
      have hca' : wr.cell? ⟨ba, oa + k, none⟩ = some (.int .i64 ns[k]) := (World.cell?_of_block (hkp.block ba (block_lt_of_cell hca) (HSep.out ba rfl))).trans hca
      have htk : ns.take (k + 1) = ns.take k ++ [ns[k]] := List.take_succ_eq_append_getElem hlt
      generalize ns[k] = x at *
      obtain ⟨N, hNx⟩ : ∃ N, N = n64 x := ⟨_, rfl⟩
      have e0 : IntKind.u64.wrap x = (N : Int) := by rw [hNx]; exact n64_wrap x
      have hN : N < 18446744073709551616 := by rw [hNx]; exact n64_lt x
      have HNx := Lib.hid hNx
      have Htk := Lib.hid htk; have Hw := Lib.hid hw; have Hkp := Lib.hid hkp; have HF := Lib.hid hF
      clear htk hw hkp hF hca hrel hNx
      obtain ⟨wo, rfl⟩ : ∃ wo : World, wo = wr := ⟨_, rfl⟩
      go_wp2_with fail
      go_loopw [9, 10, 21] (fun rest _ c wi => ∃ j : Nat, j ≤ 8 ∧ c = .int .i64 j ∧ rest = .int .u64 (N / 256 ^ j : Nat) ∧ Hid (Blk wi wo.heap.size (u8cells (leb N j ++ List.replicate (8 - j) 0)) 87 (0, 0) ∧ Below wo.heap.size wo wi)) (fun _ _ c _ => 8 - (intOf c).toNat)
      case atStart => exact ⟨0, by omega, rfl, by simp, Lib.hid ⟨Blk.new _ _ _ _, (Below.refl _ _).alloc (Nat.le_refl _) _⟩⟩
      case round =>
        obtain ⟨j, hj, rfl, rfl, hin⟩ := hrel
        by_cases hlt2 : j < 8
        · obtain ⟨m, hm⟩ : ∃ m, m = N / 256 ^ j := ⟨_, rfl⟩
          obtain ⟨m2, hm2⟩ : ∃ m2, m2 = N / 256 ^ (j + 1) := ⟨_, rfl⟩
          have hmm : m2 = m / 256 := by rw [hm, hm2, Nat.pow_succ, Nat.div_div_eq_div_mul]
          obtain ⟨y, hy⟩ : ∃ y : UInt8, y = UInt8.ofNat (m % 256) := ⟨_, rfl⟩
          have hyt : y.toNat = m % 256 := by rw [hy, UInt8.toNat_ofNat_of_lt' (Nat.mod_lt _ (by decide))]
          have hmN : m < 18446744073709551616 := by rw [hm]; exact Nat.lt_of_le_of_lt (Nat.div_le_self _ _) (by omega)
          have e1 : IntKind.u8.wrap (m : Int) = (y.toNat : Int) := by rw [hyt]; simp [IntKind.wrap, IntKind.signed, IntKind.bits]
          have e2 : (m : Int) / 256 = (m2 : Int) := by omega
          have e3 : (m : Int) / (2 : Int) ^ 8 = (m2 : Int) := by rw [show (2 : Int) ^ 8 = 256 from rfl]; exact e2
          have hset := leb_set N j hlt2
          rw [← hm, ← hy] at hset
          have hjl : j < (leb N j ++ List.replicate (8 - j) (0 : UInt8)).length := by rw [List.length_append, leb_length, List.length_replicate]; omega
          have hb0 : Blk wr wo.heap.size (u8cells (leb N j ++ List.replicate (8 - j) 0) ++ #[]) 87 (0, 0) := by rw [Array.append_empty]; exact hin.out.1
          have hc := hb0.cell j
          rw [u8cells_get _ _ _ hjl] at hc
          have hf := hb0.free j (Or.inr (Nat.zero_le _))
          have hb1 := hb0.set j (.int .u8 (y.toNat : Int))
          rw [u8cells_set _ _ _ hjl, hset, Array.append_empty] at hb1
          have hB1 := hin.out.2.setCell (p := ⟨wo.heap.size, j, none⟩) (Nat.le_refl _) (.int .u8 (y.toNat : Int))
          rw [← hm]
          have Hb1 := Lib.hid hb1; have HB1 := Lib.hid hB1; have Hm := Lib.hid hm; have Hm2 := Lib.hid hm2; have Hy := Lib.hid hy
          generalize ((leb N j ++ List.replicate (8 - j) (0 : UInt8))[j]) = z at hc
          have j1 : (0 : Int) ≤ (j : Int) := by omega
          have j2 : (j : Int) < 8 := by omega
          clear hset hb0 hb1 hB1 hm hm2 hy hmm hyt hin hjl
          go_wp2_with fail
          go_roundw
          case rel => exact ⟨j + 1, by omega, by go_num, by rw [Hm2.out], Lib.hid ⟨Hb1.out, HB1.out⟩⟩
          case measure => simp [intOf]; omega
        · obtain rfl : j = 8 := by omega
          have hbA : Blk wr.drew wo.heap.size (u8cells (leb N 8) ++ #[]) 87 (0, 0) := by
            have h2 : Blk wr wo.heap.size (u8cells (leb N 8) ++ #[]) 87 (0, 0) := by have := hin.out.1; simpa using this
            exact h2.drew
          have hwi := Hw.out.later (hin.out.2.drew)
          have hln : (leb N 8).take many = leb N many := by
            rw [show 8 = many + (8 - many) by omega]; exact leb_take many N (8 - many)
          have hsrc := Src.ofBlock (P := Tryd.prog) Tryd.underlying67 hbA many 8 (by rw [leb_length]; exact hmany)
          rw [hln] at hsrc
          have hbound : (l ++ (ns.take k).flatMap (fun x => leb (n64 x) many)).length + (leb N many).length ≤ 1099511627776 := by
            have hfm : ((ns.take k).flatMap (fun x => leb (n64 x) many)).length ≤ 8 * k := by
              have : ∀ q : List Int, (q.flatMap (fun x => leb (n64 x) many)).length ≤ 8 * q.length := by
                intro q
                induction q with
                | nil => simp
                | cons x q ih => rw [List.flatMap_cons, List.length_append, leb_length, List.length_cons]; omega
              have := this (ns.take k)
              rw [List.length_take] at this; omega
            rw [List.length_append, leb_length]; omega
          obtain ⟨a0, n0, c0, a1, n1, c1, w1, hc0, hr, hc1, hf1, hon, hsz⟩ := hwi.app hsrc hbound
          have hon' : WrOn w p ((l ++ (ns.take k).flatMap (fun x => leb (n64 x) many)) ++ leb N many) F (w1.setCell ⟨p, 0, none⟩ (.slice a1 n1 c1)) :=
            hon.next ⟨hin.out.2.drew.os.trans Hkp.out.os, hin.out.2.drew.tape.trans Hkp.out.tape, hin.out.2.drew.output.trans Hkp.out.output, Nat.le_trans Hkp.out.size hin.out.2.drew.size, fun q hq hs => (hin.out.2.drew.block q (Nat.lt_of_lt_of_le hq Hkp.out.size)).trans (Hkp.out.block q hq hs)⟩ HF.out
          have Hon := Lib.hid hon'; have Hr := Lib.hid hr
          have m1 : (0 : Int) ≤ (many : Int) := by omega
          have m2 : (many : Int) ≤ 8 := by omega
          clear hon hon' hr hwi hsrc hln hbA hin hbound hsz
          go_wp2_with fail
          go_region_law ((refine step_append_run (by rfl) _ _ _ _ (by rfl) Hr.out ?_))
          go_wp2_with fail
          go_roundw
          case rel =>
            obtain ⟨F2, q1, q2, q3⟩ := Hon.out
            exact ⟨k + 1, by omega, by go_num, Lib.hid ⟨F2, by rw [Htk.out, List.flatMap_append, ← List.append_assoc]; rw [HNx.out] at q1; simpa using q1, q2, q3⟩⟩
          case measure => simp [intOf]; omega
    · obtain rfl : k = ns.length := by omega
      go_wp2_with fail
      go_end0
      obtain ⟨F', hw, hkp, hF⟩ := hrel.out
      rw [List.take_length] at hw
      exact ⟨⟨_, rfl⟩, F', hw, hkp, hF⟩
end Go.Proofs.YtaikcehdomaebaaDoor
