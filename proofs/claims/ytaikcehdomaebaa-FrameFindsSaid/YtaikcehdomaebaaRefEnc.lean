/- THE WALKS over the reference of chapter 27: Encode. -/
import Derived.Test.YtaikcehdomaebaaFrEnc
import Derived.Test.YtaikcehdomaebaaRefPut
import Derived.Test.YtaikcehdomaebaaLater
namespace Go.Proofs.Ytaikcehdomaebaa
open Go.RowKit
theorem put_ref_is (N many : Nat) (hN : N < 18446744073709551616) (hm : many ≤ 8) (x : Int) (hx : x = (N : Int)) (w : World) :
    Calls Try.prog 26 #[.int .u64 x, .int .i64 many] w fun e w' => e = .returned (.string ⟨(leb N many).toArray⟩) ∧ Below w.heap.size w w' := by
  subst hx; exact put_ref N many hN hm w
theorem refSum_is (n : Nat) (s : ByteArray) (hs : s.size ≤ 1000000) (w : World) (h : Crc.sum s.data.toList = n) :
    Calls Try.prog 18 #[.string s] w fun e w' => e = .returned (.int .u32 n) ∧ w = w' := by
  subst h; exact refSum_any s hs w
set_option maxHeartbeats 4000000 in
set_option maxRecDepth 100000 in
theorem refEnc_any (v : Value) (L : List (Int × ByteArray)) (w : World) (hs : SlS w v L) (hsz : ∀ x ∈ L, x.2.size ≤ 1000000) (hL : L.length ≤ 1000) :
    Calls Try.prog 10 #[v] w fun e w' => e = .returned (encV L) ∧ Below w.heap.size w w' := by
  obtain ⟨a, cap, rfl, h1, h2, h3⟩ := id hs
  unfold maxLen at h2
  have HS := Lib.hid hs; have HZ := Lib.hid hsz
  clear hs hsz h3
  by_cases hl : L.length ≤ 16
  · go_enter Try.func10, Try.ntmps10
    go_wp2_with fail
    refine (put_ref_is L.length 1 (by omega) (by decide) _ (by first | rfl | simp) _).mono ?_
    rintro e w4 ⟨rfl, hb⟩
    have hcc : ¬ 9223372036854775807 < 6 + (leb L.length 1).length := by rw [leb_length]; decide
    have HB := Lib.hid hb
    have hlen := fun k => hB_len L k hl
    have HLen := Lib.hid hlen
    have HBl := Lib.hid (fun k => bB_len L k hl HZ.out)
    have h00 : ((⟨#[77, 73, 76, 69, 49, 1]⟩ : ByteArray) ++ ⟨(leb L.length 1).toArray⟩) = ⟨(hB L 0).toArray⟩ := by
      rw [show (⟨#[77, 73, 76, 69, 49, 1]⟩ : ByteArray) = ⟨([77, 73, 76, 69, 49, 1] : List UInt8).toArray⟩ from rfl, str_app]
      unfold hB; simp
    have H00 := Lib.hid h00
    clear hb hlen h00
    go_wp2_with fail
    go_loopw [4, 5, 6] (fun h b i wr => ∃ k : Nat, k ≤ L.length ∧ i = .int .i64 k ∧ h = .string ⟨(hB L k).toArray⟩ ∧ b = .string ⟨(bB L k).toArray⟩ ∧ Hid (Below w.heap.size w wr ∧ (L.take k).all goodK = true)) (fun _ _ i _ => L.length - (intOf i).toNat)
    case atStart => exact ⟨0, Nat.zero_le _, rfl, by rw [← H00.out], rfl, Lib.hid ⟨HB.out, rfl⟩⟩
    case round =>
      obtain ⟨k, hk, rfl, rfl, rfl, hrel⟩ := hrel
      by_cases hlt : k < L.length
      · obtain ⟨ba, oa, ha0, hc1, hc2⟩ : ∃ ba oa, a = some ⟨ba, oa, none⟩ ∧ wr.cell? ⟨ba, oa + k * 2, none⟩ = some (.int .i64 L[k].1) ∧ wr.cell? ⟨ba, oa + k * 2 + 1, none⟩ = some (.string L[k].2) := by
          obtain ⟨a', c', e, _, _, hh⟩ := HS.out.later hrel.out.1
          obtain ⟨bl, ol, e2, q1, q2⟩ := hh k hlt
          have e3 : a = a' := (Value.slice.inj e).1
          exact ⟨bl, ol, by rw [e3, e2], q1, q2⟩
        subst ha0
        have hz := HZ.out _ (List.getElem_mem hlt)
        have hsH := hB_succ L k hlt
        have hsB := bB_succ L k hlt
        have htk : (L.take (k + 1)).all goodK = ((L.take k).all goodK && goodK L[k]) := by rw [List.take_succ_eq_append_getElem hlt, List.all_append]; simp
        have hLm := List.getElem_mem hlt
        have hgl : okL L = true → goodK L[k] = true := fun h => by
          unfold okL at h
          rw [Bool.and_eq_true, List.all_eq_true] at h
          exact h.2 _ hLm
        clear hLm
        generalize L[k] = x at *
        obtain ⟨kd, s⟩ := x
        simp only at hc1 hc2 hz hsH hsB
        have hcs := Crc.sum_lt s.data.toList
        have hbal := block_lt_of_cell hc1
        by_cases hg : 0 ≤ kd ∧ kd ≤ 255
        · obtain ⟨hg1, hg2⟩ := hg
          have hgk : goodK (kd, s) = true := by unfold goodK; rw [decide_eq_true hg1, decide_eq_true hg2]; rfl
          obtain ⟨KN, rfl⟩ := Int.eq_ofNat_of_zero_le hg1
          have hn0 := n64_nat KN (by omega)
          rw [hn0] at hsH
          have HsH := Lib.hid hsH; have HsB := Lib.hid hsB; have Htk := Lib.hid htk; have Hgk := Lib.hid hgk
          clear hsH hsB htk hgk hgl hn0
          generalize hcr : Crc.sum s.data.toList = cr at *
          have CS := Lib.hid (fun u => refSum_is cr s (by omega) u hcr)
          have Hcr := Lib.hid hcr
          clear hcr
          have C1 := Lib.hid (fun u => put_ref KN 1 (by omega) (by decide) u)
          have C2 := Lib.hid (fun u => put_ref s.size 8 (by omega) (by decide) u)
          have C3 := Lib.hid (fun u => put_ref cr 4 (by omega) (by decide) u)
          have hl0 := HLen.out k
          have hb0 := HBl.out k
          have l1 := leb_length 1 KN
          have l2 := leb_length 8 s.size
          have l3 := leb_length 4 cr
          have hx1 : ∀ x : Later wr.heap.size wr, x.w.cell? ⟨ba, oa + k * 2, none⟩ = some (.int .i64 KN) := fun x => (World.cell?_of_block (x.h.block ba hbal)).trans hc1
          have hx2 : ∀ x : Later wr.heap.size wr, x.w.cell? ⟨ba, oa + k * 2 + 1, none⟩ = some (.string s) := fun x => (World.cell?_of_block (x.h.block ba hbal)).trans hc2
          obtain ⟨hK, hhK⟩ : ∃ hK, hK = hB L k := ⟨_, rfl⟩
          obtain ⟨bK, hbK⟩ : ∃ bK, bK = bB L k := ⟨_, rfl⟩
          have q1 : ¬ 9223372036854775807 < hK.length + (leb KN 1).length := by rw [leb_length, hhK]; omega
          have q2 : ¬ 9223372036854775807 < hK.length + (leb KN 1).length + (leb s.size 8).length := by rw [leb_length, leb_length, hhK]; omega
          have q3 : ¬ 9223372036854775807 < hK.length + (leb KN 1).length + (leb s.size 8).length + (leb cr 4).length := by rw [leb_length, leb_length, leb_length, hhK]; omega
          have q4 : ¬ 9223372036854775807 < bK.length + s.size := by rw [hbK]; omega
          have hz1 : hK.length ≤ 300 := by rw [hhK]; exact hl0
          have hz2 : bK.length ≤ 16000000 := by rw [hbK]; exact hb0
          rw [← hhK, ← hbK]
          have HhK := Lib.hid hhK; have HbK := Lib.hid hbK
          clear hhK hbK hl0 hb0 l1 l2 l3
          have n1 : IntKind.u64.wrap (KN : Int) = KN := by rw [n64_wrap, n64_nat _ (by omega)]
          have n2 : IntKind.u64.wrap (s.size : Int) = s.size := by rw [n64_wrap, n64_nat _ (by omega)]
          have n3 : IntKind.u64.wrap (cr : Int) = cr := by rw [n64_wrap, n64_nat _ (by omega)]
          go_wp2_with fail
          refine wp_region_later (by kernel_rfl) (by kernel_rfl) ?_
          repeat (go_big_quiet_step (first | (with_reducible exact calls_later (C1.out _)) | (with_reducible exact calls_later (C2.out _)) | (with_reducible exact calls_later (C3.out _)) | (with_reducible exact calls_later_same (CS.out _))))
          refine wpQuiet_nil ?_
          rintro _ ⟨⟨w5, hb5⟩, rfl⟩
          have HB5 := Lib.hid (hrel.out.1.next' hb5)
          have q5 := (World.cell?_of_block (hb5.block ba hbal)).trans hc2
          clear hb5 hx1 hx2 C1 C2 C3 CS hc1 hc2
          go_wp2_with fail
          go_roundw
          case rel => exact ⟨k + 1, by omega, by go_num, by rw [HsH.out, ← HhK.out, str_app, str_app, str_app], by rw [HsB.out, ← HbK.out, ← str_app], Lib.hid ⟨HB5.out, by rw [Htk.out, hrel.out.2, Hgk.out]; rfl⟩⟩
          case measure => simp [intOf]; omega
        · have hng : goodK (kd, s) = false := by
            unfold goodK
            by_cases h0 : 0 ≤ kd
            · rw [decide_eq_false (show ¬ kd ≤ 255 by omega), Bool.and_false]
            · rw [decide_eq_false h0, Bool.false_and]
          have hv : encV L = .tuple #[.string ⟨#[]⟩, .int .i64 2] := by
            unfold encV
            rw [if_neg (fun h => by have := hgl h; rw [hng] at this; cases this)]
          have HV := Lib.hid hv
          have HBB := Lib.hid hrel.out.1
          clear hv hng hgl hsH hsB htk hcs
          by_cases h0 : kd < 0
          · clear hg
            go_wp2_with fail
            go_ret2
            rw [HV.out]
            exact ⟨rfl, HBB.out⟩
          · have h5 : 255 < kd := by omega
            clear hg
            go_wp2_with fail
            go_ret2
            rw [HV.out]
            exact ⟨rfl, HBB.out⟩
      · obtain rfl : k = L.length := by omega
        have hok : okL L = true := by
          have := hrel.out.2
          rw [List.take_length] at this
          unfold okL; rw [decide_eq_true hl, this]; rfl
        have hv : encV L = .tuple #[.string ⟨(encB L).toArray⟩, .int .i64 0] := by unfold encV; rw [if_pos hok]
        have hh : hB L L.length = headB L := by unfold hB headB; rw [List.take_length]
        have hbb : bB L L.length = bodyB L := by unfold bB bodyB; rw [List.take_length]
        have hl0 := HLen.out L.length
        have hlb := HBl.out L.length
        rw [hh] at hl0
        rw [hbb] at hlb
        rw [hh, hbb]
        have hcs := Crc.sum_lt (headB L)
        have he : encB L = headB L ++ leb (Crc.sum (headB L)) 4 ++ bodyB L := rfl
        rw [he] at hv
        generalize hcr : Crc.sum (headB L) = cr at *
        generalize headB L = H at *
        generalize bodyB L = B at *
        have Hcr := Lib.hid hcr; have HV := Lib.hid hv
        have HBB := Lib.hid hrel.out.1
        clear hv he hh hbb hok hrel hcr
        go_wp2_with fail
        refine (refSum_is cr ⟨H.toArray⟩ (by change H.length ≤ _; omega) _ Hcr.out).mono ?_
        rintro e w' ⟨rfl, rfl⟩
        have n3 : IntKind.u64.wrap (cr : Int) = cr := by rw [n64_wrap, n64_nat _ (by omega)]
        go_wp2_with fail
        refine (put_ref_is cr 4 (by omega) (by decide) _ rfl _).mono ?_
        rintro e w8 ⟨rfl, hb8⟩
        have HB8 := Lib.hid (HBB.out.next' hb8)
        clear hb8
        have q1 : ¬ 9223372036854775807 < H.length + (leb cr 4).length := by rw [leb_length]; omega
        have q2 : ¬ 9223372036854775807 < H.length + (leb cr 4).length + B.length := by rw [leb_length]; omega
        go_wp2_with fail
        go_ret2
        rw [HV.out]
        exact ⟨by rw [← str_app, ← str_app]; rfl, HB8.out⟩
  · have h10 : ¬ L.length ≤ 16 := hl
    have hv : encV L = .tuple #[.string ⟨#[]⟩, .int .i64 2] := by
      unfold encV okL; rw [decide_eq_false hl]; rfl
    rw [hv]
    clear hv hl
    go_enter Try.func10, Try.ntmps10
    go_wp2_with fail
    go_ret2
    exact ⟨rfl, Below.refl _ _⟩
end Go.Proofs.Ytaikcehdomaebaa
