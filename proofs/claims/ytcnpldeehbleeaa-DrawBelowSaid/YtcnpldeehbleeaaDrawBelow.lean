/- DrawBelow: the walk: Next is from 0 on and below n; it hands out one number, as long as there is one. -/
import Derived.Test.YtcnpldeehbleeaaDrawTells
namespace Go.Proofs.Ytcnpldeehbleeaa
open Go.RowKit
set_option maxRecDepth 100000 in
set_option maxHeartbeats 2000000 in
theorem lawDrawBelow_any (v u : Value) (w : World) (hv : Rd Try.prog w 22 [v]) (hu : Rd Try.prog w 31 [u]) :
    Calls Try.prog 4 #[v, u] w fun e w' => e = .returned (.bool true) ∧ Below w.heap.size w w' := by
  obtain ⟨l, hl, hx⟩ := hv.ints Try.underlying22 Try.underlying30 cellsU32
  obtain ⟨ns, hns, hnx⟩ := hu.ints Try.underlying31 Try.underlying3 cellsInt
  obtain ⟨a, cap, rfl, h1, h2, h3⟩ := id hns
  obtain ⟨a0, cap0, rfl, g1, g2, g3⟩ := id hl
  obtain ⟨m, hm⟩ : ∃ m : Nat, m = min l.length 40 := ⟨_, rfl⟩
  have hmin := fun u => run_min2 (P := Try.prog) l.length 40 u #[3, 3] 3 (m : Int) (by omega)
  obtain ⟨L, hLl, rfl, hs⟩ := hl.take m (by omega)
  have hL : L.length ≤ 40 := by omega
  have hLe : L.length ≤ l.length := by omega
  have hxL : ∀ x ∈ L, 0 ≤ x ∧ x < 4294967296 := fun x hx' => wf_u32 (hx x (by rw [hLl] at hx'; exact List.mem_of_mem_take hx'))
  have hsl := run_slice_to (P := Try.prog) 22 30 a0 l.length cap0 L.length Try.underlying22 (by kernel_rfl) (by omega)
  have H3 := Lib.hid h3; have HxL := Lib.hid hxL; have HS := Lib.hid hs; have HNX := Lib.hid hnx; have HNS := Lib.hid hns
  clear h3 g3 hx hu hv hl hs hm hLl hxL hns hnx
  unfold maxLen at g2 h2
  go_enter Try.func4, Try.ntmps4
  go_wp2_with fail
  ((with_reducible refine (drawWorks_any _).mono ?_); rintro e w1 ⟨rfl, b1⟩)
  have HS1 := Lib.hid (HS.out.below b1)
  go_wp2_with fail
  refine (new_ex _ L (by omega) HxL.out _ HS1.out).mono ?_
  rintro e w2 ⟨p, q, rfl, d2, hp, hq, hpl, hql, b2⟩
  have HS2 := Lib.hid (HS1.out.below b2)
  have hw1 : w.heap.size ≤ w1.heap.size := b1.size
  have HB2 := Lib.hid (b1.next' b2)
  have HD2 := Lib.hid d2
  clear HS1 b1 b2 d2
  go_wp2_with fail
  refine (new_ex _ L (by omega) HxL.out _ HS2.out).mono ?_
  rintro e w3 ⟨p2, q2, rfl, e3, hp2, hq2, hpl2, hql2, b3⟩
  have HD3 := Lib.hid (HD2.out.later b3)
  have HB3 := Lib.hid (HB2.out.next' b3)
  have HE3 := Lib.hid e3
  clear HD2 HB2 b3 e3 HS2 hmin hsl
  have hle : w.heap.size ≤ p ∧ w.heap.size ≤ p2 ∧ p ≠ p2 ∧ p ≠ q2 ∧ p2 ≠ q := ⟨by omega, by omega, by omega, by omega, by omega⟩
  clear hp hq hp2 hq2 hpl2 hql2 hpl hql hw1
  go_wp2_with fail
  go_loopw [7] (fun i wr => ∃ (k : Nat), k ≤ L.length ∧ i = .int .i64 k ∧ Dr wr p q (L.drop k) ∧ Dr wr p2 q2 (L.drop k) ∧ Below w.heap.size w wr) (fun i _ => L.length - (intOf i).toNat)
  case atStart => exact ⟨0, Nat.zero_le _, rfl, HD3.out, HE3.out, HB3.out⟩
  case round =>
    obtain ⟨k, hk, rfl, hd, he, hb⟩ := hrel
    have HD := Lib.hid hd; have HE := Lib.hid he; have HB := Lib.hid hb
    clear hd he hb HD3 HE3 HB3
    by_cases hlt : k < L.length
    · have hdr : L.drop k = L[k] :: L.drop (k + 1) := List.drop_eq_getElem_cons hlt
      have hyb := HxL.out _ (List.getElem_mem hlt)
      obtain ⟨bl, ol, ha0, hcl⟩ : ∃ bl ol, a0 = some ⟨bl, ol, none⟩ ∧ w.cell? ⟨bl, ol + k, none⟩ = some (.int .u32 L[k]) := by
        obtain ⟨a', c', e, _, _, hh⟩ := HS.out
        obtain ⟨bl, ol, e2, hc⟩ := hh k hlt
        have e3 : a0 = a' := (Value.slice.inj e).1
        exact ⟨bl, ol, by rw [e3, e2], hc⟩
      subst ha0
      have hrl : (L.drop (k + 1)).length = L.length - (k + 1) := List.length_drop
      rw [hdr] at HD HE
      generalize L[k] = y at *
      have Hr : Hid (∃ r, r = L.drop (k + 1)) := ⟨_, rfl⟩
      obtain ⟨r, hr⟩ := Hr.out
      rw [← hr] at HD HE hrl
      have Hr := Lib.hid hr; clear hr
      have Hcl := Lib.hid hcl
      have hbl := block_lt_of_cell hcl
      have C0 := Lib.hid (left_is p q (y :: r) ((L.length : Int) - k) (by simp; omega) _ HD.out)
      have CE : Hid (nextV (y :: r) 1099511627776 = y ∧ nextL (y :: r) 1099511627776 = r) := by
        refine ⟨?_, rfl⟩
        show y % 1099511627776 = y
        omega
      clear hdr hcl
      by_cases hn0 : ns.length = 0
      · have hn00 : decide (0 < ns.length) = false := by simp [hn0]
        have hn01 : decide ((0:Int) < (ns.length : Int)) = false := by simp [hn0]
        clear hn0
        have hv1 : nextV (y :: r) (1) = y % (1) := by unfold nextV; rw [if_neg (by omega)]
        have hl1 : nextL (y :: r) (1) = r := by unfold nextL; rw [if_neg (by omega)]; rfl
        have hx0 : 0 ≤ y % (1) ∧ y % (1) < 1 := ⟨Int.emod_nonneg _ (by omega), Int.emod_lt_of_pos _ (by omega)⟩
        have hxy : y % (1) ≤ y := by
          have := Int.emod_add_mul_ediv y (1); have := Int.mul_nonneg (show (0:Int) ≤ 1 by omega) (Int.ediv_nonneg hyb.1 (show (0:Int) ≤ 1 by omega)); omega
        have hdv : (y - y % (1)) % (1) = 0 := by
          rw [Int.sub_emod, Int.emod_emod, Int.sub_self]; rfl
        generalize hxe : y % (1) = x at *
        clear hxe
        have hdv2 : ((y - x) % (1) != 0) = false := by rw [hdv]; rfl
        have C1 := Lib.hid (next_is p q (y :: r) r (1) x ⟨by omega, by omega⟩ hv1 hl1 _ HD.out)
        clear hv1 hl1 hdv
        go_wp2_with fail
        refine C0.out.mono ?_; rintro e w' ⟨rfl, rfl⟩
        go_wp2_with fail
        refine C1.out.mono ?_; rintro e wa ⟨rfl, hd', hk'⟩
        have HE' := Lib.hid (HE.out.kept hk' (by show ¬ p2 = p; omega) (by show ¬ q2 = p; omega))
        have HB' := Lib.hid (HB.out.trans (hk'.below (B := w.heap.size) HB.out.size (fun z hz => by omega)))
        have HD' := Lib.hid hd'
        clear hd' hk' HD HE HB C0 C1
        have hcell' : wa.cell? ⟨bl, ol + k, none⟩ = some (.int .u32 y) := (World.cell?_of_block (HB'.out.block bl hbl)).trans Hcl.out
        go_wp2_with fail
        refine (next_is p2 q2 (y :: r) r _ y (by omega) CE.out.1 CE.out.2 _ HE'.out).mono ?_; rintro e wb ⟨rfl, he', hk'⟩
        have HD2 := Lib.hid (HD'.out.kept hk' (by show ¬ p = p2; omega) (by show ¬ q = p2; omega))
        have HB2 := Lib.hid (HB'.out.trans (hk'.below (B := w.heap.size) HB'.out.size (fun z hz => by omega)))
        have HE2 := Lib.hid he'
        clear he' hk' HD' HE' HB' hcell'
        have hcell' : wb.cell? ⟨bl, ol + k, none⟩ = some (.int .u32 y) := (World.cell?_of_block (HB2.out.block bl hbl)).trans Hcl.out
        go_wp2_with fail
        refine (left_any p q r _ HD2.out).mono ?_; rintro e w' ⟨rfl, rfl⟩
        go_wp2_with fail
        go_roundw
        case rel => exact ⟨k + 1, by omega, by go_num, by rw [Hr.out] at HD2; exact HD2.out, by rw [Hr.out] at HE2; exact HE2.out, HB2.out⟩
        case measure => simp [intOf]; omega

      · have hn00 : decide (0 < ns.length) = true := by simp; omega
        have hn01 : decide ((0:Int) < (ns.length : Int)) = true := by simp; omega
        obtain ⟨j, hj⟩ : ∃ j : Nat, j = k % ns.length := ⟨_, rfl⟩
        have hjl : j < ns.length := by rw [hj]; exact Nat.mod_lt _ (by omega)
        have hjm : (k : Int) % (ns.length : Int) = j := by rw [hj]; exact (Int.natCast_emod _ _).symm
        have hjt : Int.tmod (k : Int) (ns.length : Int) = j := by rw [Int.tmod_eq_emod_of_nonneg (by omega)]; exact hjm
        have hnz : ((ns.length : Int) == 0) = false := by rw [beq_eq_false_iff_ne]; omega
        obtain ⟨bn, on, ha1, hcn⟩ : ∃ bn on, a = some ⟨bn, on, none⟩ ∧ w.cell? ⟨bn, on + j, none⟩ = some (.int .i64 ns[j]) := by
          obtain ⟨a', c', e, _, _, hh⟩ := HNS.out
          obtain ⟨bn, on, e2, hc⟩ := hh j hjl
          have e3 : a = a' := (Value.slice.inj e).1
          exact ⟨bn, on, by rw [e3, e2], hc⟩
        subst ha1
        have hzb := wf_i64 (HNX.out _ (List.getElem_mem hjl))
        have hcn' : wr.cell? ⟨bn, on + j, none⟩ = some (.int .i64 ns[j]) := (World.cell?_of_block (HB.out.block bn (block_lt_of_cell hcn))).trans hcn
        generalize ns[j] = z at *
        have Hj := Lib.hid hj
        have Hn0 := Lib.hid hn0
        clear hj hcn hn0
        by_cases hz1 : z < 1
        · have hnl : (y :: r).length = L.length - k := by simp; omega
          have hnv : nextV (y :: r) z = 0 := by unfold nextV; rw [if_pos hz1]
          have hnx : nextL (y :: r) z = y :: r := by unfold nextL; rw [if_pos hz1]
          have hv1 : nextV (y :: r) 1 = 0 := by show y % 1 = 0; omega
          have hz1' : decide (z < 1) = true := decide_eq_true hz1
          have hz2 : decide (1 ≤ z) = false := decide_eq_false (by omega)
          have C1 := Lib.hid (next_is p q (y :: r) (y :: r) z 0 hzb hnv hnx _ HD.out)
          have Hz := Lib.hid hz1
          clear hnv hnx hz1 hnl
          go_wp2_with fail
          refine C0.out.mono ?_; rintro e w' ⟨rfl, rfl⟩
          go_wp2_with fail
          refine C1.out.mono ?_; rintro e wa ⟨rfl, hd', hk'⟩
          have HE' := Lib.hid (HE.out.kept hk' (by show ¬ p2 = p; omega) (by show ¬ q2 = p; omega))
          have HB' := Lib.hid (HB.out.trans (hk'.below (B := w.heap.size) HB.out.size (fun z hz => by omega)))
          have HD' := Lib.hid hd'
          clear hd' hk' HD HE HB C0 C1
          go_wp2_with fail
          refine (left_is p q (y :: r) ((L.length : Int) - k) (by simp; omega) _ HD'.out).mono ?_; rintro e w' ⟨rfl, rfl⟩
          go_wp2_with fail
          refine (next_is p q (y :: r) r 1 0 (by omega) hv1 rfl _ HD'.out).mono ?_; rintro e wc ⟨rfl, hd', hk'⟩
          have HE1 := Lib.hid (HE'.out.kept hk' (by show ¬ p2 = p; omega) (by show ¬ q2 = p; omega))
          have HB1 := Lib.hid (HB'.out.trans (hk'.below (B := w.heap.size) HB'.out.size (fun z hz => by omega)))
          have HD1 := Lib.hid hd'
          clear hd' hk' HD' HE' HB'
          have hcell' : wc.cell? ⟨bl, ol + k, none⟩ = some (.int .u32 y) := (World.cell?_of_block (HB1.out.block bl hbl)).trans Hcl.out
          go_wp2_with fail
          refine (next_is p2 q2 (y :: r) r _ y (by omega) CE.out.1 CE.out.2 _ HE1.out).mono ?_; rintro e wb ⟨rfl, he', hk'⟩
          have HD2 := Lib.hid (HD1.out.kept hk' (by show ¬ p = p2; omega) (by show ¬ q = p2; omega))
          have HB2 := Lib.hid (HB1.out.trans (hk'.below (B := w.heap.size) HB1.out.size (fun z hz => by omega)))
          have HE2 := Lib.hid he'
          clear he' hk' HD1 HE1 HB1 hcell'
          have hcell' : wb.cell? ⟨bl, ol + k, none⟩ = some (.int .u32 y) := (World.cell?_of_block (HB2.out.block bl hbl)).trans Hcl.out
          go_wp2_with fail
          refine (left_any p q r _ HD2.out).mono ?_; rintro e w' ⟨rfl, rfl⟩
          go_wp2_with fail
          go_roundw
          case rel => exact ⟨k + 1, by omega, by go_num, by rw [Hr.out] at HD2; exact HD2.out, by rw [Hr.out] at HE2; exact HE2.out, HB2.out⟩
          case measure => simp [intOf]; omega

        · have hz1' : decide (z < 1) = false := decide_eq_false hz1
          have hz2 : decide (1 ≤ z) = true := decide_eq_true (by omega)
          have hv1 : nextV (y :: r) (z) = y % (z) := by unfold nextV; rw [if_neg (by omega)]
          have hl1 : nextL (y :: r) (z) = r := by unfold nextL; rw [if_neg (by omega)]; rfl
          have hx0 : 0 ≤ y % (z) ∧ y % (z) < z := ⟨Int.emod_nonneg _ (by omega), Int.emod_lt_of_pos _ (by omega)⟩
          have hxy : y % (z) ≤ y := by
            have := Int.emod_add_mul_ediv y (z); have := Int.mul_nonneg (show (0:Int) ≤ z by omega) (Int.ediv_nonneg hyb.1 (show (0:Int) ≤ z by omega)); omega
          have hdv : (y - y % (z)) % (z) = 0 := by
            rw [Int.sub_emod, Int.emod_emod, Int.sub_self]; rfl
          generalize hxe : y % (z) = x at *
          clear hxe
          have hdv2 : ((y - x) % (z) != 0) = false := by rw [hdv]; rfl
          have C1 := Lib.hid (next_is p q (y :: r) r (z) x ⟨by omega, by omega⟩ hv1 hl1 _ HD.out)
          clear hv1 hl1 hdv
          go_wp2_with fail
          refine C0.out.mono ?_; rintro e w' ⟨rfl, rfl⟩
          go_wp2_with fail
          refine C1.out.mono ?_; rintro e wa ⟨rfl, hd', hk'⟩
          have HE' := Lib.hid (HE.out.kept hk' (by show ¬ p2 = p; omega) (by show ¬ q2 = p; omega))
          have HB' := Lib.hid (HB.out.trans (hk'.below (B := w.heap.size) HB.out.size (fun z hz => by omega)))
          have HD' := Lib.hid hd'
          clear hd' hk' HD HE HB C0 C1
          have hcell' : wa.cell? ⟨bl, ol + k, none⟩ = some (.int .u32 y) := (World.cell?_of_block (HB'.out.block bl hbl)).trans Hcl.out
          go_wp2_with fail
          refine (next_is p2 q2 (y :: r) r _ y (by omega) CE.out.1 CE.out.2 _ HE'.out).mono ?_; rintro e wb ⟨rfl, he', hk'⟩
          have HD2 := Lib.hid (HD'.out.kept hk' (by show ¬ p = p2; omega) (by show ¬ q = p2; omega))
          have HB2 := Lib.hid (HB'.out.trans (hk'.below (B := w.heap.size) HB'.out.size (fun z hz => by omega)))
          have HE2 := Lib.hid he'
          clear he' hk' HD' HE' HB' hcell'
          have hcell' : wb.cell? ⟨bl, ol + k, none⟩ = some (.int .u32 y) := (World.cell?_of_block (HB2.out.block bl hbl)).trans Hcl.out
          go_wp2_with fail
          refine (left_any p q r _ HD2.out).mono ?_; rintro e w' ⟨rfl, rfl⟩
          go_wp2_with fail
          go_roundw
          case rel => exact ⟨k + 1, by omega, by go_num, by rw [Hr.out] at HD2; exact HD2.out, by rw [Hr.out] at HE2; exact HE2.out, HB2.out⟩
          case measure => simp [intOf]; omega

    · have hkL : k = L.length := by omega
      have hdr : L.drop k = [] := by rw [hkL]; exact List.drop_length
      rw [hdr] at HD HE
      clear hdr
      go_wp2_with fail
      refine (next_is p q [] [] 5 0 (by omega) rfl rfl _ HD.out).mono ?_; rintro e wa ⟨rfl, hd', hk'⟩
      have HE' := Lib.hid (HE.out.kept hk' (by show ¬ p2 = p; omega) (by show ¬ q2 = p; omega))
      have HB' := Lib.hid (HB.out.trans (hk'.below (B := w.heap.size) HB.out.size (fun z hz => by omega)))
      have HD' := Lib.hid hd'
      clear hd' hk' HD HE HB
      go_wp2_with fail
      refine (left_is p q [] 0 rfl _ HD'.out).mono ?_; rintro e w' ⟨rfl, rfl⟩
      go_wp2_with fail
      refine (left_is p2 q2 [] 0 rfl _ HE'.out).mono ?_; rintro e w' ⟨rfl, rfl⟩
      go_wp2_with fail
      go_ret
      exact ⟨rfl, HB'.out⟩
end Go.Proofs.Ytcnpldeehbleeaa
