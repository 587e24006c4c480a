/- THE WALKS over frame: decode. -/
import Derived.Test.YtaikcehdomaebaaFrDecA
namespace Go.Proofs.Ytaikcehdomaebaa
open Go.RowKit Go.Shelf
attribute [local go_sem] Oper.semAt_some
set_option maxHeartbeats 1000000 in
set_option maxRecDepth 100000 in
theorem decode_any (s : ByteArray) (fr q : Nat) (w : World) (hs : s.size ≤ 1000000) (hro : Ro true w q ⟨s, 0, none⟩) (hfr : Blk w fr #[.pointer (some ⟨q, 0, none⟩), .string s] 63 (0, 0)) (hne : fr ≠ q) :
    Calls Try.prog 31 #[.pointer (some ⟨fr, 0, none⟩)] w fun e w' =>
      ((∃ v L, e = .returned v ∧ decV s = (0, L) ∧ SlS w' v L) ∨ (∃ c, e = .panicked (errCh c) ∧ c ≠ 0 ∧ decV s = (c, []))) ∧ Kept (· = q) w w' := by
  refine (callsIn_wide (n := 5)).1 ?_
  have hql := hro.lt
  have hfl := hfr.lt
  obtain ⟨i0, hi, hz0, hz1, hz2⟩ := info_parts infoEn
  refine callsIn_of_wp_marks Try.func31 rfl trivial ?_ rfl
  simp only [Try.ntmps31, List.size_toArray, List.length_cons, List.length_nil, Nat.reduceAdd, Nat.reduceSub, Array.replicate_succ, Array.replicate_zero, List.push_toArray, List.append_toArray, List.nil_append, List.cons_append]
  gi_wp2_with (((with_reducible (refine And.intro ?_ ?_)); (exact trivial)); gi_at_call 40; refine (callsIn_wide.2 (entries_any fr _)).mono ?_; rintro e w1 ⟨Br, rfl, hBr, hBl, hb1⟩)
  have hB0 : Below w.heap.size w w1 := ((Below.refl w.heap.size w).alloc (Nat.le_refl _) _).trans (hb1.mono (by simp))
  have hsz1 : w.heap.size + 1 ≤ w1.heap.size := by have := hb1.size; simpa using this
  have hT1 : Blk w1 w.heap.size #[.slice none 0 0] 83 (0, 0) := (Blk.new _ _ _ _).below hb1 (by simp)
  have hfr1 := hfr.below hB0 hfl
  have hro1 := hro.later hB0
  have hbl : Br < w1.heap.size := hBr.lt
  have hBq : Br ≠ q := by simp at hBl; omega
  refine wpIn_rangeOver (F := Fence.wide) (α := En) rfl (by decide) (gf := 49) (lb := #[.pointer (some ⟨Br, 0, none⟩)]) rfl trivial (enters_of Try.func49 (by kernel_rfl) rfl)
    (fun x : En => #[Value.agg #[.int .i64 (x.1 : Nat), .int .u64 (x.2.1 : Nat), .int .u32 (x.2.2 : Nat)]]) (fun _ => rfl) (Kept (· = q)) KpT (fun xs W => ∃ R', RS.head ⟨s, 0, none⟩ = some (xs, R') ∧ Ro true W q R') (fun ch _ _ => ch = errCh 23 ∧ RS.head ⟨s, 0, none⟩ = none) 17
    ?hit ?hSt (InvD w w1 fr q s) ?hIs ?hIp ?hIa ?hSp KpT.trans ?hKb ?h0 (AheadD w w1 fr q Br s) ?hAp ?hassign ?hbody ?hdone ?hthrow
  case hit =>
    intro l J W hW hJ hY h0
    exact entries1_in 4 (by decide) l Br fr q ⟨s, 0, none⟩ s J hJ hY W (hro1.later hW) (hBr.below hW hbl) (hfr1.below hW hfr1.lt) hBq hne h0
  case hSt =>
    intro A B k o h hk ho _
    exact (h.block k (Array.getElem?_eq_some_iff.1 ho).1 (by omega)).trans ho
  case hIs =>
    intro pre A B h hk
    exact h.to (h.kept.trans hk) hk.size (fun k cs t f hb hkq => hk.block k hb.lt hkq) (by omega) (by omega) hne
  case hIp =>
    intro pre A l o o' h hl ho hc
    have hl' : w.heap.size ≤ l := by omega
    exact h.to (h.kept.put hl') (by simp) (fun k cs t f hb _ => put_blk ho hc k cs t f hb trivial) (by omega) (by omega) hne
  case hIa =>
    intro pre A o h
    exact h.to (h.kept.alloc o) (by simp) (fun k cs t f hb _ => Below.heap_alloc A o k hb.lt) (by omega) (by omega) hne
  case hSp =>
    rintro xs A l o o' ⟨R', h1, h2⟩ hl ho hc
    exact ⟨R', h1, h2.put ho hc⟩
  case hKb =>
    intro W l o o' hl ho hc
    exact KpT.put ho hc
  case h0 => exact ⟨⟨_, hT1, World.ownsRow_nil _ _ _ _⟩, hfr1, Kept.of_below hB0, Nat.le_refl _⟩
  case hAp =>
    rintro pre x a1 W l o o' ⟨b, T, hT, rfl, hb, hI⟩ hl ho hc
    have hl' : w.heap.size ≤ l := by omega
    exact ⟨b, T, hT, rfl, (put_blk ho hc b _ _ _ hb trivial).trans hb, hI.to (hI.kept.put hl') (by simp) (fun k cs t f h _ => put_blk ho hc k cs t f h trivial) (by omega) (by omega) hne⟩
  case hassign =>
    intro l pre x W K hI hlen hK
    gi_wp2
    refine hK _ _ ⟨W.heap.size, w.heap.size, rfl, rfl, Blk.new _ _ _ _, hI.to (hI.kept.alloc _) (by simp) (fun k cs t f hb _ => Below.heap_alloc W _ k hb.lt) (by omega) (by omega) hne⟩ ⟨by simp, fun k o _ hk ho => (Below.heap_alloc W _ k (Array.getElem?_eq_some_iff.1 hk).1).trans hk⟩ ⟨by simp, fun k cs t f hk _ _ => Below.heap_alloc W _ k (Array.getElem?_eq_some_iff.1 hk).1⟩
  case hbody =>
    rintro l pre x a1 W ⟨b, T, hT, rfl, hb, hI⟩ hlen
    subst hT
    obtain ⟨v, hv, hrow⟩ := hI.row
    have hc := hv.cell 0
    have hcf := hv.free 0 (Or.inr (Nat.zero_le _))
    have b0 := hb.cell 0; have b1 := hb.cell 1; have b2 := hb.cell 2
    change W.cell? ⟨w.heap.size, 0, none⟩ = some v at hc
    change W.cell? ⟨b, 0, none⟩ = some (.int .i64 (x.1 : Nat)) at b0
    change W.cell? ⟨b, 1, none⟩ = some (.int .u64 (x.2.1 : Nat)) at b1
    change W.cell? ⟨b, 2, none⟩ = some (.int .u32 (x.2.2 : Nat)) at b2
    have hsz := hI.kept.size
    gi_wp2_with (gi_at_builtin; refine wpListIn_append_own_at (F := _) _ rfl _ _ 83 rfl w.heap.size 88 i0 (.agg #[.int .i64 0, .int .u64 0, .int .u32 0]) 3 24 Try.underlying83 hi hz0 hz1 hz2 rfl (by decide) _ _ _ rfl (hrow.alloc _) ⟨W.heap.size, 0, none⟩ 1 1 (enC x) rfl rfl (news_of (Blk.new _ _ _ _)) (by intro u hu; simp only [enC, List.mem_cons, List.not_mem_nil, or_false] at hu; rcases hu with rfl | rfl | rfl <;> rfl) (by unfold maxLen; omega) (by omega) (by simp; omega) ?_; intro v' w2 hown' hgrow _ hat; obtain ⟨g', cap', rfl⟩ := ownsRow_succ hown'; obtain ⟨hv1, hv2, hr2, hk2, hb2⟩ := Boxed.appended hv (by decide) hrow hI.kept.size (Nat.le_refl _) hown' hgrow; have hc1 := hv1.cell; have hf1 := hv1.frozen)
    refine ⟨hk2.from _, ⟨hb2.size, fun k cs t f hk h1 h2 => ?_⟩, ⟨⟨_, hv2, by simpa using hr2⟩, hI.fr.below hb2 hfl, hI.kept.andBelow hb2, Nat.le_trans hI.size hb2.size⟩⟩
    have hkT : k ≠ w.heap.size := fun e => by subst e; rw [show W.heap[w.heap.size]? = _ from hv] at hk; cases hk; exact h1 rfl
    refine (heap_setCell_other _ _ _ _ hkT).trans ((hgrow.block k (by have := (Array.getElem?_eq_some_iff.1 hk).1; simp; omega) (fun e => ?_)).trans (Below.heap_alloc W _ k (Array.getElem?_eq_some_iff.1 hk).1))
    obtain ⟨_, cur, hcur⟩ := ownsRow_blk hrow (show v.ownBlock = some k from e.symm)
    rw [show W.heap[k]? = _ from hcur] at hk; cases hk; exact h2 rfl
  case hdone =>
    rintro D es W hD ⟨R', hh, hr⟩ ⟨⟨v, hv, hrow⟩, h2, h3, h4⟩ hK
    have hc := hv.cell 0
    change W.cell? ⟨w.heap.size, 0, none⟩ = some v at hc
    have k0 := h2.cell 0; have k1 := h2.cell 1
    change W.cell? ⟨fr, 0, none⟩ = some (.pointer (some ⟨q, 0, none⟩)) at k0
    change W.cell? ⟨fr, 1, none⟩ = some (.string s) at k1
    gi_wp2_with fail
    have hRs : R'.s = s := RS.head_s hh
    have hat := hr.le
    rw [hRs] at hat
    have hat' : (R'.at_ : Int) ≤ (s.size : Int) := by omega
    gi_wp2_with (((with_reducible (refine And.intro ?_ ?_)); (exact trivial)); gi_at_call 41; refine (callsIn_wide.2 (at_any true q R' W hr)).mono ?_; rintro e w2 ⟨rfl, rfl⟩)
    have C4 := Lib.hid (rU32_any true q R' W hr)
    have hs4 : (R'.num 4).2.s = s := (RS.num_s R' 4).trans hRs
    obtain ⟨n4, hn4⟩ : ∃ n, n = (R'.num 4).1 := ⟨_, rfl⟩
    obtain ⟨R4, hR4⟩ : ∃ R, R = (R'.num 4).2 := ⟨_, rfl⟩
    rw [← hn4, ← hR4] at C4
    rw [← hR4] at hs4
    have hdec : decV s = (if R4.f.isSome then (23, []) else if n4 ≠ Crc.sum (s.extract 0 R'.at_).data.toList then (23, []) else if dsum es (s.size - R4.at_) ≠ some 0 then (23, []) else match R4.bods es with
      | none => (24, [])
      | some L => (0, L) : Int × List (Int × ByteArray)) := by unfold decV; rw [hh, hn4, hR4]; rfl
    clear hn4 hR4
    have hkf : ∀ w', Kept (· = q) W w' → Blk w' fr #[.pointer (some ⟨q, 0, none⟩), .string s] 63 (0, 0) := fun _ hk => hk.blk h2 hne
    have hpan : ∀ w' c a, a = Act.mk a.tmps [{ target := .collected D, args := #[] }] → Kept (· = q) W w' → c ≠ 0 → decV s = (c, []) → bodyPostM Fence.wide 5 Try.prog Try.f31 (fun e w' => ((∃ v L, e = .returned v ∧ decV s = (0, L) ∧ SlS w' v L) ∨ (∃ c, e = .panicked (errCh c) ∧ c ≠ 0 ∧ decV s = (c, []))) ∧ Kept (· = q) w w') (.panic (errCh c)) a w' := by
      intro w' c a ha hk hc hd
      have hK' : w'.heap[D]? = some (.deferred (some [])) := (hk.block D (Array.getElem?_eq_some_iff.1 hK).1 (by omega)).trans hK
      show LeavesInM Fence.wide 5 Try.prog _ a.tmps _ a.defers _ _
      rw [ha]
      exact leavesM_panic hK' ⟨.inr ⟨c, rfl, hc, hd⟩, (h3.trans hk).put (by omega)⟩
    have Hkf := Lib.hid hkf; have Hpan := Lib.hid hpan; have Hdec := Lib.hid hdec; have Hh := Lib.hid hh; have Hrow := Lib.hid hrow; have Hv := Lib.hid hv; have H2 := Lib.hid h2; have H3 := Lib.hid h3
    have HK := Lib.hid hK; have Hs4 := Lib.hid hs4; have Hw := Lib.hid (⟨hql, hfl, hD, h4, hsz1⟩ : q < w.heap.size ∧ fr < w.heap.size ∧ w1.heap.size ≤ D ∧ w1.heap.size ≤ W.heap.size ∧ w.heap.size + 1 ≤ w1.heap.size)
    clear hc hkf hpan hdec hh hrow hv h2 h3 hK hr hs4 hro hfr hBr hBl hb1 hB0 hsz1 hT1 hfr1 hro1 hbl hBq hD h4 hql hfl hat hRs
    gi_wp2_with (((with_reducible (refine And.intro ?_ ?_)); (exact trivial)); gi_at_call 42; refine (callsIn_wide.2 C4.out).mono ?_; rintro e w2 ⟨rfl, hr2, hk2⟩; have k0' : w2.cell? ⟨fr, 0, none⟩ = some (.pointer (some ⟨q, 0, none⟩)) := (Hkf.out _ hk2).cell 0; have k1' : w2.cell? ⟨fr, 1, none⟩ = some (.string s) := (Hkf.out _ hk2).cell 1; have Hk2 := Lib.hid hk2; clear hk2 k0 k1)
    clear C4
    cases hf : R4.f with
    | some ci =>
      obtain ⟨c, i⟩ := ci
      have CE := Lib.hid (err_some q R4 w2 hr2 c i hf)
      have Hr2 := Lib.hid hr2
      clear hr2
      have hf' := Lib.hid hf
      clear hf
      gi_wp2_with (((with_reducible (refine And.intro ?_ ?_)); (exact trivial)); gi_at_call 44; refine (callsIn_wide.2 CE.out).mono ?_; rintro e w3 ⟨b3, rfl, _, _, hb3⟩; have Hb3 := Lib.hid hb3; clear hb3)
      gi_wp2_with (first | (((with_reducible (refine And.intro ?_ ?_)); (exact trivial)); gi_at_call 43; refine (callsIn_wide.2 (need_no 23 _)).mono ?_; rintro e w4 ⟨rfl, rfl⟩) | ((with_reducible (refine And.intro ?_ ?_)); (exact trivial)))
      exact Hpan.out _ _ _ rfl (Hk2.out.trans (Kept.of_below Hb3.out)) (by decide) (by rw [Hdec.out, if_pos (by rw [hf'.out]; rfl)])
    | none =>
      have CE := Lib.hid (err_none q R4 w2 hr2 hf)
      have Hr2 := Lib.hid hr2
      clear hr2
      have hf' := Lib.hid hf
      clear hf
      gi_wp2_with (((with_reducible (refine And.intro ?_ ?_)); (exact trivial)); gi_at_call 44; refine (callsIn_wide.2 CE.out).mono ?_; rintro e w3 ⟨rfl, hb3⟩; have k0 : w3.cell? ⟨fr, 0, none⟩ = some (.pointer (some ⟨q, 0, none⟩)) := (Hkf.out _ (Hk2.out.trans (Kept.of_below hb3))).cell 0; have k1 : w3.cell? ⟨fr, 1, none⟩ = some (.string s) := (Hkf.out _ (Hk2.out.trans (Kept.of_below hb3))).cell 1; have Hb3 := Lib.hid hb3; clear hb3)
      have hse : (s.extract 0 R'.at_).size ≤ 9223372036854775807 := by rw [ByteArray.size_extract]; omega
      obtain ⟨n5, hn5⟩ : ∃ n, n = Crc.sum (s.extract 0 R'.at_).data.toList := ⟨_, rfl⟩
      have Hn5 := Lib.hid hn5
      have Hdec1 : Hid (decV s = (if n4 ≠ n5 then (23, []) else if dsum es (s.size - R4.at_) ≠ some 0 then (23, []) else match R4.bods es with
        | none => (24, [])
        | some L => (0, L) : Int × List (Int × ByteArray))) := Lib.hid (by rw [Hdec.out, if_neg (by rw [hf'.out]; decide), ← hn5])
      clear hn5 Hdec
      gi_wp2_with (((with_reducible (refine And.intro ?_ ?_)); (exact trivial)); gi_at_call 24; refine (callsIn_wide.2 (sum_is n5 _ hse _ Hn5.out.symm)).mono ?_; rintro e w4 ⟨rfl, hb4⟩; have q0 : w4.cell? ⟨fr, 0, none⟩ = some (.pointer (some ⟨q, 0, none⟩)) := (Hkf.out _ ((Hk2.out.trans (Kept.of_below Hb3.out)).trans (Kept.of_below hb4))).cell 0; have Hb4 := Lib.hid hb4; clear hb4)
      by_cases h45 : n4 ≠ n5
      · have kb : ((n4 : Int) == (n5 : Int)) = false := by simp; omega
        rw [kb]
        refine ⟨trivial, (callsIn_wide.2 (need_no 23 _)).mono ?_⟩
        rintro e w5 ⟨rfl, rfl⟩
        exact Hpan.out _ _ _ rfl ((Hk2.out.trans (Kept.of_below Hb3.out)).trans (Kept.of_below Hb4.out)) (by decide) (by rw [Hdec1.out, if_pos h45])
      replace h45 := Decidable.not_not.1 h45
      have kb : ((n4 : Int) == (n5 : Int)) = true := by simp; omega
      rw [kb]
      refine ⟨trivial, (callsIn_wide.2 (need_yes 23 _)).mono ?_⟩
      rintro e w5 ⟨⟨v5, rfl⟩, rfl⟩
      have Hdec2 : Hid (decV s = (if dsum es (s.size - R4.at_) ≠ some 0 then (23, []) else match R4.bods es with
        | none => (24, [])
        | some L => (0, L) : Int × List (Int × ByteArray))) := Lib.hid (by rw [Hdec1.out, if_neg (fun h => h h45)])
      have Hk4 : Hid (Kept (· = q) W w4) := Lib.hid ((Hk2.out.trans (Kept.of_below Hb3.out)).trans (Kept.of_below Hb4.out))
      have Hr4 : Hid (Ro true w4 q R4) := Lib.hid ((Hr2.out.later Hb3.out).later Hb4.out)
      have hle4 := Hr4.out.le
      rw [Hs4.out] at hle4
      obtain ⟨left0, hl0⟩ : ∃ n, s.size - R4.at_ = n := ⟨_, rfl⟩
      rw [hl0] at Hdec2
      have hl0' : (s.size : Int) - (R4.at_ : Int) = (left0 : Int) := by omega
      have CL := left_any true q R4 w4 Hr4.out
      rw [Hs4.out, hl0'] at CL
      have HCL := Lib.hid CL
      have hwl := wrapU left0 (by omega)
      have hl0s : left0 ≤ 1000000 := by omega
      clear CL hl0 hl0' hle4 h45 kb Hdec1 Hn5 hse k0 k1 k0' k1' CE Hr2 hf'
      obtain ⟨a, cap, rfl, hlc, hcm, hjunk⟩ := id (SlE.of (q := q) Hrow.out Hw.out.1)
      clear hjunk
      have Hsl := Lib.hid (SlE.of (q := q) Hrow.out Hw.out.1)
      have hle : es.length ≤ 16 := RS.head_len Hh.out
      clear Hrow
      unfold maxLen at hcm
      gi_wp2_with (((with_reducible (refine And.intro ?_ ?_)); (exact trivial)); gi_at_call 45; refine (callsIn_wide.2 HCL.out).mono ?_; rintro e w5 ⟨rfl, hb5⟩; have hkk := Hk4.out.trans (Kept.of_below hb5); have t0 : w5.cell? ⟨w.heap.size, 0, none⟩ = some (.slice a es.length cap) := (hkk.blk Hv.out (by have := Hw.out.1; omega)).cell 0; have Hk5 := Lib.hid hkk; have Hr5 := Lib.hid (Hr4.out.later hb5); clear hkk hb5)
      clear hwl HCL q0 Hr4 Hk4 Hb4 Hb3 Hk2 H2 Hs4
      gi_loopw [7, 9, 55] (fun a7 _ i wr => ∃ (k lf : Nat), k ≤ es.length ∧ lf ≤ left0 ∧ i = .int .i64 k ∧ a7 = .int .u64 lf ∧ Hid (dsum es left0 = dsum (es.drop k) lf ∧ Kept (· = q) W wr ∧ Ro true wr q R4)) (fun _ _ i _ => es.length - (intOf i).toNat)
      case atStart => exact ⟨0, left0, Nat.zero_le _, Nat.le_refl _, rfl, rfl, Lib.hid ⟨rfl, Hk5.out, Hr5.out⟩⟩
      case round =>
        obtain ⟨k, lf, hk, hlf, rfl, rfl, hrel⟩ := hrel
        clear t0 Hk5 Hr5
        by_cases hlt : ¬ k < es.length
        · obtain rfl : k = es.length := by omega
          gi_wp2_with fail
          obtain ⟨hr1, hr2, hr3⟩ := hrel.out
          rw [List.drop_length] at hr1
          have hr1' : dsum es left0 = some lf := hr1
          by_cases hz : lf ≠ 0
          · have kb : ((lf : Int) == 0) = false := by simp; omega
            rw [kb]
            refine ⟨trivial, (callsIn_wide.2 (need_no 23 _)).mono ?_⟩
            rintro e w5 ⟨rfl, rfl⟩
            exact Hpan.out _ _ _ rfl hr2 (by decide) (by rw [Hdec2.out, if_pos (by rw [hr1']; intro h; exact hz (Option.some.inj h))])
          obtain rfl := Decidable.not_not.1 hz
          have Hdec3 : Hid (decV s = (match R4.bods es with
            | none => (24, [])
            | some L => (0, L) : Int × List (Int × ByteArray))) := Lib.hid (by rw [Hdec2.out, if_neg (fun h => h hr1')])
          have Hlong : Hid (∀ x ∈ es, x.2.1 ≤ left0) := Lib.hid (dsum_le es left0 0 hr1')
          have Hk1 := Lib.hid hr2; have Hr1 := Lib.hid hr3
          obtain ⟨wo, rfl⟩ : ∃ wo : World, wo = wr := ⟨_, rfl⟩
          have t0 : wo.cell? ⟨w.heap.size, 0, none⟩ = some (.slice a es.length cap) := (hr2.blk Hv.out (by have := Hw.out.1; omega)).cell 0
          clear hr1 hr2 hr3 hr1' hrel hlt hk hlf Hdec2 hz
          refine ⟨trivial, (callsIn_wide.2 (need_yes 23 _)).mono ?_⟩
          rintro e w6 ⟨⟨v6, rfl⟩, rfl⟩
          gi_wp2_with fail
          gi_loopw [2, 11, 74] (fun a2 _ i wr => ∃ (k : Nat) (acc : List (Int × ByteArray)) (Rk : RS) (a' : Option Addr) (c' : Nat), k ≤ es.length ∧ i = .int .i64 k ∧ a2 = .slice a' k c' ∧ Hid (R4.bods es = (Rk.bods (es.drop k)).map (acc ++ ·) ∧ acc.length = k ∧ wr.ownsRow W.heap.size 44 2 (.slice a' k c') k (acc.flatMap secC) ∧ Kept (· = q) W wr ∧ Ro true wr q Rk)) (fun _ _ i _ => es.length - (intOf i).toNat)
          case atStart => exact ⟨0, [], R4, none, 0, Nat.zero_le _, rfl, rfl, Lib.hid ⟨by simp, rfl, World.ownsRow_nil _ _ _ _, Hk1.out, Hr1.out⟩⟩
          case round =>
            obtain ⟨k, acc, Rk, a', c', hk, rfl, rfl, hrel⟩ := hrel
            clear t0 Hk1 Hr1
            by_cases hlt : ¬ k < es.length
            · obtain rfl : k = es.length := by omega
              gi_wp2_with fail
              obtain ⟨r1, r2, r3, r4, _⟩ := hrel.out
              rw [List.drop_length] at r1
              have hd : decV s = (0, acc) := by
                rw [Hdec3.out, r1]; show (0, acc ++ []) = _; rw [List.append_nil]
              have hK2 : wr.heap[D]? = some (.deferred (some [])) := (r4.block D (Array.getElem?_eq_some_iff.1 HK.out).1 (by have := Hw.out; omega)).trans HK.out
              refine ⟨by simp, .inl ⟨_, _, rfl, run_takeDeferred hK2, ?_⟩⟩
              exact ⟨.slice a' es.length c', by simp [results, go_sem], .inl ⟨_, _, rfl, hd, SlS.of r2 (ownsRow_putObj r3 _ hK2 rfl)⟩, (H3.out.trans r4).put (by have := Hw.out; omega)⟩
            replace hlt := Decidable.not_not.1 hlt
            obtain ⟨_, _, e0, _, _, hcs⟩ := Hsl.out.kept hrel.out.2.2.2.1
            obtain ⟨bl, ol, e1, hbl, hbq, q0, q1, q2⟩ := hcs k hlt
            obtain rfl : a = some ⟨bl, ol, none⟩ := (Value.slice.inj e0).1.trans e1
            have hx1l := Hlong.out _ (List.getElem_mem hlt)
            have hbo : R4.bods es = (Rk.bods (es[k] :: es.drop (k + 1))).map (acc ++ ·) := by rw [hrel.out.1, List.drop_eq_getElem_cons hlt]
            generalize es[k] = x at *
            obtain ⟨x0, x1, x2⟩ := x
            simp only at q0 q1 q2 hx1l
            clear hcs e0 e1
            have hlt' : (k : Int) < (es.length : Int) := by omega
            have Hbl := Lib.hid hbl; have Hbo := Lib.hid hbo
            clear hbl hbq hbo
            gi_wp2_with fail
            obtain ⟨_, hal, hrow, hkw, hrw⟩ := hrel.out
            have hx1w : IntKind.i64.wrap (x1 : Int) = (x1 : Int) := wrap_small _ (by omega) (by omega)
            obtain ⟨wx, hwx⟩ : ∃ wx, wx = wr.alloc (.cells #[.int .i64 (x0 : Nat), .int .u64 (x1 : Nat), .int .u32 (x2 : Nat)] 88) := ⟨_, rfl⟩
            obtain ⟨xb, hxbe⟩ : ∃ xb, xb = wr.heap.size := ⟨_, rfl⟩
            have hxb : Blk wx xb #[.int .i64 (x0 : Nat), .int .u64 (x1 : Nat), .int .u32 (x2 : Nat)] 88 (0, 0) := by rw [hwx, hxbe]; exact Blk.new _ _ _ _
            have hkx : Kept (· = q) W wx := by rw [hwx]; exact hkw.alloc _
            have hrx : Ro true wx q Rk := by rw [hwx]; exact hrw.later ((Below.refl _ _).alloc (Nat.le_refl _) _)
            have hrowx : wx.ownsRow W.heap.size 44 2 (.slice a' k c') k (acc.flatMap secC) := by rw [hwx]; exact hrow.alloc _
            have hxq : xb ≠ q := by have := hkw.size; have := Hw.out; omega
            rw [← hwx, ← hxbe]
            clear hrow hkw hrw hwx hxbe q0 q1 q2 hrel
            replace hkx := hkx.drew; replace hrx : Ro true wx.drew q Rk := hrx.later (Below.refl _ _).drew; replace hrowx := hrowx.drew; replace hxb := hxb.drew
            have hfx := Hkf.out _ hkx
            have hS0 : wx.drew.cell? ⟨fr, 0, none⟩ = some (.pointer (some ⟨q, 0, none⟩)) ∧ wx.drew.cell? ⟨xb, 0, none⟩ = some (.int .i64 (x0 : Nat)) ∧ wx.drew.cell? ⟨xb, 1, none⟩ = some (.int .u64 (x1 : Nat)) := ⟨hfx.cell 0, hxb.cell 0, hxb.cell 1⟩
            refine region_panTo [{ target := .collected D, args := #[] }] (fun _ _ => False) (fun _ _ _ _ h => h.elim) ?_
            refine region_heldIn (S := fun w' => w'.cell? ⟨fr, 0, none⟩ = some (.pointer (some ⟨q, 0, none⟩)) ∧ w'.cell? ⟨xb, 0, none⟩ = some (.int .i64 (x0 : Nat)) ∧ w'.cell? ⟨xb, 1, none⟩ = some (.int .u64 (x1 : Nat))) rfl ?_
            change heldIn _ _ _ _ _ _ 15 _ _ wx.drew
            (refine heldIn_takeD (i := 0) (v := (.slice a' k c')) rfl rfl rfl (by kernel_rfl) (by kernel_rfl) (by kernel_rfl) (fun _ _ _ h => h) ⟨by rfl, fun w hS => ⟨by rfl, by obtain ⟨hS1, hS2, hS3⟩ := hS; go_simp⟩⟩ (by assumption) ?_; try simp only [List.setIfInBounds_toArray, List.set_cons_zero, List.set_cons_succ])
            (refine heldIn_takeD (i := 1) (v := (.pointer (some ⟨xb, 0, none⟩))) rfl rfl rfl (by kernel_rfl) (by kernel_rfl) (by kernel_rfl) (fun _ _ _ h => h) ⟨by rfl, fun w hS => ⟨by rfl, by obtain ⟨hS1, hS2, hS3⟩ := hS; go_simp⟩⟩ (by assumption) ?_; try simp only [List.setIfInBounds_toArray, List.set_cons_zero, List.set_cons_succ])
            (refine heldIn_takeD (i := 2) (v := (.int .i64 (x0 : Nat))) rfl rfl rfl (by kernel_rfl) (by kernel_rfl) (by kernel_rfl) (fun _ _ _ h => h) ⟨by rfl, fun w hS => ⟨by rfl, by obtain ⟨hS1, hS2, hS3⟩ := hS; go_simp⟩⟩ (by assumption) ?_; try simp only [List.setIfInBounds_toArray, List.set_cons_zero, List.set_cons_succ])
            (refine heldIn_takeD (i := 3) (v := (.pointer (some ⟨fr, 0, none⟩))) rfl rfl rfl (by kernel_rfl) (by kernel_rfl) (by kernel_rfl) (fun _ _ _ h => h) ⟨by rfl, fun w hS => ⟨by rfl, by obtain ⟨hS1, hS2, hS3⟩ := hS; go_simp⟩⟩ (by assumption) ?_; try simp only [List.setIfInBounds_toArray, List.set_cons_zero, List.set_cons_succ])
            (refine heldIn_takeD (i := 4) (v := (.pointer (some ⟨fr, 0, none⟩))) rfl rfl rfl (by kernel_rfl) (by kernel_rfl) (by kernel_rfl) (fun _ _ _ h => h) ⟨by rfl, fun w hS => ⟨by rfl, by obtain ⟨hS1, hS2, hS3⟩ := hS; go_simp⟩⟩ (by assumption) ?_; try simp only [List.setIfInBounds_toArray, List.set_cons_zero, List.set_cons_succ])
            (refine heldIn_takeD (i := 5) (v := (.pointer (some ⟨fr, 0, none⟩))) rfl rfl rfl (by kernel_rfl) (by kernel_rfl) (by kernel_rfl) (fun _ _ _ h => h) ⟨by rfl, fun w hS => ⟨by rfl, by obtain ⟨hS1, hS2, hS3⟩ := hS; go_simp⟩⟩ (by assumption) ?_; try simp only [List.setIfInBounds_toArray, List.set_cons_zero, List.set_cons_succ])
            (refine heldIn_takeD (i := 6) (v := (.pointer (some ⟨q, 0, none⟩))) rfl rfl rfl (by kernel_rfl) (by kernel_rfl) (by kernel_rfl) (fun _ _ _ h => h) ⟨by rfl, fun w hS => ⟨by rfl, by obtain ⟨hS1, hS2, hS3⟩ := hS; go_simp⟩⟩ (by assumption) ?_; try simp only [List.setIfInBounds_toArray, List.set_cons_zero, List.set_cons_succ])
            (refine heldIn_takeD (i := 7) (v := (.pointer (some ⟨xb, 1, none⟩))) rfl rfl rfl (by kernel_rfl) (by kernel_rfl) (by kernel_rfl) (fun _ _ _ h => h) ⟨by rfl, fun w hS => ⟨by rfl, by obtain ⟨hS1, hS2, hS3⟩ := hS; go_simp⟩⟩ (by assumption) ?_; try simp only [List.setIfInBounds_toArray, List.set_cons_zero, List.set_cons_succ])
            (refine heldIn_takeD (i := 8) (v := (.int .u64 (x1 : Nat))) rfl rfl rfl (by kernel_rfl) (by kernel_rfl) (by kernel_rfl) (fun _ _ _ h => h) ⟨by rfl, fun w hS => ⟨by rfl, by obtain ⟨hS1, hS2, hS3⟩ := hS; go_simp⟩⟩ (by assumption) ?_; try simp only [List.setIfInBounds_toArray, List.set_cons_zero, List.set_cons_succ])
            (refine heldIn_takeD (i := 9) (v := (.int .i64 (x1 : Nat))) rfl rfl rfl (by kernel_rfl) (by kernel_rfl) (by kernel_rfl) (fun _ _ _ h => h) ⟨by rfl, fun w hS => ⟨by rfl, by obtain ⟨hS1, hS2, hS3⟩ := hS; go_simp⟩⟩ (by assumption) ?_; try simp only [List.setIfInBounds_toArray, List.set_cons_zero, List.set_cons_succ])
            refine heldIn_one (i := 10) (by kernel_rfl) ?_
            refine wpOpIn_calls (f := 46) (args := #[.pointer (some ⟨q, 0, none⟩), .int .i64 (x1 : Nat)]) rfl rfl (by rfl) (by go_simp) (by decide) (callsIn_wide.2 (rText_any true q Rk (x1 : Nat) wx.drew hrx (by omega))) ?_ (by rintro _ _ ⟨h, _⟩; cases h) (by rintro _ ⟨h, _⟩; cases h)
            rintro _ wb ⟨⟨rfl⟩, hrb, hkb⟩
            obtain ⟨body, hbody⟩ : ∃ b, b = (Rk.take (x1 : Int)).1 := ⟨_, rfl⟩
            obtain ⟨Rn, hRn⟩ : ∃ b, b = (Rk.take (x1 : Int)).2 := ⟨_, rfl⟩
            rw [← hRn] at hrb
            rw [← hbody]
            have hxb2 := hkb.blk hxb hxq
            have hkx2 := hkx.trans hkb
            have hfx2 := Hkf.out _ hkx2
            have hrow2 := ownsRow_agree hrowx (fun g hg => hkb.block g (ownsRow_blk hrowx hg).2.choose_spec.lt (by have := (ownsRow_blk hrowx hg).1; have := Hw.out; omega))
            have hS1 : wb.cell? ⟨fr, 0, none⟩ = some (.pointer (some ⟨q, 0, none⟩)) ∧ wb.cell? ⟨xb, 0, none⟩ = some (.int .i64 (x0 : Nat)) ∧ wb.cell? ⟨xb, 1, none⟩ = some (.int .u64 (x1 : Nat)) := ⟨hfx2.cell 0, hxb2.cell 0, hxb2.cell 1⟩
            refine ⟨hS1, ?_⟩
            simp only [List.setIfInBounds_toArray, List.set_cons_zero, List.set_cons_succ]
            (refine heldIn_takeD (i := 11) (v := (.agg #[.int .i64 (x0 : Nat), .string body])) rfl rfl rfl (by kernel_rfl) (by kernel_rfl) (by kernel_rfl) (fun _ _ _ h => h) ⟨by rfl, fun w hS => ⟨by rfl, by obtain ⟨hS1, hS2, hS3⟩ := hS; go_simp⟩⟩ (by assumption) ?_; try simp only [List.setIfInBounds_toArray, List.set_cons_zero, List.set_cons_succ])
            refine heldIn_one (i := 12) (by kernel_rfl) ?_
            refine wpOpIn_value (v := .slice (some ⟨wb.heap.size, 0, none⟩) 1 1) (w' := wb.alloc (.cells #[.int .i64 (x0 : Nat), .string body] 44)) rfl rfl rfl (by rfl) (by rfl) (by go_simp) ?_
            obtain ⟨wa, hwa⟩ : ∃ wa, wa = wb.alloc (.cells #[.int .i64 (x0 : Nat), .string body] 44) := ⟨_, rfl⟩
            have hba : Below wb.heap.size wb wa := by rw [hwa]; exact (Below.refl _ _).alloc (Nat.le_refl _) _
            have hsb : wb.heap.size ≤ wa.heap.size := hba.size
            have hnew : Blk wa wb.heap.size (secC ((x0 : Int), body)).toArray 44 (0, 0) := by rw [hwa]; exact Blk.new _ _ _ _
            have hrow3 : wa.ownsRow W.heap.size 44 2 (.slice a' k c') k (acc.flatMap secC) := by rw [hwa]; exact hrow2.alloc _
            have hxb3 := hxb2.below hba hxb2.lt
            have hkx3 := hkx2.trans (Kept.of_below hba)
            have hrb3 := hrb.later hba
            have hfx3 := Hkf.out _ hkx3
            rw [← hwa]
            obtain ⟨i1, hi1, hy0, hy1, hy2⟩ := info_parts infoSe
            obtain ⟨v', we, hrun, hown', hgrow, _, hat⟩ := run_append_own_at (P := Try.prog) (w := wa) W.heap.size 22 22 44 i1 (.agg #[.int .i64 0, .string ⟨#[]⟩]) 2 24 Try.underlying22 hi1 hy0 hy1 hy2 rfl (by decide) (.slice a' k c') k (acc.flatMap secC) hrow3 ⟨wb.heap.size, 0, none⟩ 1 1 (secC ((x0 : Int), body)) rfl (news_of hnew) (by intro u hu; simp only [secC, List.mem_cons, List.not_mem_nil, or_false] at hu; rcases hu with rfl | rfl <;> rfl) (by unfold maxLen; omega) (by omega) hkx3.size
            obtain ⟨g', c2, rfl⟩ := ownsRow_succ hown'
            obtain ⟨o0, ho0⟩ : ∃ o : Nat, o = 0 := ⟨_, rfl⟩
            have hrun' : (Builtin.append_ #[22, 22] 22 #[.slice a' k c', .slice (some ⟨wb.heap.size, 0, none⟩) 1 1]).run Try.prog wa = .ok (.slice (some ⟨g', o0, none⟩) (k + 1) c2) we := by rw [ho0]; exact hrun
            have hkx4 := hkx3.grown hgrow (fun j hj => (ownsRow_blk hrow3 hj).1)
            have hxb4 : Blk we xb #[.int .i64 (x0 : Nat), .int .u64 (x1 : Nat), .int .u32 (x2 : Nat)] 88 (0, 0) := (hgrow.block xb hxb3.lt (fun e => by
              obtain ⟨_, cur, hcur⟩ := ownsRow_blk hrow3 e.symm
              have e5 := (show wa.heap[xb]? = some _ from hxb3).symm.trans (show wa.heap[xb]? = some _ from hcur); cases e5)).trans hxb3
            have hrb4 : Ro true we q Rn := hrb3.types fun b cs t f hb ht => (hgrow.block b hb.lt (fun e => by
              obtain ⟨_, cur, hcur⟩ := ownsRow_blk hrow3 e.symm
              have e5 := (show wa.heap[b]? = some _ from hb).symm.trans (show wa.heap[b]? = some _ from hcur); cases e5; exact ht rfl)).trans hb
            have hfx4 := Hkf.out _ hkx4
            have hbc : we.cell? ⟨g', o0 + k * 2 + 1, none⟩ = some (.string body) := by
              have hl := hrow3.1
              rw [ho0, Nat.zero_add, hown'.cellAt (k * 2 + 1) (by omega), List.getElem?_append_right (by omega), show k * 2 + 1 - (acc.flatMap secC).length = 1 by omega]; rfl
            have hrow4 : we.ownsRow W.heap.size 44 2 (.slice (some ⟨g', o0, none⟩) (k + 1) c2) (k + 1) ((acc ++ [((x0 : Int), body)]).flatMap secC) := by rw [ho0]; simpa using hown'
            have hS3 : wa.cell? ⟨fr, 0, none⟩ = some (.pointer (some ⟨q, 0, none⟩)) ∧ wa.cell? ⟨xb, 0, none⟩ = some (.int .i64 (x0 : Nat)) ∧ wa.cell? ⟨xb, 1, none⟩ = some (.int .u64 (x1 : Nat)) := ⟨hfx3.cell 0, hxb3.cell 0, hxb3.cell 1⟩
            have hS4 : we.cell? ⟨fr, 0, none⟩ = some (.pointer (some ⟨q, 0, none⟩)) ∧ we.cell? ⟨xb, 0, none⟩ = some (.int .i64 (x0 : Nat)) ∧ we.cell? ⟨xb, 1, none⟩ = some (.int .u64 (x1 : Nat)) := ⟨hfx4.cell 0, hxb4.cell 0, hxb4.cell 1⟩
            refine ⟨hS3, ?_⟩
            simp only [List.setIfInBounds_toArray, List.set_cons_zero, List.set_cons_succ]
            refine heldIn_one (i := 13) (by kernel_rfl) ?_
            refine wpOpIn_append rfl rfl rfl (by rfl) _ _ _ _ rfl hrun' ?_
            refine ⟨hS4, ?_⟩
            simp only [List.setIfInBounds_toArray, List.set_cons_zero, List.set_cons_succ]
            (refine heldIn_takeD (i := 14) (v := (.slice (some ⟨g', o0, none⟩) (k + 1) c2)) rfl rfl rfl (by kernel_rfl) (by kernel_rfl) (by kernel_rfl) (fun _ _ _ h => h) ⟨by rfl, fun w hS => ⟨by rfl, by obtain ⟨hS1, hS2, hS3⟩ := hS; go_simp⟩⟩ (by assumption) ?_; try simp only [List.setIfInBounds_toArray, List.set_cons_zero, List.set_cons_succ])
            refine heldIn_done (by kernel_rfl) (PanTo.normal ?_) _
            have Hkx := Lib.hid hkx4; have Hrb := Lib.hid hrb4; have Hrow := Lib.hid hrow4; have Hxb := Lib.hid hxb4; have Hbc := Lib.hid hbc; have Hal := Lib.hid hal; have HbodyE := Lib.hid hbody; have HRn := Lib.hid hRn
            clear hkx4 hrb4 hrow4 hxb4 hbc hS4 hS3 hS1 hS0 hrun hrun' hown' hgrow hat hi1 hy0 hy1 hy2 hfx4 hfx3 hrb3 hkx3 hxb3 hrow3 hnew hsb hba hrow2 hfx2 hkx2 hxb2 hrb hkb hfx hxb hrowx hrx hkx hal hbody hRn ho0 hwa
            gi_wp2_with fail
            have e2 : IntKind.i64.wrap (k : Int) = (k : Int) := wrap_small _ (by omega) (by omega)
            have e3 : (k : Int) < (k : Int) + 1 := by omega
            have e4 : (0 : Int) ≤ (k : Int) := by omega
            have hS5 : we.drew.cell? ⟨fr, 0, none⟩ = some (.pointer (some ⟨q, 0, none⟩)) ∧ we.drew.cell? ⟨g', o0 + k * 2 + 1, none⟩ = some (.string body) ∧ we.drew.cell? ⟨xb, 2, none⟩ = some (.int .u32 (x2 : Nat)) := ⟨(Hkf.out _ Hkx.out).cell 0, Hbc.out, Hxb.out.cell 2⟩
            have hbsz : body.size ≤ 9223372036854775807 := by rw [HbodyE.out]; have := Rk.take_size' (x1 : Int); omega
            refine region_panTo [{ target := .collected D, args := #[] }] (fun ch w' => ch = errCh 24 ∧ Kept (· = q) W w' ∧ decV s = (24, [])) (fun ch a w' hd h => by
              obtain ⟨rfl, h2, h3⟩ := h
              exact Hpan.out w' 24 a (by cases a; simp only at hd; subst hd; rfl) h2 (by decide) h3) ?_
            refine region_heldIn (S := fun w' => w'.cell? ⟨fr, 0, none⟩ = some (.pointer (some ⟨q, 0, none⟩)) ∧ w'.cell? ⟨g', o0 + k * 2 + 1, none⟩ = some (.string body) ∧ w'.cell? ⟨xb, 2, none⟩ = some (.int .u32 (x2 : Nat))) rfl ?_
            change heldIn _ _ _ _ _ _ 12 _ _ we.drew
            (refine heldIn_takeD (i := 0) (v := (.slice (some ⟨g', o0, none⟩) (k + 1) c2)) rfl rfl rfl (by kernel_rfl) (by kernel_rfl) (by kernel_rfl) (fun _ _ _ h => h) ⟨by rfl, fun w hS => ⟨by rfl, by obtain ⟨hS1, hS2, hS3⟩ := hS; go_simp⟩⟩ (by assumption) ?_; try simp only [List.setIfInBounds_toArray, List.set_cons_zero, List.set_cons_succ])
            (refine heldIn_takeD (i := 1) (v := (.slice (some ⟨g', o0, none⟩) (k + 1) c2)) rfl rfl rfl (by kernel_rfl) (by kernel_rfl) (by kernel_rfl) (fun _ _ _ h => h) ⟨by rfl, fun w hS => ⟨by rfl, by obtain ⟨hS1, hS2, hS3⟩ := hS; go_simp⟩⟩ (by assumption) ?_; try simp only [List.setIfInBounds_toArray, List.set_cons_zero, List.set_cons_succ])
            (refine heldIn_takeD (i := 2) (v := (.int .i64 ((k : Int) + 1))) rfl rfl rfl (by kernel_rfl) (by kernel_rfl) (by kernel_rfl) (fun _ _ _ h => h) ⟨by rfl, fun w hS => ⟨by rfl, by obtain ⟨hS1, hS2, hS3⟩ := hS; go_simp⟩⟩ (by assumption) ?_; try simp only [List.setIfInBounds_toArray, List.set_cons_zero, List.set_cons_succ])
            (refine heldIn_takeD (i := 3) (v := (.int .i64 (k : Int))) rfl rfl rfl (by kernel_rfl) (by kernel_rfl) (by kernel_rfl) (fun _ _ _ h => h) ⟨by rfl, fun w hS => ⟨by rfl, by obtain ⟨hS1, hS2, hS3⟩ := hS; go_simp⟩⟩ (by assumption) ?_; try simp only [List.setIfInBounds_toArray, List.set_cons_zero, List.set_cons_succ])
            (refine heldIn_takeD (i := 4) (v := (.pointer (some ⟨g', o0 + k * 2, none⟩))) rfl rfl rfl (by kernel_rfl) (by kernel_rfl) (by kernel_rfl) (fun _ _ _ h => h) ⟨by rfl, fun w hS => ⟨by rfl, by obtain ⟨hS1, hS2, hS3⟩ := hS; go_simp⟩⟩ (by assumption) ?_; try simp only [List.setIfInBounds_toArray, List.set_cons_zero, List.set_cons_succ])
            (refine heldIn_takeD (i := 5) (v := (.pointer (some ⟨g', o0 + k * 2 + 1, none⟩))) rfl rfl rfl (by kernel_rfl) (by kernel_rfl) (by kernel_rfl) (fun _ _ _ h => h) ⟨by rfl, fun w hS => ⟨by rfl, by obtain ⟨hS1, hS2, hS3⟩ := hS; go_simp⟩⟩ (by assumption) ?_; try simp only [List.setIfInBounds_toArray, List.set_cons_zero, List.set_cons_succ])
            (refine heldIn_takeD (i := 6) (v := (.string body)) rfl rfl rfl (by kernel_rfl) (by kernel_rfl) (by kernel_rfl) (fun _ _ _ h => h) ⟨by rfl, fun w hS => ⟨by rfl, by obtain ⟨hS1, hS2, hS3⟩ := hS; go_simp⟩⟩ (by assumption) ?_; try simp only [List.setIfInBounds_toArray, List.set_cons_zero, List.set_cons_succ])
            (refine heldIn_takeD (i := 8) (v := (.pointer (some ⟨xb, 2, none⟩))) rfl rfl rfl (by kernel_rfl) (by kernel_rfl) (by kernel_rfl) (fun _ _ _ h => h) ⟨by rfl, fun w hS => ⟨by rfl, by obtain ⟨hS1, hS2, hS3⟩ := hS; go_simp⟩⟩ (by assumption) ?_; try simp only [List.setIfInBounds_toArray, List.set_cons_zero, List.set_cons_succ])
            (refine heldIn_takeD (i := 9) (v := (.int .u32 (x2 : Nat))) rfl rfl rfl (by kernel_rfl) (by kernel_rfl) (by kernel_rfl) (fun _ _ _ h => h) ⟨by rfl, fun w hS => ⟨by rfl, by obtain ⟨hS1, hS2, hS3⟩ := hS; go_simp⟩⟩ (by assumption) ?_; try simp only [List.setIfInBounds_toArray, List.set_cons_zero, List.set_cons_succ])
            refine heldIn_one (i := 7) (by kernel_rfl) ?_
            refine wpOpIn_calls (f := 24) (args := #[.string body]) rfl rfl (by rfl) (by go_simp) (by decide) (callsIn_wide.2 (sum_any body hbsz we.drew)) ?_ (by rintro _ _ ⟨h, _⟩; cases h) (by rintro _ ⟨h, _⟩; cases h)
            rintro _ wf ⟨⟨rfl⟩, hbf⟩
            obtain ⟨nb, hnb⟩ : ∃ n, n = Crc.sum body.data.toList := ⟨_, rfl⟩
            rw [← hnb]
            have hkf5 := (Hkx.out.drew).trans (Kept.of_below hbf)
            have hrf := (Hrb.out.later (Below.refl _ _).drew).later hbf
            have hxf := Hxb.out.drew.below hbf Hxb.out.drew.lt
            have hgl : g' < we.drew.heap.size := by
              have h0 : we.cell? ⟨g', o0 + k * 2 + 1, none⟩ = some (.string body) := Hbc.out
              by_cases hlt : g' < we.heap.size
              · exact hlt
              · exfalso
                simp [World.cell?, Array.getElem?_eq_none (Nat.le_of_not_lt hlt)] at h0
            have hrow5 := ownsRow_agree Hrow.out.drew (fun g hg => hbf.block g (ownsRow_blk Hrow.out.drew hg).2.choose_spec.lt)
            have hSf : wf.cell? ⟨fr, 0, none⟩ = some (.pointer (some ⟨q, 0, none⟩)) ∧ wf.cell? ⟨g', o0 + k * 2 + 1, none⟩ = some (.string body) ∧ wf.cell? ⟨xb, 2, none⟩ = some (.int .u32 (x2 : Nat)) := ⟨(Hkf.out _ hkf5).cell 0, (World.cell?_of_block (hbf.block g' hgl)).trans Hbc.out, hxf.cell 2⟩
            refine ⟨hSf, ?_⟩
            simp only [List.setIfInBounds_toArray, List.set_cons_zero, List.set_cons_succ]
            have hb1 : R4.bods es = (if nb = x2 then (Rn.bods (es.drop (k + 1))).map (((x0 : Int), body) :: ·) else none).map (acc ++ ·) := by rw [Hbo.out, RS.bods_cons, HRn.out, hnb, HbodyE.out]
            have Hb1 := Lib.hid hb1; have Hkf5 := Lib.hid hkf5; have Hrf := Lib.hid hrf; have Hrow5 := Lib.hid hrow5
            clear hb1 hkf5 hrf hrow5 hnb hgl hxf hbf hS5
            by_cases hsx : nb = x2
            · subst hsx
              (refine heldIn_takeD (i := 10) (v := (.bool true)) rfl rfl rfl (by kernel_rfl) (by kernel_rfl) (by kernel_rfl) (fun _ _ _ h => h) ⟨by rfl, fun w hS => ⟨by rfl, by obtain ⟨hS1, hS2, hS3⟩ := hS; go_simp⟩⟩ (by assumption) ?_; try simp only [List.setIfInBounds_toArray, List.set_cons_zero, List.set_cons_succ])
              refine heldIn_one (i := 11) (by kernel_rfl) ?_
              refine wpOpIn_calls (f := 43) (args := #[.bool true, .int .i64 24]) rfl rfl (by rfl) (by go_simp) (by decide) (callsIn_wide.2 (need_yes 24 wf)) ?_ (by rintro _ _ ⟨⟨_, h⟩, _⟩; cases h) (by rintro _ ⟨⟨_, h⟩, _⟩; cases h)
              rintro v7 wg ⟨_, rfl⟩
              refine ⟨hSf, ?_⟩
              simp only [List.setIfInBounds_toArray, List.set_cons_zero, List.set_cons_succ]
              refine heldIn_done (by kernel_rfl) (PanTo.normal ?_) _
              clear hSf e3
              gi_wp2_with fail
              go_roundw
              case rel =>
                refine ⟨k + 1, acc ++ [((x0 : Int), body)], Rn, some ⟨g', o0, none⟩, c2, by omega, by go_num, rfl, Lib.hid ⟨?_, by simp [Hal.out], Hrow5.out, Hkf5.out, Hrf.out⟩⟩
                rw [Hb1.out, if_pos rfl]
                cases Rn.bods (es.drop (k + 1)) <;> simp
              case measure => simp [intOf]; omega
            · have hne5 : ((nb : Int) == (x2 : Int)) = false := by simp; omega
              have hd5 : decV s = (24, []) := by rw [Hdec3.out, Hb1.out, if_neg hsx]; rfl
              have Hd5 := Lib.hid hd5
              clear hd5 hsx
              (refine heldIn_takeD (i := 10) (v := (.bool false)) rfl rfl rfl (by kernel_rfl) (by kernel_rfl) (by kernel_rfl) (fun _ _ _ h => h) ⟨by rfl, fun w hS => ⟨by rfl, by obtain ⟨hS1, hS2, hS3⟩ := hS; go_simp⟩⟩ (by assumption) ?_; try simp only [List.setIfInBounds_toArray, List.set_cons_zero, List.set_cons_succ])
              refine heldIn_one (i := 11) (by kernel_rfl) ?_
              refine wpOpIn_calls (f := 43) (args := #[.bool false, .int .i64 24]) rfl rfl (by rfl) (by go_simp) (by decide) (callsIn_wide.2 (need_no 24 wf)) (by rintro _ _ ⟨h, _⟩; cases h) ?_ (by rintro _ ⟨h, _⟩; cases h)
              rintro ch wg ⟨⟨rfl⟩, rfl⟩
              exact ⟨rfl, rfl, Hkf5.out, Hd5.out⟩
        replace hlt := Decidable.not_not.1 hlt
        obtain ⟨_, _, e0, _, _, hcs⟩ := Hsl.out.kept hrel.out.2.1
        obtain ⟨bl, ol, e1, hbl, hbq, q0, q1, q2⟩ := hcs k hlt
        obtain rfl : a = some ⟨bl, ol, none⟩ := (Value.slice.inj e0).1.trans e1
        have hds : dsum (es.drop k) lf = if es[k].2.1 ≤ lf then dsum (es.drop (k + 1)) (lf - es[k].2.1) else none := by rw [List.drop_eq_getElem_cons hlt]; rfl
        have Hds := Lib.hid hds
        obtain ⟨x1, hx1⟩ : ∃ x, x = es[k].2.1 := ⟨_, rfl⟩
        obtain ⟨x0, hx0⟩ : ∃ x, x = es[k].1 := ⟨_, rfl⟩
        obtain ⟨x2, hx2⟩ : ∃ x, x = es[k].2.2 := ⟨_, rfl⟩
        rw [← hx0] at q0
        rw [← hx1] at q1 Hds
        rw [← hx2] at q2
        clear hcs e0 e1 hds hx0 hx1 hx2
        have hlt' : (k : Int) < (es.length : Int) := by omega
        have Hbl := Lib.hid hbl
        clear hbl hbq
        have hkw : Kept (· = q) W (wr.alloc (.cells #[.int .i64 x0, .int .u64 x1, .int .u32 x2] 88)) := hrel.out.2.1.alloc _
        have hrw : Ro true (wr.alloc (.cells #[.int .i64 x0, .int .u64 x1, .int .u32 x2] 88)) q R4 := hrel.out.2.2.later ((Below.refl _ _).alloc (Nat.le_refl _) _)
        have Hkw := Lib.hid hkw; have Hrw := Lib.hid hrw
        clear hkw hrw
        by_cases hx : x1 ≤ lf
        · have e1 : IntKind.u64.wrap ((lf : Int) - (x1 : Int)) = ((lf - x1 : Nat) : Int) := by rw [← Int.ofNat_sub hx]; exact wrapU _ (by omega)
          have hds1 : dsum es left0 = dsum (es.drop (k + 1)) (lf - x1) := by rw [hrel.out.1, Hds.out, if_pos hx]
          have Hds1 := Lib.hid hds1
          have hlf1 : lf - x1 ≤ left0 := by omega
          obtain ⟨lf1, hlf1'⟩ : ∃ n, n = lf - x1 := ⟨_, rfl⟩
          rw [← hlf1'] at e1 Hds1 hlf1
          have kb : decide (x1 ≤ lf) = true := decide_eq_true hx
          clear hds1 hlf1' Hds hx
          gi_wp2_with (((with_reducible (refine And.intro ?_ ?_)); (exact trivial)); gi_at_call 43; refine (callsIn_wide.2 (need_yes 23 _)).mono ?_; rintro e w6 ⟨⟨v6, rfl⟩, rfl⟩)
          go_roundw
          case rel => exact ⟨k + 1, lf1, by omega, hlf1, by go_num, rfl, Lib.hid ⟨Hds1.out, Hkw.out, Hrw.out⟩⟩
          case measure => simp [intOf]; omega
        · have kb : decide (x1 ≤ lf) = false := decide_eq_false hx
          have hd : decV s = (23, []) := by
            rw [Hdec2.out, if_pos]
            rw [hrel.out.1, Hds.out, if_neg hx]; intro h; cases h
          have Hd := Lib.hid hd
          clear hd hx
          gi_wp2_with (((with_reducible (refine And.intro ?_ ?_)); (exact trivial)); gi_at_call 43; refine (callsIn_wide.2 (need_no 23 _)).mono ?_; rintro e w6 ⟨rfl, rfl⟩)
          exact Hpan.out _ _ _ rfl Hkw.out (by decide) Hd.out
  case hthrow =>
    rintro D ch es W hD ⟨rfl, hh⟩ ⟨_, _, h3, _⟩ hK
    exact leavesM_panic hK ⟨.inr ⟨23, rfl, by decide, by unfold decV; rw [hh]⟩, h3.put (by omega)⟩
end Go.Proofs.Ytaikcehdomaebaa
