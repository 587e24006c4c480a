/- OctetBack: the walk. -/
import Derived.Test.YtaikcehdomaebaaDoorOctBackP
import Derived.Deep.AppendLies
namespace Go.Proofs.YtaikcehdomaebaaDoor
open Go.RowKit
theorem ws_new_at {w0 w : World} (h0 : Below w0.heap.size w0 w) : Calls Tryd.prog 8 #[] w fun e w1 => ∃ p, e = .returned (.pointer (some ⟨p, 0, none⟩)) ∧ WS w0 w1 p [] ∧ Below w.heap.size w w1 := by
  refine (octNew_any w).mono ?_
  rintro e w' ⟨p, rfl, h1, h2, hb⟩
  have := h0.size
  exact ⟨p, rfl, ⟨_, h1, fun b hb => by omega, h0.next' hb⟩, hb⟩
set_option maxHeartbeats 8000000 in
set_option maxRecDepth 100000 in
theorem octetBack_any (va : Value) (cut : Nat) (L : List It) (w : World) (hs : SlT w va L) (hok : ∀ x ∈ L, itOk x) (hcut : cut < 65536) (hg : HG w) :
    Calls Tryd.prog 6 #[va, .int .u16 (cut : Nat)] w fun e w' => e = .returned (.bool true) ∧ Below w.heap.size w w' := by
  obtain ⟨aa, ca, rfl, na, ma, _⟩ := id hs
  obtain ⟨n, hn⟩ : ∃ n, n = min L.length 30 := ⟨_, rfl⟩
  have hmina := fun u => run_min2 (P := Tryd.prog) L.length 30 u #[3, 3] 3 (n : Int) (by omega)
  have hsla := run_slice_to (P := Tryd.prog) 52 54 aa L.length ca n Tryd.underlying52 (by kernel_rfl) (by omega)
  obtain ⟨A, hA, hAl, hAs⟩ := hs.take n (by omega)
  have hAok : ∀ x ∈ A, itOk x := fun x hx => hok x (List.mem_of_mem_take (by rw [← hA]; exact hx))
  have hn30 : n ≤ 30 := by omega
  have HAs := Lib.hid hAs; have HOk := Lib.hid hAok; have HAl := Lib.hid hAl; have HG0 := Lib.hid hg
  have hcl : ∀ k, (allB A k).length ≤ 40 * k := allB_len A
  have HCl := Lib.hid hcl
  have hI0 : ∀ k (hk : k < A.length), ∃ ba oa, aa = some ⟨ba, oa, none⟩ ∧ ∀ u, Below w.heap.size w u → u.cell? ⟨ba, oa + k * 3, none⟩ = some (.int .u8 (A[k].1 : Nat)) ∧ u.cell? ⟨ba, oa + k * 3 + 1, none⟩ = some (.int .u64 (A[k].2.1 : Nat)) ∧ u.cell? ⟨ba, oa + k * 3 + 2, none⟩ = some (.string A[k].2.2) := fun k hk => by
    obtain ⟨a', c', e, _, _, hh⟩ := hAs
    obtain ⟨bl, ol, e2, q1, q2, q3⟩ := hh k hk
    have e3 := (Value.slice.inj e).1
    exact ⟨bl, ol, by rw [e3, e2], fun u hu => by
      have eb := hu.block bl (block_lt_of_cell q1)
      exact ⟨(World.cell?_of_block eb).trans q1, (World.cell?_of_block eb).trans q2, (World.cell?_of_block eb).trans q3⟩⟩
  have HI0 := Lib.hid hI0
  clear hs hok hn hA hAl hAs hAok hg hcl hI0
  go_enter Tryd.func6, Tryd.ntmps6
  go_wp2_with fail
  refine (works_any w HG0.out).mono ?_
  rintro e w1 ⟨rfl, hb⟩
  have HB1 := Lib.hid hb
  clear hb
  go_wp2_with fail
  clear hmina hsla
  refine (ws_new_at HB1.out).mono ?_
  rintro e w3 ⟨p, rfl, hw1, _⟩
  have H3 : Hid (B1 w w3 p (allB A 0) (.slice none 0 0) 0 (eV A 0)) := Lib.hid ⟨hw1, World.ownsRow_nil _ _ _ _⟩
  clear hw1 HB1
  go_wp2_with fail
  go_loopw [6, 7] (fun st i wr => ∃ (k : Nat) (v : Value), k ≤ n ∧ i = .int .i64 k ∧ v = st ∧ Hid (B1 w wr p (allB A k) v k (eV A k))) (fun _ i _ => n - (intOf i).toNat)
  case atStart => exact ⟨0, _, Nat.zero_le _, rfl, rfl, H3⟩
  case round =>
    clear H3
    obtain ⟨k, v, hk, rfl, rfl, hrel⟩ := hrel
    by_cases hlt : k < n
    · have hkA : k < A.length := by rw [HAl.out]; exact hlt
      obtain ⟨ba, oa, rfl, hI⟩ := HI0.out k hkA
      obtain ⟨k0, k1, k2⟩ := hI wr hrel.out.ws.below
      have hsu := allB_succ A k hkA
      have hl1 := HCl.out k
      have hl2 := HCl.out (k + 1)
      have hwr := write_kept w wr p _ A[k] (HOk.out _ (List.getElem_mem hkA)) hrel.out.ws (by omega)
      rw [← hsu] at hwr
      have heV := eV_succ A k
      generalize A[k] = x at *
      obtain ⟨x1, x2, x3⟩ := x
      simp only at k0 k1 k2
      have HWr := Lib.hid hwr; have HEV := Lib.hid heV
      obtain ⟨N, hN⟩ : ∃ N, N = (allB A (k + 1)).length := ⟨_, rfl⟩
      have hN2 : N ≤ 2000 := by omega
      have HN := Lib.hid hN
      clear hwr heV hI hsu hl1 hl2
      have i1 : (0 : Int) ≤ (k : Int) := by omega
      have i2 : (k : Int) < (n : Int) := by omega
      obtain ⟨B, hB⟩ : ∃ B, B = allB A (k + 1) := ⟨_, rfl⟩
      rw [← hB] at HWr HN
      obtain ⟨T, hT⟩ : ∃ T : ByteArray, T = ⟨B.toArray⟩ := ⟨_, rfl⟩
      have hTs : T.size = N := by rw [hT, HN.out]; rfl
      have HTs := Lib.hid hTs; have HBe := Lib.hid hB
      clear hTs hN hB
      go_wp2_with fail
      refine HWr.out.mono ?_
      rintro e wa ⟨rfl, hw, hkp⟩
      have HA1 := Lib.hid (hrel.out.wrote hw hkp)
      clear hw hkp hrel HWr
      go_wp2_with fail
      refine (ws_str HA1.out.ws).mono ?_
      rintro e w' ⟨rfl, rfl⟩
      rw [← hT]
      clear hT
      obtain ⟨i0, hi, hz0, hz1, hz2⟩ := info_parts infoInt
      have HI := Lib.hid hi; have HZ0 := Lib.hid hz0; have HZ1 := Lib.hid hz1; have HZ2 := Lib.hid hz2
      clear hi hz0 hz1 hz2
      have HA2 := Lib.hid (HA1.out.later ((Below.refl wa.heap.size wa).alloc (Nat.le_refl _) (.cells #[.int .i64 (T.size : Nat)] 3)))
      have hbs := HA1.out.ws.below.size
      go_wp2_with (at_builtin; refine wpList_append_lies _ rfl _ _ _ rfl w.heap.size 3 i0 _ 1 8 Tryd.underlying64 HI.out HZ0.out HZ1.out HZ2.out rfl (by omega) v k (eV A k) rfl HA2.out.en ⟨wa.heap.size, 0, none⟩ 1 1 [.int .i64 (T.size : Nat)] rfl rfl (World.news_of_block (cs := #[.int .i64 (T.size : Nat)]) (t := 3) (fr := (0, 0)) (heap_alloc_new wa _)) (by simp [Value.oneCell']) (by omega) (by unfold maxLen; omega) (by omega) (by simp; omega) _ rfl ?_)
      intro ga cap wb hown hgrow _ _
      have HA3 := Lib.hid (HA2.out.app hown hgrow)
      clear hown hgrow HA2 HA1 HI HZ0 HZ1 HZ2 hbs
      go_wp2_with fail
      go_roundw
      case rel => exact ⟨k + 1, _, by omega, by go_num, rfl, Lib.hid (by rw [HEV.out, ← HBe.out, ← HN.out, ← HTs.out]; exact HA3.out)⟩
      case measure => simp [intOf]; omega
    · obtain rfl : n = k := by omega
      have hl1 := HCl.out n
      obtain ⟨S, hS⟩ : ∃ S : ByteArray, S = ⟨(allB A n).toArray⟩ := ⟨_, rfl⟩
      have hSs : S.size = (allB A n).length := by rw [hS]; rfl
      have hSl : S.data.toList = (allB A A.length).take (allB A n).length := by rw [hS, HAl.out, List.take_length]
      have HSs := Lib.hid hSs; have HSl := Lib.hid hSl; have HS := Lib.hid hS; have HL1 := Lib.hid hl1
      clear hSs hSl hS hl1
      go_wp2_with fail
      refine (ws_str hrel.out.ws).mono ?_
      rintro e w' ⟨rfl, rfl⟩
      rw [← HS.out]
      go_wp2_with fail
      refine (read_any true S _ (by rw [HSs.out]; have := HL1.out; omega)).mono ?_
      rintro e w7 ⟨q, rfl, hr, hq, hb7⟩
      have HE0 : Hid (E2 w w7 q ⟨S, (allB A 0).length, none⟩ v n (eV A n)) := Lib.hid (by
        have hb := hrel.out.ws.below
        have := hb.size
        exact ⟨hr, by omega, hb.next' hb7, ownsRow_later hrel.out.en hb7⟩)
      clear hrel hr hq hb7
      obtain ⟨ea, ec, rfl, hec, hem, hrow⟩ := row_form HE0.out.en
      unfold maxLen at hem
      clear hrow
      have hEc : ∀ k, k < n → ∀ (u : World) (q' : Nat) (R' : RS), E2 w u q' R' (.slice ea n ec) n (eV A n) → ∃ g, ea = some ⟨g, 0, none⟩ ∧ u.cell? ⟨g, k, none⟩ = some (.int .i64 ((allB A (k + 1)).length : Nat)) := fun k hk u q' R' hu => by
        obtain ⟨g, e, _, hc, _⟩ := row_cell hu.en k _ (eV_get A n k hk)
        exact ⟨g, e, hc⟩
      have HEc := Lib.hid hEc
      clear hEc
      go_wp2_with fail
      go_loopw [10] (fun i wr => ∃ k : Nat, k ≤ n ∧ i = .int .i64 k ∧ Hid (E2 w wr q ⟨S, (allB A k).length, none⟩ (.slice ea n ec) n (eV A n))) (fun i _ => n - (intOf i).toNat)
      case atStart => exact ⟨0, Nat.zero_le _, rfl, HE0⟩
      case round =>
        clear HE0
        obtain ⟨k, hk, rfl, hrel⟩ := hrel
        by_cases hlt : k < n
        · have hkA : k < A.length := by rw [HAl.out]; exact hlt
          obtain ⟨ba, oa, rfl, hI⟩ := HI0.out k hkA
          obtain ⟨g, rfl, _⟩ := HEc.out k hlt wr q _ hrel.out
          have hle : (allB A (k + 1)).length ≤ (allB A n).length := by have := allB_le A (k + 1); rw [HAl.out] at this; exact this
          obtain ⟨hG, hS'⟩ := back_fwd HOk.out hkA HSl.out hle
          have CS0 : ∀ u, E2 w u q ⟨S, (allB A k).length, none⟩ (.slice (some ⟨g, 0, none⟩) n ec) n (eV A n) → Calls Tryd.prog 30 #[itV A[k], .pointer (some ⟨q, 0, none⟩)] u fun e w' => e = .returned (.bool true) ∧ E2 w w' q ⟨S, (allB A (k + 1)).length, none⟩ (.slice (some ⟨g, 0, none⟩) n ec) n (eV A n) := fun u hu => by
            refine (same_any w u q _ A[k] (HOk.out _ (List.getElem_mem hkA)) hu).mono ?_
            rintro e w' ⟨b, rfl, hb, he⟩
            rw [hS'] at he
            exact ⟨by rw [hb hG], he⟩
          have hKp : ∀ u R', E2 w u q R' (.slice (some ⟨g, 0, none⟩) n ec) n (eV A n) → u.cell? ⟨ba, oa + k * 3, none⟩ = some (.int .u8 (A[k].1 : Nat)) ∧ u.cell? ⟨ba, oa + k * 3 + 1, none⟩ = some (.int .u64 (A[k].2.1 : Nat)) ∧ u.cell? ⟨ba, oa + k * 3 + 2, none⟩ = some (.string A[k].2.2) ∧ u.cell? ⟨g, k, none⟩ = some (.int .i64 ((allB A (k + 1)).length : Nat)) := fun u R' hu => by
            obtain ⟨c1, c2, c3⟩ := hI u hu.bel
            obtain ⟨g', e, hc⟩ := HEc.out k hlt u q R' hu
            have e' : g = g' := by simpa using e
            subst e'
            exact ⟨c1, c2, c3, hc⟩
          clear hI hS' hG hle
          generalize A[k] = x at *
          obtain ⟨x1, x2, x3⟩ := x
          simp only at hKp
          have CS1 : ∀ u, E2 w u q ⟨S, (allB A k).length, none⟩ (.slice (some ⟨g, 0, none⟩) n ec) n (eV A n) → Calls Tryd.prog 30 #[.agg #[.int .u8 (x1 : Nat), .int .u64 (x2 : Nat), .string x3], .pointer (some ⟨q, 0, none⟩)] u fun e w' => e = .returned (.bool true) ∧ E2 w w' q ⟨S, (allB A (k + 1)).length, none⟩ (.slice (some ⟨g, 0, none⟩) n ec) n (eV A n) := CS0
          obtain ⟨N, hN⟩ : ∃ N, N = (allB A (k + 1)).length := ⟨_, rfl⟩
          rw [← hN] at CS1 hKp
          have CA : ∀ u, E2 w u q ⟨S, N, none⟩ (.slice (some ⟨g, 0, none⟩) n ec) n (eV A n) → Calls Tryd.prog 23 #[.pointer (some ⟨q, 0, none⟩)] u fun e w' => e = .returned (.int .i64 (N : Nat)) ∧ u = w' := fun u hu => at_any true q _ u hu.ro
          have HCS := Lib.hid CS1; have HCA := Lib.hid CA; have HKp := Lib.hid hKp; have HN := Lib.hid hN
          have HR : Hid (E2 w wr.drew q ⟨S, (allB A k).length, none⟩ (.slice (some ⟨g, 0, none⟩) n ec) n (eV A n)) := Lib.hid (hrel.out.later (Below.refl _ _).drew)
          have i1 : (0 : Int) ≤ (k : Int) := by omega
          have i2 : (k : Int) < (n : Int) := by omega
          clear CS0 CS1 CA hKp hN hrel
          go_wp2_with fail
          go_region_held3 (fun w' => w'.cell? ⟨ba, oa + k * 3, none⟩ = some (.int .u8 (x1 : Nat)) ∧ w'.cell? ⟨ba, oa + k * 3 + 1, none⟩ = some (.int .u64 (x2 : Nat)) ∧ w'.cell? ⟨ba, oa + k * 3 + 2, none⟩ = some (.string x3) ∧ w'.cell? ⟨g, k, none⟩ = some (.int .i64 (N : Nat)))
            (first | exact HKp.out _ _ HZ.out | exact HKp.out _ _ HR.out)
            (first
              | (go_at_call 30; (with_reducible refine (HCS.out _ HR.out).mono ?_); rintro e w' ⟨rfl, hz⟩; have HZ := Lib.hid hz)
              | (go_at_call 23; (with_reducible refine (HCA.out _ HZ.out).mono ?_); rintro e w' ⟨rfl, rfl⟩))
          go_wp2_with fail
          go_roundw
          case rel => exact ⟨k + 1, by omega, by go_num, by rw [← HN.out]; exact HZ⟩
          case measure => simp [intOf]; omega
        · obtain rfl : n = k := by omega
          have HR := Lib.hid hrel.out
          clear hrel
          obtain ⟨m, hm⟩ : ∃ m, m = cut % (S.size + 1) := ⟨_, rfl⟩
          have hmS : m ≤ S.size := by have := Nat.mod_lt cut (show 0 < S.size + 1 by omega); omega
          have hSz : S.size ≤ 1200 := by have h1 := HSs.out; have h2 := HL1.out; omega
          have f1 : (cut : Int).tmod ((S.size : Int) + 1) = (m : Int) := by rw [Int.tmod_eq_emod_of_nonneg (by omega), hm]; push_cast; rfl
          have f2 : (cut : Int) % ((S.size : Int) + 1) = (m : Int) := by rw [hm]; push_cast; rfl
          have f3 : IntKind.i64.wrap (m : Int) = m := wrap_small _ (by omega) (by omega)
          have f4 : IntKind.i64.wrap ((S.size : Int) + 1) = (S.size : Int) + 1 := wrap_small _ (by omega) (by omega)
          have f5 : IntKind.i64.wrap (cut : Int) = (cut : Int) := wrap_small _ (by omega) (by omega)
          have f6 : ((S.size : Int) + 1 == 0) = false := by rw [beq_eq_false_iff_ne]; omega
          have q1 : (0 : Int) ≤ (m : Int) := by omega
          have q2 : (m : Int) ≤ (S.size : Int) := by omega
          have hok : RS.ok ⟨S, (allB A n).length, none⟩ := ok_none _ _
          have hef : RS.endF ⟨S, (allB A n).length, none⟩ = (0, 0) := by
            unfold RS.endF
            simp only
            rw [if_pos HSs.out.symm]
          have hlf : (S.size : Int) - ((allB A n).length : Int) = 0 := by have := HSs.out; omega
          have HOk1 := Lib.hid hok; have HEf := Lib.hid hef; have HLf := Lib.hid hlf
          obtain ⟨P, hP⟩ : ∃ P, P = S.extract 0 m := ⟨_, rfl⟩
          have hPl : P.data.toList = (allB A A.length).take m := by
            have e := ex_toList S 0 m
            rw [Nat.zero_add] at e
            rw [hP, e, HSl.out, List.drop_zero, List.take_take, HSs.out.symm, Nat.min_eq_left hmS]
          have HPl := Lib.hid hPl; have HmS : Hid (m ≤ (allB A n).length) := Lib.hid (by have := HSs.out; omega)
          have HP := Lib.hid hP
          clear hm hok hef hlf hPl hP
          go_wp2_with fail
          refine (end_at HR.out.ro HOk1.out 0 0 HEf.out).mono ?_
          rintro e w8 ⟨v, rfl, _, hv, hb⟩
          obtain rfl := hv rfl
          have H8 := Lib.hid (HR.out.later hb)
          clear HR hv hb
          go_wp2_with fail
          refine (left_any true q _ w8 H8.out.ro).mono ?_
          rintro e w9 ⟨rfl, hb⟩
          have H9 := Lib.hid (H8.out.later hb)
          clear hb H8
          rw [HLf.out]
          go_wp2_with fail
          rw [← HP.out]
          have hmA : m ≤ (allB A A.length).length := by rw [HAl.out]; exact HmS.out
          have hPs : P.size = m := back_size HPl.out hmA
          have HmA := Lib.hid hmA; have HPs := Lib.hid hPs
          clear f1 f2 f3 f4 f5 f6 q1 q2 hmA hPs
          refine (read_any true P _ (by rw [HPs.out]; omega)).mono ?_
          rintro e w10 ⟨q2, rfl, hr, hq, hb10⟩
          have HE1 : Hid (E2 w w10 q2 ⟨P, (allB A 0).length, none⟩ (.slice ea n ec) n (eV A n)) := Lib.hid (by
            have hb := H9.out.bel
            have := hb.size
            exact ⟨hr, by omega, hb.next' hb10, ownsRow_later H9.out.en hb10⟩)
          clear hr hq hb10 H9
          go_wp2_with fail
          go_loopw [12, 13] (fun fr i wr => ∃ k : Nat, k ≤ n ∧ i = .int .i64 k ∧ fr = .int .i64 ((allB A k).length : Nat) ∧ (allB A k).length ≤ m ∧ Hid (E2 w wr q2 ⟨P, (allB A k).length, none⟩ (.slice ea n ec) n (eV A n))) (fun _ i _ => n - (intOf i).toNat)
          case atStart => exact ⟨0, Nat.zero_le _, rfl, rfl, Nat.zero_le _, HE1⟩
          case round =>
            clear HE1
            obtain ⟨k, hk, rfl, rfl, hkm, hrel⟩ := hrel
            by_cases hlt : k < n
            · have hkA : k < A.length := by rw [HAl.out]; exact hlt
              obtain ⟨ba, oa, rfl, hI⟩ := HI0.out k hkA
              obtain ⟨g, rfl, _⟩ := HEc.out k hlt wr q2 _ hrel.out
              obtain ⟨k0, k1, k2⟩ := hI wr hrel.out.bel
              have hKp : ∀ u R', E2 w u q2 R' (.slice (some ⟨g, 0, none⟩) n ec) n (eV A n) → u.cell? ⟨g, k, none⟩ = some (.int .i64 ((allB A (k + 1)).length : Nat)) := fun u R' hu => by
                obtain ⟨g', e, hc⟩ := HEc.out k hlt u q2 R' hu
                have e' : g = g' := by simpa using e
                subst e'
                exact hc
              have hSa := same_any w wr q2 _ A[k] (HOk.out _ (List.getElem_mem hkA)) hrel.out
              have i1 : (0 : Int) ≤ (k : Int) := by omega
              have i2 : (k : Int) < (n : Int) := by omega
              by_cases hc : (allB A (k + 1)).length ≤ m
              · obtain ⟨hG, hS'⟩ := back_fwd HOk.out hkA HPl.out hc
                rw [hS'] at hSa
                have hSb := hSa.mono (R' := fun e w' => e = .returned (.bool true) ∧ E2 w w' q2 ⟨P, (allB A (k + 1)).length, none⟩ (.slice (some ⟨g, 0, none⟩) n ec) n (eV A n)) (by
                  rintro e w' ⟨b, rfl, hb, he⟩
                  exact ⟨by rw [hb hG], he⟩)
                clear hI hS' hG hSa
                generalize A[k] = x at *
                obtain ⟨x1, x2, x3⟩ := x
                simp only at k0 k1 k2
                obtain ⟨N, hN⟩ : ∃ N, N = (allB A (k + 1)).length := ⟨_, rfl⟩
                rw [← hN] at hSb hKp hc
                obtain ⟨N0, hN0⟩ : ∃ N, N = (allB A k).length := ⟨_, rfl⟩
                rw [← hN0]
                have hgt : N ≤ P.size := by rw [HPs.out]; exact hc
                have HCS := Lib.hid hSb; have HKp := Lib.hid hKp; have HN := Lib.hid hN; have Hc := Lib.hid hc
                clear hSb hKp hN hrel hc hN0
                go_wp2_with fail
                refine HCS.out.mono ?_
                rintro e w11 ⟨rfl, hz⟩
                have HZ := Lib.hid hz
                have hce := HKp.out _ _ hz
                clear hz HCS k0 k1 k2
                go_wp2_with fail
                refine (err_at HZ.out.ro (ok_none _ _) 0 0 rfl).mono ?_
                rintro e w12 ⟨v, rfl, _, hv, hb⟩
                obtain rfl := hv rfl
                have HZ2 := Lib.hid (HZ.out.later hb)
                clear hv hb hce
                have hce2 := HKp.out _ _ HZ2.out
                go_wp2_with fail
                go_roundw
                case rel => exact ⟨k + 1, by omega, by go_num, by rw [← HN.out], by rw [← HN.out]; exact Hc.out, by rw [← HN.out]; exact HZ2⟩
                case measure => simp [intOf]; omega
              · have hS' := back_cut hkA HPl.out HmA.out (by omega)
                rw [hS'] at hSa
                clear hI hS'
                generalize A[k] = x at *
                obtain ⟨x1, x2, x3⟩ := x
                simp only at k0 k1 k2
                obtain ⟨N, hN⟩ : ∃ N, N = (allB A (k + 1)).length := ⟨_, rfl⟩
                rw [← hN] at hKp hc
                obtain ⟨N0, hN0⟩ : ∃ N, N = (allB A k).length := ⟨_, rfl⟩
                rw [← hN0] at hSa ⊢
                have hgt : P.size < N := by rw [HPs.out]; omega
                have HCS := Lib.hid hSa; have HKp := Lib.hid hKp
                clear hSa hKp hN hrel hc hN0 hkm
                go_wp2_with fail
                refine HCS.out.mono ?_
                rintro e w11 ⟨b, rfl, _, hz⟩
                have HZ := Lib.hid hz
                have hce := HKp.out _ _ hz
                clear hz HCS k0 k1 k2
                have HOk3 : Hid (RS.ok ⟨P, N0, some (3, N0)⟩) := Lib.hid (ok_some _ _ _ _ (by decide))
                go_wp2_with fail
                clear hce
                refine (err_at HZ.out.ro HOk3.out 3 N0 rfl).mono ?_
                rintro e w12 ⟨v, rfl, hv, _, hb⟩
                have HZ2 := Lib.hid (HZ.out.later hb); have HV := Lib.hid hv
                clear hv hb HZ
                go_wp2_with fail
                refine (lawTold_is w12 v 3 0 (N0 : Nat) 0 (HG0.out.later HZ2.out.bel) HV.out).mono ?_
                rintro e w13 ⟨rfl, hb⟩
                have HZ3 := Lib.hid (HZ2.out.later hb)
                clear hb HZ2 HV
                go_wp2_with fail
                refine (end_at HZ3.out.ro HOk3.out 3 N0 rfl).mono ?_
                rintro e w14 ⟨v, rfl, hv, _, hb⟩
                have HZ4 := Lib.hid (HZ3.out.later hb); have HV := Lib.hid hv
                clear hv hb HZ3
                go_wp2_with fail
                refine (lawTold_is w14 v 3 0 (N0 : Nat) 0 (HG0.out.later HZ4.out.bel) HV.out).mono ?_
                rintro e w15 ⟨rfl, hb⟩
                have HZ5 := Lib.hid (HZ4.out.later hb)
                clear hb HZ4 HV
                go_wp2_with fail
                refine (at_any true q2 _ w15 HZ5.out.ro).mono ?_
                rintro e w16 ⟨rfl, rfl⟩
                go_wp2_with fail
                go_ret
                exact ⟨rfl, HZ5.out.bel⟩
            · obtain rfl : n = k := by omega
              have hef : RS.endF ⟨P, (allB A n).length, none⟩ = (0, 0) := by
                unfold RS.endF
                simp only
                rw [if_pos (by have h1 := HPs.out; have h2 := HmS.out; omega)]
              have HEf2 := Lib.hid hef
              clear hef
              go_wp2_with fail
              refine (end_at hrel.out.ro (ok_none _ _) 0 0 HEf2.out).mono ?_
              rintro e w8 ⟨v, rfl, _, hv, hb⟩
              obtain rfl := hv rfl
              have H8 := Lib.hid (hrel.out.later hb)
              clear hv hb
              go_wp2_with fail
              go_ret
              exact ⟨rfl, H8.out.bel⟩
theorem octetBack_rd (va : Value) (cut : Nat) (w : World) (r : Rd Tryd.prog w 52 [va]) (hc : cut < 65536) (hg : HG w) :
    Calls Tryd.prog 6 #[va, .int .u16 (cut : Nat)] w fun e w' => e = .returned (.bool true) ∧ Below w.heap.size w w' := by
  obtain ⟨L, h, k⟩ := Rd.items r
  exact octetBack_any va cut L w h k hc hg
end Go.Proofs.YtaikcehdomaebaaDoor
