/- FrameBack: the walk. -/
import Derived.Test.YtaikcehdomaebaaFrRight
import Derived.StillTailTactics
namespace Go.Proofs.Ytaikcehdomaebaa
open Go.RowKit
theorem dec_is2 (s : ByteArray) (c : Int) (M : List (Int × ByteArray)) (w : World) (hs : s.size ≤ 1000000) (h : decV s = (c, M)) :
    Calls Try.prog 15 #[.string s] w fun e w' => ∃ a cap, e = .returned (.tuple #[.slice a M.length cap, .int .i64 c]) ∧ SlS w' (.slice a M.length cap) M ∧ Below w.heap.size w w' := by
  refine (dec_any s w hs).mono ?_
  rintro e w' ⟨v, rfl, hs, hb⟩
  rw [h] at hs
  obtain ⟨a, cap, rfl, _⟩ := id hs
  exact ⟨a, cap, by rw [h], hs, hb⟩
theorem body60 (q : List (Int × ByteArray)) (h : ∀ x ∈ q, x.2.size ≤ 60) : (bodyB q).length ≤ 60 * q.length := by
  induction q with
  | nil => simp [bodyB]
  | cons x q ih =>
    have h1 := ih (fun y hy => h y (by simp [hy]))
    have h2 := h x (by simp)
    show (x.2.data.toList ++ bodyB q).length ≤ _
    rw [List.length_append, List.length_cons, ba_size]
    omega
theorem encB_len (L : List (Int × ByteArray)) : (encB L).length = 11 + 13 * L.length + (bodyB L).length := by
  unfold encB headB
  rw [List.length_append, List.length_append, List.length_append, List.length_append, leb_length, leb_length, flat_len]
  simp; omega
theorem body_mem (L : List (Int × ByteArray)) (x : Int × ByteArray) (hx : x ∈ L) : x.2.size ≤ (bodyB L).length := by
  induction L with
  | nil => cases hx
  | cons y L ih =>
    show _ ≤ (y.2.data.toList ++ bodyB L).length
    rw [List.length_append, ba_size]
    rcases List.mem_cons.1 hx with rfl | hx
    · omega
    · have := ih hx; omega
/-- what comes of any bytes: none, or sections that are put to the same bytes -/
theorem dec_cases (t : ByteArray) (ht : t.size ≤ 1000000) : ∃ (c : Int) (M : List (Int × ByteArray)) (S : ByteArray), decV t = (c, M) ∧ encV M = .tuple #[.string S, .int .i64 0] ∧ (∀ x ∈ M, x.2.size ≤ 1000000) ∧ M.length ≤ 1000 ∧ (c = 0 ∧ S = t ∨ c ≠ 0 ∧ M.length = 0) := by
  obtain ⟨c, M, h⟩ : ∃ c M, decV t = (c, M) := ⟨_, _, rfl⟩
  by_cases hc : c = 0
  · subst hc
    obtain ⟨h1, h2⟩ := enc_decV t M h
    have hl := encB_len M
    rw [h2, ba_size] at hl
    have h16 : M.length ≤ 16 := by
      unfold okL at h1
      rw [Bool.and_eq_true] at h1
      exact of_decide_eq_true h1.1
    refine ⟨0, M, t, h, ?_, fun x hx => by have := body_mem M x hx; omega, by omega, .inl ⟨rfl, rfl⟩⟩
    unfold encV
    rw [if_pos h1, h2, ba_mk]
  · have hM := decV_bad t (by rw [h]; exact hc)
    rw [h] at hM
    have hM' : M = [] := hM
    subst hM'
    exact ⟨c, [], s0, h, works_k0, (fun x hx => by cases hx), Nat.zero_le _, .inr ⟨hc, rfl⟩⟩
set_option maxHeartbeats 4000000 in
set_option maxRecDepth 100000 in
theorem frameBack_any (v : Value) (x0 x1 : Nat) (text : ByteArray) (L : List (Int × ByteArray)) (w : World) (hs : SlS w v L) (hx0 : x0 < 65536) (_hx1 : x1 < 65536) (htx : text.size ≤ maxLen) :
    Calls Try.prog 5 #[v, .agg #[.int .u16 x0, .int .u16 x1], .string text] w fun e w' => e = .returned (.bool true) ∧ Below w.heap.size w w' := by
  unfold maxLen at htx
  have hok := right_ok L
  have hz60 := right_size L
  have hz := fun x hx => Nat.le_trans (hz60 x hx) (show 60 ≤ 1000000 by decide)
  have hl16 := right_len L
  have hel := encB_len (rightL L)
  have hbl := body60 (rightL L) hz60
  have hE : encV (rightL L) = .tuple #[.string ⟨(encB (rightL L)).toArray⟩, .int .i64 0] := by unfold encV; rw [if_pos hok]
  have hD := decV_enc (rightL L) hok hz
  have CR := Lib.hid (fun u (hu : SlS u v L) => right_any v L u hu)
  generalize rightL L = M at *
  obtain ⟨S, hS⟩ : ∃ S : ByteArray, S = ⟨(encB M).toArray⟩ := ⟨_, rfl⟩
  rw [← hS] at hE hD
  have hSz : S.size = 11 + 13 * M.length + (bodyB M).length := by rw [hS]; exact hel
  have s1 : 11 + 13 * M.length ≤ S.size := by omega
  have s2 : S.size ≤ 2000 := by omega
  have s3 : 11 ≤ S.size := by omega
  have HE := Lib.hid hE; have HD := Lib.hid hD; have HS := Lib.hid hs; have HZ := Lib.hid hz
  clear hE hD hs hz hz60 hbl hel hSz hS hok
  go_enter Try.func5, Try.ntmps5
  go_wp2_with fail
  refine (works_any _).mono ?_
  rintro e w1 ⟨rfl, hb1⟩
  have hX := (Blk.new w #[.int .u16 x0, .int .u16 x1] 39 (0, 0)).below hb1 (by simp)
  have HB1 : Hid (Below w.heap.size w w1) := Lib.hid (((Below.refl w.heap.size w).alloc (Nat.le_refl _) _).trans (hb1.mono (by simp)))
  have HX := Lib.hid hX
  clear hb1 hX
  go_wp2_with fail
  refine (CR.out w1 (HS.out.later HB1.out)).mono ?_
  rintro e w2 ⟨v2, rfl, ho, hb2⟩
  have HO0 := ho.sl
  obtain ⟨a2, c2, rfl, _⟩ := id HO0
  have HO := Lib.hid HO0; have HB2 := Lib.hid (HB1.out.next' hb2); have HX2 := Lib.hid (HX.out.below hb2 HX.out.lt)
  clear hb2 ho HO0 HX
  go_wp2_with fail
  refine (enc_is _ M w2 S 0 HO.out HZ.out (by omega) HE.out).mono ?_
  rintro e w3 ⟨rfl, hb3⟩
  have HO3 := Lib.hid (HO.out.later hb3); have HB3 := Lib.hid (HB2.out.next' hb3); have HX3 := Lib.hid (HX2.out.below hb3 HX2.out.lt)
  clear hb3 HO HX2
  go_wp2_with fail
  refine (dec_is2 S 0 M w3 (by omega) HD.out).mono ?_
  rintro e w4 ⟨a4, c4, rfl, hs4, hb4⟩
  have HO4 := Lib.hid (HO3.out.later hb4); have HB4 := Lib.hid (HB3.out.next' hb4); have HX4 := Lib.hid (HX3.out.below hb4 HX3.out.lt); have HS4 := Lib.hid hs4
  clear hb4 HO3 HX3 hs4
  go_wp2_with fail
  refine (same_yes _ _ M w4 HS4.out HO4.out).mono ?_
  rintro e w5 ⟨rfl, hb5⟩
  have HB5 := Lib.hid (HB4.out.next' hb5); have HX5 := Lib.hid (HX4.out.below hb5 HX4.out.lt)
  clear hb5 HX4 HS4 HO4
  go_wp2_with fail
  refine (head_in M.length w5 (by omega) (by omega)).mono ?_
  rintro e w' ⟨rfl, rfl⟩
  have s1' : ¬ (S.size : Int) < 11 + 13 * (M.length : Int) := by omega
  have s1'' : decide ((S.size : Int) < 11 + 13 * (M.length : Int)) = false := decide_eq_false s1'
  have hcv := run_bytes_of_string w5 9 32 5 S Try.underlying9 Try.underlying32 Try.underlying5
  generalize hcap : grownCap w5 S.size 0 5 = cap at *
  have hge : S.size ≤ cap := by rw [← hcap]; exact grownCap_ge w5 S.size 0 5
  clear hcap
  rw [bytesRow_size S cap hge, bytesRow_eq] at hcv
  go_wp2_with fail
  have hB0 : Blk (w5.alloc (.cells (u8cells S.data.toList ++ Array.replicate (cap - S.size) (.int .u8 0)) 5 (cap, cap + 1))).drew w5.heap.size (u8cells S.data.toList ++ Array.replicate (cap - S.size) (.int .u8 0)) 5 (cap, cap + 1) := (Blk.new _ _ _ _).drew
  have hb0 : Below w5.heap.size w5 (w5.alloc (.cells (u8cells S.data.toList ++ Array.replicate (cap - S.size) (.int .u8 0)) 5 (cap, cap + 1))).drew := ((Below.refl _ _).alloc (Nat.le_refl _) _).drew
  generalize hex : Array.replicate (cap - S.size) (Value.int .u8 0) = ex at *
  clear hex hcv
  generalize (w5.alloc (.cells (u8cells S.data.toList ++ ex) 5 (cap, cap + 1))).drew = w6 at *
  obtain ⟨g, hg⟩ : ∃ g, g = w5.heap.size := ⟨_, rfl⟩
  have hgs : w.heap.size < g := by rw [hg]; exact HX5.out.lt
  have HB6 := Lib.hid (HB5.out.next' hb0)
  have HX6 := Lib.hid (HX5.out.below hb0 HX5.out.lt)
  rw [← hg] at hB0
  rw [← hg]
  obtain ⟨j, hj⟩ : ∃ j, j = x0 % S.size := ⟨_, rfl⟩
  obtain ⟨y, hy⟩ : ∃ y : UInt8, y = UInt8.ofNat x1 := ⟨_, rfl⟩
  have hyt : (x1 : Int) % 256 = (y.toNat : Int) := by rw [hy, UInt8.toNat_ofNat']; omega
  have hjl : j < S.size := by rw [hj]; exact Nat.mod_lt _ (by omega)
  have hjl2 : j < S.data.toList.length := hjl
  have f1 : (x0 : Int).tmod (S.size : Int) = (j : Int) := by rw [Int.tmod_eq_emod_of_nonneg (by omega), hj]; rfl
  have f2 : (x0 : Int) % (S.size : Int) = (j : Int) := by rw [hj]; rfl
  have f3 : ((S.size : Int) == 0) = false := by rw [beq_eq_false_iff_ne]; omega
  have f4 : IntKind.i64.wrap (x0 : Int) = x0 := wrap_small _ (by omega) (by omega)
  have f5 : IntKind.u8.wrap (x1 : Int) = (y.toNat : Int) := by rw [← hyt]; simp [IntKind.wrap, IntKind.signed, IntKind.bits]
  have f6 : ¬ S.size = 0 := by omega
  have i1 : (0 : Int) ≤ (j : Int) := by omega
  have i2 : (j : Int) < (S.size : Int) := by omega
  have hcell := hB0.cell j
  rw [u8cells_get _ _ _ hjl2] at hcell
  have hfz := hB0.free j (.inl (by show j < cap; omega))
  have hset := hB0.set j (.int .u8 (y.toNat : Int))
  rw [u8cells_set _ _ _ hjl2] at hset
  have c0 := HX6.out.cell 0
  have c1 := HX6.out.cell 1
  change w6.cell? ⟨w.heap.size, 0, none⟩ = some (.int .u16 x0) at c0
  change w6.cell? ⟨w.heap.size, 1, none⟩ = some (.int .u16 x1) at c1
  have HSet := Lib.hid hset; have Hy := Lib.hid hy; have Hj := Lib.hid hj; have Hg := Lib.hid hg
  clear hset hy hj hg hb0 hB0
  generalize S.data.toList[j] = z at *
  have hne : ¬ w.heap.size = g := by omega
  have hne' : ¬ g = w.heap.size := by omega
  have hl6 := HX6.out.lt
  go_region_held3 (fun w' => w'.cell? ⟨w.heap.size, 0, none⟩ = some (.int .u16 x0) ∧ w'.cell? ⟨w.heap.size, 1, none⟩ = some (.int .u16 x1)) (first | exact ⟨c0, c1⟩ | go_keep) (fail)
  have HB7 : Hid (Below w.heap.size w (w6.setCell ⟨g, j, none⟩ (.int .u8 (y.toNat : Int))).drew) := Lib.hid (HB6.out.setCell (p := ⟨g, j, none⟩) (Nat.le_of_lt hgs) (.int .u8 (y.toNat : Int))).drew
  have hs7 : Blk (w6.setCell ⟨g, j, none⟩ (.int .u8 (y.toNat : Int))).drew g (u8cells (S.data.toList.set j y) ++ ex) 5 (cap, cap + 1) := HSet.out.drew
  generalize (w6.setCell ⟨g, j, none⟩ (.int .u8 (y.toNat : Int))).drew = w7 at *
  have hTl : (S.data.toList.set j y).length = S.size := by rw [List.length_set]; rfl
  generalize S.data.toList.set j y = l at *
  have hcv2 : ∀ n, (convert 32 9 (.slice (some ⟨g, 0, none⟩) S.size cap)).run Try.prog (w7.drewN n) = .ok (.string ⟨l.toArray⟩) (w7.drewN n) := fun n => by
    have hs8 : Blk (w7.drewN n) g (u8cells l ++ ex) 5 (cap, cap + 1) := hs7
    have := conv_block (w7.drewN n) g l ex 5 (cap, cap + 1) cap hs8 (P := Try.prog) Try.underlying32 Try.underlying5 Try.underlying9
    rw [hTl] at this
    exact this
  obtain ⟨T0, hT0⟩ : ∃ T0 : ByteArray, T0 = ⟨l.toArray⟩ := ⟨_, rfl⟩
  have hT0s : T0.size ≤ 1000000 := by rw [hT0]; show l.length ≤ _; omega
  rw [← hT0] at hcv2
  obtain ⟨m, hm⟩ : ∃ m, m = min text.size 200 := ⟨_, rfl⟩
  have hmin := fun u => run_min2 (P := Try.prog) text.size 200 u #[3, 3] 3 (m : Int) (by omega)
  have k1 : (0 : Int) ≤ (m : Int) := by omega
  have k2 : (m : Int) ≤ (text.size : Int) := by omega
  have hT1s : (text.extract 0 m).size ≤ 1000000 := by rw [ByteArray.size_extract]; omega
  have HT0 := Lib.hid hT0; have HM := Lib.hid hm; have HT0S := Lib.hid hT0s; have HT1S := Lib.hid hT1s
  clear hT0 hm hs7 hTl hT0s hT1s hcell hfz HSet c0 c1 f1 f2 f3 f4 f5 f6 hyt
  go_wp2_with fail
  go_quiet (fail)
  have HB8 := Lib.hid (below_drewN HB7.out nq)
  generalize text.extract 0 m = T1 at *
  generalize w7.drewN nq = w8 at *
  clear hcv2 hmin k1 k2 HB7
  go_wp2_with fail
  go_loopw [73] (fun i wr => ∃ k : Nat, k ≤ 2 ∧ i = .int .i64 k ∧ Hid (Below w.heap.size w wr)) (fun i _ => 2 - (intOf i).toNat)
  case atStart => exact ⟨0, Nat.zero_le _, rfl, HB8⟩
  case round =>
    obtain ⟨k, hk, rfl, hrel⟩ := hrel
    by_cases hlt : k < 2
    · obtain ⟨T, hidx, hTs⟩ : ∃ T : ByteArray, (∀ u : World, (Instr.index 40 (.agg #[.string T0, .string T1]) (.int .i64 k)).run Try.prog u = .ok (.string T) u) ∧ T.size ≤ 1000000 := by
        have h01 : k = 0 ∨ k = 1 := by omega
        rcases h01 with rfl | rfl
        · exact ⟨T0, fun u => rfl, HT0S.out⟩
        · exact ⟨T1, fun u => rfl, HT1S.out⟩
      obtain ⟨c, N, E, hd, he, hnz, hnl, hor⟩ := dec_cases T hTs
      have Hd := Lib.hid hd; have He := Lib.hid he; have Hnz := Lib.hid hnz; have HTs := Lib.hid hTs
      clear hd he hnz hTs
      rcases hor with ⟨rfl, rfl⟩ | ⟨hc0, hN0⟩
      · go_wp2_with fail
        refine (dec_is2 E 0 N wr HTs.out Hd.out).mono ?_
        rintro e w9 ⟨a9, c9, rfl, hs9, hb9⟩
        have HS9 := Lib.hid hs9; have HB9 := Lib.hid (hrel.out.next' hb9)
        clear hs9 hb9
        go_wp2_with fail
        refine (enc_is _ N w9 E 0 HS9.out Hnz.out hnl He.out).mono ?_
        rintro e w10 ⟨rfl, hb10⟩
        have HB10 := Lib.hid (HB9.out.next' hb10)
        clear hb10
        go_wp2_with fail
        go_roundw
        case rel => exact ⟨k + 1, by omega, by go_num, HB10⟩
        case measure => simp [intOf]; omega
      · have hcb : (c == 0) = false := by rw [beq_eq_false_iff_ne]; exact hc0
        have hcb' : (c != 0) = true := by rw [bne_iff_ne]; exact hc0
        have HN0 := Lib.hid hN0
        clear hN0
        go_wp2_with fail
        refine (dec_is2 T c N wr HTs.out Hd.out).mono ?_
        rintro e w9 ⟨a9, c9, rfl, hs9, hb9⟩
        have HS9 := Lib.hid hs9; have HB9 := Lib.hid (hrel.out.next' hb9)
        clear hs9 hb9
        go_wp2_with fail
        refine (enc_is _ N w9 E 0 HS9.out Hnz.out hnl He.out).mono ?_
        rintro e w10 ⟨rfl, hb10⟩
        have HB10 := Lib.hid (HB9.out.next' hb10)
        clear hb10
        have hN0 := HN0.out
        have hN1 : decide (0 < N.length) = false := decide_eq_false (by omega)
        have hN2 : decide ((0 : Int) < (N.length : Int)) = false := decide_eq_false (by omega)
        have hN3 : ¬ 0 < N.length := by omega
        clear hN0
        go_wp2_with fail
        go_roundw
        case rel => exact ⟨k + 1, by omega, by go_num, HB10⟩
        case measure => simp [intOf]; omega
    · obtain rfl : k = 2 := by omega
      go_wp2_with fail
      go_ret
      exact ⟨rfl, hrel.out⟩
theorem Rd.u16s {w : World} {n : Nat} {t : TypeId} {cs : Array Value} (ht : Try.prog.underlying t = some (.array n 30)) (hn : Try.prog.cellsOf t = n) (h : Rd Try.prog w t cs.toList) :
    ∃ l : List Nat, l.length = n ∧ (∀ x ∈ l, x < 65536) ∧ cs = (l.map fun x => Value.int .u16 (x : Nat)).toArray := by
  have c1 : Try.prog.cellsOf 30 = 1 := by kernel_rfl
  have hl := (Rd.array ht h).1
  rw [hn] at hl
  have hex : ∀ i, i < n → ∃ x : Nat, x < 65536 ∧ cs.toList[i]? = some (.int .u16 (x : Nat)) := fun i hi => by
    have hi' : i < cs.toList.length := by omega
    obtain ⟨x, e, hx⟩ := Rd.int Try.underlying30 (Rd.elem ht h i hi c1 (List.getElem?_eq_getElem hi'))
    have e' : cs.toList[i] = .int .u16 x := by simpa using e
    have hb : 0 ≤ x ∧ x ≤ 65535 := by simpa [Lit.wf, IntKind.min, IntKind.max, IntKind.signed, IntKind.bits] using hx
    obtain ⟨X, rfl⟩ := Int.eq_ofNat_of_zero_le hb.1
    exact ⟨X, by omega, by rw [List.getElem?_eq_getElem hi', e']⟩
  obtain ⟨f, hf⟩ := Go.Deep.choose_lt hex
  refine ⟨(List.range n).map f, by simp, fun x hx => ?_, ?_⟩
  · obtain ⟨i, hi, rfl⟩ := List.mem_map.1 hx
    exact (hf i (List.mem_range.1 hi)).1
  · apply Array.ext'
    apply List.ext_getElem?
    intro i
    by_cases hi : i < n
    · rw [(hf i hi).2]; simp [hi]
    · rw [List.getElem?_eq_none (by omega), List.getElem?_eq_none (by simp; omega)]
theorem lawFrameBack_any (v : Value) (cs : Array Value) (text : ByteArray) (w : World) (h : Rd Try.prog w 22 [v]) (hx : Rd Try.prog w 39 cs.toList) (ht : text.size ≤ maxLen) :
    Calls Try.prog 5 #[v, .agg cs, .string text] w fun e w' => e = .returned (.bool true) ∧ Below w.heap.size w w' := by
  obtain ⟨L, hs, _, _⟩ := Rd.secs h
  obtain ⟨l, hl, hb, rfl⟩ := Rd.u16s Try.underlying39 (by kernel_rfl) hx
  match l, hl with
  | [x0, x1], _ => exact frameBack_any v x0 x1 text L w hs (hb x0 (by simp)) (hb x1 (by simp)) ht
end Go.Proofs.Ytaikcehdomaebaa
