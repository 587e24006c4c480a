/- FrameFinds: the walk. -/
import Derived.Test.YtaikcehdomaebaaFrSeal
import Derived.Deep.DeepCutAuto
namespace Go.Proofs.Ytaikcehdomaebaa
open Go.RowKit
theorem xor_u8 (a b : Nat) (ha : a < 256) (hb : b < 256) : bits BinOp.xor IntKind.u8 (a : Int) (b : Int) = ((UInt8.ofNat (a ^^^ b)).toNat : Int) := by
  have hlt : a ^^^ b < 2 ^ 8 := Nat.xor_lt_two_pow (show a < 2 ^ 8 by omega) (show b < 2 ^ 8 by omega)
  rw [u8_xor_nat _ _ (by omega) (by omega), UInt8.toNat_ofNat_of_lt' hlt]
set_option maxHeartbeats 8000000 in
set_option maxRecDepth 100000 in
theorem frameFinds_any (v : Value) (x0 x1 x2 x3 : Nat) (text : ByteArray) (L : List (Int × ByteArray)) (w : World) (hs : SlS w v L) (hx0 : x0 < 65536) (_hx1 : x1 < 65536) (hx2 : x2 < 65536) (_hx3 : x3 < 65536) (htx : text.size ≤ maxLen) :
    Calls Try.prog 4 #[v, .agg #[.int .u16 x0, .int .u16 x1, .int .u16 x2, .int .u16 x3], .string text] w fun e w' => e = .returned (.bool true) ∧ Below w.heap.size w w' := by
  unfold maxLen at htx
  have hok := right_ok L
  have hz60 := right_size L
  have hz := fun x hx => Nat.le_trans (hz60 x hx) (show 60 ≤ 1000000 by decide)
  have hl16 := right_len L
  have hel := encB_len (rightL L)
  have hbl := body60 (rightL L) hz60
  have hE : encV (rightL L) = .tuple #[.string ⟨(encB (rightL L)).toArray⟩, .int .i64 0] := by unfold encV; rw [if_pos hok]
  have CR := Lib.hid (fun u (hu : SlS u v L) => right_any v L u hu)
  generalize rightL L = M at *
  obtain ⟨S, hS⟩ : ∃ S : ByteArray, S = ⟨(encB M).toArray⟩ := ⟨_, rfl⟩
  rw [← hS] at hE
  have hSz : S.size = 11 + 13 * M.length + (bodyB M).length := by rw [hS]; exact hel
  have s1 : 11 + 13 * M.length ≤ S.size := by omega
  have s2 : S.size ≤ 2000 := by omega
  have s3 : 11 ≤ S.size := by omega
  have HE := Lib.hid hE; have HS := Lib.hid hs; have HZ := Lib.hid hz
  clear hE hs hz hz60 hbl hel hSz hS hok
  go_enter Try.func4, Try.ntmps4
  go_wp2_with fail
  have hX := Blk.new w #[.int .u16 x0, .int .u16 x1, .int .u16 x2, .int .u16 x3] 31 (0, 0)
  have hb1 : Below w.heap.size w (w.alloc (.cells #[.int .u16 x0, .int .u16 x1, .int .u16 x2, .int .u16 x3] 31)) := (Below.refl w.heap.size w).alloc (Nat.le_refl _) _
  generalize w.alloc (.cells #[.int .u16 x0, .int .u16 x1, .int .u16 x2, .int .u16 x3] 31) = w1 at *
  have HB1 := Lib.hid hb1
  have HX := Lib.hid hX
  clear hb1 hX
  refine (CR.out w1 (HS.out.later HB1.out)).mono ?_
  rintro e w2 ⟨v2, rfl, ho, hb2⟩
  have HO0 := ho.sl
  obtain ⟨a2, c2, rfl, _⟩ := id HO0
  have HO := Lib.hid HO0; have HB2 := Lib.hid (HB1.out.next' hb2); have HX2 := Lib.hid (HX.out.below hb2 HX.out.lt)
  clear hb2 ho HO0 HX
  go_wp2_with fail
  refine (refEnc_is _ M w2 S 0 HO.out HZ.out (by omega) HE.out).mono ?_
  rintro e w3 ⟨rfl, hb3⟩
  have HB3 := Lib.hid (HB2.out.next' hb3); have HX3 := Lib.hid (HX2.out.below hb3 HX2.out.lt)
  clear hb3 HO HX2
  have hcv := run_bytes_of_string w3 9 32 5 S Try.underlying9 Try.underlying32 Try.underlying5
  generalize hcap : grownCap w3 S.size 0 5 = cap at *
  have hge : S.size ≤ cap := by rw [← hcap]; exact grownCap_ge w3 S.size 0 5
  clear hcap
  rw [bytesRow_size S cap hge, bytesRow_eq] at hcv
  have hB0 : Blk (w3.alloc (.cells (u8cells S.data.toList ++ Array.replicate (cap - S.size) (.int .u8 0)) 5 (cap, cap + 1))).drew w3.heap.size (u8cells S.data.toList ++ Array.replicate (cap - S.size) (.int .u8 0)) 5 (cap, cap + 1) := (Blk.new _ _ _ _).drew
  have hb0 : Below w3.heap.size w3 (w3.alloc (.cells (u8cells S.data.toList ++ Array.replicate (cap - S.size) (.int .u8 0)) 5 (cap, cap + 1))).drew := ((Below.refl _ _).alloc (Nat.le_refl _) _).drew
  generalize hex : Array.replicate (cap - S.size) (Value.int .u8 0) = ex at *
  go_upto_region 4 with fail
  clear hex hcv
  generalize (w3.alloc (.cells (u8cells S.data.toList ++ ex) 5 (cap, cap + 1))).drew = w6 at *
  obtain ⟨g, hg⟩ : ∃ g, g = w3.heap.size := ⟨_, rfl⟩
  have hgs : w.heap.size < g := by rw [hg]; exact HX3.out.lt
  have HB6 := Lib.hid (HB3.out.next' hb0)
  have HX6 := Lib.hid (HX3.out.below hb0 HX3.out.lt)
  rw [← hg] at hB0
  rw [← hg]
  obtain ⟨j, hj⟩ : ∃ j, j = x0 % S.size := ⟨_, rfl⟩
  obtain ⟨y, hy⟩ : ∃ y : UInt8, y = UInt8.ofNat x1 := ⟨_, rfl⟩
  have hyt : (x1 : Int) % 256 = (y.toNat : Int) := by rw [hy, UInt8.toNat_ofNat']; omega
  have hjl : j < S.size := by rw [hj]; exact Nat.mod_lt _ (by omega)
  have hjl2 : j < S.data.toList.length := hjl
  have f1 : (x0 : Int).tmod (S.size : Int) = (j : Int) := by rw [Int.tmod_eq_emod_of_nonneg (by omega), hj]; rfl
  have f2 : (x0 : Int) % (S.size : Int) = (j : Int) := by rw [hj]; rfl
  have f3 : ((S.size : Int) == 0) = false := by rw [beq_eq_false_iff_ne]; omega
  have f6 : ¬ S.size = 0 := by omega
  have i1 : (0 : Int) ≤ (j : Int) := by omega
  have i2 : (j : Int) < (S.size : Int) := by omega
  have hcell := hB0.cell j
  rw [u8cells_get _ _ _ hjl2] at hcell
  have hfz := hB0.free j (.inl (by show j < cap; omega))
  have hset := hB0.set j (.int .u8 (y.toNat : Int))
  rw [u8cells_set _ _ _ hjl2] at hset
  have k0 := HX6.out.cell 0
  have k1 := HX6.out.cell 1
  change w6.cell? ⟨w.heap.size, 0, none⟩ = some (.int .u16 x0) at k0
  change w6.cell? ⟨w.heap.size, 1, none⟩ = some (.int .u16 x1) at k1
  have HSet := Lib.hid hset; have Hj := Lib.hid hj; have Hg := Lib.hid hg
  have hne : ¬ w.heap.size = g := by omega
  have hne' : ¬ g = w.heap.size := by omega
  have hl1 : (S.data.toList.set j y).length = S.size := by rw [List.length_set]; rfl
  have Hl1 := Lib.hid hl1
  clear hset hy hj hg hb0 hB0 hl1
  generalize S.data.toList[j] = z at *
  have HX7 := Lib.hid (HX6.out.setOther ⟨g, j, none⟩ (.int .u8 (y.toNat : Int)) hne)
  have HB7 : Hid (Below w.heap.size w (w6.setCell ⟨g, j, none⟩ (.int .u8 (y.toNat : Int)))) := Lib.hid (HB6.out.setCell (p := ⟨g, j, none⟩) (Nat.le_of_lt hgs) (.int .u8 (y.toNat : Int)))
  go_wp2_with fail
  have HSet' : Hid (Blk (w6.setCell ⟨g, j, none⟩ (.int .u8 (y.toNat : Int))) g (u8cells (S.data.toList.set j y) ++ ex) 5 (cap, cap + 1)) := HSet
  generalize w6.setCell ⟨g, j, none⟩ (.int .u8 (y.toNat : Int)) = w7 at *
  generalize S.data.toList.set j y = l1 at *
  clear HSet hcell hfz k0 k1 hjl2 hyt HB6
  obtain ⟨r, hr⟩ : ∃ r, r = x2 % 40 := ⟨_, rfl⟩
  obtain ⟨t, ht⟩ : ∃ t, t = j + r := ⟨_, rfl⟩
  obtain ⟨j2, hj2⟩ : ∃ j2, j2 = t % S.size := ⟨_, rfl⟩
  have hj2l : j2 < S.size := by rw [hj2]; exact Nat.mod_lt _ (by omega)
  have hj2l1 : j2 < l1.length := by rw [Hl1.out]; exact hj2l
  have hr40 : r < 40 := by omega
  have g1 : (x2 : Int).tmod 40 = (r : Int) := by rw [Int.tmod_eq_emod_of_nonneg (by omega), hr]; rfl
  have g2 : IntKind.u16.wrap (r : Int) = r := by simp [IntKind.wrap, IntKind.signed, IntKind.bits]; omega
  have g3 : IntKind.i64.wrap (r : Int) = r := wrap_small _ (by omega) (by omega)
  have g4 : (j : Int) + (r : Int) = (t : Int) := by omega
  have g5 : IntKind.i64.wrap (t : Int) = t := wrap_small _ (by omega) (by omega)
  have g6 : (t : Int).tmod (S.size : Int) = (j2 : Int) := by rw [Int.tmod_eq_emod_of_nonneg (by omega), hj2]; rfl
  have g7 : (x2 : Int) % 40 = (r : Int) := by rw [hr]; rfl
  have g8 : (t : Int) % (S.size : Int) = (j2 : Int) := by rw [hj2]; rfl
  obtain ⟨y3, hy3⟩ : ∃ y : UInt8, y = UInt8.ofNat x3 := ⟨_, rfl⟩
  have g9 : (x3 : Int) % 256 = (y3.toNat : Int) := by rw [hy3, UInt8.toNat_ofNat']; omega
  have g10 : IntKind.u8.wrap (x3 : Int) = (y3.toNat : Int) := by rw [← g9]; simp [IntKind.wrap, IntKind.signed, IntKind.bits]
  have i3 : (0 : Int) ≤ (j2 : Int) := by omega
  have i4 : (j2 : Int) < (S.size : Int) := by omega
  have hcell := HSet'.out.cell j2
  rw [u8cells_get _ _ _ hj2l1] at hcell
  have hfz := HSet'.out.free j2 (.inl (by show j2 < cap; omega))
  have hset := fun nb : UInt8 => HSet'.out.set j2 (.int .u8 (nb.toNat : Int))
  have hset2 : ∀ nb : UInt8, Blk (w7.setCell ⟨g, j2, none⟩ (.int .u8 (nb.toNat : Int))) g (u8cells (l1.set j2 nb) ++ ex) 5 (cap, cap + 1) := fun nb => by
    have := hset nb
    rwa [u8cells_set _ _ _ hj2l1] at this
  have HSet2 := Lib.hid hset2
  clear hset hset2
  generalize l1[j2] = z2 at *
  have hxor := xor_u8 z2.toNat y3.toNat z2.toNat_lt y3.toNat_lt
  obtain ⟨nb, hnb⟩ : ∃ nb, nb = UInt8.ofNat (z2.toNat ^^^ y3.toNat) := ⟨_, rfl⟩
  rw [← hnb] at hxor
  have k2 := HX7.out.cell 2
  have k3 := HX7.out.cell 3
  change w7.cell? ⟨w.heap.size, 2, none⟩ = some (.int .u16 x2) at k2
  change w7.cell? ⟨w.heap.size, 3, none⟩ = some (.int .u16 x3) at k3
  clear hr ht hj2 hy3 hnb
  have HX8 := Lib.hid (HX7.out.setOther ⟨g, j2, none⟩ (.int .u8 (nb.toNat : Int)) hne)
  have HB8 : Hid (Below w.heap.size w (w7.setCell ⟨g, j2, none⟩ (.int .u8 (nb.toNat : Int)))) := Lib.hid (HB7.out.setCell (p := ⟨g, j2, none⟩) (Nat.le_of_lt hgs) (.int .u8 (nb.toNat : Int)))
  have HS8 := Lib.hid (HSet2.out nb)
  clear HSet2
  go_region
  have HS9 : Hid (Blk (w7.setCell ⟨g, j2, none⟩ (.int .u8 (nb.toNat : Int))).drew g (u8cells (l1.set j2 nb) ++ ex) 5 (cap, cap + 1)) := HS8
  have HX9 : Hid (Blk (w7.setCell ⟨g, j2, none⟩ (.int .u8 (nb.toNat : Int))).drew w.heap.size #[.int .u16 x0, .int .u16 x1, .int .u16 x2, .int .u16 x3] 31 (0, 0)) := HX8
  have HB9 := Lib.hid HB8.out.drew
  have hl2 : (l1.set j2 nb).length = S.size := by rw [List.length_set]; exact Hl1.out
  generalize (w7.setCell ⟨g, j2, none⟩ (.int .u8 (nb.toNat : Int))).drew = w8 at *
  generalize l1.set j2 nb = l2 at *
  clear HS8 HX8 HB8 HX7 HB7 HSet' g1 g2 g3 g4 g5 g6 g7 g8 g9 g10 hcell hfz hxor k2 k3 f1 f2 f3 f6 i1 i2 i3 i4 hj2l hj2l1 Hl1 HX6
  obtain ⟨n1, hn1⟩ : ∃ n1, n1 = S.size + 1 := ⟨_, rfl⟩
  obtain ⟨jc, hjc⟩ : ∃ jc, jc = x0 % n1 := ⟨_, rfl⟩
  have hjcl : jc ≤ S.size := by have := Nat.mod_lt x0 (show 0 < n1 by omega); omega
  have g1 : (S.size : Int) + 1 = (n1 : Int) := by omega
  have g2 : (x0 : Int).tmod (n1 : Int) = (jc : Int) := by rw [Int.tmod_eq_emod_of_nonneg (by omega), hjc]; rfl
  have g3 : (x0 : Int) % (n1 : Int) = (jc : Int) := by rw [hjc]; rfl
  have g4 : ((n1 : Int) == 0) = false := by rw [beq_eq_false_iff_ne]; omega
  have g5 : IntKind.i64.wrap (n1 : Int) = n1 := wrap_small _ (by omega) (by omega)
  have i1 : (0 : Int) ≤ (jc : Int) := by omega
  have i2 : (jc : Int) ≤ (S.size : Int) := by omega
  have k0 := HX9.out.cell 0
  change w8.cell? ⟨w.heap.size, 0, none⟩ = some (.int .u16 x0) at k0
  have hn1l : n1 ≤ 3000 := by omega
  clear hn1 hjc
  go_wp2_with fail
  refine (seal_any g cap l2 ex (cap, cap + 1) M.length S.size w8 HS9.out hl2 hge s1 (by omega)).mono ?_
  rintro e wa ⟨T5, rfl, hT5, hba⟩
  have HSa := Lib.hid (HS9.out.below hba HS9.out.lt); have HXa := Lib.hid (HX9.out.below hba HX9.out.lt); have HBa := Lib.hid (HB9.out.next' hba)
  clear hba HS9 HX9 HB9 k0 g1 g2 g3 g4 g5
  obtain ⟨T2, hT2⟩ : ∃ T : ByteArray, T = ⟨l2.toArray⟩ := ⟨_, rfl⟩
  have hT2s : T2.size ≤ 1000000 := by rw [hT2]; show l2.length ≤ _; omega
  have hcb : ∀ u, Blk u g (u8cells l2 ++ ex) 5 (cap, cap + 1) → (convert 32 9 (.slice (some ⟨g, 0, none⟩) S.size cap)).run Try.prog u = .ok (.string T2) u := fun u hu => by
    have h := conv_block u g l2 ex 5 (cap, cap + 1) cap hu (P := Try.prog) Try.underlying32 Try.underlying5 Try.underlying9
    rw [hl2, ← hT2] at h
    exact h
  obtain ⟨m, hm⟩ : ∃ m, m = min text.size 200 := ⟨_, rfl⟩
  have hmin := fun u => run_min2 (P := Try.prog) text.size 200 u #[3, 3] 3 (m : Int) (by omega)
  have q1 : (0 : Int) ≤ (m : Int) := by omega
  have q2 : (m : Int) ≤ (text.size : Int) := by omega
  have hT6s : (text.extract 0 m).size ≤ 1000000 := by rw [ByteArray.size_extract]; omega
  have hT3s : (S.extract 0 jc).size ≤ 1000000 := by rw [ByteArray.size_extract]; omega
  obtain ⟨y1, hy1⟩ : ∃ y : UInt8, y = UInt8.ofNat x1 := ⟨_, rfl⟩
  have g9 : (x1 : Int) % 256 = (y1.toNat : Int) := by rw [hy1, UInt8.toNat_ofNat']; omega
  have g10 : IntKind.u8.wrap (x1 : Int) = (y1.toNat : Int) := by rw [← g9]; simp [IntKind.wrap, IntKind.signed, IntKind.bits]
  have hT4s : (S ++ ⟨#[y1]⟩ : ByteArray).size ≤ 1000000 := by rw [ByteArray.size_append]; show S.size + 1 ≤ _; omega
  have q3 : ¬ 9223372036854775807 < S.size + 1 := by omega
  have hwl : w.heap.size < wa.heap.size := HXa.out.lt
  have kb0 := hcb wa HSa.out
  have kb1 := hcb wa.drew HSa.out.drew
  have kb2 := hcb (wa.alloc (.cells #[.int .u8 (y1.toNat : Int)] 5)).drew (HSa.out.alloc _).drew
  have kq1 : (convert 32 9 (.slice (some ⟨wa.heap.size, 0, none⟩) 1 1)).run Try.prog (wa.alloc (.cells #[.int .u8 (y1.toNat : Int)] 5)).drew = .ok (.string ⟨#[y1]⟩) (wa.alloc (.cells #[.int .u8 (y1.toNat : Int)] 5)).drew :=
    conv_block _ wa.heap.size [y1] #[] 5 (0, 0) 1 (Blk.new wa #[.int .u8 (y1.toNat : Int)] 5 (0, 0)).drew Try.underlying32 Try.underlying5 Try.underlying9
  have k1 := HXa.out.cell 1
  change wa.cell? ⟨w.heap.size, 1, none⟩ = some (.int .u16 x1) at k1
  clear hy1 hm hT2 hcb
  go_wp2_with fail
  go_region
  have HBb : Hid (Below w.heap.size w (wa.alloc (.cells #[.int .u8 (y1.toNat : Int)] 5)).drew) := Lib.hid (HBa.out.alloc HBa.out.size _).drew
  clear kb0 kb1 kb2 kq1 k1 hmin g9 g10 q1 q2 q3
  generalize (wa.alloc (.cells #[.int .u8 (y1.toNat : Int)] 5)).drew = wb at *
  generalize text.extract 0 m = T6 at *
  generalize S.extract 0 jc = T3 at *
  generalize S ++ ⟨#[y1]⟩ = T4 at *
  have HS1s : Hid (S.size ≤ 1000000) := Lib.hid (by omega)
  have H2s := Lib.hid hT2s; have H3s := Lib.hid hT3s; have H4s := Lib.hid hT4s; have H5s := Lib.hid hT5; have H6s := Lib.hid hT6s
  clear hT2s hT3s hT4s hT5 hT6s hjl
  go_wp2_with fail
  go_loopw [88] (fun i wr => ∃ k : Nat, k ≤ 6 ∧ i = .int .i64 k ∧ Hid (Below w.heap.size w wr)) (fun i _ => 6 - (intOf i).toNat)
  case atStart => exact ⟨0, Nat.zero_le _, rfl, HBb⟩
  case round =>
    obtain ⟨k, hk, rfl, hrel⟩ := hrel
    by_cases hlt : k < 6
    · obtain ⟨T, hidx, hTs⟩ : ∃ T : ByteArray, (∀ u : World, (Instr.index 34 (.agg #[.string S, .string T2, .string T3, .string T4, .string T5, .string T6]) (.int .i64 k)).run Try.prog u = .ok (.string T) u) ∧ T.size ≤ 1000000 := by
        have h01 : k = 0 ∨ k = 1 ∨ k = 2 ∨ k = 3 ∨ k = 4 ∨ k = 5 := by omega
        rcases h01 with rfl | rfl | rfl | rfl | rfl | rfl
        · exact ⟨S, fun u => rfl, HS1s.out⟩
        · exact ⟨T2, fun u => rfl, H2s.out⟩
        · exact ⟨T3, fun u => rfl, H3s.out⟩
        · exact ⟨T4, fun u => rfl, H4s.out⟩
        · exact ⟨T5, fun u => rfl, H5s.out⟩
        · exact ⟨T6, fun u => rfl, H6s.out⟩
      obtain ⟨c, N, hd⟩ : ∃ c N, decV T = (c, N) := ⟨_, _, rfl⟩
      have Hd := Lib.hid hd; have HTs := Lib.hid hTs
      clear hd hTs
      go_wp2_with fail
      refine (dec_is2 T c N wr HTs.out Hd.out).mono ?_
      rintro e wc ⟨ac, cc, rfl, hsc, hbc⟩
      have HSc := Lib.hid hsc; have HBc := Lib.hid (hrel.out.next' hbc)
      clear hsc hbc
      go_wp2_with fail
      refine (refDec_any T wc HTs.out c N Hd.out).mono ?_
      rintro e wd ⟨ad, cd, rfl, hsd, hbd⟩
      have HSc2 := Lib.hid (HSc.out.later hbd); have HSd := Lib.hid hsd; have HBd := Lib.hid (HBc.out.next' hbd)
      clear hsd hbd
      go_wp2_with fail
      refine (same_yes _ _ N wd HSc2.out HSd.out).mono ?_
      rintro e we ⟨rfl, hbe⟩
      have HBe := Lib.hid (HBd.out.next' hbe)
      clear hbe
      go_wp2_with fail
      go_roundw
      case rel => exact ⟨k + 1, by omega, by go_num, HBe⟩
      case measure => simp [intOf]; omega
    · obtain rfl : k = 6 := by omega
      go_wp2_with fail
      refine (works_any wr).mono ?_
      rintro e we ⟨rfl, hbe⟩
      have HBe := Lib.hid (hrel.out.next' hbe)
      clear hbe
      go_wp2_with fail
      go_ret
      exact ⟨rfl, HBe.out⟩
theorem lawFrameFinds_any (v : Value) (cs : Array Value) (text : ByteArray) (w : World) (h : Rd Try.prog w 22 [v]) (hx : Rd Try.prog w 31 cs.toList) (ht : text.size ≤ maxLen) :
    Calls Try.prog 4 #[v, .agg cs, .string text] w fun e w' => e = .returned (.bool true) ∧ Below w.heap.size w w' := by
  obtain ⟨L, hs, _, _⟩ := Rd.secs h
  obtain ⟨l, hl, hb, rfl⟩ := Rd.u16s Try.underlying31 (by kernel_rfl) hx
  match l, hl with
  | [x0, x1, x2, x3], _ => exact frameFinds_any v x0 x1 x2 x3 text L w hs (hb x0 (by simp)) (hb x1 (by simp)) (hb x2 (by simp)) (hb x3 (by simp)) ht
end Go.Proofs.Ytaikcehdomaebaa
