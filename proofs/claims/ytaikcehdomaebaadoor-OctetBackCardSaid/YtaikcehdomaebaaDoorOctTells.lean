/- OctetTells: the walk. -/
import Derived.Test.YtaikcehdomaebaaDoorOctRead
import Derived.RegionTactic
import Derived.Deep.RegionWith
import Derived.IntWalk
import Derived.Deep.DeepCutAuto
import Derived.Test.YtaikcehdomaebaaDoorRead
import Derived.Test.YtaikcehdomaebaaDoorHeldAny
namespace Go.Proofs.YtaikcehdomaebaaDoor
open Go.RowKit
/-- v is a slice of the items L -/
def SlT (w : World) (v : Value) (L : List It) : Prop :=
  ∃ (a : Option Addr) (cap : Nat), v = .slice a L.length cap ∧ L.length ≤ cap ∧ cap ≤ maxLen ∧ ∀ i (h : i < L.length), ∃ b off, a = some ⟨b, off, none⟩ ∧ w.cell? ⟨b, off + i * 3, none⟩ = some (.int .u8 (L[i].1 : Nat)) ∧ w.cell? ⟨b, off + i * 3 + 1, none⟩ = some (.int .u64 (L[i].2.1 : Nat)) ∧ w.cell? ⟨b, off + i * 3 + 2, none⟩ = some (.string L[i].2.2)
theorem SlT.later {w w' : World} {v : Value} {L : List It} (h : SlT w v L) (hb : Below w.heap.size w w') : SlT w' v L := by
  obtain ⟨a, cap, rfl, h1, h2, h3⟩ := h
  refine ⟨a, cap, rfl, h1, h2, fun i hi => ?_⟩
  obtain ⟨b, off, rfl, c1, c2, c3⟩ := h3 i hi
  have e := hb.block b (block_lt_of_cell c1)
  exact ⟨b, off, rfl, (World.cell?_of_block e).trans c1, (World.cell?_of_block e).trans c2, (World.cell?_of_block e).trans c3⟩
theorem Rd.items {w : World} {v : Value} (h : Rd Tryd.prog w 52 [v]) : ∃ L : List It, SlT w v L ∧ ∀ x ∈ L, itOk x := by
  have c3 : Tryd.prog.cellsOf 54 = 3 := by kernel_rfl
  have c8 : Tryd.prog.cellsOf 5 = 1 := by kernel_rfl
  have c64 : Tryd.prog.cellsOf 32 = 1 := by kernel_rfl
  have cs1 : Tryd.prog.cellsOf 9 = 1 := by kernel_rfl
  obtain ⟨a, len, cap, h1, hl, hm, hel⟩ := Rd.slice Tryd.underlying52 (by rw [c3]; decide) h
  have hex : ∀ i, i < len → ∃ x : It, itOk x ∧ ∃ b off, a = some ⟨b, off, none⟩ ∧ w.cell? ⟨b, off + i * 3, none⟩ = some (.int .u8 (x.1 : Nat)) ∧ w.cell? ⟨b, off + i * 3 + 1, none⟩ = some (.int .u64 (x.2.1 : Nat)) ∧ w.cell? ⟨b, off + i * 3 + 2, none⟩ = some (.string x.2.2) := fun i hi => by
    obtain ⟨b, off, ha, es, hes, hcell, hrd⟩ := hel i hi
    rw [c3] at hes hcell
    match es, hes with
    | [e0, e1, e2], _ =>
      have r0 : Rd Tryd.prog w 5 [e0] := Rd.field Tryd.underlying54 hrd 0 rfl c8 rfl
      have r1 : Rd Tryd.prog w 32 [e1] := Rd.field Tryd.underlying54 hrd 1 rfl c64 rfl
      have r2 : Rd Tryd.prog w 9 [e2] := Rd.field Tryd.underlying54 hrd 2 rfl cs1 rfl
      obtain ⟨m, q0, hm⟩ := Rd.int Tryd.underlying5 r0
      obtain ⟨n, q1, hn⟩ := Rd.int Tryd.underlying32 r1
      obtain ⟨s, q2, hs⟩ := Rd.string Tryd.underlying9 r2
      obtain rfl : e0 = .int .u8 m := by simpa using q0
      obtain rfl : e1 = .int .u64 n := by simpa using q1
      obtain rfl : e2 = .string s := by simpa using q2
      have b0 : 0 ≤ m ∧ m ≤ 255 := by simpa [Lit.wf, IntKind.min, IntKind.max, IntKind.signed, IntKind.bits] using hm
      have b1 : 0 ≤ n ∧ n ≤ 18446744073709551615 := by simpa [Lit.wf, IntKind.min, IntKind.max, IntKind.signed, IntKind.bits] using hn
      obtain ⟨M, rfl⟩ := Int.eq_ofNat_of_zero_le b0.1
      obtain ⟨N, rfl⟩ := Int.eq_ofNat_of_zero_le b1.1
      have k0 := hcell 0 (by decide)
      have k1 := hcell 1 (by decide)
      have k2 := hcell 2 (by decide)
      unfold maxLen at hs
      exact ⟨(M, N, s), ⟨by show M < 256; omega, by show N < _; omega, by show s.size ≤ _; omega⟩, b, off, ha, by simpa using k0, by simpa [Nat.add_assoc] using k1, by simpa [Nat.add_assoc] using k2⟩
  obtain ⟨f, hf⟩ := Go.Deep.choose_lt hex
  have hv : v = .slice a len cap := by simpa using h1
  refine ⟨(List.range len).map f, ⟨a, cap, by rw [hv]; simp, by simpa using hl, hm, fun i hi => ?_⟩, fun x hx => ?_⟩
  · have hi' : i < len := by simpa using hi
    obtain ⟨_, b, off, ha, hc1, hc2, hc3⟩ := hf i hi'
    exact ⟨b, off, ha, by simpa using hc1, by simpa using hc2, by simpa using hc3⟩
  · obtain ⟨i, hi, rfl⟩ := List.mem_map.1 hx
    exact (hf i (List.mem_range.1 hi)).1
def allB (L : List It) (k : Nat) : List UInt8 := (L.take k).flatMap itB
theorem allB_succ (L : List It) (k : Nat) (hk : k < L.length) : allB L (k + 1) = allB L k ++ itB L[k] := by
  unfold allB
  rw [List.take_succ_eq_append_getElem hk, List.flatMap_append]
  simp
theorem allB_len (L : List It) (k : Nat) : (allB L k).length ≤ 40 * k := by
  have h : ∀ l : List It, (l.flatMap itB).length ≤ 40 * l.length := by
    intro l
    induction l with
    | nil => simp
    | cons x l ih =>
      have := itB_len x
      rw [List.flatMap_cons, List.length_append, List.length_cons]; omega
  have := h (L.take k)
  rw [List.length_take] at this
  unfold allB; omega
/-- readers behind k items -/
def itRs (R : RS) (L : List It) (k : Nat) : RS := (L.take k).foldl itR R
theorem itRs_succ (R : RS) (L : List It) (k : Nat) (hk : k < L.length) : itRs R L (k + 1) = itR (itRs R L k) L[k] := by
  unfold itRs
  rw [List.take_succ_eq_append_getElem hk, List.foldl_append]
  rfl
theorem itRs_s (R : RS) (L : List It) (k : Nat) : (itRs R L k).s = R.s := by
  unfold itRs
  generalize L.take k = l
  induction l generalizing R with
  | nil => rfl
  | cons x l ih => rw [List.foldl_cons, ih, itR_s]
theorem itR_le {w : World} {q : Nat} {R : RS} (h : Ro true w q R) (x : It) : (itR R x).at_ ≤ (itR R x).s.size := by
  have ht : ∀ n : Int, (R.take n).2.at_ ≤ (R.take n).2.s.size := fun n => by
    have hle := h.le
    unfold RS.take
    split
    · exact hle
    · split
      · exact hle
      · split
        · exact hle
        · show R.at_ + n.toNat ≤ R.s.size
          omega
  unfold itR RS.num
  repeat' split
  all_goals exact ht _
theorem RP.blk2 {w0 w : World} {q q2 : Nat} {R : RS} (h : RP w0 w q q2 R) {c : Int} {i : Nat} (he : R.errF = (c, i)) : Blk w q2 #[.string R.s, .int .i64 R.at_, .int .i64 c, .int .i64 0, .int .i64 (i : Nat), .int .i64 0] 59 (0, 0) := by
  obtain ⟨⟨c', i', hb, hci⟩, _, _⟩ := h.rf
  unfold RS.errF at he
  rcases hci with ⟨hf, rfl, rfl⟩ | ⟨hf, _⟩
  · rw [hf] at he
    cases he
    exact hb
  · rw [hf] at he
    cases he
    exact hb
set_option maxHeartbeats 8000000 in
set_option maxRecDepth 100000 in
theorem octetTells_any (v1 v2 : Value) (s : ByteArray) (L1 L2 : List It) (w : World) (hs1 : SlT w v1 L1) (hs2 : SlT w v2 L2) (ok1 : ∀ x ∈ L1, itOk x) (ok2 : ∀ x ∈ L2, itOk x) (hsz : s.size ≤ maxLen) (hg : HG w) :
    Calls Tryd.prog 5 #[v1, v2, .string s] w fun e w' => e = .returned (.bool true) ∧ Below w.heap.size w w' := by
  unfold maxLen at hsz
  obtain ⟨a1, c1, rfl, l1, m1, _⟩ := id hs1
  obtain ⟨a2, c2, rfl, l2, m2, _⟩ := id hs2
  unfold maxLen at m1 m2
  have HS1 := Lib.hid hs1; have HS2 := Lib.hid hs2; have HO1 := Lib.hid ok1; have HO2 := Lib.hid ok2; have HG0 := Lib.hid hg
  clear hs1 hs2 ok1 ok2 hg
  go_enter Tryd.func5, Tryd.ntmps5
  go_wp2_with fail
  refine (ws_new w).mono ?_
  rintro e w1 ⟨p, rfl, hw, _⟩
  have H1 := Lib.hid hw
  clear hw
  go_wp2_with fail
  refine (works_any w1 (HG0.out.later H1.out.below)).mono ?_
  rintro e w2 ⟨rfl, hb⟩
  have H2 := Lib.hid (H1.out.later hb)
  clear hb H1
  go_wp2_with fail
  go_loopw [8, 9] (fun st i wr => ∃ k : Nat, k ≤ L1.length ∧ k ≤ 30 ∧ i = .int .i64 k ∧ st = .string ⟨(allB L1 k).toArray⟩ ∧ Hid (WS w wr p (allB L1 k))) (fun _ i _ => L1.length - (intOf i).toNat)
  case atStart => exact ⟨0, Nat.zero_le _, Nat.zero_le _, rfl, rfl, H2⟩
  case round =>
    clear H2
    obtain ⟨k, hk, hk30, rfl, rfl, hrel⟩ := hrel
    have hal := allB_len L1 k
    by_cases hlt : k < L1.length ∧ k < 30
    · obtain ⟨hlt, h30⟩ := hlt
      obtain ⟨ba, oa, ha0, k0, k1, k2⟩ : ∃ ba oa, a1 = some ⟨ba, oa, none⟩ ∧ wr.cell? ⟨ba, oa + k * 3, none⟩ = some (.int .u8 (L1[k].1 : Nat)) ∧ wr.cell? ⟨ba, oa + k * 3 + 1, none⟩ = some (.int .u64 (L1[k].2.1 : Nat)) ∧ wr.cell? ⟨ba, oa + k * 3 + 2, none⟩ = some (.string L1[k].2.2) := by
        obtain ⟨a', c', e, _, _, hh⟩ := HS1.out.later hrel.out.below
        obtain ⟨bl, ol, e2, q1, q2, q3⟩ := hh k hlt
        have e3 := (Value.slice.inj e).1
        exact ⟨bl, ol, by rw [e3, e2], q1, q2, q3⟩
      subst ha0
      have hok := HO1.out _ (List.getElem_mem hlt)
      have hsu := allB_succ L1 k hlt
      have hil := itB_len L1[k]
      generalize L1[k] = x at *
      have hwr := Lib.hid (write_any w wr p _ x hok hrel.out (by omega))
      obtain ⟨x1, x2, x3⟩ := x
      simp only at k0 k1 k2
      obtain ⟨B, hB⟩ : ∃ B, B = itB (x1, x2, x3) := ⟨_, rfl⟩
      rw [← hB] at hsu hil hwr
      obtain ⟨A, hA⟩ : ∃ A, A = allB L1 k := ⟨_, rfl⟩
      rw [← hA] at hsu hwr hal
      rw [← hA]
      have hcc : ¬ 9223372036854775807 < A.length + B.length := by omega
      have HSu := Lib.hid hsu
      have hbd := hrel.out.below
      have HBd := Lib.hid hbd
      clear hsu hB hA hok hrel hbd
      go_wp2_with fail
      refine hwr.out.mono ?_
      rintro e w3 ⟨rfl, hw⟩
      have HW3 := Lib.hid hw
      clear hw hwr
      go_wp2_with fail
      refine (ws_str HW3.out).mono ?_
      rintro e w4 ⟨rfl, rfl⟩
      have hap := str_app' A B
      have HAp := Lib.hid hap
      go_wp2_with fail
      clear hap
      go_roundw
      case rel => exact ⟨k + 1, by omega, by omega, by go_num, by rw [HSu.out, ← HAp.out], by rw [HSu.out]; exact HW3⟩
      case measure => simp [intOf]; omega
    · obtain ⟨T1, hT1⟩ : ∃ T1 : ByteArray, T1 = ⟨(allB L1 k).toArray⟩ := ⟨_, rfl⟩
      have hT1s : T1.size ≤ 2000 := by rw [hT1]; show (allB L1 k).length ≤ _; omega
      rw [← hT1]
      obtain ⟨m, hm⟩ : ∃ m, m = min s.size 100 := ⟨_, rfl⟩
      have hmin := fun u => run_min2 (P := Tryd.prog) s.size 100 u #[3, 3] 3 (m : Int) (by omega)
      have q1 : (0 : Int) ≤ (m : Int) := by omega
      have q2 : (m : Int) ≤ (s.size : Int) := by omega
      have hT2s : (s.extract 0 m).size ≤ 2000 := by rw [ByteArray.size_extract]; omega
      have HT1 := Lib.hid hT1s; have HT2 := Lib.hid hT2s
      have HBd := Lib.hid hrel.out.below
      clear hT1 hm hT1s hT2s hrel hal
      have hcases : L1.length ≤ k ∨ (k < L1.length ∧ 30 ≤ k) := by omega
      clear hlt
      rcases hcases with hc | ⟨hc, hc2⟩
      all_goals
        go_wp2_with fail
        generalize s.extract 0 m = T2 at *
        clear hmin q1 q2
        go_loopw [51] (fun i wr => ∃ j : Nat, j ≤ 2 ∧ i = .int .i64 j ∧ Hid (Below w.heap.size w wr)) (fun i _ => 2 - (intOf i).toNat)
        case atStart => exact ⟨0, Nat.zero_le _, rfl, HBd⟩
        case round =>
          clear HBd
          obtain ⟨j, hj, rfl, hrel⟩ := hrel
          by_cases hj2 : j < 2
          · obtain ⟨T, hidx, hTs⟩ : ∃ T : ByteArray, (∀ u : World, (Instr.index 56 (.agg #[.string T1, .string T2]) (.int .i64 j)).run Tryd.prog u = .ok (.string T) u) ∧ T.size ≤ 2000 := by
              have h01 : j = 0 ∨ j = 1 := by omega
              rcases h01 with rfl | rfl
              · exact ⟨T1, fun u => rfl, HT1.out⟩
              · exact ⟨T2, fun u => rfl, HT2.out⟩
            go_wp2_with fail
            refine (read_any true T wr (by omega)).mono ?_
            rintro e w5 ⟨q, rfl, hr, hq, hb5⟩
            have hRP : RP w (w5.alloc (.cells #[.string T, .int .i64 0, .int .i64 0, .int .i64 0, .int .i64 0, .int .i64 0] 59)) q w5.heap.size ⟨T, 0, none⟩ := by
              have hs := hrel.out.size
              have hB5 := hrel.out.next' hb5
              exact ⟨hr.later ((Below.refl _ _).alloc (Nat.le_refl _) _), ⟨⟨0, 0, Blk.new _ _ _ _, .inl ⟨rfl, rfl, rfl⟩⟩, Nat.zero_le _, by show T.size ≤ _; omega⟩, by omega, by have := hB5.size; omega, RS.ok_new T, hB5.alloc hB5.size _⟩
            have HRP := Lib.hid hRP
            clear hRP hr hq hb5 hrel
            obtain ⟨q2, hq2⟩ : ∃ q2, q2 = w5.heap.size := ⟨_, rfl⟩
            go_wp2_with fail
            rw [← hq2]
            rw [← hq2] at HRP
            generalize w5.alloc (.cells #[.string T, .int .i64 0, .int .i64 0, .int .i64 0, .int .i64 0, .int .i64 0] 59) = w6 at *
            clear hq2
            go_loopw [14] (fun i wr => ∃ k : Nat, k ≤ L2.length ∧ k ≤ 30 ∧ i = .int .i64 k ∧ Hid (RP w wr q q2 (itRs ⟨T, 0, none⟩ L2 k))) (fun i _ => L2.length - (intOf i).toNat)
            case atStart => exact ⟨0, Nat.zero_le _, Nat.zero_le _, rfl, HRP⟩
            case round =>
              clear HRP
              obtain ⟨k, hk, hk30, rfl, hrel⟩ := hrel
              by_cases hlt : k < L2.length ∧ k < 30
              · obtain ⟨hlt, h30⟩ := hlt
                obtain ⟨ba, oa, ha0, hI⟩ : ∃ ba oa, a2 = some ⟨ba, oa, none⟩ ∧ ∀ u, Below w.heap.size w u → u.cell? ⟨ba, oa + k * 3, none⟩ = some (.int .u8 (L2[k].1 : Nat)) ∧ u.cell? ⟨ba, oa + k * 3 + 1, none⟩ = some (.int .u64 (L2[k].2.1 : Nat)) ∧ u.cell? ⟨ba, oa + k * 3 + 2, none⟩ = some (.string L2[k].2.2) := by
                  obtain ⟨a', c', e, _, _, hh⟩ := HS2.out
                  obtain ⟨bl, ol, e2, q1, q2, q3⟩ := hh k hlt
                  have e3 := (Value.slice.inj e).1
                  exact ⟨bl, ol, by rw [e3, e2], fun u hu => by
                    have eb := hu.block bl (block_lt_of_cell q1)
                    exact ⟨(World.cell?_of_block eb).trans q1, (World.cell?_of_block eb).trans q2, (World.cell?_of_block eb).trans q3⟩⟩
                subst ha0
                have hok := HO2.out _ (List.getElem_mem hlt)
                have hsu := itRs_succ ⟨T, 0, none⟩ L2 k hlt
                have hRs := itRs_s ⟨T, 0, none⟩ L2 (k + 1)
                generalize L2[k] = x at *
                have CR0 := fun u (hu : RP w u q q2 (itRs ⟨T, 0, none⟩ L2 k)) => read_item w u q q2 _ x hok hu
                rw [← hsu] at CR0
                have HR0 := Lib.hid (hrel.out.later ((Below.refl _ _).drew))
                have HRb := Lib.hid hrel.out.bel
                obtain ⟨R', hR'⟩ : ∃ R', R' = itRs ⟨T, 0, none⟩ L2 (k + 1) := ⟨_, rfl⟩
                rw [← hR'] at CR0 hRs
                obtain ⟨x1, x2, x3⟩ := x
                simp only at hI
                obtain ⟨k0, k1, k2⟩ := hI wr hrel.out.bel
                have HI := Lib.hid hI
                clear hI
                have CR1 : ∀ u, RP w u q q2 (itRs ⟨T, 0, none⟩ L2 k) → Calls Tryd.prog 28 #[.agg #[.int .u8 (x1 : Nat), .int .u64 (x2 : Nat), .string x3], .pointer (some ⟨q, 0, none⟩), .pointer (some ⟨q2, 0, none⟩)] u fun e w' => e = .returned (.bool true) ∧ RP w w' q q2 R' := CR0
                have CR := Lib.hid CR1
                clear CR0 CR1
                obtain ⟨ce, ie, hee⟩ : ∃ ce ie, R'.errF = (ce, ie) := ⟨_, _, rfl⟩
                obtain ⟨cn, inn, hen⟩ : ∃ cn inn, R'.endF = (cn, inn) := ⟨_, _, rfl⟩
                obtain ⟨p', hp'⟩ : ∃ p', p' = R'.at_ := ⟨_, rfl⟩
                have Hee := Lib.hid hee; have Hen := Lib.hid hen; have Hp' := Lib.hid hp'; have HRs := Lib.hid hRs; have HR' := Lib.hid hR'; have HRel := Lib.hid hrel.out
                have CA : ∀ u, RP w u q q2 R' → Calls Tryd.prog 23 #[.pointer (some ⟨q, 0, none⟩)] u fun e w' => e = .returned (.int .i64 (p' : Nat)) ∧ u = w' := fun u hu => by rw [hp']; exact at_any true q R' u hu.ro
                obtain ⟨lf, hlf⟩ : ∃ lf : Int, lf = (T.size : Int) - (p' : Int) := ⟨_, rfl⟩
                have hple : p' ≤ T.size := by
                  have h := (itR_le hrel.out.ro (x1, x2, x3))
                  rw [← hsu, ← hR', hRs] at h
                  rw [hp']
                  exact h
                have CL : ∀ u, RP w u q q2 R' → Calls Tryd.prog 24 #[.pointer (some ⟨q, 0, none⟩)] u fun e w' => e = .returned (.int .i64 lf) ∧ Below u.heap.size u w' := fun u hu => by
                  have h := left_any true q R' u hu.ro
                  rw [hRs, ← hp', ← hlf] at h
                  exact h
                have e1 : (T.size : Int) - (p' : Int) = lf := hlf.symm
                have e2 : IntKind.i64.wrap lf = lf := IntWalk.i64_in _ (by omega)
                have CE : ∀ u, RP w u q q2 R' → Calls Tryd.prog 16 #[.pointer (some ⟨q, 0, none⟩)] u fun e w' => ∃ v, e = .returned v ∧ ErrIs w' v ce 0 (ie : Nat) 0 ∧ Below u.heap.size u w' := fun u hu => (err_at hu.ro hu.ok ce ie hee).mono fun e w' ⟨v, h1, h2, _, h4⟩ => ⟨v, h1, h2, h4⟩
                have CN : ∀ u, RP w u q q2 R' → Calls Tryd.prog 25 #[.pointer (some ⟨q, 0, none⟩)] u fun e w' => ∃ v, e = .returned v ∧ ErrIs w' v cn 0 (inn : Nat) 0 ∧ Below u.heap.size u w' := fun u hu => (end_at hu.ro hu.ok cn inn hen).mono fun e w' ⟨v, h1, h2, _, h4⟩ => ⟨v, h1, h2, h4⟩
                have CF : ∀ u, RP w u q q2 R' → Calls Tryd.prog 29 #[.pointer (some ⟨q2, 0, none⟩)] u fun e w' => e = .returned (.agg #[.int .i64 cn, .int .i64 0, .int .i64 (inn : Nat), .int .i64 0]) ∧ Below u.heap.size u w' := fun u hu => by
                  have h := refEnd_any q2 R' u hu.rf
                  rw [hen] at h
                  exact h
                have CT : ∀ u v c i, RP w u q q2 R' → ErrIs u v c 0 (i : Nat) 0 → Calls Tryd.prog 18 #[v, .agg #[.int .i64 c, .int .i64 0, .int .i64 (i : Nat), .int .i64 0]] u fun e w' => e = .returned (.bool true) ∧ Below u.heap.size u w' := fun u v c i hu hv => lawTold_is u v c 0 i 0 (HG0.out.later hu.bel) hv
                have HCA := Lib.hid CA; have HCL := Lib.hid CL; have HCE := Lib.hid CE; have HCN := Lib.hid CN; have HCF := Lib.hid CF; have HCT := Lib.hid CT
                clear hee hen hp' hRs hR' hsu hok hrel hlf CA CL CE CN CF CT hple
                have i1 : (0 : Int) ≤ (k : Int) := by omega
                have i2 : (k : Int) < (L2.length : Int) := by omega
                go_wp2_with fail
                refine wp_region_held (S := fun w' => w'.cell? ⟨ba, oa + k * 3, none⟩ = some (.int .u8 (x1 : Nat)) ∧ w'.cell? ⟨ba, oa + k * 3 + 1, none⟩ = some (.int .u64 (x2 : Nat)) ∧ w'.cell? ⟨ba, oa + k * 3 + 2, none⟩ = some (.string x3)) rfl ?_
                have hS0 : wr.drew.cell? ⟨ba, oa + k * 3, none⟩ = some (.int .u8 (x1 : Nat)) ∧ wr.drew.cell? ⟨ba, oa + k * 3 + 1, none⟩ = some (.int .u64 (x2 : Nat)) ∧ wr.drew.cell? ⟨ba, oa + k * 3 + 2, none⟩ = some (.string x3) := ⟨k0, k1, k2⟩
                change wpAnyH _ _ _ _ _ 47 _ _ wr.drew
                (refine heldA_take (i := 0) (v := (.slice (some ⟨ba, oa, none⟩) L2.length c2)) rfl rfl (by kernel_rfl) (by kernel_rfl) (by kernel_rfl) (fun _ _ _ h => h) (by rfl) (fun w hS => by obtain ⟨hS1, hS2, hS3⟩ := hS; go_simp) (by assumption) ?_; try simp only [List.setIfInBounds_toArray, List.set_cons_zero, List.set_cons_succ])
                (refine heldA_take (i := 1) (v := (.int .i64 k)) rfl rfl (by kernel_rfl) (by kernel_rfl) (by kernel_rfl) (fun _ _ _ h => h) (by rfl) (fun w hS => by obtain ⟨hS1, hS2, hS3⟩ := hS; go_simp) (by assumption) ?_; try simp only [List.setIfInBounds_toArray, List.set_cons_zero, List.set_cons_succ])
                (refine heldA_take (i := 2) (v := (.pointer (some ⟨ba, oa + k * 3, none⟩))) rfl rfl (by kernel_rfl) (by kernel_rfl) (by kernel_rfl) (fun _ _ _ h => h) (by rfl) (fun w hS => by obtain ⟨hS1, hS2, hS3⟩ := hS; go_simp) (by assumption) ?_; try simp only [List.setIfInBounds_toArray, List.set_cons_zero, List.set_cons_succ])
                (refine heldA_take (i := 3) (v := (.agg #[.int .u8 (x1 : Nat), .int .u64 (x2 : Nat), .string x3])) rfl rfl (by kernel_rfl) (by kernel_rfl) (by kernel_rfl) (fun _ _ _ h => h) (by rfl) (fun w hS => by obtain ⟨hS1, hS2, hS3⟩ := hS; go_simp) (by assumption) ?_; try simp only [List.setIfInBounds_toArray, List.set_cons_zero, List.set_cons_succ])
                (refine heldA_take (i := 4) (v := (.pointer (some ⟨q, 0, none⟩))) rfl rfl (by kernel_rfl) (by kernel_rfl) (by kernel_rfl) (fun _ _ _ h => h) (by rfl) (fun w hS => by obtain ⟨hS1, hS2, hS3⟩ := hS; go_simp) (by assumption) ?_; try simp only [List.setIfInBounds_toArray, List.set_cons_zero, List.set_cons_succ])
                (refine heldA_take (i := 5) (v := (.pointer (some ⟨q2, 0, none⟩))) rfl rfl (by kernel_rfl) (by kernel_rfl) (by kernel_rfl) (fun _ _ _ h => h) (by rfl) (fun w hS => by obtain ⟨hS1, hS2, hS3⟩ := hS; go_simp) (by assumption) ?_; try simp only [List.setIfInBounds_toArray, List.set_cons_zero, List.set_cons_succ])
                refine heldA_one (i := 6) (by kernel_rfl) ?_
                refine wpOp_calls (f := 28) rfl rfl (by rfl) (by go_simp) (CR.out wr.drew HR0.out) ?_ (by rintro _ _ ⟨h, _⟩; cases h) (by rintro _ ⟨h, _⟩; cases h)
                rintro _ u1 ⟨⟨rfl⟩, hp1⟩
                simp only [List.setIfInBounds_toArray, List.set_cons_zero, List.set_cons_succ]
                have hZ : ∀ u, RP w u q q2 R' → u.cell? ⟨q2, 1, none⟩ = some (.int .i64 (p' : Nat)) ∧ u.cell? ⟨q2, 2, none⟩ = some (.int .i64 ce) ∧ u.cell? ⟨q2, 3, none⟩ = some (.int .i64 0) ∧ u.cell? ⟨q2, 4, none⟩ = some (.int .i64 (ie : Nat)) ∧ u.cell? ⟨q2, 5, none⟩ = some (.int .i64 0) := fun u hu => by
                  have hb := hu.blk2 Hee.out
                  rw [← Hp'.out] at hb
                  exact ⟨hb.cell 1, hb.cell 2, hb.cell 3, hb.cell 4, hb.cell 5⟩
                have HZ := Lib.hid hZ
                clear hZ
                refine ⟨HI.out _ hp1.bel, ?_⟩
                refine heldA_grow (S1 := fun w' => RP w w' q q2 R' ∧ w'.cell? ⟨q2, 1, none⟩ = some (.int .i64 (p' : Nat)) ∧ w'.cell? ⟨q2, 2, none⟩ = some (.int .i64 ce) ∧ w'.cell? ⟨q2, 3, none⟩ = some (.int .i64 0) ∧ w'.cell? ⟨q2, 4, none⟩ = some (.int .i64 (ie : Nat)) ∧ w'.cell? ⟨q2, 5, none⟩ = some (.int .i64 0)) (fun u hu => HI.out u hu.1.bel) _ _ _ _ ?_
                have hpu1 := hp1
                have hS1 := And.intro hp1 (HZ.out u1 hp1)
                clear hS0
                (refine heldA_take (i := 7) (v := (.bool false)) rfl rfl (by kernel_rfl) (by kernel_rfl) (by kernel_rfl) (fun _ _ _ h => h) (by rfl) (fun w hS => by obtain ⟨_, hS1, hS2, hS3, hS4, hS5⟩ := hS; go_simp) (by assumption) ?_; try simp only [List.setIfInBounds_toArray, List.set_cons_zero, List.set_cons_succ])
                (refine heldA_take (i := 8) (v := (.bool false)) rfl rfl (by kernel_rfl) (by kernel_rfl) (by kernel_rfl) (fun _ _ _ h => h) (by rfl) (fun w hS => by obtain ⟨_, hS1, hS2, hS3, hS4, hS5⟩ := hS; go_simp) (by assumption) ?_; try simp only [List.setIfInBounds_toArray, List.set_cons_zero, List.set_cons_succ])
                (refine heldA_take (i := 9) (v := (.pointer (some ⟨q, 0, none⟩))) rfl rfl (by kernel_rfl) (by kernel_rfl) (by kernel_rfl) (fun _ _ _ h => h) (by rfl) (fun w hS => by obtain ⟨_, hS1, hS2, hS3, hS4, hS5⟩ := hS; go_simp) (by assumption) ?_; try simp only [List.setIfInBounds_toArray, List.set_cons_zero, List.set_cons_succ])
                (refine heldA_take (i := 11) (v := (.pointer (some ⟨q2, 0, none⟩))) rfl rfl (by kernel_rfl) (by kernel_rfl) (by kernel_rfl) (fun _ _ _ h => h) (by rfl) (fun w hS => by obtain ⟨_, hS1, hS2, hS3, hS4, hS5⟩ := hS; go_simp) (by assumption) ?_; try simp only [List.setIfInBounds_toArray, List.set_cons_zero, List.set_cons_succ])
                (refine heldA_take (i := 12) (v := (.pointer (some ⟨q2, 0, none⟩))) rfl rfl (by kernel_rfl) (by kernel_rfl) (by kernel_rfl) (fun _ _ _ h => h) (by rfl) (fun w hS => by obtain ⟨_, hS1, hS2, hS3, hS4, hS5⟩ := hS; go_simp) (by assumption) ?_; try simp only [List.setIfInBounds_toArray, List.set_cons_zero, List.set_cons_succ])
                (refine heldA_take (i := 13) (v := (.pointer (some ⟨q2, 1, none⟩))) rfl rfl (by kernel_rfl) (by kernel_rfl) (by kernel_rfl) (fun _ _ _ h => h) (by rfl) (fun w hS => by obtain ⟨_, hS1, hS2, hS3, hS4, hS5⟩ := hS; go_simp) (by assumption) ?_; try simp only [List.setIfInBounds_toArray, List.set_cons_zero, List.set_cons_succ])
                (refine heldA_take (i := 14) (v := (.int .i64 (p' : Nat))) rfl rfl (by kernel_rfl) (by kernel_rfl) (by kernel_rfl) (fun _ _ _ h => h) (by rfl) (fun w hS => by obtain ⟨_, hS1, hS2, hS3, hS4, hS5⟩ := hS; go_simp) (by assumption) ?_; try simp only [List.setIfInBounds_toArray, List.set_cons_zero, List.set_cons_succ])
                refine heldA_one (i := 10) (by kernel_rfl) ?_
                refine wpOp_calls (f := 23) rfl rfl (by rfl) (by go_simp) (HCA.out u1 hp1) ?_ (by rintro _ _ ⟨h, _⟩; cases h) (by rintro _ ⟨h, _⟩; cases h)
                rintro _ u2 ⟨⟨rfl⟩, rfl⟩
                refine ⟨hS1, ?_⟩
                simp only [List.setIfInBounds_toArray, List.set_cons_zero, List.set_cons_succ]
                (refine heldA_take (i := 15) (v := (.bool false)) rfl rfl (by kernel_rfl) (by kernel_rfl) (by kernel_rfl) (fun _ _ _ h => h) (by rfl) (fun w hS => by obtain ⟨_, hS1, hS2, hS3, hS4, hS5⟩ := hS; go_simp) (by assumption) ?_; try simp only [List.setIfInBounds_toArray, List.set_cons_zero, List.set_cons_succ])
                (refine heldA_take (i := 16) (v := (.bool false)) rfl rfl (by kernel_rfl) (by kernel_rfl) (by kernel_rfl) (fun _ _ _ h => h) (by rfl) (fun w hS => by obtain ⟨_, hS1, hS2, hS3, hS4, hS5⟩ := hS; go_simp) (by assumption) ?_; try simp only [List.setIfInBounds_toArray, List.set_cons_zero, List.set_cons_succ])
                (refine heldA_take (i := 17) (v := (.bool false)) rfl rfl (by kernel_rfl) (by kernel_rfl) (by kernel_rfl) (fun _ _ _ h => h) (by rfl) (fun w hS => by obtain ⟨_, hS1, hS2, hS3, hS4, hS5⟩ := hS; go_simp) (by assumption) ?_; try simp only [List.setIfInBounds_toArray, List.set_cons_zero, List.set_cons_succ])
                (refine heldA_take (i := 18) (v := (.pointer (some ⟨q, 0, none⟩))) rfl rfl (by kernel_rfl) (by kernel_rfl) (by kernel_rfl) (fun _ _ _ h => h) (by rfl) (fun w hS => by obtain ⟨_, hS1, hS2, hS3, hS4, hS5⟩ := hS; go_simp) (by assumption) ?_; try simp only [List.setIfInBounds_toArray, List.set_cons_zero, List.set_cons_succ])
                (refine heldA_take (i := 20) (v := (.string T)) rfl rfl (by kernel_rfl) (by kernel_rfl) (by kernel_rfl) (fun _ _ _ h => h) (by rfl) (fun w hS => by obtain ⟨_, hS1, hS2, hS3, hS4, hS5⟩ := hS; go_simp) (by assumption) ?_; try simp only [List.setIfInBounds_toArray, List.set_cons_zero, List.set_cons_succ])
                (refine heldA_take (i := 21) (v := (.int .i64 T.size)) rfl rfl (by kernel_rfl) (by kernel_rfl) (by kernel_rfl) (fun _ _ _ h => h) (by rfl) (fun w hS => by obtain ⟨_, hS1, hS2, hS3, hS4, hS5⟩ := hS; go_simp) (by assumption) ?_; try simp only [List.setIfInBounds_toArray, List.set_cons_zero, List.set_cons_succ])
                (refine heldA_take (i := 22) (v := (.pointer (some ⟨q2, 0, none⟩))) rfl rfl (by kernel_rfl) (by kernel_rfl) (by kernel_rfl) (fun _ _ _ h => h) (by rfl) (fun w hS => by obtain ⟨_, hS1, hS2, hS3, hS4, hS5⟩ := hS; go_simp) (by assumption) ?_; try simp only [List.setIfInBounds_toArray, List.set_cons_zero, List.set_cons_succ])
                (refine heldA_take (i := 23) (v := (.pointer (some ⟨q2, 0, none⟩))) rfl rfl (by kernel_rfl) (by kernel_rfl) (by kernel_rfl) (fun _ _ _ h => h) (by rfl) (fun w hS => by obtain ⟨_, hS1, hS2, hS3, hS4, hS5⟩ := hS; go_simp) (by assumption) ?_; try simp only [List.setIfInBounds_toArray, List.set_cons_zero, List.set_cons_succ])
                (refine heldA_take (i := 24) (v := (.pointer (some ⟨q2, 1, none⟩))) rfl rfl (by kernel_rfl) (by kernel_rfl) (by kernel_rfl) (fun _ _ _ h => h) (by rfl) (fun w hS => by obtain ⟨_, hS1, hS2, hS3, hS4, hS5⟩ := hS; go_simp) (by assumption) ?_; try simp only [List.setIfInBounds_toArray, List.set_cons_zero, List.set_cons_succ])
                (refine heldA_take (i := 25) (v := (.int .i64 (p' : Nat))) rfl rfl (by kernel_rfl) (by kernel_rfl) (by kernel_rfl) (fun _ _ _ h => h) (by rfl) (fun w hS => by obtain ⟨_, hS1, hS2, hS3, hS4, hS5⟩ := hS; go_simp) (by assumption) ?_; try simp only [List.setIfInBounds_toArray, List.set_cons_zero, List.set_cons_succ])
                (refine heldA_take (i := 26) (v := (.int .i64 lf)) rfl rfl (by kernel_rfl) (by kernel_rfl) (by kernel_rfl) (fun _ _ _ h => h) (by rfl) (fun w hS => by obtain ⟨_, hS1, hS2, hS3, hS4, hS5⟩ := hS; go_simp) (by assumption) ?_; try simp only [List.setIfInBounds_toArray, List.set_cons_zero, List.set_cons_succ])
                refine heldA_one (i := 19) (by kernel_rfl) ?_
                refine wpOp_calls (f := 24) rfl rfl (by rfl) (by go_simp) (HCL.out u1 hpu1) ?_ (by rintro _ _ h; first | (obtain ⟨h, _⟩ := h; cases h; done) | (obtain ⟨_, h, _⟩ := h; cases h; done)) (by rintro _ h; first | (obtain ⟨h, _⟩ := h; cases h; done) | (obtain ⟨_, h, _⟩ := h; cases h; done))
                rintro _ u3 ⟨⟨rfl⟩, hb⟩
                have hpu3 := hpu1.later hb
                have hSu3 := And.intro hpu3 (HZ.out u3 hpu3)
                refine ⟨hSu3, ?_⟩
                simp only [List.setIfInBounds_toArray, List.set_cons_zero, List.set_cons_succ]
                clear hS1 hb
                (refine heldA_take (i := 27) (v := (.bool false)) rfl rfl (by kernel_rfl) (by kernel_rfl) (by kernel_rfl) (fun _ _ _ h => h) (by rfl) (fun w hS => by obtain ⟨_, hS1, hS2, hS3, hS4, hS5⟩ := hS; go_simp) (by assumption) ?_; try simp only [List.setIfInBounds_toArray, List.set_cons_zero, List.set_cons_succ])
                (refine heldA_take (i := 28) (v := (.bool false)) rfl rfl (by kernel_rfl) (by kernel_rfl) (by kernel_rfl) (fun _ _ _ h => h) (by rfl) (fun w hS => by obtain ⟨_, hS1, hS2, hS3, hS4, hS5⟩ := hS; go_simp) (by assumption) ?_; try simp only [List.setIfInBounds_toArray, List.set_cons_zero, List.set_cons_succ])
                (refine heldA_take (i := 29) (v := (.bool false)) rfl rfl (by kernel_rfl) (by kernel_rfl) (by kernel_rfl) (fun _ _ _ h => h) (by rfl) (fun w hS => by obtain ⟨_, hS1, hS2, hS3, hS4, hS5⟩ := hS; go_simp) (by assumption) ?_; try simp only [List.setIfInBounds_toArray, List.set_cons_zero, List.set_cons_succ])
                (refine heldA_take (i := 30) (v := (.pointer (some ⟨q, 0, none⟩))) rfl rfl (by kernel_rfl) (by kernel_rfl) (by kernel_rfl) (fun _ _ _ h => h) (by rfl) (fun w hS => by obtain ⟨_, hS1, hS2, hS3, hS4, hS5⟩ := hS; go_simp) (by assumption) ?_; try simp only [List.setIfInBounds_toArray, List.set_cons_zero, List.set_cons_succ])
                (refine heldA_take (i := 32) (v := (.pointer (some ⟨q2, 0, none⟩))) rfl rfl (by kernel_rfl) (by kernel_rfl) (by kernel_rfl) (fun _ _ _ h => h) (by rfl) (fun w hS => by obtain ⟨_, hS1, hS2, hS3, hS4, hS5⟩ := hS; go_simp) (by assumption) ?_; try simp only [List.setIfInBounds_toArray, List.set_cons_zero, List.set_cons_succ])
                (refine heldA_take (i := 33) (v := (.pointer (some ⟨q2, 0, none⟩))) rfl rfl (by kernel_rfl) (by kernel_rfl) (by kernel_rfl) (fun _ _ _ h => h) (by rfl) (fun w hS => by obtain ⟨_, hS1, hS2, hS3, hS4, hS5⟩ := hS; go_simp) (by assumption) ?_; try simp only [List.setIfInBounds_toArray, List.set_cons_zero, List.set_cons_succ])
                (refine heldA_take (i := 34) (v := (.pointer (some ⟨q2, 2, none⟩))) rfl rfl (by kernel_rfl) (by kernel_rfl) (by kernel_rfl) (fun _ _ _ h => h) (by rfl) (fun w hS => by obtain ⟨_, hS1, hS2, hS3, hS4, hS5⟩ := hS; go_simp) (by assumption) ?_; try simp only [List.setIfInBounds_toArray, List.set_cons_zero, List.set_cons_succ])
                (refine heldA_take (i := 35) (v := (.agg #[.int .i64 ce, .int .i64 0, .int .i64 (ie : Nat), .int .i64 0])) rfl rfl (by kernel_rfl) (by kernel_rfl) (by kernel_rfl) (fun _ _ _ h => h) (by rfl) (fun w hS => by obtain ⟨_, hS1, hS2, hS3, hS4, hS5⟩ := hS; go_simp) (by assumption) ?_; try simp only [List.setIfInBounds_toArray, List.set_cons_zero, List.set_cons_succ])
                refine heldA_one (i := 31) (by kernel_rfl) ?_
                refine wpOp_calls (f := 16) rfl rfl (by rfl) (by go_simp) (HCE.out u3 hpu3) ?_ (by rintro _ _ h; first | (obtain ⟨h, _⟩ := h; cases h; done) | (obtain ⟨_, h, _⟩ := h; cases h; done)) (by rintro _ h; first | (obtain ⟨h, _⟩ := h; cases h; done) | (obtain ⟨_, h, _⟩ := h; cases h; done))
                rintro _ u4 ⟨v, ⟨rfl⟩, hv, hb⟩
                have hpu4 := hpu3.later hb
                have hSu4 := And.intro hpu4 (HZ.out u4 hpu4)
                refine ⟨hSu4, ?_⟩
                simp only [List.setIfInBounds_toArray, List.set_cons_zero, List.set_cons_succ]
                clear hSu3 hb
                refine heldA_one (i := 36) (by kernel_rfl) ?_
                refine wpOp_calls (f := 18) rfl rfl (by rfl) (by go_simp) (HCT.out u4 _ _ _ hpu4 hv) ?_ (by rintro _ _ h; first | (obtain ⟨h, _⟩ := h; cases h; done) | (obtain ⟨_, h, _⟩ := h; cases h; done)) (by rintro _ h; first | (obtain ⟨h, _⟩ := h; cases h; done) | (obtain ⟨_, h, _⟩ := h; cases h; done))
                rintro _ u5 ⟨⟨rfl⟩, hb⟩
                have hpu5 := hpu4.later hb
                have hSu5 := And.intro hpu5 (HZ.out u5 hpu5)
                refine ⟨hSu5, ?_⟩
                simp only [List.setIfInBounds_toArray, List.set_cons_zero, List.set_cons_succ]
                clear hSu4 hb hv
                (refine heldA_take (i := 37) (v := (.bool false)) rfl rfl (by kernel_rfl) (by kernel_rfl) (by kernel_rfl) (fun _ _ _ h => h) (by rfl) (fun w hS => by obtain ⟨_, hS1, hS2, hS3, hS4, hS5⟩ := hS; go_simp) (by assumption) ?_; try simp only [List.setIfInBounds_toArray, List.set_cons_zero, List.set_cons_succ])
                (refine heldA_take (i := 38) (v := (.bool false)) rfl rfl (by kernel_rfl) (by kernel_rfl) (by kernel_rfl) (fun _ _ _ h => h) (by rfl) (fun w hS => by obtain ⟨_, hS1, hS2, hS3, hS4, hS5⟩ := hS; go_simp) (by assumption) ?_; try simp only [List.setIfInBounds_toArray, List.set_cons_zero, List.set_cons_succ])
                (refine heldA_take (i := 39) (v := (.bool false)) rfl rfl (by kernel_rfl) (by kernel_rfl) (by kernel_rfl) (fun _ _ _ h => h) (by rfl) (fun w hS => by obtain ⟨_, hS1, hS2, hS3, hS4, hS5⟩ := hS; go_simp) (by assumption) ?_; try simp only [List.setIfInBounds_toArray, List.set_cons_zero, List.set_cons_succ])
                (refine heldA_take (i := 40) (v := (.pointer (some ⟨q, 0, none⟩))) rfl rfl (by kernel_rfl) (by kernel_rfl) (by kernel_rfl) (fun _ _ _ h => h) (by rfl) (fun w hS => by obtain ⟨_, hS1, hS2, hS3, hS4, hS5⟩ := hS; go_simp) (by assumption) ?_; try simp only [List.setIfInBounds_toArray, List.set_cons_zero, List.set_cons_succ])
                (refine heldA_take (i := 42) (v := (.pointer (some ⟨q2, 0, none⟩))) rfl rfl (by kernel_rfl) (by kernel_rfl) (by kernel_rfl) (fun _ _ _ h => h) (by rfl) (fun w hS => by obtain ⟨_, hS1, hS2, hS3, hS4, hS5⟩ := hS; go_simp) (by assumption) ?_; try simp only [List.setIfInBounds_toArray, List.set_cons_zero, List.set_cons_succ])
                refine heldA_one (i := 41) (by kernel_rfl) ?_
                refine wpOp_calls (f := 25) rfl rfl (by rfl) (by go_simp) (HCN.out u5 hpu5) ?_ (by rintro _ _ ⟨_, h, _⟩; cases h) (by rintro _ ⟨_, h, _⟩; cases h)
                rintro _ u6 ⟨v2, ⟨rfl⟩, hv, hb⟩
                have hpu6 := hpu5.later hb
                have hSu6 := And.intro hpu6 (HZ.out u6 hpu6)
                refine ⟨hSu6, ?_⟩
                simp only [List.setIfInBounds_toArray, List.set_cons_zero, List.set_cons_succ]
                clear hSu5 hb
                refine heldA_one (i := 43) (by kernel_rfl) ?_
                refine wpOp_calls (f := 29) rfl rfl (by rfl) (by go_simp) (HCF.out u6 hpu6) ?_ (by rintro _ _ ⟨h, _⟩; cases h) (by rintro _ ⟨h, _⟩; cases h)
                rintro _ u7 ⟨⟨rfl⟩, hb⟩
                have hpu7 := hpu6.later hb
                have hSu7 := And.intro hpu7 (HZ.out u7 hpu7)
                refine ⟨hSu7, ?_⟩
                simp only [List.setIfInBounds_toArray, List.set_cons_zero, List.set_cons_succ]
                replace hv := hv.later hb
                clear hSu6 hb
                refine heldA_one (i := 44) (by kernel_rfl) ?_
                refine wpOp_calls (f := 18) rfl rfl (by rfl) (by go_simp) (HCT.out u7 _ _ _ hpu7 hv) ?_ (by rintro _ _ h; first | (obtain ⟨h, _⟩ := h; cases h; done) | (obtain ⟨_, h, _⟩ := h; cases h; done)) (by rintro _ h; first | (obtain ⟨h, _⟩ := h; cases h; done) | (obtain ⟨_, h, _⟩ := h; cases h; done))
                rintro _ u8 ⟨⟨rfl⟩, hb⟩
                have hpu8 := hpu7.later hb
                have hSu8 := And.intro hpu8 (HZ.out u8 hpu8)
                refine ⟨hSu8, ?_⟩
                simp only [List.setIfInBounds_toArray, List.set_cons_zero, List.set_cons_succ]
                clear hSu7 hb hv
                (refine heldA_take (i := 45) (v := (.bool false)) rfl rfl (by kernel_rfl) (by kernel_rfl) (by kernel_rfl) (fun _ _ _ h => h) (by rfl) (fun w hS => by obtain ⟨_, hS1, hS2, hS3, hS4, hS5⟩ := hS; go_simp) (by assumption) ?_; try simp only [List.setIfInBounds_toArray, List.set_cons_zero, List.set_cons_succ])
                (refine heldA_take (i := 46) (v := (.bool false)) rfl rfl (by kernel_rfl) (by kernel_rfl) (by kernel_rfl) (fun _ _ _ h => h) (by rfl) (fun w hS => by obtain ⟨_, hS1, hS2, hS3, hS4, hS5⟩ := hS; go_simp) (by assumption) ?_; try simp only [List.setIfInBounds_toArray, List.set_cons_zero, List.set_cons_succ])
                refine wpAnyH_done (by kernel_rfl) ?_ _
                have HPz := Lib.hid hpu8
                clear hSu8 hpu8
                go_wp2_with fail
                go_roundw
                case rel => exact ⟨k + 1, by omega, by omega, by go_num, by rw [← HR'.out]; exact HPz⟩
                case measure => simp [intOf]; omega
              · have hcases2 : L2.length ≤ k ∨ (k < L2.length ∧ 30 ≤ k) := by omega
                have HBz := Lib.hid hrel.out.bel
                clear hrel hlt
                rcases hcases2 with hc3 | ⟨hc3, hc4⟩
                all_goals
                  go_wp2_with fail
                  go_roundw
                  case rel => exact ⟨j + 1, by omega, by go_num, HBz⟩
                  case measure => simp [intOf]; omega
          · obtain rfl : j = 2 := by omega
            go_wp2_with fail
            go_ret
            exact ⟨rfl, hrel.out⟩
end Go.Proofs.YtaikcehdomaebaaDoor
