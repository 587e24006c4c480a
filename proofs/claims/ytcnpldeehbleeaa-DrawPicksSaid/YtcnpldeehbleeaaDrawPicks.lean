/- DrawPicks: the walk: what is picked is one of those that are there, each of them by some number; draws of more numbers begin as those of fewer. -/
import Derived.Test.YtcnpldeehbleeaaDrawTells
namespace Go.Proofs.Ytcnpldeehbleeaa
open Go.RowKit
theorem Picked.is {row l : List Int} {x : Int} {ok : Bool} (h : Picked row l x ok) : ok = decide (0 < row.length) ∧ (ok = true → x ∈ row) := by
  rcases h with ⟨rfl, rfl, rfl⟩ | ⟨rfl, h, rfl⟩
  · exact ⟨rfl, fun e => by simp at e⟩
  · exact ⟨by simp; omega, fun _ => List.getElem_mem h⟩
theorem pickL_pre {row a b : List Int} {M k : Nat} (h : b <+: a) (hk : M ≤ k + b.length) (hlt : k < M) :
    nextV a row.length = nextV b row.length ∧ pickL b row <+: pickL a row ∧ M ≤ (k + 1) + (pickL b row).length := by
  obtain ⟨t, rfl⟩ := h
  cases b with
  | nil => simp at hk; omega
  | cons x r =>
    unfold pickL
    by_cases hr : row = []
    · rw [if_pos hr, if_pos hr]
      refine ⟨?_, ⟨t, rfl⟩, by omega⟩
      unfold nextV; split <;> rfl
    · rw [if_neg hr, if_neg hr]
      have : 0 < row.length := List.length_pos_iff.2 hr
      refine ⟨?_, ?_, ?_⟩
      · unfold nextV; split <;> rfl
      · unfold nextL; rw [if_neg (by omega), if_neg (by omega)]; exact ⟨t, rfl⟩
      · unfold nextL; rw [if_neg (by omega)]; simp at hk ⊢; omega
theorem Picked.same {row a b : List Int} {x y : Int} {s t : Bool} (h : Picked row a x s) (k : Picked row b y t) (e : nextV a row.length = nextV b row.length) : x = y ∧ s = t := by
  unfold Picked at h
  rw [e] at h
  exact Picked.det h k
theorem mem_take_succ (row : List Int) (x : Int) (j : Nat) (hj : j < row.length) : decide (x ∈ row.take (j + 1)) = (decide (x ∈ row.take j) || row[j] == x) := by
  have e : (x ∈ row.take (j + 1)) ↔ (x ∈ row.take j ∨ row[j] = x) := by
    rw [List.take_succ_eq_append_getElem hj, List.mem_append, List.mem_singleton, eq_comm (a := x)]
  by_cases h : x ∈ row.take j
  · simp [h, e]
  · by_cases h2 : row[j] = x
    · simp [h2, e]
    · simp [h, h2, e]
set_option maxRecDepth 100000 in
set_option maxHeartbeats 2000000 in
theorem lawDrawPicks_any (v u : Value) (many : Nat) (w : World) (hv : Rd Try.prog w 22 [v]) (hu : Rd Try.prog w 31 [u]) (hmany : many < 256) :
    Calls Try.prog 5 #[v, u, .int .u8 many] w fun e w' => e = .returned (.bool true) ∧ Below w.heap.size w w' := by
  obtain ⟨l, hl, hx⟩ := hv.ints Try.underlying22 Try.underlying30 cellsU32
  obtain ⟨ns, hns, hnx⟩ := hu.ints Try.underlying31 Try.underlying3 cellsInt
  obtain ⟨a, cap, rfl, h1, h2, h3⟩ := id hns
  obtain ⟨a0, cap0, rfl, g1, g2, g3⟩ := id hl
  obtain ⟨m, hm⟩ : ∃ m : Nat, m = min l.length 40 := ⟨_, rfl⟩
  have hmin := fun u => run_min2 (P := Try.prog) l.length 40 u #[3, 3] 3 (m : Int) (by omega)
  obtain ⟨L, hLl, rfl, hs⟩ := hl.take m (by omega)
  have hL : L.length ≤ 40 := by omega
  have hLe : L.length ≤ l.length := by omega
  have hxL : ∀ x ∈ L, 0 ≤ x ∧ x < 4294967296 := fun x hx' => wf_u32 (hx x (by rw [hLl] at hx'; exact List.mem_of_mem_take hx'))
  have hsl := run_slice_to (P := Try.prog) 22 30 a0 l.length cap0 L.length Try.underlying22 (by kernel_rfl) (by omega)
  obtain ⟨c, hc⟩ : ∃ c : Nat, c = many % 41 := ⟨_, rfl⟩
  have hcm : (many : Int) % 41 = c := by omega
  have hct : (many : Int).tmod 41 = c := by rw [Int.tmod_eq_emod_of_nonneg (by omega)]; exact hcm
  have hc41 : c < 41 := by omega
  have hci : IntKind.i64.wrap (c : Int) = c := wrap_small _ (by omega) (by omega)
  obtain ⟨M, hM⟩ : ∃ M : Nat, M = min L.length c := ⟨_, rfl⟩
  have hminM := fun u => run_min2 (P := Try.prog) L.length c u #[3, 3] 3 (M : Int) (by omega)
  have hminI : (if c < L.length then (c : Int) else (L.length : Int)) = M := by split <;> omega
  obtain ⟨L2, hL2l, rfl, hs2⟩ := hs.take M (by omega)
  have hL2 : L2.length ≤ L.length := by omega
  have hpre : L2 <+: L := by rw [hL2l]; exact List.take_prefix _ _
  have hxL2 : ∀ x ∈ L2, 0 ≤ x ∧ x < 4294967296 := fun x hx' => hxL x (hpre.subset hx')
  have hsl2 := run_slice_to (P := Try.prog) 22 30 a0 L.length cap0 L2.length Try.underlying22 (by kernel_rfl) (by omega)
  have H3 := Lib.hid h3; have HxL := Lib.hid hxL; have HS := Lib.hid hs; have HNX := Lib.hid hnx; have HNS := Lib.hid hns
  have HxL2 := Lib.hid hxL2; have HS2 := Lib.hid hs2; have Hpre := Lib.hid hpre; have Hc := Lib.hid hc
  clear h3 g3 hx hu hv hl hs hm hLl hxL hns hnx hs2 hpre hL2l hxL2 hM hc
  unfold maxLen at g2 h2
  go_enter Try.func5, Try.ntmps5
  go_wp2_with fail
  ((with_reducible refine (drawWorks_any _).mono ?_); rintro e w1 ⟨rfl, b1⟩)
  have HS1 := Lib.hid (HS.out.below b1)
  have HT1 := Lib.hid (HS2.out.below b1)
  go_wp2_with fail
  have HS1' : SlI w1.drew (.slice a0 L.length cap0) .u32 L := HS1.out
  have HT1' : SlI w1.drew (.slice a0 L2.length cap0) .u32 L2 := HT1.out
  have b1' := b1.drew
  have hsz : w1.drew.heap.size = w1.heap.size := rfl
  have hw1 : w.heap.size ≤ w1.heap.size := b1.size
  rw [← hsz] at hw1
  clear HS1 HT1 b1 hsz
  
  go_region_held3 (fun w' => w'.os = w.os) (first | exact b1'.os | exact (b1'.next' b2).os | exact ((b1'.next' b2).next' b3).os)
    (first
      | (go_at_call 11; (with_reducible refine (new_ex (.slice a0 L.length cap0) L (by omega) HxL.out _ ?_).mono ?_); exact HS1'; rintro e w2 ⟨p, q, rfl, d2, hp, hq, hpl, hql, b2⟩)
      | (go_at_call 11; (with_reducible refine (new_ex (.slice a0 L2.length cap0) L2 (by omega) HxL2.out _ ?_).mono ?_); exact HT1'.below b2; rintro e w3 ⟨p2, q2, rfl, e3, hp2, hq2, hpl2, hql2, b3⟩))
  all_goals
    have HB2 := Lib.hid (b1'.next' b2)
    have HD3 := Lib.hid (d2.later b3)
    have HB3 := Lib.hid (HB2.out.next' b3)
    have HE3 := Lib.hid e3
    clear HB2 b3 e3 HS1' HT1' b2 d2
    have hle : w.heap.size ≤ p ∧ w.heap.size ≤ p2 ∧ p ≠ p2 ∧ p ≠ q2 ∧ p2 ≠ q := ⟨by omega, by omega, by omega, by omega, by omega⟩
    clear hp hq hp2 hq2 hpl2 hql2 hpl hql hw1
    have hne : ∀ z, w.heap.size ≤ z → ns ≠ [] → (Value.slice a ns.length cap).ownBlock ≠ some z := fun z hz hr e => by
      have := HNS.out.lt (List.length_pos_iff.2 hr) z e; omega
    have HNE := Lib.hid hne; clear hne
    go_wp2_with fail
    go_loopw [9] (fun i wr => ∃ (k : Nat) (r1 r2 : List Int), k ≤ L2.length ∧ i = .int .i64 k ∧ r2 <+: r1 ∧ L2.length ≤ k + r2.length ∧ Dr wr p q r1 ∧ Dr wr p2 q2 r2 ∧ Below w.heap.size w wr) (fun i _ => L2.length - (intOf i).toNat)
    case atStart => exact ⟨0, L, L2, Nat.zero_le _, rfl, Hpre.out, by omega, HD3.out, HE3.out, HB3.out⟩
    case round =>
      obtain ⟨k, r1, r2, hk, rfl, hpr, hkr, hd, he, hb⟩ := hrel
      have HD := Lib.hid hd; have HE := Lib.hid he; have HB := Lib.hid hb
      clear hd he hb HD3 HE3 HB3
      by_cases hlt : k < L2.length
      · obtain ⟨hv12, hp12, hn12⟩ := pickL_pre (row := ns) hpr hkr hlt
        have Hv12 := Lib.hid hv12; have Hp12 := Lib.hid (And.intro hp12 hn12)
        clear hv12 hp12 hpr hn12
        have HNr := Lib.hid (HNS.out.below HB.out)
        go_wp2_with fail
        refine (pick_any p q r1 ns _ _ HD.out HNr.out (HNE.out p (by omega))).mono ?_
        rintro e wa ⟨x1, ok1, rfl, hp1, hd', hk'⟩
        have Hp1 := Lib.hid hp1
        have HB' := Lib.hid (HB.out.trans (hk'.below (B := w.heap.size) HB.out.size (fun z hz => by omega)))
        have HNa := Lib.hid (HNS.out.below HB'.out)
        have HE' := Lib.hid (HE.out.kept hk' (by show ¬ p2 = p; omega) (by show ¬ q2 = p; omega))
        have HD' := Lib.hid hd'
        clear hd' hk' HD HE HB HNr hp1
        go_wp2_with fail
        refine (pick_any p2 q2 r2 ns _ _ HE'.out HNa.out (HNE.out p2 (by omega))).mono ?_
        rintro e wb ⟨x2, ok2, rfl, hp2, he', hk'⟩
        obtain ⟨rfl, rfl⟩ := Hp1.out.same hp2 Hv12.out
        have HB2 := Lib.hid (HB'.out.trans (hk'.below (B := w.heap.size) HB'.out.size (fun z hz => by omega)))
        have HD2 := Lib.hid (HD'.out.kept hk' (by show ¬ p = p2; omega) (by show ¬ q = p2; omega))
        have HE2 := Lib.hid he'
        obtain ⟨rfl, hin⟩ := hp2.is
        have Hin := Lib.hid hin
        clear he' hk' HD' HE' HB' HNa Hp1 hin hp2 Hv12
        go_wp2_with fail
        have HNb := Lib.hid (HNS.out.below HB2.out)
        go_loopw [14, 15] (fun i b wr => wr = wb ∧ ∃ (j : Nat), j ≤ ns.length ∧ i = .bool (decide (x1 ∈ ns.take j)) ∧ b = .int .i64 j) (fun i b _ => ns.length - (intOf b).toNat)
        case atStart => exact ⟨rfl, 0, Nat.zero_le _, by simp, rfl⟩
        case round =>
          obtain ⟨rfl, j, hj, rfl, rfl⟩ := hrel
          by_cases hjl : j < ns.length
          · obtain ⟨bn, on, ha1, hcn⟩ : ∃ bn on, a = some ⟨bn, on, none⟩ ∧ wr.cell? ⟨bn, on + j, none⟩ = some (.int .i64 ns[j]) := by
              obtain ⟨a', c', e, _, _, hh⟩ := HNb.out
              obtain ⟨bn, on, e2, hc⟩ := hh j hjl
              have e3 : a = a' := (Value.slice.inj e).1
              exact ⟨bn, on, by rw [e3, e2], hc⟩
            subst ha1
            have hms := mem_take_succ ns x1 j hjl
            generalize ns[j] = z at *
            have Hms := Lib.hid hms; clear hms
            cases hin : decide (x1 ∈ ns.take j) with
            | true =>
              rw [hin] at Hms
              clear hin
              go_wp2_with fail
              go_roundw
              case rel => exact ⟨trivial, j + 1, by omega, by rw [Hms.out]; rfl, by go_num⟩
              case measure => simp [intOf]; omega
            | false =>
              rw [hin] at Hms
              clear hin
              by_cases hzx : z = x1
              · have hz : (z == x1) = true := by simp [hzx]
                rw [hz] at Hms
                have hz2 : decide (z = x1) = true := by simp [hzx]
                have Hzx := Lib.hid hzx; clear hzx
                go_wp2_with fail
                go_roundw
                case rel => exact ⟨trivial, j + 1, by omega, by rw [Hms.out]; rfl, by go_num⟩
                case measure => simp [intOf]; omega
              · have hz : (z == x1) = false := by simp [hzx]
                rw [hz] at Hms
                have hz2 : decide (z = x1) = false := by simp [hzx]
                have Hzx := Lib.hid hzx; clear hzx
                go_wp2_with fail
                go_roundw
                case rel => exact ⟨trivial, j + 1, by omega, by rw [Hms.out]; rfl, by go_num⟩
                case measure => simp [intOf]; omega
          · obtain rfl : j = ns.length := by omega
            rw [List.take_length]
            by_cases hn0 : ns.length = 0
            · have hn00 : decide (0 < ns.length) = false := by simp [hn0]
              have hn01 : decide ((0:Int) < (ns.length : Int)) = false := by simp [hn0]
              clear hn0
              go_wp2_with fail
              go_roundw
              case rel => exact ⟨k + 1, _, _, by omega, by go_num, Hp12.out.1, Hp12.out.2, HD2.out, HE2.out, HB2.out⟩
              case measure => simp [intOf]; omega
            · have hn00 : decide (0 < ns.length) = true := by simp; omega
              have hn01 : decide ((0:Int) < (ns.length : Int)) = true := by simp; omega
              have hin : decide (x1 ∈ ns) = true := decide_eq_true (Hin.out hn00)
              clear hn0
              go_wp2_with fail
              go_roundw
              case rel => exact ⟨k + 1, _, _, by omega, by go_num, Hp12.out.1, Hp12.out.2, HD2.out, HE2.out, HB2.out⟩
              case measure => simp [intOf]; omega
      · clear HD HE hpr hkr
        go_wp2_with fail
        clear hlt hk
        go_loopw [16] (fun i wr => ∃ (k : Nat), k ≤ 20 ∧ i = .int .i64 k ∧ Below w.heap.size w wr) (fun i _ => 20 - (intOf i).toNat)
        case atStart => exact ⟨0, by omega, rfl, HB.out⟩
        case round =>
          obtain ⟨k, hk, rfl, hb⟩ := hrel
          clear HB
          have HB := Lib.hid hb
          clear hb
          by_cases hkl : k < ns.length
          · by_cases hk20 : k < 20
            · obtain ⟨bn, on, ha1, hcn⟩ : ∃ bn on, a = some ⟨bn, on, none⟩ ∧ w.cell? ⟨bn, on + k, none⟩ = some (.int .i64 ns[k]) := by
                obtain ⟨a', c', e, _, _, hh⟩ := HNS.out
                obtain ⟨bn, on, e2, hc⟩ := hh k hkl
                have e3 : a = a' := (Value.slice.inj e).1
                exact ⟨bn, on, by rw [e3, e2], hc⟩
              subst ha1
              have hbl := block_lt_of_cell hcn
              have hwu : IntKind.u32.wrap (k : Int) = k := by simp [IntKind.wrap, IntKind.signed, IntKind.bits]; omega
              have hpick := picked_is ns [(k : Int)] ns[k] (fun e => by rw [e] at hkl; exact absurd hkl (Nat.not_lt_zero _)) (by
                have : (nextV [(k : Int)] ns.length).toNat = k := by
                  unfold nextV; rw [if_neg (by omega)]
                  show ((k : Int) % ns.length).toNat = k
                  rw [Int.emod_eq_of_lt (by omega) (by omega)]; rfl
                rw [this, List.getElem?_eq_getElem hkl])
              have Hpick := Lib.hid hpick; have Hcn := Lib.hid hcn
              clear hpick hcn
              generalize ns[k] = z at *
              have HNr := Lib.hid (HNS.out.below HB.out)
              go_wp2_with fail
              have hlit : SlI (wr.alloc (.cells #[.int .u32 (k : Int)] 30)) (.slice (some ⟨wr.heap.size, 0, none⟩) 1 1) .u32 [(k : Int)] := SlI.lit wr .u32 [(k : Int)] 30 (by simp)
              ((with_reducible refine (new_ex _ [(k : Int)] (by simp) (by intro x hx; simp at hx; omega) _ hlit).mono ?_); rintro e wa ⟨p3, q3, rfl, d3, hp3, hq3, hpl3, hql3, b3⟩)
              clear hlit
              have hwz : w.heap.size ≤ wr.heap.size := HB.out.size
              simp only [World.size_alloc] at hp3 hq3 b3
              have HB3 := Lib.hid ((below_lit HB.out HB.out.size #[.int .u32 k] 30).trans (b3.mono (by omega)))
              have HN3 := Lib.hid (HNS.out.below HB3.out)
              have HD3 := Lib.hid d3
              clear HB HNr b3 d3
              go_wp2_with fail
              refine (pick_is p3 q3 [(k : Int)] ns _ _ z true Hpick.out rfl _ HD3.out HN3.out (HNE.out p3 (by omega))).mono ?_
              rintro e wb ⟨rfl, hd', hk'⟩
              have HB4 := Lib.hid (HB3.out.trans (hk'.below (B := w.heap.size) HB3.out.size (fun z hz => by omega)))
              clear hd' hk' HB3 HN3 HD3
              have hcell' : wb.cell? ⟨bn, on + k, none⟩ = some (.int .i64 z) := (World.cell?_of_block (HB4.out.block bn hbl)).trans Hcn.out
              go_wp2_with fail
              go_roundw
              case rel => exact ⟨k + 1, by omega, by go_num, HB4.out⟩
              case measure => simp [intOf]; omega
            · go_wp2_with fail
              go_ret
              exact ⟨rfl, HB.out⟩
          · go_wp2_with fail
            go_ret
            exact ⟨rfl, HB.out⟩
end Go.Proofs.Ytcnpldeehbleeaa
