/- Texts of the law CellKnown, merged: CellNewB, CellKnown. -/
import Derived.Test.YtjobijmmjebpaaaDoorPCellNorms11
/- cell.New: where its cells lie. -/
namespace Go.Proofs.YtjobijmmjebpaaaDoor
open Go.RowKit
/-- and all of it lies from lo on -/
def CellsB (lo : Nat) (w : World) (p : Nat) (L : List Int) (many : Int) : Prop := ∀ w'', w.heap.size ≤ w''.heap.size → (∀ k, lo ≤ k → k < w.heap.size → w''.heap[k]? = w.heap[k]?) → CellsAt w'' p L many
theorem CellsB.at {lo : Nat} {w : World} {p : Nat} {L : List Int} {many : Int} (h : CellsB lo w p L many) : CellsAt w p L many := h w (Nat.le_refl _) fun _ _ _ => rfl
set_option maxHeartbeats 4000000 in
theorem cellNew_anyB (va : Value) (L : List Int) (hL : L.length ≤ 100000) (hwf : ∀ x ∈ L, (Lit.int .i64 x).wf = true) (w : World) (ha : SlX w va L) :
    Calls Tryd.prog 11 #[va] w fun e w' => ((¬ CellOk L ∧ e = .returned (.pointer none)) ∨ (CellOk L ∧ ∃ p, e = .returned (.pointer (some ⟨p, 0, none⟩)) ∧ CellsB w.heap.size w' p L (maxF L + 1))) ∧ Below w.heap.size w w' := by
  have HA := Lib.hid ha; have HWf := Lib.hid hwf
  obtain ⟨a, ca, rfl, _⟩ := ha
  clear hwf
  by_cases h0 : L.length = 0
  · have hn : L = [] := List.eq_nil_of_length_eq_zero h0
    have hb0 : ((L.length : Int) == 0) = true := by rw [h0]; rfl
    clear h0
    go_enter Tryd.func11, Tryd.ntmps11
    go_wp2_with fail
    go_ret
    exact ⟨.inl ⟨fun h => h.1 hn, rfl⟩, Below.refl _ _⟩
  · have hnil : L ≠ [] := fun e => h0 (by rw [e]; rfl)
    have hb0 : ((L.length : Int) == 0) = false := by rw [beq_eq_false_iff_ne]; omega
    have HC := Lib.hid (cellNorm_any _ L hL HWf.out w HA.out)
    have HNil := Lib.hid hnil
    clear h0 hnil
    have hnl : ¬ L = [] := HNil.out
    go_enter Tryd.func11, Tryd.ntmps11
    go_wp2_with fail
    refine HC.out.mono ?_
    rintro e w1 ⟨v, rfl, ho, hb⟩
    have HB1 := Lib.hid hb
    have HE := Lib.hid (equalI_any v (.slice a L.length ca) (normV L) L w1 (slX_own rfl ho) (HA.out.keep (KpC.of_below hb)))
    obtain ⟨va1, vn1, vc1, rfl⟩ := ho.one'
    clear hb ho HC
    go_wp2_with fail
    refine HE.out.mono ?_
    rintro e w2 ⟨rfl, hb⟩
    have HB2 := Lib.hid (HB1.out.next' hb)
    clear hb HE
    by_cases hno : normV L = L
    · have hd : decide (normV L = L) = true := decide_eq_true hno
      have HNo := Lib.hid hno
      rw [hd]
      clear hd hno
      have HCl := Lib.hid (cloneI _ L w2 (HA.out.keep (KpC.of_below HB2.out)) (by omega))
      go_wp2_with fail
      refine HCl.out.mono ?_
      rintro e w3 ⟨vc, rfl, ho, hb⟩
      have HB3 := Lib.hid (HB2.out.next' hb)
      have HS3 := Lib.hid ho; have HB2s := Lib.hid HB2.out.size
      have HM := Lib.hid (maxI_any _ L w3 (HA.out.keep (KpC.of_below HB3.out)) (by have := HNil.out; exact List.length_pos_iff.2 this))
      have hr := maxF_range HNil.out HNo.out
      obtain ⟨mx, hmx⟩ : ∃ m, m = maxF L := ⟨_, rfl⟩
      rw [← hmx] at HM hr
      have HMx := Lib.hid hmx
      have hrb : 0 ≤ mx ∧ mx < 100000 := by omega
      obtain ⟨va3, vn3, vc3, rfl⟩ := ho.one'
      clear hb ho HCl hr hmx
      go_wp2_with fail
      refine HM.out.mono ?_
      rintro e w4 ⟨rfl, rfl⟩
      obtain ⟨p, hp⟩ : ∃ p, p = w4.heap.size := ⟨_, rfl⟩
      obtain ⟨w5, hw5⟩ : ∃ u, u = w4.alloc (.cells #[.slice va3 vn3 vc3, .int .i64 (mx + 1)] 60) := ⟨_, rfl⟩
      have hb5 : Below w4.heap.size w4 w5 := by rw [hw5]; exact (Below.refl _ _).alloc (Nat.le_refl _) _
      have k5 : Blk w5 p #[.slice va3 vn3 vc3, .int .i64 (mx + 1)] 60 (0, 0) := by rw [hw5, hp]; exact Blk.new _ _ _ _
      have HCells := Lib.hid (show CellsB w.heap.size w5 p L (mx + 1) from fun w'' hs hk => by
        have hp1 : w.heap.size ≤ p := by rw [hp]; exact HB3.out.size
        refine ⟨_, (hk p hp1 k5.lt).trans k5, slX_own rfl (ownsRow_agree' (ownsRow_below HS3.out hb5) fun k e => ?_)⟩
        obtain ⟨h1, _, hq⟩ := ownsRow_blk' (ownsRow_below HS3.out hb5) e
        exact hk k (Nat.le_trans HB2s.out h1) hq.lt)
      have c1 := k5.cell 1
      simp only [List.getElem?_toArray, List.getElem?_cons_succ, List.getElem?_cons_zero] at c1
      rw [hw5] at c1
      have HW5 := Lib.hid hw5; have HP := Lib.hid hp; have HB5 := Lib.hid (HB3.out.next' hb5)
      clear hw5 hb5 k5 hp HM
      rw [HP.out] at c1
      by_cases hmm : mx < 256
      · have hm2 : ¬ (256 : Int) < mx + 1 := by omega
        go_wp2_with fail
        go_ret
        rw [← HW5.out, ← HP.out]
        exact ⟨.inr ⟨⟨HNil.out, HNo.out, by rw [← HMx.out]; exact hmm⟩, p, rfl, by rw [← HMx.out]; exact HCells.out⟩, HB5.out⟩
      · have hm2 : (256 : Int) < mx + 1 := by omega
        go_wp2_with fail
        go_ret
        rw [← HW5.out]
        exact ⟨.inl ⟨fun h => absurd h.2.2 (by rw [← HMx.out]; omega), rfl⟩, HB5.out⟩
    · have hd : decide (normV L = L) = false := decide_eq_false hno
      rw [hd]
      clear hd
      go_wp2_with fail
      go_ret
      exact ⟨.inl ⟨fun h => hno h.2.1, rfl⟩, HB2.out⟩
theorem new_isB {L : List Int} {m : Int} (h : CellOk L) (hm : maxF L + 1 = m) (hL : L.length ≤ 100000) (hwf : ∀ x ∈ L, (Lit.int .i64 x).wf = true) {va : Value} {w : World} (ha : SlX w va L) :
    Calls Tryd.prog 11 #[va] w fun e w' => ∃ p, e = .returned (.pointer (some ⟨p, 0, none⟩)) ∧ CellsB w.heap.size w' p L m ∧ Below w.heap.size w w' := by
  refine (cellNew_anyB va L hL hwf w ha).mono ?_
  rintro e w' ⟨⟨hn, _⟩ | ⟨_, p, rfl, hc⟩, hb⟩
  · exact absurd h hn
  · exact ⟨p, rfl, by rw [← hm]; exact hc, hb⟩
end Go.Proofs.YtjobijmmjebpaaaDoor
/- CellKnown, its walk. -/
namespace Go.Proofs.YtjobijmmjebpaaaDoor
open Go.RowKit
theorem upto_slXk {w : World} {a : Option Addr} {n cap : Nat} {L : List Int} (h : SlX w (.slice a n cap) L) (m : Nat) (hm : m ≤ L.length) : SlX w (.slice a m cap) (L.take m) := by
  obtain ⟨a', cap', e, h1, h2, h3⟩ := h
  simp only [Value.slice.injEq] at e
  obtain ⟨rfl, -, rfl⟩ := e
  have hl : (L.take m).length = m := by rw [List.length_take]; omega
  refine ⟨a, cap, by rw [hl], by omega, h2, fun i hi => ?_⟩
  obtain ⟨b, off, cs, t, fr, rfl, hb, hc⟩ := h3 i (by omega)
  exact ⟨b, off, cs, t, fr, rfl, hb, by rw [List.getElem_take]; exact hc⟩
theorem in_nil_is (c : Int) (w : World) : Calls Tryd.prog 21 #[.pointer none, .int .i64 c] w fun e w' => ∃ a k, e = .returned (.slice a 0 k) ∧ Below w.heap.size w w' := by
  refine (in_nil c w).mono ?_
  rintro e w' ⟨v, rfl, ho, hb⟩
  obtain ⟨a, k, rfl, _⟩ := ownForm ho
  exact ⟨a, k, rfl, hb⟩
theorem norm_nil_is (w : World) : Calls Tryd.prog 17 #[.slice none 0 0] w fun e w' => ∃ a k, e = .returned (.slice a 0 k) ∧ Below w.heap.size w w' := by
  refine (norm_is (L := []) (R := []) rfl (by decide) lit_wf (slX_nil w)).mono ?_
  rintro e w' ⟨a, k, rfl, _, hb⟩
  exact ⟨a, k, rfl, hb⟩
theorem border_zero {p n : Nat} {g : Raw} {L : List Int} {many c : Int} (h : borderV g L c = []) (hok : g.Ok) (hal : g.arcs.length ≤ 1000000) (hLl : L.length ≤ 1000000) (hL : (L.length : Int) = g.nodes) {w : World} (hN : NetAt w n g) (hC : CellsAt w p L many) :
    Calls Tryd.prog 14 #[.pointer (some ⟨p, 0, none⟩), .pointer (some ⟨n, 0, none⟩), .int .i64 c] w fun e w' => ∃ a k, e = .returned (.slice a 0 k) ∧ Below w.heap.size w w' := by
  refine (border_is h hok hal hLl hL hN hC).mono ?_
  rintro e w' ⟨a, k, rfl, _, hb⟩
  exact ⟨a, k, rfl, hb⟩
theorem in_zero {p : Nat} {L : List Int} {many c : Int} (h : inV L c = []) (hL : L.length ≤ 1000000) {w : World} (hC : CellsAt w p L many) :
    Calls Tryd.prog 21 #[.pointer (some ⟨p, 0, none⟩), .int .i64 c] w fun e w' => ∃ a k, e = .returned (.slice a 0 k) ∧ Below w.heap.size w w' := by
  refine (in_is h hL hC).mono ?_
  rintro e w' ⟨a, k, rfl, _, hb⟩
  exact ⟨a, k, rfl, hb⟩
theorem cell_own0 {w : World} {base : Nat} {a : Option Addr} {n k : Nat} {L : List Int} (hn : L.length = n) (h : w.ownsRow base 3 1 (.slice a n k) n (L.flatMap inC)) (h0 : 0 < n) : ∃ g x, a = some ⟨g, 0, none⟩ ∧ base ≤ g ∧ w.cell? ⟨g, 0, none⟩ = some x ∧ w.frozen? ⟨g, 0, none⟩ = false := by
  obtain ⟨a', c', e, hg⟩ := ownForm h
  obtain ⟨g, rfl⟩ := hg h0
  obtain ⟨rfl, _⟩ : a = some ⟨g, 0, none⟩ ∧ k = c' := by simpa using e
  obtain ⟨h1, cur, h2⟩ := ownsRow_blk' h (g := g) rfl
  obtain ⟨b, o, e2, hc⟩ := (slX_own hn h).at 0 (by omega)
  obtain ⟨rfl, rfl⟩ : g = b ∧ 0 = o := by simpa using e2
  exact ⟨g, _, rfl, h1, hc, h2.free 0 (.inr (Nat.zero_le _))⟩
def rK23 : Raw := ⟨2, [0, 0], [0, 0], [(0, 1, 0), (0, 1, 0), (1, 1, 0)]⟩
theorem rK23_ok : rK23.Ok := by
  refine ⟨⟨by decide, by decide⟩, rfl, rfl, fun x hx => ?_, fun x hx => ?_, by decide, fun a ha => ?_⟩
  · simp [rK23] at hx; subst hx; unfold coordOk; omega
  · simp [rK23] at hx; subst hx; unfold coordOk; omega
  · simp [rK23] at ha; rcases ha with rfl | rfl <;> (unfold arcOk; decide)
theorem up_wf {n : Nat} (hn : n ≤ 1000) : ∀ x ∈ upI n, (Lit.int .i64 x).wf = true := fun x hx => by
  have := upI_mem.1 hx
  exact wfInt (by omega)
theorem up_len (n : Nat) : (upI n).length = n := by unfold upI; simp
theorem upI_norm (n : Nat) : normV (upI n) = upI n := by
  unfold normV
  have key : ∀ k, normS [] (upI k) = upI k ∧ seenS [] (upI k) = upI k := fun k => by
    induction k with
    | zero => exact ⟨rfl, rfl⟩
    | succ k ih =>
      have hk : (k : Int) ∉ upI k := fun h => by have := (upI_mem.1 h).2; omega
      rw [upI_succ, normS_snoc, seenS_snoc, ih.1, ih.2]
      unfold nameS seenT
      rw [if_neg hk, if_neg hk, up_len]
      exact ⟨rfl, rfl⟩
  exact (key n).1
theorem upI_max : ∀ n : Nat, maxF (upI (n + 1)) = (n : Int)
  | 0 => rfl
  | n + 1 => by
    have h : (upI (n + 1)).length = n + 1 := up_len _
    have e : (upI (n + 2)).take (n + 2) = upI (n + 2) := List.take_of_length_le (by rw [up_len]; omega)
    have e1 : (upI (n + 2)).take (n + 1) = upI (n + 1) := by rw [upI_succ, List.take_append_of_le_length (by rw [up_len]; omega), List.take_of_length_le (by rw [up_len]; omega)]
    have e2 : (upI (n + 2))[n + 1]'(by rw [up_len]; omega) = ((n + 1 : Nat) : Int) := by
      have : (upI (n + 2))[n + 1]? = some ((n + 1 : Nat) : Int) := by unfold upI; simp
      rw [List.getElem?_eq_getElem (by rw [up_len]; omega)] at this
      exact Option.some.inj this
    rw [← e, maxF_take (by omega) (by rw [up_len]; omega), e1, upI_max n, e2]
    omega
theorem upI_ok {n : Nat} (h : n + 1 ≤ 256) : CellOk (upI (n + 1)) := ⟨fun e => (by have := up_len (n + 1); rw [e] at this; cases this), upI_norm _, by rw [upI_max]; omega⟩
set_option maxRecDepth 100000 in
set_option maxHeartbeats 8000000 in
theorem cellKnown_any (w : World) (hg : HG w) : Calls Tryd.prog 5 #[] w fun e w' => e = .returned (.bool true) ∧ Below w.heap.size w w' := by
  have HG0 := Lib.hid hg
  clear hg
  go_enter Tryd.func5, Tryd.ntmps5
  go_wp2_with fail
  go_loopw [2, 3] (fun o i wr => ∃ (k : Nat) (vo : Value), vo = o ∧ i = .int .i64 k ∧ Hid (k ≤ 257 ∧ Below w.heap.size w wr ∧ wr.ownsRow w.heap.size 3 1 vo (upI k).length ((upI k).flatMap inC))) (fun _ i _ => 257 - (intOf i).toNat)
  case atStart => exact ⟨0, _, rfl, rfl, Lib.hid ⟨Nat.zero_le _, Below.refl _ _, World.ownsRow_nil _ _ _ _⟩⟩
  case round =>
    obtain ⟨k, vo, rfl, rfl, HI⟩ := hrel
    by_cases hk : k < 257
    · have hkI : (k : Int) < 257 := by omega
      obtain ⟨wc, hwc⟩ : ∃ wc, wc = wr.alloc (.cells #[.int .i64 (k : Nat)] 3) := ⟨_, rfl⟩
      have hbc : Below wr.heap.size wr wc := by rw [hwc]; exact (Below.refl _ _).alloc (Nat.le_refl _) _
      obtain ⟨a2, n2, c2, w', hr, ho, hgr, hat⟩ := push_intG w.heap.size vo (upI k) (k : Nat) wc wr.heap.size (ownsRow_below HI.out.2.2 hbc) (by rw [hwc]; exact Blk.new _ _ _ _) (by rw [up_len]; omega) (Nat.le_trans HI.out.2.1.size hbc.size)
      have hb' : Below w.heap.size w w' := (HI.out.2.1.next' hbc).grown hgr (Nat.le_trans HI.out.2.1.size hbc.size) (fun j ej => (ownsRow_blk' HI.out.2.2 ej).1)
      rw [hwc] at hr
      obtain ⟨oa, on, oc, rfl⟩ := HI.out.2.2.one'
      have HR := Lib.hid hr
      have HNew := Lib.hid (show k + 1 ≤ 257 ∧ Below w.heap.size w w' ∧ w'.ownsRow w.heap.size 3 1 (.slice a2 n2 c2) (upI (k + 1)).length ((upI (k + 1)).flatMap inC) from ⟨by omega, hb', by rw [upI_succ]; exact ho⟩)
      clear hwc hbc hr ho hgr hat hb'
      go_wp2_with (at_builtin; refine wpList_append_run rfl _ _ _ _ rfl HR.out ?_)
      go_roundw
      case rel => exact ⟨k + 1, _, rfl, by go_num, HNew⟩
      case measure => simp [intOf]; omega
    · obtain rfl : k = 257 := by have := HI.out.1; omega
      obtain ⟨wb, hwb⟩ : ∃ u, u = wr := ⟨_, rfl⟩
      subst hwb
      have hs := slX_own rfl HI.out.2.2
      obtain ⟨am, cm, rfl, hcm, _⟩ := id hs
      rw [up_len] at hs hcm ⊢
      have HMs := Lib.hid hs; have HBwb := Lib.hid HI.out.2.1
      have h256 : (256 : Int) ≤ (cm : Int) := by omega
      have h257 : ¬ ((257 : Nat) : Int) < 257 := by decide
      clear hs hcm HI hk
      obtain ⟨wa, hwa⟩ : ∃ u, u = ((wb.alloc (.cells #[.int .i64 0, .int .i64 0] 2)).alloc (.cells #[.int .i64 0, .int .i64 0] 2)).alloc (.cells #[.int .i64 0, .int .i64 1, .int .i64 0, .int .i64 0, .int .i64 1, .int .i64 0, .int .i64 1, .int .i64 1, .int .i64 0] 45) := ⟨_, rfl⟩
      have hba : Below wb.heap.size wb wa := by rw [hwa]; exact (((Below.refl _ _).alloc (Nat.le_refl _) _).alloc (by simp) _).alloc (by simp; omega) _
      have k1 : Blk wa wb.heap.size #[.int .i64 0, .int .i64 0] 2 (0, 0) := by rw [hwa]; exact ((Blk.new _ _ _ _).alloc _).alloc _
      have k2 : Blk wa (wb.heap.size + 1) #[.int .i64 0, .int .i64 0] 2 (0, 0) := by
        rw [hwa]
        have h := (Blk.new (wb.alloc (.cells #[.int .i64 0, .int .i64 0] 2)) #[.int .i64 0, .int .i64 0] 2 (0, 0)).alloc (.cells #[.int .i64 0, .int .i64 1, .int .i64 0, .int .i64 0, .int .i64 1, .int .i64 0, .int .i64 1, .int .i64 1, .int .i64 0] 45)
        rwa [World.size_alloc] at h
      have k3 : Blk wa (wb.heap.size + 1 + 1) #[.int .i64 0, .int .i64 1, .int .i64 0, .int .i64 0, .int .i64 1, .int .i64 0, .int .i64 1, .int .i64 1, .int .i64 0] 45 (0, 0) := by
        rw [hwa]
        have h := Blk.new ((wb.alloc (.cells #[.int .i64 0, .int .i64 0] 2)).alloc (.cells #[.int .i64 0, .int .i64 0] 2)) #[.int .i64 0, .int .i64 1, .int .i64 0, .int .i64 0, .int .i64 1, .int .i64 0, .int .i64 1, .int .i64 1, .int .i64 0] 45 (0, 0)
        rwa [World.size_alloc, World.size_alloc] at h
      have HM := Lib.hid (made_any (.agg #[.int .i64 2, .slice (some ⟨wb.heap.size, 0, none⟩) 2 2, .slice (some ⟨wb.heap.size + 1, 0, none⟩) 2 2, .slice (some ⟨wb.heap.size + 1 + 1, 0, none⟩) 3 3]) rK23 wa (HG0.out.later (HBwb.out.next' hba)) ⟨_, _, _, rfl, slX_new k1 rfl rfl (by decide), slX_new k2 rfl rfl (by decide), slA_new k3 rfl rfl (by decide)⟩ rK23_ok (by unfold Raw.few; decide))
      have HWa := Lib.hid hwa; have HBwa := Lib.hid (HBwb.out.next' hba)
      have hms := HMs.out.keep (KpC.of_below hba); clear HMs; have HMs := Lib.hid hms; clear hms
      clear hwa hba k1 k2 k3
      go_wp2_with fail
      rw [← HWa.out]
      refine HM.out.mono ?_
      rintro e wn ⟨q, rfl, hn, hb⟩
      have HN := Lib.hid hn
      have HBwn := Lib.hid (HBwa.out.next' hb)
      have hms := HMs.out.keep (KpC.of_below hb); clear HMs; have HMs := Lib.hid hms; clear hms
      clear hn hb HM HWa HBwa HBwb
      have HC := Lib.hid (new_is (L := upI 256) (m := 256) (upI_ok (n := 255) (by omega)) (by rw [upI_max]; rfl) (by rw [up_len]; omega) (up_wf (by omega)) (show SlX wn (.slice am 256 cm) (upI 256) from by have := upto_slXk HMs.out 256 (by rw [up_len]; omega); rwa [show (upI 257).take 256 = upI 256 from by rw [upI_succ, List.take_append_of_le_length (by rw [up_len]; omega), List.take_of_length_le (by rw [up_len]; omega)]] at this))
      go_wp2_with fail
      refine HC.out.mono ?_
      rintro e wc1 ⟨p5, rfl, hc, hb⟩
      have HBwc1 := Lib.hid (HBwn.out.next' hb); clear HBwn
      have hN := HN.out.keep (KpC.of_below hb); clear HN; have HN := Lib.hid hN; clear hN
      have hMs := HMs.out.keep (KpC.of_below hb); clear HMs; have HMs := Lib.hid hMs; clear hMs
      clear hb HC
      have HC5 := Lib.hid hc; clear hc
      have HC := Lib.hid (new_no (L := upI 257) (fun h => by have := h.2.2; rw [upI_max] at this; omega) (by rw [up_len]; omega) (up_wf (by omega)) (show SlX wc1 (.slice am 257 cm) (upI 257) from HMs.out))
      go_wp2_with fail
      refine HC.out.mono ?_
      rintro e wc2 ⟨rfl, hb⟩
      have HBwc2 := Lib.hid (HBwc1.out.next' hb); clear HBwc1
      have hN := HN.out.keep (KpC.of_below hb); clear HN; have HN := Lib.hid hN; clear hN
      have hMs := HMs.out.keep (KpC.of_below hb); clear HMs; have HMs := Lib.hid hMs; clear hMs
      have hC5 := HC5.out.keep (KpC.of_below hb); clear HC5; have HC5 := Lib.hid hC5; clear hC5
      clear hb HC
      clear HMs h256
      obtain ⟨wl3, hwl3⟩ : ∃ x, x = wc2.alloc (.cells #[.int .i64 0, .int .i64 0] 3) := ⟨_, rfl⟩
      have hbl : Below wc2.heap.size wc2 wl3 := by rw [hwl3]; exact (Below.refl _ _).alloc (Nat.le_refl _) _
      have HL3 := Lib.hid (show SlX wl3 (.slice (some ⟨wc2.heap.size, 0, none⟩) 2 2) ([0, 0] : List Int) by rw [hwl3]; exact slX_new (Blk.new _ _ _ _) rfl rfl (by decide))
      have HW3 := Lib.hid hwl3
      have HBwl3 := Lib.hid (HBwc2.out.next' hbl); clear HBwc2
      have hN := HN.out.keep (KpC.of_below hbl); clear HN; have HN := Lib.hid hN; clear hN
      have hC5 := HC5.out.keep (KpC.of_below hbl); clear HC5; have HC5 := Lib.hid hC5; clear hC5
      clear hwl3 hbl
      have HC := Lib.hid (new_is (L := [0, 0]) (m := 1) (by unfold CellOk; decide +kernel) (by decide +kernel) (by decide) (by decide) HL3.out)
      go_wp2_with fail
      rw [← HW3.out]
      refine HC.out.mono ?_
      rintro e wc4 ⟨p7, rfl, hc, hb⟩
      have HBwc4 := Lib.hid (HBwl3.out.next' hb); clear HBwl3
      have hN := HN.out.keep (KpC.of_below hb); clear HN; have HN := Lib.hid hN; clear hN
      have hC5 := HC5.out.keep (KpC.of_below hb); clear HC5; have HC5 := Lib.hid hC5; clear hC5
      clear hb HC HW3
      have HC7 := Lib.hid hc; clear hc
      obtain ⟨wl5, hwl5⟩ : ∃ x, x = wc4.alloc (.cells #[.int .i64 0, .int .i64 1] 3) := ⟨_, rfl⟩
      have hbl : Below wc4.heap.size wc4 wl5 := by rw [hwl5]; exact (Below.refl _ _).alloc (Nat.le_refl _) _
      have HL5 := Lib.hid (show SlX wl5 (.slice (some ⟨wc4.heap.size, 0, none⟩) 2 2) ([0, 1] : List Int) by rw [hwl5]; exact slX_new (Blk.new _ _ _ _) rfl rfl (by decide))
      have HW5 := Lib.hid hwl5
      have HBwl5 := Lib.hid (HBwc4.out.next' hbl); clear HBwc4
      have hN := HN.out.keep (KpC.of_below hbl); clear HN; have HN := Lib.hid hN; clear hN
      have hC5 := HC5.out.keep (KpC.of_below hbl); clear HC5; have HC5 := Lib.hid hC5; clear hC5
      have hC7 := HC7.out.keep (KpC.of_below hbl); clear HC7; have HC7 := Lib.hid hC7; clear hC7
      clear hwl5 hbl
      have HC := Lib.hid (new_is (L := [0, 1]) (m := 2) (by unfold CellOk; decide +kernel) (by decide +kernel) (by decide) (by decide) HL5.out)
      go_wp2_with fail
      rw [← HW5.out]
      refine HC.out.mono ?_
      rintro e wc6 ⟨p8, rfl, hc, hb⟩
      have HBwc6 := Lib.hid (HBwl5.out.next' hb); clear HBwl5
      have hN := HN.out.keep (KpC.of_below hb); clear HN; have HN := Lib.hid hN; clear hN
      have hC5 := HC5.out.keep (KpC.of_below hb); clear HC5; have HC5 := Lib.hid hC5; clear hC5
      have hC7 := HC7.out.keep (KpC.of_below hb); clear HC7; have HC7 := Lib.hid hC7; clear hC7
      clear hb HC HW5
      have HC8 := Lib.hid hc; clear hc
      have HBP := Lib.hid (Below.refl wc6.heap.size wc6); have HLeP := Lib.hid HBwc6.out.size
      have HNP := HN
      have HC5P := HC5
      have HC7P := HC7
      have HC8P := HC8
      obtain ⟨wl7, hwl7⟩ : ∃ x, x = wc6.alloc (.cells #[.int .i64 0, .int .i64 1] 3) := ⟨_, rfl⟩
      have hbl : Below wc6.heap.size wc6 wl7 := by rw [hwl7]; exact (Below.refl _ _).alloc (Nat.le_refl _) _
      have HL7 := Lib.hid (show SlX wl7 (.slice (some ⟨wc6.heap.size, 0, none⟩) 2 2) ([0, 1] : List Int) by rw [hwl7]; exact slX_new (Blk.new _ _ _ _) rfl rfl (by decide))
      have HW7 := Lib.hid hwl7
      have HBwl7 := Lib.hid (HBwc6.out.next' hbl); clear HBwc6
      have hN := HN.out.keep (KpC.of_below hbl); clear HN; have HN := Lib.hid hN; clear hN
      have hC5 := HC5.out.keep (KpC.of_below hbl); clear HC5; have HC5 := Lib.hid hC5; clear hC5
      have hC7 := HC7.out.keep (KpC.of_below hbl); clear HC7; have HC7 := Lib.hid hC7; clear hC7
      have hC8 := HC8.out.keep (KpC.of_below hbl); clear HC8; have HC8 := Lib.hid hC8; clear hC8
      have HBP := Lib.hid (HBP.out.next' hbl)
      clear hwl7 hbl
      have HK9 := Lib.hid (show Blk wl7 wc6.heap.size #[.int .i64 0, .int .i64 1] 3 (0, 0) by rw [HW7.out]; exact Blk.new _ _ _ _)
      have HC := Lib.hid (new_isB (L := [0, 1]) (m := 2) (by unfold CellOk; decide +kernel) (by decide +kernel) (by decide) (by decide) HL7.out)
      go_wp2_with fail
      rw [← HW7.out]
      refine HC.out.mono ?_
      rintro e wc8 ⟨p10, rfl, hc, hb⟩
      have HBwc8 := Lib.hid (HBwl7.out.next' hb); clear HBwl7
      have hN := HN.out.keep (KpC.of_below hb); clear HN; have HN := Lib.hid hN; clear hN
      have hC5 := HC5.out.keep (KpC.of_below hb); clear HC5; have HC5 := Lib.hid hC5; clear hC5
      have hC7 := HC7.out.keep (KpC.of_below hb); clear HC7; have HC7 := Lib.hid hC7; clear hC7
      have hC8 := HC8.out.keep (KpC.of_below hb); clear HC8; have HC8 := Lib.hid hC8; clear hC8
      have HBP := Lib.hid (HBP.out.next' hb)
      have HK9b := Lib.hid (HK9.out.below hb HK9.out.lt); have HsP := Lib.hid (show wc6.heap.size < wl7.heap.size from HK9.out.lt)
      clear hb HC
      have HC10 := Lib.hid hc; clear hc
      obtain ⟨B9, hB9⟩ : ∃ b, b = wc6.heap.size := ⟨_, rfl⟩
      rw [← hB9] at HK9b HsP ⊢
      have HE9 := Lib.hid hB9
      clear hB9
      have d0 := HK9b.out.cell 1
      have d1 := HK9b.out.free 1 (.inr (Nat.zero_le _))
      simp only [List.getElem?_toArray, List.getElem?_cons_succ, List.getElem?_cons_zero] at d0
      obtain ⟨ws, hws⟩ : ∃ u, u = wc8.setCell ⟨B9, 1, none⟩ (.int .i64 0) := ⟨_, rfl⟩
      have hPs : Below wc6.heap.size wc6 ws := by rw [hws]; exact HBP.out.setCell (p := ⟨B9, 1, none⟩) (by rw [HE9.out]; exact Nat.le_refl _) _
      have hws2 : Below w.heap.size w ws := by rw [hws]; exact HBwc8.out.setCell (p := ⟨B9, 1, none⟩) (by rw [HE9.out]; exact HLeP.out) _
      have hC10 : CellsAt ws p10 [0, 1] 2 := HC10.out ws (by rw [hws]; simp) (fun k h1 _ => by rw [hws]; exact heap_setCell_other _ _ _ _ (fun e => by have e : k = B9 := e; have := HsP.out; omega))
      have hn := HNP.out.keep (KpC.of_below hPs); have h5 := HC5P.out.keep (KpC.of_below hPs); have h7 := HC7P.out.keep (KpC.of_below hPs); have h8 := HC8P.out.keep (KpC.of_below hPs)
      clear HN HC5 HC7 HC8 HC10 HBwc8 HK9 HK9b HNP HC5P HC7P HC8P HBP HsP HLeP HE9
      have HN := Lib.hid hn; have HC5 := Lib.hid h5; have HC7 := Lib.hid h7; have HC8 := Lib.hid h8; have HC10 := Lib.hid hC10; have HBws := Lib.hid hws2
      have HMp := Lib.hid (cmap_is (p := p10) (by decide) hC10)
      have HWs := Lib.hid hws
      clear hn h5 h7 h8 hC10 hws2 hPs hws
      go_wp2_with fail
      clear d0 d1
      rw [← HWs.out]
      refine HMp.out.mono ?_
      rintro e wm ⟨a11, c11, rfl, _, ho, hb⟩
      obtain ⟨g11, x11, rfl, hg11, e11, f11⟩ := cell_own0 rfl ho (by decide)
      obtain ⟨wt, hwt⟩ : ∃ u, u = wm.setCell ⟨g11, 0, none⟩ (.int .i64 5) := ⟨_, rfl⟩
      have hbt : Below ws.heap.size ws wt := by rw [hwt]; exact hb.setCell (p := ⟨g11, 0, none⟩) hg11 _
      have hn := HN.out.keep (KpC.of_below hbt); have h5 := HC5.out.keep (KpC.of_below hbt); have h7 := HC7.out.keep (KpC.of_below hbt); have h8 := HC8.out.keep (KpC.of_below hbt); have h10 := HC10.out.keep (KpC.of_below hbt)
      have HBwt := Lib.hid (HBws.out.next' hbt)
      clear HN HC5 HC7 HC8 HC10 HBws HMp HWs
      have HN := Lib.hid hn; have HC5 := Lib.hid h5; have HC7 := Lib.hid h7; have HC8 := Lib.hid h8; have HC10 := Lib.hid h10
      have HWt := Lib.hid hwt
      clear hn h5 h7 h8 h10 hbt hwt ho hb hg11
      have HC := Lib.hid (works23_any wt (HG0.out.later HBwt.out))
      go_wp2_with fail
      rw [← HWt.out]
      refine HC.out.mono ?_
      rintro e wc9 ⟨rfl, hb⟩
      have HBwc9 := Lib.hid (HBwt.out.next' hb); clear HBwt
      have hN := HN.out.keep (KpC.of_below hb); clear HN; have HN := Lib.hid hN; clear hN
      have hC5 := HC5.out.keep (KpC.of_below hb); clear HC5; have HC5 := Lib.hid hC5; clear hC5
      have hC7 := HC7.out.keep (KpC.of_below hb); clear HC7; have HC7 := Lib.hid hC7; clear hC7
      have hC8 := HC8.out.keep (KpC.of_below hb); clear HC8; have HC8 := Lib.hid hC8; clear hC8
      have hC10 := HC10.out.keep (KpC.of_below hb); clear HC10; have HC10 := Lib.hid hC10; clear hC10
      clear hb HC HWt
      clear e11 f11
      have HC := Lib.hid (many_any p5 (upI 256) 256 wc9 HC5.out)
      go_wp2_with fail
      refine HC.out.mono ?_
      rintro e wq ⟨rfl, hwq⟩
      subst wq
      clear HC
      have HC := Lib.hid (new_no (L := []) (fun h => h.1 rfl) (by decide) lit_wf (slX_nil wc9))
      go_wp2_with fail
      refine HC.out.mono ?_
      rintro e wc11 ⟨rfl, hb⟩
      have HBwc11 := Lib.hid (HBwc9.out.next' hb); clear HBwc9
      have hN := HN.out.keep (KpC.of_below hb); clear HN; have HN := Lib.hid hN; clear hN
      have hC5 := HC5.out.keep (KpC.of_below hb); clear HC5; have HC5 := Lib.hid hC5; clear hC5
      have hC7 := HC7.out.keep (KpC.of_below hb); clear HC7; have HC7 := Lib.hid hC7; clear hC7
      have hC8 := HC8.out.keep (KpC.of_below hb); clear HC8; have HC8 := Lib.hid hC8; clear hC8
      have hC10 := HC10.out.keep (KpC.of_below hb); clear HC10; have HC10 := Lib.hid hC10; clear hC10
      clear hb HC
      have HC := Lib.hid (norm_nil_is wc11)
      go_wp2_with fail
      refine HC.out.mono ?_
      rintro e wc12 ⟨az, kz, rfl, hb⟩
      have HBwc12 := Lib.hid (HBwc11.out.next' hb); clear HBwc11
      have hN := HN.out.keep (KpC.of_below hb); clear HN; have HN := Lib.hid hN; clear hN
      have hC5 := HC5.out.keep (KpC.of_below hb); clear HC5; have HC5 := Lib.hid hC5; clear hC5
      have hC7 := HC7.out.keep (KpC.of_below hb); clear HC7; have HC7 := Lib.hid hC7; clear hC7
      have hC8 := HC8.out.keep (KpC.of_below hb); clear HC8; have HC8 := Lib.hid hC8; clear hC8
      have hC10 := HC10.out.keep (KpC.of_below hb); clear HC10; have HC10 := Lib.hid hC10; clear hC10
      clear hb HC
      have HC := Lib.hid (many_any p7 [0, 0] 1 wc12 HC7.out)
      go_wp2_with fail
      refine HC.out.mono ?_
      rintro e wq ⟨rfl, hwq⟩
      subst wq
      clear HC
      have HC := Lib.hid (border_zero (g := rK23) (c := 0) (by decide +kernel) rK23_ok (by decide) (by decide) rfl HN.out HC7.out)
      go_wp2_with fail
      refine HC.out.mono ?_
      rintro e wc14 ⟨az, kz, rfl, hb⟩
      have HBwc14 := Lib.hid (HBwc12.out.next' hb); clear HBwc12
      have hN := HN.out.keep (KpC.of_below hb); clear HN; have HN := Lib.hid hN; clear hN
      have hC5 := HC5.out.keep (KpC.of_below hb); clear HC5; have HC5 := Lib.hid hC5; clear hC5
      have hC7 := HC7.out.keep (KpC.of_below hb); clear HC7; have HC7 := Lib.hid hC7; clear hC7
      have hC8 := HC8.out.keep (KpC.of_below hb); clear HC8; have HC8 := Lib.hid hC8; clear hC8
      have hC10 := HC10.out.keep (KpC.of_below hb); clear HC10; have HC10 := Lib.hid hC10; clear hC10
      clear hb HC
      have HC := Lib.hid (border_is (g := rK23) (c := 1) (R := [1]) (by decide +kernel) rK23_ok (by decide) (by decide) rfl HN.out HC8.out)
      go_wp2_with fail
      refine HC.out.mono ?_
      rintro e wc15 ⟨a1, c1, rfl, hs, hb⟩
      have HBwc15 := Lib.hid (HBwc14.out.next' hb); clear HBwc14
      have hN := HN.out.keep (KpC.of_below hb); clear HN; have HN := Lib.hid hN; clear hN
      have hC5 := HC5.out.keep (KpC.of_below hb); clear HC5; have HC5 := Lib.hid hC5; clear hC5
      have hC7 := HC7.out.keep (KpC.of_below hb); clear HC7; have HC7 := Lib.hid hC7; clear hC7
      have hC8 := HC8.out.keep (KpC.of_below hb); clear HC8; have HC8 := Lib.hid hC8; clear hC8
      have hC10 := HC10.out.keep (KpC.of_below hb); clear HC10; have HC10 := Lib.hid hC10; clear hC10
      clear hb HC
      have HR := Lib.hid hs; clear hs
      obtain ⟨wl16, hwl16⟩ : ∃ x, x = wc15.alloc (.cells #[.int .i64 1] 3) := ⟨_, rfl⟩
      have hbl : Below wc15.heap.size wc15 wl16 := by rw [hwl16]; exact (Below.refl _ _).alloc (Nat.le_refl _) _
      have HL16 := Lib.hid (show SlX wl16 (.slice (some ⟨wc15.heap.size, 0, none⟩) 1 1) ([1] : List Int) by rw [hwl16]; exact slX_new (Blk.new _ _ _ _) rfl rfl (by decide))
      have HW16 := Lib.hid hwl16
      have HBwl16 := Lib.hid (HBwc15.out.next' hbl); clear HBwc15
      have hN := HN.out.keep (KpC.of_below hbl); clear HN; have HN := Lib.hid hN; clear hN
      have hC5 := HC5.out.keep (KpC.of_below hbl); clear HC5; have HC5 := Lib.hid hC5; clear hC5
      have hC7 := HC7.out.keep (KpC.of_below hbl); clear HC7; have HC7 := Lib.hid hC7; clear hC7
      have hC8 := HC8.out.keep (KpC.of_below hbl); clear HC8; have HC8 := Lib.hid hC8; clear hC8
      have hC10 := HC10.out.keep (KpC.of_below hbl); clear HC10; have HC10 := Lib.hid hC10; clear hC10
      have hR := HR.out.keep (KpC.of_below hbl); clear HR; have HR := Lib.hid hR; clear hR
      clear hwl16 hbl
      have HC := Lib.hid (rows_is (A := [1]) rfl HR.out HL16.out)
      go_wp2_with fail
      rw [← HW16.out]
      refine HC.out.mono ?_
      rintro e wc17 ⟨rfl, hb⟩
      have HBwc17 := Lib.hid (HBwl16.out.next' hb); clear HBwl16
      have hN := HN.out.keep (KpC.of_below hb); clear HN; have HN := Lib.hid hN; clear hN
      have hC5 := HC5.out.keep (KpC.of_below hb); clear HC5; have HC5 := Lib.hid hC5; clear hC5
      have hC7 := HC7.out.keep (KpC.of_below hb); clear HC7; have HC7 := Lib.hid hC7; clear hC7
      have hC8 := HC8.out.keep (KpC.of_below hb); clear HC8; have HC8 := Lib.hid hC8; clear hC8
      have hC10 := HC10.out.keep (KpC.of_below hb); clear HC10; have HC10 := Lib.hid hC10; clear hC10
      have hR := HR.out.keep (KpC.of_below hb); clear HR; have HR := Lib.hid hR; clear hR
      clear hb HC HW16
      clear HR
      have HC := Lib.hid (border_zero (g := rK23) (c := 0) (by decide +kernel) rK23_ok (by decide) (by decide) rfl HN.out HC8.out)
      go_wp2_with fail
      refine HC.out.mono ?_
      rintro e wc18 ⟨az, kz, rfl, hb⟩
      have HBwc18 := Lib.hid (HBwc17.out.next' hb); clear HBwc17
      have hN := HN.out.keep (KpC.of_below hb); clear HN; have HN := Lib.hid hN; clear hN
      have hC5 := HC5.out.keep (KpC.of_below hb); clear HC5; have HC5 := Lib.hid hC5; clear hC5
      have hC7 := HC7.out.keep (KpC.of_below hb); clear HC7; have HC7 := Lib.hid hC7; clear hC7
      have hC8 := HC8.out.keep (KpC.of_below hb); clear HC8; have HC8 := Lib.hid hC8; clear hC8
      have hC10 := HC10.out.keep (KpC.of_below hb); clear HC10; have HC10 := Lib.hid hC10; clear hC10
      clear hb HC
      have HC := Lib.hid (border_size p5 q rK23 (upI 256) 256 0 wc18 HN.out HC5.out (by rw [up_len]; decide))
      go_wp2_with fail
      refine HC.out.mono ?_
      rintro e wc19 ⟨rfl, hb⟩
      have HBwc19 := Lib.hid (HBwc18.out.next' hb); clear HBwc18
      have hN := HN.out.keep (KpC.of_below hb); clear HN; have HN := Lib.hid hN; clear hN
      have hC5 := HC5.out.keep (KpC.of_below hb); clear HC5; have HC5 := Lib.hid hC5; clear hC5
      have hC7 := HC7.out.keep (KpC.of_below hb); clear HC7; have HC7 := Lib.hid hC7; clear hC7
      have hC8 := HC8.out.keep (KpC.of_below hb); clear HC8; have HC8 := Lib.hid hC8; clear hC8
      have hC10 := HC10.out.keep (KpC.of_below hb); clear HC10; have HC10 := Lib.hid hC10; clear hC10
      clear hb HC
      have HC := Lib.hid (border_nonet p8 1 wc19)
      go_wp2_with fail
      refine HC.out.mono ?_
      rintro e wc20 ⟨rfl, hb⟩
      have HBwc20 := Lib.hid (HBwc19.out.next' hb); clear HBwc19
      have hN := HN.out.keep (KpC.of_below hb); clear HN; have HN := Lib.hid hN; clear hN
      have hC5 := HC5.out.keep (KpC.of_below hb); clear HC5; have HC5 := Lib.hid hC5; clear hC5
      have hC7 := HC7.out.keep (KpC.of_below hb); clear HC7; have HC7 := Lib.hid hC7; clear hC7
      have hC8 := HC8.out.keep (KpC.of_below hb); clear HC8; have HC8 := Lib.hid hC8; clear hC8
      have hC10 := HC10.out.keep (KpC.of_below hb); clear HC10; have HC10 := Lib.hid hC10; clear hC10
      clear hb HC
      have HC := Lib.hid (of_cell p10 [0, 1] 2 1 wc20 HC10.out)
      go_wp2_with fail
      refine HC.out.mono ?_
      rintro e wq ⟨rfl, hwq⟩
      subst wq
      clear HC
      have HC := Lib.hid (of_cell p10 [0, 1] 2 0 wc20 HC10.out)
      go_wp2_with fail
      refine HC.out.mono ?_
      rintro e wq ⟨rfl, hwq⟩
      subst wq
      clear HC
      have HC := Lib.hid (of_nil 0 wc20)
      go_wp2_with fail
      refine HC.out.mono ?_
      rintro e wq ⟨rfl, hwq⟩
      subst wq
      clear HC
      have HC := Lib.hid (many_nil wc20)
      go_wp2_with fail
      refine HC.out.mono ?_
      rintro e wq ⟨rfl, hwq⟩
      subst wq
      clear HC
      have HC := Lib.hid (cmap_nil wc20)
      go_wp2_with fail
      refine HC.out.mono ?_
      rintro e wq ⟨rfl, hwq⟩
      subst wq
      clear HC
      have HC := Lib.hid (in_nil_is 0 wc20)
      go_wp2_with fail
      refine HC.out.mono ?_
      rintro e wc26 ⟨az, kz, rfl, hb⟩
      have HBwc26 := Lib.hid (HBwc20.out.next' hb); clear HBwc20
      have hN := HN.out.keep (KpC.of_below hb); clear HN; have HN := Lib.hid hN; clear hN
      have hC5 := HC5.out.keep (KpC.of_below hb); clear HC5; have HC5 := Lib.hid hC5; clear hC5
      have hC7 := HC7.out.keep (KpC.of_below hb); clear HC7; have HC7 := Lib.hid hC7; clear hC7
      have hC8 := HC8.out.keep (KpC.of_below hb); clear HC8; have HC8 := Lib.hid hC8; clear hC8
      have hC10 := HC10.out.keep (KpC.of_below hb); clear HC10; have HC10 := Lib.hid hC10; clear hC10
      clear hb HC
      have HC := Lib.hid (border_nocells (some ⟨q, 0, none⟩) 0 wc26)
      go_wp2_with fail
      refine HC.out.mono ?_
      rintro e wc27 ⟨rfl, hb⟩
      have HBwc27 := Lib.hid (HBwc26.out.next' hb); clear HBwc26
      have hN := HN.out.keep (KpC.of_below hb); clear HN; have HN := Lib.hid hN; clear hN
      have hC5 := HC5.out.keep (KpC.of_below hb); clear HC5; have HC5 := Lib.hid hC5; clear hC5
      have hC7 := HC7.out.keep (KpC.of_below hb); clear HC7; have HC7 := Lib.hid hC7; clear hC7
      have hC8 := HC8.out.keep (KpC.of_below hb); clear HC8; have HC8 := Lib.hid hC8; clear hC8
      have hC10 := HC10.out.keep (KpC.of_below hb); clear HC10; have HC10 := Lib.hid hC10; clear hC10
      clear hb HC
      obtain ⟨wl28, hwl28⟩ : ∃ x, x = wc27.alloc (.cells #[.int .i64 0, .int .i64 (-1)] 3) := ⟨_, rfl⟩
      have hbl : Below wc27.heap.size wc27 wl28 := by rw [hwl28]; exact (Below.refl _ _).alloc (Nat.le_refl _) _
      have HL28 := Lib.hid (show SlX wl28 (.slice (some ⟨wc27.heap.size, 0, none⟩) 2 2) ([0, -1] : List Int) by rw [hwl28]; exact slX_new (Blk.new _ _ _ _) rfl rfl (by decide))
      have HW28 := Lib.hid hwl28
      have HBwl28 := Lib.hid (HBwc27.out.next' hbl); clear HBwc27
      have hN := HN.out.keep (KpC.of_below hbl); clear HN; have HN := Lib.hid hN; clear hN
      have hC5 := HC5.out.keep (KpC.of_below hbl); clear HC5; have HC5 := Lib.hid hC5; clear hC5
      have hC7 := HC7.out.keep (KpC.of_below hbl); clear HC7; have HC7 := Lib.hid hC7; clear hC7
      have hC8 := HC8.out.keep (KpC.of_below hbl); clear HC8; have HC8 := Lib.hid hC8; clear hC8
      have hC10 := HC10.out.keep (KpC.of_below hbl); clear HC10; have HC10 := Lib.hid hC10; clear hC10
      clear hwl28 hbl
      have HC := Lib.hid (new_no (L := [0, -1]) (by unfold CellOk; decide +kernel) (by decide) (by decide) HL28.out)
      go_wp2_with fail
      rw [← HW28.out]
      refine HC.out.mono ?_
      rintro e wc29 ⟨rfl, hb⟩
      have HBwc29 := Lib.hid (HBwl28.out.next' hb); clear HBwl28
      have hN := HN.out.keep (KpC.of_below hb); clear HN; have HN := Lib.hid hN; clear hN
      have hC5 := HC5.out.keep (KpC.of_below hb); clear HC5; have HC5 := Lib.hid hC5; clear hC5
      have hC7 := HC7.out.keep (KpC.of_below hb); clear HC7; have HC7 := Lib.hid hC7; clear hC7
      have hC8 := HC8.out.keep (KpC.of_below hb); clear HC8; have HC8 := Lib.hid hC8; clear hC8
      have hC10 := HC10.out.keep (KpC.of_below hb); clear HC10; have HC10 := Lib.hid hC10; clear hC10
      clear hb HC HW28
      have HC := Lib.hid (in_zero (c := 7) (by decide +kernel) (by decide) HC8.out)
      go_wp2_with fail
      refine HC.out.mono ?_
      rintro e wc30 ⟨az, kz, rfl, hb⟩
      have HBwc30 := Lib.hid (HBwc29.out.next' hb); clear HBwc29
      have hN := HN.out.keep (KpC.of_below hb); clear HN; have HN := Lib.hid hN; clear hN
      have hC5 := HC5.out.keep (KpC.of_below hb); clear HC5; have HC5 := Lib.hid hC5; clear hC5
      have hC7 := HC7.out.keep (KpC.of_below hb); clear HC7; have HC7 := Lib.hid hC7; clear hC7
      have hC8 := HC8.out.keep (KpC.of_below hb); clear HC8; have HC8 := Lib.hid hC8; clear hC8
      have hC10 := HC10.out.keep (KpC.of_below hb); clear HC10; have HC10 := Lib.hid hC10; clear hC10
      clear hb HC
      go_wp2_with fail
      go_ret
      exact ⟨by simp, HBwc30.out⟩
end Go.Proofs.YtjobijmmjebpaaaDoor
