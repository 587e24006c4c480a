/- OctetKnown: the walk. -/
import Derived.Test.YtaikcehdomaebaaDoorOctNil
namespace Go.Proofs.YtaikcehdomaebaaDoor
open Go.RowKit
def baA : ByteArray := ⟨#[97, 98, 99]⟩
def baB : ByteArray := ⟨#[255, 255, 255, 255, 255, 255, 255, 127, 0, 0, 0, 0, 0, 0, 0, 128]⟩
/-- a reader of our own -/
structure RQ (w0 w : World) (q : Nat) (R : RS) : Prop where
  ro : Ro true w q R
  h : w0.heap.size ≤ q
  bel : Below w0.heap.size w0 w
theorem RQ.later {w0 w w' : World} {q : Nat} {R : RS} (h : RQ w0 w q R) (hb : Below w.heap.size w w') : RQ w0 w' q R := ⟨h.ro.later hb, h.h, h.bel.next' hb⟩
theorem RQ.on {w0 w w' : World} {q : Nat} {R R' : RS} (h : RQ w0 w q R) (ho : RoOn true w q R' w') : RQ w0 w' q R' := ⟨ho.1, h.h, h.bel.trans (ho.2.below h.bel.size (fun k hk => by rw [hk]; exact h.h))⟩
set_option maxHeartbeats 2000000 in
set_option maxRecDepth 100000 in
theorem known_any (w : World) (hg : HG w) : Calls Tryd.prog 4 #[] w fun e w' => e = .returned (.bool true) ∧ Below w.heap.size w w' := by
  have HG0 := Lib.hid hg
  clear hg
  have wz1 : wrap64 ((9223372036854775807 : Nat) : Int) = 9223372036854775807 := by decide +kernel
  have wz2 : wrap64 ((9223372036854775808 : Nat) : Int) = -9223372036854775808 := by decide +kernel
  have W1 := Lib.hid wz1; have W2 := Lib.hid wz2
  clear wz1 wz2
  go_enter Tryd.func4, Tryd.ntmps4
  go_wp2_with fail
  refine (wU8_nil _ _).mono ?_
  rintro e w1 ⟨⟨x1, rfl⟩, rfl⟩
  go_wp2_with fail
  refine (text_nil _ _).mono ?_
  rintro e w1 ⟨⟨x2, rfl⟩, rfl⟩
  have HB0 : Hid (Below w.heap.size w (w.alloc (.cells #[.int .u8 1] 5))) := Lib.hid ((Below.refl _ _).alloc (Nat.le_refl _) _)
  go_wp2_with fail
  refine (read_any true baA _ (by decide)).mono ?_
  rintro e wa ⟨q, rfl, hr, hq, hb⟩
  have H0 : Hid (RQ w wa q ⟨baA, 0, none⟩) := Lib.hid ⟨hr, by have := HB0.out.size; omega, HB0.out.next' hb⟩
  clear hr hq hb HB0
  go_wp2_with fail
  refine (rText_is (R' := ⟨baA, 0, some (2, 0)⟩) (s := ⟨#[]⟩) H0.out.ro (-1) (by decide) (by kernel_rfl) (by kernel_rfl)).mono ?_
  rintro e wb ⟨rfl, ho⟩
  have H1 := Lib.hid (H0.out.on ho)
  clear ho H0
  go_wp2_with fail
  refine (rText_is (R' := ⟨baA, 0, some (2, 0)⟩) (s := ⟨#[]⟩) H1.out.ro 1 (by decide) (by kernel_rfl) (by kernel_rfl)).mono ?_
  rintro e wc ⟨rfl, ho⟩
  have H2 := Lib.hid (H1.out.on ho)
  clear ho H1
  go_wp2_with fail
  refine (rU8_is (R' := ⟨baA, 0, some (2, 0)⟩) (n := 0) H2.out.ro (by kernel_rfl) (by kernel_rfl)).mono ?_
  rintro e wd ⟨rfl, ho⟩
  have H3 := Lib.hid (H2.out.on ho)
  clear ho H2
  go_wp2_with fail
  refine (at_any true q ⟨baA, 0, some (2, 0)⟩ wd H3.out.ro).mono ?_
  rintro e w' ⟨rfl, rfl⟩
  go_wp2_with fail
  refine (left_any true q ⟨baA, 0, some (2, 0)⟩ wd H3.out.ro).mono ?_
  rintro e we ⟨rfl, hb⟩
  have H4 := Lib.hid (H3.out.later hb)
  clear hb H3
  have hl3 : (((⟨baA, 0, some (2, 0)⟩ : RS).s.size : Int) - ((⟨baA, 0, some (2, 0)⟩ : RS).at_ : Int)) = 3 := by decide
  rw [hl3]
  go_wp2_with fail
  refine (err_at H4.out.ro (ok_some _ _ _ _ (by decide)) 2 0 (by kernel_rfl)).mono ?_
  rintro e wf ⟨v, rfl, hv, _, hb⟩
  have H5 := Lib.hid (H4.out.later hb); have HV := Lib.hid hv
  clear hb H4 hv
  go_wp2_with fail
  refine (lawTold_is wf v 2 0 0 0 (HG0.out.later H5.out.bel) HV.out).mono ?_
  rintro e wg ⟨rfl, hb⟩
  have H6 := Lib.hid (H5.out.later hb)
  clear hb H5 HV
  go_wp2_with fail
  refine (end_at H6.out.ro (ok_some _ _ _ _ (by decide)) 2 0 (by kernel_rfl)).mono ?_
  rintro e wh ⟨v2, rfl, hv, _, hb⟩
  have H7 := Lib.hid (H6.out.later hb); have HV := Lib.hid hv
  clear hb H6 hv
  go_wp2_with fail
  refine (lawTold_is wh v2 2 0 0 0 (HG0.out.later H7.out.bel) HV.out).mono ?_
  rintro e wi ⟨rfl, hb⟩
  have HB1 := Lib.hid (H7.out.bel.next' hb)
  clear hb H7 HV
  go_wp2_with fail
  refine (read_any true baB _ (by decide)).mono ?_
  rintro e wj ⟨q2, rfl, hr, hq, hb⟩
  have H0 : Hid (RQ w wj q2 ⟨baB, 0, none⟩) := Lib.hid ⟨hr, by have := HB1.out.size; omega, HB1.out.next' hb⟩
  clear hr hq hb HB1
  go_wp2_with fail
  refine (rI64_is (R' := ⟨baB, 8, none⟩) H0.out.ro 9223372036854775807 W1.out (by kernel_rfl)).mono ?_
  rintro e wk ⟨rfl, ho⟩
  have H1 := Lib.hid (H0.out.on ho)
  clear ho H0
  go_wp2_with fail
  refine (rI64_is (R' := ⟨baB, 16, none⟩) H1.out.ro (-9223372036854775808) W2.out (by kernel_rfl)).mono ?_
  rintro e wl ⟨rfl, ho⟩
  have H2 := Lib.hid (H1.out.on ho)
  clear ho H1
  go_wp2_with fail
  refine (rText_is (R' := ⟨baB, 16, none⟩) (s := ⟨#[]⟩) H2.out.ro 0 (by decide) (by kernel_rfl) (by kernel_rfl)).mono ?_
  rintro e wm ⟨rfl, ho⟩
  have H3 := Lib.hid (H2.out.on ho)
  clear ho H2
  go_wp2_with fail
  refine (end_at H3.out.ro (ok_none _ _) 0 0 (by kernel_rfl)).mono ?_
  rintro e wn ⟨v3, rfl, _, hv, hb⟩
  obtain rfl := hv rfl
  have HB2 := Lib.hid (H3.out.bel.next' hb)
  clear hb H3 hv
  go_wp2_with fail
  refine (works_any wn (HG0.out.later HB2.out)).mono ?_
  rintro e wo ⟨rfl, hb⟩
  have HB3 := Lib.hid (HB2.out.next' hb)
  clear hb HB2
  go_wp2_with fail
  refine (str_nil _).mono ?_
  rintro e w' ⟨rfl, rfl⟩
  go_wp2_with fail
  refine (rU8_nil _).mono ?_
  rintro e w' ⟨rfl, rfl⟩
  go_wp2_with fail
  refine (rU32_nil _).mono ?_
  rintro e w' ⟨rfl, rfl⟩
  go_wp2_with fail
  refine (rU64_nil _).mono ?_
  rintro e w' ⟨rfl, rfl⟩
  go_wp2_with fail
  refine (rI64_nil _).mono ?_
  rintro e w' ⟨rfl, rfl⟩
  go_wp2_with fail
  refine (rText_nil _ _).mono ?_
  rintro e w' ⟨rfl, rfl⟩
  go_wp2_with fail
  refine (at_nil _).mono ?_
  rintro e w' ⟨rfl, rfl⟩
  go_wp2_with fail
  refine (left_nil _).mono ?_
  rintro e w' ⟨rfl, rfl⟩
  go_wp2_with fail
  refine (err_nil _).mono ?_
  rintro e w' ⟨rfl, rfl⟩
  go_wp2_with fail
  refine (end_nil _).mono ?_
  rintro e w' ⟨rfl, rfl⟩
  go_wp2_with fail
  refine (read_any true ⟨#[]⟩ _ (by decide)).mono ?_
  rintro e wp ⟨q3, rfl, hr, hq, hb⟩
  have H0 : Hid (RQ w wp q3 ⟨⟨#[]⟩, 0, none⟩) := Lib.hid ⟨hr, by have := HB3.out.size; omega, HB3.out.next' hb⟩
  clear hr hq hb HB3
  go_wp2_with fail
  refine (end_at H0.out.ro (ok_none _ _) 0 0 (by kernel_rfl)).mono ?_
  rintro e wr ⟨v4, rfl, _, hv, hb⟩
  obtain rfl := hv rfl
  have HB4 := Lib.hid (H0.out.bel.next' hb)
  clear hb H0 hv
  go_wp2_with fail
  go_ret
  exact ⟨rfl, HB4.out⟩
end Go.Proofs.YtaikcehdomaebaaDoor
