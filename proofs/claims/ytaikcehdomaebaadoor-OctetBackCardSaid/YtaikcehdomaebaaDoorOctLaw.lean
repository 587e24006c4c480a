/- octet: the writer's numbers at once; the reader's I64, End. -/
import Derived.Test.YtaikcehdomaebaaDoorOctTold
import Derived.Test.YtaikcehdomaebaaDoorOctGetI64
import Derived.Test.YtaikcehdomaebaaDoorOctPutI64
import Derived.Test.YtaikcehdomaebaaDoorOctWU
namespace Go.Proofs.YtaikcehdomaebaaDoor
open Go.RowKit
theorem wU32_sl (p : Nat) (l : List UInt8) (F : Nat → Prop) (vs : Value) (ns : List Int) (w : World) (h : Wr w p l F) (hs : SlI w vs .u32 ns) (hl : l.length + 8 * ns.length ≤ 1099511627776) (hsep : ∀ b, vs.ownBlock = some b → ¬ F b) :
    Calls Tryd.prog 9 #[.pointer (some ⟨p, 0, none⟩), vs] w fun e w' => (∃ v, e = .returned v) ∧ WrOn w p (l ++ ns.flatMap (fun x => leb (n64 x) 4)) F w' := by
  have HC := Lib.hid (put32_any p l F 4 (by decide) vs ns w h hs hl hsep)
  clear h hs hsep
  go_enter Tryd.func9, Tryd.ntmps9
  go_wp2_with fail
  refine HC.out.mono ?_
  rintro e w' ⟨⟨v, rfl⟩, hon⟩
  go_wp2_with fail
  go_end0
  exact ⟨⟨_, rfl⟩, hon⟩
theorem wI64_sl (p : Nat) (l : List UInt8) (F : Nat → Prop) (vs : Value) (ns : List Int) (w : World) (h : Wr w p l F) (hs : SlI w vs .i64 ns) (hl : l.length + 8 * ns.length ≤ 1099511627776) (hsep : ∀ b, vs.ownBlock = some b → ¬ F b) :
    Calls Tryd.prog 11 #[.pointer (some ⟨p, 0, none⟩), vs] w fun e w' => (∃ v, e = .returned v) ∧ WrOn w p (l ++ ns.flatMap (fun x => leb (n64 x) 8)) F w' := by
  have HC := Lib.hid (putI64_any p l F 8 (by decide) vs ns w h hs hl hsep)
  clear h hs hsep
  go_enter Tryd.func11, Tryd.ntmps11
  go_wp2_with fail
  refine HC.out.mono ?_
  rintro e w' ⟨⟨v, rfl⟩, hon⟩
  go_wp2_with fail
  go_end0
  exact ⟨⟨_, rfl⟩, hon⟩
theorem wI64_any (p : Nat) (l : List UInt8) (F : Nat → Prop) (g : Nat) (x : Int) (t : TypeId) (fr : Nat × Nat) (w : World) (h : Wr w p l F) (hg : Blk w g #[.int .i64 x] t fr) (hgF : ¬ F g) (hl : l.length ≤ 1000000000) :
    Calls Tryd.prog 11 #[.pointer (some ⟨p, 0, none⟩), .slice (some ⟨g, 0, none⟩) 1 1] w fun e w' => (∃ v, e = .returned v) ∧ WrOn w p (l ++ leb (n64 x) 8) F w' := by
  have C := wI64_sl p l F _ [x] w h (sl_one hg) (by simp; omega) (own_not hgF)
  simp only [List.flatMap_cons, List.flatMap_nil, List.append_nil] at C
  exact C
theorem rI64_any (fu : Bool) (q : Nat) (R : RS) (w : World) (h : Ro fu w q R) : Calls Tryd.prog 26 #[.pointer (some ⟨q, 0, none⟩)] w fun e w' => e = .returned (.int .i64 (wrap64 ((R.num 8).1 : Nat))) ∧ RoOn fu w q (R.num 8).2 w' := by
  have C := Lib.hid (getI64_any fu q R 8 (by decide) w h)
  generalize (R.num 8).1 = v at *
  generalize (R.num 8).2 = R1 at *
  clear h
  go_enter Tryd.func26, Tryd.ntmps26
  go_wp2_with fail
  refine C.out.mono ?_
  rintro e w' ⟨rfl, hon⟩
  go_wp2_with fail
  go_ret
  exact ⟨rfl, hon⟩
/-- a reader's fault has a code -/
def RS.ok (R : RS) : Prop := ∀ c i, R.f = some (c, i) → c ≠ 0
theorem RS.ok_new (s : ByteArray) : RS.ok ⟨s, 0, none⟩ := fun c i h => by cases h
theorem RS.ok_take {R : RS} (h : R.ok) (n : Int) : (R.take n).2.ok := by
  unfold RS.take
  split
  · exact h
  · split
    · intro c i e; simp only [Option.some.injEq, Prod.mk.injEq] at e; omega
    · split
      · intro c i e; simp only [Option.some.injEq, Prod.mk.injEq] at e; omega
      · exact h
theorem RS.ok_num {R : RS} (h : R.ok) (k : Nat) : (R.num k).2.ok := RS.ok_take h k
/-- what Err tells: code, place -/
def RS.errF (R : RS) : Int × Nat := match R.f with | none => (0, 0) | some (c, i) => (c, i)
/-- what End tells -/
def RS.endF (R : RS) : Int × Nat := match R.f with | none => if R.at_ = R.s.size then (0, 0) else (4, R.at_) | some (c, i) => (c, i)
theorem err_is (q : Nat) (R : RS) (w : World) (h : Ro true w q R) (hok : R.ok) : Calls Tryd.prog 16 #[.pointer (some ⟨q, 0, none⟩)] w fun e w' =>
    ∃ v, e = .returned v ∧ ErrIs w' v R.errF.1 0 (R.errF.2 : Nat) 0 ∧ (R.f = none → v = .nilIface) ∧ (R.f ≠ none → ∃ x, v = .iface 74 x) ∧ Below w.heap.size w w' := by
  refine (err_any q R w h).mono ?_
  rintro e w' ⟨v, rfl, h1, h2, hb⟩
  unfold RS.errF
  cases hf : R.f with
  | none => exact ⟨v, rfl, .inl ⟨h1 hf, rfl, rfl, rfl, rfl⟩, fun _ => h1 hf, fun h => absurd rfl h, hb⟩
  | some ci =>
    obtain ⟨c, i⟩ := ci
    obtain ⟨b, rfl, _, h4⟩ := h2 c i hf
    exact ⟨_, rfl, .inr ⟨hok c i hf, b, asTo_fault b _, h4⟩, fun h => (by cases h), fun _ => ⟨_, rfl⟩, hb⟩
set_option maxHeartbeats 1000000 in
theorem end_is (q : Nat) (R : RS) (w : World) (h : Ro true w q R) (hok : R.ok) : Calls Tryd.prog 25 #[.pointer (some ⟨q, 0, none⟩)] w fun e w' =>
    ∃ v, e = .returned v ∧ ErrIs w' v R.endF.1 0 (R.endF.2 : Nat) 0 ∧ (R.endF.1 = 0 → v = .nilIface) ∧ Below w.heap.size w w' := by
  have CE := Lib.hid (err_is q R w h hok)
  have CL := Lib.hid (fun u (hu : Below w.heap.size w u) => left_any true q R u (h.later hu))
  have hle := h.le
  have hsz := h.sz
  have H := Lib.hid h
  clear h
  cases hf : R.f with
  | some ci =>
    obtain ⟨c, i⟩ := ci
    have he : R.endF = R.errF := by unfold RS.endF RS.errF; rw [hf]
    have hz : R.endF.1 ≠ 0 := by
      have := hok c i hf
      unfold RS.endF; rw [hf]; exact this
    have hn : R.f ≠ none := by rw [hf]; simp
    have HE := Lib.hid he; have HZ := Lib.hid hz; have HN := Lib.hid hn
    clear he hz hn hf hok
    go_enter Tryd.func25, Tryd.ntmps25
    go_wp2_with fail
    refine CE.out.mono ?_
    rintro e w1 ⟨v, rfl, h1, _, h3, hb⟩
    obtain ⟨x, rfl⟩ := h3 HN.out
    have H1 := Lib.hid h1; have HB := Lib.hid hb
    clear h1 hb h3
    go_wp2_with fail
    go_ret
    exact ⟨_, rfl, by rw [HE.out]; exact H1.out, fun h => absurd h HZ.out, HB.out⟩
  | none =>
    have hn : R.f = none := hf
    have HN := Lib.hid hn
    by_cases hat : R.at_ = R.s.size
    · have he : R.endF = (0, 0) := by unfold RS.endF; rw [hf]; simp [hat]
      have HE := Lib.hid he
      have e0 : (R.s.size : Int) - (R.at_ : Int) = 0 := by omega
      rw [e0] at CL
      clear hf hn he hat e0 hok
      go_enter Tryd.func25, Tryd.ntmps25
      go_wp2_with fail
      refine CE.out.mono ?_
      rintro e w1 ⟨v, rfl, _, h2, _, hb⟩
      obtain rfl := h2 HN.out
      have HB := Lib.hid hb
      clear hb h2
      go_wp2_with fail
      refine (CL.out w1 HB.out).mono ?_
      rintro e w2 ⟨rfl, hb2⟩
      have HB2 := Lib.hid (HB.out.next' hb2)
      clear hb2
      go_wp2_with fail
      go_ret
      exact ⟨_, rfl, by rw [HE.out]; exact .inl ⟨rfl, rfl, rfl, rfl, rfl⟩, fun _ => rfl, HB2.out⟩
    · have he : R.endF = (4, R.at_) := by unfold RS.endF; rw [hf]; simp [hat]
      have HE := Lib.hid he
      have e0 : ((R.s.size : Int) - (R.at_ : Int) == 0) = false := by rw [beq_eq_false_iff_ne]; omega
      clear hf hn he hat hok
      go_enter Tryd.func25, Tryd.ntmps25
      go_wp2_with fail
      refine CE.out.mono ?_
      rintro e w1 ⟨v, rfl, _, h2, _, hb⟩
      obtain rfl := h2 HN.out
      have HB := Lib.hid hb
      clear hb h2
      go_wp2_with fail
      refine (CL.out w1 HB.out).mono ?_
      rintro e w2 ⟨rfl, hb2⟩
      have HB2 := Lib.hid (HB.out.next' hb2)
      clear hb2
      obtain ⟨fp, hbq⟩ := (H.out.later HB2.out).blk
      have c1 := hbq.cell 1
      change w2.cell? ⟨q, 1, none⟩ = some (.int .i64 R.at_) at c1
      clear hbq
      go_wp2_with fail
      go_ret
      exact ⟨_, rfl, by rw [HE.out]; exact .inr ⟨show (4 : Int) ≠ 0 by decide, _, asTo_fault _ _, Blk.new _ _ _ _⟩, (fun h => by rw [HE.out] at h; cases h), HB2.out.alloc HB2.out.size _⟩
end Go.Proofs.YtaikcehdomaebaaDoor
