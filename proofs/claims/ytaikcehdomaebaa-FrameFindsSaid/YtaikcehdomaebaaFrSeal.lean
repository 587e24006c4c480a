/- frame's laws: seal. -/
import Derived.Test.YtaikcehdomaebaaRefDec
namespace Go.Proofs.Ytaikcehdomaebaa
open Go.RowKit
/-- s[m:] -/
theorem run_slice_from {P : Program} (t e : TypeId) (g n cap m : Nat) (i : TypeInfo) (ht : P.underlying t = some (.slice e)) (hs : P.info? e = some i) (h1 : i.size = 1) (hm : m ≤ n) (hc : n ≤ cap) :
    ∃ o : Nat, (∀ u : World, (Instr.slice t (.slice (some ⟨g, 0, none⟩) n cap) (some (.int .i64 m)) none none).run P u = .ok (.slice (some ⟨g, o, none⟩) (n - m) (cap - m)) u) ∧ (n = m ∨ o = m) := by
  have he : P.elem t = e := by unfold Program.elem; rw [ht]
  have ht' : P.underlying t = some (.slice (P.elem t)) := by rw [he]; exact ht
  refine ⟨if cap = m then 0 else m, fun u => ?_, ?_⟩
  · rw [run_slice_l u t (some ⟨g, 0, none⟩) n cap ht' .i64 (m : Int) (by omega) (by omega)]
    rw [he]
    by_cases hcm : cap = m
    · simp [sizeOf, typeInfo, hs, h1, sliced, hcm]
    · simp [sizeOf, typeInfo, hs, h1, sliced, hcm, Addr.add]
      omega
  · by_cases hcm : cap = m
    · left; omega
    · right; rw [if_neg hcm]
/-- string(b[..]) of a block whose cells are bytes -/
theorem conv_part {P : Program} (w : World) (g o : Nat) (L l : List UInt8) (x : Array Value) (t : TypeId) (fr : Nat × Nat) (cap : Nat) (hw : Blk w g (u8cells L ++ x) t fr) (hl : ∀ j (hj : j < l.length), L[o + j]? = some l[j])
    {src dst e : TypeId} (hs : P.underlying src = some (.slice e)) (he : P.underlying e = some (.int .u8)) (hd : P.underlying dst = some .string) :
    (convert src dst (.slice (some ⟨g, o, none⟩) l.length cap)).run P w = .ok (.string ⟨l.toArray⟩) w := by
  refine run_convert_bytes_back w src dst e ⟨g, o, none⟩ cap l hs he hd ?_
  intro j hj
  have ha : (⟨g, o, none⟩ : Addr).add j = ⟨g, o + j, none⟩ := by unfold Addr.add; split <;> simp_all
  have h := hl j hj
  obtain ⟨hlt, hv⟩ := List.getElem?_eq_some_iff.1 h
  rw [ha, hw.cell, u8cells_get L x (o + j) hlt, hv]
theorem milesum_is (n : Nat) (s : ByteArray) (hs : s.size ≤ 1000000) (w : World) (h : Crc.sum s.data.toList = n) :
    Calls Try.prog 28 #[.string s] w fun e w' => e = .returned (.int .u32 n) ∧ w = w' := by
  have C := Lib.hid (fun u => refSum_is n s hs u h)
  clear h
  go_enter Try.func28, Try.ntmps28
  go_wp2_with fail
  refine (C.out w).mono ?_
  rintro e w' ⟨rfl, rfl⟩
  go_wp2_with fail
  go_ret
  exact ⟨rfl, rfl⟩
set_option maxHeartbeats 4000000 in
set_option maxRecDepth 100000 in
theorem seal_any (g cap : Nat) (l : List UInt8) (ex : Array Value) (fr : Nat × Nat) (many n : Nat) (w : World) (hb : Blk w g (u8cells l ++ ex) 5 fr) (hn : l.length = n) (hc : n ≤ cap) (hm : 11 + 13 * many ≤ n) (hn2 : n ≤ 100000) :
    Calls Try.prog 14 #[.slice (some ⟨g, 0, none⟩) n cap, .int .i64 many] w fun e w' => ∃ T : ByteArray, e = .returned (.string T) ∧ T.size ≤ 1000000 ∧ Below w.heap.size w w' := by
  obtain ⟨i0, hi, hz0, hz1, hz2⟩ := info_parts infoU8
  obtain ⟨en, hen⟩ : ∃ en, en = 7 + 13 * many := ⟨_, rfl⟩
  have e1 : (7 : Int) + 13 * (many : Int) = (en : Int) := by omega
  have e2 : (13 : Int) * (many : Int) + 7 = (en : Int) := by omega
  obtain ⟨e4, he4⟩ : ∃ e4, e4 = en + 4 := ⟨_, rfl⟩
  have e3 : (en : Int) + 4 = (e4 : Int) := by omega
  have w1 : IntKind.i64.wrap (e4 : Int) = e4 := wrap_small _ (by omega) (by omega)
  have hsl1 := run_slice_to (P := Try.prog) 32 5 (some ⟨g, 0, none⟩) n cap en Try.underlying32 (by rw [hi]; rfl) (by omega)
  obtain ⟨o, hsl2, ho⟩ := run_slice_from (P := Try.prog) 32 5 g n cap e4 i0 Try.underlying32 hi hz1 (by omega) hc
  obtain ⟨la, hla⟩ : ∃ la, la = l.take en := ⟨_, rfl⟩
  obtain ⟨lb, hlb⟩ : ∃ lb, lb = l.drop e4 := ⟨_, rfl⟩
  have hlal : la.length = en := by rw [hla, List.length_take]; omega
  have hlbl : lb.length = n - e4 := by rw [hlb, List.length_drop]; omega
  have hca : ∀ u, Blk u g (u8cells l ++ ex) 5 fr → (convert 32 9 (.slice (some ⟨g, 0, none⟩) en cap)).run Try.prog u = .ok (.string ⟨la.toArray⟩) u := fun u hu => by
    rw [← hlal]
    exact conv_part u g 0 l la ex 5 fr cap hu (fun j hj => by
      rw [Nat.zero_add]
      have : la[j]? = l[j]? := by rw [hla, List.getElem?_take_of_lt (by omega)]
      rw [← this, List.getElem?_eq_getElem hj]) Try.underlying32 Try.underlying5 Try.underlying9
  have hcb : ∀ u, Blk u g (u8cells l ++ ex) 5 fr → (convert 32 9 (.slice (some ⟨g, o, none⟩) (n - e4) (cap - e4))).run Try.prog u = .ok (.string ⟨lb.toArray⟩) u := fun u hu => by
    rw [← hlbl]
    exact conv_part u g o l lb ex 5 fr (cap - e4) hu (fun j hj => by
      have ho' : o = e4 := by
        rcases ho with h | h
        · omega
        · exact h
      have : lb[j]? = l[o + j]? := by rw [hlb, List.getElem?_drop, ho']
      rw [← this, List.getElem?_eq_getElem hj]) Try.underlying32 Try.underlying5 Try.underlying9
  obtain ⟨cr, hcr⟩ : ∃ cr, Crc.sum la = cr := ⟨_, rfl⟩
  have hcrl : cr < 4294967296 := by rw [← hcr]; exact Crc.sum_lt _
  have CM := Lib.hid (fun u => milesum_is cr ⟨la.toArray⟩ (by show la.length ≤ _; omega) u hcr)
  have HB := Lib.hid hb
  have HCB := Lib.hid hcb
  have hcb0 := hcb w hb
  have hca0 := hca w hb
  have z1 : la.length ≤ 100000 := by omega
  have z2 : lb.length ≤ 100000 := by omega
  have o1 : (0 : Int) ≤ (en : Int) := by omega
  have o2 : (en : Int) ≤ (cap : Int) := by omega
  have o3 : (0 : Int) ≤ (e4 : Int) := by omega
  have o4 : (e4 : Int) ≤ (n : Int) := by omega
  clear hb hcb hca hcr hla hlb hlal hlbl hi hz0 hz1 hz2 ho hen he4 hn
  go_enter Try.func14, Try.ntmps14
  go_wp2_with fail
  refine (CM.out _).mono ?_
  rintro e w' ⟨rfl, rfl⟩
  go_wp2_with fail
  obtain ⟨y0, hy0⟩ : ∃ y : UInt8, y = UInt8.ofNat cr := ⟨_, rfl⟩
  obtain ⟨y1, hy1⟩ : ∃ y : UInt8, y = UInt8.ofNat (cr / 256) := ⟨_, rfl⟩
  obtain ⟨y2, hy2⟩ : ∃ y : UInt8, y = UInt8.ofNat (cr / 65536) := ⟨_, rfl⟩
  obtain ⟨y3, hy3⟩ : ∃ y : UInt8, y = UInt8.ofNat (cr / 16777216) := ⟨_, rfl⟩
  have n0 : IntKind.u8.wrap (cr : Int) = (y0.toNat : Int) := by rw [hy0, UInt8.toNat_ofNat']; simp [IntKind.wrap, IntKind.signed, IntKind.bits]
  have n1 : IntKind.u8.wrap ((cr : Int) / 2 ^ 8) = (y1.toNat : Int) := by rw [hy1, UInt8.toNat_ofNat']; simp [IntKind.wrap, IntKind.signed, IntKind.bits]
  have n2 : IntKind.u8.wrap ((cr : Int) / 2 ^ 16) = (y2.toNat : Int) := by rw [hy2, UInt8.toNat_ofNat']; simp [IntKind.wrap, IntKind.signed, IntKind.bits]
  have n3 : IntKind.u8.wrap ((cr : Int) / 2 ^ 24) = (y3.toNat : Int) := by rw [hy3, UInt8.toNat_ofNat']; simp [IntKind.wrap, IntKind.signed, IntKind.bits]
  have m1 : IntKind.u8.wrap ((cr : Int) / 256) = (y1.toNat : Int) := n1
  have m2 : IntKind.u8.wrap ((cr : Int) / 65536) = (y2.toNat : Int) := n2
  have m3 : IntKind.u8.wrap ((cr : Int) / 16777216) = (y3.toNat : Int) := n3
  have hq1 : (convert 32 9 (.slice (some ⟨w.heap.size, 0, none⟩) 4 4)).run Try.prog (w.alloc (.cells #[.int .u8 (y0.toNat : Int), .int .u8 (y1.toNat : Int), .int .u8 (y2.toNat : Int), .int .u8 (y3.toNat : Int)] 5)).drew = .ok (.string ⟨#[y0, y1, y2, y3]⟩) (w.alloc (.cells #[.int .u8 (y0.toNat : Int), .int .u8 (y1.toNat : Int), .int .u8 (y2.toNat : Int), .int .u8 (y3.toNat : Int)] 5)).drew :=
    conv_block _ w.heap.size [y0, y1, y2, y3] #[] 5 (0, 0) 4 (Blk.new w #[.int .u8 (y0.toNat : Int), .int .u8 (y1.toNat : Int), .int .u8 (y2.toNat : Int), .int .u8 (y3.toNat : Int)] 5 (0, 0)).drew Try.underlying32 Try.underlying5 Try.underlying9
  have q1 : ¬ 9223372036854775807 < la.length + 4 := by omega
  have q2 : ¬ 9223372036854775807 < la.length + 4 + lb.length := by omega
  clear hy0 hy1 hy2 hy3 hca0 hsl1
  have hcb3 := HCB.out (w.alloc (.cells #[.int .u8 (y0.toNat : Int), .int .u8 (y1.toNat : Int), .int .u8 (y2.toNat : Int), .int .u8 (y3.toNat : Int)] 5)).drew (HB.out.alloc _).drew
  have hcb1 := HCB.out w.drew HB.out.drew
  go_region
  all_goals
    clear hcb1 hcb3
    clear hq1 hcb0 hsl2 n0 n1 n2 n3 m1 m2 m3
    go_wp2_with fail
    go_ret
    refine ⟨_, rfl, ?_, ((Below.refl _ _).alloc (Nat.le_refl _) _).drew⟩
    rw [ByteArray.size_append, ByteArray.size_append]
    show la.length + 4 + lb.length ≤ 1000000
    omega
end Go.Proofs.Ytaikcehdomaebaa
