/- The law LineRound: its walk. -/
import Derived.Test.YtkkchoinfdfiaaaLR6
import Derived.Test.YtkkchoinfdfiaaaN12
import Derived.Lib.SmallJoins
set_option linter.unusedVariables false
set_option linter.unusedSimpArgs false
namespace Go.Proofs.Ytkkchoinfdfiaaa
open Go.RowKit Go.Q Go.Shelf Go.Maps Go.Joins

theorem ub_length (xs : List Int) : (ub xs).length = xs.length := by simp [ub]
theorem ub_one (xs : List Int) : ∀ u ∈ ub xs, u.oneCell' = true := by
  intro u hu
  simp only [ub, List.mem_map] at hu
  obtain ⟨x, _, rfl⟩ := hu
  rfl
theorem from_bytes {w : World} {a : Option Addr} {xs : List Int} (h : BytesAt w a xs) : From w a (ub xs) := by
  rcases h with h | ⟨b, off, ha, hb, hc⟩
  · subst h; exact .inl rfl
  · refine .inr ⟨_, ha, fun j u hu => ?_⟩
    have hj : j < xs.length := by
      rcases Nat.lt_or_ge j xs.length with h | h
      · exact h
      · rw [List.getElem?_eq_none (by simpa [ub_length] using h)] at hu; cases hu
    rw [ub_get xs j hj] at hu
    obtain rfl := Option.some.inj hu
    refine Eq.trans (congrArg w.cell? ?_) (hc j hj)
    cases j <;> simp [Addr.add]
theorem two_boxes {w w1 : World} {c0 c1 : Array Value} {k0 k1 : TypeId} (E : Ext ((w.alloc (.cells c0 k0)).alloc (.cells c1 k1)) w1) :
    w1.heap[w.heap.size]? = some (.cells c0 k0 (0, 0)) ∧ w1.heap[w.heap.size + 1]? = some (.cells c1 k1 (0, 0)) := by
  have e1 := heap_alloc_new w (.cells c0 k0)
  have e2 := heap_alloc_new (w.alloc (.cells c0 k0)) (.cells c1 k1)
  simp only [World.size_alloc] at e2
  exact ⟨(E.old.block _ (by simp)).trans e1, (E.block _ (by simp)).trans e2⟩
set_option maxRecDepth 100000 in
set_option maxHeartbeats 8000000 in
theorem round_law (l : Ln) (a1 a2 : Option Addr) (n1 n2 c1 c2 : Nat) (ws bs : List Int) (at_ by_ : Int) (w : World) (l1 : ws.length = n1) (l2 : bs.length = n2) (b1 : n1 ≤ 9223372036854775807) (b2 : n2 ≤ c2 ∧ c2 ≤ 9223372036854775807) (i1 : IntsAt w a1 ws) (i2 : BytesAt w a2 bs) (o2 : ∀ x ∈ bs, 0 ≤ x ∧ x ≤ 255) (ha : 0 ≤ at_ ∧ at_ ≤ 65535) (hby : 0 ≤ by_ ∧ by_ ≤ 65535) :
    Calls Try.prog 19 #[.agg #[.int .i64 l.words, .int .i64 l.bits, .int .i64 l.period, .int .i64 l.delay, .int .i64 l.slope, .int .i64 l.window], .slice a1 n1 c1, .agg #[.slice a2 n2 c2, .int .u16 at_, .int .u16 by_]] w fun e w' => e = .returned (.bool true) ∧ Ext w w' := by
  have hrp := fun W (E : Ext w W) => Read_any a2 n2 c2 bs W l2 b2.1 b2.2 (i2.ext E) o2
  have hwp := fun W (E : Ext w W) => Write_any l a1 n1 c1 ws W l1 b1 (i1.ext E)
  have hcx := fun W (E : Ext w W) => conv_bytes (c := c2) (i2.ext E) o2
  rw [l2] at hcx
  have hlen : (readF bs).2.2.1.length ≤ 9223372036854775807 := Nat.le_trans (read_small o2) (by decide)
  have hVb : ∀ x ∈ (writeE l ws).1, 0 ≤ x ∧ x ≤ 255 := write_bd
  have hcase : ((writeE l ws).2 ≠ 0 ∧ (writeE l ws).1 = []) ∨ ((writeE l ws).2 = 0 ∧ (5 ≤ (writeE l ws).1.length ∧ (writeE l ws).1.length ≤ 400) ∧ (readF (writeE l ws).1 = (l.words, l.bits, ws, 0)) ∧ sum8 (writeE l ws).1 = 0) := by
    rcases write_cases l ws with ⟨x, hx, e⟩ | ⟨ho, hw, e⟩
    · rw [e]; exact .inl ⟨hx, rfl⟩
    · rw [e]; exact .inr ⟨rfl, file_small ho hw, read_write ho hw, file_sum⟩
  have hgood : (readF bs).2.2.2 = 0 → writeE ⟨(readF bs).1, (readF bs).2.1, 2, 0, 0, 0⟩ (readF bs).2.2.1 = (bs, 0) := fun h => by
    have h2 := write_read o2 h
    rw [h2.1]
    exact h2.2
  obtain ⟨V, hV⟩ : ∃ V, (writeE l ws).1 = V := ⟨_, rfl⟩
  obtain ⟨y, hy⟩ : ∃ y, (writeE l ws).2 = y := ⟨_, rfl⟩
  have e : writeE l ws = (V, y) := by rw [← hV, ← hy]
  rw [hV] at hVb
  rw [hV, hy] at hcase
  rw [e] at hwp
  obtain ⟨A, hA⟩ : ∃ A, (readF bs).1 = A := ⟨_, rfl⟩
  obtain ⟨B, hB⟩ : ∃ B, (readF bs).2.1 = B := ⟨_, rfl⟩
  obtain ⟨U, hU⟩ : ∃ U, (readF bs).2.2.1 = U := ⟨_, rfl⟩
  obtain ⟨z, hz⟩ : ∃ z, (readF bs).2.2.2 = z := ⟨_, rfl⟩
  have e2 : readF bs = (A, B, U, z) := by rw [← hA, ← hB, ← hU, ← hz]
  rw [hA, hB, hU, hz] at hgood
  rw [hU] at hlen
  rw [e2] at hrp
  clear hV hy e hA hB hU hz e2
  obtain ⟨m, hm⟩ : ∃ m, V.length = m := ⟨_, rfl⟩
  obtain ⟨u, hu⟩ : ∃ u, U.length = u := ⟨_, rfl⟩
  rw [hu] at hlen
  have hcase2 : (y ≠ 0 ∧ V = []) ∨ (y = 0 ∧ (5 ≤ m ∧ m ≤ 400) ∧ (∀ (a : Option Addr) (c : Nat) (W : World), m ≤ c ∧ c ≤ 9223372036854775807 → BytesAt W a V → Calls Try.prog 51 #[.slice a m c] W (ReadRes (l.words, l.bits, ws, 0) W)) ∧ (∀ (k : Nat) (d : Int), k < m → 1 ≤ d → d ≤ 255 → ∀ (a : Option Addr) (c : Nat) (W : World), m ≤ c ∧ c ≤ 9223372036854775807 → BytesAt W a (V.set k ((byteF V k + d) % 256)) → Calls Try.prog 51 #[.slice a m c] W (ReadRes (0, 0, [], 6) W))) := by
    rcases hcase with h | ⟨h1, h2, h3, h4⟩
    · exact .inl h
    · refine .inr ⟨h1, by rw [← hm]; exact h2, fun a c W hc hI => ?_, fun k d hk hd1 hd2 a c W hc hI => ?_⟩
      · rw [← h3]; exact Read_any a m c V W hm hc.1 hc.2 hI hVb
      · rw [← forged_bad h4 h2.2 (by rw [hm]; exact hk) hd1 hd2]
        exact Read_any a m c _ W (by rw [List.length_set]; exact hm) hc.1 hc.2 hI (forged_bd hVb)
  have hwg : z = 0 → ∀ (a : Option Addr) (c : Nat) (W : World), IntsAt W a U → Calls Try.prog 49 #[.agg #[.int .i64 A, .int .i64 B, .int .i64 2, .int .i64 0, .int .i64 0, .int .i64 0], .slice a u c] W (WriteRes (bs, 0) W) := fun h a c W hI => by
    rw [← hgood h]
    exact Write_any ⟨A, B, 2, 0, 0, 0⟩ a u c U W hu hlen hI
  have hin := fun (a b : Option Addr) (c d : Nat) W (j : IntsAt W a ws) (k : IntsAt W b ws) => ints_any a b n1 n1 c d ws ws W l1 l1 b1 b1 j k
  rw [show decide (ws = ws) = true from decide_eq_true rfl] at hin
  have hcv := fun (W : World) (a : Option Addr) (c : Nat) (h : BytesAt W a bs) => conv_bytes (c := c) h o2
  rw [l2] at hcv
  have HM := Lib.hid hm
  have HU := Lib.hid hu
  have HW := Lib.hid l1
  have HN2 := Lib.hid l2
  have HC := Lib.hid hcase2
  have HVB := Lib.hid hVb
  have HI1 := Lib.hid i1
  have HA := Lib.hid ha
  have HBY := Lib.hid hby
  have hss : (!((strU bs).toList == (strU bs).toList)) = false := by simp only [beq_self_eq_true, Bool.not_true]
  clear hm hu hVb hcase hcase2 hgood l1 l2 i1 i2 o2 b2 ha hby
  generalize strU bs = sv at *
  go_enter Try.func19, Try.ntmps19
  go_wp2_with fail
  refine (hrp _ (((Ext.refl w).alloc _).alloc _)).mono ?_
  rintro e w1 ⟨a5, k5, rfl, hI5, E1⟩
  rw [show ((A, B, U, z) : Int × Int × List Int × Int).2.2.1.length = u from HU.out]
  obtain ⟨b0, b1⟩ := two_boxes E1
  have EX := E1.old.old
  clear E1 hrp
  by_cases hz : z = 0
  · have hw5 := hwg hz a5 k5 w1 hI5
    subst hz
    clear hwg hI5
    go_wp2_with fail
    refine hw5.mono ?_
    rintro e w2 ⟨a6, k6, rfl, _, hI6, E2⟩
    rw [show ((bs, 0) : List Int × Int).1.length = n2 from HN2.out]
    replace b0 := (E2.block _ (Array.getElem?_eq_some_iff.1 b0).1).trans b0
    replace b1 := (E2.block _ (Array.getElem?_eq_some_iff.1 b1).1).trans b1
    replace EX := EX.comp E2
    have hc6 := hcv w2 a6 k6 hI6
    have hcx2 := hcx w2 EX
    have x0 := blk_cell b1 0 (v := .slice a2 n2 c2) rfl
    have l0 := blk_cell b0 0 (v := .int .i64 l.words) rfl
    have l1 := blk_cell b0 1 (v := .int .i64 l.bits) rfl
    have l2 := blk_cell b0 2 (v := .int .i64 l.period) rfl
    have l3 := blk_cell b0 3 (v := .int .i64 l.delay) rfl
    have l4 := blk_cell b0 4 (v := .int .i64 l.slope) rfl
    have l5 := blk_cell b0 5 (v := .int .i64 l.window) rfl
    clear hw5 hcv hcx E2 hI6
    go_wp2_with fail
    clear hc6 hcx2 x0 l0 l1 l2 l3 l4 l5
    refine (hwp _ EX).mono ?_
    rintro e Y ⟨a7, k7, rfl, hk7, hI7, E7⟩
    rw [show ((V, y) : List Int × Int).1.length = m from HM.out] at hk7 ⊢
    replace b0 := (E7.block _ (Array.getElem?_eq_some_iff.1 b0).1).trans b0
    replace b1 := (E7.block _ (Array.getElem?_eq_some_iff.1 b1).1).trans b1
    replace EX := EX.comp E7
    clear E7
    rcases HC.out with ⟨hy, hV⟩ | ⟨hy, hmb, hrV, hrF⟩
    · obtain rfl : m = 0 := by rw [← HM.out, hV]; rfl
      have hyb : (y != 0) = true := by simpa using hy
      clear hwp hk7 hI7
      go_wp2_with fail
      refine (awake_any _).mono ?_
      rintro e Z ⟨rfl, EZ⟩
      go_wp2
      go_ret
      exact ⟨rfl, EX.comp EZ⟩
    · subst hy
      have l0 := blk_cell b0 0 (v := .int .i64 l.words) rfl
      have l1 := blk_cell b0 1 (v := .int .i64 l.bits) rfl
      go_wp2_with fail
      refine (hrV a7 k7 _ hk7 hI7).mono ?_
      rintro e Z ⟨a8, k8, rfl, hI8, E8⟩
      rw [show ((l.words, l.bits, ws, 0) : Int × Int × List Int × Int).2.2.1.length = n1 from HW.out]
      replace b0 := (E8.block _ (Array.getElem?_eq_some_iff.1 b0).1).trans b0
      replace b1 := (E8.block _ (Array.getElem?_eq_some_iff.1 b1).1).trans b1
      replace EX := EX.comp E8
      have hI7 := hI7.ext E8
      clear l0 l1 hrV E8
      have l0 := blk_cell b0 0 (v := .int .i64 l.words) rfl
      have l1 := blk_cell b0 1 (v := .int .i64 l.bits) rfl
      go_wp2_with fail
      refine (hin a8 a1 k8 c1 _ hI8 (HI1.out.ext EX)).mono ?_
      rintro e Q ⟨rfl, E9⟩
      replace b1 := (E9.block _ (Array.getElem?_eq_some_iff.1 b1).1).trans b1
      replace EX := EX.comp E9
      have hI7 := hI7.ext E9
      have d0 : ((m : Int) == 0) = false := by simp; omega
      have d1 : decide (400 < (m : Int)) = false := decide_eq_false (by omega)
      clear l0 l1 hin E9 b0 hI8
      obtain ⟨i0, hi, hz0, hz1, hz2⟩ := info_parts Try.infoU
      have hQs := EX.size
      go_wp2_with (at_builtin; refine wpList_app (w0 := Q) rfl _ _ 46 rfl 5 i0 (.int .u8 0) 1 1 Try.underlying46 hi hz0 hz1 hz2 rfl (by decide) _ 0 Q.heap.size [] rfl (own_empty (Ext.refl _)) ((Ext.refl Q).alloc _) (Nat.le_refl _) (by simp) _ m k7 (ub V) rfl ?c1 ?c2 (ub_one _) (by unfold maxLen; omega) (by omega) ?_)
      case c1 => rw [ub_length, HM.out]; omega
      case c2 => exact from_bytes (hI7.ext ((Ext.refl Q).alloc _))
      intro a9 c9 wd hown hE _
      (try rw [Nat.zero_add, List.nil_append] at hown)
      (try rw [Nat.zero_add])
      obtain ⟨g, q9, hg⟩ := ownsRow_form hown (by omega)
      obtain ⟨rfl, -, rfl⟩ := Value.slice.inj hg
      replace b1 := (hE.block _ (Array.getElem?_eq_some_iff.1 b1).1).trans b1
      replace EX := EX.comp hE
      have x1 := blk_cell b1 1 (v := .int .u16 at_) rfl
      have x2 := blk_cell b1 2 (v := .int .u16 by_) rfl
      obtain ⟨k, hk⟩ : ∃ k : Nat, at_ % (m : Int) = k := Int.eq_ofNat_of_zero_le (Int.emod_nonneg _ (by omega))
      have hkm : k < m := by have := Int.emod_lt_of_pos at_ (show (0 : Int) < m by omega); omega
      have tm1 : Int.tmod at_ (m : Int) = (k : Int) := by rw [Int.tmod_eq_emod_of_nonneg HA.out.1]; exact hk
      have tm2 : Int.tmod by_ 255 = by_ % 255 := Int.tmod_eq_emod_of_nonneg HBY.out.1
      obtain ⟨d, hd⟩ : ∃ d, by_ % 255 = d := ⟨_, rfl⟩
      rw [hd] at tm2
      have hd0 : 0 ≤ d ∧ d ≤ 254 := by omega
      obtain ⟨hd1, hd2⟩ := hd0
      have hv0 := hown.cellAt k (by omega)
      rw [ub_get V k (by rw [HM.out]; exact hkm)] at hv0
      obtain ⟨v, hv⟩ : ∃ v, V[k]?.getD 0 = v := ⟨_, rfl⟩
      have hvb : 0 ≤ v ∧ v ≤ 255 := by rw [← hv]; exact byteF_bd HVB.out k
      obtain ⟨hvb1, hvb2⟩ := hvb
      rw [hv] at hv0
      have hvf := hown.frozenAt k
      have hF := hrF k (1 + d) hkm (by omega) (by omega)
      rw [show byteF V k = v from hv] at hF
      have HF := Lib.hid hF
      have HV := Lib.hid hv
      have q1 : IntKind.i64.wrap at_ = at_ := IntWalk.i64_in _ (by have := HA.out; omega)
      have q2 : IntKind.i64.wrap (k : Int) = (k : Int) := IntWalk.i64_in _ (by omega)
      have q3 : IntKind.u16.wrap d = d := IntWalk.u16_in _ (by omega)
      have q4 : IntKind.u16.wrap (1 + d) = 1 + d := IntWalk.u16_in _ (by omega)
      have q5 : IntKind.u8.wrap (1 + d) = 1 + d := IntWalk.u8_in _ (by omega)
      have q6 : IntKind.u8.wrap (v + (1 + d)) = (v + (1 + d)) % 256 := IntKind.wrap_u8 _
      have z1 : (0 : Int) ≤ (k : Int) := by omega
      have z2 : (k : Int) < (m : Int) := by omega
      have z3 : ((m : Int) == 0) = false := by simp; omega
      have z4 : ¬ (m : Int) = 0 := by omega
      have hgw : w.heap.size ≤ g := Nat.le_trans (Nat.le_trans hQs (Nat.le_refl _)) ((hown.lt g rfl).1)
      clear hk hd hv hrF hF HC hwp hI7 hE b1
      go_wp2_with fail
      go_region
      have hst := (hown.stored k (.int .u8 ((v + (1 + d)) % 256))).1
      rw [show (ub V).set k (.int .u8 ((v + (1 + d)) % 256)) = ub (V.set k ((v + (1 + d)) % 256)) by unfold ub; rw [List.map_set]] at hst
      have hcap := own_cap hst
      have hB6 := (own_bytes hst).ext ((Ext.refl _).drew)
      have EX5 : Ext w (wd.setCell ⟨g, k, none⟩ (.int .u8 ((v + (1 + d)) % 256))).drew := (EX.setCell (p := ⟨g, k, none⟩) hgw (.int .u8 ((v + (1 + d)) % 256))).drew
      have hR6 := HF.out (some ⟨g, 0, none⟩) c9 _ hcap hB6
      clear hst hown EX x1 x2 hv0 hvf hB6
      generalize (wd.setCell ⟨g, k, none⟩ (.int .u8 ((v + (1 + d)) % 256))).drew = R at *
      go_wp2_with fail
      refine hR6.mono ?_
      rintro e R2 ⟨a10, k10, rfl, _, E10⟩
      rw [show ((0, 0, [], 6) : Int × Int × List Int × Int).2.2.1.length = 0 from rfl]
      go_wp2_with fail
      refine (awake_any _).mono ?_
      rintro e R3 ⟨rfl, E11⟩
      go_wp2
      go_ret
      exact ⟨rfl, (EX5.comp E10).comp E11⟩
  · have hzb : (z == 0) = false := by simpa using hz
    clear hwg hI5 hcv hcx hz
    have l0 := blk_cell b0 0 (v := .int .i64 l.words) rfl
    have l1 := blk_cell b0 1 (v := .int .i64 l.bits) rfl
    have l2 := blk_cell b0 2 (v := .int .i64 l.period) rfl
    have l3 := blk_cell b0 3 (v := .int .i64 l.delay) rfl
    have l4 := blk_cell b0 4 (v := .int .i64 l.slope) rfl
    have l5 := blk_cell b0 5 (v := .int .i64 l.window) rfl
    go_wp2_with fail
    clear l0 l1 l2 l3 l4 l5
    refine (hwp _ EX).mono ?_
    rintro e Y ⟨a7, k7, rfl, hk7, hI7, E7⟩
    rw [show ((V, y) : List Int × Int).1.length = m from HM.out] at hk7 ⊢
    replace b0 := (E7.block _ (Array.getElem?_eq_some_iff.1 b0).1).trans b0
    replace b1 := (E7.block _ (Array.getElem?_eq_some_iff.1 b1).1).trans b1
    replace EX := EX.comp E7
    clear E7
    rcases HC.out with ⟨hy, hV⟩ | ⟨hy, hmb, hrV, hrF⟩
    · obtain rfl : m = 0 := by rw [← HM.out, hV]; rfl
      have hyb : (y != 0) = true := by simpa using hy
      clear hwp hk7 hI7
      go_wp2_with fail
      refine (awake_any _).mono ?_
      rintro e Z ⟨rfl, EZ⟩
      go_wp2
      go_ret
      exact ⟨rfl, EX.comp EZ⟩
    · subst hy
      have l0 := blk_cell b0 0 (v := .int .i64 l.words) rfl
      have l1 := blk_cell b0 1 (v := .int .i64 l.bits) rfl
      go_wp2_with fail
      refine (hrV a7 k7 _ hk7 hI7).mono ?_
      rintro e Z ⟨a8, k8, rfl, hI8, E8⟩
      rw [show ((l.words, l.bits, ws, 0) : Int × Int × List Int × Int).2.2.1.length = n1 from HW.out]
      replace b0 := (E8.block _ (Array.getElem?_eq_some_iff.1 b0).1).trans b0
      replace b1 := (E8.block _ (Array.getElem?_eq_some_iff.1 b1).1).trans b1
      replace EX := EX.comp E8
      have hI7 := hI7.ext E8
      clear l0 l1 hrV E8
      have l0 := blk_cell b0 0 (v := .int .i64 l.words) rfl
      have l1 := blk_cell b0 1 (v := .int .i64 l.bits) rfl
      go_wp2_with fail
      refine (hin a8 a1 k8 c1 _ hI8 (HI1.out.ext EX)).mono ?_
      rintro e Q ⟨rfl, E9⟩
      replace b1 := (E9.block _ (Array.getElem?_eq_some_iff.1 b1).1).trans b1
      replace EX := EX.comp E9
      have hI7 := hI7.ext E9
      have d0 : ((m : Int) == 0) = false := by simp; omega
      have d1 : decide (400 < (m : Int)) = false := decide_eq_false (by omega)
      clear l0 l1 hin E9 b0 hI8
      obtain ⟨i0, hi, hz0, hz1, hz2⟩ := info_parts Try.infoU
      have hQs := EX.size
      go_wp2_with (at_builtin; refine wpList_app (w0 := Q) rfl _ _ 46 rfl 5 i0 (.int .u8 0) 1 1 Try.underlying46 hi hz0 hz1 hz2 rfl (by decide) _ 0 Q.heap.size [] rfl (own_empty (Ext.refl _)) ((Ext.refl Q).alloc _) (Nat.le_refl _) (by simp) _ m k7 (ub V) rfl ?c1 ?c2 (ub_one _) (by unfold maxLen; omega) (by omega) ?_)
      case c1 => rw [ub_length, HM.out]; omega
      case c2 => exact from_bytes (hI7.ext ((Ext.refl Q).alloc _))
      intro a9 c9 wd hown hE _
      (try rw [Nat.zero_add, List.nil_append] at hown)
      (try rw [Nat.zero_add])
      obtain ⟨g, q9, hg⟩ := ownsRow_form hown (by omega)
      obtain ⟨rfl, -, rfl⟩ := Value.slice.inj hg
      replace b1 := (hE.block _ (Array.getElem?_eq_some_iff.1 b1).1).trans b1
      replace EX := EX.comp hE
      have x1 := blk_cell b1 1 (v := .int .u16 at_) rfl
      have x2 := blk_cell b1 2 (v := .int .u16 by_) rfl
      obtain ⟨k, hk⟩ : ∃ k : Nat, at_ % (m : Int) = k := Int.eq_ofNat_of_zero_le (Int.emod_nonneg _ (by omega))
      have hkm : k < m := by have := Int.emod_lt_of_pos at_ (show (0 : Int) < m by omega); omega
      have tm1 : Int.tmod at_ (m : Int) = (k : Int) := by rw [Int.tmod_eq_emod_of_nonneg HA.out.1]; exact hk
      have tm2 : Int.tmod by_ 255 = by_ % 255 := Int.tmod_eq_emod_of_nonneg HBY.out.1
      obtain ⟨d, hd⟩ : ∃ d, by_ % 255 = d := ⟨_, rfl⟩
      rw [hd] at tm2
      have hd0 : 0 ≤ d ∧ d ≤ 254 := by omega
      obtain ⟨hd1, hd2⟩ := hd0
      have hv0 := hown.cellAt k (by omega)
      rw [ub_get V k (by rw [HM.out]; exact hkm)] at hv0
      obtain ⟨v, hv⟩ : ∃ v, V[k]?.getD 0 = v := ⟨_, rfl⟩
      have hvb : 0 ≤ v ∧ v ≤ 255 := by rw [← hv]; exact byteF_bd HVB.out k
      obtain ⟨hvb1, hvb2⟩ := hvb
      rw [hv] at hv0
      have hvf := hown.frozenAt k
      have hF := hrF k (1 + d) hkm (by omega) (by omega)
      rw [show byteF V k = v from hv] at hF
      have HF := Lib.hid hF
      have HV := Lib.hid hv
      have q1 : IntKind.i64.wrap at_ = at_ := IntWalk.i64_in _ (by have := HA.out; omega)
      have q2 : IntKind.i64.wrap (k : Int) = (k : Int) := IntWalk.i64_in _ (by omega)
      have q3 : IntKind.u16.wrap d = d := IntWalk.u16_in _ (by omega)
      have q4 : IntKind.u16.wrap (1 + d) = 1 + d := IntWalk.u16_in _ (by omega)
      have q5 : IntKind.u8.wrap (1 + d) = 1 + d := IntWalk.u8_in _ (by omega)
      have q6 : IntKind.u8.wrap (v + (1 + d)) = (v + (1 + d)) % 256 := IntKind.wrap_u8 _
      have z1 : (0 : Int) ≤ (k : Int) := by omega
      have z2 : (k : Int) < (m : Int) := by omega
      have z3 : ((m : Int) == 0) = false := by simp; omega
      have z4 : ¬ (m : Int) = 0 := by omega
      have hgw : w.heap.size ≤ g := Nat.le_trans (Nat.le_trans hQs (Nat.le_refl _)) ((hown.lt g rfl).1)
      clear hk hd hv hrF hF HC hwp hI7 hE b1
      go_wp2_with fail
      go_region
      have hst := (hown.stored k (.int .u8 ((v + (1 + d)) % 256))).1
      rw [show (ub V).set k (.int .u8 ((v + (1 + d)) % 256)) = ub (V.set k ((v + (1 + d)) % 256)) by unfold ub; rw [List.map_set]] at hst
      have hcap := own_cap hst
      have hB6 := (own_bytes hst).ext ((Ext.refl _).drew)
      have EX5 : Ext w (wd.setCell ⟨g, k, none⟩ (.int .u8 ((v + (1 + d)) % 256))).drew := (EX.setCell (p := ⟨g, k, none⟩) hgw (.int .u8 ((v + (1 + d)) % 256))).drew
      have hR6 := HF.out (some ⟨g, 0, none⟩) c9 _ hcap hB6
      clear hst hown EX x1 x2 hv0 hvf hB6
      generalize (wd.setCell ⟨g, k, none⟩ (.int .u8 ((v + (1 + d)) % 256))).drew = R at *
      go_wp2_with fail
      refine hR6.mono ?_
      rintro e R2 ⟨a10, k10, rfl, _, E10⟩
      rw [show ((0, 0, [], 6) : Int × Int × List Int × Int).2.2.1.length = 0 from rfl]
      go_wp2_with fail
      refine (awake_any _).mono ?_
      rintro e R3 ⟨rfl, E11⟩
      go_wp2
      go_ret
      exact ⟨rfl, (EX5.comp E10).comp E11⟩
end Go.Proofs.Ytkkchoinfdfiaaa
