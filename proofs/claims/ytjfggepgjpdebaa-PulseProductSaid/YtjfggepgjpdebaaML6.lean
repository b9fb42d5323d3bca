import Derived.Deep.QuietTactic
import Derived.BigQuiet
import Derived.Deep.RegionHeld3
import Derived.IntWalk
import Derived.Outline
import Derived.Test.YtjfggepgjpdebaaML0
import Derived.Test.YtjfggepgjpdebaaMX2
set_option linter.unusedVariables false
set_option linter.unusedSimpArgs false
/- Contract: PulseProduct returns true. -/
namespace Go.Proofs.Ytjfggepgjpdebaa
open Go.RowKit Go.Q
def prodS (a b : Int) (f g : Nat) : Pu := ⟨((List.replicate 128 0).set f a).set g b, [], 0, [], (g : Int) % 16, 0, 2, Q.written ⟨4, f, g, 0⟩, a, 0, 0, 0, 0, 0⟩
def prodT (a b : Int) (f g : Nat) : Pu := { prodS a b f g with other := b, product := sgn a * sgn b, count := 0, phase := 4, clock := (g : Int) % 16 + 1 + ((12 : Nat) : Int) }
theorem prodS_ord {a b : Int} {f g : Nat} (hf : f < 128) (hg : g < 128) : ordP (prodS a b f g) = ⟨4, f, g, 0⟩ := by
  show decodeQ (Q.written ⟨4, f, g, 0⟩) = _
  unfold Q.written decodeQ
  simp only [Ord.mk.injEq]
  omega
theorem prodS_valid {a b : Int} (ha : 0 ≤ a ∧ a ≤ 16777215) (hb : 0 ≤ b ∧ b ≤ 16777215) {f g : Nat} (hf : f < 128) (hg : g < 128) : ValidP (prodS a b f g) := by
  have ho := prodS_ord (a := a) (b := b) hf hg
  have hw : 0 ≤ Q.written ⟨4, f, g, 0⟩ ∧ Q.written ⟨4, f, g, 0⟩ ≤ 16777215 := by unfold Q.written; dsimp only; omega
  have hall : ∀ x ∈ ((List.replicate 128 (0 : Int)).set f a).set g b, 0 ≤ x ∧ x ≤ 16777215 := set_all (set_all (fun x hx => by rw [List.mem_replicate] at hx; omega) f ha) g hb
  refine ⟨by simp [prodS], by simp [prodS], by simp [prodS], hall, fun x hx => by simp [prodS] at hx, fun x hx => by simp [prodS] at hx, by simp [prodS], ?_, by simp [prodS], by simp [prodS], hw, ha, by simp [prodS], by simp [prodS], ?_, by simp [prodS], by simp [prodS], by simp [prodS], ?_⟩
  · show 0 ≤ (g : Int) % 16 ∧ (g : Int) % 16 ≤ 1000000000; omega
  · show (0 : Int) ≤ 0 ∧ (0 : Int) ≤ (g : Int) % 16; omega
  · refine fits_mk (fun e => by simp [prodS] at e) (fun _ => .inl (by rw [ho]; exact ⟨(by decide : (1 : Int) ≤ 4), (by decide : (4 : Int) ≤ 4)⟩)) (fun e => by simp [prodS] at e)
theorem prod_minors {a b : Int} (ha : 0 ≤ a ∧ a ≤ 16777215) (hb : 0 ≤ b ∧ b ≤ 16777215) {f g : Nat} (hf : f < 128) (hg : g < 128) : minorsP 13 (prodS a b f g) = prodT a b f g := by
  have hv := prodS_valid ha hb hf hg
  have ho := prodS_ord (a := a) (b := b) hf hg
  have h1 := mul_first (s := prodS a b f g) rfl (by show (g : Int) % 16 ≠ 1000000000; omega) rfl (by rw [ho]) (by rw [ho]; show (0 : Int) ≤ g; omega) (by rw [ho]; show ((g : Int) - (g : Int) % 16) % 16 = 0; omega)
  rw [ho] at h1
  have hb2 : (prodS a b f g).store[((g : Nat) : Int).toNat]?.getD 0 = b := by
    show (((List.replicate 128 (0 : Int)).set f a).set g b)[((g : Nat) : Int).toNat]?.getD 0 = b
    rw [Int.toNat_natCast, List.getElem?_set_self (by simp; exact hg)]; rfl
  have h1' : minorP (prodS a b f g) = { prodS a b f g with other := b, product := 0, count := 12, phase := 3, clock := (g : Int) % 16 + 1 } := by rw [h1]; dsimp only; rw [hb2]; rfl
  have hv1 := minorP_valid hv
  rw [h1'] at hv1
  have h2 := count_minors 12 0 hv1 rfl rfl (by show (g : Int) % 16 + 1 + ((12 : Nat) : Int) ≤ _; omega) rfl (by decide) rfl (by show (0 : Int) = _ * lowS _ 0; unfold lowS; simp [Int.emod_one])
  show minorsP 12 (minorP (prodS a b f g)) = _
  rw [h1', h2]
  unfold prodT
  rw [Int.mul_comm (sgn a)]
  rfl
theorem Blk.ivset {W : World} {b i : Nat} {xs : List Int} {T : TypeId} {x : Int} (h : Blk W b (iv xs).toArray T) : Blk (W.setCell ⟨b, i, none⟩ (.int .i64 x)) b (iv (xs.set i x)).toArray T := by
  have := h.st i (.int .i64 x)
  have e : (iv xs).toArray.setIfInBounds i (.int .i64 x) = (iv (xs.set i x)).toArray := by
    refine Array.ext' ?_
    simp [iv, List.map_set]
  rw [e] at this
  exact this
theorem Blk.ivat {W : World} {b : Nat} {xs : List Int} {T : TypeId} (h : Blk W b (iv xs).toArray T) : IntsAt W (some ⟨b, 0, none⟩) xs :=
  .inr ⟨b, 0, rfl, h.lt, fun i hi => by rw [Nat.zero_add]; exact h.c i (by simp [iv, hi])⟩
def PrR (a b : Int) (w : World) (e : Ending) (w' : World) : Prop := ∃ x1 x2 x3 k1 m2 k2 m3 k3 y4 y5 y7 y12 y13 y2, e = .returned (.tuple #[.agg #[.slice x1 128 k1, .slice x2 m2 k2, .int .i64 y2, .slice x3 m3 k3, .int .i64 y4, .int .i64 y5, .int .i64 4, .int .i64 y7, .int .i64 a, .int .i64 b, .int .i64 (sgn a * sgn b), .int .i64 0, .int .i64 y12, .int .i64 y13], .int .i64 0]) ∧ Ext w w'
theorem PrR.of {a b : Int} {f g : Nat} {w w' : World} {e : Ending} (h : PuR (prodT a b f g) w e w') : PrR a b w e w' := by
  obtain ⟨x1, x2, x3, k1, m2, k2, m3, k3, rfl, _, hE⟩ := h
  exact ⟨x1, x2, x3, k1, m2, k2, m3, k3, _, _, _, _, _, _, rfl, hE⟩
theorem zz_iv : zz = (iv (List.replicate 128 0)).toArray := by rw [← zz_list]
set_option maxRecDepth 100000 in
set_option maxHeartbeats 8000000 in
theorem product_good (a b : Int) (n0 n1 : Nat) (w : World) (ha : 0 ≤ a ∧ a ≤ 16777215) (hb : 0 ≤ b ∧ b ≤ 16777215) (h0 : n0 ≤ 255) (h1 : n1 ≤ 255) :
    Calls Try.prog 12 #[.int .i64 a, .int .i64 b, .agg #[.int .u8 n0, .int .u8 n1]] w fun e w' => e = .returned (.bool true) ∧ Ext w w' := by
  have hwa : ∀ W, Calls Try.prog 41 #[.int .i64 a] W fun e w' => e = .returned (.bool true) ∧ W = w' := fun W => by
    have h := word_any a W
    rw [show wordB a = true from inB_mk ha.1 ha.2] at h
    exact h
  have hwb : ∀ W, Calls Try.prog 41 #[.int .i64 b] W fun e w' => e = .returned (.bool true) ∧ W = w' := fun W => by
    have h := word_any b W
    rw [show wordB b = true from inB_mk hb.1 hb.2] at h
    exact h
  have hwr := fun W => written_any 4 ((n0 % 128 : Nat) : Int) ((n1 % 128 : Nat) : Int) 0 W (by simp [ordB, inB, addrB]; omega)
  have hwr' : ∀ W, Calls Try.prog 24 #[.agg #[.int .i64 4, .int .i64 ((n0 : Int) % 128), .int .i64 ((n1 : Int) % 128), .int .i64 0]] W fun e w' => e = .returned (.int .i64 (Q.written ⟨4, ((n0 % 128 : Nat) : Int), ((n1 % 128 : Nat) : Int), 0⟩)) ∧ Ext W w' := fun W => by
    have := hwr W
    rw [show ((n0 % 128 : Nat) : Int) = (n0 : Int) % 128 by omega, show ((n1 % 128 : Nat) : Int) = (n1 : Int) % 128 by omega] at this ⊢
    exact this
  clear hwr
  have hmk := make128
  have hpm := prod_minors ha hb (f := n0 % 128) (g := n1 % 128) (by omega) (by omega)
  have hv := prodS_valid ha hb (f := n0 % 128) (g := n1 % 128) (by omega) (by omega)
  have HA := Lib.hid (And.intro ha hb)
  have h13 : ∀ W v, PuAt W v (prodS a b (n0 % 128) (n1 % 128)) → Calls Try.prog 25 #[v, .int .i64 13] W (PrR a b W) := fun W v A => by
    have h := minors_any v _ 13 W A (validP_bd hv)
    have e13 : minorsE (prodS a b (n0 % 128) (n1 % 128)) 13 = (prodT a b (n0 % 128) (n1 % 128), 0) := by
      rw [minorsE_valid hv (by decide)]
      exact congrArg (fun x => (x, (0 : Int))) hpm
    rw [e13] at h
    exact h.mono fun _ _ k => PrR.of (f := n0 % 128) (g := n1 % 128) (PuR.of k (by rw [← hpm]; exact minorsP_valid 13 hv))
  clear hpm hv
  obtain ⟨ha0, ha1⟩ := ha
  obtain ⟨hb0, hb1⟩ := hb
  go_enter Try.func12, Try.ntmps12
  go_wp2_with (first | (go_at_call_of 41 (Value.int .i64 a); refine (hwa _).mono ?_; rintro e w' ⟨rfl, rfl⟩) | (go_at_call_of 41 (Value.int .i64 b); refine (hwb _).mono ?_; rintro e w' ⟨rfl, rfl⟩))
  have c0 := (Blk.nw w #[.int .u8 n0, .int .u8 n1] 63).c 0 (v := .int .u8 n0) rfl
  have c1 := (Blk.nw w #[.int .u8 n0, .int .u8 n1] 63).c 1 (v := .int .u8 n1) rfl
  have d0 : IntKind.i64.wrap ((n0 : Int).tmod 128) = ((n0 % 128 : Nat) : Int) := by rw [Int.tmod_eq_emod_of_nonneg (by omega)]; exact (IntWalk.i64_in _ (by omega)).trans (by omega)
  have d1 : IntKind.i64.wrap ((n1 : Int).tmod 128) = ((n1 % 128 : Nat) : Int) := by rw [Int.tmod_eq_emod_of_nonneg (by omega)]; exact (IntWalk.i64_in _ (by omega)).trans (by omega)
  go_quiet (fail)
  clear c0 c1 d0 d1
  have E0 : Ext w ((w.alloc (.cells #[.int .u8 n0, .int .u8 n1] 63)).drewN nq) := ((Ext.refl w).alloc _).comp (below_drewN (Ext.refl _) nq)
  obtain ⟨W, hW⟩ : ∃ W : World, W = (w.alloc (.cells #[.int .u8 n0, .int .u8 n1] 63)).drewN nq := ⟨_, rfl⟩
  rw [← hW] at E0
  rw [← hW]
  clear hW
  have bz : Blk (W.alloc (.cells zz 3)) W.heap.size (iv (List.replicate 128 0)).toArray 3 := by rw [← zz_iv]; exact Blk.nw W zz 3
  have E1 : Ext w (W.alloc (.cells zz 3)) := E0.alloc _
  have hs0 := E0.size
  go_upto_region 5 with fail
  obtain ⟨V, hV⟩ : ∃ V : World, V = W.alloc (.cells zz 3) := ⟨_, rfl⟩
  rw [← hV] at bz E1
  rw [← hV]
  clear hV
  generalize W.heap.size = B at *
  have hi0 : n0 % 128 < 128 := by omega
  have hi1 : n1 % 128 < 128 := by omega
  obtain ⟨v0, z0⟩ : ∃ v0, V.cell? ⟨B, n0 % 128, none⟩ = some (.int .i64 v0) := ⟨_, bz.c (n0 % 128) (by rw [List.getElem?_toArray]; exact iv_get _ _ (by rw [List.length_replicate]; exact hi0))⟩
  have zf := bz.f (n0 % 128)
  have bz1 := bz.ivset (i := n0 % 128) (x := a)
  obtain ⟨v1, y0⟩ : ∃ v1, (V.setCell ⟨B, n0 % 128, none⟩ (.int .i64 a)).cell? ⟨B, n1 % 128, none⟩ = some (.int .i64 v1) := ⟨_, bz1.c (n1 % 128) (by rw [List.getElem?_toArray]; exact iv_get _ _ (by rw [List.length_set, List.length_replicate]; exact hi1))⟩
  have yf := bz1.f (n1 % 128)
  have bz2 := bz1.ivset (i := n1 % 128) (x := b)
  have E2 : Ext w ((V.setCell ⟨B, n0 % 128, none⟩ (.int .i64 a)).setCell ⟨B, n1 % 128, none⟩ (.int .i64 b)) := (E1.setCell (p := ⟨B, n0 % 128, none⟩) hs0 _).setCell (p := ⟨B, n1 % 128, none⟩) hs0 _
  clear bz bz1 E1 E0
  go_upto_region 6 with fail
  clear z0 zf y0 yf
  obtain ⟨U, hU⟩ : ∃ U : World, U = (V.setCell ⟨B, n0 % 128, none⟩ (.int .i64 a)).setCell ⟨B, n1 % 128, none⟩ (.int .i64 b) := ⟨_, rfl⟩
  rw [← hU] at bz2 E2
  rw [← hU]
  clear hU
  have hib := bz2.ivat
  go_wp2_with fail
  refine (hwr' _).mono ?_
  rintro e w3 ⟨rfl, E3⟩
  have hib3 := hib.ext E3
  have X3 := E2.comp E3
  clear bz2 hib E2 E3
  have HI := Lib.hid hib3
  clear hib3
  go_wp2_with fail
  refine (h13 _ _ ⟨some ⟨B, 0, none⟩, none, none, 128, 0, 0, ?hval, HI.out.ext ((Ext.refl w3).alloc _), .inl rfl, .inl rfl⟩).mono ?_
  case hval => simp [psv, prodS]
  rintro e w4 ⟨x1, x2, x3, k1, m2, k2, m3, k3, y4, y5, y7, y12, y13, y2, rfl, E4⟩
  go_wp2_with fail
  have bT := Blk.nw w4 #[.slice x1 128 k1, .slice x2 m2 k2, .int .i64 y2, .slice x3 m3 k3, .int .i64 y4, .int .i64 y5, .int .i64 4, .int .i64 y7, .int .i64 a, .int .i64 b, .int .i64 (sgn a * sgn b), .int .i64 0, .int .i64 y12, .int .i64 y13] 41
  have X4 : Ext w (w4.alloc (.cells #[.slice x1 128 k1, .slice x2 m2 k2, .int .i64 y2, .slice x3 m3 k3, .int .i64 y4, .int .i64 y5, .int .i64 4, .int .i64 y7, .int .i64 a, .int .i64 b, .int .i64 (sgn a * sgn b), .int .i64 0, .int .i64 y12, .int .i64 y13] 41)) := (X3.comp E4.old).alloc _
  obtain ⟨Z, hZ⟩ : ∃ Z : World, Z = w4.alloc (.cells #[.slice x1 128 k1, .slice x2 m2 k2, .int .i64 y2, .slice x3 m3 k3, .int .i64 y4, .int .i64 y5, .int .i64 4, .int .i64 y7, .int .i64 a, .int .i64 b, .int .i64 (sgn a * sgn b), .int .i64 0, .int .i64 y12, .int .i64 y13] 41) := ⟨_, rfl⟩
  rw [← hZ] at bT X4
  rw [← hZ]
  clear hZ X3 E4
  generalize w4.heap.size = D at *
  have c6 := bT.c 6 (v := .int .i64 4) rfl
  have c8 := bT.c 8 (v := .int .i64 a) rfl
  have c9 := bT.c 9 (v := .int .i64 b) rfl
  have c10 := bT.c 10 (v := .int .i64 (sgn a * sgn b)) rfl
  have c11 := bT.c 11 (v := .int .i64 0) rfl
  have hsb := sgn_mul_bd (b := a) ⟨ha0, ha1⟩ (x := sgn b) (by have := sgn_bd' (n := b) ⟨hb0, hb1⟩; omega)
  have hwm : IntKind.i64.wrap (sgn a * sgn b) = sgn a * sgn b := IntWalk.i64_in _ (by omega)
  clear hsb bT
  generalize hsa : sgn a = sa at *
  generalize hsb2 : sgn b = sb at *
  have hga : ∀ W, Calls Try.prog 42 #[.int .i64 a] W fun e w' => e = .returned (.int .i64 sa) ∧ W = w' := fun W => by rw [← hsa]; exact sign_any a W ha0 ha1
  have hgb : ∀ W, Calls Try.prog 42 #[.int .i64 b] W fun e w' => e = .returned (.int .i64 sb) ∧ W = w' := fun W => by rw [← hsb2]; exact sign_any b W hb0 hb1
  clear hsa hsb2
  go_region_held3 (fun w' => Ext Z w' ∧ w'.cell? ⟨D, 6, none⟩ = some (.int .i64 4) ∧ w'.cell? ⟨D, 8, none⟩ = some (.int .i64 a) ∧ w'.cell? ⟨D, 9, none⟩ = some (.int .i64 b) ∧ w'.cell? ⟨D, 10, none⟩ = some (.int .i64 (sa * sb)) ∧ w'.cell? ⟨D, 11, none⟩ = some (.int .i64 0))
    (first | exact ⟨(Ext.refl Z).drew, c6, c8, c9, c10, c11⟩ | exact ⟨Ext.comp (Ext.refl Z).drew hb', cell_later hb' c6, cell_later hb' c8, cell_later hb' c9, cell_later hb' c10, cell_later hb' c11⟩ | (have hh := ‹Ext Z _ ∧ _ ∧ _›; exact ⟨Ext.comp hh.1 hb', cell_later hb' hh.2.1, cell_later hb' hh.2.2.1, cell_later hb' hh.2.2.2.1, cell_later hb' hh.2.2.2.2.1, cell_later hb' hh.2.2.2.2.2⟩))
    (first | (go_at_call_of 42 (Value.int .i64 a); refine (hga _).mono ?_; rintro e w' ⟨rfl, rfl⟩) | (go_at_call_of 42 (Value.int .i64 b); refine (hgb _).mono ?_; rintro e w' ⟨rfl, rfl⟩) | (go_at_call 30; refine (awake5_any _).mono ?_; rintro e w' ⟨rfl, hb'⟩))
  have hh := (‹Ext Z _ ∧ _ ∧ _›).1
  go_wp2_with fail
  go_ret
  exact ⟨rfl, X4.comp hh⟩
set_option maxRecDepth 100000 in
set_option maxHeartbeats 8000000 in
theorem product_bad (a b x0 x1 : Int) (w : World) (h : wordB a = false ∨ (wordB a = true ∧ wordB b = false)) :
    Calls Try.prog 12 #[.int .i64 a, .int .i64 b, .agg #[.int .u8 x0, .int .u8 x1]] w fun e w' => e = .returned (.bool true) ∧ Ext w w' := by
  have h1 := fun W => word_any a W
  have h2 := fun W => word_any b W
  rcases h with h | ⟨h, h'⟩
  · rw [h] at h1
    clear h h2
    go_enter Try.func12, Try.ntmps12
    go_wp2_with fail
    refine (h1 _).mono ?_
    rintro e w1 ⟨rfl, rfl⟩
    go_wp2_with (go_at_call 30; refine (awake5_any _).mono ?_; rintro e w2 ⟨rfl, E2⟩)
    go_ret
    exact ⟨rfl, E2.old⟩
  · rw [h] at h1
    rw [h'] at h2
    clear h h'
    go_enter Try.func12, Try.ntmps12
    go_wp2_with fail
    refine (h1 _).mono ?_
    rintro e w1 ⟨rfl, rfl⟩
    go_wp2_with fail
    refine (h2 _).mono ?_
    rintro e w2 ⟨rfl, rfl⟩
    go_wp2_with (go_at_call 30; refine (awake5_any _).mono ?_; rintro e w2 ⟨rfl, E2⟩)
    go_ret
    exact ⟨rfl, E2.old⟩
theorem product5_law (a b x0 x1 : Int) (w : World) (h0 : 0 ≤ x0 ∧ x0 ≤ 255) (h1 : 0 ≤ x1 ∧ x1 ≤ 255) :
    Calls Try.prog 12 #[.int .i64 a, .int .i64 b, .agg #[.int .u8 x0, .int .u8 x1]] w fun e w' => e = .returned (.bool true) ∧ Ext w w' := by
  obtain ⟨n0, rfl⟩ := Int.eq_ofNat_of_zero_le h0.1
  obtain ⟨n1, rfl⟩ := Int.eq_ofNat_of_zero_le h1.1
  cases ha : wordB a with
  | false => exact product_bad a b _ _ w (.inl ha)
  | true =>
    cases hb : wordB b with
    | false => exact product_bad a b _ _ w (.inr ⟨ha, hb⟩)
    | true => exact product_good a b n0 n1 w (wordB_bd ha) (wordB_bd hb) (by omega) (by omega)
end Go.Proofs.Ytjfggepgjpdebaa
