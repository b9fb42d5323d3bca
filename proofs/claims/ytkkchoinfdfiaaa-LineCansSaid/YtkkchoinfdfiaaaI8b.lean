/- Contract of layer 1's reference: Can. -/
import Derived.Test.YtkkchoinfdfiaaaN8
set_option linter.unusedVariables false
set_option linter.unusedSimpArgs false
namespace Go.Proofs.Ytkkchoinfdfiaaa
open Go.RowKit Go.Q Go.Shelf Go.Maps

theorem KB.same {W W' : World} {b B : Nat} {f : Nat → Bool} (h : KB W b f B) (e : W'.heap[b]? = W.heap[b]?) : KB W' b f B := by
  refine ⟨?_, fun i hi => ?_, fun i hi => ?_⟩
  · have h1 := h.lt
    rw [Array.getElem?_eq_getElem h1] at e
    exact (Array.getElem?_eq_some_iff.1 e).1
  · have := h.at_ i hi
    simp only [World.cell?] at this ⊢
    rw [e]; exact this
  · have := h.free i hi
    simp only [World.frozen?] at this ⊢
    rw [e]; exact this
theorem KB.made {W : World} {cs : Array Value} {T : TypeId} {f : Nat → Bool} {B : Nat} (h : ∀ i, i < B → cs[i]? = some (.bool (f i))) : KB (W.alloc (.cells cs T)) W.heap.size f B :=
  ⟨by simp, fun i hi => box_at (Ext.refl _) i (h i hi), fun i _ => box_free (Ext.refl _) i⟩
theorem KB.fresh {W : World} {T : TypeId} {B : Nat} : KB (W.alloc (.cells (Array.replicate B (.bool false)) T)) W.heap.size (fun _ => false) B :=
  KB.made fun i hi => by simp [hi]
theorem can_start (W : World) (B : Nat) (T T' : TypeId) :
    Ext W ((W.alloc (.cells #[.slice none 0 0, .bool false] T)).alloc (.cells ((Array.replicate B (.bool false)).setIfInBounds 0 (.bool true)) T')) ∧
    ((W.alloc (.cells #[.slice none 0 0, .bool false] T)).alloc (.cells ((Array.replicate B (.bool false)).setIfInBounds 0 (.bool true)) T')).heap[W.heap.size]? = some (.cells #[.slice none 0 0, .bool false] T (0, 0)) ∧
    KB ((W.alloc (.cells #[.slice none 0 0, .bool false] T)).alloc (.cells ((Array.replicate B (.bool false)).setIfInBounds 0 (.bool true)) T')) (W.heap.size + 1) (fun i => i == 0) B := by
  refine ⟨((Ext.refl W).alloc _).alloc _, ?_, ?_⟩
  · exact (((Ext.refl (W.alloc (.cells #[.slice none 0 0, .bool false] T))).alloc _).block _ (by simp)).trans (heap_alloc_new W _)
  · have := KB.made (W := W.alloc (.cells #[.slice none 0 0, .bool false] T)) (T := T') (B := B) (f := fun i => i == 0) (cs := (Array.replicate B (.bool false)).setIfInBounds 0 (.bool true)) (fun i hi => by
      by_cases e : i = 0
      · subst e; simp [hi]
      · rw [Array.getElem?_setIfInBounds_ne (by omega)]; simp [hi, e])
    rwa [World.size_alloc] at this
theorem blk_put {W : World} {b c : Nat} {ob : Obj} (h : W.heap[b]? = some ob) {o : Nat} {v : Value} (hc : b ≠ c) : (W.setCell ⟨c, o, none⟩ v).heap[b]? = some ob := (Below.heap_setCell _ _ _ _ hc).trans h
set_option maxRecDepth 100000 in
set_option maxHeartbeats 8000000 in
theorem rcan_main (l : Ln) (a2 : Option Addr) (n2 c2 : Nat) (ss : List Sp) (w : World) (l2 : ss.length = n2) (b2 : n2 ≤ 9223372036854775807) (i2 : SpansAt w a2 ss) (hy : canY l ss = 0) :
    Calls Try.prog 27 #[.agg #[.int .i64 l.words, .int .i64 l.bits, .int .i64 l.period, .int .i64 l.delay, .int .i64 l.slope, .int .i64 l.window], .slice a2 n2 c2] w (CanRes (canE l ss) w) := by
  obtain ⟨hX, ho, h60⟩ := canX_Z hy
  have hck := fun W => rcheck_any l W
  rw [checkL_of ho] at hck
  have hok := okL_ok ho
  have d1 : decide (60 < (n2 : Int)) = false := decide_eq_false (by omega)
  have hn2 : n2 ≤ 60 := by omega
  have HX := Lib.hid hX
  have HO := Lib.hid ho
  have HOK := Lib.hid hok
  have L2 := Lib.hid l2
  have I2 := Lib.hid i2
  clear hX ho hok hy h60 l2 i2
  go_enter Try.func27, Try.ntmps27
  go_wp2_with fail
  refine (hck _).mono ?_
  rintro e w1 ⟨rfl, E1⟩
  go_wp2_with fail
  have HE1 := Lib.hid E1
  have hEw : Ext w w1 := E1.old.old
  clear E1 hck
  go_loopw [6, 7] (fun s6 s7 wr => ∃ k : Nat, k ≤ n2 ∧ s7 = .int .i64 k ∧ s6 = .int .i64 (spansX (ss.take k)) ∧ Ext w1 wr) (fun _ s7 _ => n2 - (Go.RowKit.intOf s7).toNat)
  case atStart => exact ⟨0, Nat.zero_le _, rfl, rfl, Ext.refl _⟩
  case round =>
    obtain ⟨k, hk, rfl, rfl, EW⟩ := hrel
    have E2 := HE1.out.comp EW
    by_cases hz : spansX (ss.take k) = 0
    · by_cases hlt : k < n2
      · have hltz : (k : Int) < (n2 : Int) := by omega
        rcases I2.out with e | ⟨b, off, rfl, hb, hc⟩
        · have := L2.out
          rw [e] at this; simp at this; omega
        have hcc := hc k (by rw [L2.out]; exact hlt)
        have x0 := ((hEw.comp EW).cell (p := ⟨b, off + k * 2, none⟩) hb).trans hcc.1
        have x1 := ((hEw.comp EW).cell (p := ⟨b, off + k * 2 + 1, none⟩) hb).trans hcc.2
        obtain ⟨s, hs⟩ : ∃ s, ss[k]?.getD ⟨0, 0⟩ = s := ⟨_, rfl⟩
        rw [hs] at x0 x1
        have hod := fun W => rspan_any s.lo s.hi W
        rw [show (⟨s.lo, s.hi⟩ : Sp) = s from rfl] at hod
        have HF := Lib.hid (show spansX (ss.take (k + 1)) = spanX s by rw [spansX_take (by rw [L2.out]; exact hlt) hz, hs])
        rw [hz]
        clear hcc hc hs hz
        go_wp2_with fail
        refine (hod _).mono ?_
        rintro e w5 ⟨rfl, E5⟩
        go_wp2
        go_roundw
        case rel => exact ⟨k + 1, by omega, by go_num, by rw [HF.out], EW.comp E5⟩
        case measure => simp [Go.RowKit.intOf]; omega
      · have hltz : ¬ (k : Int) < (n2 : Int) := by omega
        rw [hz]
        obtain rfl : k = n2 := by omega
        have hspz : spansX ss = 0 := by
          rw [show ss.take k = ss from List.take_of_length_le (by rw [L2.out]; exact Nat.le_refl _)] at hz
          exact hz
        have hsp := spansX_all ss hspz
        have HSP := Lib.hid hsp
        have HEE := Lib.hid (show canE l ss = (shiftsC l ss, ss.any (lostC l), 0) by unfold canE; rw [HX.out, if_pos hspz])
        have hB := HOK.out.beats
        obtain ⟨B, hBe⟩ : ∃ B : Nat, beatsL l = B := Int.eq_ofNat_of_zero_le (by omega)
        rw [hBe] at hB
        obtain ⟨hB0, hB1⟩ := hB
        have hwB : l.words * l.bits = (B : Int) := hBe
        have w1 : IntKind.i64.wrap (l.words * l.bits) = B := by rw [hwB]; exact IntWalk.i64_in _ (by omega)
        have hmk : ∀ W, (Instr.makeSlice 83 (.int .i64 B) (.int .i64 B)).run Try.prog W = .ok (.slice (some ⟨W.heap.size, 0, none⟩) B B) (W.alloc (.cells (Array.replicate B (.bool false)) 4)) := fun W => makeB W B (by omega)
        have hmc := fun W => (madeB_cell W (n := B) (i := 0) (by omega)).1
        have hmf := fun W => (madeB_cell W (n := B) (i := 0) (by omega)).2
        have hmc2 := fun W o => (madeB_cell2 W o (n := B) (i := 0) (by omega)).1
        have hmf2 := fun W o => (madeB_cell2 W o (n := B) (i := 0) (by omega)).2
        have HBE := Lib.hid hBe
        have hB0z : (0 : Int) < (B : Int) := by omega
        have c0 := box_at (v := .int .i64 l.words) E2.old 0 rfl
        have c1 := box_at (v := .int .i64 l.bits) E2.old 1 rfl
        have c2 := box_at (v := .int .i64 l.period) E2.old 2 rfl
        have c3 := box_at (v := .int .i64 l.delay) E2.old 3 rfl
        have c4 := box_at (v := .int .i64 l.slope) E2.old 4 rfl
        have c5 := box_at (v := .int .i64 l.window) E2.old 5 rfl
        clear hspz hsp hz hBe hwB
        go_wp2_with fail
        obtain ⟨S1, S2, S3⟩ := can_start wr B 34 4
        generalize (wr.alloc (.cells #[.slice none 0 0, .bool false] 34)).alloc (.cells ((Array.replicate B (.bool false)).setIfInBounds 0 (.bool true)) 4) = W0 at *
        obtain ⟨wA, rfl⟩ : ∃ wA : World, wA = wr := ⟨_, rfl⟩
        obtain ⟨bo, hbo⟩ : ∃ bo, wA.heap.size = bo := ⟨_, rfl⟩
        rw [hbo] at S2 S3 ⊢
        have hEA := hEw.comp EW
        have HBO := Lib.hid hbo
        have HWB := Lib.hid w1
        have HI2 := Lib.hid I2.out
        clear hbo hmc hmf hmc2 hmf2 c0 c1 c2 c3 c4 c5 w1
        go_loopw [10, 11] (fun s10 s11 X => ∃ (j cb : Nat), j ≤ k ∧ s11 = .int .i64 j ∧ s10 = .slice (some ⟨cb, 0, none⟩) B B ∧ KB X cb (fun i => canC l (ss.take j) i) B ∧ X.heap[bo]? = some (.cells #[.slice none 0 0, .bool ((ss.take j).any (lostC l))] 34 (0, 0)) ∧ bo < cb ∧ Ext wA X) (fun _ s11 _ => k - (Go.RowKit.intOf s11).toNat)
        case atStart => exact ⟨0, bo + 1, Nat.zero_le _, rfl, rfl, S3.congr (fun i hi => by show (i == 0) = ((i : Int) == 0); rw [Bool.eq_iff_iff, beq_iff_eq, beq_iff_eq]; omega), S2, Nat.lt_succ_self _, S1⟩
        case round =>
          clear S1 S2 S3
          obtain ⟨j, cb, hj, rfl, rfl, KC, BO, hbc, EX⟩ := hrel
          obtain ⟨X, rfl⟩ : ∃ X : World, X = wr := ⟨_, rfl⟩
          by_cases hlt2 : j < k
          · have hltz2 : (j : Int) < (k : Int) := by omega
            rcases HI2.out with e | ⟨b, off, rfl, hb, hc⟩
            · exfalso
              have := L2.out
              rw [e] at this; simp at this; omega
            have hcc := hc j (by rw [L2.out]; exact hlt2)
            obtain ⟨s, hs⟩ : ∃ s, ss[j]?.getD ⟨0, 0⟩ = s := ⟨_, rfl⟩
            rw [hs] at hcc
            have HX1 := Lib.hid (fun W (E : Ext w W) => (E.cell (p := ⟨b, off + j * 2 + 1, none⟩) hb).trans hcc.2)
            have x0 := fun ob => (((hEA.comp EX).alloc ob).cell (p := ⟨b, off + j * 2, none⟩) hb).trans hcc.1
            have hsx : spanX s = 0 := HSP.out s (by rw [← hs, List.getElem?_eq_getElem (by rw [L2.out]; exact hlt2)]; exact List.getElem_mem _)
            obtain ⟨t0, t1, t2⟩ := spanX_bd hsx
            have HT := Lib.hid (show ss.take (j + 1) = ss.take j ++ [s] from take_snoc (by rw [L2.out]; exact hlt2) ⟨0, 0⟩ hs)
            clear hs hcc hc hsx
            go_wp2_with fail
            have hX1 : Ext X (X.alloc (.cells (Array.replicate B (.bool false)) 4)) := (Ext.refl X).alloc _
            have K1 := KB.fresh (W := X) (T := 4) (B := B)
            replace BO := (hX1.block _ (Array.getElem?_eq_some_iff.1 BO).1).trans BO
            have hcb1 : cb < X.heap.size := KC.lt
            replace KC := KC.ext hX1
            replace EX := EX.comp hX1
            obtain ⟨b1, hb1⟩ : ∃ b1, X.heap.size = b1 := ⟨_, rfl⟩
            rw [hb1] at hcb1 K1 ⊢
            generalize X.alloc (.cells (Array.replicate B (.bool false)) 4) = Y0 at *
            clear hX1 hb1 x0
            go_loopw [13] (fun s13 Y => ∃ m : Nat, m ≤ (s.hi - s.lo + 1).toNat ∧ s13 = .int .i64 (s.lo + m) ∧ KB Y b1 (fun i => oneT l s m i) B ∧ KB Y cb (fun i => canC l (ss.take j) i) B ∧ Y.heap[bo]? = some (.cells #[.slice none 0 0, .bool ((ss.take j).any (lostC l) || lostT l s m)] 34 (0, 0)) ∧ Ext wA Y) (fun s13 _ => (s.hi + 1 - Go.RowKit.intOf s13).toNat)
            case atStart => exact ⟨0, Nat.zero_le _, by congr 1; omega, K1, KC, by rw [lostT_zero, Bool.or_false]; exact BO, EX⟩
            case round =>
              clear K1 KC BO EX
              obtain ⟨m, hm, rfl, K1, KC, BO, EY⟩ := hrel
              obtain ⟨Y, rfl⟩ : ∃ Y : World, Y = wr := ⟨_, rfl⟩
              have x1 := HX1.out Y (hEA.comp EY)
              have E2Y := E2.comp EY
              have c0 := box_at (v := .int .i64 l.words) E2Y.old 0 rfl
              have c1 := box_at (v := .int .i64 l.bits) E2Y.old 1 rfl
              have c2 := box_at (v := .int .i64 l.period) E2Y.old 2 rfl
              have c3 := box_at (v := .int .i64 l.delay) E2Y.old 3 rfl
              have c4 := box_at (v := .int .i64 l.slope) E2Y.old 4 rfl
              have c5 := box_at (v := .int .i64 l.window) E2Y.old 5 rfl
              by_cases hmt : s.lo + (m : Int) ≤ s.hi
              · have ho1 := oneT_succ l s m
                have ho2 := lostT_succ l s m
                obtain ⟨t, ht⟩ : ∃ t, s.lo + (m : Int) = t := ⟨_, rfl⟩
                rw [ht] at ho1 ho2 hmt ⊢
                have htl : s.lo ≤ t := by omega
                have htb : tempB t = true := by unfold tempB inB; simp; omega
                have hsb := shiftV_bd HOK.out htb
                have hsh := fun W => rshift_any l t W HOK.out (by omega)
                have HO1 := Lib.hid ho1
                have HO2 := Lib.hid ho2
                have HTE := Lib.hid (show s.lo + ((m + 1 : Nat) : Int) = t + 1 by omega)
                have hml : m + 1 ≤ (s.hi - s.lo + 1).toNat := by omega
                have hme : ((s.hi + 1 - (t + 1)).toNat < (s.hi + 1 - t).toNat) := by omega
                clear ho1 ho2 ht htb
                cases hlo : lostL l t with
                | true =>
                  have e1 : shiftV l t = (0, true) := by unfold shiftV; rw [hlo]; rfl
                  rw [e1] at hsh
                  dsimp only [Bool.not_true] at hsh
                  have HL := Lib.hid hlo
                  clear hlo e1 hsb
                  go_wp2_with fail
                  refine (hsh _).mono ?_
                  rintro e w5 ⟨rfl, E5⟩
                  replace BO := (E5.block _ (Array.getElem?_eq_some_iff.1 BO).1).trans BO
                  replace K1 := K1.ext E5
                  replace KC := KC.ext E5
                  replace EY := EY.comp E5
                  have u1 := blk_cell BO 1 (v := .bool ((ss.take j).any (lostC l) || lostT l s m)) rfl
                  have f1 := blk_free BO 1
                  clear hsh E5 c0 c1 c2 c3 c4 c5 x1 E2Y
                  go_wp2
                  clear u1 f1
                  replace K1 := K1.other (p := ⟨bo, 1, none⟩) (v := .bool true) (by show bo ≠ b1; omega)
                  replace KC := KC.other (p := ⟨bo, 1, none⟩) (v := .bool true) (by show bo ≠ cb; omega)
                  replace BO := heap_setCell_same w5 bo 1 _ _ (.bool true) BO
                  replace EY := EY.setCell (p := ⟨bo, 1, none⟩) (by show wA.heap.size ≤ bo; rw [HBO.out]; exact Nat.le_refl _) (.bool true)
                  go_roundw
                  case rel =>
                    refine ⟨m + 1, hml, by rw [HTE.out], K1.congr (fun i hi => ?_), KC, ?_, EY⟩
                    · rw [HO1.out, HL.out]; simp
                    · rw [HO2.out, HL.out, Bool.or_true, Bool.or_true]; simpa using BO
                  case measure => simp only [Go.RowKit.intOf]; exact hme
                | false =>
                  have e1 : shiftV l t = (byL l t, false) := by unfold shiftV; rw [hlo]; rfl
                  rw [e1] at hsh hsb
                  dsimp only [Bool.not_false] at hsh hsb
                  have HL := Lib.hid hlo
                  obtain ⟨g, hg⟩ : ∃ g, byL l t = g := ⟨_, rfl⟩
                  have htu := HOK.out.turn g
                  rw [HBE.out] at htu
                  obtain ⟨r, hr⟩ : ∃ r : Nat, turnL l g = r := Int.eq_ofNat_of_zero_le htu.1
                  have hrB : r < B := by omega
                  have htm := turn_of_tmod (a := g) (b := (B : Int)) (by omega)
                  have hru : g % (B : Int) = r := by rw [← hr]; unfold turnL; rw [HBE.out]
                  rw [hru] at htm
                  have q1 := Int.lt_tmod_of_pos g (show (0 : Int) < B by omega)
                  have q2 := Int.tmod_lt_of_pos g (show (0 : Int) < B by omega)
                  have htm2 : (g.tmod (B : Int) + B) % (B : Int) = r := by rw [← Int.tmod_eq_emod_of_nonneg (by omega)]; exact htm
                  have HGR := Lib.hid (show turnL l (byL l t) = r by rw [hg, hr])
                  rw [hg] at hsh hsb
                  have hne : ((B : Int) == 0) = false := by simp; omega
                  obtain ⟨hsb0, hsb1⟩ := hsb
                  have hrz : (0 : Int) ≤ (r : Int) ∧ (r : Int) < (B : Int) := by omega
                  obtain ⟨hrz0, hrz1⟩ := hrz
                  clear hlo e1 hg htu hr hru
                  go_wp2_with fail
                  refine (hsh _).mono ?_
                  rintro e w5 ⟨rfl, E5⟩
                  replace BO := (E5.block _ (Array.getElem?_eq_some_iff.1 BO).1).trans BO
                  replace K1 := K1.ext E5
                  replace KC := KC.ext E5
                  replace EY := EY.comp E5
                  have u1 := K1.at_ r hrB
                  have f1 := K1.free r hrB
                  clear hsh E5 c0 c1 c2 c3 c4 c5 x1 E2Y
                  go_wp2
                  clear u1 f1
                  replace K1 := K1.put (v := true) hrB
                  replace KC := KC.other (p := ⟨b1, r, none⟩) (v := .bool true) (by show b1 ≠ cb; omega)
                  replace BO := blk_put BO (c := b1) (o := r) (v := .bool true) (by omega)
                  replace EY : Ext wA (w5.setCell ⟨b1, r, none⟩ (.bool true)) := EY.setCell (p := ⟨b1, r, none⟩) (by show wA.heap.size ≤ b1; rw [HBO.out]; omega) (.bool true)
                  go_roundw
                  case rel =>
                    refine ⟨m + 1, hml, by rw [HTE.out], K1.congr (fun i hi => ?_), KC, ?_, EY⟩
                    · rw [HO1.out, HL.out, HGR.out]
                      by_cases e : i = r
                      · rw [if_pos e, e]; simp
                      · rw [if_neg e, show ((r : Int) == (i : Int)) = false by simp; omega]; simp
                    · rw [HO2.out, HL.out, Bool.or_false]; exact BO
                  case measure => simp only [Go.RowKit.intOf]; exact hme
              · have hmM : m = (s.hi - s.lo + 1).toNat := by omega
                rw [hmM] at BO
                rw [lostT_all] at BO
                replace K1 : KB Y b1 (fun i => oneC l s i) B := K1.congr (fun i hi => by rw [hmM, oneT_all])
                have HLO := Lib.hid (show (ss.take (j + 1)).any (lostC l) = ((ss.take j).any (lostC l) || lostC l s) by rw [HT.out, anyL_snoc])
                rw [← HLO.out] at BO
                have HCN := Lib.hid (show canC l (ss.take (j + 1)) = nextC l s (canC l (ss.take j)) by rw [HT.out, canC_snoc])
                obtain ⟨LL, hLL⟩ : ∃ LL, (ss.take (j + 1)).any (lostC l) = LL := ⟨_, rfl⟩
                rw [hLL] at BO
                have HLL := Lib.hid hLL
                obtain ⟨can, hcan⟩ : ∃ can, canC l (ss.take j) = can := ⟨_, rfl⟩
                obtain ⟨one, hone⟩ : ∃ one, oneC l s = one := ⟨_, rfl⟩
                rw [hcan] at KC HCN
                rw [hone] at K1
                have HNX := Lib.hid (show ∀ x, nextT can one B B x = canC l (ss.take (j + 1)) x by
                  intro x
                  have := nextT_all l s can x
                  rw [HBE.out, hone, Int.toNat_natCast] at this
                  rw [this, HCN.out])
                clear hLL hcan hone HLO HCN hmM c0 c1 c2 c3 c4 c5 E2Y HT HX1 hm t0 t1 t2 hb
                go_wp2_with fail
                have hY1 : Ext Y (Y.alloc (.cells (Array.replicate B (.bool false)) 4)) := (Ext.refl Y).alloc _
                have KN := KB.fresh (W := Y) (T := 4) (B := B)
                replace BO := (hY1.block _ (Array.getElem?_eq_some_iff.1 BO).1).trans BO
                have hb12 : b1 < Y.heap.size := K1.lt
                replace KC := KC.ext hY1
                replace K1 := K1.ext hY1
                replace EY := EY.comp hY1
                obtain ⟨bn, hbn⟩ : ∃ bn, Y.heap.size = bn := ⟨_, rfl⟩
                rw [hbn] at hb12 KN ⊢
                generalize Y.alloc (.cells (Array.replicate B (.bool false)) 4) = Z0 at *
                clear hY1 hbn x1
                go_loopw [17] (fun s17 Z => ∃ n : Nat, n ≤ B ∧ s17 = .int .i64 n ∧ KB Z bn (fun i => nextT can one B n i) B ∧ KB Z b1 (fun i => one i) B ∧ KB Z cb (fun i => can i) B ∧ Z.heap[bo]? = some (.cells #[.slice none 0 0, .bool LL] 34 (0, 0)) ∧ Ext wA Z) (fun s17 _ => B - (Go.RowKit.intOf s17).toNat)
                case atStart => exact ⟨0, Nat.zero_le _, rfl, KN, K1, KC, BO, EY⟩
                case round =>
                  clear K1 KC KN BO EY
                  obtain ⟨n, hn, rfl, KN, K1, KC, BO, EZ⟩ := hrel
                  obtain ⟨Z, rfl⟩ : ∃ Z : World, Z = wr := ⟨_, rfl⟩
                  by_cases hnB : n < B
                  · have hnz : (n : Int) < (B : Int) := by omega
                    go_wp2_with fail
                    go_loopw [18] (fun s18 Q => ∃ m : Nat, m ≤ B ∧ s18 = .int .i64 m ∧ KB Q bn (fun i => nextT can one B n i || rowT can one B n m i) B ∧ KB Q b1 (fun i => one i) B ∧ KB Q cb (fun i => can i) B ∧ Q.heap[bo]? = some (.cells #[.slice none 0 0, .bool LL] 34 (0, 0)) ∧ Ext wA Q) (fun s18 _ => B - (Go.RowKit.intOf s18).toNat)
                    case atStart => exact ⟨0, Nat.zero_le _, rfl, KN.congr (fun i hi => by rw [rowT_zero, Bool.or_false]), K1, KC, BO, EZ⟩
                    case round =>
                      clear K1 KC KN BO EZ
                      obtain ⟨m, hm, rfl, KN, K1, KC, BO, EQ⟩ := hrel
                      obtain ⟨Q, rfl⟩ : ∃ Q : World, Q = wr := ⟨_, rfl⟩
                      by_cases hmB : m < B
                      · have hmz : (m : Int) < (B : Int) := by omega
                        have v1 := KC.at_ n hnB
                        cases hcn : can n with
                        | true =>
                          rw [hcn] at v1
                          have v2 := K1.at_ m hmB
                          have HRW := Lib.hid (fun x => rowT_succ (can := can) (one := one) (B := (B : Int)) (n := n) (m := m) (x := x) hcn)
                          clear hcn
                          cases hom : one m with
                          | true =>
                            rw [hom] at v2
                            have HOM := Lib.hid hom
                            obtain ⟨r, hr⟩ : ∃ r : Nat, ((n : Int) + (m : Int)) % (B : Int) = r := Int.eq_ofNat_of_zero_le (Int.emod_nonneg _ (by omega))
                            have hrB : r < B := by have := Int.emod_lt_of_pos ((n : Int) + (m : Int)) (show (0 : Int) < B by omega); omega
                            have u1 := KN.at_ r hrB
                            have f1 := KN.free r hrB
                            have HR := Lib.hid hr
                            have hrz : (0 : Int) ≤ (r : Int) ∧ (r : Int) < (B : Int) := by omega
                            obtain ⟨hrz0, hrz1⟩ := hrz
                            have hne : ((B : Int) == 0) = false := by simp; omega
                            clear hom
                            go_wp2
                            clear u1 f1
                            replace KN := KN.put (v := true) hrB
                            replace K1 := K1.other (p := ⟨bn, r, none⟩) (v := .bool true) (by show bn ≠ b1; omega)
                            replace KC := KC.other (p := ⟨bn, r, none⟩) (v := .bool true) (by show bn ≠ cb; omega)
                            replace BO := blk_put BO (c := bn) (o := r) (v := .bool true) (by omega)
                            replace EQ : Ext wA (Q.setCell ⟨bn, r, none⟩ (.bool true)) := EQ.setCell (p := ⟨bn, r, none⟩) (by show wA.heap.size ≤ bn; rw [HBO.out]; omega) (.bool true)
                            go_roundw
                            case rel =>
                              refine ⟨m + 1, by omega, by go_num, KN.congr (fun i hi => ?_), K1, KC, BO, EQ⟩
                              rw [HRW.out, HOM.out, HR.out]
                              by_cases e : i = r
                              · rw [if_pos e, e]; simp
                              · rw [if_neg e, show ((r : Int) == (i : Int)) = false by simp; omega]; simp
                            case measure => simp [Go.RowKit.intOf]; omega
                          | false =>
                            rw [hom] at v2
                            have HOM := Lib.hid hom
                            clear hom
                            go_wp2
                            go_roundw
                            case rel => exact ⟨m + 1, by omega, by go_num, KN.congr (fun i hi => by rw [HRW.out, HOM.out]; simp), K1, KC, BO, EQ⟩
                            case measure => simp [Go.RowKit.intOf]; omega
                        | false =>
                          rw [hcn] at v1
                          have HRW := Lib.hid (fun x m' => rowT_no (can := can) (one := one) (B := (B : Int)) (n := n) (m := m') (x := x) hcn)
                          clear hcn
                          go_wp2
                          go_roundw
                          case rel => exact ⟨n + 1, by omega, by go_num, KN.congr (fun i hi => by rw [nextT_succ, HRW.out, HRW.out]), K1, KC, BO, EQ⟩
                          case measure => simp [Go.RowKit.intOf]; omega
                      · have hmz : ¬ (m : Int) < (B : Int) := by omega
                        obtain rfl : m = B := by omega
                        go_wp2
                        go_roundw
                        case rel => exact ⟨n + 1, by omega, by go_num, KN.congr (fun i hi => by rw [nextT_succ, Int.toNat_natCast]), K1, KC, BO, EQ⟩
                        case measure => simp [Go.RowKit.intOf]; omega
                  · have hnz : ¬ (n : Int) < (B : Int) := by omega
                    obtain rfl : n = B := by omega
                    go_wp2
                    go_roundw
                    case rel => exact ⟨j + 1, bn, by omega, by go_num, rfl, KN.congr (fun i hi => HNX.out _), by rw [HLL.out]; exact BO, by omega, EZ⟩
                    case measure => simp [Go.RowKit.intOf]; omega
          · have hltz2 : ¬ (j : Int) < (k : Int) := by omega
            obtain rfl : j = k := by omega
            rw [show ss.take j = ss from List.take_of_length_le (by rw [L2.out]; exact Nat.le_refl _)] at KC BO
            obtain ⟨p, hp⟩ : ∃ p, canC l ss = p := ⟨_, rfl⟩
            obtain ⟨LL, hLL⟩ : ∃ LL, ss.any (lostC l) = LL := ⟨_, rfl⟩
            rw [hp] at KC
            rw [hLL] at BO
            have HPP := Lib.hid (show pickT p B = shiftsC l ss by rw [← pickT_all, hp, HBE.out, Int.toNat_natCast])
            have HLL := Lib.hid hLL
            have hcX : cb < X.heap.size := KC.lt
            obtain ⟨nb, hnb⟩ : ∃ nb, X.heap.size = nb := ⟨_, rfl⟩
            rw [hnb] at hcX
            have hnX : nb ≤ X.heap.size := by omega
            obtain ⟨i0, hi, hz0, hz1, hz2⟩ := info_parts Try.infoE
            clear hp hLL hnb hmk
            go_wp2_with fail
            go_loopw [19] (fun s19 Q => ∃ (n : Nat) (sv : Value), n ≤ B ∧ s19 = .int .i64 n ∧ KB Q cb (fun i => p i) B ∧ Q.heap[bo]? = some (.cells #[sv, .bool LL] 34 (0, 0)) ∧ Q.ownsRow nb 3 1 sv (pickT p n).length (iv (pickT p n)) ∧ nb ≤ Q.heap.size ∧ Ext wA Q) (fun s19 _ => B - (Go.RowKit.intOf s19).toNat)
            case atStart => exact ⟨0, _, Nat.zero_le _, rfl, KC, BO, World.ownsRow_nil _ _ _ _, hnX, EX⟩
            case round =>
              clear KC BO hnX EX
              obtain ⟨n, sv, hn, rfl, KC, BO, hown, hnQ, EQ⟩ := hrel
              obtain ⟨Q, rfl⟩ : ∃ Q : World, Q = wr := ⟨_, rfl⟩
              have hpl := pickT_length p n
              by_cases hnB : n < B
              · have hnz : (n : Int) < (B : Int) := by omega
                have v1 := KC.at_ n hnB
                have HPS := Lib.hid (pickT_succ p n)
                cases hpn : p n with
                | true =>
                  rw [hpn] at v1
                  have HPN := Lib.hid hpn
                  clear hpn
                  have v1a := fun ob => (((Ext.refl Q).alloc ob).cell (p := ⟨cb, n, none⟩) KC.lt).trans v1
                  have a0 := fun ob => (((Ext.refl Q).alloc ob).cell (p := ⟨bo, 0, none⟩) (Array.getElem?_eq_some_iff.1 BO).1).trans (blk_cell BO 0 (v := sv) rfl)
                  have a1 := blk_cell BO 0 (v := sv) rfl
                  have hbk : ∀ (o : Obj) (V : World), (Q.alloc o).grownBy V sv.ownBlock → V.heap[bo]? = some (.cells #[sv, .bool LL] 34 (0, 0)) := fun o V g =>
                    (g.block _ (by have := (Array.getElem?_eq_some_iff.1 BO).1; simp; omega) (fun e => by have := (hown.lt _ e.symm).1; omega)).trans ((((Ext.refl Q).alloc o).block _ (Array.getElem?_eq_some_iff.1 BO).1).trans BO)
                  have HBK := Lib.hid hbk
                  have HBX := Lib.hid BO
                  have HKC := Lib.hid KC
                  clear hbk BO KC
                  go_wp2_with (at_builtin; refine wpList_append_own _ rfl _ _ 26 rfl nb 3 i0 (.int .i64 0) 1 8 Try.underlying26 hi hz0 hz1 hz2 rfl (by decide) _ _ _ rfl (hown.alloc _) ⟨Q.heap.size, 0, none⟩ 1 1 [.int .i64 n] rfl rfl (cell_one_new _ _ _) (by simp [Value.oneCell']) (by unfold maxLen; omega) (by omega) (by simp; omega) ?_; intro sv' w10 hown' hgrow hnil; obtain ⟨g', cap', rfl⟩ := ownsRow_succ hown'; have fr0 := blk_free (HBK.out _ _ hgrow) 0; have cr0 := blk_cell (HBK.out _ _ hgrow) 0 (v := sv) rfl)
                  have KC0 := KB.ext HKC.out ((Ext.refl Q).alloc (.cells #[.int .i64 n] 3))
                  have KC1 : KB w10 cb (fun i => p i) B := KB.same KC0 (hgrow.block _ KC0.lt (fun e => by have := (hown.lt _ e.symm).1; omega))
                  have KC2 := KC1.other (p := ⟨bo, 0, none⟩) (v := .slice (some ⟨g', 0, none⟩) ((pickT p n).length + 1) cap') (by show bo ≠ cb; omega)
                  have b2 : (w10.setCell ⟨bo, 0, none⟩ (.slice (some ⟨g', 0, none⟩) ((pickT p n).length + 1) cap')).heap[bo]? = some (.cells #[.slice (some ⟨g', 0, none⟩) ((pickT p n).length + 1) cap', .bool LL] 34 (0, 0)) := heap_setCell_same w10 bo 0 _ _ _ (HBK.out _ _ hgrow)
                  have hpn1 : pickT p (n + 1) = pickT p n ++ [(n : Int)] := by rw [HPS.out, HPN.out, if_pos rfl]
                  have hlen1 : (pickT p (n + 1)).length = (pickT p n).length + 1 := by rw [hpn1, List.length_append, List.length_singleton]
                  have o2 : (w10.setCell ⟨bo, 0, none⟩ (.slice (some ⟨g', 0, none⟩) ((pickT p n).length + 1) cap')).ownsRow nb 3 1 (.slice (some ⟨g', 0, none⟩) ((pickT p n).length + 1) cap') (pickT p (n + 1)).length (iv (pickT p (n + 1))) := by
                    rw [hlen1, hpn1, ← iv_app]
                    refine World.ownsRow.kept hown' (grownBy_setCell' w10 bo _) (.inr (fun e => ?_))
                    have := (hown'.lt _ e).1
                    omega
                  have e2 : Ext wA (w10.setCell ⟨bo, 0, none⟩ (.slice (some ⟨g', 0, none⟩) ((pickT p n).length + 1) cap')) := ((EQ.alloc _).grown hgrow (Nat.le_trans EQ.size (by simp)) (fun q e => by have := (hown.lt q e).1; have := HBO.out; omega)).setCell (p := ⟨bo, 0, none⟩) (by show wA.heap.size ≤ bo; rw [HBO.out]; exact Nat.le_refl _) _
                  have s2 : nb ≤ (w10.setCell ⟨bo, 0, none⟩ (.slice (some ⟨g', 0, none⟩) ((pickT p n).length + 1) cap')).heap.size := by
                    have h1 := hgrow.size
                    simp at h1 ⊢
                    omega
                  go_roundw
                  case rel => exact ⟨n + 1, _, by omega, by go_num, KC2, b2, o2, s2, e2⟩
                  case measure => simp [Go.RowKit.intOf]; omega
                | false =>
                  rw [hpn] at v1
                  have HPN := Lib.hid hpn
                  clear hpn
                  go_wp2
                  go_roundw
                  case rel => exact ⟨n + 1, sv, by omega, by go_num, KC, BO, by rw [HPS.out, HPN.out, if_neg (by simp), List.append_nil]; exact hown, hnQ, EQ⟩
                  case measure => simp [Go.RowKit.intOf]; omega
              · have hnz : ¬ (n : Int) < (B : Int) := by omega
                obtain rfl : n = B := by omega
                have E2Q := E2.comp EQ
                have z0 := box_at2 (v := .slice none 0 0) E2Q 0 rfl
                have z1 := box_at2 (v := .bool false) E2Q 1 rfl
                have f0 := box_free2 E2Q 0
                have f1 := box_free2 E2Q 1
                rw [HPP.out] at hown
                obtain ⟨av, cv, rfl⟩ := own_form hown
                have y0 := blk_cell BO 0 (v := .slice av (shiftsC l ss).length cv) rfl
                have y1 := blk_cell BO 1 (v := .bool LL) rfl
                have hEQ := hEA.comp EQ
                have hbo2 : w.heap.size + 1 < bo := by
                  have := HE1.out.size
                  have h2 := EW.size
                  have h3 := HBO.out
                  simp at this
                  omega
                clear hpl KC BO E2Q
                go_wp2
                refine bodyPost_ret (v := .tuple #[.agg #[.slice av (shiftsC l ss).length cv, .bool LL], .int .i64 0]) (by simp [results, Try.results27, go_sem, z0, z1, f0, f1]) rfl ?_
                rw [HEE.out, HLL.out]
                exact can_fin hown hEQ (Nat.le_succ _) (by omega)
    · obtain ⟨y, hyy⟩ : ∃ y, spansX (ss.take k) = y := ⟨_, rfl⟩
      have HE := Lib.hid (show canE l ss = ([], false, y) by
        have h1 := spansX_more hz
        rw [hyy] at h1
        rw [hyy] at hz
        unfold canE
        rw [HX.out, h1, if_neg hz])
      rw [hyy] at hz ⊢
      have hzb : (y == 0) = false := by simpa using hz
      have hzb2 : (y != 0) = true := by simpa using hz
      have z0 := box_at2 (v := .slice none 0 0) E2 0 rfl
      have z1 := box_at2 (v := .bool false) E2 1 rfl
      have f0 := box_free2 E2 0
      have f1 := box_free2 E2 1
      clear hz hyy
      by_cases hlt : k < n2
      · have hltz : (k : Int) < (n2 : Int) := by omega
        go_wp2
        refine bodyPost_ret (v := .tuple #[.agg #[.slice none 0 0, .bool false], .int .i64 y]) (by simp [results, Try.results27, go_sem, z0, z1, f0, f1]) rfl (by rw [HE.out]; refine can_err ?_; exact ((hEw.comp EW).setCell (p := ⟨w.heap.size + 1, 0, none⟩) (Nat.le_succ _) _).setCell (p := ⟨w.heap.size + 1, 1, none⟩) (Nat.le_succ _) _)
      · have hltz : ¬ (k : Int) < (n2 : Int) := by omega
        go_wp2
        refine bodyPost_ret (v := .tuple #[.agg #[.slice none 0 0, .bool false], .int .i64 y]) (by simp [results, Try.results27, go_sem, z0, z1, f0, f1]) rfl (by rw [HE.out]; refine can_err ?_; exact ((hEw.comp EW).setCell (p := ⟨w.heap.size + 1, 0, none⟩) (Nat.le_succ _) _).setCell (p := ⟨w.heap.size + 1, 1, none⟩) (Nat.le_succ _) _)
theorem rcan_any (l : Ln) (a2 : Option Addr) (n2 c2 : Nat) (ss : List Sp) (w : World) (l2 : ss.length = n2) (b2 : n2 ≤ 9223372036854775807) (i2 : SpansAt w a2 ss) :
    Calls Try.prog 27 #[.agg #[.int .i64 l.words, .int .i64 l.bits, .int .i64 l.period, .int .i64 l.delay, .int .i64 l.slope, .int .i64 l.window], .slice a2 n2 c2] w (CanRes (canE l ss) w) := by
  by_cases hy : canY l ss = 0
  · exact rcan_main l a2 n2 c2 ss w l2 b2 i2 hy
  · exact rcan_early l a2 n2 c2 ss w l2 b2 hy
end Go.Proofs.Ytkkchoinfdfiaaa
