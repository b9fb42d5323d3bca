import Derived.Test.YtnhpcoagkmgdoaaGreatX23
import Derived.Test.YtnhpcoagkmgdoaaGreatX19
import Derived.Test.YtnhpcoagkmgdoaaGreatX21
import Derived.Test.YtnhpcoagkmgdoaaGreatX22
set_option linter.unusedVariables false
set_option linter.unusedSimpArgs false
/- Layer 10: the program's open. -/
namespace Go.Proofs.YtnhpcoagkmgdoaaGreat
open Go.RowKit Go.Q Go.Shelf Go.Maps
set_option maxHeartbeats 4000000
set_option maxRecDepth 100000
theorem Tryz.infoL : (Tryz.prog.info? 91).map (fun i => (i.zero, i.size, i.bytes)) = some (some (.agg #[.int .i64 0, .int .i64 0, .int .i64 0]), 3, 24) := by kernel_rfl
theorem lv_one (y : Loss) : ∀ u ∈ lv y, u.oneCell' = true := by
 intro u hu
 simp [lv] at hu
 rcases hu with rfl | rfl | rfl <;> rfl
theorem open_chk (v : Value) (s : St) (la : Option Addr) (ln lc : Nat) (most : Int) (w : World) (h : StAt w v s) (hb : StBd s) (he : (checkQ s).2.2 ≠ 0) :
  Calls Tryz.prog 20 #[v, .slice la ln lc, .int .i64 most] w fun e w' => e = .returned (.tuple #[.pointer none, .int .i64 (checkQ s).2.2]) ∧ Ext w w' := by
 obtain ⟨a1, a2, a3, c1, c2, c3, rfl, i1, i2, i3⟩ := h
 have hs : StAt w (sv a1 a2 a3 s.store.length c1 s.tape.length c2 s.printed.length c3 s.taken s.time s.at_ s.done s.why) s := ⟨a1, a2, a3, c1, c2, c3, rfl, i1, i2, i3⟩
 have hc := fun W (E : Ext w W) => check_any _ s W (hs.ext E) hb
 rcases hcq : checkQ s with ⟨p, i, e⟩
 rw [hcq] at hc he
 dsimp only at he ⊢
 have hz' : (e != 0) = true := by simpa using he
 clear hcq he hs i1 i2 i3 hb
 go_enter Tryz.func20, Tryz.ntmps20
 go_wp2_with fail
 refine ((hc _ ((Ext.refl w).alloc _))).mono ?_
 rintro e w1 ⟨rfl, E1⟩
 unfold v3
 go_wp2
 go_ret2
 exact ⟨rfl, E1.old⟩
/-- what open hands back -/
def OpenL (s : St) (L : List Loss) (most : Int) (w : World) (e : Ending) (w' : World) : Prop :=
 (guardX s L most = 0 ∧ ∃ m mb, e = .returned (.tuple #[.pointer (some ⟨m, 0, none⟩), .int .i64 0]) ∧ w.heap.size ≤ m ∧ w.heap.size ≤ mb ∧ LinAt w' m mb L (beginL s) ∧ Ext w w') ∨
 (guardX s L most ≠ 0 ∧ e = .returned (.tuple #[.pointer none, .int .i64 (guardX s L most)]) ∧ Ext w w')
def lossF (L : List Loss) (k : Nat) (d : Int) : List Loss := (L.take k).filter fun y => y.after == d
theorem open_good (v : Value) (s : St) (L : List Loss) (la : Option Addr) (ln lc : Nat) (most : Int) (w : World) (h : StAt w v s) (hb : StBd s) (he : (checkQ s).2.2 = 0) (hl : L.length = ln) (hI : LossAt w la L) (hLi : ∀ y ∈ L, -9223372036854775808 ≤ y.after ∧ y.after ≤ 9223372036854775807) :
  Calls Tryz.prog 20 #[v, .slice la ln lc, .int .i64 most] w (OpenL s L most w) := by
 have hX : guardX s L most = if lossX L ≠ 0 then lossX L else if inB most 0 5000 = true then 0 else 7 := by unfold guardX; rw [if_neg (by omega)]
 obtain ⟨a1, a2, a3, c1, c2, c3, rfl, i1, i2, i3⟩ := h
 have hs : StAt w (sv a1 a2 a3 s.store.length c1 s.tape.length c2 s.printed.length c3 s.taken s.time s.at_ s.done s.why) s := ⟨a1, a2, a3, c1, c2, c3, rfl, i1, i2, i3⟩
 have hc := fun W (E : Ext w W) => check_any _ s W (hs.ext E) hb
 rcases hcq : checkQ s with ⟨p, i, e⟩
 rw [hcq] at hc he
 dsimp only at he ⊢
 obtain rfl : e = 0 := he
 clear hcq hs hb
 have HX := Lib.hid hX
 have HL := Lib.hid hl
 clear hX hl
 by_cases h40 : 40 < ln
 ·have h40z : (40 : Int) < (ln : Int) := by omega
  clear i1 i2 i3 hI
  go_enter Tryz.func20, Tryz.ntmps20
  go_wp2_with fail
  refine ((hc _ ((Ext.refl w).alloc _))).mono ?_
  rintro e w1 ⟨rfl, E1⟩
  unfold v3
  go_wp2
  have e3 : guardX s L most = 3 := by
   have : lossX L = 3 := by unfold lossX; rw [if_pos (by rw [HL.out]; exact h40)]
   rw [HX.out, this, if_pos (by omega)]
  exact bodyPost_ret (v := .tuple #[.pointer none, .int .i64 3]) (by simp [results, Tryz.results20, go_sem]) rfl (.inr ⟨by omega, by rw [e3], E1.old⟩)
 ·have h40z : ¬ (40 : Int) < (ln : Int) := by omega
  have hmm := @run_makeMap Tryz.prog
  obtain ⟨il, hil, hlz, hls, hlb⟩ := info_parts Tryz.infoL
  go_enter Tryz.func20, Tryz.ntmps20
  go_wp2_with fail
  refine ((hc _ ((Ext.refl w).alloc _))).mono ?_
  rintro e w1 ⟨rfl, E1⟩
  unfold v3
  have z0 := box_at (v := .slice a1 s.store.length c1) E1 0 rfl
  have z1 := box_at (v := .slice a2 s.tape.length c2) E1 1 rfl
  have z2 := box_at (v := .int .i64 s.taken) E1 2 rfl
  have z3 := box_at (v := .slice a3 s.printed.length c3) E1 3 rfl
  have z4 := box_at (v := .int .i64 s.time) E1 4 rfl
  have z5 := box_at (v := .int .i64 s.at_) E1 5 rfl
  have z6 := box_at (v := .int .i64 s.done) E1 6 rfl
  have z7 := box_at (v := .int .i64 s.why) E1 7 rfl
  go_wp2
  have B0 : LnB ((w1.alloc (.map #[] 0)).alloc (.cells (((((((((Tryz.zeroCells76.setIfInBounds 0 (.slice a1 s.store.length c1)).setIfInBounds 1 (.slice a2 s.tape.length c2)).setIfInBounds 2 (.int .i64 s.taken)).setIfInBounds 3 (.slice a3 s.printed.length c3)).setIfInBounds 4 (.int .i64 s.time)).setIfInBounds 5 (.int .i64 s.at_)).setIfInBounds 6 (.int .i64 s.done)).setIfInBounds 7 (.int .i64 s.why)).setIfInBounds 136 (.map (some w1.heap.size))) 76)) (w1.heap.size + 1) w1.heap.size (.slice a1 s.store.length c1) (.slice a2 s.tape.length c2) (.int .i64 s.taken) (.slice a3 s.printed.length c3) (.int .i64 s.time) (.int .i64 s.at_) (.int .i64 s.done) (.int .i64 s.why) (List.replicate 128 false) := line_new (by
   have e := heap_alloc_new (w1.alloc (.map #[] 0)) (.cells (((((((((Tryz.zeroCells76.setIfInBounds 0 (.slice a1 s.store.length c1)).setIfInBounds 1 (.slice a2 s.tape.length c2)).setIfInBounds 2 (.int .i64 s.taken)).setIfInBounds 3 (.slice a3 s.printed.length c3)).setIfInBounds 4 (.int .i64 s.time)).setIfInBounds 5 (.int .i64 s.at_)).setIfInBounds 6 (.int .i64 s.done)).setIfInBounds 7 (.int .i64 s.why)).setIfInBounds 136 (.map (some w1.heap.size))) 76)
   rw [World.size_alloc] at e
   exact e)
  have F0 : MapF encI ((w1.alloc (.map #[] 0)).alloc (.cells (((((((((Tryz.zeroCells76.setIfInBounds 0 (.slice a1 s.store.length c1)).setIfInBounds 1 (.slice a2 s.tape.length c2)).setIfInBounds 2 (.int .i64 s.taken)).setIfInBounds 3 (.slice a3 s.printed.length c3)).setIfInBounds 4 (.int .i64 s.time)).setIfInBounds 5 (.int .i64 s.at_)).setIfInBounds 6 (.int .i64 s.done)).setIfInBounds 7 (.int .i64 s.why)).setIfInBounds 136 (.map (some w1.heap.size))) 76)) w1.heap.size (fun _ => none) := (MapF.made (enc := encI) w1).alloc _
  have E0 : Ext w ((w1.alloc (.map #[] 0)).alloc (.cells (((((((((Tryz.zeroCells76.setIfInBounds 0 (.slice a1 s.store.length c1)).setIfInBounds 1 (.slice a2 s.tape.length c2)).setIfInBounds 2 (.int .i64 s.taken)).setIfInBounds 3 (.slice a3 s.printed.length c3)).setIfInBounds 4 (.int .i64 s.time)).setIfInBounds 5 (.int .i64 s.at_)).setIfInBounds 6 (.int .i64 s.done)).setIfInBounds 7 (.int .i64 s.why)).setIfInBounds 136 (.map (some w1.heap.size))) 76)) := (E1.old.alloc _).alloc _
  have hs1 := E1.old.size
  obtain ⟨W0, hW0⟩ : ∃ W0, ((w1.alloc (.map #[] 0)).alloc (.cells (((((((((Tryz.zeroCells76.setIfInBounds 0 (.slice a1 s.store.length c1)).setIfInBounds 1 (.slice a2 s.tape.length c2)).setIfInBounds 2 (.int .i64 s.taken)).setIfInBounds 3 (.slice a3 s.printed.length c3)).setIfInBounds 4 (.int .i64 s.time)).setIfInBounds 5 (.int .i64 s.at_)).setIfInBounds 6 (.int .i64 s.done)).setIfInBounds 7 (.int .i64 s.why)).setIfInBounds 136 (.map (some w1.heap.size))) 76)) = W0 := ⟨_, rfl⟩
  obtain ⟨mb, hmb⟩ : ∃ mb, w1.heap.size = mb := ⟨_, rfl⟩
  obtain ⟨m, hm⟩ : ∃ m, mb + 1 = m := ⟨_, rfl⟩
  rw [hW0, hmb, hm] at B0
  rw [hW0, hmb] at F0
  rw [hW0] at E0 ⊢
  rw [hmb] at hs1 ⊢
  rw [hm]
  have hmlt : mb < m := by omega
  clear hW0 hmb hm z0 z1 z2 z3 z4 z5 z6 z7 E1 hc hmm
  clear w1
  have M0 : MapO W0 w.heap.size mb (lossF L 0) := ⟨_, F0, fun x => ⟨rfl, .inl ⟨rfl, rfl⟩⟩, fun x y b _ h => by cases h⟩
  have HI := Lib.hid hI
  have HLi := Lib.hid hLi
  have j1 := Lib.hid i1
  have j2 := Lib.hid i2
  have j3 := Lib.hid i3
  clear F0 hI hLi i1 i2 i3
  go_loopw [32] (fun s32 X => ∃ k : Nat, k ≤ ln ∧ s32 = .int .i64 (k : Int) ∧ LnB X m mb (.slice a1 s.store.length c1) (.slice a2 s.tape.length c2) (.int .i64 s.taken) (.slice a3 s.printed.length c3) (.int .i64 s.time) (.int .i64 s.at_) (.int .i64 s.done) (.int .i64 s.why) (List.replicate 128 false) ∧ MapO X w.heap.size mb (lossF L k) ∧ Ext w X ∧ Hid (∀ j, j < k → lossOk (L[j]?.getD ⟨0, 0, 0⟩) = true)) (fun s32 _ => ln - (Go.RowKit.intOf s32).toNat)
  case atStart => exact ⟨0, Nat.zero_le _, rfl, B0, M0, E0, Lib.hid (fun j hj => absurd hj (Nat.not_lt_zero _))⟩
  case round =>
   clear B0 M0 E0
   obtain ⟨k, hk, rfl, B, MO, E, HO⟩ := hrel
   obtain ⟨X0, rfl⟩ : ∃ X : World, X = wr := ⟨_, rfl⟩
   by_cases hlt : k < ln
   ·have hltz : (k : Int) < (ln : Int) := by omega
    have hkL : k < L.length := by rw [HL.out]; exact hlt
    rcases HI.out with h0 | ⟨lb, off, rfl, hlb0, hlc⟩
    ·rw [h0] at hkL; simp at hkL
    obtain ⟨d0, d1, d2⟩ := hlc k hkL
    replace d0 := (E.cell (p := ⟨lb, off + k * 3, none⟩) hlb0).trans d0
    replace d1 := (E.cell (p := ⟨lb, off + k * 3 + 1, none⟩) hlb0).trans d1
    replace d2 := (E.cell (p := ⟨lb, off + k * 3 + 2, none⟩) hlb0).trans d2
    obtain ⟨y, hy⟩ : ∃ y, L[k]?.getD ⟨0, 0, 0⟩ = y := ⟨_, rfl⟩
    have hyL : y ∈ L := by rw [← hy, List.getElem?_eq_getElem hkL]; exact List.getElem_mem hkL
    have hyi := HLi.out y hyL
    rw [hy] at d0 d1 d2
    have HY := Lib.hid hy
    have HYL := Lib.hid hyL
    clear hy hyL hlc
    obtain ⟨ya, yp, yq⟩ := y
    dsimp only at d0 d1 d2 hyi
    have bad : lossOk ⟨ya, yp, yq⟩ = false → guardX s L most = 7 := fun hf => by
     have : lossX L = 7 := by
      unfold lossX
      rw [if_neg (by rw [HL.out]; exact h40), if_pos (List.any_eq_true.2 ⟨_, HYL.out, by rw [hf]; rfl⟩)]
     rw [HX.out, this, if_pos (by omega)]
    have HB := Lib.hid bad
    clear bad
    have hmX := B.lt
    cases h1 : inB ya 0 1000000000 with
    | false =>
     have e7 := HB.out (by unfold lossOk; dsimp only; rw [h1]; rfl)
     go_wp2_with (go_at_call 36; refine (out10_any _ _ _ _).mono ?_; rintro e w' ⟨rfl, rfl⟩; (try simp only [h1, Bool.not_true, Bool.not_false]))
     exact bodyPost_ret (v := .tuple #[.pointer none, .int .i64 7]) (by simp [results, Tryz.results20, go_sem]) rfl (.inr ⟨by omega, by rw [e7], (by repeat (first | with_reducible exact E | with_reducible refine Ext.alloc ?_ _ | with_reducible refine Below.drew ?_))⟩)
    | true =>
     cases h2 : inB yp 0 127 with
     | false =>
      have e7 := HB.out (by unfold lossOk; dsimp only; rw [h2]; simp)
      go_wp2_with (go_at_call 36; refine (out10_any _ _ _ _).mono ?_; rintro e w' ⟨rfl, rfl⟩; (try simp only [h1, h2, Bool.not_true, Bool.not_false]))
      exact bodyPost_ret (v := .tuple #[.pointer none, .int .i64 7]) (by simp [results, Tryz.results20, go_sem]) rfl (.inr ⟨by omega, by rw [e7], (by repeat (first | with_reducible exact E | with_reducible refine Ext.alloc ?_ _ | with_reducible refine Below.drew ?_))⟩)
     | true =>
      cases h3 : inB yq 0 24 with
      | false =>
       have e7 := HB.out (by unfold lossOk; dsimp only; rw [h3]; simp)
       go_wp2_with (go_at_call 36; refine (out10_any _ _ _ _).mono ?_; rintro e w' ⟨rfl, rfl⟩; (try simp only [h1, h2, h3, Bool.not_true, Bool.not_false]))
       exact bodyPost_ret (v := .tuple #[.pointer none, .int .i64 7]) (by simp [results, Tryz.results20, go_sem]) rfl (.inr ⟨by omega, by rw [e7], (by repeat (first | with_reducible exact E | with_reducible refine Ext.alloc ?_ _ | with_reducible refine Below.drew ?_))⟩)
      | true =>
       go_wp2_with (go_at_call 36; refine (out10_any _ _ _ _).mono ?_; rintro e w' ⟨rfl, rfl⟩; (try simp only [h1, h2, h3, Bool.not_true, Bool.not_false]))
       have hb1 := (loss_ok (y := ⟨ya, yp, yq⟩) (by unfold lossOk; dsimp only; rw [h1, h2, h3]; rfl))
       have hok : ∀ j, j < k + 1 → lossOk (L[j]?.getD ⟨0, 0, 0⟩) = true := fun j hj => by
        by_cases e : j = k
        ·subst e
         rw [HY.out]
         unfold lossOk
         dsimp only
         rw [h1, h2, h3]
         rfl
        ·exact HO.out j (by omega)
       have HO2 := Lib.hid hok
       clear hok hb1 h1 h2 h3 HO HB d0 d1 d2
       have z0 := box_at (v := .int .i64 ya) (Ext.refl (X0.alloc (.cells #[.int .i64 ya, .int .i64 yp, .int .i64 yq] 91))) 0 rfl
       have z1 := box_at (v := .int .i64 yp) (Ext.refl (X0.alloc (.cells #[.int .i64 ya, .int .i64 yp, .int .i64 yq] 91))) 1 rfl
       have z2 := box_at (v := .int .i64 yq) (Ext.refl (X0.alloc (.cells #[.int .i64 ya, .int .i64 yp, .int .i64 yq] 91))) 2 rfl
       have EX := (Ext.refl X0).alloc (.cells #[.int .i64 ya, .int .i64 yp, .int .i64 yq] 91)
       have hsz : X0.heap.size < (X0.alloc (.cells #[.int .i64 ya, .int .i64 yp, .int .i64 yq] 91)).heap.size := by simp
       have hrN : ∀ v b n xs, X0.ownsRow w.heap.size 91 3 v n xs → v.ownBlock = some b → b < X0.heap.size := fun v b n xs h hb => (own_ltz h hb).2.1
       obtain ⟨N, hN⟩ : ∃ N, X0.heap.size = N := ⟨_, rfl⟩
       obtain ⟨X, hX⟩ : ∃ X, X0.alloc (.cells #[.int .i64 ya, .int .i64 yp, .int .i64 yq] 91) = X := ⟨_, rfl⟩
       rw [hN, hX]
       rw [hN, hX] at z0 z1 z2 hsz
       rw [hX] at EX
       rw [hN] at hmX hrN
       clear hN hX
       obtain ⟨f, hF0, hR0, hA⟩ := MO
       have hF := hF0.ext EX
       have hR : ∀ x, X.ownsRow w.heap.size 91 3 ((f x).getD (.slice none 0 0)) (lossF L k x.1).length (lvs (lossF L k x.1)) := fun x => own_kpz (M := fun _ => False) (hR0 x) ((KpM.of_ext EX).mono fun _ h => h) (fun _ _ h => h)
       have hrb : ∀ x b, ((f x).getD (.slice none 0 0)).ownBlock = some b → b ≠ N ∧ b ≠ m ∧ b ≠ mb ∧ w.heap.size ≤ b := fun x b hb => by
        have h1 := hrN _ _ _ _ (hR0 x) hb
        obtain ⟨h0, h2, cs, hc⟩ := own_ltz (hR0 x) hb
        obtain ⟨cs2, hc2, _⟩ := B.blk
        obtain ⟨es, kk, hc3⟩ := map_block hF0
        refine ⟨by omega, fun e => ?_, fun e => ?_, h0⟩
        ·rw [e, hc2] at hc; cases hc
        ·rw [e, hc3] at hc; cases hc
       have BX := B.ext EX
       have HBX := Lib.hid BX
       have EE := E.comp EX
       clear B hR0 hF0 hrN E
       obtain ⟨ky, hky⟩ : ∃ ky : I64, ky.1 = ya := ⟨⟨ya, hyi⟩, rfl⟩
       have hke : encI ky = .int .i64 ya := by unfold encI; rw [hky]
       obtain ⟨v0, hv0⟩ : ∃ v0, (f ky).getD (.slice none 0 0) = v0 := ⟨_, rfl⟩
       obtain ⟨q, hq⟩ : ∃ q, (lossF L k ky.1).length = q := ⟨_, rfl⟩
       have hq40 : q ≤ 40 := by
        rw [← hq]
        unfold lossF
        exact Nat.le_trans (List.length_filter_le _ _) (Nat.le_trans (List.length_take_le _ _) (by omega))
       have hbv := fun b (h : v0.ownBlock = some b) => hrb ky b (by rw [hv0]; exact h)
       have HRo := Lib.hid hR
       have HHA := Lib.hid hA
       have hrow : (X.drew.alloc (.cells #[.int .i64 ya, .int .i64 yp, .int .i64 yq] 91)).ownsRow w.heap.size 91 3 v0 q (lvs (lossF L k ky.1)) := by
        have h := hR ky
        rw [hv0, hq] at h
        exact own_kpz (M := fun _ => False) h ((KpM.of_ext (Ext.alloc (Ext.refl X).drew _)).mono fun _ h => h) (fun _ _ h => h)
       have HS : ∀ Y : World, (Y.heap[m]? = X.heap[m]? ∧ Y.heap[N]? = X.heap[N]? ∧ Y.heap[mb]? = X.heap[mb]?) → Y.cell? ⟨m, 136, none⟩ = some (.map (some mb)) ∧ Y.cell? ⟨N, 0, none⟩ = some (.int .i64 ya) ∧ Y.cell? ⟨N, 1, none⟩ = some (.int .i64 yp) ∧ Y.cell? ⟨N, 2, none⟩ = some (.int .i64 yq) ∧
         (Instr.lookup 74 (.map (some mb)) (.int .i64 ya) false).run Tryz.prog Y = .ok v0 Y := fun Y hS => by
        refine ⟨(World.cell?_of_block (w := X) (a := ⟨m, 136, none⟩) hS.1).trans BX.cm, (World.cell?_of_block (w := X) (a := ⟨N, 0, none⟩) hS.2.1).trans z0, (World.cell?_of_block (w := X) (a := ⟨N, 1, none⟩) hS.2.1).trans z1, (World.cell?_of_block (w := X) (a := ⟨N, 2, none⟩) hS.2.1).trans z2, ?_⟩
        have h := (hF.same hS.2.2).look false keyI Tryz.underlying74 (zeroRow Y) ky
        rw [hv0, hke] at h
        exact h
       have hmbX := hF.lt
       have hmX2 := BX.lt
       have hSA : (X.drew.alloc (.cells #[.int .i64 ya, .int .i64 yp, .int .i64 yq] 91)).heap[m]? = X.heap[m]? ∧ (X.drew.alloc (.cells #[.int .i64 ya, .int .i64 yp, .int .i64 yq] 91)).heap[N]? = X.heap[N]? ∧ (X.drew.alloc (.cells #[.int .i64 ya, .int .i64 yp, .int .i64 yq] 91)).heap[mb]? = X.heap[mb]? := by
        have e := Ext.alloc (Ext.refl X).drew (.cells #[.int .i64 ya, .int .i64 yp, .int .i64 yq] 91)
        exact ⟨e.block m hmX2, e.block N hsz, e.block mb hmbX⟩
       have hsT : ∀ b, b < X.heap.size → b < (X.drew.alloc (.cells #[.int .i64 ya, .int .i64 yp, .int .i64 yq] 91)).heap.size := fun b hb => by rw [World.size_alloc]; exact Nat.lt_succ_of_lt hb
       have hSB : ∀ X2 : World, (X.drew.alloc (.cells #[.int .i64 ya, .int .i64 yp, .int .i64 yq] 91)).grownBy X2 v0.ownBlock → X2.heap[m]? = X.heap[m]? ∧ X2.heap[N]? = X.heap[N]? ∧ X2.heap[mb]? = X.heap[mb]? := fun X2 G =>
        ⟨(G.block m (hsT m hmX2) (fun e => (hbv m e.symm).2.1 rfl)).trans hSA.1, (G.block N (hsT N hsz) (fun e => (hbv N e.symm).1 rfl)).trans hSA.2.1, (G.block mb (hsT mb hmbX) (fun e => (hbv mb e.symm).2.2.1 rfl)).trans hSA.2.2⟩
       have hFB : ∀ X2 : World, (X2.heap[m]? = X.heap[m]? ∧ X2.heap[N]? = X.heap[N]? ∧ X2.heap[mb]? = X.heap[mb]?) → MapF encI X2 mb f := fun X2 h => hF.same h.2.2
       have hnew : ∀ j u, (lv ⟨ya, yp, yq⟩)[j]? = some u → (X.drew.alloc (.cells #[.int .i64 ya, .int .i64 yp, .int .i64 yq] 91)).cell? ((⟨X.heap.size, 0, none⟩ : Addr).add j) = some u := fun j u hu => by
        match j, hu with
        | 0, hu => cases hu; exact box_at (w := X.drew) (Ext.refl _) 0 rfl
        | 1, hu => cases hu; exact box_at (w := X.drew) (Ext.refl _) 1 rfl
        | 2, hu => cases hu; exact box_at (w := X.drew) (Ext.refl _) 2 rfl
       clear hR hA z0 z1 z2 EX
       refine wp_region_Z (fun i => i == 16) (fun Y => Y.heap[m]? = X.heap[m]? ∧ Y.heap[N]? = X.heap[N]? ∧ Y.heap[mb]? = X.heap[mb]?) (by kernel_rfl) ⟨rfl, rfl, rfl⟩ fun hSX => ?_
       refine wpAnyZ_take (i := 0) (oi := ⟨_, _, _, _, _, _⟩) (v := ?_) rfl (by kernel_rfl) (by kernel_rfl) (by kernel_rfl) (by kernel_rfl) (fun _ _ _ h => h) (Or.inl ⟨by rfl, ?_⟩) hSX ?_
       rotate_left
       ·intro wX hS
        obtain ⟨q0, q1, q2, q3, q4⟩ := HS wX hS
        go_simp
        (try with_reducible rfl)
       (try simp only [Act.put, List.setIfInBounds_toArray, List.set_cons_zero, List.set_cons_succ])
       refine wpAnyZ_take (i := 1) (oi := ⟨_, _, _, _, _, _⟩) (v := ?_) rfl (by kernel_rfl) (by kernel_rfl) (by kernel_rfl) (by kernel_rfl) (fun _ _ _ h => h) (Or.inl ⟨by rfl, ?_⟩) hSX ?_
       rotate_left
       ·intro wX hS
        obtain ⟨q0, q1, q2, q3, q4⟩ := HS wX hS
        go_simp
        (try with_reducible rfl)
       (try simp only [Act.put, List.setIfInBounds_toArray, List.set_cons_zero, List.set_cons_succ])
       refine wpAnyZ_take (i := 2) (oi := ⟨_, _, _, _, _, _⟩) (v := ?_) rfl (by kernel_rfl) (by kernel_rfl) (by kernel_rfl) (by kernel_rfl) (fun _ _ _ h => h) (Or.inl ⟨by rfl, ?_⟩) hSX ?_
       rotate_left
       ·intro wX hS
        obtain ⟨q0, q1, q2, q3, q4⟩ := HS wX hS
        go_simp
        (try with_reducible rfl)
       (try simp only [Act.put, List.setIfInBounds_toArray, List.set_cons_zero, List.set_cons_succ])
       refine wpAnyZ_take (i := 3) (oi := ⟨_, _, _, _, _, _⟩) (v := ?_) rfl (by kernel_rfl) (by kernel_rfl) (by kernel_rfl) (by kernel_rfl) (fun _ _ _ h => h) (Or.inl ⟨by rfl, ?_⟩) hSX ?_
       rotate_left
       ·intro wX hS
        obtain ⟨q0, q1, q2, q3, q4⟩ := HS wX hS
        go_simp
        (try with_reducible rfl)
       (try simp only [Act.put, List.setIfInBounds_toArray, List.set_cons_zero, List.set_cons_succ])
       refine wpAnyZ_take (i := 4) (oi := ⟨_, _, _, _, _, _⟩) (v := ?_) rfl (by kernel_rfl) (by kernel_rfl) (by kernel_rfl) (by kernel_rfl) (fun _ _ _ h => h) (Or.inl ⟨by rfl, ?_⟩) hSX ?_
       rotate_left
       ·intro wX hS
        obtain ⟨q0, q1, q2, q3, q4⟩ := HS wX hS
        go_simp
        (try with_reducible rfl)
       (try simp only [Act.put, List.setIfInBounds_toArray, List.set_cons_zero, List.set_cons_succ])
       refine wpAnyZ_take (i := 5) (oi := ⟨_, _, _, _, _, _⟩) (v := ?_) rfl (by kernel_rfl) (by kernel_rfl) (by kernel_rfl) (by kernel_rfl) (fun _ _ _ h => h) (Or.inl ⟨by rfl, ?_⟩) hSX ?_
       rotate_left
       ·intro wX hS
        obtain ⟨q0, q1, q2, q3, q4⟩ := HS wX hS
        go_simp
        (try with_reducible rfl)
       (try simp only [Act.put, List.setIfInBounds_toArray, List.set_cons_zero, List.set_cons_succ])
       refine wpAnyZ_take (i := 6) (oi := ⟨_, _, _, _, _, _⟩) (v := ?_) rfl (by kernel_rfl) (by kernel_rfl) (by kernel_rfl) (by kernel_rfl) (fun _ _ _ h => h) (Or.inl ⟨by rfl, ?_⟩) hSX ?_
       rotate_left
       ·intro wX hS
        obtain ⟨q0, q1, q2, q3, q4⟩ := HS wX hS
        go_simp
        (try with_reducible rfl)
       (try simp only [Act.put, List.setIfInBounds_toArray, List.set_cons_zero, List.set_cons_succ])
       refine wpAnyZ_take (i := 7) (oi := ⟨_, _, _, _, _, _⟩) (v := ?_) rfl (by kernel_rfl) (by kernel_rfl) (by kernel_rfl) (by kernel_rfl) (fun _ _ _ h => h) (Or.inl ⟨by rfl, ?_⟩) hSX ?_
       rotate_left
       ·intro wX hS
        obtain ⟨q0, q1, q2, q3, q4⟩ := HS wX hS
        go_simp
        (try with_reducible rfl)
       (try simp only [Act.put, List.setIfInBounds_toArray, List.set_cons_zero, List.set_cons_succ])
       refine wpAnyZ_take (i := 8) (oi := ⟨_, _, _, _, _, _⟩) (v := ?_) rfl (by kernel_rfl) (by kernel_rfl) (by kernel_rfl) (by kernel_rfl) (fun _ _ _ h => h) (Or.inl ⟨by rfl, ?_⟩) hSX ?_
       rotate_left
       ·intro wX hS
        obtain ⟨q0, q1, q2, q3, q4⟩ := HS wX hS
        go_simp
        (try with_reducible rfl)
       (try simp only [Act.put, List.setIfInBounds_toArray, List.set_cons_zero, List.set_cons_succ])
       refine wpAnyZ_take (i := 9) (oi := ⟨_, _, _, _, _, _⟩) (v := ?_) rfl (by kernel_rfl) (by kernel_rfl) (by kernel_rfl) (by kernel_rfl) (fun _ _ _ h => h) (Or.inl ⟨by rfl, ?_⟩) hSX ?_
       rotate_left
       ·intro wX hS
        obtain ⟨q0, q1, q2, q3, q4⟩ := HS wX hS
        go_simp
        (try with_reducible rfl)
       (try simp only [Act.put, List.setIfInBounds_toArray, List.set_cons_zero, List.set_cons_succ])
       refine wpAnyZ_take (i := 10) (oi := ⟨_, _, _, _, _, _⟩) (v := ?_) rfl (by kernel_rfl) (by kernel_rfl) (by kernel_rfl) (by kernel_rfl) (fun _ _ _ h => h) (Or.inl ⟨by rfl, ?_⟩) hSX ?_
       rotate_left
       ·intro wX hS
        obtain ⟨q0, q1, q2, q3, q4⟩ := HS wX hS
        go_simp
        (try with_reducible rfl)
       (try simp only [Act.put, List.setIfInBounds_toArray, List.set_cons_zero, List.set_cons_succ])
       refine wpAnyZ_take (i := 11) (oi := ⟨_, _, _, _, _, _⟩) (v := ?_) rfl (by kernel_rfl) (by kernel_rfl) (by kernel_rfl) (by kernel_rfl) (fun _ _ _ h => h) (Or.inl ⟨by rfl, ?_⟩) hSX ?_
       rotate_left
       ·intro wX hS
        obtain ⟨q0, q1, q2, q3, q4⟩ := HS wX hS
        go_simp
        (try with_reducible rfl)
       (try simp only [Act.put, List.setIfInBounds_toArray, List.set_cons_zero, List.set_cons_succ])
       refine wpAnyZ_take (i := 12) (oi := ⟨_, _, _, _, _, _⟩) (v := ?_) rfl (by kernel_rfl) (by kernel_rfl) (by kernel_rfl) (by kernel_rfl) (fun _ _ _ h => h) (Or.inl ⟨by rfl, ?_⟩) hSX ?_
       rotate_left
       ·intro wX hS
        obtain ⟨q0, q1, q2, q3, q4⟩ := HS wX hS
        go_simp
        (try with_reducible rfl)
       (try simp only [Act.put, List.setIfInBounds_toArray, List.set_cons_zero, List.set_cons_succ])
       refine wpAnyZ_take (i := 13) (oi := ⟨_, _, _, _, _, _⟩) (v := ?_) rfl (by kernel_rfl) (by kernel_rfl) (by kernel_rfl) (by kernel_rfl) (fun _ _ _ h => h) (Or.inl ⟨by rfl, ?_⟩) hSX ?_
       rotate_left
       ·intro wX hS
        obtain ⟨q0, q1, q2, q3, q4⟩ := HS wX hS
        go_simp
        (try with_reducible rfl)
       (try simp only [Act.put, List.setIfInBounds_toArray, List.set_cons_zero, List.set_cons_succ])
       refine wpAnyZ_one (i := 14) (o := ⟨_, _, _, _, _, _⟩) (by kernel_rfl) rfl (fun K hK => ?_)
       go_simp
       refine hK _ _ (.inr ?_) (fun hS1 => ?_)
       ·exact hSA
       clear hK
       (try simp only [Act.put, List.setIfInBounds_toArray, List.set_cons_zero, List.set_cons_succ])
       refine wpAnyZ_one (i := 15) (o := ⟨_, _, _, _, _, _⟩) (by kernel_rfl) rfl (fun K hK => ?_)
       rw [if_pos (by rfl)]
       refine wp_app_at _ _ 25 rfl 91 il (.agg #[.int .i64 0, .int .i64 0, .int .i64 0]) 3 24 Tryz.underlying25 hil hlz hls hlb rfl (by decide) _ q w.heap.size (lvs (lossF L k ky.1)) rfl hrow (Nat.le_trans EE.size (by simp)) ⟨X.heap.size, 0, none⟩ 1 1 (lv ⟨ya, yp, yq⟩) rfl rfl ?_ ?_ (by unfold maxLen; omega) (by omega) ?_
       ·exact hnew
       ·exact lv_one _
       intro v2 X2 ho2 G2 hv2
       refine hK _ _ (.inr ?_) (fun hS2 => ?_)
       ·exact hSB X2 G2
       clear hK
       (try simp only [Act.put, List.setIfInBounds_toArray, List.set_cons_zero, List.set_cons_succ])
       refine wpAnyZ_one (i := 16) (o := ⟨_, _, _, _, _, _⟩) (by kernel_rfl) rfl (fun K hK => ?_)
       rw [if_pos (by rfl)]
       refine wp_putF _ _ _ 74 rfl 25 keyI Tryz.underlying74 mb rfl (hFB X2 (hS2.resolve_left (by decide))) ky v2 hke.symm rfl fun X3 F3 G3 S3 => ?_
       refine hK _ _ (.inl rfl) (fun _ => ?_)
       clear hK
       (try simp only [Act.put, List.setIfInBounds_toArray, List.set_cons_zero, List.set_cons_succ])
       refine wpAnyZ_done (by kernel_rfl) ?_ _
       have hq2 : lossF L (k + 1) ky.1 = lossF L k ky.1 ++ [⟨ya, yp, yq⟩] := by
        unfold lossF
        rw [take_next hkL, List.filter_append, HY.out, List.filter_cons_of_pos (by simp [hky])]
        rfl
       have hq3 : ∀ d, d ≠ ky.1 → lossF L (k + 1) d = lossF L k d := fun d hd => by
        unfold lossF
        rw [take_next hkL, List.filter_append, HY.out, List.filter_cons_of_neg (by simp; omega)]
        simp
       have EA := Ext.alloc (Ext.refl X).drew (.cells #[.int .i64 ya, .int .i64 yp, .int .i64 yq] 91)
       have MO3 : MapO X3 w.heap.size mb (lossF L (k + 1)) := by
        refine map_add (w := X.drew.alloc (.cells #[.int .i64 ya, .int .i64 yp, .int .i64 yq] 91)) (f := f) (k := ky) (g := lossF L k) (hF.ext EA) (fun x => own_kpz (M := fun _ => False) (HRo.out x) ((KpM.of_ext EA).mono fun _ h => h) (fun _ _ h => h)) HHA.out ?_ (by rw [hv0]; exact G2) (by rw [hv0]; exact hv2) F3 G3 hq3
        rw [hq2, lvs_snoc, List.length_append, hq]
        exact ho2
       have K3 : KpM (fun b => v0.ownBlock = some b ∨ b = mb) X X3 := by
        have k1 : KpM (fun b => v0.ownBlock = some b ∨ b = mb) (X.drew.alloc (.cells #[.int .i64 ya, .int .i64 yp, .int .i64 yq] 91)) X2 := ⟨G2.size, fun b hb hn => G2.block b hb (fun e => hn (.inl e.symm)), G2.os, G2.tape, G2.output⟩
        exact ((KpM.of_ext EA).trans k1).trans ((kp_grown G3).mono fun b h => .inr h)
       have B3 := HBX.out.kp K3 (by
        rintro (h | h)
        ·exact (hbv m h).2.1 rfl
        ·omega)
       have E3 : Ext w X3 := EE.below5 K3 (by
        rintro b (h | h)
        ·exact (hbv b h).2.2.2
        ·rw [h]; exact hs1)
       clear hq2 hq3 HRo HHA HS hSB hFB hnew K3 EA G2 G3 S3 ho2 hv2 F3 hrb hbv hrow hke
       go_wp2
       go_roundw
       case rel => exact ⟨k + 1, by omega, by go_num, B3, MO3, E3, HO2⟩
       case measure => simp [Go.RowKit.intOf]; omega
   ·have hltz : ¬ (k : Int) < (ln : Int) := by omega
    obtain rfl : k = ln := by omega
    have e0 : lossX L = 0 := by
     unfold lossX
     rw [if_neg (by rw [HL.out]; exact h40), if_neg]
     intro h
     rw [List.any_eq_true] at h
     obtain ⟨y, hy, hf⟩ := h
     obtain ⟨j, hj, rfl⟩ := List.getElem_of_mem hy
     have := HO.out j (by rw [← HL.out]; exact hj)
     rw [List.getElem?_eq_getElem hj] at this
     rw [show lossOk L[j] = true from this] at hf
     cases hf
    have ML := MO.toL
    have hML : MapL X0 mb (leftL L (beginL s).gone) := by
     obtain ⟨f, h1, h2⟩ := ML
     refine ⟨f, h1, fun x => ?_⟩
     have h := h2 x
     unfold lossF at h
     rw [List.take_of_length_le (by rw [HL.out]; exact Nat.le_refl _)] at h
     exact h
    have HM := Lib.hid hML
    have HBf := Lib.hid B
    have HE := Lib.hid E
    clear MO ML hML B E HO HLi
    cases h1 : inB most 0 5000 with
    | false =>
     have e7 : guardX s L most = 7 := by rw [HX.out, e0, if_neg (by omega), h1]; rfl
     go_wp2_with (go_at_call 36; refine (out10_any _ _ _ _).mono ?_; rintro e w' ⟨rfl, rfl⟩; (try simp only [h1, Bool.not_true, Bool.not_false]))
     exact bodyPost_ret (v := .tuple #[.pointer none, .int .i64 7]) (by simp [results, Tryz.results20, go_sem]) rfl (.inr ⟨by omega, by rw [e7], (by repeat (first | with_reducible exact HE.out | with_reducible refine Ext.alloc ?_ _ | with_reducible refine Below.drew ?_))⟩)
    | true =>
     have e7 : guardX s L most = 0 := by rw [HX.out, e0, if_neg (by omega), h1]; rfl
     go_wp2_with (go_at_call 36; refine (out10_any _ _ _ _).mono ?_; rintro e w' ⟨rfl, rfl⟩; (try simp only [h1, Bool.not_true, Bool.not_false]))
     have hno : ∀ b, b < w.heap.size → ¬ LX m mb (fun _ => False) b := fun b hb h => by
      rcases h with (h | h) | h
      ·omega
      ·omega
      ·exact h
     refine bodyPost_ret (v := .tuple #[.pointer (some ⟨m, 0, none⟩), .int .i64 0]) (by simp [results, Tryz.results20, go_sem]) rfl (.inl ⟨e7, m, mb, rfl, by omega, hs1, ?_, HE.out⟩)
     exact ⟨a1, a2, a3, c1, c2, c3, HBf.out, (IntsF.of_at j1.out hno).ext HE.out, (IntsF.of_at j2.out hno).ext HE.out, (IntsF.of_at j3.out hno).ext HE.out, HM.out⟩
/-- open, whatever it is given -/
theorem open_any (v : Value) (s : St) (L : List Loss) (la : Option Addr) (ln lc : Nat) (most : Int) (w : World) (h : StAt w v s) (hb : StBd s) (hl : L.length = ln) (hI : LossAt w la L) (hLi : ∀ y ∈ L, -9223372036854775808 ≤ y.after ∧ y.after ≤ 9223372036854775807) :
  Calls Tryz.prog 20 #[v, .slice la ln lc, .int .i64 most] w (OpenL s L most w) := by
 by_cases he : (checkQ s).2.2 = 0
 ·exact open_good v s L la ln lc most w h hb he hl hI hLi
 ·have e7 : guardX s L most = (checkQ s).2.2 := by unfold guardX; rw [if_pos he]
  refine (open_chk v s la ln lc most w h hb he).mono ?_
  rintro e w' ⟨rfl, E⟩
  exact .inr ⟨by omega, by rw [e7], E⟩
end Go.Proofs.YtnhpcoagkmgdoaaGreat
/- Layer 10: orders, each looked at: run; Guard, Blind. -/
namespace Go.Proofs.YtnhpcoagkmgdoaaGreat
open Go.RowKit Go.Q Go.Shelf Go.Maps
set_option maxHeartbeats 4000000
set_option maxRecDepth 100000
theorem notice_bd {x : Lm} (hv : Valid x.s) : noticeQ x = -1 ∨ ∃ q : Nat, noticeQ x = (q : Int) := by
 have hw := wordAt_bd hv x.s.at_
 have ho := ordB_decode hw.1 hw.2
 unfold noticeQ
 cases h : (readsQ x.s).find? (badAt x.bad) with
 | none => exact .inl rfl
 | some a =>
  have hm := List.mem_of_find?_eq_some h
  have h0 : 0 ≤ a := by
   have hat := hv.at_.1
   change ordB (ordAt x.s) = true at ho
   simp only [ordB, addrB, inB, Bool.and_eq_true, decide_eq_true_eq] at ho
   unfold readsQ at hm
   rw [List.mem_cons, List.mem_append] at hm
   rcases hm with rfl | hm | hm
   ·exact hat
   ·split at hm
    ·rw [List.mem_singleton] at hm; omega
    ·simp at hm
   ·split at hm
    ·rw [List.mem_singleton] at hm; omega
    ·simp at hm
  exact .inr ⟨a.toNat, by show a = _; omega⟩
theorem lstep_shut (m mb : Nat) (L : List Loss) (x : Lm) (W : World) {ex : Nat → Prop} (hex : ∀ q, ex q → q < W.heap.size) (h : LinAt W m mb L x ex) (hv : Valid x.s) :
  Calls Tryz.prog 39 #[.pointer (some ⟨m, 0, none⟩), .iface 62 (.agg #[])] W (StepP m mb L (doL x) (-1) W ex) :=
 lstep_shut0 m mb L x (doL x) (-1) W hex h hv (Lib.hid fun _ => ⟨rfl, rfl⟩)
theorem lstep_sharp (m mb : Nat) (L : List Loss) (x : Lm) (W : World) {ex : Nat → Prop} (hex : ∀ q, ex q → q < W.heap.size) (h : LinAt W m mb L x ex) (hv : Valid x.s) :
  Calls Tryz.prog 39 #[.pointer (some ⟨m, 0, none⟩), .iface 51 (.agg #[])] W (StepP m mb L (if 0 ≤ noticeQ x then x else doL x) (noticeQ x) W ex) :=
 lstep_sharp0 m mb L x _ (noticeQ x) W hex h hv (Lib.hid fun q hq => ⟨hq, by rw [if_pos (by omega)]⟩) (Lib.hid fun hq => ⟨hq, by rw [if_neg (by omega)]⟩)
/-- a line that is as it should be -/
structure Fit (x : Lm) : Prop where
 v : Valid x.s
 b : x.bad.length = 128
theorem Fit.hap {L : List Loss} {x : Lm} (h : Fit x) (hL : ∀ y ∈ L, lossOk y = true) : Fit (hapQ L x) := ⟨hap_valid h.v hL, by show ((dueQ L x).foldl lossB x.bad).length = 128; rw [lossesB_length]; exact h.b⟩
theorem Fit.do_ {x : Lm} (h : Fit x) : Fit (doL x) := ⟨runQ_valid 1 h.v, by show (if _ then _ else _ : List Bool).length = 128; split <;> simp [h.b]⟩
theorem Fit.begin {s : St} (h : Valid s) : Fit (beginL s) := ⟨h, by simp [beginL]⟩
def RunP (m mb : Nat) (L : List Loss) (G : Lm × Int) (w : World) (e : Ending) (w' : World) : Prop := e = .returned (.int .i64 G.2) ∧ LinAt w' m mb L G.1 ∧ KpM (LM m mb) w w'
theorem run_sharp (m mb : Nat) (L : List Loss) (x : Lm) (n : Nat) (G : Lm × Int) (W : World) (h : LinAt W m mb L x) (hx : Fit x) (hL : ∀ y ∈ L, lossOk y = true) (hl : L.length ≤ 40) (hn : n ≤ 5000) (hG : guardN L n x = G) :
  Calls Tryz.prog 21 #[.pointer (some ⟨m, 0, none⟩), .iface 51 (.agg #[]), .int .i64 (n : Int)] W (RunP m mb L G W) := by
 have HG := Lib.hid hG
 have HLo := Lib.hid hL
 have hx2 := Lib.hid hx
 clear hG hL hx
 go_enter Tryz.func21, Tryz.ntmps21
 go_wp2
 go_loopw [8] (fun s8 X => ∃ (k : Nat) (z : Lm), k ≤ n ∧ s8 = .int .i64 (k : Int) ∧ LinAt X m mb L z ∧ Hid (Fit z) ∧ Hid (guardN L (n - k) z = G) ∧ KpM (LM m mb) W X) (fun s8 _ => n - (Go.RowKit.intOf s8).toNat)
 case atStart => exact ⟨0, x, Nat.zero_le _, rfl, h, hx2, HG, KpM.refl _ _⟩
 case round =>
  clear h hx2 HG
  obtain ⟨k, z, hk, rfl, hz, HF, HG, hK⟩ := hrel
  obtain ⟨X, rfl⟩ : ∃ X : World, X = wr := ⟨_, rfl⟩
  obtain ⟨a1, a2, a3, c1, c2, c3, hB, i1, i2, i3, hM⟩ := hz
  have hzz : Hid (LinAt X m mb L z) := Lib.hid ⟨a1, a2, a3, c1, c2, c3, hB, i1, i2, i3, hM⟩
  have c7 := hB.c7
  clear i1 i2 i3 hM hB
  by_cases hlt : k < n
  ·have hltz : (k : Int) < (n : Int) := by omega
   by_cases hw : z.s.why = 0
   ·rw [hw] at c7
    have hh := happen_any m mb L z X (fun _ h => h.elim) hzz.out HLo.out hl HF.out.v
    have HF2 := Lib.hid (HF.out.hap HLo.out)
    go_wp2_with fail
    refine hh.mono ?_
    rintro e w1 ⟨rfl, hz1, K1⟩
    have hs := lstep_sharp m mb L (hapQ L z) w1 (fun _ h => h.elim) hz1 HF2.out.v
    have hb := notice_bd HF2.out.v
    have hG2 := HG.out
    rw [show n - k = (n - (k + 1)) + 1 by omega, guardN, if_neg (by rw [hw]; decide)] at hG2
    rcases hb with hb | ⟨q, hb⟩
    ·rw [hb, if_neg (by decide)] at hs hG2
     have HG3 := Lib.hid hG2
     clear hb hG2 c7
     go_wp2_with fail
     refine hs.mono ?_
     rintro e w2 ⟨rfl, hz2, K2⟩
     go_wp2
     go_roundw
     case rel => exact ⟨k + 1, doL (hapQ L z), by omega, by go_num, hz2, Lib.hid HF2.out.do_, HG3, (hK.trans K1).trans K2⟩
     case measure => simp [Go.RowKit.intOf]; omega
    ·rw [hb, if_pos (by omega)] at hs hG2
     have HG3 := Lib.hid hG2
     have hq0 : ¬ (q : Int) < 0 := by omega
     have hqq : (0 : Int) ≤ (q : Int) := by omega
     clear hb hG2 c7
     go_wp2_with fail
     refine hs.mono ?_
     rintro e w2 ⟨rfl, hz2, K2⟩
     go_wp2
     refine bodyPost_ret (v := .int .i64 (q : Int)) (by simp [results, Tryz.results21, go_sem]) rfl ?_
     rw [← HG3.out]
     exact ⟨rfl, hz2, (hK.trans K1).trans K2⟩
   ·have hwz : (z.s.why == 0) = false := by simpa using hw
    have hG2 := HG.out
    rw [show n - k = (n - (k + 1)) + 1 by omega, guardN, if_pos hw] at hG2
    have HG3 := Lib.hid hG2
    clear hG2
    go_wp2
    refine bodyPost_ret (v := .int .i64 (-1)) (by simp [results, Tryz.results21, go_sem]) rfl ?_
    rw [← HG3.out]
    exact ⟨rfl, hzz.out, hK⟩
  ·have hltz : ¬ (k : Int) < (n : Int) := by omega
   have hG2 := HG.out
   rw [show n - k = 0 by omega, guardN] at hG2
   have HG3 := Lib.hid hG2
   clear hG2
   go_wp2
   refine bodyPost_ret (v := .int .i64 (-1)) (by simp [results, Tryz.results21, go_sem]) rfl ?_
   rw [← HG3.out]
   exact ⟨rfl, hzz.out, hK⟩
end Go.Proofs.YtnhpcoagkmgdoaaGreat
/- Layer 10: orders without any look: run. -/
namespace Go.Proofs.YtnhpcoagkmgdoaaGreat
open Go.RowKit Go.Q Go.Shelf Go.Maps
set_option maxHeartbeats 4000000
set_option maxRecDepth 100000
theorem run_shut (m mb : Nat) (L : List Loss) (x : Lm) (n : Nat) (G : Lm) (W : World) (h : LinAt W m mb L x) (hx : Fit x) (hL : ∀ y ∈ L, lossOk y = true) (hl : L.length ≤ 40) (hn : n ≤ 5000) (hG : blindN L n x = G) :
  Calls Tryz.prog 21 #[.pointer (some ⟨m, 0, none⟩), .iface 62 (.agg #[]), .int .i64 (n : Int)] W (RunP m mb L (G, -1) W) := by
 have HG := Lib.hid hG
 have HLo := Lib.hid hL
 have hx2 := Lib.hid hx
 clear hG hL hx
 go_enter Tryz.func21, Tryz.ntmps21
 go_wp2
 go_loopw [8] (fun s8 X => ∃ (k : Nat) (z : Lm), k ≤ n ∧ s8 = .int .i64 (k : Int) ∧ LinAt X m mb L z ∧ Hid (Fit z) ∧ Hid (blindN L (n - k) z = G) ∧ KpM (LM m mb) W X) (fun s8 _ => n - (Go.RowKit.intOf s8).toNat)
 case atStart => exact ⟨0, x, Nat.zero_le _, rfl, h, hx2, HG, KpM.refl _ _⟩
 case round =>
  clear h hx2 HG
  obtain ⟨k, z, hk, rfl, hz, HF, HG, hK⟩ := hrel
  obtain ⟨X, rfl⟩ : ∃ X : World, X = wr := ⟨_, rfl⟩
  obtain ⟨a1, a2, a3, c1, c2, c3, hB, i1, i2, i3, hM⟩ := hz
  have hzz : Hid (LinAt X m mb L z) := Lib.hid ⟨a1, a2, a3, c1, c2, c3, hB, i1, i2, i3, hM⟩
  have c7 := hB.c7
  clear i1 i2 i3 hM hB
  by_cases hlt : k < n
  ·have hltz : (k : Int) < (n : Int) := by omega
   by_cases hw : z.s.why = 0
   ·rw [hw] at c7
    have hh := happen_any m mb L z X (fun _ h => h.elim) hzz.out HLo.out hl HF.out.v
    have HF2 := Lib.hid (HF.out.hap HLo.out)
    go_wp2_with fail
    refine hh.mono ?_
    rintro e w1 ⟨rfl, hz1, K1⟩
    have hs := lstep_shut m mb L (hapQ L z) w1 (fun _ h => h.elim) hz1 HF2.out.v
    have hG2 := HG.out
    rw [show n - k = (n - (k + 1)) + 1 by omega, blindN, if_neg (by rw [hw]; decide)] at hG2
    have HG3 := Lib.hid hG2
    clear hG2 c7
    go_wp2_with fail
    refine hs.mono ?_
    rintro e w2 ⟨rfl, hz2, K2⟩
    go_wp2
    go_roundw
    case rel => exact ⟨k + 1, doL (hapQ L z), by omega, by go_num, hz2, Lib.hid HF2.out.do_, HG3, (hK.trans K1).trans K2⟩
    case measure => simp [Go.RowKit.intOf]; omega
   ·have hwz : (z.s.why == 0) = false := by simpa using hw
    have hG2 := HG.out
    rw [show n - k = (n - (k + 1)) + 1 by omega, blindN, if_pos hw] at hG2
    have HG3 := Lib.hid hG2
    clear hG2
    go_wp2
    refine bodyPost_ret (v := .int .i64 (-1)) (by simp [results, Tryz.results21, go_sem]) rfl ?_
    rw [← HG3.out]
    exact ⟨rfl, hzz.out, hK⟩
  ·have hltz : ¬ (k : Int) < (n : Int) := by omega
   have hG2 := HG.out
   rw [show n - k = 0 by omega, blindN] at hG2
   have HG3 := Lib.hid hG2
   clear hG2
   go_wp2
   refine bodyPost_ret (v := .int .i64 (-1)) (by simp [results, Tryz.results21, go_sem]) rfl ?_
   rw [← HG3.out]
   exact ⟨rfl, hzz.out, hK⟩
/-- what Guard hands back -/
def GdRes (p : St × Int × Int) (w : World) (e : Ending) (w' : World) : Prop := ∃ v, e = .returned (.tuple #[v, .int .i64 p.2.1, .int .i64 p.2.2]) ∧ StAt w' v p.1 ∧ Ext w w'
theorem guard_valid {s : St} {L : List Loss} {most : Int} (h : guardX s L most = 0) : Valid s ∧ (∀ y ∈ L, lossOk y = true) ∧ L.length ≤ 40 ∧ ∃ n : Nat, most = (n : Int) ∧ n ≤ 5000 := by
 unfold guardX at h
 split at h
 ·rename_i h1; exact absurd h h1
 ·rename_i h1
  split at h
  ·rename_i h2; exact absurd h h2
  ·rename_i h2
   split at h
   ·rename_i h3
    have hb := inB_bd h3
    obtain ⟨hl, hk⟩ := losses_ok (by simpa using h2)
    exact ⟨valid_of_check (by simpa using h1), hk, hl, most.toNat, by omega, by omega⟩
   ·omega
end Go.Proofs.YtnhpcoagkmgdoaaGreat
