import Derived.Test.YtnhpcoagkmgdoaaGreatX8
set_option linter.unusedVariables false
set_option linter.unusedSimpArgs false
/- Layer 10's program: the tape of words. -/
namespace Go.Proofs.YtnhpcoagkmgdoaaGreat
open Go.RowKit Go.Q Go.Shelf Go.Joins
attribute [local go_sem] Oper.semAt_some
set_option maxRecDepth 100000 in
set_option maxHeartbeats 8000000 in
theorem nq_normal {Q : Exit → Act → World → Prop} {a : Act} {w : World} (h : Q .normal a w) : NQ Q .normal a w := h
set_option maxRecDepth 100000 in
set_option maxHeartbeats 8000000 in
theorem ltape_any (a : Option Addr) (n c : Nat) (ws : List Int) (w : World) (hn : ws.length = n) (hn560 : n ≤ 560) (hI : IntsAt w a ws) (hw : wordOk ws) :
  Calls Tryz.prog 57 #[.slice a n c] w fun e w' => ∃ v, e = .returned v ∧ w'.ownsRow w.heap.size 5 1 v (tapeW ws).length (ub (natI (tapeW ws))) ∧ Ext w w' := by
 have hpm := pad_mod ws
 have hpl := pad_len ws
 rw [hn] at hpl
 obtain ⟨pad, hpad⟩ : ∃ pad, (16 - (n + 1) % 16) % 16 = pad := ⟨_, rfl⟩
 have hpad16 : pad < 16 := by omega
 have HPW := Lib.hid (show padW ws = ((n : Int) :: ws) ++ List.replicate pad 0 by unfold padW; rw [hn, hpad])
 have hN : (padW ws).length = n + 1 + pad := by rw [HPW.out, List.length_append, List.length_cons, List.length_replicate, hn]
 have HWB := Lib.hid (pad_ok hw (by omega))
 have HTB := Lib.hid (tape_blocks ws)
 have hmb : 16 * manyB ws = n + 1 + pad := by unfold manyB; omega
 obtain ⟨nb, hnb⟩ : ∃ nb, manyB ws = nb := ⟨_, rfl⟩
 rw [hnb] at hmb
 obtain ⟨r16, hr16⟩ : ∃ r16, (n + 1) % 16 = r16 := ⟨_, rfl⟩
 obtain ⟨n1, hn1⟩ : ∃ n1, n + 1 = n1 := ⟨_, rfl⟩
 have t1 : Int.tmod (n1 : Int) 16 = (r16 : Int) := by rw [Int.tmod_eq_emod_of_nonneg (by omega)]; omega
 have t1b : (n1 : Int) % 16 = (r16 : Int) := by omega
 have t2b : (16 - (r16 : Int)) % 16 = (pad : Int) := by omega
 have t2 : Int.tmod (16 - (r16 : Int)) 16 = (pad : Int) := by rw [Int.tmod_eq_emod_of_nonneg (by omega)]; omega
 have w16 : IntKind.i64.wrap (16 - (r16 : Int)) = 16 - (r16 : Int) := IntWalk.i64_in _ (by omega)
 have HNB := Lib.hid hnb
 have HN := Lib.hid hn
 have HNL := Lib.hid hN
 clear hn hpm hpl hpad hw hN hnb hr16
 obtain ⟨i0, hi0, hz0, hz1, hz2⟩ := info_parts Tryz.infoE
 have hlit : ((w.alloc (.cells #[.slice none 0 0] 63)).alloc (.cells #[.int .i64 (n : Int)] 3)).ownsRow (w.heap.size + 1) 3 1 (.slice (some ⟨w.heap.size + 1, 0, none⟩) 1 1) 1 (iv [(n : Int)]) := by
  have := World.ownsRow_lit (w.alloc (.cells #[.slice none 0 0] 63)) (e := 3) (size := 1) #[.int .i64 (n : Int)] 1 (Nat.le_refl _) (by unfold maxLen; decide) rfl
  rw [World.size_alloc] at this
  exact this
 refine (callsIn_wide (n := 9)).1 ?_
 refine callsIn_of_wp_marks Tryz.func57 rfl trivial ?_ rfl
 simp only [Tryz.ntmps57, List.size_toArray, List.length_cons, List.length_nil, Nat.reduceAdd, Nat.reduceSub, Array.replicate_succ, Array.replicate_zero, List.push_toArray, List.append_toArray, List.nil_append, List.cons_append]
 refine wpIn_wide.2 ?_
 go_wp2_with (at_builtin; refine wpList_app (w0 := w.alloc (.cells #[.slice none 0 0] 63)) rfl _ _ 22 rfl 3 i0 (.int .i64 0) 1 8 Tryz.underlying22 hi0 hz0 hz1 hz2 rfl (by decide) _ 1 (w.heap.size + 1) (iv [(n : Int)]) rfl hlit ((Ext.refl _).alloc _) (by rw [World.size_alloc]; exact Nat.le_refl _) (by simp) a n c (iv ws) rfl ?c1 ?c2 (iv_one _) (by unfold maxLen; omega) (by omega) ?_)
 case c1 => rw [iv_length, HN.out, Nat.mul_one]
 case c2 => exact from_ints (hI.ext (((Ext.refl w).alloc _).alloc _))
 intro a1 c1 w1 hown1 hE1 _
 rw [iv_app] at hown1
 rw [show 1 + n = n1 by omega] at hown1 ⊢
 obtain ⟨g1, c1', hg1⟩ := ownsRow_form hown1 (by omega)
 obtain ⟨rfl, -, rfl⟩ := Value.slice.inj hg1
 have hE1s := hE1.size
 rw [World.size_alloc] at hE1s
 clear hg1 hlit
 (try go_frame)
 go_wp2_with (at_builtin; refine wpList_app_made (w.heap.size + 1) 22 3 3 i0 (.int .i64 0) Tryz.underlying22 Tryz.underlying3 hi0 hz0 hz1 rfl rfl (by omega) rfl _ _ rfl rfl hown1 hE1 pad rfl (by omega) (by rw [hz2]; omega) (by unfold maxLen; omega) (by rw [World.size_alloc]; exact Nat.le_refl _) hE1s ?_; intro g2 c2 w2 hown2 hE2)
 rw [show List.replicate pad (Value.int .i64 0) = iv (List.replicate pad 0) by simp [iv], iv_app, show [(n : Int)] ++ ws ++ List.replicate pad 0 = padW ws from HPW.out.symm] at hown2
 obtain ⟨N, hNe⟩ : ∃ N, n1 + pad = N := ⟨_, rfl⟩
 rw [hNe] at hown2 ⊢
 have hN576 : N ≤ 576 := by omega
 have hNb : 16 * nb = N := by omega
 obtain ⟨hcap, hcap2⟩ := own_cap hown2
 have E1 : Ext w w2 := Ext.comp ((Ext.refl w).alloc _) hE2
 have hbx : Boxed w2 w.heap.size 63 (.slice none 0 0) := (hE2.block w.heap.size (by simp)).trans (heap_alloc_new w _)
 have hs2 : w.heap.size < w2.heap.size := by have := hE2.size; rw [World.size_alloc] at this; omega
 have HNe := Lib.hid hNe
 clear hown1 hE1 hE2 hE1s t1 t1b t2 t2b w16 hn1 hNe
 (try go_frame)
 go_wp2_with fail
 refine (chunkI_any (some ⟨g2, 0, none⟩) N c2 16 w2 (by decide)).mono ?_
 rintro e w3 ⟨rfl, hW3⟩
 have X3 : Ext w2 w3 := by rw [← hW3]; exact ((Ext.refl w2).alloc _).alloc _
 have hs3 : w3.heap.size = w2.heap.size + 2 := by rw [← hW3]; simp
 have k0 : Boxed w3 w2.heap.size 22 (.slice (some ⟨g2, 0, none⟩) N c2) := by rw [← hW3]; exact (((Ext.refl _).alloc _).block w2.heap.size (by simp)).trans (heap_alloc_new w2 _)
 have k1 : Boxed w3 (w2.heap.size + 1) 3 (.int .i64 16) := by
  rw [← hW3]
  have := heap_alloc_new (w2.alloc (.cells #[.slice (some ⟨g2, 0, none⟩) N c2] 22)) (.cells #[.int .i64 16] 3)
  rw [World.size_alloc] at this
  exact this
 clear hW3
 go_wp2_with fail
 obtain ⟨M, hM⟩ : ∃ M : Nat → Prop, M = fun q => q = w.heap.size ∨ w3.heap.size ≤ q := ⟨_, rfl⟩
 have hg2 : w.heap.size + 1 ≤ g2 ∧ g2 < w2.heap.size := hown2.lt g2 rfl
 refine (wpIn_wide (n := 9)).1 ?_
 refine wpIn_rangeFunc_J (n := 9) (α := Nat) (gf := 101) (lb := #[.pointer (some ⟨w2.heap.size, 0, none⟩), .pointer (some ⟨w2.heap.size + 1, 0, none⟩)]) rfl (enters_of Tryz.func101 (by kernel_rfl) rfl)
  (encs := fun x => #[.slice (some ⟨g2, 16 * x, none⟩) 16 16]) (fun _ => rfl)
  (fun k V => (∃ ra rc, Boxed V w.heap.size 63 (.slice ra (65 * k) rc) ∧ V.ownsRow w3.heap.size 5 1 (.slice ra (65 * k) rc) (65 * k) (ub (natI ((List.range k).flatMap (tapeB ws))))) ∧ KpM M w3 V)
  (fun k x V => x = k)
  nb (KpM M) (fun h k => h.trans k) ?kb ?tj ?tx ?h0 ?call
  (fun x => { tmps := #[.slice a n c, undef, .pointer (some ⟨w.heap.size, 0, none⟩), .slice (some ⟨g2, 0, none⟩) N c2, .slice (some ⟨g2, 16 * x, none⟩) 16 16, undef, undef, undef, undef, .slice a n c, .int .i64 n, .slice (some ⟨w.heap.size + 1, 0, none⟩) 1 1, .slice a n c, .slice (some ⟨g1, 0, none⟩) n1 c1, .slice (some ⟨g1, 0, none⟩) n1 c1, .slice (some ⟨g1, 0, none⟩) n1 c1, .int .i64 n1, .int .i64 r16, .int .i64 (16 - (r16 : Int)), .int .i64 pad, .slice (some ⟨g2, 0, none⟩) N c2, .slice (some ⟨g2, 0, none⟩) N c2, .func (.func 101) #[] #[.pointer (some ⟨w2.heap.size, 0, none⟩), .pointer (some ⟨w2.heap.size + 1, 0, none⟩)], .slice (some ⟨g2, 16 * x, none⟩) 16 16, undef, undef, undef, undef, undef, undef, undef, undef, undef, undef, undef, undef, undef, undef, undef, undef, undef, undef, undef, undef, undef, undef, undef, undef, undef, undef, undef, undef, undef], defers := [] }) ?assign ?body ?done
 case kb => exact fun V o o' _ _ => KpM.put V _ o' (by rw [hM]; exact .inr (by omega))
 case tj =>
  rintro m V o o' ⟨⟨ra, rc, h1, h2⟩, h3⟩ ho hn
  have kp := KpM.put (M := fun q => q = w3.heap.size + 1) V (w3.heap.size + 1) o' rfl
  refine ⟨⟨ra, rc, boxed_kp h1 kp (by omega), h2.1, ?_⟩, h3.trans (KpM.put V _ o' (by rw [hM]; exact .inr (by omega)))⟩
  rcases h2.2 with h4 | ⟨q, cap, cur, h4, hb, hg, r⟩
  ·exact .inl h4
  ·refine .inr ⟨q, cap, cur, h4, hb, ?_, r⟩
   have hne : q ≠ w3.heap.size + 1 := fun e => by
    rw [e, ho] at hg
    rw [Option.some.inj hg] at hn
    cases hn
   exact (kp.2 q (lt_of_block hg) hne).trans hg
 case tx => exact fun m x V o o' h _ _ => h
 case h0 => exact fun V E => ⟨⟨none, 0, (E.block w.heap.size (by omega)).trans ((X3.block w.heap.size hs2).trans hbx), World.ownsRow_nil _ _ _ _⟩, KpM.of_ext E⟩
 case call =>
  intro yl JJ V1 E1' hlt' hJJ hJk hY h0
  exact chunkI_in 8 (by decide) yl w2.heap.size (w2.heap.size + 1) g2 c2 nb N hNb hcap hcap2 hN576 M (by rw [hM]; omega) (by rw [hM]; omega) JJ V1 (fun k W m h => hJk k W _ h ⟨(by obtain ⟨⟨ra, rc, p1, p2⟩, _⟩ := (hJJ k W h).1; exact ⟨ra, rc, p1, own_extX p2 (ext_drewN (Ext.refl W) m)⟩), (hJJ k W h).1.2.trans (KpM.of_ext (ext_drewN (Ext.refl W) m))⟩ rfl rfl) (fun m V hm hms => hY m _ V hm hms rfl) (show Boxed V1 w2.heap.size 22 _ from (E1'.block _ (by omega)).trans k0).cell (show Boxed V1 (w2.heap.size + 1) 3 _ from (E1'.block _ (by omega)).trans k1).cell (by have := E1'.size; omega) (by have := E1'.size; omega) h0
 case assign =>
  intro l' x V KK hKK
  gi_wp2
  exact hKK
 case body =>
  rintro l' m x V ⟨⟨ra, rc, h1, h2⟩, h3⟩ hm rfl
  dsimp only
  obtain ⟨q, hq⟩ : ∃ q, 65 * x = q := ⟨_, rfl⟩
  rw [hq] at h1 h2
  have c1 := h1.cell
  have f1 := h1.frozen
  obtain ⟨ch, hch⟩ : ∃ ch, ((padW ws).drop (16 * x)).take 16 = ch := ⟨_, rfl⟩
  obtain ⟨pre, hpre⟩ : ∃ pre, (List.range x).flatMap (tapeB ws) = pre := ⟨_, rfl⟩
  have hpl : pre.length = q := by rw [← hpre, ← hq]; exact tape_part_len (by rw [HNB.out]; omega)
  have hcl : ch.length = 16 := by rw [← hch, List.length_take, List.length_drop, HNL.out]; have := HNe.out; omega
  have hnext : (List.range (x + 1)).flatMap (tapeB ws) = pre ++ (ch.flatMap rowsW ++ [oddR (chk (ch.flatMap rowsW))]) := by rw [tape_snoc, hpre]; unfold tapeB; rw [hch]; rfl
  have HX := Lib.hid hnext
  have HCL := Lib.hid hcl
  have HCH := Lib.hid hch
  have HPL := Lib.hid hpl
  have HM := Lib.hid hM
  have HR : Hid (BoxRow M w.heap.size w3.heap.size V V pre) := Lib.hid ⟨ra, rc, by rw [hpl]; exact h1, by rw [hpl, ← hpre]; exact h2, KeepsOthers.refl _, KpM.refl _ _⟩
  have hq40 : q ≤ 65 * 36 := by omega
  have HQ := Lib.hid hq
  clear hpre hpl hcl hch hnext hq
  gi_wp2
  gi_loopw [28] (fun s28 wr => ∃ i : Nat, i ≤ 16 ∧ s28 = .int .i64 (i : Int) ∧ Hid (BoxRow M w.heap.size w3.heap.size V wr (pre ++ (ch.take i).flatMap rowsW))) (fun s28 _ => 16 - (intOf s28).toNat)
  case atStart => exact ⟨0, by omega, rfl, by simpa using HR⟩
  case round =>
   obtain ⟨i, hi, rfl, HB⟩ := hrel
   by_cases hlt : i < 16
   ·have hltz : (i : Int) < (16 : Int) := by omega
    obtain ⟨y, hy⟩ : ∃ y, ch[i]?.getD 0 = y := ⟨_, rfl⟩
    have hyp : (padW ws)[16 * x + i]?.getD 0 = y := by
     rw [← hy, ← HCH.out, List.getElem?_take, if_pos hlt, List.getElem?_drop]
    have hcell : wr.cell? ⟨g2, 16 * x + i, none⟩ = some (.int .i64 y) := by
     obtain ⟨_, _, _, _, _, km1⟩ := HB.out
     have k1 : KpM M w3 wr := h3.trans km1
     have hb := k1.block g2 (by omega) (by rw [HM.out]; omega)
     have hb2 := X3.block g2 hg2.2
     have := World.cell?_of_block (w := w2) (a := ⟨g2, 16 * x + i, none⟩) (hb.trans hb2)
     rw [this]
     rcases own_ints hown2 with e | ⟨b, off, e1, _, hc⟩
     ·have := HNL.out; rw [e] at this; simp at this; omega
     ·obtain ⟨rfl, rfl⟩ : b = g2 ∧ off = 0 := by cases e1; exact ⟨rfl, rfl⟩
      have := hc (16 * x + i) (by rw [HNL.out]; have := HNe.out; omega)
      rw [Nat.zero_add, hyp] at this
      exact this
    have hyb : 0 ≤ y ∧ y ≤ 16777215 := by
     have hl : 16 * x + i < (padW ws).length := by rw [HNL.out]; have := HNe.out; omega
     rw [List.getElem?_eq_getElem hl] at hyp
     rw [← hyp]
     exact HWB.out _ (List.getElem_mem hl)
    have HY := Lib.hid hy
    clear hy hyp
    gi_wp2
    gi_loopw [8] (fun s8 wq => ∃ j : Nat, j ≤ 4 ∧ (∃ z : Nat, z = 6 * j ∧ s8 = .int .i64 (z : Int)) ∧ Hid (BoxRow M w.heap.size w3.heap.size V wq (pre ++ (ch.take i).flatMap rowsW ++ (rowsW y).take j))) (fun s8 _ => 24 - (intOf s8).toNat)
    case atStart => exact ⟨0, by omega, ⟨0, rfl, rfl⟩, by simpa using HB⟩
    case round =>
     obtain ⟨j, hj, ⟨z, hz, rfl⟩, HB2⟩ := hrel
     by_cases hjl : j < 4
     ·have hzl : (z : Int) < 24 := by omega
      have hz0 : (0 : Int) ≤ (z : Int) := by omega
      have HZ := Lib.hid hz
      clear hz
      obtain ⟨ra1, rc1, b1, o1, ko1, km1⟩ := HB2.out.drew
      obtain ⟨xs, hxs⟩ : ∃ xs, pre ++ (ch.take i).flatMap rowsW ++ (rowsW y).take j = xs := ⟨_, rfl⟩
      have hxl : xs.length ≤ 65 * 40 := by
       rw [← hxs, List.length_append, List.length_append, HPL.out, flat4_length, List.length_take, List.length_take]
       unfold rowsW
       simp only [List.length_cons, List.length_nil]
       omega
      rw [hxs] at b1 o1
      have HJ : Hid (xs ++ [oddR (y / 2 ^ z).toNat] = pre ++ (ch.take i).flatMap rowsW ++ (rowsW y).take (j + 1)) := Lib.hid (by
       rw [rowsW_take y hjl, ← List.append_assoc, hxs]
       unfold rowW
       have e : (y / 2 ^ z).toNat = y.toNat / 64 ^ j := by
        obtain ⟨yn, rfl⟩ := Int.eq_ofNat_of_zero_le hyb.1
        rw [HZ.out, show (2 : Int) ^ (6 * j) = ((64 ^ j : Nat) : Int) by rw [Int.pow_mul]; push_cast; rfl]
        rw [← Int.natCast_ediv, Int.toNat_natCast, Int.toNat_natCast]
       rw [e])
      clear hxs
      have hodd := fun W => odd_int_any (y / 2 ^ z) W (Int.ediv_nonneg hyb.1 (by exact Int.le_of_lt (Int.pow_pos (by decide))))
      have b1d := b1
      have o1d := o1
      have ko1d := ko1
      have km1d := km1
      have hw3r : w3.heap.size ≤ wr.drew.heap.size := by have h := h3.size; have h' := km1.size; exact Nat.le_trans h h'
      have hMb : M w.heap.size := by rw [HM.out]; exact .inl rfl
      have hM0 : ∀ q, w3.heap.size ≤ q → M q := fun q hq => by rw [HM.out]; exact .inr hq
      have cb := b1.cell
      have cba := fun ob => (b1.alloc ob).cell
      obtain ⟨iu, hiu, hu0, hu1, hu2⟩ := info_parts Tryz.infoU
      have hbx3 : w.heap.size < w3.heap.size := by omega
      have b1r : Boxed wr w.heap.size 63 _ := b1
      have cbr := fun ob => (b1r.alloc ob).cell
      gi_wp2
      refine wpIn_region_plain (by kernel_rfl) (by kernel_rfl) ?_
      refine wpAny_take (i := 1) (oi := ⟨_, _, _, _, _, _⟩) (v := ?_) rfl (by kernel_rfl) (by kernel_rfl) (by kernel_rfl) (fun _ _ _ h => h) (Or.inl ⟨by rfl, ?_⟩) ?_
      rotate_left
      ·intro wX
       go_simp
       (try with_reducible rfl)
      (try simp only [Act.put, List.setIfInBounds_toArray, List.set_cons_zero, List.set_cons_succ])
      refine wpAny_take (i := 2) (oi := ⟨_, _, _, _, _, _⟩) (v := ?_) rfl (by kernel_rfl) (by kernel_rfl) (by kernel_rfl) (fun _ _ _ h => h) (Or.inl ⟨by rfl, ?_⟩) ?_
      rotate_left
      ·intro wX
       go_simp
       (try with_reducible rfl)
      (try simp only [Act.put, List.setIfInBounds_toArray, List.set_cons_zero, List.set_cons_succ])
      refine wpAny_take (i := 3) (oi := ⟨_, _, _, _, _, _⟩) (v := ?_) rfl (by kernel_rfl) (by kernel_rfl) (by kernel_rfl) (fun _ _ _ h => h) (Or.inl ⟨by rfl, ?_⟩) ?_
      rotate_left
      ·intro wX
       go_simp
       (try with_reducible rfl)
      (try simp only [Act.put, List.setIfInBounds_toArray, List.set_cons_zero, List.set_cons_succ])
      refine wpAny_ready (rs := [0, 4]) (by kernel_rfl) (by simp) ?_
      refine AllReady.cons (o := ⟨_, _, _, _, _, _⟩) rfl (fun K hK => ?_) (AllReady.cons (o := ⟨_, _, _, _, _, _⟩) rfl (fun K hK => ?_) AllReady.nil)
      ·go_simp
       refine hK _ _ ?_
       clear hK K
       (try simp only [Act.put, List.setIfInBounds_toArray, List.set_cons_zero, List.set_cons_succ])
       refine wpAny_ready (rs := [4]) (by kernel_rfl) (by simp) ?_
       refine AllReady.cons (o := ⟨_, _, _, _, _, _⟩) rfl (fun K hK => ?_) AllReady.nil
       go_simp
       go_at_call 86
       refine (hodd _).mono ?_
       rintro e wz ⟨rfl, rfl⟩
       (try go_simp)
       refine hK _ _ ?_
       clear hK K
       (try simp only [Act.put, List.setIfInBounds_toArray, List.set_cons_zero, List.set_cons_succ])
       refine wpAny_ready (rs := [5]) (by kernel_rfl) (by simp) ?_
       refine AllReady.cons (o := ⟨_, _, _, _, _, _⟩) rfl (fun K hK => ?_) AllReady.nil
       go_simp
       refine hK _ _ ?_
       clear hK K
       (try simp only [Act.put, List.setIfInBounds_toArray, List.set_cons_zero, List.set_cons_succ])
       refine wpAny_ready (rs := [6]) (by kernel_rfl) (by simp) ?_
       refine AllReady.cons (o := ⟨_, _, _, _, _, _⟩) rfl (fun K hK => ?_) AllReady.nil
       refine step_append_lies _ (by rfl) (.tmp 36) (.tmp 41) 63 (by rfl) w3.heap.size 5 iu (.int .u8 0) 1 1 Tryz.underlying63 hiu hu0 hu1 hu2 rfl (by omega) _ _ _ (by rfl) (World.ownsRow.alloc o1d _) ⟨wr.drew.heap.size, 0, none⟩ 1 1 [.int .u8 (oddR (y / 2 ^ z).toNat : Nat)] (by rfl) (by rfl) (cell_one_new _ _ _) (by simp [Value.oneCell']) (by omega) (by unfold maxLen; omega) (by omega) (by first | exact Nat.le_succ_of_le hw3r | (refine Nat.le_trans hw3r (Nat.le_of_lt ?_); simp) | (show w3.heap.size ≤ (World.alloc _ _).heap.size; rw [World.size_alloc]; exact Nat.le_succ_of_le hw3r)) _ rfl ?_
       intro g1x cap1 w1x hown1 hgrow1 _ _
       obtain ⟨q1, q2⟩ := BoxRow.push b1d o1d ko1d km1d (by omega) hw3r hMb hM0 hown1 hgrow1
       have q3 := q1.cell
       have q4 := q1.frozen
       refine hK _ _ ?_
       clear hK K
       (try simp only [Act.put, List.setIfInBounds_toArray, List.set_cons_zero, List.set_cons_succ])
       refine wpAny_ready (rs := [7]) (by kernel_rfl) (by simp) ?_
       refine AllReady.cons (o := ⟨_, _, _, _, _, _⟩) rfl (fun K hK => ?_) AllReady.nil
       go_simp
       refine hK _ _ ?_
       clear hK K
       (try simp only [Act.put, List.setIfInBounds_toArray, List.set_cons_zero, List.set_cons_succ])
       refine wpAny_done (by kernel_rfl) ?_ _
       refine nq_normal ?_
       gi_wp2
       go_roundw
       case rel => exact ⟨j + 1, by omega, ⟨z + 6, by have := HZ.out; omega, by go_num⟩, by rw [← HJ.out]; exact Lib.hid q2⟩
       case measure => simp [intOf]; omega
      ·go_simp
       go_at_call 86
       refine (hodd _).mono ?_
       rintro e wz ⟨rfl, rfl⟩
       (try go_simp)
       refine hK _ _ ?_
       clear hK K
       (try simp only [Act.put, List.setIfInBounds_toArray, List.set_cons_zero, List.set_cons_succ])
       refine wpAny_ready (rs := [0, 5]) (by kernel_rfl) (by simp) ?_
       refine AllReady.cons (o := ⟨_, _, _, _, _, _⟩) rfl (fun K hK => ?_) (AllReady.cons (o := ⟨_, _, _, _, _, _⟩) rfl (fun K hK => ?_) AllReady.nil)
       ·go_simp
        refine hK _ _ ?_
        clear hK K
        (try simp only [Act.put, List.setIfInBounds_toArray, List.set_cons_zero, List.set_cons_succ])
        refine wpAny_ready (rs := [5]) (by kernel_rfl) (by simp) ?_
        refine AllReady.cons (o := ⟨_, _, _, _, _, _⟩) rfl (fun K hK => ?_) AllReady.nil
        go_simp
        refine hK _ _ ?_
        clear hK K
        (try simp only [Act.put, List.setIfInBounds_toArray, List.set_cons_zero, List.set_cons_succ])
        refine wpAny_ready (rs := [6]) (by kernel_rfl) (by simp) ?_
        refine AllReady.cons (o := ⟨_, _, _, _, _, _⟩) rfl (fun K hK => ?_) AllReady.nil
        refine step_append_lies _ (by rfl) (.tmp 36) (.tmp 41) 63 (by rfl) w3.heap.size 5 iu (.int .u8 0) 1 1 Tryz.underlying63 hiu hu0 hu1 hu2 rfl (by omega) _ _ _ (by rfl) (World.ownsRow.alloc o1d _) ⟨wr.drew.heap.size, 0, none⟩ 1 1 [.int .u8 (oddR (y / 2 ^ z).toNat : Nat)] (by rfl) (by rfl) (cell_one_new _ _ _) (by simp [Value.oneCell']) (by omega) (by unfold maxLen; omega) (by omega) (by first | exact Nat.le_succ_of_le hw3r | (refine Nat.le_trans hw3r (Nat.le_of_lt ?_); simp) | (show w3.heap.size ≤ (World.alloc _ _).heap.size; rw [World.size_alloc]; exact Nat.le_succ_of_le hw3r)) _ rfl ?_
        intro g1x cap1 w1x hown1 hgrow1 _ _
        obtain ⟨q1, q2⟩ := BoxRow.push b1d o1d ko1d km1d (by omega) hw3r hMb hM0 hown1 hgrow1
        have q3 := q1.cell
        have q4 := q1.frozen
        refine hK _ _ ?_
        clear hK K
        (try simp only [Act.put, List.setIfInBounds_toArray, List.set_cons_zero, List.set_cons_succ])
        refine wpAny_ready (rs := [7]) (by kernel_rfl) (by simp) ?_
        refine AllReady.cons (o := ⟨_, _, _, _, _, _⟩) rfl (fun K hK => ?_) AllReady.nil
        go_simp
        refine hK _ _ ?_
        clear hK K
        (try simp only [Act.put, List.setIfInBounds_toArray, List.set_cons_zero, List.set_cons_succ])
        refine wpAny_done (by kernel_rfl) ?_ _
        refine nq_normal ?_
        gi_wp2
        go_roundw
        case rel => exact ⟨j + 1, by omega, ⟨z + 6, by have := HZ.out; omega, by go_num⟩, by rw [← HJ.out]; exact Lib.hid q2⟩
        case measure => simp [intOf]; omega
       ·go_simp
        refine hK _ _ ?_
        clear hK K
        (try simp only [Act.put, List.setIfInBounds_toArray, List.set_cons_zero, List.set_cons_succ])
        refine wpAny_ready (rs := [0]) (by kernel_rfl) (by simp) ?_
        refine AllReady.cons (o := ⟨_, _, _, _, _, _⟩) rfl (fun K hK => ?_) AllReady.nil
        go_simp
        refine hK _ _ ?_
        clear hK K
        (try simp only [Act.put, List.setIfInBounds_toArray, List.set_cons_zero, List.set_cons_succ])
        refine wpAny_ready (rs := [6]) (by kernel_rfl) (by simp) ?_
        refine AllReady.cons (o := ⟨_, _, _, _, _, _⟩) rfl (fun K hK => ?_) AllReady.nil
        refine step_append_lies _ (by rfl) (.tmp 36) (.tmp 41) 63 (by rfl) w3.heap.size 5 iu (.int .u8 0) 1 1 Tryz.underlying63 hiu hu0 hu1 hu2 rfl (by omega) _ _ _ (by rfl) (World.ownsRow.alloc o1d _) ⟨wr.drew.heap.size, 0, none⟩ 1 1 [.int .u8 (oddR (y / 2 ^ z).toNat : Nat)] (by rfl) (by rfl) (cell_one_new _ _ _) (by simp [Value.oneCell']) (by omega) (by unfold maxLen; omega) (by omega) (by first | exact Nat.le_succ_of_le hw3r | (refine Nat.le_trans hw3r (Nat.le_of_lt ?_); simp) | (show w3.heap.size ≤ (World.alloc _ _).heap.size; rw [World.size_alloc]; exact Nat.le_succ_of_le hw3r)) _ rfl ?_
        intro g1x cap1 w1x hown1 hgrow1 _ _
        obtain ⟨q1, q2⟩ := BoxRow.push b1d o1d ko1d km1d (by omega) hw3r hMb hM0 hown1 hgrow1
        have q3 := q1.cell
        have q4 := q1.frozen
        refine hK _ _ ?_
        clear hK K
        (try simp only [Act.put, List.setIfInBounds_toArray, List.set_cons_zero, List.set_cons_succ])
        refine wpAny_ready (rs := [7]) (by kernel_rfl) (by simp) ?_
        refine AllReady.cons (o := ⟨_, _, _, _, _, _⟩) rfl (fun K hK => ?_) AllReady.nil
        go_simp
        refine hK _ _ ?_
        clear hK K
        (try simp only [Act.put, List.setIfInBounds_toArray, List.set_cons_zero, List.set_cons_succ])
        refine wpAny_done (by kernel_rfl) ?_ _
        refine nq_normal ?_
        gi_wp2
        go_roundw
        case rel => exact ⟨j + 1, by omega, ⟨z + 6, by have := HZ.out; omega, by go_num⟩, by rw [← HJ.out]; exact Lib.hid q2⟩
        case measure => simp [intOf]; omega
     ·obtain rfl : j = 4 := by omega
      have hzl : ¬ (z : Int) < 24 := by omega
      have HZ := Lib.hid hz
      clear hz
      have HB3 : Hid (BoxRow M w.heap.size w3.heap.size V wr (pre ++ (ch.take (i + 1)).flatMap rowsW)) := by
       have h := HB2.out
       rw [show (rowsW y).take 4 = rowsW y from rfl, List.append_assoc] at h
       rw [rows_snoc ch (by rw [HCL.out]; exact hlt), HY.out]
       exact Lib.hid h
      gi_wp2
      go_roundw
      case rel => exact ⟨i + 1, by omega, by go_num, HB3⟩
      case measure => simp [intOf]; omega
   ·obtain rfl : i = 16 := by omega
    have hltz : ¬ (16 : Int) < (16 : Int) := by omega
    obtain ⟨ra1, rc1, b1, o1, ko1, km1⟩ := HB.out.drew
    obtain ⟨xs, hxs⟩ : ∃ xs, pre ++ (ch.take 16).flatMap rowsW = xs := ⟨_, rfl⟩
    rw [List.take_of_length_le (by rw [HCL.out]; exact Nat.le_refl _)] at hxs
    rw [List.take_of_length_le (by rw [HCL.out]; exact Nat.le_refl _), hxs] at b1 o1
    have hxl : xs.length = q + 64 := by
     rw [← hxs, List.length_append, HPL.out, flat4_length, HCL.out]
    have hbd : BytesAt wr.drew ra1 (natI xs) := own_bytes o1
    have HXS := Lib.hid hxs
    clear hxs
    obtain ⟨gr, cr, hgr⟩ := ownsRow_form o1 (by omega)
    obtain ⟨rfl, -, rfl⟩ := Value.slice.inj hgr
    clear hgr
    have hcr := own_cap o1
    have hs1 := fun W => slice_fromU W gr 0 xs.length rc1 q (by omega) (by omega)
    rw [show xs.length - q = 64 by omega, Nat.zero_add] at hs1
    have hs1' := fun W => at_sliceU (hs1 W)
    have hsub : BytesAt wr.drew (some ⟨gr, q, none⟩) (natI (ch.flatMap rowsW)) := by
     have h := sub_u8s (lo := q) (k := 64) hbd (by omega)
     rw [Nat.zero_add] at h
     rw [← HXS.out, List.drop_left' HPL.out, List.take_of_length_le (by rw [flat4_length, HCL.out]; exact Nat.le_refl _)] at h
     exact h
    have hlt256 : ∀ r ∈ ch.flatMap rowsW, r < 256 := rows_lt (rowsW_odd ch)
    have hchk := check10_any (some ⟨gr, q, none⟩) 64 (rc1 - q) (ch.flatMap rowsW) wr.drew (by rw [flat4_length, HCL.out]) (by decide) hlt256 hsub
    have hck64 : chk (ch.flatMap rowsW) < 64 := Nat.mod_lt _ (by decide)
    have hodd := fun W => odd_byte_any (chk (ch.flatMap rowsW)) W hck64
    obtain ⟨ck, hck⟩ : ∃ ck, chk (ch.flatMap rowsW) = ck := ⟨_, rfl⟩
    rw [hck] at hchk hodd
    have HCK := Lib.hid hck
    clear hck hck64 hlt256 hsub hbd
    have b1d := b1
    have o1d := o1
    have ko1d := ko1
    have km1d := km1
    have hw3r : w3.heap.size ≤ wr.drew.heap.size := by have h := h3.size; have h' := km1.size; exact Nat.le_trans h h'
    have hMb : M w.heap.size := by rw [HM.out]; exact .inl rfl
    have hM0 : ∀ q, w3.heap.size ≤ q → M q := fun q hq => by rw [HM.out]; exact .inr hq
    have cb := b1.cell
    have cba := fun ob => (b1.alloc ob).cell
    obtain ⟨iu, hiu, hu0, hu1, hu2⟩ := info_parts Tryz.infoU
    have hbx3 : w.heap.size < w3.heap.size := by omega
    have b1r : Boxed wr w.heap.size 63 _ := b1
    have cbr := fun ob => (b1r.alloc ob).cell
    have HXL := Lib.hid hxl
    have hle1 : q ≤ xs.length := by omega
    have hne1 : ¬ rc1 = q := by omega
    have hxb : xs.length ≤ 65 * 40 := by omega
    have hx65 : 65 * (x + 1) = q + 65 := by have := HQ.out; omega
    have hrow : (List.range (x + 1)).flatMap (tapeB ws) = xs ++ [oddR ck] := by rw [HX.out, ← List.append_assoc, HXS.out, HCK.out]
    have FIN : ∀ W', BoxRow M w.heap.size w3.heap.size V W' (xs ++ [oddR ck]) → KeepsFrom w3.heap.size V W' ∧ KpM M V W' ∧ (∃ ra rc, Boxed W' w.heap.size 63 (.slice ra (65 * (x + 1)) rc) ∧ W'.ownsRow w3.heap.size 5 1 (.slice ra (65 * (x + 1)) rc) (65 * (x + 1)) (ub (natI ((List.range (x + 1)).flatMap (tapeB ws))))) ∧ KpM M w3 W' := by
     rintro W' ⟨ra', rc', f1, f2, f3, f4⟩
     rw [List.length_append, List.length_cons, List.length_nil, hxl] at f1 f2
     refine ⟨f3.from _, f4, ⟨ra', rc', ?_, ?_⟩, h3.trans f4⟩
     ·rw [hx65]; exact f1
     ·rw [hx65, hrow]; exact f2
    have HFIN := Lib.hid FIN
    clear hxl FIN hrow hx65
    gi_wp2
    refine wpIn_region_plain (by kernel_rfl) (by kernel_rfl) ?_
    refine wpAny_take (i := 2) (oi := ⟨_, _, _, _, _, _⟩) (v := ?_) rfl (by kernel_rfl) (by kernel_rfl) (by kernel_rfl) (fun _ _ _ h => h) (Or.inl ⟨by rfl, ?_⟩) ?_
    rotate_left
    ·intro wX
     go_simp
     (try with_reducible rfl)
    (try simp only [Act.put, List.setIfInBounds_toArray, List.set_cons_zero, List.set_cons_succ])
    refine wpAny_ready (rs := [0, 1]) (by kernel_rfl) (by simp) ?_
    refine AllReady.cons (o := ⟨_, _, _, _, _, _⟩) rfl (fun K hK => ?_) (AllReady.cons (o := ⟨_, _, _, _, _, _⟩) rfl (fun K hK => ?_) AllReady.nil)
    ·go_simp
     refine hK _ _ ?_
     clear hK K
     (try simp only [Act.put, List.setIfInBounds_toArray, List.set_cons_zero, List.set_cons_succ])
     refine wpAny_ready (rs := [1]) (by kernel_rfl) (by simp) ?_
     refine AllReady.cons (o := ⟨_, _, _, _, _, _⟩) rfl (fun K hK => ?_) AllReady.nil
     go_simp
     refine hK _ _ ?_
     clear hK K
     (try simp only [Act.put, List.setIfInBounds_toArray, List.set_cons_zero, List.set_cons_succ])
     refine wpAny_ready (rs := [3]) (by kernel_rfl) (by simp) ?_
     refine AllReady.cons (o := ⟨_, _, _, _, _, _⟩) rfl (fun K hK => ?_) AllReady.nil
     go_simp
     refine hK _ _ ?_
     clear hK K
     (try simp only [Act.put, List.setIfInBounds_toArray, List.set_cons_zero, List.set_cons_succ])
     refine wpAny_ready (rs := [4]) (by kernel_rfl) (by simp) ?_
     refine AllReady.cons (o := ⟨_, _, _, _, _, _⟩) rfl (fun K hK => ?_) AllReady.nil
     go_simp
     go_at_call 88
     refine hchk.mono ?_
     rintro e wz ⟨rfl, rfl⟩
     (try go_simp)
     refine hK _ _ ?_
     clear hK K
     (try simp only [Act.put, List.setIfInBounds_toArray, List.set_cons_zero, List.set_cons_succ])
     refine wpAny_ready (rs := [5]) (by kernel_rfl) (by simp) ?_
     refine AllReady.cons (o := ⟨_, _, _, _, _, _⟩) rfl (fun K hK => ?_) AllReady.nil
     go_simp
     go_at_call 87
     refine (hodd _).mono ?_
     rintro e wz ⟨rfl, rfl⟩
     (try go_simp)
     refine hK _ _ ?_
     clear hK K
     (try simp only [Act.put, List.setIfInBounds_toArray, List.set_cons_zero, List.set_cons_succ])
     refine wpAny_ready (rs := [6]) (by kernel_rfl) (by simp) ?_
     refine AllReady.cons (o := ⟨_, _, _, _, _, _⟩) rfl (fun K hK => ?_) AllReady.nil
     go_simp
     refine hK _ _ ?_
     clear hK K
     (try simp only [Act.put, List.setIfInBounds_toArray, List.set_cons_zero, List.set_cons_succ])
     refine wpAny_ready (rs := [7]) (by kernel_rfl) (by simp) ?_
     refine AllReady.cons (o := ⟨_, _, _, _, _, _⟩) rfl (fun K hK => ?_) AllReady.nil
     refine step_append_lies _ (by rfl) (.tmp 44) (.tmp 50) 63 (by rfl) w3.heap.size 5 iu (.int .u8 0) 1 1 Tryz.underlying63 hiu hu0 hu1 hu2 rfl (by omega) _ _ _ (by rfl) (World.ownsRow.alloc o1d _) ⟨wr.drew.heap.size, 0, none⟩ 1 1 [.int .u8 (oddR ck : Nat)] (by rfl) (by rfl) (cell_one_new _ _ _) (by simp [Value.oneCell']) (by omega) (by unfold maxLen; omega) (by omega) (by first | exact Nat.le_succ_of_le hw3r | (refine Nat.le_trans hw3r (Nat.le_of_lt ?_); simp) | (show w3.heap.size ≤ (World.alloc _ _).heap.size; rw [World.size_alloc]; exact Nat.le_succ_of_le hw3r)) _ rfl ?_
     intro g1x cap1 w1x hown1 hgrow1 _ _
     obtain ⟨q1, q2⟩ := BoxRow.push b1d o1d ko1d km1d (by omega) hw3r hMb hM0 hown1 hgrow1
     have q3 := q1.cell
     have q4 := q1.frozen
     refine hK _ _ ?_
     clear hK K
     (try simp only [Act.put, List.setIfInBounds_toArray, List.set_cons_zero, List.set_cons_succ])
     refine wpAny_ready (rs := [8]) (by kernel_rfl) (by simp) ?_
     refine AllReady.cons (o := ⟨_, _, _, _, _, _⟩) rfl (fun K hK => ?_) AllReady.nil
     go_simp
     refine hK _ _ ?_
     clear hK K
     (try simp only [Act.put, List.setIfInBounds_toArray, List.set_cons_zero, List.set_cons_succ])
     refine wpAny_done (by kernel_rfl) ?_ _
     refine nq_normal ?_
     gi_wp2
     exact ⟨rfl, HFIN.out _ q2⟩
    ·go_simp
     refine hK _ _ ?_
     clear hK K
     (try simp only [Act.put, List.setIfInBounds_toArray, List.set_cons_zero, List.set_cons_succ])
     refine wpAny_ready (rs := [0, 3]) (by kernel_rfl) (by simp) ?_
     refine AllReady.cons (o := ⟨_, _, _, _, _, _⟩) rfl (fun K hK => ?_) (AllReady.cons (o := ⟨_, _, _, _, _, _⟩) rfl (fun K hK => ?_) AllReady.nil)
     ·go_simp
      refine hK _ _ ?_
      clear hK K
      (try simp only [Act.put, List.setIfInBounds_toArray, List.set_cons_zero, List.set_cons_succ])
      refine wpAny_ready (rs := [3]) (by kernel_rfl) (by simp) ?_
      refine AllReady.cons (o := ⟨_, _, _, _, _, _⟩) rfl (fun K hK => ?_) AllReady.nil
      go_simp
      refine hK _ _ ?_
      clear hK K
      (try simp only [Act.put, List.setIfInBounds_toArray, List.set_cons_zero, List.set_cons_succ])
      refine wpAny_ready (rs := [4]) (by kernel_rfl) (by simp) ?_
      refine AllReady.cons (o := ⟨_, _, _, _, _, _⟩) rfl (fun K hK => ?_) AllReady.nil
      go_simp
      go_at_call 88
      refine hchk.mono ?_
      rintro e wz ⟨rfl, rfl⟩
      (try go_simp)
      refine hK _ _ ?_
      clear hK K
      (try simp only [Act.put, List.setIfInBounds_toArray, List.set_cons_zero, List.set_cons_succ])
      refine wpAny_ready (rs := [5]) (by kernel_rfl) (by simp) ?_
      refine AllReady.cons (o := ⟨_, _, _, _, _, _⟩) rfl (fun K hK => ?_) AllReady.nil
      go_simp
      go_at_call 87
      refine (hodd _).mono ?_
      rintro e wz ⟨rfl, rfl⟩
      (try go_simp)
      refine hK _ _ ?_
      clear hK K
      (try simp only [Act.put, List.setIfInBounds_toArray, List.set_cons_zero, List.set_cons_succ])
      refine wpAny_ready (rs := [6]) (by kernel_rfl) (by simp) ?_
      refine AllReady.cons (o := ⟨_, _, _, _, _, _⟩) rfl (fun K hK => ?_) AllReady.nil
      go_simp
      refine hK _ _ ?_
      clear hK K
      (try simp only [Act.put, List.setIfInBounds_toArray, List.set_cons_zero, List.set_cons_succ])
      refine wpAny_ready (rs := [7]) (by kernel_rfl) (by simp) ?_
      refine AllReady.cons (o := ⟨_, _, _, _, _, _⟩) rfl (fun K hK => ?_) AllReady.nil
      refine step_append_lies _ (by rfl) (.tmp 44) (.tmp 50) 63 (by rfl) w3.heap.size 5 iu (.int .u8 0) 1 1 Tryz.underlying63 hiu hu0 hu1 hu2 rfl (by omega) _ _ _ (by rfl) (World.ownsRow.alloc o1d _) ⟨wr.drew.heap.size, 0, none⟩ 1 1 [.int .u8 (oddR ck : Nat)] (by rfl) (by rfl) (cell_one_new _ _ _) (by simp [Value.oneCell']) (by omega) (by unfold maxLen; omega) (by omega) (by first | exact Nat.le_succ_of_le hw3r | (refine Nat.le_trans hw3r (Nat.le_of_lt ?_); simp) | (show w3.heap.size ≤ (World.alloc _ _).heap.size; rw [World.size_alloc]; exact Nat.le_succ_of_le hw3r)) _ rfl ?_
      intro g1x cap1 w1x hown1 hgrow1 _ _
      obtain ⟨q1, q2⟩ := BoxRow.push b1d o1d ko1d km1d (by omega) hw3r hMb hM0 hown1 hgrow1
      have q3 := q1.cell
      have q4 := q1.frozen
      refine hK _ _ ?_
      clear hK K
      (try simp only [Act.put, List.setIfInBounds_toArray, List.set_cons_zero, List.set_cons_succ])
      refine wpAny_ready (rs := [8]) (by kernel_rfl) (by simp) ?_
      refine AllReady.cons (o := ⟨_, _, _, _, _, _⟩) rfl (fun K hK => ?_) AllReady.nil
      go_simp
      refine hK _ _ ?_
      clear hK K
      (try simp only [Act.put, List.setIfInBounds_toArray, List.set_cons_zero, List.set_cons_succ])
      refine wpAny_done (by kernel_rfl) ?_ _
      refine nq_normal ?_
      gi_wp2
      exact ⟨rfl, HFIN.out _ q2⟩
     ·go_simp
      refine hK _ _ ?_
      clear hK K
      (try simp only [Act.put, List.setIfInBounds_toArray, List.set_cons_zero, List.set_cons_succ])
      refine wpAny_ready (rs := [0, 4]) (by kernel_rfl) (by simp) ?_
      refine AllReady.cons (o := ⟨_, _, _, _, _, _⟩) rfl (fun K hK => ?_) (AllReady.cons (o := ⟨_, _, _, _, _, _⟩) rfl (fun K hK => ?_) AllReady.nil)
      ·go_simp
       refine hK _ _ ?_
       clear hK K
       (try simp only [Act.put, List.setIfInBounds_toArray, List.set_cons_zero, List.set_cons_succ])
       refine wpAny_ready (rs := [4]) (by kernel_rfl) (by simp) ?_
       refine AllReady.cons (o := ⟨_, _, _, _, _, _⟩) rfl (fun K hK => ?_) AllReady.nil
       go_simp
       go_at_call 88
       refine hchk.mono ?_
       rintro e wz ⟨rfl, rfl⟩
       (try go_simp)
       refine hK _ _ ?_
       clear hK K
       (try simp only [Act.put, List.setIfInBounds_toArray, List.set_cons_zero, List.set_cons_succ])
       refine wpAny_ready (rs := [5]) (by kernel_rfl) (by simp) ?_
       refine AllReady.cons (o := ⟨_, _, _, _, _, _⟩) rfl (fun K hK => ?_) AllReady.nil
       go_simp
       go_at_call 87
       refine (hodd _).mono ?_
       rintro e wz ⟨rfl, rfl⟩
       (try go_simp)
       refine hK _ _ ?_
       clear hK K
       (try simp only [Act.put, List.setIfInBounds_toArray, List.set_cons_zero, List.set_cons_succ])
       refine wpAny_ready (rs := [6]) (by kernel_rfl) (by simp) ?_
       refine AllReady.cons (o := ⟨_, _, _, _, _, _⟩) rfl (fun K hK => ?_) AllReady.nil
       go_simp
       refine hK _ _ ?_
       clear hK K
       (try simp only [Act.put, List.setIfInBounds_toArray, List.set_cons_zero, List.set_cons_succ])
       refine wpAny_ready (rs := [7]) (by kernel_rfl) (by simp) ?_
       refine AllReady.cons (o := ⟨_, _, _, _, _, _⟩) rfl (fun K hK => ?_) AllReady.nil
       refine step_append_lies _ (by rfl) (.tmp 44) (.tmp 50) 63 (by rfl) w3.heap.size 5 iu (.int .u8 0) 1 1 Tryz.underlying63 hiu hu0 hu1 hu2 rfl (by omega) _ _ _ (by rfl) (World.ownsRow.alloc o1d _) ⟨wr.drew.heap.size, 0, none⟩ 1 1 [.int .u8 (oddR ck : Nat)] (by rfl) (by rfl) (cell_one_new _ _ _) (by simp [Value.oneCell']) (by omega) (by unfold maxLen; omega) (by omega) (by first | exact Nat.le_succ_of_le hw3r | (refine Nat.le_trans hw3r (Nat.le_of_lt ?_); simp) | (show w3.heap.size ≤ (World.alloc _ _).heap.size; rw [World.size_alloc]; exact Nat.le_succ_of_le hw3r)) _ rfl ?_
       intro g1x cap1 w1x hown1 hgrow1 _ _
       obtain ⟨q1, q2⟩ := BoxRow.push b1d o1d ko1d km1d (by omega) hw3r hMb hM0 hown1 hgrow1
       have q3 := q1.cell
       have q4 := q1.frozen
       refine hK _ _ ?_
       clear hK K
       (try simp only [Act.put, List.setIfInBounds_toArray, List.set_cons_zero, List.set_cons_succ])
       refine wpAny_ready (rs := [8]) (by kernel_rfl) (by simp) ?_
       refine AllReady.cons (o := ⟨_, _, _, _, _, _⟩) rfl (fun K hK => ?_) AllReady.nil
       go_simp
       refine hK _ _ ?_
       clear hK K
       (try simp only [Act.put, List.setIfInBounds_toArray, List.set_cons_zero, List.set_cons_succ])
       refine wpAny_done (by kernel_rfl) ?_ _
       refine nq_normal ?_
       gi_wp2
       exact ⟨rfl, HFIN.out _ q2⟩
      ·go_simp
       go_at_call 88
       refine hchk.mono ?_
       rintro e wz ⟨rfl, rfl⟩
       (try go_simp)
       refine hK _ _ ?_
       clear hK K
       (try simp only [Act.put, List.setIfInBounds_toArray, List.set_cons_zero, List.set_cons_succ])
       refine wpAny_ready (rs := [0, 5]) (by kernel_rfl) (by simp) ?_
       refine AllReady.cons (o := ⟨_, _, _, _, _, _⟩) rfl (fun K hK => ?_) (AllReady.cons (o := ⟨_, _, _, _, _, _⟩) rfl (fun K hK => ?_) AllReady.nil)
       ·go_simp
        refine hK _ _ ?_
        clear hK K
        (try simp only [Act.put, List.setIfInBounds_toArray, List.set_cons_zero, List.set_cons_succ])
        refine wpAny_ready (rs := [5]) (by kernel_rfl) (by simp) ?_
        refine AllReady.cons (o := ⟨_, _, _, _, _, _⟩) rfl (fun K hK => ?_) AllReady.nil
        go_simp
        go_at_call 87
        refine (hodd _).mono ?_
        rintro e wz ⟨rfl, rfl⟩
        (try go_simp)
        refine hK _ _ ?_
        clear hK K
        (try simp only [Act.put, List.setIfInBounds_toArray, List.set_cons_zero, List.set_cons_succ])
        refine wpAny_ready (rs := [6]) (by kernel_rfl) (by simp) ?_
        refine AllReady.cons (o := ⟨_, _, _, _, _, _⟩) rfl (fun K hK => ?_) AllReady.nil
        go_simp
        refine hK _ _ ?_
        clear hK K
        (try simp only [Act.put, List.setIfInBounds_toArray, List.set_cons_zero, List.set_cons_succ])
        refine wpAny_ready (rs := [7]) (by kernel_rfl) (by simp) ?_
        refine AllReady.cons (o := ⟨_, _, _, _, _, _⟩) rfl (fun K hK => ?_) AllReady.nil
        refine step_append_lies _ (by rfl) (.tmp 44) (.tmp 50) 63 (by rfl) w3.heap.size 5 iu (.int .u8 0) 1 1 Tryz.underlying63 hiu hu0 hu1 hu2 rfl (by omega) _ _ _ (by rfl) (World.ownsRow.alloc o1d _) ⟨wr.drew.heap.size, 0, none⟩ 1 1 [.int .u8 (oddR ck : Nat)] (by rfl) (by rfl) (cell_one_new _ _ _) (by simp [Value.oneCell']) (by omega) (by unfold maxLen; omega) (by omega) (by first | exact Nat.le_succ_of_le hw3r | (refine Nat.le_trans hw3r (Nat.le_of_lt ?_); simp) | (show w3.heap.size ≤ (World.alloc _ _).heap.size; rw [World.size_alloc]; exact Nat.le_succ_of_le hw3r)) _ rfl ?_
        intro g1x cap1 w1x hown1 hgrow1 _ _
        obtain ⟨q1, q2⟩ := BoxRow.push b1d o1d ko1d km1d (by omega) hw3r hMb hM0 hown1 hgrow1
        have q3 := q1.cell
        have q4 := q1.frozen
        refine hK _ _ ?_
        clear hK K
        (try simp only [Act.put, List.setIfInBounds_toArray, List.set_cons_zero, List.set_cons_succ])
        refine wpAny_ready (rs := [8]) (by kernel_rfl) (by simp) ?_
        refine AllReady.cons (o := ⟨_, _, _, _, _, _⟩) rfl (fun K hK => ?_) AllReady.nil
        go_simp
        refine hK _ _ ?_
        clear hK K
        (try simp only [Act.put, List.setIfInBounds_toArray, List.set_cons_zero, List.set_cons_succ])
        refine wpAny_done (by kernel_rfl) ?_ _
        refine nq_normal ?_
        gi_wp2
        exact ⟨rfl, HFIN.out _ q2⟩
       ·go_simp
        go_at_call 87
        refine (hodd _).mono ?_
        rintro e wz ⟨rfl, rfl⟩
        (try go_simp)
        refine hK _ _ ?_
        clear hK K
        (try simp only [Act.put, List.setIfInBounds_toArray, List.set_cons_zero, List.set_cons_succ])
        refine wpAny_ready (rs := [0, 6]) (by kernel_rfl) (by simp) ?_
        refine AllReady.cons (o := ⟨_, _, _, _, _, _⟩) rfl (fun K hK => ?_) (AllReady.cons (o := ⟨_, _, _, _, _, _⟩) rfl (fun K hK => ?_) AllReady.nil)
        ·go_simp
         refine hK _ _ ?_
         clear hK K
         (try simp only [Act.put, List.setIfInBounds_toArray, List.set_cons_zero, List.set_cons_succ])
         refine wpAny_ready (rs := [6]) (by kernel_rfl) (by simp) ?_
         refine AllReady.cons (o := ⟨_, _, _, _, _, _⟩) rfl (fun K hK => ?_) AllReady.nil
         go_simp
         refine hK _ _ ?_
         clear hK K
         (try simp only [Act.put, List.setIfInBounds_toArray, List.set_cons_zero, List.set_cons_succ])
         refine wpAny_ready (rs := [7]) (by kernel_rfl) (by simp) ?_
         refine AllReady.cons (o := ⟨_, _, _, _, _, _⟩) rfl (fun K hK => ?_) AllReady.nil
         refine step_append_lies _ (by rfl) (.tmp 44) (.tmp 50) 63 (by rfl) w3.heap.size 5 iu (.int .u8 0) 1 1 Tryz.underlying63 hiu hu0 hu1 hu2 rfl (by omega) _ _ _ (by rfl) (World.ownsRow.alloc o1d _) ⟨wr.drew.heap.size, 0, none⟩ 1 1 [.int .u8 (oddR ck : Nat)] (by rfl) (by rfl) (cell_one_new _ _ _) (by simp [Value.oneCell']) (by omega) (by unfold maxLen; omega) (by omega) (by first | exact Nat.le_succ_of_le hw3r | (refine Nat.le_trans hw3r (Nat.le_of_lt ?_); simp) | (show w3.heap.size ≤ (World.alloc _ _).heap.size; rw [World.size_alloc]; exact Nat.le_succ_of_le hw3r)) _ rfl ?_
         intro g1x cap1 w1x hown1 hgrow1 _ _
         obtain ⟨q1, q2⟩ := BoxRow.push b1d o1d ko1d km1d (by omega) hw3r hMb hM0 hown1 hgrow1
         have q3 := q1.cell
         have q4 := q1.frozen
         refine hK _ _ ?_
         clear hK K
         (try simp only [Act.put, List.setIfInBounds_toArray, List.set_cons_zero, List.set_cons_succ])
         refine wpAny_ready (rs := [8]) (by kernel_rfl) (by simp) ?_
         refine AllReady.cons (o := ⟨_, _, _, _, _, _⟩) rfl (fun K hK => ?_) AllReady.nil
         go_simp
         refine hK _ _ ?_
         clear hK K
         (try simp only [Act.put, List.setIfInBounds_toArray, List.set_cons_zero, List.set_cons_succ])
         refine wpAny_done (by kernel_rfl) ?_ _
         refine nq_normal ?_
         gi_wp2
         exact ⟨rfl, HFIN.out _ q2⟩
        ·go_simp
         refine hK _ _ ?_
         clear hK K
         (try simp only [Act.put, List.setIfInBounds_toArray, List.set_cons_zero, List.set_cons_succ])
         refine wpAny_ready (rs := [0]) (by kernel_rfl) (by simp) ?_
         refine AllReady.cons (o := ⟨_, _, _, _, _, _⟩) rfl (fun K hK => ?_) AllReady.nil
         go_simp
         refine hK _ _ ?_
         clear hK K
         (try simp only [Act.put, List.setIfInBounds_toArray, List.set_cons_zero, List.set_cons_succ])
         refine wpAny_ready (rs := [7]) (by kernel_rfl) (by simp) ?_
         refine AllReady.cons (o := ⟨_, _, _, _, _, _⟩) rfl (fun K hK => ?_) AllReady.nil
         refine step_append_lies _ (by rfl) (.tmp 44) (.tmp 50) 63 (by rfl) w3.heap.size 5 iu (.int .u8 0) 1 1 Tryz.underlying63 hiu hu0 hu1 hu2 rfl (by omega) _ _ _ (by rfl) (World.ownsRow.alloc o1d _) ⟨wr.drew.heap.size, 0, none⟩ 1 1 [.int .u8 (oddR ck : Nat)] (by rfl) (by rfl) (cell_one_new _ _ _) (by simp [Value.oneCell']) (by omega) (by unfold maxLen; omega) (by omega) (by first | exact Nat.le_succ_of_le hw3r | (refine Nat.le_trans hw3r (Nat.le_of_lt ?_); simp) | (show w3.heap.size ≤ (World.alloc _ _).heap.size; rw [World.size_alloc]; exact Nat.le_succ_of_le hw3r)) _ rfl ?_
         intro g1x cap1 w1x hown1 hgrow1 _ _
         obtain ⟨q1, q2⟩ := BoxRow.push b1d o1d ko1d km1d (by omega) hw3r hMb hM0 hown1 hgrow1
         have q3 := q1.cell
         have q4 := q1.frozen
         refine hK _ _ ?_
         clear hK K
         (try simp only [Act.put, List.setIfInBounds_toArray, List.set_cons_zero, List.set_cons_succ])
         refine wpAny_ready (rs := [8]) (by kernel_rfl) (by simp) ?_
         refine AllReady.cons (o := ⟨_, _, _, _, _, _⟩) rfl (fun K hK => ?_) AllReady.nil
         go_simp
         refine hK _ _ ?_
         clear hK K
         (try simp only [Act.put, List.setIfInBounds_toArray, List.set_cons_zero, List.set_cons_succ])
         refine wpAny_done (by kernel_rfl) ?_ _
         refine nq_normal ?_
         gi_wp2
         exact ⟨rfl, HFIN.out _ q2⟩
 case done =>
  rintro D V hD ⟨⟨ra, rc, h1, h2⟩, h3⟩ hdef
  rw [← HNB.out, ← HTB.out, HNB.out] at h2
  have c1 := h1.cell
  have f1 := h1.frozen
  have hEV : Ext w V := h3.below (E1.comp X3) (by have := E1.size; omega) (fun q hq => by rw [hM] at hq; rcases hq with rfl | hq <;> omega)
  have hlen : (tapeW ws).length = 65 * nb := by rw [HTB.out, HNB.out, tape_part_len (by rw [HNB.out]; exact Nat.le_refl _)]
  have hfin : V.ownsRow w.heap.size 5 1 (.slice ra (65 * nb) rc) (tapeW ws).length (ub (natI (tapeW ws))) := by
   rw [hlen]
   exact ownsRow_le h2 (by omega)
  have hne : D ≠ w.heap.size := by omega
  have hb7 : Boxed (V.setCell ⟨w.heap.size, 0, none⟩ (.slice ra (65 * nb) rc)) w.heap.size 63 (.slice ra (65 * nb) rc) := h1.set _
  have hK7 : (V.setCell ⟨w.heap.size, 0, none⟩ (.slice ra (65 * nb) rc)).heap[D]? = some (.deferred (some [])) := (Below.heap_setCell _ _ _ _ hne).trans hdef
  have hb8 : Boxed ((V.setCell ⟨w.heap.size, 0, none⟩ (.slice ra (65 * nb) rc)).putObj D (.deferred none)) w.heap.size 63 (.slice ra (65 * nb) rc) := (World.putObj_heap_other (fun e => hne e.symm)).trans hb7
  have hc7 := hb8.cell
  have hown8 : ((V.setCell ⟨w.heap.size, 0, none⟩ (.slice ra (65 * nb) rc)).putObj D (.deferred none)).ownsRow w.heap.size 5 1 (.slice ra (65 * nb) rc) (tapeW ws).length (ub (natI (tapeW ws))) := by
   refine ⟨hfin.1, ?_⟩
   rcases hfin.2 with h4 | ⟨q, cap, cur, h4, hb, hg, r⟩
   ·exact .inl h4
   ·have hq1 : q ≠ D := fun e => by rw [e, hdef] at hg; cases hg
    have hq2 : q ≠ w.heap.size := fun e => by
     have := (h2.lt q (by rw [h4]; rfl)).1
     omega
    exact .inr ⟨q, cap, cur, h4, hb, (World.putObj_heap_other hq1).trans ((Below.heap_setCell _ _ _ _ hq2).trans hg), r⟩
  have hEf : Ext w ((V.setCell ⟨w.heap.size, 0, none⟩ (.slice ra (65 * nb) rc)).putObj D (.deferred none)) := (KpM.put (M := fun q => q = D) _ D _ rfl).below (hEV.setCell (p := ⟨w.heap.size, 0, none⟩) (Nat.le_refl _) _) (Nat.le_refl _) (fun b e => by omega)
  clear h1 h2 hfin hb7 hb8 hEV
  go_wp2
  refine ⟨by simp, .inl ⟨_, _, rfl, run_takeDeferred hK7, ?_⟩⟩
  refine ⟨.slice ra (65 * nb) rc, by simp [results, Tryz.results57, go_sem, hc7], ?_⟩
  exact ⟨_, rfl, hown8, hEf⟩
end Go.Proofs.YtnhpcoagkmgdoaaGreat
