/- The law LineNarrower: its walk. -/
import Derived.Test.YtkkchoinfdfiaaaN4
import Derived.Test.YtkkchoinfdfiaaaJ5
set_option linter.unusedVariables false
set_option linter.unusedSimpArgs false
namespace Go.Q
/-- the narrower spans -/
def lessK (xs : List Int) (i : Nat) (s : Sp) : Sp := if xs.length = 0 then s else lessS s (xs[i % xs.length]?.getD 0) (xs[(i + 1) % xs.length]?.getD 0)
def lessL (xs : List Int) (ss : List Sp) (k : Nat) : List Sp := fstN (fun i => lessK xs i (ss[i]?.getD ⟨0, 0⟩)) k
theorem lessL_succ (xs : List Int) (ss : List Sp) (k : Nat) : lessL xs ss (k + 1) = lessL xs ss k ++ [lessK xs k (ss[k]?.getD ⟨0, 0⟩)] := fstN_succ _ _
theorem lessK_in {xs : List Int} (hx : ∀ x ∈ xs, 0 ≤ x ∧ x ≤ 255) {s : Sp} (h : s.lo ≤ s.hi) (i : Nat) : s.lo ≤ (lessK xs i s).lo ∧ (lessK xs i s).lo ≤ (lessK xs i s).hi ∧ (lessK xs i s).hi ≤ s.hi := by
  unfold lessK
  split
  · omega
  · rename_i h0
    exact lessS_in h (mem_get (Nat.mod_lt _ (by omega)) hx) (mem_get (Nat.mod_lt _ (by omega)) hx)
theorem less_within {xs : List Int} (hx : ∀ x ∈ xs, 0 ≤ x ∧ x ≤ 255) {ss : List Sp} (hs : ∀ s ∈ ss, spanX s = 0) : ∀ k, k ≤ ss.length → Within (lessL xs ss k) (ss.take k)
  | 0, _ => by simp [lessL, fstN, Within]
  | k + 1, hk => by
    have e : ss.take (k + 1) = ss.take k ++ [ss[k]?.getD ⟨0, 0⟩] := by
      rw [List.take_succ_eq_append_getElem (by omega), List.getElem?_eq_getElem (by omega)]; rfl
    rw [lessL_succ, e]
    refine within_snoc (less_within hx hs k (by omega)) (lessK_in hx ?_ k)
    have := span_ok (hs (ss[k]?.getD ⟨0, 0⟩) (by rw [List.getElem?_eq_getElem (by omega)]; exact List.getElem_mem _))
    omega
end Go.Q
namespace Go.Proofs.Ytkkchoinfdfiaaa
open Go.RowKit Go.Q Go.Shelf Go.Maps

theorem Try.infoSp : (Try.prog.info? 49).map (fun i => (i.zero, i.size, i.bytes)) = some (some (.agg #[.int .i64 0, .int .i64 0]), 2, 16) := by kernel_rfl
/-- the cells of spans -/
def sv (ss : List Sp) : List Value := ss.flatMap fun s => [.int .i64 s.lo, .int .i64 s.hi]
theorem sv_length (ss : List Sp) : (sv ss).length = ss.length * 2 := by
  unfold sv
  induction ss with
  | nil => rfl
  | cons s ss ih => rw [List.flatMap_cons, List.length_append, ih]; simp; omega
theorem sv_snoc (ss : List Sp) (s : Sp) : sv (ss ++ [s]) = sv ss ++ [.int .i64 s.lo, .int .i64 s.hi] := by simp [sv]
theorem sv_get : ∀ (ss : List Sp) (i : Nat), i < ss.length → (sv ss)[i * 2]? = some (.int .i64 (ss[i]?.getD ⟨0, 0⟩).lo) ∧ (sv ss)[i * 2 + 1]? = some (.int .i64 (ss[i]?.getD ⟨0, 0⟩).hi)
  | [], i, h => by simp at h
  | s :: ss, 0, _ => by simp [sv]
  | s :: ss, i + 1, h => by
    have ih := sv_get ss i (by simpa using h)
    have e : sv (s :: ss) = .int .i64 s.lo :: .int .i64 s.hi :: sv ss := by simp [sv]
    rw [e, show (i + 1) * 2 = i * 2 + 1 + 1 by omega, show i * 2 + 1 + 1 + 1 = (i * 2 + 1) + 1 + 1 by omega]
    simpa using ih
theorem hown_set2 {W : World} {B t sz n b : Nat} {v : Value} {xs : List Value} (h : W.ownsRow B t sz v n xs) (hne : ∀ q, v.ownBlock = some q → q ≠ b) (x y : Value) : ((W.setCell ⟨b, 0, none⟩ x).setCell ⟨b, 1, none⟩ y).ownsRow B t sz v n xs := by
  have h1 := h.kept (grownBy_setCell' W b x) (by
    by_cases e : v.ownBlock = none
    · exact .inl e
    · exact .inr (fun e2 => hne b e2 rfl))
  refine h1.kept (w' := (W.setCell ⟨b, 0, none⟩ x).setCell ⟨b, 1, none⟩ y) (row := some b) ⟨rfl, rfl, rfl, by simp [World.setCell], fun k _ hk => Below.heap_setCell _ _ _ _ (fun e => hk (by rw [e]))⟩ (by
    by_cases e : v.ownBlock = none
    · exact .inl e
    · exact .inr (fun e2 => hne b e2 rfl))
theorem own_form2 {w : World} {nb t sz n : Nat} {v : Value} {xs : List Value} (h : w.ownsRow nb t sz v n xs) : ∃ a c, v = .slice a n c := by
  rcases h.2 with ⟨h1, h2⟩ | ⟨g, cap, cur, h1, _⟩
  · exact ⟨none, 0, by rw [h2]; exact h1⟩
  · exact ⟨_, _, h1⟩
theorem shiftsC_len {l : Ln} (h : OkL l) (ss : List Sp) : (shiftsC l ss).length ≤ 2560 := by
  have hb := h.beats
  have h1 : (shiftsC l ss).length ≤ (beatsN l).length := List.length_filter_le _ _
  unfold beatsN at h1
  rw [fstN_length] at h1
  omega
theorem get_mem {xs : List Int} {i : Nat} (h : i < xs.length) : xs[i]?.getD 0 ∈ xs := by
  rw [List.getElem?_eq_getElem h]
  exact List.getElem_mem h
theorem mem_idx {xs : List Int} {x : Int} (h : x ∈ xs) : ∃ m, m < xs.length ∧ xs[m]?.getD 0 = x := by
  obtain ⟨m, hm, rfl⟩ := List.mem_iff_getElem.1 h
  exact ⟨m, hm, by rw [List.getElem?_eq_getElem hm]; rfl⟩
theorem sorted_lt {xs : List Int} (h : xs.Pairwise (· < ·)) {i j : Nat} (hij : i < j) (hj : j < xs.length) : xs[i]?.getD 0 < xs[j]?.getD 0 := by
  have := List.pairwise_iff_getElem.1 h i j (by omega) hj hij
  rw [List.getElem?_eq_getElem (by omega), List.getElem?_eq_getElem hj]
  exact this
theorem sorted_le {xs : List Int} (h : xs.Pairwise (· < ·)) {i j : Nat} (hij : i ≤ j) (hj : j < xs.length) : xs[i]?.getD 0 ≤ xs[j]?.getD 0 := by
  by_cases e : i = j
  · rw [e]; exact Int.le_refl _
  · exact Int.le_of_lt (sorted_lt h (by omega) hj)
theorem cell_two_alloc (w : World) (o : Obj) (x y : Value) : ∀ j u, [x, y][j]? = some u → ((w.alloc o).alloc (.cells #[x, y] 49)).cell? ((⟨w.heap.size + 1, 0, none⟩ : Addr).add j) = some u := by
  have h := cell_two_new2 (w.alloc o) x y 49
  rw [World.size_alloc] at h
  exact h
theorem own_spans {w : World} {B n c : Nat} {a : Option Addr} {ss : List Sp} (hn : ss.length = n) (h : w.ownsRow B 49 2 (.slice a n c) n (sv ss)) : SpansAt w a ss := by
  rcases h.2 with ⟨h1, h2⟩ | ⟨g, cap, cur, h1, h2, h3, h4, h5, h6, h7⟩
  · left
    exact List.eq_nil_of_length_eq_zero (by omega)
  · obtain ⟨rfl, -, -⟩ := Value.slice.inj h1
    refine .inr ⟨g, 0, rfl, (Array.getElem?_eq_some_iff.1 h3).1, fun i hi => ?_⟩
    have hg := sv_get ss i hi
    have c1 := World.ownsRow.cells h (g := g) rfl (i * 2) _ hg.1
    have c2 := World.ownsRow.cells h (g := g) rfl (i * 2 + 1) _ hg.2
    rw [Addr.add_lit] at c1 c2
    exact ⟨c1, by rw [← Nat.add_assoc] at c2; exact c2⟩
set_option maxRecDepth 100000 in
set_option maxHeartbeats 4000000 in
theorem narrower_law (l : Ln) (a1 a2 : Option Addr) (n1 n2 c1 c2 : Nat) (ss : List Sp) (xs : List Int) (w : World) (l1 : ss.length = n1) (l2 : xs.length = n2) (b1 : n1 ≤ 9223372036854775807) (b2 : n2 ≤ 9223372036854775807) (i1 : SpansAt w a1 ss) (i2 : BytesAt w a2 xs) (hx : ∀ x ∈ xs, 0 ≤ x ∧ x ≤ 255) :
    Calls Try.prog 10 #[.agg #[.int .i64 l.words, .int .i64 l.bits, .int .i64 l.period, .int .i64 l.delay, .int .i64 l.slope, .int .i64 l.window], .slice a1 n1 c1, .slice a2 n2 c2] w fun e w' => e = .returned (.bool true) ∧ Ext w w' := by
  have hcn := fun W (E : Ext w W) => Can_any l a1 n1 c1 ss W l1 b1 (i1.ext E)
  by_cases hc : canX l ss = 0
  · have e1 : canE l ss = (shiftsC l ss, ss.any (lostC l), 0) := by unfold canE; rw [if_pos hc]
    rw [e1] at hcn
    obtain ⟨V, hV⟩ : ∃ V, shiftsC l ss = V := ⟨_, rfl⟩
    obtain ⟨L, hL⟩ : ∃ L, ss.any (lostC l) = L := ⟨_, rfl⟩
    rw [hV, hL] at hcn
    have HV := Lib.hid hV
    have HL := Lib.hid hL
    have HC := Lib.hid hc
    have L1 := Lib.hid l1
    have L2 := Lib.hid l2
    have I1 := Lib.hid i1
    have I2 := Lib.hid i2
    clear e1 hV hL hc l1 l2 i1 i2
    go_enter Try.func10, Try.ntmps10
    go_wp2_with fail
    refine (hcn _ ((Ext.refl w).alloc _)).mono ?_
    rintro e w1 ⟨ac, cc, rfl, hI, E1⟩
    have hI1 : IntsAt w1 ac V := hI
    have hEw : Ext w w1 := E1.old
    have hok := okL_ok (by
      have := HC.out
      unfold canX at this
      cases h : okL l with
      | true => rfl
      | false => rw [if_pos h] at this; omega : okL l = true)
    have hsp : ∀ s ∈ ss, spanX s = 0 := by
      have h := HC.out
      unfold canX at h
      rw [if_neg (by intro h2; rw [if_pos h2] at h; omega)] at h
      split at h
      · omega
      · exact spansX_all ss h
    have h60 : n1 ≤ 60 := by
      have h := HC.out
      unfold canX at h
      rw [if_neg (by intro h2; rw [if_pos h2] at h; omega)] at h
      split at h
      · omega
      · have := L1.out; omega
    have HOK := Lib.hid hok
    have HSP := Lib.hid hsp
    have HX := Lib.hid hx
    have HE1 := Lib.hid E1
    have hbx0 : (w1.alloc (.cells #[.slice ac V.length cc, .bool L] 34)).heap[w1.heap.size]? = some (.cells #[.slice ac V.length cc, .bool L] 34 (0, 0)) := heap_alloc_new _ _
    clear hI E1 hok hsp hx hcn
    obtain ⟨i0, hi, hz0, hz1, hz2⟩ := info_parts Try.infoSp
    go_wp2_with fail
    have hEW1 : Ext w1 (w1.alloc (.cells #[.slice ac V.length cc, .bool L] 34)) := (Ext.refl _).alloc _
    generalize w1.alloc (.cells #[.slice ac V.length cc, .bool L] 34) = W1 at *
    have HI1 := Lib.hid hI1
    have hEW1x := Lib.hid hEW1
    replace HE1 := Lib.hid (HE1.out.comp hEW1)
    replace hEw := hEw.comp hEW1
    have hB0 : w1.heap.size < W1.heap.size := (Array.getElem?_eq_some_iff.1 hbx0).1
    clear hI1
    go_loopw [9, 10] (fun s9 s10 wr => ∃ k : Nat, k ≤ n1 ∧ s10 = .int .i64 k ∧ wr.ownsRow W1.heap.size 49 2 s9 k (sv (lessL xs ss k)) ∧ Ext W1 wr) (fun _ s10 _ => n1 - (Go.RowKit.intOf s10).toNat)
    case atStart => exact ⟨0, Nat.zero_le _, rfl, World.ownsRow_nil _ _ _ _, Ext.refl _⟩
    case round =>
      obtain ⟨k, hk, rfl, hown, EX⟩ := hrel
      obtain ⟨X, rfl⟩ : ∃ X : World, X = wr := ⟨_, rfl⟩
      have hownlt := fun q e => (hown.lt q e).2
      by_cases hlt : k < n1
      · have hltz : (k : Int) < (n1 : Int) := by omega
        rcases I1.out with e | ⟨b, off, rfl, hbl, hc⟩
        · have := L1.out
          rw [e] at this; simp at this; omega
        have hck := hc k (by rw [L1.out]; exact hlt)
        have hx0 := ((hEw.comp EX).cell (p := ⟨b, off + k * 2, none⟩) hbl).trans hck.1
        have hx1 := ((hEw.comp EX).cell (p := ⟨b, off + k * 2 + 1, none⟩) hbl).trans hck.2
        obtain ⟨s, hs⟩ : ∃ s, ss[k]?.getD ⟨0, 0⟩ = s := ⟨_, rfl⟩
        have hsx : spanX s = 0 := by
          rw [← hs, List.getElem?_eq_getElem (by rw [L1.out]; exact hlt)]
          exact HSP.out _ (List.getElem_mem _)
        rw [hs] at hx0 hx1
        obtain ⟨⟨g0, g1⟩, ⟨g2, g3⟩, g4⟩ := span_ok hsx
        have HS := Lib.hid (show lessL xs ss (k + 1) = lessL xs ss k ++ [lessK xs k s] by rw [lessL_succ, hs])
        have hXs := EX.size
        clear hc hck hs hsx
        by_cases h0 : n2 = 0
        · have h0z : ¬ (0 : Int) < (n2 : Int) := by omega
          have HK := Lib.hid (show lessK xs k s = s by unfold lessK; rw [if_pos (by rw [L2.out]; exact h0)])
          clear h0
          go_wp2_with (at_builtin; refine wpList_append_own _ rfl _ _ 32 rfl W1.heap.size 49 i0 (.agg #[.int .i64 0, .int .i64 0]) 2 16 Try.underlying32 hi hz0 hz1 hz2 rfl (by decide) _ _ _ rfl ((hown.alloc _).alloc _) ⟨X.heap.size + 1, 0, none⟩ 1 1 [.int .i64 s.lo, .int .i64 s.hi] rfl rfl (cell_two_alloc _ _ _ _) (by simp [Value.oneCell']) (by unfold maxLen; omega) (by omega) (by simp; omega) ?_; intro v' w3 hown' hgrow hnil; clear hnil)
          have E4 : Ext W1 w3 := ((EX.alloc _).alloc _).grown hgrow (by simp; omega) (fun q e => (hown.lt q e).1)
          have hown3 : w3.ownsRow W1.heap.size 49 2 v' (k + 1) (sv (lessL xs ss (k + 1))) := by
            rw [HS.out, HK.out, sv_snoc]
            exact hown'
          clear hown hown' hgrow
          (try go_frame)
          go_wp2
          go_roundw
          case rel => exact ⟨k + 1, by omega, by go_num, hown3, E4⟩
          case measure => simp [Go.RowKit.intOf]; omega
        · have h0z : (0 : Int) < (n2 : Int) := by omega
          rcases I2.out with e | ⟨b2', off2, rfl, hbl2, hc2⟩
          · have := L2.out
            rw [e] at this; simp at this; omega
          obtain ⟨p, hp⟩ : ∃ p, k % n2 = p := ⟨_, rfl⟩
          obtain ⟨q, hq⟩ : ∃ q, (k + 1) % n2 = q := ⟨_, rfl⟩
          have hp1 : p < n2 := by rw [← hp]; exact Nat.mod_lt _ (by omega)
          have hq1 : q < n2 := by rw [← hq]; exact Nat.mod_lt _ (by omega)
          have hpm : ((k : Int)).tmod (n2 : Int) = (p : Int) := by rw [Int.tmod_eq_emod_of_nonneg (by omega), ← hp]; exact (Int.natCast_emod k n2).symm
          have hqm : ((k : Int) + 1).tmod (n2 : Int) = (q : Int) := by rw [Int.tmod_eq_emod_of_nonneg (by omega), ← hq]; exact (Int.natCast_emod (k + 1) n2).symm
          have hxp := mem_get (i := p) (by rw [L2.out]; exact hp1) HX.out
          have hxq := mem_get (i := q) (by rw [L2.out]; exact hq1) HX.out
          have cp := (((hEw.comp EX)).cell (p := ⟨b2', off2 + p, none⟩) hbl2).trans (hc2 p (by rw [L2.out]; exact hp1))
          have cq := (((hEw.comp EX)).cell (p := ⟨b2', off2 + q, none⟩) hbl2).trans (hc2 q (by rw [L2.out]; exact hq1))
          obtain ⟨xa, hxa⟩ : ∃ xa, xs[p]?.getD 0 = xa := ⟨_, rfl⟩
          obtain ⟨xb, hxb⟩ : ∃ xb, xs[q]?.getD 0 = xb := ⟨_, rfl⟩
          have HK := Lib.hid (show lessK xs k s = lessS s xa xb by unfold lessK; rw [if_neg (by rw [L2.out]; exact h0), L2.out, hp, hq, hxa, hxb])
          rw [hxa] at cp hxp
          rw [hxb] at cq hxq
          have m1 := mul_bd (a := s.hi - s.lo) (b := xa) (A := 1500) (B := 255) (by omega) (by omega) hxp.1 hxp.2
          have m2 := mul_bd (a := s.hi - s.lo) (b := xb) (A := 1500) (B := 255) (by omega) (by omega) hxq.1 hxq.2
          have w1 : IntKind.i64.wrap (s.hi - s.lo) = s.hi - s.lo := IntWalk.i64_in _ (by omega)
          obtain ⟨wd, hwd⟩ : ∃ wd, s.hi - s.lo = wd := ⟨_, rfl⟩
          rw [hwd] at m1 m2 w1
          have HWD := Lib.hid hwd
          have w2 : IntKind.i64.wrap (wd * xa) = wd * xa := IntWalk.i64_in _ (by omega)
          have w3 : IntKind.i64.wrap (wd * xb) = wd * xb := IntWalk.i64_in _ (by omega)
          have t1 : (wd * xa).tdiv 512 = wd * xa / 512 := Int.tdiv_eq_ediv_of_nonneg (by omega)
          have t2 : (wd * xb).tdiv 512 = wd * xb / 512 := Int.tdiv_eq_ediv_of_nonneg (by omega)
          have w4 : IntKind.i64.wrap (wd * xa / 512) = wd * xa / 512 := IntWalk.i64_in _ (by omega)
          have w5 : IntKind.i64.wrap (wd * xb / 512) = wd * xb / 512 := IntWalk.i64_in _ (by omega)
          have w6 : IntKind.i64.wrap (s.lo + wd * xa / 512) = s.lo + wd * xa / 512 := IntWalk.i64_in _ (by omega)
          have w7 : IntKind.i64.wrap (s.hi - wd * xb / 512) = s.hi - wd * xb / 512 := IntWalk.i64_in _ (by omega)
          have w8 : IntKind.i64.wrap ((k : Int) + 1) = (k : Int) + 1 := IntWalk.i64_in _ (by omega)
          have w11 : IntKind.i64.wrap xa = xa := IntWalk.i64_in _ (by omega)
          have w12 : IntKind.i64.wrap xb = xb := IntWalk.i64_in _ (by omega)
          have w9 : IntKind.i64.wrap (p : Int) = p := IntWalk.i64_in _ (by omega)
          have w10 : IntKind.i64.wrap (q : Int) = q := IntWalk.i64_in _ (by omega)
          have hp0 : (0 : Int) ≤ (p : Int) := by omega
          have hq0 : (0 : Int) ≤ (q : Int) := by omega
          have hp2 : (p : Int) < (n2 : Int) := by omega
          have hq2 : (q : Int) < (n2 : Int) := by omega
          have hne : ¬ n2 = 0 := h0
          have hne2 : ((n2 : Int) == 0) = false := by simp; omega
          clear hp hq hxa hxb m1 m2 h0
          go_wp2_with fail
          have hbB := heap_alloc_new X (.cells #[.int .i64 s.lo, .int .i64 s.hi] 49)
          have EB : Ext X (X.alloc (.cells #[.int .i64 s.lo, .int .i64 s.hi] 49)) := (Ext.refl X).alloc _
          have hownB := hown.alloc (.cells #[.int .i64 s.lo, .int .i64 s.hi] 49)
          have cp' := cell_laterA cp EB
          have cq' := cell_laterA cq EB
          have EXB := EX.comp EB
          clear cp cq EX hown EB hx0 hx1
          obtain ⟨Bx, hBx⟩ : ∃ Bx, X.heap.size = Bx := ⟨_, rfl⟩
          rw [hBx] at hbB hXs ⊢
          generalize X.alloc (.cells #[.int .i64 s.lo, .int .i64 s.hi] 49) = Y at hbB hownB cp' cq' EXB ⊢
          have z0 := blk_cell hbB 0 (v := .int .i64 s.lo) rfl
          have z1 := blk_cell hbB 1 (v := .int .i64 s.hi) rfl
          go_region_law (go_simp; go_at_call 36; refine (lawspan_any _ _ _).mono ?_; rintro e w' ⟨rfl, hb'⟩; have hbB2 := (Below.block hb' Bx (Array.getElem?_eq_some_iff.1 hbB).1).trans hbB; have y0 := blk_cell hbB2 0 (v := .int .i64 s.lo) rfl; have y1 := blk_cell hbB2 1 (v := .int .i64 s.hi) rfl; have f0 := blk_free hbB2 0; have f1 := blk_free hbB2 1)
          all_goals
            (try simp only [w11, w12, w2, w3, t1, t2, w4, w5, w6, w7])
            have hset := set2x hbB2 (.int .i64 (s.lo + wd * xa / 512)) (.int .i64 (s.hi - wd * xb / 512))
            have hE7 : Ext W1 ((w'.setCell ⟨Bx, 0, none⟩ (.int .i64 (s.lo + wd * xa / 512))).setCell ⟨Bx, 1, none⟩ (.int .i64 (s.hi - wd * xb / 512))) := by
              have h1 : Ext W1 w' := by first | exact EXB.comp hb' | exact EXB.comp (Ext.comp (Ext.refl Y).drew hb')
              exact (h1.setCell (p := ⟨Bx, 0, none⟩) hXs _).setCell (p := ⟨Bx, 1, none⟩) hXs _
            have hownC : ((w'.setCell ⟨Bx, 0, none⟩ (.int .i64 (s.lo + wd * xa / 512))).setCell ⟨Bx, 1, none⟩ (.int .i64 (s.hi - wd * xb / 512))).ownsRow W1.heap.size 49 2 _ k (sv (lessL xs ss k)) := hown_set2 (own_ext hownB (by first | exact hb' | exact Ext.comp (Ext.refl Y).drew hb')) (fun q e => by have := hownlt q e; omega) _ _
            generalize (w'.setCell ⟨Bx, 0, none⟩ (.int .i64 (s.lo + wd * xa / 512))).setCell ⟨Bx, 1, none⟩ (.int .i64 (s.hi - wd * xb / 512)) = Z at hset hE7 hownC ⊢
            have r0 := blk_cell hset 0 (v := .int .i64 (s.lo + wd * xa / 512)) rfl
            have r1 := blk_cell hset 1 (v := .int .i64 (s.hi - wd * xb / 512)) rfl
            have hZs := hE7.size
            go_wp2_with (at_builtin; refine wpList_append_own _ rfl _ _ 32 rfl W1.heap.size 49 i0 (.agg #[.int .i64 0, .int .i64 0]) 2 16 Try.underlying32 hi hz0 hz1 hz2 rfl (by decide) _ _ _ rfl (hownC.alloc _) ⟨Z.heap.size, 0, none⟩ 1 1 [.int .i64 (s.lo + wd * xa / 512), .int .i64 (s.hi - wd * xb / 512)] rfl rfl (cell_two_new2 _ _ _ _) (by simp [Value.oneCell']) (by unfold maxLen; omega) (by omega) (by simp; omega) ?_; intro v' w3' hown' hgrow hnil; clear hnil)
            have E4 : Ext W1 w3' := (hE7.alloc _).grown hgrow (by simp; omega) (fun q e => (hownC.lt q e).1)
            have hown3 : w3'.ownsRow W1.heap.size 49 2 v' (k + 1) (sv (lessL xs ss (k + 1))) := by
              rw [HS.out, HK.out, sv_snoc]
              unfold lessS
              rw [HWD.out]
              exact hown'
            clear hownC hown' hgrow
            (try go_frame)
            go_wp2
            go_roundw
            case rel => exact ⟨k + 1, by omega, by go_num, hown3, E4⟩
            case measure => simp [Go.RowKit.intOf]; omega
      · have hltz : ¬ (k : Int) < (n1 : Int) := by omega
        obtain rfl : k = n1 := by omega
        have hlen : (lessL xs ss k).length = k := by unfold lessL; rw [fstN_length]
        have hwi : Within (lessL xs ss k) ss := by
          have := less_within HX.out HSP.out k (by rw [L1.out]; exact Nat.le_refl _)
          rw [show ss.take k = ss from List.take_of_length_le (by rw [L1.out]; exact Nat.le_refl _)] at this
          exact this
        obtain ⟨av, cv, rfl⟩ := own_form2 hown
        have hSp := own_spans hlen hown
        have hcn2 := fun W (E : Ext X W) => Can_any l av k cv (lessL xs ss k) W hlen (by omega) (hSp.ext E)
        have hcx := canX_within hwi HC.out HSP.out
        rw [show canE l (lessL xs ss k) = (shiftsC l (lessL xs ss k), (lessL xs ss k).any (lostC l), 0) by unfold canE; rw [if_pos hcx]] at hcn2
        have hsub : ∀ x ∈ shiftsC l (lessL xs ss k), x ∈ V := fun x hx => by rw [← HV.out]; exact shifts_within hwi hx
        have hsD := shiftsC_sorted l (lessL xs ss k)
        have hsV := shiftsC_sorted l ss
        rw [HV.out] at hsV
        have hlo : (lessL xs ss k).any (lostC l) = true → L = true := fun h => by rw [← HL.out]; exact anylost_within hwi h
        obtain ⟨D, hD⟩ : ∃ D, shiftsC l (lessL xs ss k) = D := ⟨_, rfl⟩
        obtain ⟨L2', hL2⟩ : ∃ L2', (lessL xs ss k).any (lostC l) = L2' := ⟨_, rfl⟩
        have hDl : D.length ≤ 2560 := by
          rw [← hD]
          exact shiftsC_len HOK.out _
        have hVl : V.length ≤ 2560 := by
          rw [← HV.out]
          exact shiftsC_len HOK.out _
        rw [hD, hL2] at hcn2
        rw [hD] at hsub hsD
        rw [hL2] at hlo
        have HSUB := Lib.hid hsub
        have HSD := Lib.hid hsD
        have HSV := Lib.hid hsV
        have hbx := (EX.block _ hB0).trans hbx0
        have E2 := HE1.out.comp EX
        have y0 := box_at (v := .int .i64 l.words) E2 0 rfl
        have y1 := box_at (v := .int .i64 l.bits) E2 1 rfl
        have y2 := box_at (v := .int .i64 l.period) E2 2 rfl
        have y3 := box_at (v := .int .i64 l.delay) E2 3 rfl
        have y4 := box_at (v := .int .i64 l.slope) E2 4 rfl
        have y5 := box_at (v := .int .i64 l.window) E2 5 rfl
        have hXb : w1.heap.size < X.heap.size := Nat.lt_of_lt_of_le hB0 EX.size
        have HIX := Lib.hid (HI1.out.ext (hEW1x.out.comp EX))
        clear hwi hown hSp hcx hD hL2 hsub hsD hsV hlen
        go_wp2_with fail
        refine (hcn2 _ (Ext.refl _)).mono ?_
        rintro e w5 ⟨ad, cd, rfl, hID, E5⟩
        have hbc5 := (E5.block _ hXb).trans hbx
        have hE5 := hEw.comp (EX.comp E5)
        have hIV5 := HIX.out.ext E5
        have hID5 : IntsAt w5 ad D := hID
        rw [show ((D, L2', (0 : Int)) : List Int × Bool × Int).1.length = D.length from rfl]
        clear hID hcn2 y0 y1 y2 y3 y4 y5 hbx E5 EX E2
        have hlt5 : w1.heap.size < w5.heap.size := (Array.getElem?_eq_some_iff.1 hbc5).1
        cases L2' with
        | true =>
          obtain rfl : L = true := hlo rfl
          have q0 := fun ob => (((Ext.refl w5).alloc ob).cell (p := ⟨w1.heap.size, 0, none⟩) hlt5).trans (blk_cell hbc5 0 (v := .slice ac V.length cc) rfl)
          have q1 := fun ob => (((Ext.refl w5).alloc ob).cell (p := ⟨w1.heap.size, 1, none⟩) hlt5).trans (blk_cell hbc5 1 (v := .bool true) rfl)
          go_wp2_with fail
          clear q0 q1
          have hbd : (w5.alloc (.cells #[.slice ad D.length cd, .bool true] 34)).heap[w5.heap.size]? = some (.cells #[.slice ad D.length cd, .bool true] 34 (0, 0)) := heap_alloc_new _ _
          have hE56 : Ext w5 (w5.alloc (.cells #[.slice ad D.length cd, .bool true] 34)) := (Ext.refl _).alloc _
          have hbc6 := (hE56.block _ hlt5).trans hbc5
          have hIV6 := hIV5.ext hE56
          have hID6 := hID5.ext hE56
          have hE6 := hE5.comp hE56
          clear hbc5 hIV5 hID5 hE5 hE56 hlt5
          obtain ⟨Bd, hBd⟩ : ∃ Bd, w5.heap.size = Bd := ⟨_, rfl⟩
          rw [hBd] at hbd ⊢
          obtain ⟨Bc, hBc⟩ : ∃ Bc, w1.heap.size = Bc := ⟨_, rfl⟩
          rw [hBc] at hbc6 ⊢
          generalize w5.alloc (.cells #[.slice ad D.length cd, .bool true] 34) = W6 at hbd hbc6 hIV6 hID6 hE6 ⊢
          have hBc1 : Bc < W6.heap.size := (Array.getElem?_eq_some_iff.1 hbc6).1
          have hBd1 : Bd < W6.heap.size := (Array.getElem?_eq_some_iff.1 hbd).1
          have HBC := Lib.hid hbc6
          have HBD := Lib.hid hbd
          have HIV := Lib.hid hIV6
          have HID := Lib.hid hID6
          have HE6 := Lib.hid hE6
          clear hbc6 hbd hIV6 hID6 hE6 hBc hBd
          go_loopw [14, 15] (fun s14 s15 wr => ∃ k i : Nat, k ≤ V.length ∧ i ≤ D.length ∧ s14 = .int .i64 k ∧ s15 = .int .i64 i ∧ Aside (∀ j, j < k → i < D.length → V[j]?.getD 0 < D[i]?.getD 0) ∧ Ext W6 wr) (fun _ s15 _ => D.length - (Go.RowKit.intOf s15).toNat)
          case atStart => exact ⟨0, 0, Nat.zero_le _, Nat.zero_le _, rfl, rfl, (fun j hj => absurd hj (Nat.not_lt_zero _)), Ext.refl _⟩
          case round =>
            obtain ⟨k', i, hk', hi', rfl, rfl, HA, EX⟩ := hrel
            obtain ⟨X6, rfl⟩ : ∃ X6 : World, X6 = wr := ⟨_, rfl⟩
            have e0 := blk_cell ((EX.block _ hBd1).trans HBD.out) 0 (v := .slice ad D.length cd) rfl
            by_cases hlt : i < D.length
            · have hltz : (i : Int) < (D.length : Int) := by omega
              obtain ⟨m, hm1, hm2⟩ := mem_idx (HSUB.out _ (get_mem hlt))
              have hkm : k' ≤ m := by
                by_cases h : k' ≤ m
                · exact h
                · have := HA.out m (by omega) hlt
                  omega
              obtain ⟨d, hd⟩ : ∃ d, D[i]?.getD 0 = d := ⟨_, rfl⟩
              rw [hd] at hm2
              have HD := Lib.hid hd
              have HAd : Aside (∀ j, j < k' → V[j]?.getD 0 < d) := (show Aside _ from fun j hj => by rw [← HD.out]; exact HA.out j hj hlt)
              clear HA hd
              go_wp2_with fail
              go_loopw [14] (fun s14 wr => ∃ k : Nat, k ≤ m ∧ s14 = .int .i64 k ∧ Aside (∀ j, j < k → V[j]?.getD 0 < d) ∧ Ext W6 wr) (fun s14 _ => V.length - (Go.RowKit.intOf s14).toNat)
              case atStart => exact ⟨k', hkm, rfl, HAd, EX⟩
              case round =>
                clear HAd hkm hk' EX e0
                obtain ⟨u, hum, rfl, HA, EX⟩ := hrel
                obtain ⟨X7, rfl⟩ : ∃ X7 : World, X7 = wr := ⟨_, rfl⟩
                have e0 := blk_cell ((EX.block _ hBd1).trans HBD.out) 0 (v := .slice ad D.length cd) rfl
                have c0 := blk_cell ((EX.block _ hBc1).trans HBC.out) 0 (v := .slice ac V.length cc) rfl
                have hul : (u : Int) < (V.length : Int) := by omega
                rcases HIV.out with e | ⟨bV, oV, rfl, hbV, hcV⟩
                · rw [e] at hm1; simp at hm1
                rcases HID.out with e | ⟨bD, oD, rfl, hbD, hcD⟩
                · rw [e] at hlt; simp at hlt
                have hv := (EX.cell (p := ⟨bV, oV + u, none⟩) hbV).trans (hcV u (by omega))
                have hdc := (EX.cell (p := ⟨bD, oD + i, none⟩) hbD).trans (hcD i hlt)
                rw [HD.out] at hdc
                obtain ⟨v, hve⟩ : ∃ v, V[u]?.getD 0 = v := ⟨_, rfl⟩
                rw [hve] at hv
                have HVE := Lib.hid hve
                clear hve hcV hcD
                by_cases hvd : v < d
                · have dd : decide (v < d) = true := decide_eq_true hvd
                  have hne : u ≠ m := by
                    intro h
                    rw [h, hm2] at HVE
                    have := HVE.out
                    omega
                  have hul2 : decide ((u : Int) < (V.length : Int)) = true := decide_eq_true hul
                  have HA2 : Aside (∀ j, j < u + 1 → V[j]?.getD 0 < d) := (show Aside _ from fun j hj => by
                    by_cases e : j = u
                    · rw [e, HVE.out]; exact hvd
                    · exact HA.out j (by omega))
                  clear HA
                  go_wp2_with fail
                  go_quiet (fail)
                  go_wp2_with fail
                  go_roundw
                  case rel => exact ⟨u + 1, by omega, by go_num, HA2, below_drewN EX _⟩
                  case measure => simp [Go.RowKit.intOf]; omega
                · have dd : decide (v < d) = false := decide_eq_false hvd
                  have hvm : v ≤ d := by
                    rw [← HVE.out, ← hm2]
                    exact sorted_le HSV.out hum hm1
                  obtain rfl : v = d := by omega
                  have hul2 : decide ((u : Int) < (V.length : Int)) = true := decide_eq_true hul
                  have hun : ((u : Int) == (V.length : Int)) = false := by simp; omega
                  have hvv : (v != v) = false := by simp
                  have HA2 : Aside (∀ j, j < u → i + 1 < D.length → V[j]?.getD 0 < D[i + 1]?.getD 0) := (show Aside _ from fun j hj h => by
                    have h1 := HA.out j hj
                    have h2 := sorted_lt HSD.out (show i < i + 1 by omega) h
                    rw [HD.out] at h2
                    omega)
                  clear HA
                  go_wp2_with fail
                  go_quiet (fail)
                  go_wp2_with fail
                  go_quiet (fail)
                  go_wp2_with fail
                  go_roundw
                  case rel => exact ⟨u, i + 1, by omega, by omega, rfl, by go_num, HA2, below_drewN EX _⟩
                  case measure => simp [Go.RowKit.intOf]; omega
            · have hltz : ¬ (i : Int) < (D.length : Int) := by omega
              go_wp2_with fail
              refine (awake_any _).mono ?_
              rintro e w9 ⟨rfl, E9⟩
              go_wp2
              go_ret
              exact ⟨rfl, HE6.out.comp (EX.comp E9)⟩
        | false =>
          have q0 := fun ob => (((Ext.refl w5).alloc ob).cell (p := ⟨w1.heap.size, 0, none⟩) hlt5).trans (blk_cell hbc5 0 (v := .slice ac V.length cc) rfl)
          have q1 := fun ob => (((Ext.refl w5).alloc ob).cell (p := ⟨w1.heap.size, 1, none⟩) hlt5).trans (blk_cell hbc5 1 (v := .bool L) rfl)
          go_wp2_with fail
          clear q0 q1
          have hbd : (w5.alloc (.cells #[.slice ad D.length cd, .bool false] 34)).heap[w5.heap.size]? = some (.cells #[.slice ad D.length cd, .bool false] 34 (0, 0)) := heap_alloc_new _ _
          have hE56 : Ext w5 (w5.alloc (.cells #[.slice ad D.length cd, .bool false] 34)) := (Ext.refl _).alloc _
          have hbc6 := (hE56.block _ hlt5).trans hbc5
          have hIV6 := hIV5.ext hE56
          have hID6 := hID5.ext hE56
          have hE6 := hE5.comp hE56
          clear hbc5 hIV5 hID5 hE5 hE56 hlt5
          obtain ⟨Bd, hBd⟩ : ∃ Bd, w5.heap.size = Bd := ⟨_, rfl⟩
          rw [hBd] at hbd ⊢
          obtain ⟨Bc, hBc⟩ : ∃ Bc, w1.heap.size = Bc := ⟨_, rfl⟩
          rw [hBc] at hbc6 ⊢
          generalize w5.alloc (.cells #[.slice ad D.length cd, .bool false] 34) = W6 at hbd hbc6 hIV6 hID6 hE6 ⊢
          have hBc1 : Bc < W6.heap.size := (Array.getElem?_eq_some_iff.1 hbc6).1
          have hBd1 : Bd < W6.heap.size := (Array.getElem?_eq_some_iff.1 hbd).1
          have HBC := Lib.hid hbc6
          have HBD := Lib.hid hbd
          have HIV := Lib.hid hIV6
          have HID := Lib.hid hID6
          have HE6 := Lib.hid hE6
          clear hbc6 hbd hIV6 hID6 hE6 hBc hBd
          go_loopw [14, 15] (fun s14 s15 wr => ∃ k i : Nat, k ≤ V.length ∧ i ≤ D.length ∧ s14 = .int .i64 k ∧ s15 = .int .i64 i ∧ Aside (∀ j, j < k → i < D.length → V[j]?.getD 0 < D[i]?.getD 0) ∧ Ext W6 wr) (fun _ s15 _ => D.length - (Go.RowKit.intOf s15).toNat)
          case atStart => exact ⟨0, 0, Nat.zero_le _, Nat.zero_le _, rfl, rfl, (fun j hj => absurd hj (Nat.not_lt_zero _)), Ext.refl _⟩
          case round =>
            obtain ⟨k', i, hk', hi', rfl, rfl, HA, EX⟩ := hrel
            obtain ⟨X6, rfl⟩ : ∃ X6 : World, X6 = wr := ⟨_, rfl⟩
            have e0 := blk_cell ((EX.block _ hBd1).trans HBD.out) 0 (v := .slice ad D.length cd) rfl
            by_cases hlt : i < D.length
            · have hltz : (i : Int) < (D.length : Int) := by omega
              obtain ⟨m, hm1, hm2⟩ := mem_idx (HSUB.out _ (get_mem hlt))
              have hkm : k' ≤ m := by
                by_cases h : k' ≤ m
                · exact h
                · have := HA.out m (by omega) hlt
                  omega
              obtain ⟨d, hd⟩ : ∃ d, D[i]?.getD 0 = d := ⟨_, rfl⟩
              rw [hd] at hm2
              have HD := Lib.hid hd
              have HAd : Aside (∀ j, j < k' → V[j]?.getD 0 < d) := (show Aside _ from fun j hj => by rw [← HD.out]; exact HA.out j hj hlt)
              clear HA hd
              go_wp2_with fail
              go_loopw [14] (fun s14 wr => ∃ k : Nat, k ≤ m ∧ s14 = .int .i64 k ∧ Aside (∀ j, j < k → V[j]?.getD 0 < d) ∧ Ext W6 wr) (fun s14 _ => V.length - (Go.RowKit.intOf s14).toNat)
              case atStart => exact ⟨k', hkm, rfl, HAd, EX⟩
              case round =>
                clear HAd hkm hk' EX e0
                obtain ⟨u, hum, rfl, HA, EX⟩ := hrel
                obtain ⟨X7, rfl⟩ : ∃ X7 : World, X7 = wr := ⟨_, rfl⟩
                have e0 := blk_cell ((EX.block _ hBd1).trans HBD.out) 0 (v := .slice ad D.length cd) rfl
                have c0 := blk_cell ((EX.block _ hBc1).trans HBC.out) 0 (v := .slice ac V.length cc) rfl
                have hul : (u : Int) < (V.length : Int) := by omega
                rcases HIV.out with e | ⟨bV, oV, rfl, hbV, hcV⟩
                · rw [e] at hm1; simp at hm1
                rcases HID.out with e | ⟨bD, oD, rfl, hbD, hcD⟩
                · rw [e] at hlt; simp at hlt
                have hv := (EX.cell (p := ⟨bV, oV + u, none⟩) hbV).trans (hcV u (by omega))
                have hdc := (EX.cell (p := ⟨bD, oD + i, none⟩) hbD).trans (hcD i hlt)
                rw [HD.out] at hdc
                obtain ⟨v, hve⟩ : ∃ v, V[u]?.getD 0 = v := ⟨_, rfl⟩
                rw [hve] at hv
                have HVE := Lib.hid hve
                clear hve hcV hcD
                by_cases hvd : v < d
                · have dd : decide (v < d) = true := decide_eq_true hvd
                  have hne : u ≠ m := by
                    intro h
                    rw [h, hm2] at HVE
                    have := HVE.out
                    omega
                  have hul2 : decide ((u : Int) < (V.length : Int)) = true := decide_eq_true hul
                  have HA2 : Aside (∀ j, j < u + 1 → V[j]?.getD 0 < d) := (show Aside _ from fun j hj => by
                    by_cases e : j = u
                    · rw [e, HVE.out]; exact hvd
                    · exact HA.out j (by omega))
                  clear HA
                  go_wp2_with fail
                  go_quiet (fail)
                  go_wp2_with fail
                  go_roundw
                  case rel => exact ⟨u + 1, by omega, by go_num, HA2, below_drewN EX _⟩
                  case measure => simp [Go.RowKit.intOf]; omega
                · have dd : decide (v < d) = false := decide_eq_false hvd
                  have hvm : v ≤ d := by
                    rw [← HVE.out, ← hm2]
                    exact sorted_le HSV.out hum hm1
                  obtain rfl : v = d := by omega
                  have hul2 : decide ((u : Int) < (V.length : Int)) = true := decide_eq_true hul
                  have hun : ((u : Int) == (V.length : Int)) = false := by simp; omega
                  have hvv : (v != v) = false := by simp
                  have HA2 : Aside (∀ j, j < u → i + 1 < D.length → V[j]?.getD 0 < D[i + 1]?.getD 0) := (show Aside _ from fun j hj h => by
                    have h1 := HA.out j hj
                    have h2 := sorted_lt HSD.out (show i < i + 1 by omega) h
                    rw [HD.out] at h2
                    omega)
                  clear HA
                  go_wp2_with fail
                  go_quiet (fail)
                  go_wp2_with fail
                  go_quiet (fail)
                  go_wp2_with fail
                  go_roundw
                  case rel => exact ⟨u, i + 1, by omega, by omega, rfl, by go_num, HA2, below_drewN EX _⟩
                  case measure => simp [Go.RowKit.intOf]; omega
            · have hltz : ¬ (i : Int) < (D.length : Int) := by omega
              go_wp2_with fail
              refine (awake_any _).mono ?_
              rintro e w9 ⟨rfl, E9⟩
              go_wp2
              go_ret
              exact ⟨rfl, HE6.out.comp (EX.comp E9)⟩
  · have e1 : canE l ss = ([], false, canX l ss) := by unfold canE; rw [if_neg hc]
    rw [e1] at hcn
    have hxb : (canX l ss != 0) = true := by simpa using hc
    obtain ⟨y, hy⟩ : ∃ y, canX l ss = y := ⟨_, rfl⟩
    rw [hy] at hcn hxb
    clear e1 hc hy l1 l2 i1 i2
    go_enter Try.func10, Try.ntmps10
    go_wp2_with fail
    refine (hcn _ ((Ext.refl w).alloc _)).mono ?_
    rintro e w1 ⟨ac, cc, rfl, hI, E1⟩
    go_wp2_with fail
    refine (awake_any _).mono ?_
    rintro e w6 ⟨rfl, E6⟩
    go_wp2
    go_ret
    exact ⟨rfl, E1.old.comp E6.old⟩
end Go.Proofs.Ytkkchoinfdfiaaa
