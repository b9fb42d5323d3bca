import Derived.Test.YtcijneecjkpebaaU12
import Derived.Test.YtcijneecjkpebaaU9
set_option linter.unusedVariables false
set_option linter.unusedSimpArgs false
/- Layer 8: slices.EqualFunc with what Diff takes for alike. -/
namespace Go.Q
theorem alikeL_len : ∀ {a b : List En}, alikeL a b = true → a.length = b.length
  | [], [], _ => rfl
  | [], _ :: _, h => by cases h
  | _ :: _, [], h => by cases h
  | x :: r, y :: s, h => by
    unfold alikeL at h
    rw [Bool.and_eq_true] at h
    rw [List.length_cons, List.length_cons, alikeL_len h.2]
theorem alikeL_all : ∀ {a b : List En}, a.length = b.length → (∀ (i : Nat) (x y : En), a[i]? = some x → b[i]? = some y → alikeB x y = true) → alikeL a b = true
  | [], [], _, _ => rfl
  | [], _ :: _, h, _ => by cases h
  | _ :: _, [], h, _ => by cases h
  | x :: r, y :: s, h, H => by
    unfold alikeL
    rw [Bool.and_eq_true]
    exact ⟨H 0 x y rfl rfl, alikeL_all (a := r) (b := s) (Nat.succ.inj h) fun i x' y' h1 h2 => H (i + 1) x' y' h1 h2⟩
theorem alikeL_not : ∀ {a b : List En} {i : Nat} {x y : En}, a[i]? = some x → b[i]? = some y → alikeB x y = false → alikeL a b = false
  | [], _, i, x, y, h, _, _ => by simp at h
  | _ :: _, [], i, x, y, _, h, _ => by simp at h
  | x0 :: r, y0 :: s, 0, x, y, h1, h2, h => by
    obtain rfl : x0 = x := by simpa using h1
    obtain rfl : y0 = y := by simpa using h2
    unfold alikeL
    rw [h]; rfl
  | x0 :: r, y0 :: s, i + 1, x, y, h1, h2, h => by
    unfold alikeL
    rw [alikeL_not (a := r) (b := s) (i := i) (by simpa using h1) (by simpa using h2) h, Bool.and_false]
theorem alikeL_at {a b : List En} (h : alikeL a b = true) {i : Nat} {x y : En} (h1 : a[i]? = some x) (h2 : b[i]? = some y) : alikeB x y = true := by
  cases hq : alikeB x y with
  | true => rfl
  | false => rw [alikeL_not h1 h2 hq] at h; cases h
end Go.Q
namespace Go.Proofs.Ytcijneecjkpebaa
open Go.RowKit Go.Q
/-- the cells of entry i -/
theorem CatAt.at_ {w : World} {a : Option Addr} {cat : List En} {L : Nat → Lo} (h : CatAt w a cat L) {i : Nat} {x : En} (hx : cat[i]? = some x) : ∃ b off, a = some ⟨b, off, none⟩ ∧ b < w.heap.size ∧ (∀ W, Ext w W → ∀ j v, (ecs x (L i))[j]? = some v → W.cell? ⟨b, off + i * 8 + j, none⟩ = some v) ∧ RtAt w x.code (L i) := by
  rcases h with rfl | ⟨b, off, ha, hb, hc⟩
  · simp at hx
  · exact ⟨b, off, ha, hb, fun W E j v hv => (E.cell (p := ⟨b, off + i * 8 + j, none⟩) hb).trans ((hc i x hx).1 j v hv), (hc i x hx).2⟩
set_option maxRecDepth 100000 in
set_option maxHeartbeats 4000000 in
theorem lb_equalF (a b : Option Addr) (n m c d : Nat) (xs ys : List En) (L K : Nat → Lo) (w : World) (hx : xs.length = n) (hy : ys.length = m) (hn : n ≤ 9223372036854775807) (hm : m ≤ 9223372036854775807) (hI : CatAt w a xs L) (hJ : CatAt w b ys K) (hbx : ∀ x ∈ xs, EnBd x) (hby : ∀ x ∈ ys, EnBd x) :
    Calls Try.prog 81 #[.slice a n c, .slice b m d, .func (.func 79) #[] #[]] w fun e w' => e = .returned (.bool (alikeL xs ys)) ∧ Ext w w' := by
  by_cases hnm : n = m
  · subst hnm
    have HI := Lib.hid hI
    have HJ := Lib.hid hJ
    have HX := Lib.hid hx
    have HY := Lib.hid hy
    have HBX := Lib.hid hbx
    have HBY := Lib.hid hby
    clear hI hJ hx hy hbx hby
    go_enter Try.func81, Try.ntmps81
    go_wp2_with fail
    go_loopw [17] (fun s wr => ∃ j : Nat, j ≤ n ∧ s = .int .i64 (j : Int) ∧ Aside (Ext w wr) ∧ Aside (∀ i x y, i < j → xs[i]? = some x → ys[i]? = some y → alikeB x y = true)) (fun s _ => n - (intOf s).toNat)
    case atStart => exact ⟨0, Nat.zero_le _, rfl, Ext.refl _, fun i _ _ hi => absurd hi (Nat.not_lt_zero _)⟩
    case round =>
      obtain ⟨j, hj, rfl, EW, HP⟩ := hrel
      by_cases hlt : j < n
      · have hltz : (j : Int) < (n : Int) := by omega
        obtain ⟨x, hxj⟩ : ∃ x, xs[j]? = some x := ⟨_, List.getElem?_eq_getElem (by rw [HX.out]; exact hlt)⟩
        obtain ⟨y, hyj⟩ : ∃ y, ys[j]? = some y := ⟨_, List.getElem?_eq_getElem (by rw [HY.out]; exact hlt)⟩
        obtain ⟨b1, o1, rfl, hb1, hc1, hr1⟩ := HI.out.at_ hxj
        obtain ⟨b2, o2, rfl, hb2, hc2, hr2⟩ := HJ.out.at_ hyj
        have hal := fun W (E : Ext w W) => lb_alike x y (L j) (K j) W (hr1.ext E) (hr2.ext E) (HBX.out x (List.mem_of_getElem? hxj)).code (HBY.out y (List.mem_of_getElem? hyj)).code
        have hcx := fun i v hv => hc1 wr EW.out i v hv
        have hcy := fun i v hv => hc2 wr EW.out i v hv
        have q0 := hcx 0 (.string x.name) rfl
        have q1 := hcx 1 (.int .i64 x.ver) rfl
        have q2 := hcx 2 (.slice (L j).a1 x.code.words.length (L j).c1) rfl
        have q3 := hcx 3 (.slice (L j).a2 x.code.masks.length (L j).c2) rfl
        have q4 := hcx 4 (.int .i64 x.code.entry) rfl
        have q5 := hcx 5 (.int .i64 x.code.exit) rfl
        have q6 := hcx 6 (.int .i64 x.code.result) rfl
        have q7 := hcx 7 (.slice (L j).a3 x.code.args.length (L j).c3) rfl
        have t0 := hcy 0 (.string y.name) rfl
        have t1 := hcy 1 (.int .i64 y.ver) rfl
        have t2 := hcy 2 (.slice (K j).a1 y.code.words.length (K j).c1) rfl
        have t3 := hcy 3 (.slice (K j).a2 y.code.masks.length (K j).c2) rfl
        have t4 := hcy 4 (.int .i64 y.code.entry) rfl
        have t5 := hcy 5 (.int .i64 y.code.exit) rfl
        have t6 := hcy 6 (.int .i64 y.code.result) rfl
        have t7 := hcy 7 (.slice (K j).a3 y.code.args.length (K j).c3) rfl
        rw [Nat.add_zero] at q0 t0
        obtain ⟨al, hale⟩ : ∃ al, alikeB x y = al := ⟨_, rfl⟩
        rw [hale] at hal
        have HAL := Lib.hid hale
        have HXJ := Lib.hid hxj
        have HYJ := Lib.hid hyj
        have hw1 : b1 < wr.heap.size := Nat.lt_of_lt_of_le hb1 EW.out.size
        have hw2 : b2 < wr.heap.size := Nat.lt_of_lt_of_le hb2 EW.out.size
        clear hc1 hc2 hcx hcy hr1 hr2 hxj hyj hale
        cases al with
        | false =>
          go_wp2_with (go_at_call 79; refine (hal _ (by repeat (first | with_reducible exact Ext.refl _ | with_reducible exact EW.out | with_reducible exact EW.out.old | with_reducible exact EW.out.old.old | with_reducible exact EW.out.old.old.old | (with_reducible refine Ext.alloc ?_ _) | (with_reducible refine Below.drew ?_) | (with_reducible refine below_drewN ?_ _) | (with_reducible refine ext_put ?_ _ ?_; rotate_left; (first | with_reducible exact Nat.le_refl _ | with_reducible exact Nat.le_succ _ | omega | (dsimp only; omega)))))).mono ?_; rintro e w' ⟨rfl, hb'⟩)
          go_ret
          refine ⟨by rw [alikeL_not HXJ.out HYJ.out HAL.out]; rfl, ?_⟩
          exact (show Ext w _ from (by repeat (first | with_reducible exact Ext.refl _ | with_reducible exact EW.out | with_reducible exact EW.out.old | with_reducible exact EW.out.old.old | with_reducible exact EW.out.old.old.old | (with_reducible refine Ext.alloc ?_ _) | (with_reducible refine Below.drew ?_) | (with_reducible refine below_drewN ?_ _) | (with_reducible refine ext_put ?_ _ ?_; rotate_left; (first | with_reducible exact Nat.le_refl _ | with_reducible exact Nat.le_succ _ | omega | (dsimp only; omega)))))).comp hb'
        | true =>
          go_wp2_with (go_at_call 79; refine (hal _ (by repeat (first | with_reducible exact Ext.refl _ | with_reducible exact EW.out | with_reducible exact EW.out.old | with_reducible exact EW.out.old.old | with_reducible exact EW.out.old.old.old | (with_reducible refine Ext.alloc ?_ _) | (with_reducible refine Below.drew ?_) | (with_reducible refine below_drewN ?_ _) | (with_reducible refine ext_put ?_ _ ?_; rotate_left; (first | with_reducible exact Nat.le_refl _ | with_reducible exact Nat.le_succ _ | omega | (dsimp only; omega)))))).mono ?_; rintro e w' ⟨rfl, hb'⟩)
          go_roundw
          case rel =>
            refine ⟨j + 1, by omega, by go_num, (show Ext w _ from (by repeat (first | with_reducible exact Ext.refl _ | with_reducible exact EW.out | with_reducible exact EW.out.old | with_reducible exact EW.out.old.old | with_reducible exact EW.out.old.old.old | (with_reducible refine Ext.alloc ?_ _) | (with_reducible refine Below.drew ?_) | (with_reducible refine below_drewN ?_ _) | (with_reducible refine ext_put ?_ _ ?_; rotate_left; (first | with_reducible exact Nat.le_refl _ | with_reducible exact Nat.le_succ _ | omega | (dsimp only; omega)))))).comp hb', (show Aside _ from fun i x' y' hi h1 h2 => ?_)⟩
            rcases Nat.lt_succ_iff_lt_or_eq.1 hi with h | rfl
            · exact HP.out i x' y' h h1 h2
            · rw [HXJ.out] at h1
              rw [HYJ.out] at h2
              rw [← Option.some.inj h1, ← Option.some.inj h2]
              exact HAL.out
          case measure => simp [intOf]; omega
      · have hltz : ¬ (j : Int) < (n : Int) := by omega
        go_wp2_with fail
        go_ret
        refine ⟨?_, EW.out⟩
        rw [alikeL_all (by rw [HX.out, HY.out]) fun i x y h1 h2 => HP.out i x y (by have := (List.getElem?_eq_some_iff.1 h1).1; rw [HX.out] at this; omega) h1 h2]
        rfl
  · have hb : ((n : Int) != (m : Int)) = true := by rw [bne_iff_ne]; omega
    have HE := Lib.hid (show alikeL xs ys = false by
      cases hq : alikeL xs ys with
      | false => rfl
      | true => exact absurd (alikeL_len hq) (by rw [hx, hy]; exact hnm))
    clear hx hy hI hJ hnm hbx hby
    go_enter Try.func81, Try.ntmps81
    go_wp2_with fail
    go_ret
    exact ⟨by rw [HE.out]; rfl, Ext.refl _⟩
end Go.Proofs.Ytcijneecjkpebaa
/- Layer 8: the patches from one entry to another one: the iterator. -/
namespace Go.Q
theorem difK_snoc (nm : ByteArray) (a b : Rt) : ∀ (f k : Nat) (v : Int), difK nm a b (f + 1) k v = if a.w (k + f) = b.w (k + f) ∧ a.m (k + f) = b.m (k + f) then difK nm a b f k v else ((difK nm a b f k v).1 ++ [⟨nm, (difK nm a b f k v).2, ((k + f : Nat) : Int), a.w (k + f), b.w (k + f), a.m (k + f), b.m (k + f)⟩], (difK nm a b f k v).2 + 1)
  | 0, k, v => by
    unfold difK
    by_cases h : a.w k = b.w k ∧ a.m k = b.m k
    · rw [if_pos h, if_pos (by simpa using h)]
      rfl
    · rw [if_neg h, if_neg (by simpa using h)]
      rfl
  | f + 1, k, v => by
    have e : k + (f + 1) = (k + 1) + f := by omega
    conv => lhs; unfold difK
    conv => rhs; rw [show difK nm a b (f + 1) k v = (if a.w k = b.w k ∧ a.m k = b.m k then difK nm a b f (k + 1) v else (⟨nm, v, (k : Int), a.w k, b.w k, a.m k, b.m k⟩ :: (difK nm a b f (k + 1) (v + 1)).1, (difK nm a b f (k + 1) (v + 1)).2)) from rfl]
    rw [e]
    by_cases h : a.w k = b.w k ∧ a.m k = b.m k
    · rw [if_pos h, if_pos h]
      exact difK_snoc nm a b f (k + 1) v
    · rw [if_neg h, if_neg h, difK_snoc nm a b f (k + 1) (v + 1)]
      by_cases h2 : a.w (k + 1 + f) = b.w (k + 1 + f) ∧ a.m (k + 1 + f) = b.m (k + 1 + f)
      · rw [if_pos h2, if_pos h2]
      · rw [if_neg h2, if_neg h2]
        rfl
/-- the patches of the first j words -/
def difA (a b : En) (j : Nat) : List Pt := (difK a.name a.code b.code j 0 a.ver).1
theorem difA_zero (a b : En) : difA a b 0 = [] := rfl
theorem difA_ver (a b : En) : ∀ j, (difK a.name a.code b.code j 0 a.ver).2 = a.ver + (difA a b j).length
  | 0 => by simp [difA, difK]
  | j + 1 => by
    have ih := difA_ver a b j
    unfold difA at ih ⊢
    rw [difK_snoc]
    split
    · exact ih
    · rw [List.length_append, ih]; simp; omega
theorem difA_same {a b : En} {j : Nat} (h : a.code.w j = b.code.w j ∧ a.code.m j = b.code.m j) : difA a b (j + 1) = difA a b j := by
  unfold difA
  rw [difK_snoc, if_pos (by simpa using h)]
theorem difA_more {a b : En} {j : Nat} (h : ¬ (a.code.w j = b.code.w j ∧ a.code.m j = b.code.m j)) : difA a b (j + 1) = difA a b j ++ [⟨a.name, a.ver + (difA a b j).length, (j : Int), a.code.w j, b.code.w j, a.code.m j, b.code.m j⟩] := by
  rw [← difA_ver a b j]
  unfold difA
  rw [difK_snoc, if_neg (by simpa using h)]
  simp
theorem difA_len (a b : En) : ∀ j, (difA a b j).length ≤ j
  | 0 => by simp [difA_zero]
  | j + 1 => by
    have ih := difA_len a b j
    by_cases h : a.code.w j = b.code.w j ∧ a.code.m j = b.code.m j
    · rw [difA_same h]; omega
    · rw [difA_more h, List.length_append]; simp; omega
theorem difA_pre (a b : En) (j : Nat) : ∀ d, difA a b j <+: difA a b (j + d)
  | 0 => List.prefix_refl _
  | d + 1 => by
    refine (difA_pre a b j d).trans ?_
    rw [show j + (d + 1) = (j + d) + 1 from rfl]
    by_cases h : a.code.w (j + d) = b.code.w (j + d) ∧ a.code.m (j + d) = b.code.m (j + d)
    · rw [difA_same h]; exact List.prefix_refl _
    · rw [difA_more h]; exact List.prefix_append _ _
theorem difA_at {a b : En} {j n : Nat} (hj : j < n) (h : ¬ (a.code.w j = b.code.w j ∧ a.code.m j = b.code.m j)) : (difA a b n)[(difA a b j).length]? = some ⟨a.name, a.ver + (difA a b j).length, (j : Int), a.code.w j, b.code.w j, a.code.m j, b.code.m j⟩ := by
  have hp := difA_pre a b (j + 1) (n - (j + 1))
  rw [show j + 1 + (n - (j + 1)) = n by omega] at hp
  obtain ⟨t, ht⟩ := hp
  rw [← ht, difA_more h]
  simp
theorem difE_eq (a b : En) : difE a b = (difA a b a.code.words.length, a.ver + (difA a b a.code.words.length).length) := by
  rw [← difA_ver]
  rfl
end Go.Q
namespace Go.Proofs.Ytcijneecjkpebaa
open Go.RowKit Go.Q Go.Shelf
/-- a patch's cells -/
def pcs (p : Pt) : List Value := [.string p.name, .int .i64 p.ver, .int .i64 p.at_, .int .i64 p.old, .int .i64 p.new, .int .i64 p.oldM, .int .i64 p.newM]
theorem ints_cell {V : World} {g o : Nat} {xs : List Int} (h : IntsAt V (some ⟨g, o, none⟩) xs) {i : Nat} (hi : i < xs.length) : V.cell? ⟨g, o + i, none⟩ = some (.int .i64 (xs[i]?.getD 0)) := by
  rcases h with rfl | ⟨b, off, ha, hb, hc⟩
  · simp at hi
  · obtain ⟨rfl, rfl, -⟩ := Addr.mk.inj (Option.some.inj ha)
    exact hc i hi
theorem ints_some {V : World} {a : Option Addr} {xs : List Int} (h : IntsAt V a xs) {i : Nat} (hi : i < xs.length) : ∃ g o, a = some ⟨g, o, none⟩ := by
  rcases h with rfl | ⟨b, off, ha, hb, hc⟩
  · simp at hi
  · exact ⟨_, _, ha⟩
set_option maxRecDepth 100000 in
set_option maxHeartbeats 8000000 in
theorem diffs_in (n : Nat) (hn : 1 ≤ n) (yl b1 b2 : Nat) (x y : En) (lx ly : Lo) (wl : Nat) (hw1 : x.code.words.length = wl) (hw2 : y.code.words.length = wl) (hm1 : x.code.masks.length = wl) (hm2 : y.code.masks.length = wl) (hwl : wl ≤ 40)
    (hv : 1 ≤ x.ver ∧ x.ver ≤ 1000) (M : Nat → Prop) (JJ : Nat → World → Prop) (W : World) (hMD : ¬ M W.heap.size)
    (hR : ∀ V, KpM (fun q => M q ∨ q = W.heap.size) W V → Blk V b1 #[.string x.name, .int .i64 x.ver, .slice lx.a1 x.code.words.length lx.c1, .slice lx.a2 x.code.masks.length lx.c2, .int .i64 x.code.entry, .int .i64 x.code.exit, .int .i64 x.code.result, .slice lx.a3 x.code.args.length lx.c3] 63 ∧ Blk V b2 #[.string y.name, .int .i64 y.ver, .slice ly.a1 y.code.words.length ly.c1, .slice ly.a2 y.code.masks.length ly.c2, .int .i64 y.code.entry, .int .i64 y.code.exit, .int .i64 y.code.result, .slice ly.a3 y.code.args.length ly.c3] 63 ∧ RtAt V x.code lx ∧ RtAt V y.code ly)
    (hJ : ∀ k A B, JJ k A → KpM (fun q => q = W.heap.size) A B → JJ k B)
    (hY : ∀ k p A, JJ k A → W.heap.size < A.heap.size → (difA x y wl)[k]? = some p → YieldAt Fence.wide (n - 1) Try.prog yl #[.agg (pcs p).toArray] A fun e W' => e = .returned (.bool true) ∧ JJ (k + 1) W' ∧ KpM M A W')
    (h0 : JJ 0 W) :
    CallsIn Fence.wide n Try.prog 117 #[.func (.yield yl) #[] #[], .pointer (some ⟨b1, 0, none⟩), .pointer (some ⟨b2, 0, none⟩)] W fun e W' => (∃ v, e = .returned v) ∧ JJ (difA x y wl).length W' := by
  obtain ⟨p1, k1, p2, k2, p3, k3⟩ := lx
  obtain ⟨r1, j1, r2, j2, r3, j3⟩ := ly
  dsimp only at hR
  obtain ⟨hbx, hby, -, -⟩ := hR W (KpM.refl _ _)
  rw [hw1, hm1] at hbx
  rw [hw2, hm2] at hby
  have HR := Lib.hid hR
  have HJ := Lib.hid hJ
  have HY := Lib.hid hY
  have HW1 := Lib.hid hw1
  have HW2 := Lib.hid hw2
  have HM1 := Lib.hid hm1
  have HM2 := Lib.hid hm2
  have HMD := Lib.hid hMD
  have H0 := Lib.hid h0
  clear hR hJ hY hw1 hw2 hm1 hm2 hMD h0
  refine callsIn_of_wp Try.func117 rfl trivial ?_ rfl
  simp only [Try.ntmps117, List.size_toArray, List.length_cons, List.length_nil, Nat.reduceAdd, Nat.reduceSub, Array.replicate_succ, Array.replicate_zero, List.push_toArray, List.append_toArray, List.nil_append, List.cons_append]
  refine wpIn_wide.2 ?_
  have q0 := Blk.c hbx 0 (v := .string x.name) rfl
  have q1 := Blk.c hbx 1 (v := .int .i64 x.ver) rfl
  have q2 := Blk.c hbx 2 (v := .slice p1 wl k1) rfl
  have hb1 := hbx.lt
  go_upto_region 1 with fail
  obtain ⟨D, hD⟩ : ∃ D, W.heap.size = D := ⟨_, rfl⟩
  rw [hD] at HR HJ HMD HY ⊢
  have hDb := Blk.nw W #[.string x.name, .int .i64 x.ver, .int .i64 0, .int .i64 0, .int .i64 0, .int .i64 0, .int .i64 0] 65
  rw [hD] at hDb
  have E0 : Ext W (W.alloc (.cells #[.string x.name, .int .i64 x.ver, .int .i64 0, .int .i64 0, .int .i64 0, .int .i64 0, .int .i64 0] 65)) := (Ext.refl W).alloc _
  obtain ⟨W0, hW0⟩ : ∃ W0, W.alloc (.cells #[.string x.name, .int .i64 x.ver, .int .i64 0, .int .i64 0, .int .i64 0, .int .i64 0, .int .i64 0] 65) = W0 := ⟨_, rfl⟩
  rw [hW0] at hDb E0 ⊢
  have J0 := HJ.out 0 _ _ H0.out (KpM.of_ext E0)
  have K0 : KpM (fun q => M q ∨ q = D) W W0 := KpM.of_ext E0
  have hbx := hbx.ex E0
  clear q0 q1 q2 hW0 hD
  have q0 := Blk.c hbx 0 (v := .string x.name) rfl
  have q1 := Blk.c hbx 1 (v := .int .i64 x.ver) rfl
  have q2 := Blk.c hbx 2 (v := .slice p1 wl k1) rfl
  have HJ0 := Lib.hid J0
  have HK0 := Lib.hid K0
  have HDB := Lib.hid hDb
  clear J0 K0 hDb E0
  go_wp2_with fail
  clear q0 q1 q2 hbx hby
  go_loopw [16] (fun s wr => ∃ j : Nat, j ≤ wl ∧ s = .int .i64 (j : Int) ∧ Aside (∃ z2 z3 z4 z5 z6 : Int, Blk wr D #[.string x.name, .int .i64 (x.ver + ((difA x y j).length : Int)), .int .i64 z2, .int .i64 z3, .int .i64 z4, .int .i64 z5, .int .i64 z6] 65) ∧ Aside (JJ (difA x y j).length wr ∧ KpM (fun q => M q ∨ q = D) W wr)) (fun s _ => wl - (intOf s).toNat)
  case atStart => exact ⟨0, Nat.zero_le _, rfl, ⟨0, 0, 0, 0, 0, by rw [difA_zero]; simpa using HDB.out⟩, by rw [difA_zero]; exact HJ0.out, HK0.out⟩
  case round =>
    obtain ⟨j, hj, rfl, HB, HK⟩ := hrel
    by_cases hlt : j < wl
    · have hltz : (j : Int) < (wl : Int) := by omega
      obtain ⟨z2, z3, z4, z5, z6, hbd⟩ := HB.out
      obtain ⟨hJc, hKw⟩ := HK.out
      have hc40 := difA_len x y j
      have HSAME := Lib.hid (fun h => difA_same (a := x) (b := y) (j := j) h)
      have HMORE := Lib.hid (fun h => difA_more (a := x) (b := y) (j := j) h)
      have HAT := Lib.hid (fun h => difA_at (a := x) (b := y) hlt h)
      obtain ⟨c, hc⟩ : ∃ c, (difA x y j).length = c := ⟨_, rfl⟩
      rw [hc] at hbd hJc hc40 HMORE HAT
      obtain ⟨hbx, hby, hrx, hry⟩ := HR.out wr hKw
      obtain ⟨g1, o1, e1⟩ := ints_some hrx.i1 (i := j) (by rw [HW1.out]; exact hlt)
      obtain ⟨g2, o2, e2⟩ := ints_some hrx.i2 (i := j) (by rw [HM1.out]; exact hlt)
      obtain ⟨g3, o3, e3⟩ := ints_some hry.i1 (i := j) (by rw [HW2.out]; exact hlt)
      obtain ⟨g4, o4, e4⟩ := ints_some hry.i2 (i := j) (by rw [HM2.out]; exact hlt)
      dsimp only at e1 e2 e3 e4
      subst e1 e2 e3 e4
      have w0 := ints_cell hrx.i1 (i := j) (by rw [HW1.out]; exact hlt)
      have HF := Lib.hid (show ∀ V, KpM (fun q => q = D) wr V → Blk V b1 #[.string x.name, .int .i64 x.ver, .slice (some ⟨g1, o1, none⟩) wl k1, .slice (some ⟨g2, o2, none⟩) wl k2, .int .i64 x.code.entry, .int .i64 x.code.exit, .int .i64 x.code.result, .slice p3 x.code.args.length k3] 63 ∧ Blk V b2 #[.string y.name, .int .i64 y.ver, .slice (some ⟨g3, o3, none⟩) wl j1, .slice (some ⟨g4, o4, none⟩) wl j2, .int .i64 y.code.entry, .int .i64 y.code.exit, .int .i64 y.code.result, .slice r3 y.code.args.length j3] 63 ∧ V.cell? ⟨g3, o3 + j, none⟩ = some (.int .i64 (y.code.w j)) ∧ V.cell? ⟨g2, o2 + j, none⟩ = some (.int .i64 (x.code.m j)) ∧ V.cell? ⟨g4, o4 + j, none⟩ = some (.int .i64 (y.code.m j)) from fun V hV => by
        obtain ⟨h1, h2, h3, h4⟩ := HR.out V (hKw.trans (hV.mono fun q hq => .inr hq))
        rw [HW1.out, HM1.out] at h1
        rw [HW2.out, HM2.out] at h2
        exact ⟨h1, h2, ints_cell h4.i1 (i := j) (by rw [HW2.out]; exact hlt), ints_cell h3.i2 (i := j) (by rw [HM1.out]; exact hlt), ints_cell h4.i2 (i := j) (by rw [HM2.out]; exact hlt)⟩)
      rw [show x.code.words[j]?.getD 0 = x.code.w j from rfl] at w0
      generalize x.code.w j = xw at *
      generalize y.code.w j = yw at *
      generalize x.code.m j = xm at *
      generalize y.code.m j = ym at *
      have HKW := Lib.hid hKw
      have HJC := Lib.hid hJc
      have HC := Lib.hid hc
      have hDw := hbd.lt
      have HBD := Lib.hid hbd
      clear hKw hJc hc hbx hby hrx hry
      obtain ⟨wo, rfl⟩ : ∃ wo : World, wo = wr := ⟨_, rfl⟩
      go_upto_region 4 with fail
      refine wp_region_P (fun i => i == 29) (fun V => KpM (fun q => q = D) wo V) (by kernel_rfl) (KpM.of_ext (Ext.refl wo).drew) fun hSX => ?_
      have hbd2 := hbd.dr
      obtain ⟨Y, hY⟩ : ∃ Y, wo.drew = Y := ⟨_, rfl⟩
      rw [hY] at hSX hbd2 ⊢
      have hYs := hbd2.lt
      have f0 := hbd2.f 2
      have f1 := hbd2.f 3
      have f2 := hbd2.f 4
      have f3 := hbd2.f 5
      have f4 := hbd2.f 6
      have u2 := hbd2.c 2 (v := .int .i64 z2) rfl
      have u3 := hbd2.c 3 (v := .int .i64 z3) rfl
      have u4 := hbd2.c 4 (v := .int .i64 z4) rfl
      have u5 := hbd2.c 5 (v := .int .i64 z5) rfl
      have u6 := hbd2.c 6 (v := .int .i64 z6) rfl
      clear hbd hY
      refine tkPP 0 ⟨_, _, _, _, _, _⟩ ?_ rfl (by kernel_rfl) (fun _ _ _ h => h) (Or.inl ⟨by rfl, ?_⟩) ?_
      rotate_left
      · intro wX _
        go_simp
        (try with_reducible rfl)
      (try simp only [Act.put, List.setIfInBounds_toArray, List.set_cons_succ, List.set_cons_zero])
      refine tkPP 1 ⟨_, _, _, _, _, _⟩ ?_ rfl (by kernel_rfl) (fun _ _ _ h => h) (Or.inl ⟨by rfl, ?_⟩) ?_
      rotate_left
      · intro wX _
        go_simp
        (try with_reducible rfl)
      (try simp only [Act.put, List.setIfInBounds_toArray, List.set_cons_succ, List.set_cons_zero])
      refine tkPP 2 ⟨_, _, _, _, _, _⟩ ?_ rfl (by kernel_rfl) (fun _ _ _ h => h) (Or.inl ⟨by rfl, ?_⟩) ?_
      rotate_left
      · intro wX _
        go_simp
        (try with_reducible rfl)
      (try simp only [Act.put, List.setIfInBounds_toArray, List.set_cons_succ, List.set_cons_zero])
      refine tkPP 3 ⟨_, _, _, _, _, _⟩ ?_ rfl (by kernel_rfl) (fun _ _ _ h => h) (Or.inl ⟨by rfl, ?_⟩) ?_
      rotate_left
      · intro wX _
        go_simp
        (try with_reducible rfl)
      (try simp only [Act.put, List.setIfInBounds_toArray, List.set_cons_succ, List.set_cons_zero])
      refine tkP 4 ⟨_, _, _, _, _, _⟩ ?_ rfl (by kernel_rfl) (fun _ _ _ h => h) (Or.inl ⟨by rfl, ?_⟩) hSX ?_
      rotate_left
      · intro wX hS
        obtain ⟨hbx', hby', y1, y2, y3⟩ := HF.out wX hS
        have q0 := Blk.c hby' 2 (v := .slice (some ⟨g3, o3, none⟩) wl j1) rfl
        clear hbx' hby' y1 y2 y3
        go_simp
        (try with_reducible rfl)
      (try simp only [Act.put, List.setIfInBounds_toArray, List.set_cons_succ, List.set_cons_zero])
      refine tkPP 5 ⟨_, _, _, _, _, _⟩ ?_ rfl (by kernel_rfl) (fun _ _ _ h => h) (Or.inl ⟨by rfl, ?_⟩) ?_
      rotate_left
      · intro wX _
        go_simp
        (try with_reducible rfl)
      (try simp only [Act.put, List.setIfInBounds_toArray, List.set_cons_succ, List.set_cons_zero])
      refine tkPP 6 ⟨_, _, _, _, _, _⟩ ?_ rfl (by kernel_rfl) (fun _ _ _ h => h) (Or.inl ⟨by rfl, ?_⟩) ?_
      rotate_left
      · intro wX _
        go_simp
        (try with_reducible rfl)
      (try simp only [Act.put, List.setIfInBounds_toArray, List.set_cons_succ, List.set_cons_zero])
      refine tkP 7 ⟨_, _, _, _, _, _⟩ ?_ rfl (by kernel_rfl) (fun _ _ _ h => h) (Or.inl ⟨by rfl, ?_⟩) hSX ?_
      rotate_left
      · intro wX hS
        obtain ⟨-, -, y1, y2, y3⟩ := HF.out wX hS
        go_simp
        (try with_reducible rfl)
      (try simp only [Act.put, List.setIfInBounds_toArray, List.set_cons_succ, List.set_cons_zero])
      refine tkPP 8 ⟨_, _, _, _, _, _⟩ ?_ rfl (by kernel_rfl) (fun _ _ _ h => h) (Or.inl ⟨by rfl, ?_⟩) ?_
      rotate_left
      · intro wX _
        go_simp
        (try with_reducible rfl)
      (try simp only [Act.put, List.setIfInBounds_toArray, List.set_cons_succ, List.set_cons_zero])
      refine tkPP 9 ⟨_, _, _, _, _, _⟩ ?_ rfl (by kernel_rfl) (fun _ _ _ h => h) (Or.inl ⟨by rfl, ?_⟩) ?_
      rotate_left
      · intro wX _
        go_simp
        (try with_reducible rfl)
      (try simp only [Act.put, List.setIfInBounds_toArray, List.set_cons_succ, List.set_cons_zero])
      refine tkP 10 ⟨_, _, _, _, _, _⟩ ?_ rfl (by kernel_rfl) (fun _ _ _ h => h) (Or.inl ⟨by rfl, ?_⟩) hSX ?_
      rotate_left
      · intro wX hS
        obtain ⟨hbx', hby', y1, y2, y3⟩ := HF.out wX hS
        have q0 := Blk.c hbx' 3 (v := .slice (some ⟨g2, o2, none⟩) wl k2) rfl
        clear hbx' hby' y1 y2 y3
        go_simp
        (try with_reducible rfl)
      (try simp only [Act.put, List.setIfInBounds_toArray, List.set_cons_succ, List.set_cons_zero])
      refine tkPP 11 ⟨_, _, _, _, _, _⟩ ?_ rfl (by kernel_rfl) (fun _ _ _ h => h) (Or.inl ⟨by rfl, ?_⟩) ?_
      rotate_left
      · intro wX _
        go_simp
        (try with_reducible rfl)
      (try simp only [Act.put, List.setIfInBounds_toArray, List.set_cons_succ, List.set_cons_zero])
      refine tkPP 12 ⟨_, _, _, _, _, _⟩ ?_ rfl (by kernel_rfl) (fun _ _ _ h => h) (Or.inl ⟨by rfl, ?_⟩) ?_
      rotate_left
      · intro wX _
        go_simp
        (try with_reducible rfl)
      (try simp only [Act.put, List.setIfInBounds_toArray, List.set_cons_succ, List.set_cons_zero])
      refine tkP 13 ⟨_, _, _, _, _, _⟩ ?_ rfl (by kernel_rfl) (fun _ _ _ h => h) (Or.inl ⟨by rfl, ?_⟩) hSX ?_
      rotate_left
      · intro wX hS
        obtain ⟨-, -, y1, y2, y3⟩ := HF.out wX hS
        go_simp
        (try with_reducible rfl)
      (try simp only [Act.put, List.setIfInBounds_toArray, List.set_cons_succ, List.set_cons_zero])
      refine tkPP 14 ⟨_, _, _, _, _, _⟩ ?_ rfl (by kernel_rfl) (fun _ _ _ h => h) (Or.inl ⟨by rfl, ?_⟩) ?_
      rotate_left
      · intro wX _
        go_simp
        (try with_reducible rfl)
      (try simp only [Act.put, List.setIfInBounds_toArray, List.set_cons_succ, List.set_cons_zero])
      refine tkPP 15 ⟨_, _, _, _, _, _⟩ ?_ rfl (by kernel_rfl) (fun _ _ _ h => h) (Or.inl ⟨by rfl, ?_⟩) ?_
      rotate_left
      · intro wX _
        go_simp
        (try with_reducible rfl)
      (try simp only [Act.put, List.setIfInBounds_toArray, List.set_cons_succ, List.set_cons_zero])
      refine tkP 16 ⟨_, _, _, _, _, _⟩ ?_ rfl (by kernel_rfl) (fun _ _ _ h => h) (Or.inl ⟨by rfl, ?_⟩) hSX ?_
      rotate_left
      · intro wX hS
        obtain ⟨hbx', hby', y1, y2, y3⟩ := HF.out wX hS
        have q0 := Blk.c hby' 3 (v := .slice (some ⟨g4, o4, none⟩) wl j2) rfl
        clear hbx' hby' y1 y2 y3
        go_simp
        (try with_reducible rfl)
      (try simp only [Act.put, List.setIfInBounds_toArray, List.set_cons_succ, List.set_cons_zero])
      refine tkPP 17 ⟨_, _, _, _, _, _⟩ ?_ rfl (by kernel_rfl) (fun _ _ _ h => h) (Or.inl ⟨by rfl, ?_⟩) ?_
      rotate_left
      · intro wX _
        go_simp
        (try with_reducible rfl)
      (try simp only [Act.put, List.setIfInBounds_toArray, List.set_cons_succ, List.set_cons_zero])
      refine tkPP 18 ⟨_, _, _, _, _, _⟩ ?_ rfl (by kernel_rfl) (fun _ _ _ h => h) (Or.inl ⟨by rfl, ?_⟩) ?_
      rotate_left
      · intro wX _
        go_simp
        (try with_reducible rfl)
      (try simp only [Act.put, List.setIfInBounds_toArray, List.set_cons_succ, List.set_cons_zero])
      refine tkP 19 ⟨_, _, _, _, _, _⟩ ?_ rfl (by kernel_rfl) (fun _ _ _ h => h) (Or.inl ⟨by rfl, ?_⟩) hSX ?_
      rotate_left
      · intro wX hS
        obtain ⟨-, -, y1, y2, y3⟩ := HF.out wX hS
        go_simp
        (try with_reducible rfl)
      (try simp only [Act.put, List.setIfInBounds_toArray, List.set_cons_succ, List.set_cons_zero])
      refine tkPP 20 ⟨_, _, _, _, _, _⟩ ?_ rfl (by kernel_rfl) (fun _ _ _ h => h) (Or.inl ⟨by rfl, ?_⟩) ?_
      rotate_left
      · intro wX _
        go_simp
        (try with_reducible rfl)
      (try simp only [Act.put, List.setIfInBounds_toArray, List.set_cons_succ, List.set_cons_zero])
      refine wpAnyP_one (i := 21) (o := ⟨_, _, _, _, _, _⟩) (by kernel_rfl) rfl ?_ <;> intro K hK
      go_simp
      refine hK _ _ (.inr fun h => h.trans (KpM.set (M := fun q => q = D) (p := ⟨D, 2, none⟩) rfl _)) ?_
      clear hK
      refine tkPP 22 ⟨_, _, _, _, _, _⟩ ?_ rfl (by kernel_rfl) (fun _ _ _ h => h) (Or.inl ⟨by rfl, ?_⟩) ?_
      rotate_left
      · intro wX _
        go_simp
        (try with_reducible rfl)
      (try simp only [Act.put, List.setIfInBounds_toArray, List.set_cons_succ, List.set_cons_zero])
      refine wpAnyP_one (i := 23) (o := ⟨_, _, _, _, _, _⟩) (by kernel_rfl) rfl ?_ <;> intro K hK
      go_simp
      refine hK _ _ (.inr fun h => h.trans (KpM.set (M := fun q => q = D) (p := ⟨D, 3, none⟩) rfl _)) ?_
      clear hK
      refine tkPP 24 ⟨_, _, _, _, _, _⟩ ?_ rfl (by kernel_rfl) (fun _ _ _ h => h) (Or.inl ⟨by rfl, ?_⟩) ?_
      rotate_left
      · intro wX _
        go_simp
        (try with_reducible rfl)
      (try simp only [Act.put, List.setIfInBounds_toArray, List.set_cons_succ, List.set_cons_zero])
      refine wpAnyP_one (i := 25) (o := ⟨_, _, _, _, _, _⟩) (by kernel_rfl) rfl ?_ <;> intro K hK
      go_simp
      refine hK _ _ (.inr fun h => h.trans (KpM.set (M := fun q => q = D) (p := ⟨D, 4, none⟩) rfl _)) ?_
      clear hK
      refine tkPP 26 ⟨_, _, _, _, _, _⟩ ?_ rfl (by kernel_rfl) (fun _ _ _ h => h) (Or.inl ⟨by rfl, ?_⟩) ?_
      rotate_left
      · intro wX _
        go_simp
        (try with_reducible rfl)
      (try simp only [Act.put, List.setIfInBounds_toArray, List.set_cons_succ, List.set_cons_zero])
      refine wpAnyP_one (i := 27) (o := ⟨_, _, _, _, _, _⟩) (by kernel_rfl) rfl ?_ <;> intro K hK
      go_simp
      refine hK _ _ (.inr fun h => h.trans (KpM.set (M := fun q => q = D) (p := ⟨D, 5, none⟩) rfl _)) ?_
      clear hK
      refine tkPP 28 ⟨_, _, _, _, _, _⟩ ?_ rfl (by kernel_rfl) (fun _ _ _ h => h) (Or.inl ⟨by rfl, ?_⟩) ?_
      rotate_left
      · intro wX _
        go_simp
        (try with_reducible rfl)
      (try simp only [Act.put, List.setIfInBounds_toArray, List.set_cons_succ, List.set_cons_zero])
      refine wpAnyP_one (i := 29) (o := ⟨_, _, _, _, _, _⟩) (by kernel_rfl) rfl ?_ <;> intro K hK
      go_simp
      refine hK _ _ (.inl rfl) ?_
      clear hK
      refine wpAnyP_done (by kernel_rfl) ?_ _
      have hz : Blk (((((Y.setCell ⟨D, 2, none⟩ (.int .i64 (j : Int))).setCell ⟨D, 3, none⟩ (.int .i64 xw)).setCell ⟨D, 4, none⟩ (.int .i64 yw)).setCell ⟨D, 5, none⟩ (.int .i64 xm)).setCell ⟨D, 6, none⟩ (.int .i64 ym)) D #[.string x.name, .int .i64 (x.ver + (c : Int)), .int .i64 (j : Int), .int .i64 xw, .int .i64 yw, .int .i64 xm, .int .i64 ym] 65 := by
        have := ((((hbd2.st 2 (.int .i64 (j : Int))).st 3 (.int .i64 xw)).st 4 (.int .i64 yw)).st 5 (.int .i64 xm)).st 6 (.int .i64 ym)
        simpa using this
      have hkz : KpM (fun q => q = D) wo (((((Y.setCell ⟨D, 2, none⟩ (.int .i64 (j : Int))).setCell ⟨D, 3, none⟩ (.int .i64 xw)).setCell ⟨D, 4, none⟩ (.int .i64 yw)).setCell ⟨D, 5, none⟩ (.int .i64 xm)).setCell ⟨D, 6, none⟩ (.int .i64 ym)) :=
        ((((hSX.trans (KpM.set (M := fun q => q = D) (p := ⟨D, 2, none⟩) rfl _)).trans (KpM.set (M := fun q => q = D) (p := ⟨D, 3, none⟩) rfl _)).trans (KpM.set (M := fun q => q = D) (p := ⟨D, 4, none⟩) rfl _)).trans (KpM.set (M := fun q => q = D) (p := ⟨D, 5, none⟩) rfl _)).trans (KpM.set (M := fun q => q = D) (p := ⟨D, 6, none⟩) rfl _)
      generalize ((((Y.setCell ⟨D, 2, none⟩ (.int .i64 (j : Int))).setCell ⟨D, 3, none⟩ (.int .i64 xw)).setCell ⟨D, 4, none⟩ (.int .i64 yw)).setCell ⟨D, 5, none⟩ (.int .i64 xm)).setCell ⟨D, 6, none⟩ (.int .i64 ym) = Z at hz hkz ⊢
      clear hSX hbd2 hYs f0 f1 f2 f3 f4 u2 u3 u4 u5 u6 w0
      have HKZ := Lib.hid hkz
      have HZ := Lib.hid hz
      clear hkz
      have q0 := Blk.c hz 0 (v := .string x.name) rfl
      have q1 := Blk.c hz 1 (v := .int .i64 (x.ver + (c : Int))) rfl
      have q2 := Blk.c hz 2 (v := .int .i64 (j : Int)) rfl
      have q3 := Blk.c hz 3 (v := .int .i64 xw) rfl
      have q4 := Blk.c hz 4 (v := .int .i64 yw) rfl
      have q5 := Blk.c hz 5 (v := .int .i64 xm) rfl
      have q6 := Blk.c hz 6 (v := .int .i64 ym) rfl
      clear hz
      have HJZ := Lib.hid (HJ.out c _ _ HJC.out HKZ.out)
      have HKN := Lib.hid (HKW.out.trans (HKZ.out.mono fun q hq => .inr hq))
      by_cases hs : xw = yw ∧ xm = ym
      · obtain ⟨rfl, rfl⟩ := hs
        have HDN := Lib.hid (HSAME.out ⟨rfl, rfl⟩)
        go_wp2_with fail
        go_roundw
        case rel => exact ⟨j + 1, by omega, by go_num, ⟨_, _, _, _, _, by rw [HDN.out, HC.out]; exact HZ.out⟩, by rw [HDN.out, HC.out]; exact HJZ.out, HKN.out⟩
        case measure => simp [intOf]; omega
      · have HDN := Lib.hid (HMORE.out hs)
        have HP := Lib.hid (HAT.out hs)
        have hs2 : xw ≠ yw ∨ (xw = yw ∧ xm ≠ ym) := by
          by_cases e : xw = yw
          · exact .inr ⟨e, fun e2 => hs ⟨e, e2⟩⟩
          · exact .inl e
        clear hs HSAME HMORE HAT
        have hwv : IntKind.i64.wrap (x.ver + (c : Int) + 1) = x.ver + (c : Int) + 1 := IntWalk.i64_in _ (by omega)
        obtain ⟨fn, tmps, assign, body, hy, hRd⟩ := HY.out c _ Z HJZ.out HZ.out.lt HP.out
        unfold pcs at hy
        dsimp only at hy
        have hs3 : ((xw == yw) = false ∧ (True = True)) ∨ ((xw == yw) = true ∧ (xm == ym) = false) := by
          rcases hs2 with h1 | ⟨h0, h1⟩
          · exact .inl ⟨beq_eq_false_iff_ne.2 h1, rfl⟩
          · exact .inr ⟨beq_iff_eq.2 h0, beq_eq_false_iff_ne.2 h1⟩
        clear hs2
        rcases hs3 with ⟨g1, g0⟩ | ⟨g1, g0⟩
        all_goals
          go_upto_region 6 with fail
          refine (wpIn_wide (n := n)).1 ?_
          gi_wp2
          refine hRd.mono ?_
          rintro e W3 ⟨rfl, hJ3, hk3⟩
          have hb3 := HZ.out.kpm hk3 HMD.out
          have HB3 := Lib.hid hb3
          have HJ3 := Lib.hid hJ3
          have HK3 := Lib.hid (HKN.out.trans (hk3.mono fun q hq => .inl hq))
          clear q0 q1 q2 q3 q4 q5 q6 hk3 hy hRd
          have q0 := Blk.c hb3 0 (v := .string x.name) rfl
          have q1 := Blk.c hb3 1 (v := .int .i64 (x.ver + (c : Int))) rfl
          have f1 := hb3.f 1
          clear hb3
          gi_wp2
          go_wp2_with fail
          have hln : (difA x y (j + 1)).length = c + 1 := by rw [HDN.out, List.length_append, HC.out]; rfl
          have hbn := HB3.out.st 1 (.int .i64 (x.ver + (c : Int) + 1))
          have hkn := KpM.set (A := W3) (M := fun q => q = D) (p := ⟨D, 1, none⟩) rfl (.int .i64 (x.ver + (c : Int) + 1))
          go_roundw
          case rel =>
            refine ⟨j + 1, by omega, by go_num, (show Aside (∃ _, _) from ⟨(j : Int), xw, yw, xm, ym, ?_⟩), (show Aside (_ ∧ _) from ⟨?_, ?_⟩)⟩
            · rw [hln, show x.ver + ((c + 1 : Nat) : Int) = x.ver + (c : Int) + 1 by omega]
              simpa using hbn
            · rw [hln]
              exact HJ.out _ _ _ HJ3.out hkn
            · exact HK3.out.trans (hkn.mono fun q hq => .inr hq)
          case measure => simp [intOf]; omega
    · have hltz : ¬ (j : Int) < (wl : Int) := by omega
      obtain rfl : j = wl := by omega
      have hJf := HK.out.1
      go_wp2_with fail
      go_end0
      exact ⟨⟨_, rfl⟩, hJf⟩
end Go.Proofs.Ytcijneecjkpebaa
