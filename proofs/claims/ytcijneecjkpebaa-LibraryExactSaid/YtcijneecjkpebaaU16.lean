import Derived.Test.YtcijneecjkpebaaU14
import Derived.Test.YtcijneecjkpebaaU15
set_option linter.unusedVariables false
set_option linter.unusedSimpArgs false
/- Layer 8: Diff. -/
namespace Go.Q
theorem difL_snoc : ∀ {a b : List En} {x y : En}, a.length = b.length → difL (a ++ [x]) (b ++ [y]) = difL a b ++ (difE x y).1
  | [], [], x, y, _ => by simp [difL]
  | [], _ :: _, _, _, h => by cases h
  | _ :: _, [], _, _, h => by cases h
  | p :: r, q :: s, x, y, h => by
    show (difE p q).1 ++ difL (r ++ [x]) (s ++ [y]) = ((difE p q).1 ++ difL r s) ++ (difE x y).1
    rw [difL_snoc (a := r) (b := s) (Nat.succ.inj h), List.append_assoc]
theorem difV_snoc : ∀ {a b : List En} {x y : En}, a.length = b.length → difV (a ++ [x]) (b ++ [y]) = (difV a b && decide ((difE x y).2 = y.ver))
  | [], [], x, y, _ => by simp [difV]
  | [], _ :: _, _, _, h => by cases h
  | _ :: _, [], _, _, h => by cases h
  | p :: r, q :: s, x, y, h => by
    show (decide ((difE p q).2 = q.ver) && difV (r ++ [x]) (s ++ [y])) = ((decide ((difE p q).2 = q.ver) && difV r s) && decide ((difE x y).2 = y.ver))
    rw [difV_snoc (a := r) (b := s) (Nat.succ.inj h), Bool.and_assoc]
theorem sound_goods {cat : List En} (h : soundE cat = 0) : ∀ x ∈ cat, Good x := by
  unfold soundE at h
  split at h
  · omega
  · exact (sound_good h).1
theorem difL_len : ∀ {a b : List En}, (∀ x ∈ a, x.code.words.length ≤ 40) → (difL a b).length ≤ 40 * a.length
  | [], b, _ => by cases b <;> simp [difL]
  | _ :: _, [], _ => by simp [difL]
  | p :: r, q :: s, h => by
    show ((difE p q).1 ++ difL r s).length ≤ _
    have h1 := difL_len (a := r) (b := s) fun x hx => h x (List.mem_cons_of_mem _ hx)
    have h2 := difA_len p q p.code.words.length
    have h3 := h p (List.mem_cons_self ..)
    rw [difE_eq, List.length_append, List.length_cons]
    dsimp only
    omega
theorem difA_verAt {a b : En} : ∀ {j k : Nat} {p : Pt}, (difA a b j)[k]? = some p → p.ver = a.ver + (k : Int)
  | 0, k, p, h => by simp [difA_zero] at h
  | j + 1, k, p, h => by
    by_cases hs : a.code.w j = b.code.w j ∧ a.code.m j = b.code.m j
    · rw [difA_same hs] at h
      exact difA_verAt h
    · rw [difA_more hs] at h
      by_cases hk : k < (difA a b j).length
      · rw [List.getElem?_append_left hk] at h
        exact difA_verAt h
      · have hl := (List.getElem?_eq_some_iff.1 h).1
        rw [List.length_append] at hl
        have : k = (difA a b j).length := by simp at hl; omega
        subst this
        rw [List.getElem?_append_right (Nat.le_refl _)] at h
        simp at h
        rw [← h]
end Go.Q
namespace Go.Proofs.Ytcijneecjkpebaa
open Go.RowKit Go.Q Go.Shelf
attribute [local go_sem] Oper.semAt_some
theorem Try.infoPt : (Try.prog.info? 65).map (fun i => (i.zero, i.size, i.bytes)) = some (some (.agg #[.string ⟨#[]⟩, .int .i64 0, .int .i64 0, .int .i64 0, .int .i64 0, .int .i64 0, .int .i64 0]), 7, 64) := by kernel_rfl
/-- the cells of patches -/
def vals (l : List Pt) : List Value := (l.map pcs).flatten
theorem vals_app (a b : List Pt) : vals (a ++ b) = vals a ++ vals b := by unfold vals; rw [List.map_append, List.flatten_append]
theorem vals_one (p : Pt) : vals [p] = pcs p := by simp [vals]
theorem vals_len : ∀ l : List Pt, (vals l).length = l.length * 7
  | [] => rfl
  | p :: l => by
    have := vals_len l
    unfold vals at this ⊢
    rw [List.map_cons, List.flatten_cons, List.length_append, this, List.length_cons]
    show 7 + _ = _
    omega
theorem pcs_one (p : Pt) : ∀ u ∈ pcs p, u.oneCell' = true := by
  intro u hu
  simp only [pcs, List.mem_cons, List.not_mem_nil, or_false] at hu
  rcases hu with rfl | rfl | rfl | rfl | rfl | rfl | rfl <;> rfl
/-- what Diff hands back -/
def PtsRes (r : List Pt × Int) (w : World) (e : Ending) (w' : World) : Prop :=
  ∃ a c, e = .returned (.tuple #[.slice a r.1.length c, .int .i64 r.2]) ∧ w'.ownsRow w.heap.size 65 7 (.slice a r.1.length c) r.1.length (vals r.1) ∧ Ext w w'
theorem pts_none (w w' : World) (r : Int) (E : Ext w w') : PtsRes ([], r) w (.returned (.tuple #[.slice none 0 0, .int .i64 r])) w' := ⟨none, 0, rfl, World.ownsRow_nil _ _ _ _, E⟩
/-- the state between two entries -/
def DfAt (w W : World) (l : List Pt) : Prop := ∃ v, Blk W w.heap.size #[v] 49 ∧ W.ownsRow (w.heap.size + 1) 65 7 v l.length (vals l) ∧ Ext w W
/-- how Diff ends -/
theorem diff_end {n : Nat} {tmps : Array Value} {w Wf : World} {r : Int} {l : List Pt} {Ds : List Nat} {a : Option Addr} {c : Nat} (hM : Marks w.heap.size Wf Ds) (hB : Blk Wf w.heap.size #[.slice a l.length c] 49) (ho : Wf.ownsRow (w.heap.size + 1) 65 7 (.slice a l.length c) l.length (vals l)) (E : Ext w Wf)
    (h4 : tmps[4]? = some (.pointer (some ⟨w.heap.size, 0, none⟩))) (h5 : tmps[5]? = some (.int .i64 r)) : LeavesInM Fence.wide n Try.prog Try.f32 tmps (PtsRes (l, r) w) (Ds.map markD) .returning Wf := by
  refine leaves_marks (b := w.heap.size) Ds _ hM fun W' hW' => ?_
  have b3 : Blk W' w.heap.size #[.slice a l.length c] 49 := hW'.cells _ _ hB rfl
  have hc := b3.c 0 (v := .slice a l.length c) rfl
  refine ⟨.tuple #[.slice a l.length c, .int .i64 r], ?_, a, c, rfl, own_le (B := w.heap.size + 1) ?_ (Nat.le_succ _), E.trans hW'.below⟩
  · simp [results, Try.f32, go_sem, h4, h5, hc]
  · refine ⟨ho.1, ?_⟩
    rcases ho.2 with h2 | ⟨g, cap, cur, h1, h2, h3, h4⟩
    · exact .inl h2
    · exact .inr ⟨g, cap, cur, h1, h2, hW'.cells _ _ h3 rfl, h4⟩
theorem with_act {P : Program} {c : Code} {Q : Exit → Act → World → Prop} {a : Act} {w : World} (h : ∀ a', a' = a → c.wp P Q a' w) : c.wp P Q a w := h a rfl
set_option maxRecDepth 100000 in
set_option maxHeartbeats 8000000 in
theorem lb_diff (a b : Option Addr) (n m c d : Nat) (xs ys : List En) (L G : Nat → Lo) (w : World) (hx : xs.length = n) (hy : ys.length = m) (hnc : n ≤ c) (hmd : m ≤ d) (hc : c ≤ 9223372036854775807) (hd : d ≤ 9223372036854775807) (hI : CatAt w a xs L) (hJ : CatAt w b ys G) (hbx : ∀ x ∈ xs, EnBd x) (hby : ∀ x ∈ ys, EnBd x) :
    Calls Try.prog 32 #[.slice a n c, .slice b m d] w (PtsRes (diffE xs ys) w) := by
  have hs1 := fun W (E : Ext w W) => lb_sound a n c xs L W hx hnc hc (hI.ext E) hbx
  have hs2 := fun W (E : Ext w W) => lb_sound b m d ys G W hy hmd hd (hJ.ext E) hby
  have heq := fun W (E : Ext w W) => lb_equalF a b n m c d xs ys L G W hx hy (by omega) (by omega) (hI.ext E) (hJ.ext E) hbx hby
  have HE := Lib.hid (show diffE xs ys = if soundE xs ≠ 0 then ([], soundE xs) else if soundE ys ≠ 0 then ([], soundE ys) else if alikeL xs ys = false then ([], 2) else if 20 < (difL xs ys).length then ([], 3) else if difV xs ys = false then ([], 181) else (difL xs ys, 0) from rfl)
  have HG1 := Lib.hid (fun h : soundE xs = 0 => h)
  obtain ⟨R, hR⟩ : ∃ R, diffE xs ys = R := ⟨_, rfl⟩
  rw [hR] at HE ⊢
  obtain ⟨e1, he1⟩ : ∃ e1, soundE xs = e1 := ⟨_, rfl⟩
  obtain ⟨e2, he2⟩ : ∃ e2, soundE ys = e2 := ⟨_, rfl⟩
  rw [he1] at HE hs1
  rw [he2] at HE hs2
  have HE1 := Lib.hid he1
  have HE2 := Lib.hid he2
  clear hR he1 he2 HG1
  have HI := Lib.hid hI
  have HJ := Lib.hid hJ
  have HX := Lib.hid hx
  have HY := Lib.hid hy
  have HBX := Lib.hid hbx
  have HBY := Lib.hid hby
  clear hI hJ hx hy hbx hby
  refine (callsIn_wide (n := 9)).1 ?_
  refine callsIn_of_wp_marks Try.func32 rfl trivial ?_ rfl
  simp only [Try.ntmps32, List.size_toArray, List.length_cons, List.length_nil, Nat.reduceAdd, Nat.reduceSub, Array.replicate_succ, Array.replicate_zero, List.push_toArray, List.append_toArray, List.nil_append, List.cons_append]
  refine wpIn_wide.2 ?_
  go_upto_region 1 with fail
  have hb0 := Blk.nw w #[.slice none 0 0] 49
  have E0 : Ext w (w.alloc (.cells #[.slice none 0 0] 49)) := (Ext.refl w).alloc _
  generalize w.alloc (.cells #[.slice none 0 0] 49) = X at hb0 E0 ⊢
  have hl := Blk.nw X #[.slice a n c, .slice b m d] 39
  have EX1 : Ext X (X.alloc (.cells #[.slice a n c, .slice b m d] 39)) := (Ext.refl X).alloc _
  go_wp2_with fail
  obtain ⟨bl, hbl⟩ : ∃ bl, X.heap.size = bl := ⟨_, rfl⟩
  generalize X.alloc (.cells #[.slice a n c, .slice b m d] 39) = X1 at hl EX1 ⊢
  rw [hbl] at hl ⊢
  clear hbl
  have HL := Lib.hid hl
  have HB0 := Lib.hid (hb0.ex EX1)
  have HX1 := Lib.hid (E0.comp EX1)
  have hBw := hb0.lt
  clear hl hb0 EX1 E0
  go_loopw [5, 18] (fun s5 s18 wr => s5 = .int .i64 0 ∧ ∃ kk : Nat, kk ≤ 2 ∧ s18 = .int .i64 (kk : Int) ∧ Aside (Ext X1 wr) ∧ Aside ((1 ≤ kk → e1 = 0) ∧ (2 ≤ kk → e2 = 0))) (fun _ s _ => 2 - (intOf s).toNat)
  case atStart => exact ⟨rfl, 0, Nat.zero_le _, rfl, Ext.refl _, fun h => absurd h (by decide), fun h => absurd h (by decide)⟩
  case round =>
    obtain ⟨rfl, kk, hkk, rfl, EW, HK⟩ := hrel
    obtain ⟨wo, rfl⟩ : ∃ wo : World, wo = wr := ⟨_, rfl⟩
    have hl := HL.out.ex EW.out
    have q0 := Blk.c hl 0 (v := .slice a n c) rfl
    have q1 := Blk.c hl 1 (v := .slice b m d) rfl
    have EWw := HX1.out.comp EW.out
    clear hl
    rcases (show kk = 0 ∨ kk = 1 ∨ kk = 2 by omega) with rfl | rfl | rfl
    · by_cases h1 : e1 = 0
      · subst h1
        go_wp2_with fail
        refine (hs1 _ EWw).mono ?_
        rintro e w3 ⟨rfl, E3⟩
        go_wp2_with fail
        go_roundw
        case rel => exact ⟨rfl, 1, by omega, by go_num, EW.out.comp E3, fun _ => by simp, fun h => absurd h (by decide)⟩
        case measure => simp [intOf]
      · have HR := Lib.hid (show R = ([], e1) by rw [HE.out, if_pos h1])
        have h1b : (e1 != 0) = true := by simpa using h1
        clear HE h1
        go_wp2_with fail
        refine (hs1 _ EWw).mono ?_
        rintro e w3 ⟨rfl, E3⟩
        have hz := HB0.out.ex (EW.out.comp E3)
        have z0 := hz.c 0 (v := .slice none 0 0) rfl
        have f0 := hz.f 0
        have hzl := hz.lt
        have HZ := Lib.hid hz
        clear hz
        go_wp2_with fail
        rw [HR.out]
        exact diff_end (Ds := []) (Marks.nil _ _) (by simpa using HZ.out.st 0 (.slice none 0 0)) (World.ownsRow_nil _ _ _ _) (ext_put (EWw.comp E3) _ (Nat.le_refl _)) rfl rfl
    · obtain h1 := HK.out.1 (by decide)
      subst h1
      by_cases h2 : e2 = 0
      · subst h2
        go_wp2_with fail
        refine (hs2 _ EWw).mono ?_
        rintro e w3 ⟨rfl, E3⟩
        go_wp2_with fail
        go_roundw
        case rel => exact ⟨rfl, 2, by omega, by go_num, EW.out.comp E3, fun _ => by simp, fun _ => by simp⟩
        case measure => simp [intOf]
      · have HR := Lib.hid (show R = ([], e2) by rw [HE.out, if_neg (by simp), if_pos h2])
        have h2b : (e2 != 0) = true := by simpa using h2
        clear HE h2
        go_wp2_with fail
        refine (hs2 _ EWw).mono ?_
        rintro e w3 ⟨rfl, E3⟩
        have hz := HB0.out.ex (EW.out.comp E3)
        have z0 := hz.c 0 (v := .slice none 0 0) rfl
        have f0 := hz.f 0
        have hzl := hz.lt
        have HZ := Lib.hid hz
        clear hz
        go_wp2_with fail
        rw [HR.out]
        exact diff_end (Ds := []) (Marks.nil _ _) (by simpa using HZ.out.st 0 (.slice none 0 0)) (World.ownsRow_nil _ _ _ _) (ext_put (EWw.comp E3) _ (Nat.le_refl _)) rfl rfl
    · obtain h1 := HK.out.1 (by decide)
      obtain h2 := HK.out.2 (by decide)
      have HEY := Lib.hid (show soundE ys = 0 by rw [HE2.out, h2])
      subst h1 h2
      have HB1 := Lib.hid (HB0.out.ex EW.out)
      clear HL HB0 HK hs1 hs2 q0 q1
      cases al : alikeL xs ys with
      | false =>
        have HR := Lib.hid (show R = ([], 2) by rw [HE.out, if_neg (by simp), if_neg (by simp), if_pos al])
        rw [al] at heq
        clear HE al
        go_wp2_with (go_at_call 81; refine (heq _ EWw).mono ?_; rintro e w3 ⟨rfl, E3⟩; have hz := HB1.out.ex E3; have z0 := hz.c 0 (v := .slice none 0 0) rfl; have f0 := hz.f 0; have hzl := hz.lt; have HZ := Lib.hid hz; clear hz)
        rw [HR.out]
        exact diff_end (Ds := []) (Marks.nil _ _) (by simpa using HZ.out.st 0 (.slice none 0 0)) (World.ownsRow_nil _ _ _ _) (ext_put (EWw.comp E3) _ (Nat.le_refl _)) rfl rfl
      | true =>
        rw [al] at heq
        have HAL := Lib.hid al
        clear al
        have hnm : m = n := by rw [← HX.out, ← HY.out]; exact (alikeL_len HAL.out).symm
        subst hnm
        go_wp2_with (go_at_call 81; refine (heq _ EWw).mono ?_; rintro e w3 ⟨rfl, E3⟩)
        have HD0 := Lib.hid (show DfAt w w3 [] from ⟨.slice none 0 0, HB1.out.ex E3, World.ownsRow_nil _ _ _ _, EWw.comp E3⟩)
        clear heq HB1 hkk EW EWw
        refine wp_loop (fun a' W => ∃ (j : Nat) (Ds : List Nat) (b9 : Bool) (u10 u11 u12 u13 u36 u37 u38 u39 u40 u41 u42 u43 u44 u45 u46 u47 u48 u49 u50 u51 u52 u53 u54 u55 u56 u57 u58 u59 u60 u61 u62 u63 u64 u65 u66 : Value), j ≤ m ∧ a' = { tmps := #[.slice a m c, .slice b m d, undef, undef, .pointer (some ⟨w.heap.size, 0, none⟩), .int .i64 0, undef, u7, .func (.func 79) #[] #[], .bool b9, u10, u11, u12, u13, .slice a m c, .slice b m d, .slice (some ⟨bl, 0, none⟩) 2 2, .int .i64 2, .int .i64 2, .bool false, u20, u21, u22, u23, u24, u25, u26, u27, .slice a m c, .slice b m d, .func (.func 79) #[] #[], .bool true, .bool false, .slice a m c, .int .i64 (m : Int), .int .i64 (j : Int), u36, u37, u38, u39, u40, u41, u42, u43, u44, u45, u46, u47, u48, u49, u50, u51, u52, u53, u54, u55, u56, u57, u58, u59, u60, u61, u62, u63, u64, u65, u66, undef, undef, undef, undef, undef, undef, undef], defers := Ds.map markD } ∧ Marks w.heap.size W Ds ∧ DfAt w W (difL (xs.take j) (ys.take j)) ∧ Aside (b9 = !difV (xs.take j) (ys.take j))) (fun a' _ => m - (intOf (a'.tmps.getD 35 undef)).toNat) ?_ ?_
        · exact ⟨0, [], false, undef, undef, undef, undef, undef, undef, undef, undef, undef, undef, undef, undef, undef, undef, undef, undef, undef, undef, undef, undef, undef, undef, undef, undef, undef, undef, undef, undef, undef, undef, undef, undef, undef, undef, undef, Nat.zero_le _, rfl, Marks.nil _ _, HD0.out, (show Aside _ from rfl)⟩
        · rintro a' wo ⟨j, Ds, b9, u10, u11, u12, u13, u36, u37, u38, u39, u40, u41, u42, u43, u44, u45, u46, u47, u48, u49, u50, u51, u52, u53, u54, u55, u56, u57, u58, u59, u60, u61, u62, u63, u64, u65, u66, hj, rfl, hMk, HD, H9⟩
          have HMK := Lib.hid hMk
          clear hMk
          by_cases hlt : j < m
          · have hltz : (j : Int) < (m : Int) := by omega
            obtain ⟨v, hbv, hrow, EW⟩ := HD
            obtain ⟨x, hxj⟩ : ∃ x, xs[j]? = some x := ⟨_, List.getElem?_eq_getElem (by rw [HX.out]; exact hlt)⟩
            obtain ⟨y, hyj⟩ : ∃ y, ys[j]? = some y := ⟨_, List.getElem?_eq_getElem (by rw [HY.out]; exact hlt)⟩
            obtain ⟨b1, o1, rfl, hb1, hc1, hr1⟩ := HI.out.at_ hxj
            obtain ⟨b2, o2, rfl, hb2, hc2, hr2⟩ := HJ.out.at_ hyj
            have hcx := fun i v hv => hc1 wo EW i v hv
            have q0 := hcx 0 (.string x.name) rfl
            have q1 := hcx 1 (.int .i64 x.ver) rfl
            have q2 := hcx 2 (.slice (L j).a1 x.code.words.length (L j).c1) rfl
            have q3 := hcx 3 (.slice (L j).a2 x.code.masks.length (L j).c2) rfl
            have q4 := hcx 4 (.int .i64 x.code.entry) rfl
            have q5 := hcx 5 (.int .i64 x.code.exit) rfl
            have q6 := hcx 6 (.int .i64 x.code.result) rfl
            have q7 := hcx 7 (.slice (L j).a3 x.code.args.length (L j).c3) rfl
            rw [Nat.add_zero] at q0
            have HCY := Lib.hid (show ∀ W, Ext w W → _ from fun W E i v hv => hc2 W E i v hv)
            have hw1 : b1 < wo.heap.size := Nat.lt_of_lt_of_le hb1 EW.size
            have HXJ := Lib.hid hxj
            have HYJ := Lib.hid hyj
            have HR1 := Lib.hid hr1
            have HR2 := Lib.hid hr2
            have HROW := Lib.hid hrow
            have HBV := Lib.hid hbv
            have HEW := Lib.hid EW
            have H9b := Lib.hid (show difV (xs.take j) (ys.take j) = !b9 by rw [show b9 = _ from H9.out, Bool.not_not])
            clear hcx hc1 hc2 hxj hyj hr1 hr2 hrow hbv EW H9
            go_upto_region 16 with fail
            obtain ⟨X2, hX2⟩ : ∃ X2, (wo.alloc (.cells #[.string x.name, .int .i64 x.ver, .slice (L j).a1 x.code.words.length (L j).c1, .slice (L j).a2 x.code.masks.length (L j).c2, .int .i64 x.code.entry, .int .i64 x.code.exit, .int .i64 x.code.result, .slice (L j).a3 x.code.args.length (L j).c3] 63)).alloc (.cells #[.int .i64 x.ver] 3) = X2 := ⟨_, rfl⟩
            have E2 : Ext wo X2 := by rw [← hX2]; exact (by repeat (first | with_reducible exact Ext.refl _ | with_reducible refine Ext.alloc ?_ _ | with_reducible refine Below.drew ?_))
            have hbx : Blk X2 wo.heap.size #[.string x.name, .int .i64 x.ver, .slice (L j).a1 x.code.words.length (L j).c1, .slice (L j).a2 x.code.masks.length (L j).c2, .int .i64 x.code.entry, .int .i64 x.code.exit, .int .i64 x.code.result, .slice (L j).a3 x.code.args.length (L j).c3] 63 := by rw [← hX2]; exact (Blk.nw _ _ _).al _
            have hbw : Blk X2 (wo.heap.size + 1) #[.int .i64 x.ver] 3 := by
              rw [← hX2]
              have := Blk.nw (wo.alloc (.cells #[.string x.name, .int .i64 x.ver, .slice (L j).a1 x.code.words.length (L j).c1, .slice (L j).a2 x.code.masks.length (L j).c2, .int .i64 x.code.entry, .int .i64 x.code.exit, .int .i64 x.code.result, .slice (L j).a3 x.code.args.length (L j).c3] 63)) #[.int .i64 x.ver] 3
              rw [World.size_alloc] at this
              exact this
            rw [hX2]
            have HVW := Lib.hid hbw
            have hBwo := HBV.out.lt
            obtain ⟨V0, hV0⟩ : ∃ V0, wo.heap.size + 1 = V0 := ⟨_, rfl⟩
            obtain ⟨bx, hbxe⟩ : ∃ bx, wo.heap.size = bx := ⟨_, rfl⟩
            have HBXE := Lib.hid hbxe
            rw [hbxe] at hbx hBwo
            rw [hV0] at HVW ⊢
            rw [hbxe]
            have hV1 : V0 = bx + 1 := by omega
            have hVs := HVW.out.lt
            have HE2 := Lib.hid E2
            clear hX2 q0 q1 q2 q3 q4 q5 q6 q7 hw1 hbw
            have hEX := HEW.out.comp E2
            refine (wpIn_wide (n := 9)).1 (wpIn_normal (wpIn_wide.2 ?_))
            refine wp_region_P (fun _ => false) (fun W => Blk W bx #[.string x.name, .int .i64 x.ver, .slice (L j).a1 x.code.words.length (L j).c1, .slice (L j).a2 x.code.masks.length (L j).c2, .int .i64 x.code.entry, .int .i64 x.code.exit, .int .i64 x.code.result, .slice (L j).a3 x.code.args.length (L j).c3] 63 ∧ Ext w W) (by kernel_rfl) ⟨hbx.dr, hEX.drew⟩ fun hSX => ?_
            have hXY : Ext X2 X2.drew := (Ext.refl X2).drew
            clear hbx hEX E2 hV0 hbxe
            generalize X2.drew = Y at *
            refine tkP 0 ⟨_, _, _, _, _, _⟩ ?_ rfl (by kernel_rfl) (fun _ _ _ h => h) (Or.inl ⟨by rfl, ?_⟩) hSX ?_
            rotate_left
            · intro wX hS
              have hb := hS.1
              have q0 := hb.c 0 (v := .string x.name) rfl
              have q1 := hb.c 1 (v := .int .i64 x.ver) rfl
              have q2 := hb.c 2 (v := .slice (L j).a1 x.code.words.length (L j).c1) rfl
              have q3 := hb.c 3 (v := .slice (L j).a2 x.code.masks.length (L j).c2) rfl
              have q4 := hb.c 4 (v := .int .i64 x.code.entry) rfl
              have q5 := hb.c 5 (v := .int .i64 x.code.exit) rfl
              have q6 := hb.c 6 (v := .int .i64 x.code.result) rfl
              have q7 := hb.c 7 (v := .slice (L j).a3 x.code.args.length (L j).c3) rfl
              clear hb
              go_simp
              (try with_reducible rfl)
            (try simp only [Act.put, List.setIfInBounds_toArray, List.set_cons_succ, List.set_cons_zero])
            refine tkPP 1 ⟨_, _, _, _, _, _⟩ ?_ rfl (by kernel_rfl) (fun _ _ _ h => h) (Or.inl ⟨by rfl, ?_⟩) ?_
            rotate_left
            · intro wX _
              go_simp
              (try with_reducible rfl)
            (try simp only [Act.put, List.setIfInBounds_toArray, List.set_cons_succ, List.set_cons_zero])
            refine tkPP 2 ⟨_, _, _, _, _, _⟩ ?_ rfl (by kernel_rfl) (fun _ _ _ h => h) (Or.inl ⟨by rfl, ?_⟩) ?_
            rotate_left
            · intro wX _
              go_simp
              (try with_reducible rfl)
            (try simp only [Act.put, List.setIfInBounds_toArray, List.set_cons_succ, List.set_cons_zero])
            refine tkPP 3 ⟨_, _, _, _, _, _⟩ ?_ rfl (by kernel_rfl) (fun _ _ _ h => h) (Or.inl ⟨by rfl, ?_⟩) ?_
            rotate_left
            · intro wX _
              go_simp
              (try with_reducible rfl)
            (try simp only [Act.put, List.setIfInBounds_toArray, List.set_cons_succ, List.set_cons_zero])
            refine tkP 4 ⟨_, _, _, _, _, _⟩ ?_ rfl (by kernel_rfl) (fun _ _ _ h => h) (Or.inl ⟨by rfl, ?_⟩) hSX ?_
            rotate_left
            · intro wX hS
              have hb := HCY.out wX hS.2
              have q0 := hb 0 (.string y.name) rfl
              have q1 := hb 1 (.int .i64 y.ver) rfl
              have q2 := hb 2 (.slice (G j).a1 y.code.words.length (G j).c1) rfl
              have q3 := hb 3 (.slice (G j).a2 y.code.masks.length (G j).c2) rfl
              have q4 := hb 4 (.int .i64 y.code.entry) rfl
              have q5 := hb 5 (.int .i64 y.code.exit) rfl
              have q6 := hb 6 (.int .i64 y.code.result) rfl
              have q7 := hb 7 (.slice (G j).a3 y.code.args.length (G j).c3) rfl
              rw [Nat.add_zero] at q0
              clear hb
              go_simp
              (try with_reducible rfl)
            (try simp only [Act.put, List.setIfInBounds_toArray, List.set_cons_succ, List.set_cons_zero])
            refine wpAnyP_one (i := 5) (o := ⟨_, _, _, _, _, _⟩) (by kernel_rfl) rfl ?_ <;> intro K hK
            go_simp
            go_at_call 82
            refine (lb_differences x y (L j) (G j) _).mono ?_
            rintro e w4 ⟨rfl, hd1, hd2, E4⟩
            refine hK _ _ (.inr fun h => ⟨h.1.ex E4, Ext.comp h.2 E4⟩) ?_
            clear hK
            refine wpAnyP_done (by kernel_rfl) ?_ _
            unfold NQ
            dsimp only
            have HD1 := Lib.hid hd1
            have HD2 := Lib.hid hd2
            have E5 : Ext wo w4 := HE2.out.comp (Ext.comp hXY E4)
            have hvw := HVW.out.ex (Ext.comp hXY E4)
            have HVW4 := Lib.hid hvw
            clear hvw
            have HE5 := Lib.hid E5
            have hYs : X2.heap.size ≤ Y.heap.size := hXY.size
            have hd2l := hd2.lt
            clear hSX hXY E4 hd1 hd2 E5
            go_wp2_with fail
            subst hV1
            have hg1 := sound_goods HE1.out x (List.mem_of_getElem? HXJ.out)
            have hg2 := sound_goods HEY.out y (List.mem_of_getElem? HYJ.out)
            have k1 := check_ok hg1.code
            have k2 := check_ok hg2.code
            have hall := alikeL_at HAL.out HXJ.out HYJ.out
            have hwl : y.code.words.length = x.code.words.length := by
              unfold alikeB at hall
              simp only [Bool.and_eq_true, beq_iff_eq] at hall
              exact hall.1.1.1.1.2.symm
            have HWL := Lib.hid hwl
            clear hwl
            have hrow4 := own_extX HROW.out HE5.out
            have hbv4 := HBV.out.ex HE5.out
            obtain ⟨PL, hPL⟩ : ∃ PL, difL (xs.take j) (ys.take j) = PL := ⟨_, rfl⟩
            rw [hPL] at hrow4
            have hvl : ∀ q, v.ownBlock = some q → q < bx ∧ w.heap.size + 1 ≤ q := fun q hq => by
              have h := HROW.out.lt q hq
              have := HBXE.out
              exact ⟨by omega, h.1⟩
            obtain ⟨P, hP⟩ : ∃ P, difA x y x.code.words.length = P := ⟨_, rfl⟩
            obtain ⟨M, hM⟩ : ∃ M : Nat → Prop, M = fun q => q = w.heap.size ∨ q = bx + 1 ∨ v.ownBlock = some q ∨ w4.heap.size + 2 < q ∨ q = w4.heap.size + 1 := ⟨_, rfl⟩
            obtain ⟨J, hJe⟩ : ∃ J : Nat → World → Prop, J = fun k V => ∃ v', Blk V w.heap.size #[v'] 49 ∧ V.ownsRow (w.heap.size + 1) 65 7 v' (PL ++ P.take k).length (vals (PL ++ P.take k)) ∧ (∀ q, v'.ownBlock = some q → v.ownBlock = some q ∨ w4.heap.size + 2 < q) ∧ Blk V (bx + 1) #[.int .i64 (x.ver + (k : Int))] 3 ∧ KpM M w4 V := ⟨_, rfl⟩
            refine with_act fun act hact => ?_
            refine (wpIn_wide (n := 9)).1 ?_
            refine wpIn_rangeFunc_JA (n := 9) (α := Pt) (gf := 117) (lb := #[.pointer (some ⟨Y.heap.size, 0, none⟩), .pointer (some ⟨Y.heap.size + 1, 0, none⟩)]) (by rw [hact]; rfl) (enters_of Try.func117 (by kernel_rfl) rfl)
              (encs := fun p => #[.agg #[.string p.name, .int .i64 p.ver, .int .i64 p.at_, .int .i64 p.old, .int .i64 p.new, .int .i64 p.oldM, .int .i64 p.newM]]) (fun _ => rfl) J (fun k p V => P[k]? = some p ∧ w4.heap.size + 2 < V.heap.size) P.length (KpM M) (fun h k => h.trans k) ?kb ?tj ?tx ?h0 ?call
              (fun k p a₁ V => (P[k]? = some p ∧ w4.heap.size + 2 < V.heap.size) ∧ ∃ v' pb, Blk V w.heap.size #[v'] 49 ∧ V.ownsRow (w.heap.size + 1) 65 7 v' (PL ++ P.take k).length (vals (PL ++ P.take k)) ∧ (∀ q, v'.ownBlock = some q → v.ownBlock = some q ∨ w4.heap.size + 2 < q) ∧ Blk V (bx + 1) #[.int .i64 (x.ver + (k : Int))] 3 ∧ KpM M w4 V ∧ Blk V pb #[.string p.name, .int .i64 p.ver, .int .i64 p.at_, .int .i64 p.old, .int .i64 p.new, .int .i64 p.oldM, .int .i64 p.newM] 65 ∧ v'.ownBlock ≠ some pb ∧ (pb ≠ w.heap.size ∧ pb ≠ bx + 1) ∧ a₁ = { tmps := (act.tmps.setIfInBounds 48 (.agg #[.string p.name, .int .i64 p.ver, .int .i64 p.at_, .int .i64 p.old, .int .i64 p.new, .int .i64 p.oldM, .int .i64 p.newM])).setIfInBounds 13 (.pointer (some ⟨pb, 0, none⟩)), defers := [] })
              (fun E => KpM.of_ext E) ?tj1 ?assign ?body ?done
            case kb => exact fun V o o' _ _ => KpM.put V _ o' (by rw [hM]; exact .inr (.inr (.inr (.inr rfl))))
            case tj =>
              intro k V o o' hJV ho hn
              rw [hJe] at hJV ⊢
              obtain ⟨v', g1, g2, g3, g4, g5⟩ := hJV
              have kp := KpM.put (M := fun q => q = w4.heap.size + 1) V (w4.heap.size + 1) o' rfl
              have kq := KpM.put (M := M) V (w4.heap.size + 1) o' (by rw [hM]; exact .inr (.inr (.inr (.inr rfl))))
              have hs5 := HE5.out.size
              have hvw := HVW4.out.lt
              have hbb := hbv4.lt
              have hno : ∀ q, v'.ownBlock = some q → ¬ q = w4.heap.size + 1 := fun q hq e => by
                rcases g3 q hq with h | h
                · have := hvl q h; have := HBXE.out; omega
                · omega
              exact ⟨v', g1.kpm kp (by omega), own_kpm g2 kp hno, g3, g4.kpm kp (by omega), g5.trans kq⟩
            case tx => exact fun _ _ _ _ _ h _ _ => ⟨h.1, by simpa using h.2⟩
            case h0 =>
              intro V E
              rw [hJe]
              refine ⟨v, hbv4.ex E, ?_, fun q hq => .inl hq, ?_, KpM.of_ext E⟩
              · rw [List.take_zero, List.append_nil]; exact own_extX hrow4 E
              · simpa using HVW4.out.ex E
            case call =>
              intro yl JJ W1 E1' hsz hJJ hJk hY h0
              have hs5 := HE5.out.size
              have hvw := HVW4.out.lt
              have hbb := hbv4.lt
              have hd1l := HD1.out.lt
              have hwb : w.heap.size ≤ w4.heap.size := by omega
              have hEw : Ext w w4 := HEW.out.comp HE5.out
              have hMw : ∀ q, (M q ∨ q = W1.heap.size) → q < w4.heap.size → q = w.heap.size ∨ q = bx + 1 ∨ v.ownBlock = some q := fun q hq hlt => by
                rw [hM] at hq
                rcases hq with (h | h | h | h | h) | h
                · exact .inl h
                · exact .inr (.inl h)
                · exact .inr (.inr h)
                · omega
                · omega
                · omega
              have hdl := diffs_in 8 (by decide) yl Y.heap.size (Y.heap.size + 1) x y (L j) (G j) x.code.words.length rfl HWL.out k1.ml (by rw [k2.ml]; exact HWL.out) (by have := k1.wl; omega) hg1.ver M JJ W1 ?_ ?_ ?_ ?_ h0
              · rw [hP] at hdl
                exact hdl
              · rw [hM]
                rintro (e | e | e | e | e)
                · omega
                · omega
                · have := (hvl _ e).1; have := HBXE.out; omega
                · omega
                · omega
              · intro V hV
                have hst : ∀ q, q < w4.heap.size → ¬ (q = w.heap.size ∨ q = bx + 1 ∨ v.ownBlock = some q) → V.heap[q]? = w4.heap[q]? := fun q hq hn => (hV.block q (by omega) (fun e => hn (hMw q e hq))).trans (E1'.block q hq)
                have hEV : Ext w V := (hV.trans (KpM.refl _ _)).below (hEw.comp E1') (Nat.le_refl _) fun q hq => by
                  by_cases hlq : q < w4.heap.size
                  · rcases hMw q hq hlq with e | e | e
                    · omega
                    · have := HBXE.out; omega
                    · have := (hvl q e).2; omega
                  · omega
                refine ⟨(hst _ (by omega) ?_).trans HD1.out, (hst _ (by omega) ?_).trans HD2.out, HR1.out.ext hEV, HR2.out.ext hEV⟩
                · rintro (e | e | e)
                  · omega
                  · omega
                  · have := (hvl _ e).1; omega
                · rintro (e | e | e)
                  · omega
                  · omega
                  · have := (hvl _ e).1; omega
              · intro k A B hA hk
                have hAJ := (hJJ k A hA).1
                have hAs := (hJJ k A hA).2
                refine hJk k A B hA ?_ (hk.block _ (by omega) (by omega)) (hk.block _ (by omega) (by omega))
                rw [hJe] at hAJ ⊢
                obtain ⟨v', g1, g2, g3, g4, g5⟩ := hAJ
                have hno : ∀ q, v'.ownBlock = some q → ¬ q = W1.heap.size := fun q hq e => by
                  rcases g3 q hq with h | h
                  · have := (hvl q h).1; omega
                  · omega
                refine ⟨v', g1.kpm hk (by omega), own_kpm g2 hk hno, g3, g4.kpm hk (by omega), ?_⟩
                exact ⟨Nat.le_trans g5.size hk.size, fun q hq hn => (hk.block q (Nat.lt_of_lt_of_le hq g5.size) (by omega)).trans (g5.block q hq hn), hk.os.trans g5.os, hk.tape.trans g5.tape, hk.output.trans g5.output⟩
              · intro k p A hA hsA hp
                rw [hP] at hp
                exact hY k p A hA (List.getElem?_eq_some_iff.1 hp).1 ⟨hp, by omega⟩
            case tj1 =>
              rintro k p a₁ _ V o o' ⟨hp, v', pb, g1, g2, g3, g4, g5, g6, g7, g8, g9⟩ ho hn
              have kp := KpM.put (M := fun q => q = w4.heap.size + 1) V (w4.heap.size + 1) o' rfl
              have kq := KpM.put (M := M) V (w4.heap.size + 1) o' (by rw [hM]; exact .inr (.inr (.inr (.inr rfl))))
              have hs5 := HE5.out.size
              have hvw := HVW4.out.lt
              have hbb := hbv4.lt
              have hno : ∀ q, v'.ownBlock = some q → ¬ q = w4.heap.size + 1 := fun q hq e => by
                rcases g3 q hq with h | h
                · have := hvl q h; have := HBXE.out; omega
                · omega
              refine ⟨⟨hp.1, by simpa using hp.2⟩, v', pb, g1.kpm kp (by omega), own_kpm g2 kp hno, g3, g4.kpm kp (by omega), g5.trans kq, g6.kpm kp fun e => ?_, g7, g8, g9⟩
              subst e
              rw [g6] at ho
              cases ho
              cases hn
            case assign =>
              intro l' k p V KK hJV hk hp hKK
              rw [hact]
              rw [hJe] at hJV
              have HACT := Lib.hid hact
              have HKK := Lib.hid hKK
              have HJV := Lib.hid hJV
              have HP := Lib.hid hp
              clear hKK hJV hp hact hJe hM hP hPL hrow4 hbv4 hvl hall
              gi_wp2
              obtain ⟨v', g1, g2, g3, g4, g5⟩ := HJV.out
              have EA : Ext V (V.alloc (.cells #[.string p.name, .int .i64 p.ver, .int .i64 p.at_, .int .i64 p.old, .int .i64 p.new, .int .i64 p.oldM, .int .i64 p.newM] 65)) := (Ext.refl V).alloc _
              refine HKK.out _ _ EA ⟨⟨HP.out.1, Nat.lt_of_lt_of_le HP.out.2 EA.size⟩, v', V.heap.size, g1.al _, own_extX g2 EA, g3, g4.al _, g5.trans (KpM.of_ext EA), Blk.nw _ _ _, fun e => ?_, ?_, ?_⟩
              · have := (g2.lt _ e).2; omega
              · have := g1.lt
                have := g4.lt
                exact ⟨by omega, by omega⟩
              · rw [HACT.out]
                simp only [List.setIfInBounds_toArray, List.set_cons_succ, List.set_cons_zero]
            case body =>
              rintro l' k p a₁ V ⟨⟨hp, hVD⟩, v', pb, g1, g2, g3, g4, g5, g6, g7, g8, g9⟩ hk
              have hver := difA_verAt (a := x) (b := y) (by rw [hP]; exact hp)
              have hPl : P.length ≤ 40 := by
                have := difA_len x y x.code.words.length
                have := k1.wl
                rw [hP] at *
                omega
              have hPLl : PL.length ≤ 240 := by
                rw [← hPL]
                have h := difL_len (a := xs.take j) (b := ys.take j) fun z hz => by have := (check_ok (sound_goods HE1.out z (List.mem_of_mem_take hz)).code).wl; omega
                have h6 : xs.length ≤ 6 := by
                  have h := HE1.out
                  unfold soundE at h
                  split at h
                  · omega
                  · omega
                rw [List.length_take] at h
                omega
              have hlen : (PL ++ P.take k).length ≤ 280 := by rw [List.length_append, List.length_take]; omega
              obtain ⟨ln, hln⟩ : ∃ ln, (PL ++ P.take k).length = ln := ⟨_, rfl⟩
              rw [hln] at g2 hlen
              have hv3 := hg1.ver
              have hwr : IntKind.i64.wrap (p.ver + 1) = p.ver + 1 := IntWalk.i64_in _ (by omega)
              have HGG := Lib.hid (And.intro g3 (And.intro g5 g7))
              have HPK := Lib.hid hp
              have HLN := Lib.hid hln
              have HVER := Lib.hid hver
              have hpl := g6.lt
              have hbl2 := g1.lt
              have hvl2 := g4.lt
              have q0 := g1.c 0 (v := v') rfl
              have qf := g1.f 0
              have t0 := g6.c 0 (v := .string p.name) rfl
              have t1 := g6.c 1 (v := .int .i64 p.ver) rfl
              have t2 := g6.c 2 (v := .int .i64 p.at_) rfl
              have t3 := g6.c 3 (v := .int .i64 p.old) rfl
              have t4 := g6.c 4 (v := .int .i64 p.new) rfl
              have t5 := g6.c 5 (v := .int .i64 p.oldM) rfl
              have t6 := g6.c 6 (v := .int .i64 p.newM) rfl
              subst g9
              rw [hact]
              obtain ⟨i0, hi0, hz0, hz1, hz2⟩ := info_parts Try.infoPt
              have HMJ := Lib.hid (And.intro hM hJe)
              have hs5 := HE5.out.size
              have HNO := Lib.hid (show (¬ v'.ownBlock = some w.heap.size) ∧ ¬ v'.ownBlock = some (bx + 1) from ⟨fun e => by have := (g2.lt _ e).1; omega, fun e => by
                rcases g3 _ e with h | h
                · have := (hvl _ h).1; omega
                · omega⟩)
              have hbn : w.heap.size ≠ bx + 1 := by omega
              have hbn2 : bx + 1 ≠ w.heap.size := by omega
              have HG := Lib.hid (And.intro g1 (And.intro g4 g6))
              have hrowX := own_extX g2 ((Ext.refl V).alloc (.cells #[.string p.name, .int .i64 p.ver, .int .i64 p.at_, .int .i64 p.old, .int .i64 p.new, .int .i64 p.oldM, .int .i64 p.newM] 65))
              have hnw := Blk.nw V #[.string p.name, .int .i64 p.ver, .int .i64 p.at_, .int .i64 p.old, .int .i64 p.new, .int .i64 p.oldM, .int .i64 p.newM] 65
              have HNW := Lib.hid hnw
              clear hM hJe hact hP hPL hrow4 hbv4 hvl hall hp hver hln g1 g3 g4 g5 g6 g7 hnw
              simp only [List.setIfInBounds_toArray, List.set_cons_succ, List.set_cons_zero]
              gi_wp2_with (gi_at_builtin; refine wpListIn_append_own_at _ rfl _ _ 49 rfl (w.heap.size + 1) 65 i0 _ 7 64 Try.underlying49 hi0 hz0 hz1 hz2 rfl (by decide) v' ln (vals (PL ++ P.take k)) rfl hrowX ⟨V.heap.size, 0, none⟩ 1 1 (pcs p) rfl rfl (fun i u hu => by rw [Addr.add_lit]; simp only [Nat.zero_add]; exact HNW.out.c i (by rw [← hu]; simp [pcs])) (pcs_one p) (by unfold maxLen; omega) (by omega) (by rw [World.size_alloc]; omega) ?_; intro v2 W5 ho5 hg5 _ hat; obtain ⟨a2, c2, rfl⟩ := own_slice ho5; have K5 : KpM (fun q => v'.ownBlock = some q) V W5 := (KpM.of_ext ((Ext.refl V).alloc _)).trans (KpM.grown (M := fun q => v'.ownBlock = some q) hg5 fun k hk => hk); have z1 := HG.out.1.kpm K5 HNO.out.1; have z2 := HG.out.2.1.kpm K5 HNO.out.2; have z3 := HG.out.2.2.kpm K5 HGG.out.2.2; have z1l := z1.lt; have z2l := z2.lt; have z3l := z3.lt; have c0 := z1.c 0 (v := v') rfl; have f0 := z1.f 0; have c1 := z2.c 0 (v := .int .i64 (x.ver + (k : Int))) rfl; have f1 := z2.f 0; have c3 := z3.c 1 (v := .int .i64 p.ver) rfl; have Z1 := Lib.hid z1; have Z2 := Lib.hid z2; clear z1 z2 z3)
              have s1 : KpM (fun q => q = w.heap.size) W5 (W5.setCell ⟨w.heap.size, 0, none⟩ (.slice a2 (ln + 1) c2)) := KpM.set (M := fun q => q = w.heap.size) (p := ⟨w.heap.size, 0, none⟩) rfl _
              have s2 : KpM (fun q => q = bx + 1) (W5.setCell ⟨w.heap.size, 0, none⟩ (.slice a2 (ln + 1) c2)) ((W5.setCell ⟨w.heap.size, 0, none⟩ (.slice a2 (ln + 1) c2)).setCell ⟨bx + 1, 0, none⟩ (.int .i64 (p.ver + 1))) := KpM.set (M := fun q => q = bx + 1) (p := ⟨bx + 1, 0, none⟩) rfl _
              obtain ⟨hM, hJe⟩ := HMJ.out
              obtain ⟨g3, g5, g7⟩ := HGG.out
              have hat2 : ∀ q, (Value.slice a2 (ln + 1) c2).ownBlock = some q → v'.ownBlock = some q ∨ V.heap.size ≤ q := fun q hq => by
                rcases hat with e | e
                · exact .inl (e ▸ hq)
                · rw [e] at hq
                  injection hq with hq
                  rw [World.size_alloc] at hq
                  exact .inr (by omega)
              have hno3 : ∀ q, (Value.slice a2 (ln + 1) c2).ownBlock = some q → ¬ q = w.heap.size ∧ ¬ q = bx + 1 := fun q hq => by
                rcases hat2 q hq with e | e
                · exact ⟨fun h => HNO.out.1 (h ▸ e), fun h => HNO.out.2 (h ▸ e)⟩
                · omega
              have hV4 := g5.size
              have kk : KpM M V ((W5.setCell ⟨w.heap.size, 0, none⟩ (.slice a2 (ln + 1) c2)).setCell ⟨bx + 1, 0, none⟩ (.int .i64 (p.ver + 1))) := by
                refine ((K5.mono fun q hq => ?_).trans (s1.mono fun q hq => ?_)).trans (s2.mono fun q hq => ?_)
                · rw [hM]
                  rcases g3 q hq with h | h
                  · exact .inr (.inr (.inl h))
                  · exact .inr (.inr (.inr (.inl h)))
                · rw [hM]; exact .inl hq
                · rw [hM]; exact .inr (.inl hq)
              have htk := take_get HPK.out
              have hfl : (PL ++ P.take (k + 1)).length = ln + 1 := by rw [htk, ← List.append_assoc, List.length_append, HLN.out]; rfl
              have hfv : vals (PL ++ P.take (k + 1)) = vals (PL ++ P.take k) ++ pcs p := by rw [htk, ← List.append_assoc, vals_app, vals_one]
              refine ⟨rfl, ((((KeepsOthers.alloc V _).trans (KeepsOthers.of_grownBy hg5 fun q o eq ho => ?_)).trans (KeepsOthers.setCell _ _ _)).trans (KeepsOthers.setCell _ _ _)).from _, kk, ?_⟩
              · rcases hrowX.2 with ⟨h1, _⟩ | ⟨g, cap, cur, h1, _, hgb, _⟩
                · rw [h1] at eq
                  simp [Value.ownBlock] at eq
                · rw [h1] at eq
                  obtain rfl : g = q := by simpa [Value.ownBlock] using eq
                  rw [hgb] at ho
                  cases ho
                  rfl
              · rw [hJe]
                refine ⟨.slice a2 (ln + 1) c2, ?_, ?_, fun q hq => ?_, ?_, g5.trans kk⟩
                · have := (Z1.out.st 0 (.slice a2 (ln + 1) c2)).ot (m := bx + 1) (i := 0) (v := .int .i64 (p.ver + 1)) hbn
                  simpa using this
                · rw [hfl, hfv]
                  exact own_kpm (own_kpm ho5 s1 fun q hq => (hno3 q hq).1) s2 fun q hq => (hno3 q hq).2
                · rcases hat2 q hq with e | e
                  · exact g3 q e
                  · exact .inr (by omega)
                · have := (Z2.out.ot (m := w.heap.size) (i := 0) (v := .slice a2 (ln + 1) c2) hbn2).st 0 (.int .i64 (p.ver + 1))
                  have e : p.ver + 1 = x.ver + ((k + 1 : Nat) : Int) := by rw [HVER.out]; push_cast; omega
                  rw [e] at this ⊢
                  simpa using this
            case done =>
              rintro D V hD hJV hdef
              rw [hact]
              rw [hJe, List.take_of_length_le (Nat.le_refl _)] at hJV
              obtain ⟨v', g1, g2, g3, g4, g5⟩ := hJV
              have hs5 := HE5.out.size
              have hEV : Ext w V := g5.below (HEW.out.comp HE5.out) (Nat.le_refl _) fun q hq => by
                rw [hM] at hq
                have := HBXE.out
                have := HEW.out.size
                rcases hq with h | h | h | h | h
                · omega
                · omega
                · have := (hvl q h).2; omega
                · omega
                · omega
              have hkf : ∀ (q : Nat) (o : Obj), wo.heap[q]? = some o → o.isCells = false → V.heap[q]? = some o := fun q o ho hn => by
                have hlt2 := (Array.getElem?_eq_some_iff.1 ho).1
                refine (g5.block q (by omega) fun hq => ?_).trans ((HE5.out.block q hlt2).trans ho)
                rw [hM] at hq
                have := HBXE.out
                rcases hq with h | h | h | h | h
                · rw [h, HBV.out] at ho
                  cases ho
                  cases hn
                · omega
                · rcases HROW.out.2 with ⟨h1, _⟩ | ⟨g, cap, cur, h1, _, hgb, _⟩
                  · rw [h1] at h
                    simp [Value.ownBlock] at h
                  · rw [h1] at h
                    obtain rfl : g = q := by simpa [Value.ownBlock] using h
                    rw [hgb] at ho
                    cases ho
                    cases hn
                · omega
                · omega
              have hmk : Marks w.heap.size V (D :: Ds) := Marks.cons HMK.out ⟨by have := g5.size; omega, fun q o _ ho hn => hkf q o ho hn⟩ (by omega) (by have := HEW.out.size; omega) hdef
              have hds : difL (xs.take (j + 1)) (ys.take (j + 1)) = PL ++ P := by
                rw [take_get HXJ.out, take_get HYJ.out, difL_snoc (by rw [List.length_take, List.length_take, HX.out, HY.out]), hPL, difE_eq, hP]
              have hdv : difV (xs.take (j + 1)) (ys.take (j + 1)) = (!b9 && decide (x.ver + (P.length : Int) = y.ver)) := by
                rw [take_get HXJ.out, take_get HYJ.out, difV_snoc (by rw [List.length_take, List.length_take, HX.out, HY.out]), H9b.out, difE_eq, hP]
              have c1 : ∀ k, (V.drewN k).cell? ⟨bx + 1, 0, none⟩ = some (.int .i64 (x.ver + (P.length : Int))) := fun k => g4.c 0 rfl
              have c2 : ∀ k, (V.drewN k).cell? ⟨b2, o2 + j * 8 + 1, none⟩ = some (.int .i64 y.ver) := fun k => HCY.out _ (below_drewN hEV k) 1 (.int .i64 y.ver) rfl
              have p1 := c1 0
              have p2 := c2 0
              have HMM := Lib.hid hmk
              have HDS := Lib.hid hds
              have HDV := Lib.hid hdv
              have HDF := Lib.hid (show DfAt w V (PL ++ P) from ⟨v', g1, g2, hEV⟩)
              obtain ⟨xv, hxv⟩ : ∃ xv, x.ver + (P.length : Int) = xv := ⟨_, rfl⟩
              rw [hxv] at c1 p1 HDV
              have hVb2 : b2 < V.heap.size := Nat.lt_of_lt_of_le hb2 hEV.size
              clear hM hJe hact hP hPL hrow4 hbv4 hvl hall g1 g2 g3 g4 g5 hdef hkf hmk hds hdv hxv hEV
              have HMK2 := Lib.hid (show ∀ k, Marks w.heap.size (V.drewN k) (D :: Ds) from fun k => ⟨HMM.out.nodup, HMM.out.at_⟩)
              have HDF2 := Lib.hid (show ∀ k, DfAt w (V.drewN k) (PL ++ P) from fun k => by
                obtain ⟨v', g1, g2, g3⟩ := HDF.out
                exact ⟨v', g1, own_extX g2 (below_drewN (Ext.refl V) k), below_drewN g3 k⟩)
              cases b9 with
              | true =>
                go_wp2_with fail
                go_quiet (fail)
                go_wp2_with fail
                exact ⟨⟨j + 1, D :: Ds, _, _, _, _, _, _, _, _, _, _, _, _, _, _, _, _, _, _, _, _, _, _, _, _, _, _, _, _, _, _, _, _, _, _, _, _, by omega, rfl, HMK2.out _, by rw [HDS.out]; exact HDF2.out _, (show Aside (_ = _) from by rw [HDV.out]; rfl)⟩, by simp [intOf]; omega⟩
              | false =>
                cases hb : (xv != y.ver) with
                | true =>
                  have HN := Lib.hid (show decide (xv = y.ver) = false from decide_eq_false (bne_iff_ne.1 hb))
                  go_wp2_with fail
                  go_quiet (fail)
                  go_wp2_with fail
                  exact ⟨⟨j + 1, D :: Ds, _, _, _, _, _, _, _, _, _, _, _, _, _, _, _, _, _, _, _, _, _, _, _, _, _, _, _, _, _, _, _, _, _, _, _, _, by omega, rfl, HMK2.out _, by rw [HDS.out]; exact HDF2.out _, (show Aside (_ = _) from by rw [HDV.out, HN.out]; rfl)⟩, by simp [intOf]; omega⟩
                | false =>
                  have HN := Lib.hid (show decide (xv = y.ver) = true from decide_eq_true (by simpa using hb))
                  go_wp2_with fail
                  go_quiet (fail)
                  go_wp2_with fail
                  exact ⟨⟨j + 1, D :: Ds, _, _, _, _, _, _, _, _, _, _, _, _, _, _, _, _, _, _, _, _, _, _, _, _, _, _, _, _, _, _, _, _, _, _, _, _, by omega, rfl, HMK2.out _, by rw [HDS.out]; exact HDF2.out _, (show Aside (_ = _) from by rw [HDV.out, HN.out]; rfl)⟩, by simp [intOf]; omega⟩
          · have hltz : ¬ (j : Int) < (m : Int) := by omega
            obtain rfl : j = m := by omega
            obtain ⟨v, hbv, hrow, EW⟩ := HD
            rw [List.take_of_length_le (by rw [HX.out]; omega), List.take_of_length_le (by rw [HY.out]; omega)] at hrow
            have HR0 := Lib.hid (show R = if 20 < (difL xs ys).length then ([], 3) else if difV xs ys = false then ([], 181) else (difL xs ys, 0) by rw [HE.out, if_neg (by simp), if_neg (by simp), if_neg (by rw [HAL.out]; simp)])
            obtain ⟨dl, hdl⟩ : ∃ dl, difL xs ys = dl := ⟨_, rfl⟩
            obtain ⟨dv, hdv⟩ : ∃ dv, difV xs ys = dv := ⟨_, rfl⟩
            rw [hdl] at hrow HR0
            rw [hdv] at HR0
            have h9 : b9 = !dv := by rw [← hdv]; have h := H9.out; rw [List.take_of_length_le (by rw [HX.out]; omega), List.take_of_length_le (by rw [HY.out]; omega)] at h; exact h
            subst h9
            obtain ⟨a9, c9, rfl⟩ := own_slice hrow
            obtain ⟨nl, hnl⟩ : ∃ nl, dl.length = nl := ⟨_, rfl⟩
            rw [hnl] at hrow hbv HR0
            have z0 := hbv.c 0 (v := .slice a9 nl c9) rfl
            have f0 := hbv.f 0
            have hzl := hbv.lt
            have HZ := Lib.hid hbv
            have HROW := Lib.hid hrow
            have HNL := Lib.hid hnl
            clear hbv hrow hdl hdv hnl
            have hmset : ∀ u, Marks w.heap.size (wo.setCell ⟨w.heap.size, 0, none⟩ u) Ds := fun u => ⟨HMK.out.nodup, fun D hD => ⟨(HMK.out.at_ D hD).1, (Below.heap_setCell _ _ _ _ (fun e => by
              have h := (HMK.out.at_ D hD).2
              rw [e] at h
              rw [show wo.heap[w.heap.size]? = _ from HZ.out] at h
              cases h)).trans (HMK.out.at_ D hD).2⟩⟩
            have HMS := Lib.hid hmset
            clear hmset
            by_cases h20 : 20 < nl
            · have HR := Lib.hid (show R = ([], 3) by rw [HR0.out, if_pos h20])
              have h20z : decide ((20 : Int) < (nl : Int)) = true := decide_eq_true (by omega)
              clear HR0 HE h20
              go_wp2_with fail
              rw [HR.out]
              exact diff_end (HMS.out _) (by simpa using HZ.out.st 0 (.slice none 0 0)) (World.ownsRow_nil _ _ _ _) (ext_put EW _ (Nat.le_refl _)) rfl rfl
            · have h20z : decide ((20 : Int) < (nl : Int)) = false := decide_eq_false (by omega)
              cases dv with
              | false =>
                have HR := Lib.hid (show R = ([], 181) by rw [HR0.out, if_neg h20, if_pos rfl])
                clear HR0 HE h20
                go_wp2_with fail
                rw [HR.out]
                exact diff_end (HMS.out _) (by simpa using HZ.out.st 0 (.slice none 0 0)) (World.ownsRow_nil _ _ _ _) (ext_put EW _ (Nat.le_refl _)) rfl rfl
              | true =>
                have HR := Lib.hid (show R = (dl, 0) by rw [HR0.out, if_neg h20, if_neg (by simp)])
                clear HR0 HE h20
                go_wp2_with fail
                rw [HR.out]
                refine diff_end (a := a9) (c := c9) (HMS.out _) ?_ ?_ (ext_put EW _ (Nat.le_refl _)) rfl rfl
                · rw [HNL.out]
                  simpa using HZ.out.st 0 (.slice a9 nl c9)
                · rw [HNL.out]
                  exact own_kpm HROW.out (KpM.set (M := fun q => q = w.heap.size) (p := ⟨w.heap.size, 0, none⟩) rfl _) fun q hq e => by
                    have := (HROW.out.lt q hq).1
                    omega
end Go.Proofs.Ytcijneecjkpebaa
