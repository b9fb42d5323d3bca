import Derived.Test.YtcijneecjkpebaaU17
set_option linter.unusedVariables false
set_option linter.unusedSimpArgs false
/- Layer 8: which calls can be made. -/
namespace Go.Q
theorem idx_none {cat : List En} {c : Cl} (h : (findN cat c.name).isSome = false) : hasN cat c.name = false ∧ idxE cat c.name = -1 := by
  have e : findN cat c.name = none := by
    cases q : findN cat c.name with
    | none => rfl
    | some k => rw [q] at h; cases h
  have h1 : idxE cat c.name = -1 := by unfold idxE; rw [e]
  exact ⟨by rw [← idxE_has, h1]; rfl, h1⟩
theorem idx_some {cat : List En} {c : Cl} (h : (findN cat c.name).isSome = true) : hasN cat c.name = true ∧ idxE cat c.name = (entN cat c : Int) ∧ cat[entN cat c]? = some (entX cat (entN cat c)) ∧ entN cat c < cat.length := by
  obtain ⟨k, hk⟩ : ∃ k, findN cat c.name = some k := by
    cases q : findN cat c.name with
    | none => rw [q] at h; cases h
    | some k => exact ⟨k, rfl⟩
  have he : entN cat c = k := by unfold entN; rw [hk]; rfl
  have h1 : idxE cat c.name = (entN cat c : Int) := by unfold idxE; rw [hk, he]
  have hlt := find_lt hk
  refine ⟨?_, h1, ?_, by rw [he]; exact hlt⟩
  · rw [← idxE_has, h1]; exact decide_eq_true (by omega)
  · unfold entX; rw [he, List.getElem?_eq_getElem hlt]; rfl
theorem setN_start {cs : List Cl} {m : Nat} (hm : m ≤ 8) : setN (m : Int) cs 0 = (List.range 8).map fun i => decide (i < m) := by
  rw [setN]
  refine List.map_congr_left fun i _ => ?_
  rw [decide_eq_decide]
  omega
end Go.Q
namespace Go.Proofs.Ytcijneecjkpebaa
open Go.RowKit Go.Q
theorem Try.infoCd : (Try.prog.info? 115).map (fun i => (i.zero, i.size, i.bytes)) = some (some (.agg #[.string ⟨#[]⟩, .slice none 0 0, .int .i64 0, .int .i64 0]), 4, 56) := by kernel_rfl
def bvs (l : List Bool) : List Value := l.map Value.bool
theorem bvs_set (l : List Bool) (i : Nat) (x : Bool) : (bvs l).toArray.setIfInBounds i (.bool x) = (bvs (l.set i x)).toArray := by unfold bvs; rw [List.setIfInBounds_toArray, List.map_set]
theorem bvs_get (l : List Bool) (i : Nat) (h : i < l.length) : (bvs l).toArray[i]? = some (.bool (l[i]?.getD false)) := by simp [bvs, h]
/-- a call's cells -/
def ccs (x : Cl) (a : Option Addr) (c : Nat) : List Value := [.string x.name, .slice a x.args.length c, .int .i64 x.dst]
/-- calls lie from a on, their lists at A -/
def ClAt (w : World) (a : Option Addr) (cs : List Cl) (A : Nat → Option Addr) (C : Nat → Nat) : Prop :=
  cs = [] ∨ ∃ b off, a = some ⟨b, off, none⟩ ∧ b < w.heap.size ∧ ∀ i x, cs[i]? = some x → (∀ j v, (ccs x (A i) (C i))[j]? = some v → w.cell? ⟨b, off + i * 3 + j, none⟩ = some v) ∧ IntsAt w (A i) x.args
theorem ClAt.ext {w w' : World} {a : Option Addr} {cs : List Cl} {A : Nat → Option Addr} {C : Nat → Nat} (h : ClAt w a cs A C) (E : Ext w w') : ClAt w' a cs A C :=
  h.imp id fun ⟨b, off, ha, hb, hc⟩ => ⟨b, off, ha, Nat.lt_of_lt_of_le hb E.size, fun i x hx => ⟨fun j v hv => (E.cell (p := ⟨b, off + i * 3 + j, none⟩) hb).trans ((hc i x hx).1 j v hv), (hc i x hx).2.ext E⟩⟩
def dcs (x : Cl) (a : Option Addr) (c k : Nat) : List Value := [.string x.name, .slice a x.args.length c, .int .i64 x.dst, .int .i64 (k : Int)]
/-- the cells of the first j calls with their entries -/
def dvals (cat : List En) (cs : List Cl) (A : Nat → Option Addr) (C : Nat → Nat) : Nat → List Value
  | 0 => []
  | j + 1 => dvals cat cs A C j ++ (match cs[j]? with | none => [] | some x => dcs x (A j) (C j) (entN cat x))
/-- what callable returns -/
def CbRes (cat : List En) (cs : List Cl) (A : Nat → Option Addr) (C : Nat → Nat) (E : Int) (w : World) (e : Ending) (w' : World) : Prop :=
  ∃ v, e = .returned (.tuple #[v, .int .i64 E]) ∧ (E = 0 → w'.ownsRow w.heap.size 115 4 v cs.length (dvals cat cs A C cs.length)) ∧ Ext w w'
theorem dcs_one (x : Cl) (a : Option Addr) (c k : Nat) : ∀ u ∈ dcs x a c k, u.oneCell' = true := by
  intro u hu
  simp only [dcs, List.mem_cons, List.not_mem_nil, or_false] at hu
  rcases hu with rfl | rfl | rfl | rfl <;> rfl
theorem from_vals {w : World} {vs : List Value} {t : TypeId} : From (w.alloc (.cells vs.toArray t)) (some ⟨w.heap.size, 0, none⟩) vs := by
  refine .inr ⟨_, rfl, fun i u hu => ?_⟩
  rw [Addr.add_lit, Nat.zero_add]
  exact (Blk.nw w vs.toArray t).c i (by simpa using hu)
set_option maxHeartbeats 1000000 in
theorem lb_callable1 (x : Int) (b : Nat) (set : List Bool) (w : World) (h8 : set.length = 8) (hb : Blk w b (bvs set).toArray 166) :
    Calls Try.prog 114 #[.int .i64 x, .pointer (some ⟨b, 0, none⟩)] w fun e w' => e = .returned (.bool (!(inB x 0 7 && (set[x.toNat]?.getD false)))) ∧ w = w' := by
  cases hx : inB x 0 7 with
  | false =>
    have ho := fun W => lb_out x 0 7 W
    rw [hx] at ho
    clear hb hx
    go_enter Try.func114, Try.ntmps114
    go_wp2_with (go_at_call 59; refine (ho _).mono ?_; rintro e w1 ⟨rfl, rfl⟩)
    go_ret
    exact ⟨rfl, rfl⟩
  | true =>
    have ho := fun W => lb_out x 0 7 W
    rw [hx] at ho
    have hbd := inB_bd hx
    have hc := hb.c x.toNat (bvs_get set x.toNat (by omega))
    obtain ⟨n, rfl⟩ : ∃ n : Nat, x = (n : Int) := ⟨x.toNat, by omega⟩
    rw [Int.toNat_natCast] at hc ⊢
    have hl : n < 8 := by omega
    have hlz : (n : Int) < 8 := by omega
    generalize set[n]?.getD false = v at *
    have HC := Lib.hid hb
    clear hb hx hbd HC
    go_enter Try.func114, Try.ntmps114
    go_wp2_with (go_at_call 59; refine (ho _).mono ?_; rintro e w1 ⟨rfl, rfl⟩)
    go_ret
    cases v <;> exact ⟨rfl, rfl⟩
theorem callsN_cons (cat : List En) (inputs : Int) (cs : List Cl) {f j : Nat} {c : Cl} (h : cs[j]? = some c) : callsN cat inputs cs (f + 1) j = if callE cat (setN inputs cs j) c ≠ 0 then callE cat (setN inputs cs j) c else callsN cat inputs cs f (j + 1) := by
  rw [callsN, h]
theorem own_kp {w W W' : World} {r : Option Nat} (E : Ext w W) (hg : W.grownBy W' r) (hr : ∀ k, r = some k → w.heap.size ≤ k) : Ext w W' :=
  (KpM.grown (M := fun k => w.heap.size ≤ k) hg hr).below E (Nat.le_refl _) fun _ hk => hk
set_option maxRecDepth 100000 in
set_option maxHeartbeats 8000000 in
theorem lb_callable (a : Option Addr) (n c : Nat) (cat : List En) (L : Nat → Lo) (m : Nat) (a2 : Option Addr) (k c2 : Nat) (cs : List Cl) (A : Nat → Option Addr) (C : Nat → Nat) (w : World)
    (hn : cat.length = n) (hcap : n ≤ c) (hbig : c ≤ 9223372036854775807) (hI : CatAt w a cat L) (hbd : ∀ x ∈ cat, EnBd x) (hm : m ≤ 6) (hk : cs.length = k) (hk5 : k ≤ 5) (hJ : ClAt w a2 cs A C) (hcb : ∀ x ∈ cs, x.args.length ≤ 9223372036854775807) :
    Calls Try.prog 65 #[.slice a n c, .int .i64 (m : Int), .slice a2 k c2] w (CbRes cat cs A C (callsE cat (m : Int) cs) w) := by
  have hent := fun nm W (E : Ext w W) => lb_entry nm a n c cat L W hn (by omega) (hI.ext E)
  have hcon := fun (b : Nat) (set : List Bool) (h8 : set.length = 8) (W : World) (hb : Blk W b (bvs set).toArray 166) (p : Option Addr) (nn cp : Nat) (xs : List Int) (hx : xs.length = nn) (hb9 : nn ≤ 9223372036854775807) (hi : IntsAt W p xs) =>
    contains_any 114 #[.pointer (some ⟨b, 0, none⟩)] (fun r => !(inB r 0 7 && (set[r.toNat]?.getD false))) p nn cp xs W (enters_of Try.func114 (by kernel_rfl) rfl) (fun W' x E' => (lb_callable1 x b set W' h8 (hb.ex E')).mono fun _ _ he => ⟨he.1, by rw [← he.2]; exact E'⟩) hx hb9 hi
  have HE := Lib.hid (show callsE cat (m : Int) cs = callsN cat (m : Int) cs (k - 0) 0 by unfold callsE; rw [hk, Nat.sub_zero])
  obtain ⟨E, hE⟩ : ∃ E, callsE cat (m : Int) cs = E := ⟨_, rfl⟩
  rw [hE] at HE ⊢
  clear hE
  obtain ⟨i0, hi0, hz0, hz1, hz2⟩ := info_parts Try.infoCd
  have HI := Lib.hid hI
  have HJ := Lib.hid hJ
  have HN := Lib.hid hn
  have HK := Lib.hid hk
  have HB := Lib.hid hbd
  have HC := Lib.hid hcb
  have hS0 := setN_start (cs := cs) (show m ≤ 8 by omega)
  have HS0 := Lib.hid hS0
  clear hI hJ hn hk hbd hcb hS0
  go_enter Try.func65, Try.ntmps65
  go_upto_region 2 with fail
  obtain ⟨X, hX⟩ : ∃ X, w.alloc (.cells #[.bool false, .bool false, .bool false, .bool false, .bool false, .bool false, .bool false, .bool false] 166) = X := ⟨_, rfl⟩
  have hb0 : Blk X w.heap.size (bvs ((List.range 8).map fun (i : Nat) => decide (i < 0))).toArray 166 := by rw [← hX]; exact Blk.nw w _ _
  have E0 : Ext w X := by rw [← hX]; exact (Ext.refl w).alloc _
  rw [hX]
  clear hX
  have HB0 := Lib.hid hb0
  have HE0 := Lib.hid E0
  clear hb0 E0
  go_wp2_with fail
  go_loopw [9, 16] (fun _ s16 wr => ∃ j : Nat, j ≤ m ∧ s16 = .int .i64 (j : Int) ∧ Aside (Blk wr w.heap.size (bvs ((List.range 8).map fun (i : Nat) => decide (i < j))).toArray 166) ∧ Aside (Ext w wr)) (fun _ s _ => m - (intOf s).toNat)
  case atStart => exact ⟨0, Nat.zero_le _, rfl, HB0.out, HE0.out⟩
  case round =>
    obtain ⟨j, hj, rfl, hB, hE⟩ := hrel
    by_cases hlt : j < m
    · have hltz : (j : Int) < (m : Int) := by omega
      have hb := hB.out
      have q := hb.c j (v := .bool false) (by rw [bvs_get _ _ (by simp; omega)]; simp [show j < 8 by omega])
      have f := hb.f j
      have hbl := hb.lt
      have hb2 := hb.st j (.bool true)
      rw [bvs_set] at hb2
      have hb3 : Blk (wr.setCell ⟨w.heap.size, j, none⟩ (.bool true)) w.heap.size (bvs ((List.range 8).map fun (i : Nat) => decide (i < j + 1))).toArray 166 := by
        rw [show ((List.range 8).map fun (i : Nat) => decide (i < j + 1)) = ((List.range 8).map fun (i : Nat) => decide (i < j)).set j true from ?_]
        · exact hb2
        · refine List.ext_getElem (by simp) fun i h1 h2 => ?_
          rw [List.getElem_set]
          simp only [List.getElem_map, List.getElem_range]
          split
          · rename_i e; subst e; exact decide_eq_true (by omega)
          · rename_i e; rw [decide_eq_decide]; omega
      have HB3 := Lib.hid hb3
      have HEE := Lib.hid (ext_put (p := ⟨w.heap.size, j, none⟩) hE.out (.bool true) (Nat.le_refl _))
      have hj8 : (j : Int) < 8 := by omega
      clear hb hb2 hb3 hB hE
      go_wp2_with fail
      go_roundw
      case rel => exact ⟨j + 1, by omega, by go_num, HB3.out, HEE.out⟩
      case measure => simp [intOf]; omega
    · have hltz : ¬ (j : Int) < (m : Int) := by omega
      obtain rfl : j = m := by omega
      have HB1 := Lib.hid (show Blk wr w.heap.size (bvs (setN (j : Int) cs 0)).toArray 166 by rw [HS0.out]; exact hB.out)
      have HE1 := Lib.hid hE.out
      clear hB hE HB0 HE0
      go_wp2_with fail
      obtain ⟨w0, rfl⟩ : ∃ w0 : World, w0 = wr := ⟨_, rfl⟩
      go_loopw [6, 24] (fun s6 s24 wr => ∃ i : Nat, i ≤ k ∧ s24 = .int .i64 (i : Int) ∧ Aside (wr.ownsRow (w.heap.size + 1) 115 4 s6 i (dvals cat cs A C i)) ∧ Aside (Blk wr w.heap.size (bvs (setN (j : Int) cs i)).toArray 166) ∧ Aside (Ext w wr) ∧ Aside (callsN cat (j : Int) cs (k - i) i = E)) (fun _ s _ => k - (intOf s).toNat)
      case atStart => exact ⟨0, Nat.zero_le _, rfl, World.ownsRow_nil _ _ _ _, HB1.out, HE1.out, HE.out.symm⟩
      case round =>
        obtain ⟨i, hi, rfl, hO, hB, hEx, hC⟩ := hrel
        by_cases hlt2 : i < k
        · have hltz2 : (i : Int) < (k : Int) := by omega
          obtain ⟨x, hx⟩ : ∃ x, cs[i]? = some x := ⟨_, List.getElem?_eq_getElem (by rw [HK.out]; exact hlt2)⟩
          obtain ⟨b2, o2, rfl, hb2, hc2⟩ : ∃ b2 o2, a2 = some ⟨b2, o2, none⟩ ∧ b2 < w.heap.size ∧ ∀ i x, cs[i]? = some x → (∀ j v, (ccs x (A i) (C i))[j]? = some v → w.cell? ⟨b2, o2 + i * 3 + j, none⟩ = some v) ∧ IntsAt w (A i) x.args := by
            rcases HJ.out with h | h
            · have := HK.out; rw [h] at this; simp at this; omega
            · exact h
          obtain ⟨hcx, hia⟩ := hc2 i x hx
          have EW := hEx.out
          have hcj := fun jj v hv => (EW.cell (p := ⟨b2, o2 + i * 3 + jj, none⟩) hb2).trans (hcx jj v hv)
          have q0 := hcj 0 (.string x.name) rfl
          have q1 := hcj 1 (.slice (A i) x.args.length (C i)) rfl
          have q2 := hcj 2 (.int .i64 x.dst) rfl
          rw [Nat.add_zero] at q0
          have hbr : b2 < wr.heap.size := Nat.lt_of_lt_of_le hb2 EW.size
          have hal := HC.out x (List.mem_of_getElem? hx)
          have hcons := callsN_cons cat (j : Int) cs (f := k - (i + 1)) hx
          rw [show k - (i + 1) + 1 = k - i by omega, show callsN cat (j : Int) cs (k - i) i = E from hC.out] at hcons
          have HCN := Lib.hid hcons
          have HCE := Lib.hid (show callE cat (setN (j : Int) cs i) x = if (findN cat x.name).isSome = false then 4 else if x.args.length ≠ (entX cat (entN cat x)).code.args.length then 3 else if inB x.dst 0 7 = false then 7 else if x.args.all (fun r => inB r 0 7 && ((setN (j : Int) cs i)[r.toNat]?.getD false)) = false then 7 else 0 from rfl)
          have HX := Lib.hid hx
          have HIA := Lib.hid hia
          have HBF := Lib.hid hB.out
          have HO := Lib.hid hO.out
          have hfl := hB.out.lt
          clear hcj hcx hia hc2 hcons hx hC hEx hB hO
          obtain ⟨nm, hnm⟩ : ∃ nm, x.name = nm := ⟨_, rfl⟩
          obtain ⟨dst, hdst⟩ : ∃ dst, x.dst = dst := ⟨_, rfl⟩
          obtain ⟨ln, hln⟩ : ∃ ln, x.args.length = ln := ⟨_, rfl⟩
          rw [hnm] at q0 HCE
          rw [hdst] at q2 HCE
          rw [hln] at q1 HCE hal
          have HNM := Lib.hid hnm
          have HDST := Lib.hid hdst
          have HLN := Lib.hid hln
          clear hnm hdst hln
          go_upto_region 10 with fail
          obtain ⟨X1, hX1⟩ : ∃ X1, wr.alloc (.cells #[.string nm, .slice (A i) ln (C i), .int .i64 dst] 78) = X1 := ⟨_, rfl⟩
          have hbx : Blk X1 wr.heap.size #[.string nm, .slice (A i) ln (C i), .int .i64 dst] 78 := by rw [← hX1]; exact Blk.nw _ _ _
          have E1 : Ext wr X1 := by rw [← hX1]; exact (Ext.refl wr).alloc _
          rw [hX1]
          clear hX1 q0 q1 q2 hbr
          have EX := EW.comp E1
          have hbr2 := E1.size
          obtain ⟨bx, hbxe⟩ : ∃ bx, wr.heap.size = bx := ⟨_, rfl⟩
          have hBxw : w.heap.size ≤ bx := by rw [← hbxe]; exact EW.size
          have hfx : w.heap.size < bx := by omega
          rw [hbxe] at hbx ⊢
          have hent1 := hent nm X1 EX
          have t0 := Blk.c hbx 0 (v := .string nm) rfl
          have t1 := Blk.c hbx 1 (v := .slice (A i) ln (C i)) rfl
          have t2 := Blk.c hbx 2 (v := .int .i64 dst) rfl
          have hbxl := hbx.lt
          have HBX := Lib.hid hbx
          have HEX := Lib.hid EX
          have HE1 := Lib.hid E1
          have HBXE := Lib.hid hbxe
          clear hent hbx EX E1 EW hbxe hbr2 hfl
          cases hq : (findN cat x.name).isSome with
          | false =>
            obtain ⟨h1, h2⟩ := idx_none hq
            rw [HNM.out] at h1 h2 hq
            rw [h1, h2] at hent1
            have hE4 : E = 4 := by
              have h5 := HCN.out
              rw [HCE.out, if_pos hq, if_pos (by decide)] at h5
              exact h5
            have HE4 := Lib.hid hE4
            clear hE4 HCN HCE h1 h2 hq
            go_wp2_with fail
            refine hent1.mono ?_
            rintro e w2 ⟨rfl, E2⟩
            go_wp2_with fail
            go_ret2
            obtain rfl := HE4.out
            exact ⟨_, rfl, fun h => absurd h (by decide), HEX.out.comp E2⟩
          | true =>
            obtain ⟨h1, h2, h3, h4⟩ := idx_some hq
            rw [HNM.out] at h1 h2 hq
            rw [h1, h2] at hent1
            obtain ⟨b1, o1, rfl, hb1, hc1, hr1⟩ := HI.out.at_ h3
            have HQ := Lib.hid hq
            have HQ3 := Lib.hid h3
            rw [HN.out] at h4
            clear h1 h2 hq h3 hr1
            have HS8 := Lib.hid (setN_len (j : Int) cs i)
            obtain ⟨en, hen⟩ : ∃ en, entN cat x = en := ⟨_, rfl⟩
            rw [hen] at hent1 h4 hc1 HCE HQ3
            have HEN := Lib.hid hen
            obtain ⟨la, hla⟩ : ∃ la, (entX cat en).code.args.length = la := ⟨_, rfl⟩
            have hc7 := fun W E => hc1 W E 7 (.slice (L en).a3 la (L en).c3) (by rw [← hla]; rfl)
            rw [hla] at HCE
            clear hen hc1 hla
            obtain ⟨p3, hp3⟩ : ∃ p3, (L en).a3 = p3 := ⟨_, rfl⟩
            obtain ⟨c3, hc3⟩ : ∃ c3, (L en).c3 = c3 := ⟨_, rfl⟩
            rw [hp3, hc3] at hc7
            clear hp3 hc3
            have henz : (en : Int) < (n : Int) := by omega
            go_wp2_with fail
            refine hent1.mono ?_
            rintro e w2 ⟨rfl, E2⟩
            have hx2 := HBX.out.ex E2
            have EX2 := HEX.out.comp E2
            have r1 : ∀ kk, (w2.drewN kk).cell? ⟨bx, 1, none⟩ = some (.slice (A i) ln (C i)) := fun kk => (below_drewN (Ext.refl w2) kk).cell hx2.lt |>.trans (hx2.c 1 rfl)
            have r2 : ∀ kk, (w2.drewN kk).cell? ⟨b1, o1 + en * 8 + 7, none⟩ = some (.slice p3 la c3) := fun kk => hc7 _ (below_drewN EX2 kk)
            have r3 : ∀ kk, (w2.drewN kk).cell? ⟨bx, 2, none⟩ = some (.int .i64 dst) := fun kk => (below_drewN (Ext.refl w2) kk).cell hx2.lt |>.trans (hx2.c 2 rfl)
            have s1 := r1 0
            have s2 := r2 0
            have hbz1 : bx < w2.heap.size := hx2.lt
            have hbz2 : b1 < w2.heap.size := Nat.lt_of_lt_of_le hb1 EX2.size
            have HE2b := Lib.hid E2
            have HX2 := Lib.hid hx2
            have HEX2 := Lib.hid EX2
            have HC7 := Lib.hid hc7
            clear hx2 EX2 hent1 E2 hc7
            by_cases hll : ln = la
            · subst hll
              have HE7 := Lib.hid (show callE cat (setN (j : Int) cs i) x = 7 → E = 7 from fun hce => by
                have h5 := HCN.out
                rw [hce, if_pos (by decide)] at h5
                exact h5)
              have hllz : ((ln : Int) != (ln : Int)) = false := by simp
              have ho := fun W => lb_out dst 0 7 W
              have EB := Lib.hid (show ∀ kk, Ext w (w2.drewN kk) from fun kk => below_drewN HEX2.out kk)
              cases hd : inB dst 0 7 with
              | false =>
                have hE7 := HE7.out (by rw [HCE.out, HQ.out, hd]; simp)
                have HE7 := Lib.hid hE7
                rw [hd] at ho
                clear HCE HCN hcon hd hE7
                go_wp2_with fail
                go_quiet (fail)
                go_wp2_with fail
                refine (ho _).mono ?_
                rintro e w5 ⟨rfl, rfl⟩
                go_wp2_with fail
                go_ret2
                obtain rfl := HE7.out
                exact ⟨_, rfl, fun h => absurd h (by decide), EB.out _⟩
              | true =>
                rw [hd] at ho
                have hfb := fun kk => (HBF.out.ex (HE1.out)).ex (HE2b.out.comp (below_drewN (Ext.refl w2) kk))
                have hcn := fun kk => hcon w.heap.size (setN (j : Int) cs i) HS8.out (w2.drewN kk) (hfb kk) (A i) ln (C i) x.args HLN.out hal (HIA.out.ext (EB.out kk))
                simp only [any_not (fun r => inB r 0 7 && ((setN (j : Int) cs i)[r.toNat]?.getD false))] at hcn
                have HFB := Lib.hid hfb
                clear hcon hfb
                cases ha : x.args.all (fun r => inB r 0 7 && ((setN (j : Int) cs i)[r.toNat]?.getD false)) with
                | false =>
                  have hE7 := HE7.out (by rw [HCE.out, HQ.out, hd, ha]; simp)
                  have HE7 := Lib.hid hE7
                  rw [ha] at hcn
                  clear HCE HCN hd hE7 ha HFB
                  go_wp2_with fail
                  go_quiet (fail)
                  go_wp2_with fail
                  refine (ho _).mono ?_
                  rintro e w5 ⟨rfl, rfl⟩
                  go_wp2_with (go_at_call 100; refine (hcn _).mono ?_; rintro e w6 ⟨rfl, E6⟩; have HE6 := Lib.hid E6; clear E6)
                  go_ret2
                  obtain rfl := HE7.out
                  exact ⟨_, rfl, fun h => absurd h (by decide), (EB.out _).comp HE6.out⟩
                | true =>
                  have hce : callE cat (setN (j : Int) cs i) x = 0 := by rw [HCE.out, HQ.out, hd, ha]; simp
                  have HN1 := Lib.hid (show callsN cat (j : Int) cs (k - (i + 1)) (i + 1) = E by
                    have h5 := HCN.out
                    rw [hce, if_neg (by simp)] at h5
                    exact h5.symm)
                  rw [ha] at hcn
                  have hdb := inB_bd hd
                  obtain ⟨d, rfl⟩ : ∃ d : Nat, dst = (d : Int) := ⟨dst.toNat, by omega⟩
                  have hd8 : d < 8 := by omega
                  have hd8z : (d : Int) < 8 := by omega
                  have hdz : 0 ≤ (d : Int) := by omega
                  clear HCE HCN hd ha hce HE7 hdb
                  go_wp2_with fail
                  go_quiet (fail)
                  go_wp2_with fail
                  refine (ho _).mono ?_
                  rintro e w5 ⟨rfl, rfl⟩
                  go_upto_region 19 with (go_at_call 100; refine (hcn _).mono ?_; rintro e w6 ⟨rfl, E6⟩; have HE6 := Lib.hid E6; clear E6)
                  have hf6 := (HFB.out _).ex HE6.out
                  have hx6 := ((HX2.out.ex (below_drewN (Ext.refl w2) _)).ex HE6.out)
                  have hff := hf6.c d (bvs_get _ d (by rw [HS8.out]; exact hd8))
                  have hfr := hf6.f d
                  have hfl6 := hf6.lt
                  have hf7 := hf6.st d (.bool true)
                  rw [bvs_set] at hf7
                  have hne : bx ≠ w.heap.size := by omega
                  have hx7 := hx6.ot hne (i := d) (v := .bool true)
                  have hO6 := own_extX HO.out (HE1.out.comp ((HE2b.out.comp (below_drewN (Ext.refl w2) _)).comp HE6.out))
                  have hO7 := own_set (p := ⟨w.heap.size, d, none⟩) hO6 (fun e => by have := (HO.out.lt _ e).1; dsimp only at this; omega) (.bool true)
                  have E7 := ext_put (p := ⟨w.heap.size, d, none⟩) ((HEX2.out.comp (below_drewN (Ext.refl w2) _)).comp HE6.out) (.bool true) (Nat.le_refl _)
                  have x6 := hx6.c 2 (v := .int .i64 (d : Int)) rfl
                  have hxl6 := hx6.lt
                  have HF7 := Lib.hid hf7
                  have HX7 := Lib.hid hx7
                  have HO7 := Lib.hid hO7
                  have HE7 := Lib.hid E7
                  clear hf6 hx6 hf7 hx7 hO6 hO7 E7 hcn ho r1 r2 r3 s1 s2
                  go_upto_region 20 with fail
                  have hx7 := HX7.out
                  have hO7 := HO7.out
                  have E7 := HE7.out
                  have hf7 := HF7.out
                  clear HX7 HO7 HE7 HF7
                  obtain ⟨X7, hX7⟩ : ∃ X7, World.setCell w6 ⟨w.heap.size, d, none⟩ (.bool true) = X7 := ⟨_, rfl⟩
                  rw [hX7] at hf7 hx7 hO7 E7 ⊢
                  clear hX7
                  have z0 := Blk.c hx7 0 (v := .string nm) rfl
                  have z1 := Blk.c hx7 1 (v := .slice (A i) ln (C i)) rfl
                  have z2 := Blk.c hx7 2 (v := .int .i64 (d : Int)) rfl
                  have hbx7 := hx7.lt
                  have hs7 := E7.size
                  have hfl7 := hf7.lt
                  have HF7 := Lib.hid hf7
                  have HE7 := Lib.hid E7
                  clear hx7 hf7 E7 x6 hff hfr
                  go_wp2_with (at_builtin; refine wpList_app2 rfl _ _ 111 rfl 115 i0 (.agg #[.string ⟨#[]⟩, .slice none 0 0, .int .i64 0, .int .i64 0]) 4 56 Try.underlying111 hi0 hz0 hz1 hz2 rfl (by decide) _ i (w.heap.size + 1) (dvals cat cs A C i) rfl (own_extX hO7 ((Ext.refl X7).alloc _)) (by rw [World.size_alloc]; omega) (some ⟨X7.heap.size, 0, none⟩) 1 1 [.string nm, .slice (A i) ln (C i), .int .i64 (d : Int), .int .i64 (en : Int)] rfl rfl from_vals (by intro u hu; simp only [List.mem_cons, List.not_mem_nil, or_false] at hu; rcases hu with rfl | rfl | rfl | rfl <;> rfl) (by unfold maxLen; omega) (by omega) ?_; intro v2 W2 ho2 hg2 ha2)
                  go_roundw
                  case rel =>
                    have hnb : ∀ q, u6.ownBlock = some q → w.heap.size + 1 ≤ q := fun q hq => (HO.out.lt q hq).1
                    refine ⟨i + 1, by omega, by go_num, ?_, ?_, ?_, HN1.out⟩
                    · show World.ownsRow _ _ _ _ _ _ _
                      rw [dvals, HX.out]
                      dsimp only
                      unfold dcs
                      rw [HNM.out, HLN.out, HDST.out, HEN.out]
                      exact ho2
                    · show Blk _ _ _ _
                      rw [setN, HX.out]
                      dsimp only
                      rw [HDST.out, Int.toNat_natCast]
                      exact (hg2.block _ (by rw [World.size_alloc]; omega) (fun e => by have := hnb _ e.symm; omega)).trans (HF7.out.al _)
                    · exact own_kp (HE7.out.alloc _) hg2 (fun q hq => by have := hnb q hq; omega)
                  case measure => simp [intOf]; omega
            · have hllz : ((ln : Int) != (la : Int)) = true := by simp; omega
              have hE3 : E = 3 := by
                have hce : callE cat (setN (j : Int) cs i) x = 3 := by rw [HCE.out, HQ.out]; simp [hll]
                have h5 := HCN.out
                rw [hce, if_pos (by decide)] at h5
                exact h5
              have HE3 := Lib.hid hE3
              have EB := Lib.hid (show ∀ kk, Ext w (w2.drewN kk) from fun kk => below_drewN HEX2.out kk)
              clear hE3 HCE HCN hcon
              go_wp2_with fail
              go_quiet (fail)
              go_wp2_with fail
              go_ret2
              obtain rfl := HE3.out
              exact ⟨_, rfl, fun h => absurd h (by decide), EB.out _⟩
        · have hltz2 : ¬ (i : Int) < (k : Int) := by omega
          obtain rfl : i = k := by omega
          have HO2 := Lib.hid hO.out
          have HE2 := Lib.hid hEx.out
          have hE0 : E = 0 := by
            have h : callsN cat (j : Int) cs (i - i) i = E := hC.out
            rw [Nat.sub_self] at h
            exact h.symm
          have HEZ := Lib.hid hE0
          clear hO hEx hC hB hE0
          go_wp2_with fail
          go_ret2
          obtain rfl := HEZ.out
          exact ⟨_, rfl, fun _ => own_le (by rw [HK.out]; exact HO2.out) (Nat.le_succ _), HE2.out⟩
end Go.Proofs.Ytcijneecjkpebaa
/- Layer 8: Build's two builders side by side, and its closure that appends an order. -/
namespace Go.Proofs.Ytcijneecjkpebaa
open Go.RowKit Go.Q
/-- a value of no slice -/
def nilS : Value := .slice none 0 0
def Bdn (W : World) (B b : Nat) (ws ms : List Int) (v1 v2 : Value) : Prop := Bd W B b ws ms [] 0 0 v1 v2 (.slice none 0 0) (.map none)
def BdN (b : Nat) (v1 v2 : Value) (k : Nat) : Prop := BdM b v1 v2 (.slice none 0 0) k
/-- two builders, in blocks from B on, none of F -/
def TwoAt (W : World) (B : Nat) (F : Nat → Prop) (bm bl : Nat) (mw lw : List Int) : Prop :=
  ∃ v1 v2 u1 u2 m1 m2, Bdn W B bm mw m1 v1 v2 ∧ Bdn W B bl lw m2 u1 u2 ∧ m1.length = mw.length ∧ m2.length = lw.length ∧
    (∀ k, BdN bm v1 v2 k → B ≤ k ∧ ¬ F k ∧ ¬ BdN bl u1 u2 k) ∧ (∀ k, BdN bl u1 u2 k → B ≤ k ∧ ¬ F k)
theorem bdn_lt {W : World} {B b : Nat} {ws ms : List Int} {v1 v2 : Value} (h : Bdn W B b ws ms v1 v2) (k : Nat) (hk : BdN b v1 v2 k) : k < W.heap.size := by
  rcases hk with rfl | e | e | e
  · exact h.blk.lt
  · exact (h.r1.lt k e).2
  · exact (h.r2.lt k e).2
  · cases e
theorem bdn_keep {W W' : World} {B b : Nat} {ws ms : List Int} {v1 v2 : Value} {M : Nat → Prop} (h : Bdn W B b ws ms v1 v2) (K : KpM M W W') (hM : ∀ k, BdN b v1 v2 k → ¬ M k) : Bdn W' B b ws ms v1 v2 :=
  ⟨h.blk.kpm K (hM b (.inl rfl)), own_kpm h.r1 K fun k e => hM k (.inr (.inl e)), own_kpm h.r2 K fun k e => hM k (.inr (.inr (.inl e))), own_kpm h.r3 K fun k e => (by cases e), h.n1, h.n2, h.n3, h.a12, h.a13, h.a23⟩
theorem TwoAt.ext {W W' : World} {B : Nat} {F : Nat → Prop} {bm bl : Nat} {mw lw : List Int} (h : TwoAt W B F bm bl mw lw) (E : Ext W W') : TwoAt W' B F bm bl mw lw := by
  obtain ⟨v1, v2, u1, u2, m1, m2, h1, h2, r⟩ := h
  exact ⟨v1, v2, u1, u2, m1, m2, Bd.ext h1 E, Bd.ext h2 E, r⟩
/-- blocks that are newer, or were not of F, may be of F' -/
theorem TwoAt.more {W : World} {B : Nat} {F F' : Nat → Prop} {bm bl : Nat} {mw lw : List Int} (h : TwoAt W B F bm bl mw lw) (hF : ∀ k, F' k → F k ∨ W.heap.size ≤ k) : TwoAt W B F' bm bl mw lw := by
  obtain ⟨v1, v2, u1, u2, m1, m2, h1, h2, l1, l2, d1, d2⟩ := h
  refine ⟨v1, v2, u1, u2, m1, m2, h1, h2, l1, l2, fun k hk => ⟨(d1 k hk).1, fun hf => ?_, (d1 k hk).2.2⟩, fun k hk => ⟨(d2 k hk).1, fun hf => ?_⟩⟩
  · rcases hF k hf with h | h
    · exact (d1 k hk).2.1 h
    · have := bdn_lt h1 k hk; omega
  · rcases hF k hf with h | h
    · exact (d2 k hk).2 h
    · have := bdn_lt h2 k hk; omega
/-- what an order that is put in one of them leaves -/
def TwoRes (B : Nat) (F : Nat → Prop) (bm bl : Nat) (mw lw : List Int) (w : World) (e : Ending) (w' : World) : Prop :=
  e = .returned (.tuple #[]) ∧ TwoAt w' B F bm bl mw lw ∧ KpM (fun k => B ≤ k ∧ ¬ F k) w w'
section
variable {B : Nat} {F : Nat → Prop} {bm bl : Nat} {mw lw : List Int} {op fm tm nx mask : Int} {w : World}
theorem two_put (h : TwoAt w B F bm bl mw lw) (hF : ∀ k, F k → k < w.heap.size) (hl1 : mw.length ≤ 400) (ho : ordB ⟨op, fm, tm, nx⟩ = true) :
    Calls Try.prog 69 #[.pointer (some ⟨bm, 0, none⟩), .agg #[.int .i64 op, .int .i64 fm, .int .i64 tm, .int .i64 nx], .int .i64 mask] w (TwoRes B F bm bl (mw ++ [Q.written ⟨op, fm, tm, nx⟩]) lw w) := by
  obtain ⟨v1, v2, u1, u2, m1, m2, h1, h2, l1, l2, d1, d2⟩ := h
  have hB : B ≤ w.heap.size := by have := h1.blk.lt; have := (d1 bm (.inl rfl)).1; omega
  refine (lb_put B bm mw m1 [] 0 0 v1 v2 _ _ op fm tm nx mask w h1 hB hl1 (by omega) ho).mono ?_
  rintro e w' ⟨he, v1', v2', H', K, e1, e2⟩
  have hin : ∀ k, BdN bm v1' v2' k → BdN bm v1 v2 k ∨ w.heap.size ≤ k := fun k hk => by
    rcases hk with h | h | h | h
    · exact .inl (.inl h)
    · rcases e1 k h with h | h
      · exact .inl (.inr (.inl h))
      · exact .inr h
    · rcases e2 k h with h | h
      · exact .inl (.inr (.inr (.inl h)))
      · exact .inr h
    · cases h
  refine ⟨he, ⟨v1', v2', u1, u2, _, m2, H', bdn_keep h2 K (fun k hk hm => (d1 k hm).2.2 hk), by simp [l1], l2, fun k hk => ?_, d2⟩, K.mono fun k hk => ⟨(d1 k hk).1, (d1 k hk).2.1⟩⟩
  rcases hin k hk with h | h
  · exact d1 k h
  · exact ⟨by omega, fun hf => by have := hF k hf; omega, fun hu => by have := bdn_lt h2 k hu; omega⟩
theorem two_putl (h : TwoAt w B F bm bl mw lw) (hF : ∀ k, F k → k < w.heap.size) (hl1 : lw.length ≤ 400) (ho : ordB ⟨op, fm, tm, nx⟩ = true) :
    Calls Try.prog 69 #[.pointer (some ⟨bl, 0, none⟩), .agg #[.int .i64 op, .int .i64 fm, .int .i64 tm, .int .i64 nx], .int .i64 mask] w (TwoRes B F bm bl mw (lw ++ [Q.written ⟨op, fm, tm, nx⟩]) w) := by
  obtain ⟨v1, v2, u1, u2, m1, m2, h1, h2, l1, l2, d1, d2⟩ := h
  have hB : B ≤ w.heap.size := by have := h1.blk.lt; have := (d1 bm (.inl rfl)).1; omega
  refine (lb_put B bl lw m2 [] 0 0 u1 u2 _ _ op fm tm nx mask w h2 hB hl1 (by omega) ho).mono ?_
  rintro e w' ⟨he, u1', u2', H', K, e1, e2⟩
  have hin : ∀ k, BdN bl u1' u2' k → BdN bl u1 u2 k ∨ w.heap.size ≤ k := fun k hk => by
    rcases hk with h | h | h | h
    · exact .inl (.inl h)
    · rcases e1 k h with h | h
      · exact .inl (.inr (.inl h))
      · exact .inr h
    · rcases e2 k h with h | h
      · exact .inl (.inr (.inr (.inl h)))
      · exact .inr h
    · cases h
  refine ⟨he, ⟨v1, v2, u1', u2', m1, _, bdn_keep h1 K (fun k hk hm => (d1 k hk).2.2 hm), H', l1, by simp [l2], fun k hk => ⟨(d1 k hk).1, (d1 k hk).2.1, fun hu => ?_⟩, fun k hk => ?_⟩, K.mono fun k hk => d2 k hk⟩
  · rcases hin k hu with h | h
    · exact (d1 k hk).2.2 h
    · have := bdn_lt h1 k hk; omega
  · rcases hin k hk with h | h
    · exact d2 k h
    · exact ⟨by omega, fun hf => by have := hF k hf; omega⟩
end
/-- where the main builder's words are -/
theorem TwoAt.words {W : World} {B : Nat} {F : Nat → Prop} {bm bl : Nat} {mw lw : List Int} (h : TwoAt W B F bm bl mw lw) : ∃ a c, W.cell? ⟨bm, 0, none⟩ = some (.slice a mw.length c) ∧ W.ownsRow B 3 1 (.slice a mw.length c) mw.length (iv mw) ∧ bm < W.heap.size := by
  obtain ⟨v1, v2, u1, u2, m1, m2, h1, h2, l1, l2, d1, d2⟩ := h
  obtain ⟨a, c, e⟩ := own_slice h1.r1
  subst e
  exact ⟨a, c, h1.blk.c 0 rfl, h1.r1, h1.blk.lt⟩
theorem TwoAt.wordsl {W : World} {B : Nat} {F : Nat → Prop} {bm bl : Nat} {mw lw : List Int} (h : TwoAt W B F bm bl mw lw) : ∃ a c, W.cell? ⟨bl, 0, none⟩ = some (.slice a lw.length c) ∧ W.ownsRow B 3 1 (.slice a lw.length c) lw.length (iv lw) ∧ bl < W.heap.size := by
  obtain ⟨v1, v2, u1, u2, m1, m2, h1, h2, l1, l2, d1, d2⟩ := h
  obtain ⟨a, c, e⟩ := own_slice h2.r1
  subst e
  exact ⟨a, c, h2.blk.c 0 rfl, h2.r1, h2.blk.lt⟩
/-- the next order: the one given, or the one behind -/
def nextQ (nx : List Int) (n : Nat) : Int := (nx ++ [(n : Int) + 1])[0]?.getD 0
theorem TwoAt.kept {w W W' : World} {B : Nat} {F : Nat → Prop} {bm bl : Nat} {mw lw : List Int} {r : Option Nat} (h : TwoAt w B F bm bl mw lw) (E : Ext w W) (hg : W.grownBy W' r) (hr : ∀ k, r = some k → w.heap.size ≤ k) : TwoAt W' B F bm bl mw lw := h.ext (own_kp E hg hr)
theorem own_first {W : World} {B n : Nat} {v : Value} {xs ys : List Int} (h : W.ownsRow B 3 1 v (n + 1) (iv xs ++ iv ys)) : ∃ g c, v = .slice (some ⟨g, 0, none⟩) (n + 1) c ∧ g < W.heap.size ∧ W.cell? ⟨g, 0, none⟩ = some (.int .i64 ((xs ++ ys)[0]?.getD 0)) := by
  rw [iv_app] at h
  obtain ⟨a, c, rfl⟩ := own_slice h
  have hl : (xs ++ ys).length = n + 1 := by have := h.1; rw [iv_length] at this; omega
  rcases own_intsL h with h0 | ⟨b, off, rfl, hb, hc⟩
  · rw [h0] at hl; simp at hl
  · have hoff : off = 0 := by
      rcases h.2 with ⟨h1, _⟩ | ⟨g, cap, cur, h1, _⟩
      · simp at h1
      · simp only [Value.slice.injEq, Option.some.injEq, Addr.mk.injEq] at h1
        exact h1.1.2.1
    subst hoff
    exact ⟨b, c, rfl, hb, by simpa using hc 0 (by omega)⟩
set_option maxRecDepth 100000 in
set_option maxHeartbeats 4000000 in
theorem two_step (B : Nat) (F : Nat → Prop) (bs bm bl : Nat) (mw lw : List Int) (op fm tm z : Int) (a : Option Addr) (n c : Nat) (nx : List Int) (w0 w : World) (h : TwoAt w0 B F bm bl mw lw) (E : Ext w0 w) (hF : ∀ k, F k → k < w.heap.size) (hl1 : mw.length ≤ 400)
    (hb0 : w0.cell? ⟨bs, 0, none⟩ = some (.pointer (some ⟨bm, 0, none⟩))) (hbs0 : bs < w0.heap.size)
    (hn : w.ownsRow w0.heap.size 3 1 (.slice a n c) n (iv nx)) (hn1 : n ≤ 1) (ho : ordB ⟨op, fm, tm, nextQ nx mw.length⟩ = true) :
    Calls Try.prog 68 #[.agg #[.int .i64 op, .int .i64 fm, .int .i64 tm, .int .i64 z], .slice a n c, .pointer (some ⟨bs, 0, none⟩)] w (TwoRes B F bm bl (mw ++ [Q.written ⟨op, fm, tm, nextQ nx mw.length⟩]) lw w0) := by
  obtain ⟨q, hq⟩ : ∃ q, nextQ nx mw.length = q := ⟨_, rfl⟩
  rw [hq] at ho ⊢
  have HQ := Lib.hid hq
  have hput := fun W (E : Ext w0 W) (hF : ∀ k, F k → k < W.heap.size) => two_put (mask := 0) (h.ext E) hF hl1 ho
  obtain ⟨a1, c1, hc1, hr1, hbm⟩ := (h.ext E).words
  obtain ⟨i0, hi0, hz0, hz1, hz2⟩ := info_parts Try.infoE
  have HP := Lib.hid hput
  have HE := Lib.hid E
  have HF := Lib.hid hF
  have HN := Lib.hid hn
  have hs0 := E.size
  have hb : w.cell? ⟨bs, 0, none⟩ = some (.pointer (some ⟨bm, 0, none⟩)) := (E.cell (p := ⟨bs, 0, none⟩) hbs0).trans hb0
  have hbs : bs < w.heap.size := Nat.lt_of_lt_of_le hbs0 hs0
  have HB0 := Lib.hid hb0
  clear hb0
  obtain ⟨ml, hml⟩ : ∃ ml, mw.length = ml := ⟨_, rfl⟩
  rw [hml] at hc1 hl1
  have HML := Lib.hid hml
  clear h hput E hF hr1 hq ho hml hn
  go_enter Try.func68, Try.ntmps68
  obtain ⟨Y, hY⟩ : ∃ Y, (w.alloc (.cells #[.int .i64 op, .int .i64 fm, .int .i64 tm, .int .i64 z] 107)).alloc (.cells #[.int .i64 ((ml : Int) + 1)] 3) = Y := ⟨_, rfl⟩
  have EX : Ext w Y := by rw [← hY]; exact (by repeat (first | with_reducible exact Ext.refl _ | with_reducible refine Ext.alloc ?_ _ | with_reducible refine Below.drew ?_))
  have hfr : From Y (some ⟨w.heap.size + 1, 0, none⟩) (iv [(ml : Int) + 1]) := by
    have := from_one (w.alloc (.cells #[.int .i64 op, .int .i64 fm, .int .i64 tm, .int .i64 z] 107)) ((ml : Int) + 1) 3
    rw [World.size_alloc] at this
    rw [← hY]
    exact this
  have hob : Blk Y w.heap.size #[.int .i64 op, .int .i64 fm, .int .i64 tm, .int .i64 z] 107 := by rw [← hY]; exact (Blk.nw w _ _).al _
  have hmz : (ml : Int) + 1 ≤ 401 := by omega
  have hown := own_extX HN.out EX
  have HY := Lib.hid hY
  clear hY
  have hnb : ∀ k, (Value.slice a n c).ownBlock = some k → w0.heap.size ≤ k ∧ k < w.heap.size := fun k hk => HN.out.lt k hk
  have HNB := Lib.hid hnb
  have HOB := Lib.hid hob
  have hnx : (nx ++ [(ml : Int) + 1])[0]?.getD 0 = q := by rw [← HQ.out, ← HML.out]; rfl
  have HNX := Lib.hid hnx
  clear hnb hob hnx
  go_wp2_with (at_builtin; rw [HY.out]; refine wpList_app2 rfl _ _ 22 rfl 3 i0 (.int .i64 0) 1 8 Try.underlying22 hi0 hz0 hz1 hz2 rfl (by decide) _ n w0.heap.size (iv nx) rfl hown (by have := EX.size; omega) (some ⟨w.heap.size + 1, 0, none⟩) 1 1 (iv [(ml : Int) + 1]) rfl rfl hfr (iv_one _) (by unfold maxLen; omega) (by omega) ?_; intro v2 W2 ho2 hg2 ha2; obtain ⟨g, cc, rfl, hgl, hgc⟩ := own_first ho2; rw [HNX.out] at hgc; have hob2 := (hg2.block _ HOB.out.lt (fun e => by have := HNB.out _ e.symm; omega)).trans HOB.out; have hb4 := Blk.c hob2 3 (v := .int .i64 z) rfl; have hf4 := Blk.f hob2 3; have hb0 := Blk.c hob2 0 (v := .int .i64 op) rfl; have hb1 := Blk.c hob2 1 (v := .int .i64 fm) rfl; have hb2 := Blk.c hob2 2 (v := .int .i64 tm) rfl; have hbl := Blk.lt hob2; have EW2 := own_kp (HE.out.comp EX) hg2 (fun k hk => (HNB.out k hk).1); have hbs2 : W2.cell? ⟨bs, 0, none⟩ = some (.pointer (some ⟨bm, 0, none⟩)) := (EW2.cell (p := ⟨bs, 0, none⟩) hbs0).trans HB0.out; have hbsl2 := Nat.lt_of_lt_of_le hbs0 EW2.size; have HEW2 := Lib.hid EW2; have HOB2 := Lib.hid hob2; clear EW2 hob2)
  have E3 := ext_put (p := ⟨w.heap.size, 3, none⟩) HEW2.out (.int .i64 q) hs0
  have hsz := hg2.size
  have hsy := EX.size
  refine (HP.out _ E3 (fun k hk => by have := HF.out k hk; rw [World.size_setCell]; omega)).mono ?_
  rintro e w3 ⟨rfl, h3, K3⟩
  have H3 := Lib.hid h3
  have K3 := Lib.hid ((KpM.of_ext E3).trans K3)
  clear h3 E3
  go_wp2
  go_end0
  exact ⟨rfl, H3.out, K3.out⟩
end Go.Proofs.Ytcijneecjkpebaa
/- Layer 8: is an entry called? -/
namespace Go.Q
theorem used_hit {cat : List En} {cs : List Cl} {j i : Nat} {x : Cl} (h : cs[j]? = some x) (e : entN cat x = i) : usedB cat cs i = true := by
  unfold usedB
  rw [List.any_eq_true]
  exact ⟨x, List.mem_of_getElem? h, by simpa using e⟩
theorem used_miss {cat : List En} {cs : List Cl} {i : Nat} (h : ∀ (j : Nat) (x : Cl), cs[j]? = some x → entN cat x ≠ i) : usedB cat cs i = false := by
  unfold usedB
  rw [List.any_eq_false]
  intro x hx
  obtain ⟨j, hj, rfl⟩ := List.mem_iff_getElem.1 hx
  simpa using h j _ (List.getElem?_eq_getElem hj)
end Go.Q
namespace Go.Proofs.Ytcijneecjkpebaa
open Go.RowKit Go.Q
/-- calls with their entries lie from a on -/
def DlAt (w : World) (a : Option Addr) (cat : List En) (cs : List Cl) (A : Nat → Option Addr) (C : Nat → Nat) : Prop :=
  cs = [] ∨ ∃ g, a = some ⟨g, 0, none⟩ ∧ g < w.heap.size ∧ ∀ j x, cs[j]? = some x → ∀ t v, (dcs x (A j) (C j) (entN cat x))[t]? = some v → w.cell? ⟨g, j * 4 + t, none⟩ = some v
theorem DlAt.ext {w w' : World} {a : Option Addr} {cat : List En} {cs : List Cl} {A : Nat → Option Addr} {C : Nat → Nat} (h : DlAt w a cat cs A C) (E : Ext w w') : DlAt w' a cat cs A C :=
  h.imp id fun ⟨g, ha, hg, hc⟩ => ⟨g, ha, Nat.lt_of_lt_of_le hg E.size, fun j x hx t v hv => (E.cell (p := ⟨g, j * 4 + t, none⟩) hg).trans (hc j x hx t v hv)⟩
theorem dvals_len (cat : List En) (cs : List Cl) (A : Nat → Option Addr) (C : Nat → Nat) : ∀ n, n ≤ cs.length → (dvals cat cs A C n).length = n * 4
  | 0, _ => rfl
  | n + 1, h => by
    rw [dvals, List.getElem?_eq_getElem (by omega)]
    dsimp only
    rw [List.length_append, dvals_len cat cs A C n (by omega)]
    show n * 4 + 4 = _
    omega
theorem dvals_get (cat : List En) (cs : List Cl) (A : Nat → Option Addr) (C : Nat → Nat) {j : Nat} {x : Cl} (hx : cs[j]? = some x) {t : Nat} {v : Value} (hv : (dcs x (A j) (C j) (entN cat x))[t]? = some v) : ∀ n, j < n → n ≤ cs.length → (dvals cat cs A C n)[j * 4 + t]? = some v
  | 0, h, _ => by omega
  | n + 1, h, hn => by
    have ht : t < 4 := by
      rcases Nat.lt_or_ge t 4 with h | h
      · exact h
      · rw [List.getElem?_eq_none (by exact h)] at hv; cases hv
    have hl := dvals_len cat cs A C n (by omega)
    rw [dvals]
    rcases Nat.eq_or_lt_of_le (show j ≤ n by omega) with rfl | h2
    · rw [hx]
      dsimp only
      rw [List.getElem?_append_right (by omega), hl, Nat.add_sub_cancel_left]
      exact hv
    · rw [List.getElem?_append_left (by omega)]
      exact dvals_get cat cs A C hx hv n h2 (by omega)
theorem dl_of {w : World} {B : Nat} {a : Option Addr} {n c : Nat} {cat : List En} {cs : List Cl} {A : Nat → Option Addr} {C : Nat → Nat} (h : w.ownsRow B 115 4 (.slice a n c) n (dvals cat cs A C cs.length)) : DlAt w a cat cs A C := by
  rcases h.2 with ⟨h1, h2⟩ | ⟨g, cap, cur, h1, hb, hg, _⟩
  · left
    have hl := dvals_len cat cs A C cs.length (Nat.le_refl _)
    have h3 := h.1
    rw [h2] at h3
    exact List.eq_nil_of_length_eq_zero (by omega)
  · obtain ⟨rfl, -, -⟩ := Value.slice.inj h1
    refine .inr ⟨g, rfl, lt_of_block hg, fun j x hx t v hv => ?_⟩
    have hj : j < cs.length := by
      rcases Nat.lt_or_ge j cs.length with h | h
      · exact h
      · rw [List.getElem?_eq_none h] at hx; cases hx
    have := World.ownsRow.cells h (g := g) rfl (j * 4 + t) v (dvals_get cat cs A C hx hv _ hj (Nat.le_refl _))
    rw [Addr.add_lit, Nat.zero_add] at this
    exact this
theorem lb_build1 (x : Cl) (a : Option Addr) (c k i b : Nat) (w : World) (h : w.cell? ⟨b, 0, none⟩ = some (.int .i64 (i : Int))) (hb : b < w.heap.size) :
    Calls Try.prog 67 #[.agg #[.string x.name, .slice a x.args.length c, .int .i64 x.dst, .int .i64 (k : Int)], .pointer (some ⟨b, 0, none⟩)] w fun e w' => e = .returned (.bool (decide (k = i))) ∧ Ext w w' := by
  have hd : ((k : Int) == (i : Int)) = decide (k = i) := by
    by_cases e : k = i
    · subst e; simp
    · rw [decide_eq_false e]; simpa using (by omega : ¬ (k : Int) = (i : Int))
  rw [← hd]
  clear hd
  go_enter Try.func67, Try.ntmps67
  go_wp2
  go_ret
  exact ⟨rfl, (by repeat (first | with_reducible exact Ext.refl _ |  (with_reducible refine Ext.alloc ?_ _) | (with_reducible refine Below.drew ?_) | (with_reducible refine below_drewN ?_ _) | (with_reducible refine ext_put ?_ _ ?_; rotate_left; (first | with_reducible exact Nat.le_refl _ | with_reducible exact Nat.le_succ _ | omega | (dsimp only; omega)))))⟩
set_option maxRecDepth 100000 in
set_option maxHeartbeats 1000000 in
theorem lb_indexC (i b0 : Nat) (a : Option Addr) (n c : Nat) (cat : List En) (cs : List Cl) (A : Nat → Option Addr) (C : Nat → Nat) (w : World) (h : w.cell? ⟨b0, 0, none⟩ = some (.int .i64 (i : Int))) (hb0 : b0 < w.heap.size)
    (hn : cs.length = n) (hbig : n ≤ 9223372036854775807) (hI : DlAt w a cat cs A C) :
    Calls Try.prog 115 #[.slice a n c, .func (.func 67) #[] #[.pointer (some ⟨b0, 0, none⟩)]] w fun e w' => (∃ r : Int, e = .returned (.int .i64 r) ∧ decide (0 ≤ r) = usedB cat cs i) ∧ Ext w w' := by
  have hp := fun x a c k (W : World) (E : Ext w W) => lb_build1 x a c k i b0 W (cell_later E h) (Nat.lt_of_lt_of_le hb0 E.size)
  have HN := Lib.hid hn
  have HI := Lib.hid hI
  clear h hn hI
  go_enter Try.func115, Try.ntmps115
  go_wp2
  go_loopg [5, 8] n (fun gg _ s8 wr => ∃ kk : Nat, kk ≤ n ∧ n - kk ≤ gg ∧ s8 = .int .i64 kk ∧ Aside (Ext w wr) ∧ Aside (∀ j x, j < kk → cs[j]? = some x → entN cat x ≠ i))
  case atStart => exact ⟨0, Nat.zero_le _, by omega, rfl, Ext.refl w, fun j x hj => absurd hj (Nat.not_lt_zero _)⟩
  case round =>
    obtain ⟨kk, hkk, hg, rfl, BW, AA⟩ := hrel
    by_cases hlt : kk < n
    · have hltz : (kk : Int) < (n : Int) := by omega
      obtain ⟨x, hx⟩ : ∃ x, cs[kk]? = some x := ⟨_, List.getElem?_eq_getElem (by rw [HN.out]; exact hlt)⟩
      obtain ⟨g, rfl, hgl, hc⟩ : ∃ g, a = some ⟨g, 0, none⟩ ∧ g < w.heap.size ∧ ∀ j x, cs[j]? = some x → ∀ t v, (dcs x (A j) (C j) (entN cat x))[t]? = some v → w.cell? ⟨g, j * 4 + t, none⟩ = some v := by
        rcases HI.out with h | h
        · have := HN.out; rw [h] at this; simp at this; omega
        · exact h
      have hcj := fun t v hv => (BW.out.cell (p := ⟨g, kk * 4 + t, none⟩) hgl).trans (hc kk x hx t v hv)
      have q0 := hcj 0 (.string x.name) rfl
      have q1 := hcj 1 (.slice (A kk) x.args.length (C kk)) rfl
      have q2 := hcj 2 (.int .i64 x.dst) rfl
      have q3 := hcj 3 (.int .i64 (entN cat x : Int)) rfl
      rw [Nat.add_zero] at q0
      have hcall := hp x (A kk) (C kk) (entN cat x) wr BW.out
      have HX := Lib.hid hx
      have hgr : g < wr.heap.size := Nat.lt_of_lt_of_le hgl BW.out.size
      clear hcj hp hx hc
      cases hq : decide (entN cat x = i) with
      | true =>
        rw [hq] at hcall
        have HQ := Lib.hid (of_decide_eq_true hq)
        clear hq
        go_wp2_with (go_at_call 67; refine hcall.mono ?_; rintro e w' ⟨rfl, hb'⟩)
        go_ret
        refine ⟨⟨_, rfl, ?_⟩, BW.out.comp hb'⟩
        rw [used_hit HX.out HQ.out]
        exact decide_eq_true (by omega)
      | false =>
        rw [hq] at hcall
        have HQ := Lib.hid (of_decide_eq_false hq)
        clear hq
        go_wp2_with (go_at_call 67; refine hcall.mono ?_; rintro e w' ⟨rfl, hb'⟩)
        go_roundg (n - (kk + 1))
        case measure => omega
        case rel =>
          refine ⟨kk + 1, by omega, by omega, by go_num, BW.out.comp hb', (show Aside _ from fun j y hj hy => ?_)⟩
          by_cases e : j = kk
          · subst e
            rw [HX.out] at hy
            rw [← Option.some.inj hy]
            exact HQ.out
          · exact AA.out j y (by omega) hy
    · have hltz : ¬ (kk : Int) < (n : Int) := by omega
      go_wp2
      go_ret
      refine ⟨⟨_, rfl, ?_⟩, BW.out⟩
      rw [used_miss (fun j x hx => AA.out j x (by
        have := HN.out
        rcases Nat.lt_or_ge j cs.length with h | h
        · omega
        · rw [List.getElem?_eq_none h] at hx; cases hx) hx)]
      rfl
set_option maxHeartbeats 1000000 in
theorem lb_findC (i b0 : Nat) (a : Option Addr) (n c : Nat) (cat : List En) (cs : List Cl) (A : Nat → Option Addr) (C : Nat → Nat) (w : World) (h : w.cell? ⟨b0, 0, none⟩ = some (.int .i64 (i : Int))) (hb0 : b0 < w.heap.size)
    (hn : cs.length = n) (hbig : n ≤ 9223372036854775807) (hI : DlAt w a cat cs A C) :
    Calls Try.prog 66 #[.slice a n c, .func (.func 67) #[] #[.pointer (some ⟨b0, 0, none⟩)]] w fun e w' => (∃ r : Int, e = .returned (.tuple #[.int .i64 r, .bool (usedB cat cs i)])) ∧ Ext w w' := by
  have hi := lb_indexC i b0 a n c cat cs A C w h hb0 hn hbig hI
  generalize usedB cat cs i = u at *
  clear h hb0 hn hbig hI
  go_enter Try.func66, Try.ntmps66
  go_wp2_with (go_at_call 115; refine hi.mono ?_; rintro e w' ⟨⟨r, rfl, hr⟩, hb'⟩)
  go_ret2
  exact ⟨⟨r, by rw [← hr]; rfl⟩, hb'⟩
end Go.Proofs.Ytcijneecjkpebaa
