import Derived.Test.YtcijneecjkpebaaU19
set_option linter.unusedVariables false
set_option linter.unusedSimpArgs false
/- Layer 8: Build, where the calls can be made. -/
namespace Go.Q
/-- the library's own numbers as keys -/
abbrev K9 := Fin 9
end Go.Q
namespace Go.Proofs.Ytcijneecjkpebaa
open Go.RowKit Go.Q Go.Maps
def encN (x : K9) : Value := .int .i64 (x.1 : Int)
theorem keyN : KeyEnc Try.prog 3 encN :=
  ⟨int_keyed Try.underlying3, fun x => ⟨_, keyOf_int_mk Try.underlying3 (WalkArith.wf_i64 (by have := x.2; omega))⟩, fun x y h => by
    unfold encN at h
    injection h with _ h
    exact Fin.ext (by omega)⟩
/-- the bases of the entries ahead of i that are called -/
def baseF (cat : List En) (cs : List Cl) (e : Int) (i : Nat) (x : K9) : Option Value := if x.1 < i ∧ usedB cat cs x.1 = true then some (.int .i64 (baseN cat cs e x.1)) else none
theorem baseF_zero (cat : List En) (cs : List Cl) (e : Int) : baseF cat cs e 0 = fun _ => none := by
  funext x
  unfold baseF
  rw [if_neg (fun h => absurd h.1 (by omega))]
theorem baseF_used {cat : List En} {cs : List Cl} {e : Int} {i : Nat} (h9 : i < 9) (h : usedB cat cs i = true) (x : K9) : putF (baseF cat cs e i) ⟨i, h9⟩ (.int .i64 (baseN cat cs e i)) x = baseF cat cs e (i + 1) x := by
  unfold putF baseF
  by_cases he : x = ⟨i, h9⟩
  · subst he
    rw [if_pos rfl, if_pos ⟨Nat.lt_succ_self _, h⟩]
  · rw [if_neg he]
    have hne : x.1 ≠ i := fun e => he (Fin.ext e)
    by_cases hx : x.1 < i ∧ usedB cat cs x.1 = true
    · rw [if_pos hx, if_pos ⟨by omega, hx.2⟩]
    · rw [if_neg hx, if_neg (fun q => hx ⟨by omega, q.2⟩)]
theorem baseF_not {cat : List En} {cs : List Cl} {e : Int} {i : Nat} (h : usedB cat cs i = false) : baseF cat cs e (i + 1) = baseF cat cs e i := by
  funext x
  unfold baseF
  by_cases hx : x.1 < i ∧ usedB cat cs x.1 = true
  · rw [if_pos hx, if_pos ⟨by omega, hx.2⟩]
  · rw [if_neg hx, if_neg (fun q => ?_)]
    rcases Nat.eq_or_lt_of_le (show x.1 ≤ i by omega) with he | he
    · rw [he, h] at q; exact absurd q.2 (by decide)
    · exact hx ⟨he, q.2⟩
theorem ClAt.ints {w : World} {a : Option Addr} {cs : List Cl} {A : Nat → Option Addr} {C : Nat → Nat} (h : ClAt w a cs A C) {i : Nat} {x : Cl} (hx : cs[i]? = some x) : IntsAt w (A i) x.args := by
  rcases h with rfl | ⟨b, off, ha, hb, hc⟩
  · simp at hx
  · exact (hc i x hx).2
theorem argN_len (at_ first base : Int) (xs ys : List Int) (k : Nat) : (argN at_ first base xs ys k).length = k := by simp [argN]
theorem argN_succ {at_ first base : Int} {xs ys : List Int} {k : Nat} {x y : Int} (hx : xs[k]? = some x) (hy : ys[k]? = some y) : argN at_ first base xs ys (k + 1) = argN at_ first base xs ys k ++ [Q.written ⟨1, first + x, base + y, at_ + k + 1⟩] := by
  unfold argN
  rw [List.range_succ, List.map_append, List.map_cons, List.map_nil, hx, hy]
  rfl
theorem made_int (W : World) (n : Nat) (hn : n ≤ 2600) : (Instr.makeSlice 22 (.int .i64 n) (.int .i64 n)).run Try.prog W = .ok (.slice (some ⟨W.heap.size, 0, none⟩) n n) (W.alloc (.cells (iv (List.replicate n 0)).toArray 3)) := by
  obtain ⟨i0, hi, hz0, hz1, hz2⟩ := info_parts Try.infoE
  have := run_makeSlice (P := Try.prog) W 22 3 i0 (.int .i64 0) Try.underlying22 hi hz0 .i64 .i64 n n (by omega) (by omega) (by rw [hz1]; omega) (by rw [hz2]; omega) (by omega)
  rw [hz1] at this
  rw [this]
  have e : madeCells (Value.int .i64 0).cells (((n : Int)).toNat * 1) = (iv (List.replicate n 0)).toArray := by
    rw [Int.toNat_natCast, Nat.mul_one, show (Value.int .i64 0).cells = #[.int .i64 0] from rfl]
    apply Array.ext
    · simp [madeCells, iv]
    · intro i h1 h2
      simp [madeCells, Nat.mod_one, iv]
  rw [e, Int.toNat_natCast]
theorem ints_new {w W : World} {zs : List Int} {t : TypeId} (E : Ext (w.alloc (.cells (iv zs).toArray t)) W) : IntsAt W (some ⟨w.heap.size, 0, none⟩) zs := by
  have hb := Blk.of E
  refine .inr ⟨_, _, rfl, hb.lt, fun i hi => ?_⟩
  rw [Nat.zero_add]
  exact hb.c i (by simpa using iv_get zs i hi)
theorem lb_concat5 (b : Nat) (a0 a1 a2 a3 a4 : Option Addr) (c0 c1 c2 c3 c4 : Nat) (l0 l1 l2 l3 l4 : List Int) (W : World) (T : TypeId) (hb : Blk W b #[.slice a0 l0.length c0, .slice a1 l1.length c1, .slice a2 l2.length c2, .slice a3 l3.length c3, .slice a4 l4.length c4] T)
    (i0 : IntsAt W a0 l0) (i1 : IntsAt W a1 l1) (i2 : IntsAt W a2 l2) (i3 : IntsAt W a3 l3) (i4 : IntsAt W a4 l4) (h0 : 0 < l1.length) (h1 : (l0 ++ l1 ++ l2 ++ l3 ++ l4).length ≤ 1000) :
    Calls Try.prog 70 #[.slice (some ⟨b, 0, none⟩) 5 5] W fun e w' => ∃ a c', e = .returned (.slice a (l0 ++ l1 ++ l2 ++ l3 ++ l4).length c') ∧ w'.ownsRow W.heap.size 3 1 (.slice a (l0 ++ l1 ++ l2 ++ l3 ++ l4).length c') (l0 ++ l1 ++ l2 ++ l3 ++ l4).length (iv (l0 ++ l1 ++ l2 ++ l3 ++ l4)) ∧ Ext W w' := by
  have hf : [l0, l1, l2, l3, l4].flatten = l0 ++ l1 ++ l2 ++ l3 ++ l4 := by simp [List.append_assoc]
  have h := lb_concat b 5 5 (fun j => [a0, a1, a2, a3, a4][j]?.getD none) (fun j => [c0, c1, c2, c3, c4][j]?.getD 0) [l0, l1, l2, l3, l4] W rfl (by decide) hb.lt (fun j xs hx => by
    have hj : j < 5 := by
      rcases Nat.lt_or_ge j 5 with h | h
      · exact h
      · rw [List.getElem?_eq_none (by exact h)] at hx; cases hx
    rcases (show j = 0 ∨ j = 1 ∨ j = 2 ∨ j = 3 ∨ j = 4 by omega) with rfl | rfl | rfl | rfl | rfl <;> cases hx
    · exact ⟨hb.c 0 rfl, i0⟩
    · exact ⟨hb.c 1 rfl, i1⟩
    · exact ⟨hb.c 2 rfl, i2⟩
    · exact ⟨hb.c 3 rfl, i3⟩
    · exact ⟨hb.c 4 rfl, i4⟩) (by rw [hf]; simp only [List.length_append]; omega) (by rw [hf]; exact h1)
  rw [hf] at h
  exact h
/-- a builder's zero -/
def zbc : Array Value := #[.slice none 0 0, .slice none 0 0, .int .i64 0, .int .i64 0, .int .i64 0, .slice none 0 0, .map none]
theorem bdn_start {W : World} {B b : Nat} (h : Blk W b zbc 91) : Bdn W B b [] [] (.slice none 0 0) (.slice none 0 0) :=
  ⟨h, World.ownsRow_nil _ _ _ _, World.ownsRow_nil _ _ _ _, World.ownsRow_nil _ _ _ _, by simp [Value.ownBlock], by simp [Value.ownBlock], by simp [Value.ownBlock], .inl rfl, .inl rfl, .inl rfl⟩
theorem two_start {W : World} {b : Nat} (h1 : Blk W b zbc 91) (h2 : Blk W (b + 1) zbc 91) : TwoAt W b (fun q => q = b + 1 + 1) b (b + 1) [] [] := by
  have hN : ∀ c k, BdN c (.slice none 0 0) (.slice none 0 0) k → k = c := fun c k hk => by
    rcases hk with h | h | h | h
    · exact h
    · cases h
    · cases h
    · cases h
  refine ⟨_, _, _, _, [], [], bdn_start h1, bdn_start h2, rfl, rfl, fun k hk => ?_, fun k hk => ?_⟩
  · have := hN _ _ hk
    refine ⟨by omega, by omega, fun h => ?_⟩
    have := hN _ _ h
    omega
  · have := hN _ _ hk
    exact ⟨by omega, by omega⟩
theorem inN_succ (first : Int) (i : Nat) : inN first (i + 1) = inN first i ++ [Q.written ⟨6, 0, first + i, i + 1⟩] := by
  unfold inN
  rw [List.range_succ, List.map_append]
  rfl
theorem inN_len (first : Int) (i : Nat) : (inN first i).length = i := by simp [inN]
theorem regsN_max (inputs : Int) {cs : List Cl} {j : Nat} {c : Cl} (h : cs[j]? = some c) : regsN inputs cs (j + 1) = max (regsN inputs cs j) (c.dst + 1) := by
  rw [regsN, h]
  dsimp only
  split <;> omega
section
variable {w : World} {a : Option Addr} {n c : Nat} {cat : List En} {L : Nat → Lo} {a2 : Option Addr} {k c2 : Nat} {cs : List Cl} {A : Nat → Option Addr} {C : Nat → Nat}
set_option maxRecDepth 100000 in
set_option maxHeartbeats 8000000 in
theorem bld_good (m : Nat) (H : BIn w a n c cat L a2 k c2 cs A C) (hG : BdCk cat (m : Int) cs) :
    Calls Try.prog 26 #[.slice a n c, .int .i64 (m : Int), .slice a2 k c2] w (BldRes (buildE cat (m : Int) cs) w) := by
  have hs := fun W (E : Ext w W) => lb_sound a n c cat L W H.hn H.hcap H.hbig (H.hcat.ext E) H.hbd
  rw [hG.snd] at hs
  have ho := fun W => lb_out (m : Int) 0 6 W
  have hm6 : m ≤ 6 := by have := hG.inp; omega
  rw [show inB (m : Int) 0 6 = true by unfold inB; simp; omega] at ho
  have hk5 : k ≤ 5 := by have := H.hk; have := hG.len; omega
  have hk5z : ¬ (5 : Int) < (k : Int) := by omega
  have hc := fun W (E : Ext w W) => lb_callable a n c cat L m a2 k c2 cs A C W H.hn H.hcap H.hbig (H.hcat.ext E) H.hbd (by omega) H.hk hk5 (H.hcs.ext E) H.hargs
  rw [hG.calls] at hc
  have HG := Lib.hid hG
  have HH := Lib.hid H
  have HK := Lib.hid H.hk
  have HN := Lib.hid H.hn
  have hn6 : n ≤ 6 := by have := H.hn; have := hG.cat6; omega
  obtain ⟨R, hR⟩ : ∃ R, R = buildE cat (m : Int) cs := ⟨_, rfl⟩
  rw [← hR]
  have HR := Lib.hid hR
  clear H hG hR
  go_enter Try.func26, Try.ntmps26
  go_upto_region 1 with fail
  have hb := Blk.nw w #[.slice none 0 0, .int .i64 0, .int .i64 0] 42
  have E0 : Ext w (w.alloc (.cells #[.slice none 0 0, .int .i64 0, .int .i64 0] 42)) := (Ext.refl w).alloc _
  generalize w.alloc (.cells #[.slice none 0 0, .int .i64 0, .int .i64 0] 42) = X at hb E0 ⊢
  go_wp2_with fail
  refine (hs _ E0).mono ?_
  rintro e w1 ⟨rfl, E1⟩
  have hb1 := hb.ex E1
  have HB := Lib.hid hb1
  have HE := Lib.hid (E0.comp E1)
  clear hb hb1 hs E0 E1
  go_wp2_with fail
  refine (ho _).mono ?_
  rintro e w2 ⟨rfl, rfl⟩
  go_wp2_with fail
  refine (hc _ HE.out).mono ?_
  rintro e w3 ⟨v8, rfl, hv8, E3⟩
  have hv := hv8 rfl
  obtain ⟨a3, c3, rfl⟩ := own_slice hv
  rw [HK.out] at hv ⊢
  have hb2 := HB.out.ex E3
  have q0 := Blk.c hb2 0 (v := .slice none 0 0) rfl
  have q1 := Blk.c hb2 1 (v := .int .i64 0) rfl
  have q2 := Blk.c hb2 2 (v := .int .i64 0) rfl
  have f0 := Blk.f hb2 0
  have f1 := Blk.f hb2 1
  have f2 := Blk.f hb2 2
  have hl2 := hb2.lt
  have HE3 := Lib.hid (HE.out.comp E3)
  have HB3 := Lib.hid hb2
  have HROW := Lib.hid hv
  have hw1 := HB.out.lt
  have hm1 : (m : Int) + 1 ≤ 7 := by omega
  clear hv8 hv hb2 hc E3 ho HB HE
  go_upto_region 12 with fail
  obtain ⟨bp, hbp⟩ : ∃ bp, w.heap.size = bp := ⟨_, rfl⟩
  have HBP := Lib.hid hbp
  have HB3 := Lib.hid (show Blk w3 bp #[.slice none 0 0, .int .i64 0, .int .i64 0] 42 by rw [← hbp]; exact HB3.out)
  rw [hbp] at hl2 ⊢
  have hb4 : Blk (w3.setCell ⟨bp, 2, none⟩ (.int .i64 ((m : Int) + 1))) bp #[.slice none 0 0, .int .i64 0, .int .i64 (ordsN (m : Int) cs 0)] 42 := by simpa [ordsN] using HB3.out.st 2 (.int .i64 ((m : Int) + 1))
  have K4 : KpM (fun q => q = bp) w3 (w3.setCell ⟨bp, 2, none⟩ (.int .i64 ((m : Int) + 1))) := KpM.set (M := fun q => q = bp) (p := ⟨bp, 2, none⟩) rfl _
  obtain ⟨w4, hw4⟩ : ∃ w4, w3.setCell ⟨bp, 2, none⟩ (.int .i64 ((m : Int) + 1)) = w4 := ⟨_, rfl⟩
  rw [hw4] at hb4 K4 ⊢
  have HB4 := Lib.hid hb4
  have HK4 := Lib.hid K4
  have HW1 := Lib.hid hw1
  clear hw4 hb4 K4 f0 f1 f2 hl2 hbp hw1
  have hR0 : (m : Int) = regsN (m : Int) cs 0 := by rw [regsN]
  have HR0 := Lib.hid hR0
  clear hR0
  go_wp2_with fail
  go_loopw [9, 62] (fun s9 s62 wr => ∃ j : Nat, j ≤ k ∧ s62 = .int .i64 (j : Int) ∧ s9 = .int .i64 (regsN (m : Int) cs j) ∧ Aside (Blk wr bp #[.slice none 0 0, .int .i64 0, .int .i64 (ordsN (m : Int) cs j)] 42) ∧ Aside (KpM (fun q => q = bp) w3 wr)) (fun _ s _ => k - (intOf s).toNat)
  case atStart => exact ⟨0, Nat.zero_le _, rfl, by rw [← HR0.out], HB4.out, HK4.out⟩
  case round =>
    obtain ⟨j, hj, rfl, rfl, hB, hKp⟩ := hrel
    have hrow := own_kpm HROW.out hKp.out (fun q hq e => by
      have h1 := (HROW.out.lt q hq).1
      have h2 := HW1.out
      have h3 := HBP.out
      omega)
    have hor := HG.out.ords j (by rw [HK.out]; exact hj)
    have hrg := HG.out.regs j (by rw [HK.out]; exact hj)
    by_cases hlt : j < k
    · have hltz : (j : Int) < (k : Int) := by omega
      obtain ⟨x, hx⟩ : ∃ x, cs[j]? = some x := ⟨_, List.getElem?_eq_getElem (by rw [HK.out]; exact hlt)⟩
      have hd := dl_of (by rw [← HK.out] at hrow; exact hrow)
      obtain ⟨g, rfl, hgl, hcx⟩ : ∃ g, a3 = some ⟨g, 0, none⟩ ∧ g < wr.heap.size ∧ ∀ j x, cs[j]? = some x → ∀ t v, (dcs x (A j) (C j) (entN cat x))[t]? = some v → wr.cell? ⟨g, j * 4 + t, none⟩ = some v := by
        rcases hd with h | h
        · have := HK.out; rw [h] at this; simp at this; omega
        · exact h
      have hcj := fun t v hv => hcx j x hx t v hv
      have q0 := hcj 0 (.string x.name) rfl
      have q1 := hcj 1 (.slice (A j) x.args.length (C j)) rfl
      have q2 := hcj 2 (.int .i64 x.dst) rfl
      have q3 := hcj 3 (.int .i64 (entN cat x : Int)) rfl
      rw [Nat.add_zero] at q0
      have hal := HG.out.args hx
      have hdst := (HG.out.good hx).dst
      have hor2 : ordsN (m : Int) cs (j + 1) = ordsN (m : Int) cs j + (x.args.length + 3) := by rw [ordsN, hx]
      have hrg2 := regsN_max (m : Int) hx
      have HO2 := Lib.hid hor2
      have HR2 := Lib.hid hrg2
      clear hcj hcx hx hd hrow hor2 hrg2
      obtain ⟨nm, hnm⟩ : ∃ nm, x.name = nm := ⟨_, rfl⟩
      obtain ⟨ln, hln⟩ : ∃ ln, x.args.length = ln := ⟨_, rfl⟩
      obtain ⟨ds, hds⟩ : ∃ ds, x.dst = ds := ⟨_, rfl⟩
      obtain ⟨en, hen⟩ : ∃ en, entN cat x = en := ⟨_, rfl⟩
      obtain ⟨o, ho⟩ : ∃ o, ordsN (m : Int) cs j = o := ⟨_, rfl⟩
      obtain ⟨r, hr⟩ : ∃ r, regsN (m : Int) cs j = r := ⟨_, rfl⟩
      rw [hnm] at q0
      rw [hln] at q1 hal HO2
      rw [hds] at q2 hdst HR2
      rw [hen] at q3
      rw [ho] at hor HO2 hB
      rw [hr] at hrg HR2 ⊢
      clear hnm hln hds hen ho hr
      have hb := hB.out
      have HKP := Lib.hid hKp.out
      have hbl := hb.lt
      have HBr := Lib.hid hb
      have hsz := hb.lt
      clear hB hKp hb
      go_upto_region 16 with fail
      obtain ⟨X1, hX1⟩ : ∃ X1, wr.alloc (.cells #[.string nm, .slice (A j) ln (C j), .int .i64 ds, .int .i64 (en : Int)] 115) = X1 := ⟨_, rfl⟩
      have hbx : Blk X1 wr.heap.size #[.string nm, .slice (A j) ln (C j), .int .i64 ds, .int .i64 (en : Int)] 115 := by rw [← hX1]; exact Blk.nw _ _ _
      have E1 : Ext wr X1 := by rw [← hX1]; exact (Ext.refl wr).alloc _
      rw [hX1]
      clear hX1 q0 q1 q2 q3
      obtain ⟨bx, hbxe⟩ : ∃ bx, wr.heap.size = bx := ⟨_, rfl⟩
      rw [hbxe] at hbx hbl ⊢
      have hbr := HBr.out.ex E1
      have q0 := Blk.c hbr 0 (v := .slice none 0 0) rfl
      have q1 := Blk.c hbr 1 (v := .int .i64 0) rfl
      have q2 := Blk.c hbr 2 (v := .int .i64 o) rfl
      have t0 := Blk.c hbx 0 (v := .string nm) rfl
      have t1 := Blk.c hbx 1 (v := .slice (A j) ln (C j)) rfl
      have t2 := Blk.c hbx 2 (v := .int .i64 ds) rfl
      have t3 := Blk.c hbx 3 (v := .int .i64 (en : Int)) rfl
      have f2 := hbr.f 2
      have hl1 := hbr.lt
      have hl2 := hbx.lt
      have hne : bx ≠ bp := by omega
      have hne2 : bp ≠ bx := by omega
      have hb5 := hbr.st 2 (.int .i64 (o + ((ln : Int) + 3)))
      have HB5 := Lib.hid hb5
      have HK5 := Lib.hid ((HKP.out.trans (KpM.of_ext E1)).trans (KpM.set (M := fun q => q = bp) (p := ⟨bp, 2, none⟩) rfl (.int .i64 (o + ((ln : Int) + 3)))))
      have hx5 := hbx.ot (m := bp) (i := 2) (v := .int .i64 (o + ((ln : Int) + 3))) hne
      have HX5 := Lib.hid hx5
      clear hb5 hx5 hbr hbx E1 hbxe
      go_upto_region 17 with fail
      obtain ⟨X5, hX5⟩ : ∃ X5, X1.setCell ⟨bp, 2, none⟩ (.int .i64 (o + ((ln : Int) + 3))) = X5 := ⟨_, rfl⟩
      have hx5 := HX5.out
      have hb5 := HB5.out
      have hk5' := HK5.out
      rw [hX5] at hx5 hb5 hk5' ⊢
      have HB6 := Lib.hid hb5
      have HK6 := Lib.hid hk5'
      have z0 := Blk.c hx5 0 (v := .string nm) rfl
      have z1 := Blk.c hx5 1 (v := .slice (A j) ln (C j)) rfl
      have z2 := Blk.c hx5 2 (v := .int .i64 ds) rfl
      have z3 := Blk.c hx5 3 (v := .int .i64 (en : Int)) rfl
      have hl5 := hx5.lt
      clear hX5 hx5 hb5 hk5' q0 q1 q2 t0 t1 t2 t3 f2 HB5 HK5 HX5 hl1 hl2
      go_wp2_with fail
      go_roundw
      case rel => exact ⟨j + 1, by omega, by go_num, by rw [HR2.out]; exact congrArg _ (by split <;> omega), (show Blk _ _ _ _ by rw [HO2.out]; simpa using HB6.out), HK6.out⟩
      case measure => simp [intOf]; omega
    · have hltz : ¬ (j : Int) < (k : Int) := by omega
      obtain rfl : j = k := by omega
      obtain ⟨w5, rfl⟩ : ∃ w5 : World, w5 = wr := ⟨_, rfl⟩
      have hO : ordsN (m : Int) cs j = ordsE (m : Int) cs := by unfold ordsE; rw [HK.out]
      have hRg : regsN (m : Int) cs j = regsE (m : Int) cs := by unfold regsE; rw [HK.out]
      rw [hO] at hB hor
      rw [hRg] at hrg ⊢
      obtain ⟨o, ho⟩ : ∃ o, ordsE (m : Int) cs = o := ⟨_, rfl⟩
      obtain ⟨rg, hrg'⟩ : ∃ rg, regsE (m : Int) cs = rg := ⟨_, rfl⟩
      rw [ho] at hB hor
      rw [hrg'] at hrg ⊢
      have HO := Lib.hid ho
      have HRG := Lib.hid hrg'
      have hb5 := hB.out
      have E5 : Ext w w5 := hKp.out.below HE3.out (Nat.le_refl _) fun q hq => by have := HBP.out; omega
      have HE5 := Lib.hid E5
      have HB5 := Lib.hid hb5
      have HROW5 := Lib.hid hrow
      have q2 := hb5.c 2 (v := .int .i64 o) rfl
      have hl5 := hb5.lt
      clear hB hKp HB3 HB4 HK4 HROW hO hRg ho hrg' hb5 E5 hrow HE3
      have hmm := @run_makeMap Try.prog
      go_upto_region 22 with fail
      clear hmm
      obtain ⟨mb, hmb⟩ : ∃ mb, w5.heap.size = mb := ⟨_, rfl⟩
      have hm0 := MapF.made (enc := encN) w5
      rw [← baseF_zero cat cs (endE (m : Int) cs)] at hm0
      obtain ⟨X6, hX6⟩ : ∃ X6, w5.alloc (.map #[] 0) = X6 := ⟨_, rfl⟩
      have E6 : Ext w5 X6 := by rw [← hX6]; exact (Ext.refl w5).alloc _
      have hs6 : mb < X6.heap.size := by rw [← hX6, World.size_alloc]; omega
      rw [hX6, hmb] at hm0 ⊢
      have HM6 := Lib.hid hm0
      have HMB := Lib.hid hmb
      have HE6 := Lib.hid E6
      have hep : endE (m : Int) cs = o + (j : Int) + rg := by unfold endE firstE; rw [HO.out, HRG.out, HK.out]
      have HEP := Lib.hid hep
      obtain ⟨e0, he0⟩ : ∃ e0, endE (m : Int) cs = e0 := ⟨_, rfl⟩
      rw [he0] at hep
      rw [← hep]
      have HE0 := Lib.hid he0
      have hm7 := mb
      clear hX6 hm0 hmb E6 q2 he0
      obtain ⟨fi, hfi⟩ : ∃ fi, o + (j : Int) = fi := ⟨_, rfl⟩
      rw [hfi] at hep ⊢
      have HFI := Lib.hid hfi
      have he0b : 0 ≤ e0 ∧ e0 ≤ 60 := by omega
      clear hm7 hep hfi
      go_wp2_with fail
      go_loopw [13, 15, 93] (fun s13 s15 s93 wr => ∃ i : Nat, i ≤ n ∧ s93 = .int .i64 (i : Int) ∧ s13 = .int .i64 (baseN cat cs e0 i) ∧ Aside (wr.ownsRow (mb + 1) 3 1 s15 (routN cat cs e0 i).length (iv (routN cat cs e0 i))) ∧ Aside (MapF encN wr mb (baseF cat cs e0 i)) ∧ Aside (Ext w5 wr)) (fun _ _ s _ => n - (intOf s).toNat)
      case atStart => exact ⟨0, Nat.zero_le _, rfl, by rw [baseN], World.ownsRow_nil _ _ _ _, (show MapF _ _ _ _ by rw [← HE0.out]; exact HM6.out), HE6.out⟩
      case round =>
        obtain ⟨i, hi, rfl, rfl, hO, hM, hX⟩ := hrel
        have hbb := HG.out.base (e := e0) (by omega) i (by rw [HN.out]; exact hi)
        by_cases hlt2 : i < n
        · have hltz2 : (i : Int) < (n : Int) := by omega
          obtain ⟨x, hx⟩ : ∃ x, cat[i]? = some x := ⟨_, List.getElem?_eq_getElem (by rw [HN.out]; exact hlt2)⟩
          have hent : entX cat i = x := by unfold entX; rw [hx]; rfl
          have hck := (sound_get HG.out.snd hx).code
          have hwl := HG.out.words hx
          obtain ⟨b1, o1, ha1, hb1, hc1, hr1⟩ := HH.out.hcat.at_ hx
          have EW : Ext w wr := HE5.out.comp hX.out
          have hcx := fun t v hv => hc1 wr EW t v hv
          have q0 := hcx 0 (.string x.name) rfl
          have q1 := hcx 1 (.int .i64 x.ver) rfl
          have q2 := hcx 2 (.slice (L i).a1 x.code.words.length (L i).c1) rfl
          have q3 := hcx 3 (.slice (L i).a2 x.code.masks.length (L i).c2) rfl
          have q4 := hcx 4 (.int .i64 x.code.entry) rfl
          have q5 := hcx 5 (.int .i64 x.code.exit) rfl
          have q6 := hcx 6 (.int .i64 x.code.result) rfl
          have q7 := hcx 7 (.slice (L i).a3 x.code.args.length (L i).c3) rfl
          rw [Nat.add_zero] at q0
          have hb1r : b1 < wr.heap.size := Nat.lt_of_lt_of_le hb1 EW.size
          have hdl := (dl_of (by have := HROW5.out; rw [← HK.out] at this; exact this) : DlAt w5 a3 cat cs A C).ext hX.out
          have HDL := Lib.hid hdl
          have HRT := Lib.hid hr1
          have HENT := Lib.hid hent
          have HO2 := Lib.hid hO.out
          have HM2 := Lib.hid hM.out
          have HX2 := Lib.hid hX.out
          have HCK := Lib.hid hck
          clear hO hM hX hcx hc1 hr1 hx hent hdl hck EW
          subst ha1
          go_upto_region 26 with fail
          obtain ⟨X7, hX7⟩ : ∃ X7, (wr.alloc (.cells #[.int .i64 (i : Int)] 3)).alloc (.cells #[.string x.name, .int .i64 x.ver, .slice (L i).a1 x.code.words.length (L i).c1, .slice (L i).a2 x.code.masks.length (L i).c2, .int .i64 x.code.entry, .int .i64 x.code.exit, .int .i64 x.code.result, .slice (L i).a3 x.code.args.length (L i).c3] 63) = X7 := ⟨_, rfl⟩
          have E7 : Ext wr X7 := by rw [← hX7]; exact (by repeat (first | with_reducible exact Ext.refl _ | with_reducible refine Ext.alloc ?_ _ | with_reducible refine Below.drew ?_))
          have hbi : Blk X7 wr.heap.size #[.int .i64 (i : Int)] 3 := by rw [← hX7]; exact (Blk.nw _ _ _).al _
          have hbx : Blk X7 (wr.heap.size + 1) #[.string x.name, .int .i64 x.ver, .slice (L i).a1 x.code.words.length (L i).c1, .slice (L i).a2 x.code.masks.length (L i).c2, .int .i64 x.code.entry, .int .i64 x.code.exit, .int .i64 x.code.result, .slice (L i).a3 x.code.args.length (L i).c3] 63 := by
            rw [← hX7]
            have := Blk.nw (wr.alloc (.cells #[.int .i64 (i : Int)] 3)) #[.string x.name, .int .i64 x.ver, .slice (L i).a1 x.code.words.length (L i).c1, .slice (L i).a2 x.code.masks.length (L i).c2, .int .i64 x.code.entry, .int .i64 x.code.exit, .int .i64 x.code.result, .slice (L i).a3 x.code.args.length (L i).c3] 63
            rw [World.size_alloc] at this
            exact this
          rw [hX7]
          clear hX7 q0 q1 q2 q3 q4 q5 q6 q7 hb1r
          have hmbr : mb < wr.heap.size := HM2.out.lt
          obtain ⟨bi, hbie⟩ : ∃ bi, wr.heap.size = bi := ⟨_, rfl⟩
          rw [hbie] at hbi hbx hmbr ⊢
          have hfd := lb_findC i bi a3 j c3 cat cs A C X7 (hbi.c 0 rfl) hbi.lt HK.out (by omega) (HDL.out.ext E7)
          have HE7 := Lib.hid E7
          have HBI := Lib.hid hbi
          have HBX := Lib.hid hbx
          have HNI := Lib.hid hbie
          clear E7 hbi hbx hbie
          have hbsb := HG.out.base (e := e0) (by omega) (i + 1) (by rw [HN.out]; exact hlt2)
          have hbn2 : baseN cat cs e0 (i + 1) = if usedB cat cs i = true then baseN cat cs e0 i + x.code.words.length else baseN cat cs e0 i := by rw [baseN, HENT.out]
          have hrn2 : routN cat cs e0 (i + 1) = if usedB cat cs i = true then routN cat cs e0 i ++ placeL x.code ((baseN cat cs e0 i) % 128) else routN cat cs e0 i := by rw [routN, HENT.out]
          have HBN2 := Lib.hid hbn2
          have HRN2 := Lib.hid hrn2
          have HBSB := Lib.hid hbsb
          have h9 : i < 9 := by omega
          have HF1 := Lib.hid (baseF_used (cat := cat) (cs := cs) (e := e0) h9)
          have HF2 := Lib.hid (baseF_not (cat := cat) (cs := cs) (e := e0) (i := i))
          obtain ⟨bs, hbs⟩ : ∃ bs, baseN cat cs e0 i = bs := ⟨_, rfl⟩
          obtain ⟨rl, hrl⟩ : ∃ rl, routN cat cs e0 i = rl := ⟨_, rfl⟩
          rw [hbs] at hbb HBN2 HRN2 HF1 ⊢
          rw [hrl] at hbb HRN2 HO2
          clear hbn2 hrn2 hbsb hbs hrl
          cases hu : usedB cat cs i with
          | false =>
            rw [hu] at hfd HBN2 HRN2
            have HF3 := Lib.hid (HF2.out hu)
            clear hu HF1 HF2
            go_wp2_with fail
            refine hfd.mono ?_
            rintro e w8 ⟨⟨r, rfl⟩, E8⟩
            have E8r := HE7.out.comp E8
            have HE8 := Lib.hid E8r
            clear hfd E8 E8r
            go_wp2_with fail
            go_roundw
            case rel => exact ⟨i + 1, by omega, by go_num, by rw [HBN2.out]; rfl, (show World.ownsRow _ _ _ _ _ _ _ by rw [HRN2.out]; exact own_extX HO2.out HE8.out), (show MapF _ _ _ _ by rw [HF3.out]; exact HM2.out.ext HE8.out), HX2.out.comp HE8.out⟩
            case measure => simp [intOf]; omega
          | true =>
            rw [hu] at hfd HBN2 HRN2
            have HF3 := Lib.hid (HF1.out hu)
            clear hu HF1 HF2
            have hbn3 : baseN cat cs e0 (i + 1) = bs + x.code.words.length := by rw [HBN2.out, if_pos rfl]
            have hrn3 : routN cat cs e0 (i + 1) = rl ++ placeL x.code (bs % 128) := by rw [HRN2.out, if_pos rfl]
            have hpl : (placeL x.code (bs % 128)).length = x.code.words.length := placeN_length _ _ _ _
            have HBN3 := Lib.hid hbn3
            have HRN3 := Lib.hid hrn3
            have HPL := Lib.hid hpl
            have hmod : 0 ≤ bs % 128 ∧ bs % 128 ≤ 127 := by omega
            have hplace := fun W (E : Ext w W) => lb_place x.code (L i) (bs % 128) W (HRT.out.ext E) HCK.out hmod
            have hnb : ∀ q, u15.ownBlock = some q → mb + 1 ≤ q ∧ q < wr.heap.size := fun q hq => HO2.out.lt q hq
            have HNB := Lib.hid hnb
            obtain ⟨i0, hi0, hz0, hz1, hz2⟩ := info_parts Try.infoE
            clear hbn3 hrn3 hpl HBN2 HRN2 hnb
            go_wp2_with fail
            refine hfd.mono ?_
            rintro e w8 ⟨⟨r, rfl⟩, E8⟩
            have hm8 := HM2.out.ext (HE7.out.comp E8)
            have hbi8 := HBI.out.ex E8
            have hc8 := hbi8.c 0 (v := .int .i64 (i : Int)) rfl
            have hl8 := hbi8.lt
            have hx8 := HBX.out.ex E8
            have HX8 := Lib.hid hx8
            have HE8 := Lib.hid (HE7.out.comp E8)
            have hbxs := hx8.lt
            clear hfd E8 hbi8 hx8
            go_wp2_with (at_mapUpdate; refine wpList_putF _ rfl _ _ _ 116 rfl 3 keyN Try.underlying116 mb rfl hm8 (⟨i, h9⟩ : K9) (.int .i64 bs) rfl rfl ?_; intro w9 hm9 hg9 hs9; have hx9 : Blk w9 (bi + 1) _ _ := (hg9.block _ hbxs (fun e => by injection e; omega)).trans HX8.out; have t2 := hx9.c 2 rfl; have t3 := hx9.c 3 rfl; have t4 := hx9.c 4 rfl; have t5 := hx9.c 5 rfl; have t6 := hx9.c 6 rfl; have t7 := hx9.c 7 rfl; have hl9 := hx9.lt; have HX9 := Lib.hid hx9; have HM9 := Lib.hid hm9; have HG9 := Lib.hid hg9; clear hx9 hm9 hg9 hm8 hc8)
            have E9 : Ext w5 w9 := own_kp (HX2.out.comp HE8.out) HG9.out (fun q hq => by injection hq with hq; have := HMB.out; omega)
            refine (hplace w9 (HE5.out.comp E9)).mono ?_
            rintro e w10 ⟨pa, pc, rfl, hp10, E10⟩
            have hrow10 := own_extX (own_grown (own_extX HO2.out HE8.out) HG9.out (by
              cases e : u15.ownBlock with
              | none => exact .inl rfl
              | some q => exact .inr (fun e2 => by injection e2 with e2; have := (HNB.out q e).1; omega))) E10
            have hs10 : mb + 1 ≤ w10.heap.size := by have := E10.size; omega
            have hfr := from_ints (own_intsL hp10)
            have HE10 := Lib.hid (E9.comp E10)
            have HM10 := Lib.hid (HM9.out.ext E10)
            have hx10 := HX9.out.ex E10
            have HX10 := Lib.hid hx10
            have hl10 := hx10.lt
            have r2 := hx10.c 2 rfl
            have hlen : rl.length + x.code.words.length ≤ 1000 := by omega
            clear hplace t2 t3 t4 t5 t6 t7 E9 E10 hp10 hx10
            go_wp2_with (at_builtin; refine wpList_app2 rfl _ _ 22 rfl 3 i0 (.int .i64 0) 1 8 Try.underlying22 hi0 hz0 hz1 hz2 rfl (by decide) _ rl.length (mb + 1) (iv rl) rfl hrow10 hs10 pa x.code.words.length pc (iv (placeL x.code (bs % 128))) rfl (by rw [iv_length, HPL.out, Nat.mul_one]) hfr (iv_one _) (by unfold maxLen; omega) (by omega) ?_; intro v11 W11 ho11 hg11 ha11; have hx11 : Blk W11 (bi + 1) _ _ := (hg11.block _ hl10 (fun e => by have := HNB.out _ e.symm; have := HNI.out; omega)).trans HX10.out; have z2 := hx11.c 2 rfl; have hl11 := hx11.lt; clear hx11; have HO11 := Lib.hid ho11; have HG11 := Lib.hid hg11; clear ho11 hg11 ha11)
            go_roundw
            case rel => exact ⟨i + 1, by omega, by go_num, by rw [HBN3.out], (show World.ownsRow _ _ _ _ _ _ _ by rw [HRN3.out, List.length_append, HPL.out, ← iv_app]; exact HO11.out), (HM10.out.grown HG11.out (fun e => by have := (HNB.out _ e.symm).1; omega)).congr HF3.out, own_kp HE10.out HG11.out (fun q hq => by have := (HNB.out q hq).1; have := HMB.out; omega)⟩
            case measure => simp [intOf]; omega
        · have hltz2 : ¬ (i : Int) < (n : Int) := by omega
          obtain rfl : i = n := by omega
          obtain ⟨w12, rfl⟩ : ∃ w12 : World, w12 = wr := ⟨_, rfl⟩
          obtain ⟨a15, c15, rfl⟩ := own_slice hO.out
          have hrl := rout_len cat cs e0 i
          have hbp := HB5.out.ex hX.out
          have HB12 := Lib.hid hbp
          have HO12 := Lib.hid hO.out
          have HM12 := Lib.hid hM.out
          have HX12 := Lib.hid hX.out
          have HE12 := Lib.hid (HE5.out.comp hX.out)
          have HBE := Lib.hid (show baseN cat cs (endE (m : Int) cs) cat.length = baseN cat cs e0 i by rw [HE0.out, HN.out])
          clear hO hM hX
          obtain ⟨rt, hrt⟩ : ∃ rt, routN cat cs e0 i = rt := ⟨_, rfl⟩
          rw [hrt] at hrl HO12 hbb ⊢
          have HRT := Lib.hid hrt
          obtain ⟨be, hbe⟩ : ∃ be, baseN cat cs e0 i = be := ⟨_, rfl⟩
          rw [hbe] at hrl hbb HBE ⊢
          clear hrt hbe
          by_cases hfit : 128 < be
          · have hRe : R = (0, [], 3) := by
              rw [HR.out]
              unfold buildE
              rw [if_neg (by simp [HG.out.snd]), if_neg (by have := HG.out.inp; unfold inB; simp; omega), if_neg (by have := HG.out.len; omega), if_neg (by simp [HG.out.calls]), if_pos (by rw [HBE.out]; exact hfit)]
            have HRE := Lib.hid hRe
            have q0 := Blk.c hbp 0 (v := .slice none 0 0) rfl
            have q1 := Blk.c hbp 1 (v := .int .i64 0) rfl
            have q2 := Blk.c hbp 2 (v := .int .i64 o) rfl
            have f0 := Blk.f hbp 0
            have f1 := Blk.f hbp 1
            have f2 := Blk.f hbp 2
            have hl := hbp.lt
            clear hRe hbp
            go_wp2_with fail
            have hb3 : Blk _ bp _ _ := ((HB12.out.st 0 (.slice none 0 0)).st 1 (.int .i64 0)).st 2 (.int .i64 0)
            simp only [List.setIfInBounds_toArray, List.set_cons_zero, List.set_cons_succ] at hb3
            have r0 := Blk.c hb3 0 (v := .slice none 0 0) rfl
            have r1 := Blk.c hb3 1 (v := .int .i64 0) rfl
            have r2 := Blk.c hb3 2 (v := .int .i64 0) rfl
            refine bodyPost_ret (v := .tuple #[.agg #[.slice none 0 0, .int .i64 0, .int .i64 0], .int .i64 3]) (by simp [results, Try.results26, go_sem, r0, r1, r2]) rfl ?_
            rw [HRE.out]
            exact ⟨none, 0, rfl, World.ownsRow_nil _ _ _ _, ext3 HE12.out (by have := HBP.out; omega)⟩
          · have HOK := Lib.hid (show BdOk cat (m : Int) cs from ⟨HG.out.snd, HG.out.inp, HG.out.len, HG.out.calls, by rw [HBE.out]; omega⟩)
            have hRe : R = (o, mainN cat (m : Int) cs j ++ [0] ++ linkN cat (m : Int) cs j ++ List.replicate rg.toNat 0 ++ rt, 0) := by
              rw [HR.out]
              unfold buildE
              rw [if_neg (by simp [HG.out.snd]), if_neg (by have := HG.out.inp; unfold inB; simp; omega), if_neg (by have := HG.out.len; omega), if_neg (by simp [HG.out.calls]), if_neg (by rw [HBE.out]; exact hfit), HO.out, HRG.out, HK.out, HE0.out, HN.out, HRT.out]
            have HRE := Lib.hid hRe
            clear hRe hbp
            go_upto_region 35 with fail
            obtain ⟨X13, hX13⟩ : ∃ X13, ((w12.alloc (.cells zbc 91)).alloc (.cells zbc 91)).alloc (.cells #[.pointer (some ⟨w12.heap.size, 0, none⟩)] 88) = X13 := ⟨_, rfl⟩
            have E13 : Ext w12 X13 := by rw [← hX13]; exact (by repeat (first | with_reducible exact Ext.refl _ | with_reducible refine Ext.alloc ?_ _ | with_reducible refine Below.drew ?_))
            have hbm : Blk X13 w12.heap.size zbc 91 := by rw [← hX13]; exact ((Blk.nw _ _ _).al _).al _
            have hbl : Blk X13 (w12.heap.size + 1) zbc 91 := by
              rw [← hX13]
              have := Blk.nw (w12.alloc (.cells zbc 91)) zbc 91
              rw [World.size_alloc] at this
              exact this.al _
            have hbs : Blk X13 (w12.heap.size + 1 + 1) #[.pointer (some ⟨w12.heap.size, 0, none⟩)] 88 := by
              rw [← hX13]
              have := Blk.nw ((w12.alloc (.cells zbc 91)).alloc (.cells zbc 91)) #[.pointer (some ⟨w12.heap.size, 0, none⟩)] 88
              rw [World.size_alloc, World.size_alloc] at this
              exact this
            rw [show #[Value.slice none 0 0, .slice none 0 0, .int .i64 0, .int .i64 0, .int .i64 0, .slice none 0 0, .map none] = zbc from rfl, hX13]
            clear hX13
            obtain ⟨bm, hbme⟩ : ∃ bm, w12.heap.size = bm := ⟨_, rfl⟩
            rw [hbme] at hbm hbl hbs ⊢
            have hT0 : TwoAt X13 bm (fun q => q = bm + 1 + 1) bm (bm + 1) [] [] := two_start hbm hbl
            have HT0 := Lib.hid hT0
            have HBS := Lib.hid hbs
            have HE13 := Lib.hid E13
            have HBM := Lib.hid hbme
            clear hbm hbl hbs hT0 E13 hbme
            go_wp2_with fail
            go_loopw [131] (fun s131 wr => ∃ ii : Nat, ii ≤ m ∧ s131 = .int .i64 (ii : Int) ∧ Aside (TwoAt wr bm (fun q => q = bm + 1 + 1) bm (bm + 1) (inN fi ii) []) ∧ Aside (KpM (fun q => bm ≤ q ∧ ¬ q = bm + 1 + 1) X13 wr)) (fun s _ => m - (intOf s).toNat)
            case atStart => exact ⟨0, Nat.zero_le _, rfl, HT0.out, KpM.refl _ _⟩
            case round =>
              obtain ⟨ii, hii, rfl, hT, hKq⟩ := hrel
              by_cases hlt3 : ii < m
              · have hltz3 : (ii : Int) < (m : Int) := by omega
                have hbs1 := HBS.out.kpm hKq.out (fun h => h.2 rfl)
                have hoo := HOK.out.o_in (i := ii) (by omega)
                rw [show firstE (m : Int) cs = fi by unfold firstE; rw [HO.out, HK.out, HFI.out]] at hoo
                have hst := two_step bm (fun q => q = bm + 1 + 1) (bm + 1 + 1) bm (bm + 1) (inN fi ii) [] 6 0 (fi + ii) 0 none 0 0 [] wr wr hT.out (Ext.refl wr) (fun q hq => by rw [hq]; exact hbs1.lt) (by rw [inN_len]; omega) (hbs1.c 0 rfl) hbs1.lt (World.ownsRow_nil _ _ _ _) (by decide) (by rw [inN_len]; exact hoo)
                rw [inN_len, show nextQ [] ii = (ii : Int) + 1 from rfl, ← inN_succ] at hst
                have HKq := Lib.hid hKq.out
                have hfib : 0 ≤ fi ∧ fi ≤ 60 := by have := HFI.out; omega
                clear hT hKq hbs1 hoo
                go_wp2_with (go_at_call 68; refine hst.mono ?_; rintro e w14 ⟨rfl, hT14, K14⟩)
                go_roundw
                case rel => exact ⟨ii + 1, by omega, by go_num, hT14, HKq.out.trans K14⟩
                case measure => simp [intOf]; omega
              · have hltz3 : ¬ (ii : Int) < (m : Int) := by omega
                obtain rfl : ii = m := by omega
                obtain ⟨w15, rfl⟩ : ∃ w15 : World, w15 = wr := ⟨_, rfl⟩
                have hFE : firstE (ii : Int) cs = fi := by unfold firstE; rw [HO.out, HK.out, HFI.out]
                have hM0 : mainN cat (ii : Int) cs 0 = inN fi ii := by rw [mainN, hFE, Int.toNat_natCast]
                have HFE := Lib.hid hFE
                have HT15 := Lib.hid (show TwoAt w15 bm (fun q => q = bm + 1 + 1) bm (bm + 1) (mainN cat (ii : Int) cs 0) (linkN cat (ii : Int) cs 0) by rw [hM0]; exact hT.out)
                have HK15 := Lib.hid hKq.out
                clear hT hKq hFE hM0
                go_wp2_with fail
                go_loopw [143] (fun s143 wr => ∃ q : Nat, q ≤ j ∧ s143 = .int .i64 (q : Int) ∧ Aside (TwoAt wr bm (fun q => q = bm + 1 + 1) bm (bm + 1) (mainN cat (ii : Int) cs q) (linkN cat (ii : Int) cs q)) ∧ Aside (KpM (fun q => bm ≤ q ∧ ¬ q = bm + 1 + 1) X13 wr)) (fun s _ => j - (intOf s).toNat)
                case atStart => exact ⟨0, Nat.zero_le _, rfl, HT15.out, HK15.out⟩
                case round =>
                  obtain ⟨q, hq, rfl, hT, hKq⟩ := hrel
                  obtain ⟨wo, rfl⟩ : ∃ wo : World, wo = wr := ⟨_, rfl⟩
                  have EW12 : Ext w12 wo := hKq.out.below HE13.out (Nat.le_refl _) fun y hy => by have := HBM.out; omega
                  have HEW12 := Lib.hid EW12
                  have HTq := Lib.hid hT.out
                  have HKq := Lib.hid hKq.out
                  clear hT hKq EW12
                  by_cases hlt4 : q < j
                  · have hltz4 : (q : Int) < (j : Int) := by omega
                    obtain ⟨x, hx⟩ : ∃ x, cs[q]? = some x := ⟨_, List.getElem?_eq_getElem (by rw [HK.out]; exact hlt4)⟩
                    have hdl := (dl_of (by have := HROW5.out; rw [← HK.out] at this; exact this) : DlAt w5 a3 cat cs A C).ext (HX12.out.comp HEW12.out)
                    obtain ⟨g, ha3, hgl, hcx⟩ : ∃ g, a3 = some ⟨g, 0, none⟩ ∧ g < wo.heap.size ∧ ∀ j x, cs[j]? = some x → ∀ t v, (dcs x (A j) (C j) (entN cat x))[t]? = some v → wo.cell? ⟨g, j * 4 + t, none⟩ = some v := by
                      rcases hdl with h | h
                      · have := HK.out; rw [h] at this; simp at this; omega
                      · exact h
                    have hcj := fun t v hv => hcx q x hx t v hv
                    have q0 := hcj 0 (.string x.name) rfl
                    have q1 := hcj 1 (.slice (A q) x.args.length (C q)) rfl
                    have q2 := hcj 2 (.int .i64 x.dst) rfl
                    have q3 := hcj 3 (.int .i64 (entN cat x : Int)) rfl
                    rw [Nat.add_zero] at q0
                    have HX := Lib.hid hx
                    have HGD := Lib.hid (HG.out.good hx)
                    clear hcj hcx hx hdl
                    subst ha3
                    go_upto_region 44 with fail
                    obtain ⟨X16, hX16⟩ : ∃ X16, wo.alloc (.cells #[.string x.name, .slice (A q) x.args.length (C q), .int .i64 x.dst, .int .i64 (entN cat x : Int)] 115) = X16 := ⟨_, rfl⟩
                    have hbc : Blk X16 wo.heap.size #[.string x.name, .slice (A q) x.args.length (C q), .int .i64 x.dst, .int .i64 (entN cat x : Int)] 115 := by rw [← hX16]; exact Blk.nw _ _ _
                    have E16 : Ext wo X16 := by rw [← hX16]; exact (Ext.refl wo).alloc _
                    rw [hX16]
                    clear hX16 q0 q1 q2 q3
                    obtain ⟨bc, hbce⟩ : ∃ bc, wo.heap.size = bc := ⟨_, rfl⟩
                    rw [hbce] at hbc ⊢
                    have HBCE := Lib.hid hbce
                    clear hbce
                    have hus := used_ent (cat := cat) HX.out
                    have hgd := HGD.out
                    have hbase := HOK.out.base HX.out
                    rw [HE0.out] at hbase
                    have hplc := check_places (HOK.out.code HX.out)
                    obtain ⟨en, hen⟩ : ∃ en, entN cat x = en := ⟨_, rfl⟩
                    rw [hen] at hus hbc hbase hplc ⊢
                    have hget := hgd.get
                    have hlen := hgd.len
                    rw [hen] at hget hlen
                    obtain ⟨y, hy⟩ : ∃ y, entX cat en = y := ⟨_, rfl⟩
                    rw [hy] at hget hlen hbase hplc
                    have henl : en < i := by
                      rcases Nat.lt_or_ge en cat.length with h | h
                      · rw [HN.out] at h; exact h
                      · rw [List.getElem?_eq_none h] at hget; cases hget
                    have henz : (en : Int) < (i : Int) := by omega
                    have h9 : en < 9 := by omega
                    obtain ⟨b1, o1, ha1, hb1, hc1, hr1⟩ := HH.out.hcat.at_ hget
                    have hEW16 : Ext w X16 := HE12.out.comp (HEW12.out.comp E16)
                    have hM16 := HM12.out.ext (HEW12.out.comp E16)
                    obtain ⟨bq, hbq⟩ : ∃ bq, baseN cat cs e0 en = bq := ⟨_, rfl⟩
                    have hlook : ∀ W, MapF encN W mb (baseF cat cs e0 i) → (Instr.lookup 116 (.map (some mb)) (.int .i64 (en : Int)) false).run Try.prog W = .ok (.int .i64 bq) W := fun W hW => by
                      have h := hW.look false keyN Try.underlying116 (zero_int W) ⟨en, h9⟩
                      simp only [Bool.false_eq_true, if_false] at h
                      rw [show baseF cat cs e0 i ⟨en, h9⟩ = some (.int .i64 bq) by unfold baseF; rw [if_pos ⟨henl, hus⟩, hbq]] at h
                      exact h
                    rw [hbq] at hbase
                    have HEN := Lib.hid hen
                    have HY := Lib.hid hy
                    have HBQ := Lib.hid hbq
                    have HGET := Lib.hid hget
                    have HPLC := Lib.hid hplc
                    have HLEN := Lib.hid hlen
                    have HR1 := Lib.hid hr1
                    have HE16 := Lib.hid E16
                    have HLK := Lib.hid hlook
                    have HC1 := Lib.hid hc1
                    subst ha1
                    have hb1X : b1 < X16.heap.size := Nat.lt_of_lt_of_le hb1 hEW16.size
                    have hbcX := hbc.lt
                    clear hus hgd hget hen hy hbq hplc hlen hr1 E16 hlook hc1
                    refine wp_region_P (fun _ => false) (fun W => Blk W bc #[.string x.name, .slice (A q) x.args.length (C q), .int .i64 x.dst, .int .i64 (en : Int)] 115 ∧ Ext w W ∧ MapF encN W mb (baseF cat cs e0 i)) (by kernel_rfl) ⟨hbc.dr, hEW16.drew, hM16.same rfl⟩ fun hSX => ?_
                    have HX16 := Lib.hid (show Ext wo X16.drew from HE16.out.drew)
                    have hsY : bc < X16.drew.heap.size := hbcX
                    generalize X16.drew = Y at *
                    clear hbc hEW16 hM16 hb1X hbcX
                    refine tkPP 0 ⟨_, _, _, _, _, _⟩ ?_ rfl (by kernel_rfl) (fun _ _ _ h => h) (Or.inl ⟨by rfl, ?_⟩) ?_
                    rotate_left
                    · intro wX _
                      go_simp
                      (try with_reducible rfl)
                    (try simp only [Act.put, List.setIfInBounds_toArray, List.set_cons_succ, List.set_cons_zero])
                    refine tkPP 1 ⟨_, _, _, _, _, _⟩ ?_ rfl (by kernel_rfl) (fun _ _ _ h => h) (Or.inl ⟨by rfl, ?_⟩) ?_
                    rotate_left
                    · intro wX _
                      go_simp
                      (try with_reducible rfl)
                    (try simp only [Act.put, List.setIfInBounds_toArray, List.set_cons_succ, List.set_cons_zero])
                    refine tkP 2 ⟨_, _, _, _, _, _⟩ ?_ rfl (by kernel_rfl) (fun _ _ _ h => h) (Or.inl ⟨by rfl, ?_⟩) hSX ?_
                    rotate_left
                    · intro wX hS
                      have hq := hS.1.c 3 (v := .int .i64 (en : Int)) rfl
                      go_simp
                      (try with_reducible rfl)
                    (try simp only [Act.put, List.setIfInBounds_toArray, List.set_cons_succ, List.set_cons_zero])
                    refine tkPP 3 ⟨_, _, _, _, _, _⟩ ?_ rfl (by kernel_rfl) (fun _ _ _ h => h) (Or.inl ⟨by rfl, ?_⟩) ?_
                    rotate_left
                    · intro wX _
                      go_simp
                      (try with_reducible rfl)
                    (try simp only [Act.put, List.setIfInBounds_toArray, List.set_cons_succ, List.set_cons_zero])
                    refine tkPP 4 ⟨_, _, _, _, _, _⟩ ?_ rfl (by kernel_rfl) (fun _ _ _ h => h) (Or.inl ⟨by rfl, ?_⟩) ?_
                    rotate_left
                    · intro wX _
                      go_simp
                      (try with_reducible rfl)
                    (try simp only [Act.put, List.setIfInBounds_toArray, List.set_cons_succ, List.set_cons_zero])
                    refine tkP 5 ⟨_, _, _, _, _, _⟩ ?_ rfl (by kernel_rfl) (fun _ _ _ h => h) (Or.inl ⟨by rfl, ?_⟩) hSX ?_
                    rotate_left
                    · intro wX hS
                      have hb := HC1.out wX hS.2.1
                      have q2 := hb 2 (.slice (L en).a1 y.code.words.length (L en).c1) rfl
                      have q3 := hb 3 (.slice (L en).a2 y.code.masks.length (L en).c2) rfl
                      have q4 := hb 4 (.int .i64 y.code.entry) rfl
                      have q5 := hb 5 (.int .i64 y.code.exit) rfl
                      have q6 := hb 6 (.int .i64 y.code.result) rfl
                      have q7 := hb 7 (.slice (L en).a3 y.code.args.length (L en).c3) rfl
                      clear hb
                      go_simp
                      (try with_reducible rfl)
                    (try simp only [Act.put, List.setIfInBounds_toArray, List.set_cons_succ, List.set_cons_zero])
                    refine tkPP 6 ⟨_, _, _, _, _, _⟩ ?_ rfl (by kernel_rfl) (fun _ _ _ h => h) (Or.inl ⟨by rfl, ?_⟩) ?_
                    rotate_left
                    · intro wX _
                      go_simp
                      (try with_reducible rfl)
                    (try simp only [Act.put, List.setIfInBounds_toArray, List.set_cons_succ, List.set_cons_zero])
                    refine tkPP 7 ⟨_, _, _, _, _, _⟩ ?_ rfl (by kernel_rfl) (fun _ _ _ h => h) (Or.inl ⟨by rfl, ?_⟩) ?_
                    rotate_left
                    · intro wX _
                      go_simp
                      (try with_reducible rfl)
                    (try simp only [Act.put, List.setIfInBounds_toArray, List.set_cons_succ, List.set_cons_zero])
                    refine tkP 8 ⟨_, _, _, _, _, _⟩ ?_ rfl (by kernel_rfl) (fun _ _ _ h => h) (Or.inl ⟨by rfl, ?_⟩) hSX ?_
                    rotate_left
                    · intro wX hS
                      have hq := hS.1.c 3 (v := .int .i64 (en : Int)) rfl
                      go_simp
                      (try with_reducible rfl)
                    (try simp only [Act.put, List.setIfInBounds_toArray, List.set_cons_succ, List.set_cons_zero])
                    refine tkP 9 ⟨_, _, _, _, _, _⟩ ?_ rfl (by kernel_rfl) (fun _ _ _ h => h) (Or.inl ⟨by rfl, ?_⟩) hSX ?_
                    rotate_left
                    · intro wX hS
                      have hq := HLK.out wX hS.2.2
                      go_simp
                      (try with_reducible rfl)
                    (try simp only [Act.put, List.setIfInBounds_toArray, List.set_cons_succ, List.set_cons_zero])
                    refine wpAnyP_one (i := 10) (o := ⟨_, _, _, _, _, _⟩) (by kernel_rfl) rfl ?_ <;> intro K hK
                    go_simp
                    refine hK _ _ (.inr fun h => ⟨h.1.al _, h.2.1.alloc _, h.2.2.ext ((Ext.refl _).alloc _)⟩) ?_
                    clear hK
                    refine wpAnyP_one (i := 11) (o := ⟨_, _, _, _, _, _⟩) (by kernel_rfl) rfl ?_ <;> intro K hK
                    go_simp
                    refine hK _ _ (.inr fun _ => ⟨hSX.1.al _, hSX.2.1.alloc _, hSX.2.2.ext ((Ext.refl _).alloc _)⟩) ?_
                    clear hK
                    refine wpAnyP_one (i := 12) (o := ⟨_, _, _, _, _, _⟩) (by kernel_rfl) rfl ?_ <;> intro K hK
                    go_simp
                    refine hK _ _ (.inr fun h => h) ?_
                    clear hK
                    refine wpAnyP_done (by kernel_rfl) ?_ _
                    have hbd := Blk.nw Y #[.slice (L en).a1 y.code.words.length (L en).c1, .slice (L en).a2 y.code.masks.length (L en).c2, .int .i64 y.code.entry, .int .i64 y.code.exit, .int .i64 y.code.result, .slice (L en).a3 y.code.args.length (L en).c3] 24
                    have hbc17 := hSX.1.al (.cells #[.slice (L en).a1 y.code.words.length (L en).c1, .slice (L en).a2 y.code.masks.length (L en).c2, .int .i64 y.code.entry, .int .i64 y.code.exit, .int .i64 y.code.result, .slice (L en).a3 y.code.args.length (L en).c3] 24)
                    have E17 : Ext wo (Y.alloc (.cells #[.slice (L en).a1 y.code.words.length (L en).c1, .slice (L en).a2 y.code.masks.length (L en).c2, .int .i64 y.code.entry, .int .i64 y.code.exit, .int .i64 y.code.result, .slice (L en).a3 y.code.args.length (L en).c3] 24)) := HX16.out.alloc _
                    generalize Y.alloc (.cells #[.slice (L en).a1 y.code.words.length (L en).c1, .slice (L en).a2 y.code.masks.length (L en).c2, .int .i64 y.code.entry, .int .i64 y.code.exit, .int .i64 y.code.result, .slice (L en).a3 y.code.args.length (L en).c3] 24) = X17 at hbd hbc17 E17 ⊢
                    obtain ⟨bd, hbde⟩ : ∃ bd, Y.heap.size = bd := ⟨_, rfl⟩
                    rw [hbde] at hbd hsY ⊢
                    have HBD := Lib.hid hbd
                    have HBC := Lib.hid hbc17
                    have HE17 := Lib.hid E17
                    have k1 := hbc17.c 1 (v := .slice (A q) x.args.length (C q)) rfl
                    have hbl17 := hbc17.lt
                    clear hSX HX16 hbd hbc17 E17 hbde
                    have hat := HOK.out.at_ HX.out
                    obtain ⟨mw, hmw⟩ : ∃ mw, mainN cat (ii : Int) cs q = mw := ⟨_, rfl⟩
                    obtain ⟨lw, hlw⟩ : ∃ lw, linkN cat (ii : Int) cs q = lw := ⟨_, rfl⟩
                    have hlll := link_len (cat := cat) (inputs := (ii : Int)) (cs := cs) q (by rw [HK.out]; omega)
                    rw [hlw] at hlll
                    rw [hmw, HO.out] at hat
                    have HMW := Lib.hid hmw
                    have HLW := Lib.hid hlw
                    have hT17 : TwoAt X17 bm (fun k => k = bm + 1 + 1 ∨ k = bc ∨ k = bd) bm (bm + 1) (mw ++ argN mw.length fi bq x.args y.code.args 0) lw := by
                      rw [show argN mw.length fi bq x.args y.code.args 0 = [] from rfl, List.append_nil, ← hmw, ← hlw]
                      refine (HTq.out.more fun k hk => ?_).ext HE17.out
                      have := HBCE.out
                      rcases hk with h | h | h
                      · exact .inl h
                      · exact .inr (by omega)
                      · exact .inr (by omega)
                    have HT17 := Lib.hid hT17
                    have HIA := Lib.hid (HH.out.hcs.ints HX.out)
                    have hLA : x.args.length = y.code.args.length := HLEN.out
                    have hwl2 : y.code.args.length ≤ 2 := by have := (Q.check_len (sound_get HG.out.snd HGET.out).code).2.2.2; exact this
                    have EX17 := Lib.hid (HEW12.out.comp HE17.out)
                    have HBS17 := Lib.hid ((HBS.out.kpm HKq.out (fun h => h.2 rfl)).ex HE17.out)
                    have hfib : 0 ≤ fi ∧ fi ≤ 60 := by have := HFI.out; omega
                    obtain ⟨la, hla⟩ : ∃ la, x.args.length = la := ⟨_, rfl⟩
                    rw [hla] at hat hLA k1 ⊢
                    have HLA := Lib.hid hla
                    clear hmw hlw hT17 hla
                    replace hLA := Lib.hid hLA
                    go_wp2_with fail
                    go_loopw [162] (fun s162 wz => ∃ r : Nat, r ≤ la ∧ s162 = .int .i64 (r : Int) ∧ Aside (TwoAt wz bm (fun k => k = bm + 1 + 1 ∨ k = bc ∨ k = bd) bm (bm + 1) (mw ++ argN mw.length fi bq x.args y.code.args r) lw) ∧ Aside (KpM (fun k => bm ≤ k ∧ ¬ (k = bm + 1 + 1 ∨ k = bc ∨ k = bd)) X17 wz)) (fun s _ => la - (intOf s).toNat)
                    case atStart => exact ⟨0, Nat.zero_le _, rfl, HT17.out, KpM.refl _ _⟩
                    case round =>
                      obtain ⟨r, hr, rfl, hT, hKz⟩ := hrel
                      have EZ : Ext w12 wr := hKz.out.below EX17.out (Nat.le_refl _) fun y hy => by have := HBM.out; omega
                      have EZw : Ext w wr := HE12.out.comp EZ
                      by_cases hlt5 : r < la
                      · have hltz5 : (r : Int) < (la : Int) := by omega
                        obtain ⟨ar, har⟩ : ∃ ar, x.args[r]? = some ar := ⟨_, List.getElem?_eq_getElem (by rw [HLA.out]; exact hlt5)⟩
                        obtain ⟨ca, hca⟩ : ∃ ca, y.code.args[r]? = some ca := ⟨_, List.getElem?_eq_getElem (by rw [← hLA.out]; exact hlt5)⟩
                        obtain ⟨pb, po, hpa, hpb, hpc⟩ : ∃ pb po, A q = some ⟨pb, po, none⟩ ∧ pb < w.heap.size ∧ w.cell? ⟨pb, po + r, none⟩ = some (.int .i64 ar) := by
                          rcases HIA.out with h | ⟨pb, po, h1, h2, h3⟩
                          · rw [h] at har; simp at har
                          · exact ⟨pb, po, h1, h2, by have := h3 r (by rw [HLA.out]; exact hlt5); rw [har] at this; exact this⟩
                        obtain ⟨ub, uo, hua, hub, huc⟩ : ∃ ub uo, (L en).a3 = some ⟨ub, uo, none⟩ ∧ ub < w.heap.size ∧ w.cell? ⟨ub, uo + r, none⟩ = some (.int .i64 ca) := by
                          rcases HR1.out.i3 with h | ⟨pb, po, h1, h2, h3⟩
                          · rw [h] at hca; simp at hca
                          · exact ⟨pb, po, h1, h2, by have := h3 r (by rw [← hLA.out]; exact hlt5); rw [hca] at this; exact this⟩
                        have c1 : wr.cell? ⟨pb, po + r, none⟩ = some (.int .i64 ar) := (EZw.cell (p := ⟨pb, po + r, none⟩) hpb).trans hpc
                        have c2 : wr.cell? ⟨ub, uo + r, none⟩ = some (.int .i64 ca) := (EZw.cell (p := ⟨ub, uo + r, none⟩) hub).trans huc
                        have hpbr : pb < wr.heap.size := Nat.lt_of_lt_of_le hpb EZw.size
                        have hubr : ub < wr.heap.size := Nat.lt_of_lt_of_le hub EZw.size
                        have hbdr := HBD.out.kpm hKz.out (fun h => h.2 (.inr (.inr rfl)))
                        have hbcr := HBC.out.kpm hKz.out (fun h => h.2 (.inr (.inl rfl)))
                        have hbsr := HBS17.out.kpm hKz.out (fun h => h.2 (.inl rfl))
                        have d5 := hbdr.c 5 (v := .slice (L en).a3 y.code.args.length (L en).c3) rfl
                        rw [hua] at d5
                        have hbdl := hbdr.lt
                        have hoo := HOK.out.o_arg HX.out har (by rw [HEN.out, HY.out]; exact hca)
                        rw [HFE.out, HE0.out, HEN.out, HBQ.out, HMW.out] at hoo
                        have hrr := (HOK.out.reg HX.out).2 ar (List.mem_of_getElem? har)
                        rw [HRG.out] at hrr
                        have hcc := HPLC.out.2.2.2 ca (List.mem_of_getElem? hca)
                        have hlen2 : (mw ++ argN mw.length fi bq x.args y.code.args r).length = mw.length + r := by rw [List.length_append, argN_len]
                        have hFl : ∀ k, (k = bm + 1 + 1 ∨ k = bc ∨ k = bd) → k < wr.heap.size := fun k hk => by
                          have l1 := hbsr.lt
                          have l2 := hbcr.lt
                          rcases hk with h | h | h <;> omega
                        have hst := two_step bm (fun k => k = bm + 1 + 1 ∨ k = bc ∨ k = bd) (bm + 1 + 1) bm (bm + 1) (mw ++ argN mw.length fi bq x.args y.code.args r) lw 1 (fi + ar) (bq + ca) 0 none 0 0 [] wr wr hT.out (Ext.refl wr) hFl (by rw [hlen2]; omega) (hbsr.c 0 rfl) hbsr.lt (World.ownsRow_nil _ _ _ _) (by decide) (by rw [hlen2]; exact hoo)
                        rw [hlen2, show nextQ [] (mw.length + r) = (mw.length : Int) + r + 1 by unfold nextQ; push_cast; rfl, List.append_assoc, ← argN_succ har hca] at hst
                        have HKz := Lib.hid hKz.out
                        have hcc2 : bq + ca ≤ 128 ∧ fi + ar ≤ 100 := by omega
                        have hlaz : (r : Int) < (y.code.args.length : Int) := by have := hLA.out; omega
                        clear hT hKz hbdr hbcr hbsr hoo hpc huc hpb hub EZ EZw hlen2 har hca hFl
                        rw [hpa]
                        have HLL := Lib.hid hlll
                        clear hlll hpa hua
                        go_wp2_with (go_at_call 68; refine hst.mono ?_; rintro e w14 ⟨rfl, hT14, K14⟩)
                        go_roundw
                        case rel => exact ⟨r + 1, by omega, by go_num, hT14, HKz.out.trans K14⟩
                        case measure => simp [intOf]; omega
                      · have hltz5 : ¬ (r : Int) < (la : Int) := by omega
                        obtain rfl : r = la := by omega
                        obtain ⟨w18, rfl⟩ : ∃ w18 : World, w18 = wr := ⟨_, rfl⟩
                        have hbd18 := HBD.out.kpm hKz.out (fun h => h.2 (.inr (.inr rfl)))
                        have hbc18 := HBC.out.kpm hKz.out (fun h => h.2 (.inr (.inl rfl)))
                        have hbs18 := HBS17.out.kpm hKz.out (fun h => h.2 (.inl rfl))
                        have hbp18 := HB12.out.ex EZ
                        have p2 := hbp18.c 2 (v := .int .i64 o) rfl
                        have hpl18 := hbp18.lt
                        have d2 := hbd18.c 2 (v := .int .i64 y.code.entry) rfl
                        have d3 := hbd18.c 3 (v := .int .i64 y.code.exit) rfl
                        have hdl18 := hbd18.lt
                        have hcl18 := hbc18.lt
                        have hsl18 := hbs18.lt
                        have hlen2 : (mw ++ argN mw.length fi bq x.args y.code.args r).length = mw.length + r := by rw [List.length_append, argN_len]
                        have hplc := HPLC.out
                        obtain ⟨⟨pe0, pe1⟩, ⟨px0, px1⟩, ⟨pr0, pr1⟩, _⟩ := hplc
                        have hoo := HOK.out.o_go HX.out
                        rw [HO.out, HE0.out, HEN.out, HBQ.out, HY.out] at hoo
                        have hFl : ∀ k, (k = bm + 1 + 1 ∨ k = bc ∨ k = bd) → k < w18.heap.size := fun k hk => by
                          rcases hk with h | h | h <;> omega
                        have EX19 : Ext w18 (w18.alloc (.cells #[.int .i64 (bq + y.code.entry)] 3)) := (Ext.refl w18).alloc _
                        have hst := two_step bm (fun k => k = bm + 1 + 1 ∨ k = bc ∨ k = bd) (bm + 1 + 1) bm (bm + 1) (mw ++ argN mw.length fi bq x.args y.code.args r) lw 1 (o + (q : Int)) (bq + y.code.exit) 0 (some ⟨w18.heap.size, 0, none⟩) 1 1 [bq + y.code.entry] w18 (w18.alloc (.cells #[.int .i64 (bq + y.code.entry)] 3)) hT.out EX19 (fun k hk => Nat.lt_of_lt_of_le (hFl k hk) EX19.size) (by rw [hlen2]; omega) (hbs18.c 0 rfl) hsl18 (own_lit rfl (by decide) (Ext.refl _)) (Nat.le_refl _) (by rw [show nextQ [bq + y.code.entry] _ = bq + y.code.entry from rfl]; exact hoo)
                        rw [show nextQ [bq + y.code.entry] _ = bq + y.code.entry from rfl, List.append_assoc] at hst
                        have HBD18 := Lib.hid hbd18
                        have HBC18 := Lib.hid hbc18
                        have HBS18 := Lib.hid hbs18
                        have HKz := Lib.hid hKz.out
                        have HEZ := Lib.hid EZ
                        have HLL := Lib.hid hlll
                        have HFL := Lib.hid hFl
                        clear hT hKz EZ EZw hbd18 hbc18 hbs18 hbp18 hlll hoo hFl EX19 hlen2
                        go_upto_region 51 with (go_at_call 68; refine hst.mono ?_; rintro e w20 ⟨rfl, hT20, K20⟩)
                        clear hst p2 d2 d3 k1
                        obtain ⟨M20, hM20⟩ : ∃ M20, mw ++ (argN mw.length fi bq x.args y.code.args r ++ [Q.written ⟨1, o + (q : Int), bq + y.code.exit, bq + y.code.entry⟩]) = M20 := ⟨_, rfl⟩
                        have hl20 : M20.length = mw.length + r + 1 := by rw [← hM20, List.length_append, List.length_append, argN_len]; simp; omega
                        rw [hM20] at hT20
                        have HM20 := Lib.hid hM20
                        obtain ⟨a20, c20, hw20, _, hbm20⟩ := hT20.words
                        have hbs20 := HBS18.out.kpm K20 (fun h => h.2 (.inl rfl))
                        have s20 := hbs20.c 0 (v := .pointer (some ⟨bm, 0, none⟩)) rfl
                        have hbsl20 := hbs20.lt
                        have hFl20 : ∀ k, (k = bm + 1 + 1 ∨ k = bc ∨ k = bd) → k < w20.heap.size := fun k hk => Nat.lt_of_lt_of_le (HFL.out k hk) K20.size
                        have hoo := HOK.out.o_link HX.out
                        rw [HMW.out, HLA.out, show (mw.length : Int) + (r : Int) + 1 = (M20.length : Int) by omega] at hoo
                        have hpt := two_putl (mask := 0) hT20 hFl20 (by have := HLL.out; omega) hoo
                        have HL20 := Lib.hid hl20
                        have hmz : M20.length ≤ 300 := by omega
                        have HK20 := Lib.hid K20
                        have HBS20 := Lib.hid hbs20
                        clear hM20 hbs20 hT20 K20 hFl20 hoo hl20
                        go_upto_region 52 with (go_at_call 69; refine hpt.mono ?_; rintro e w21 ⟨rfl, hT21, K21⟩)
                        clear hpt hw20 s20 hbm20 hbsl20
                        have HK21 := Lib.hid (HK20.out.trans K21)
                        have hbs21 := HBS18.out.kpm HK21.out (fun h => h.2 (.inl rfl))
                        have hbd21 := HBD18.out.kpm HK21.out (fun h => h.2 (.inr (.inr rfl)))
                        have hbc21 := HBC18.out.kpm HK21.out (fun h => h.2 (.inr (.inl rfl)))
                        have d4 := hbd21.c 4 (v := .int .i64 y.code.result) rfl
                        have e2 := hbc21.c 2 (v := .int .i64 x.dst) rfl
                        have hdl21 := hbd21.lt
                        have hcl21 := hbc21.lt
                        have hsl21 := hbs21.lt
                        have hFl21 : ∀ k, (k = bm + 1 + 1 ∨ k = bc ∨ k = bd) → k < w21.heap.size := fun k hk => by
                          rcases hk with h | h | h <;> omega
                        have hoo := HOK.out.o_back HX.out
                        rw [HE0.out, HEN.out, HBQ.out, HY.out, HFE.out, HMW.out, HLA.out, show (mw.length : Int) + (r : Int) + 2 = (M20.length : Int) + 1 by have := HL20.out; omega] at hoo
                        have hrg2 := (HOK.out.reg HX.out).1
                        have hrg3 := HOK.out.to0 q x HX.out
                        rw [HRG.out] at hrg2
                        have hst := two_step bm (fun k => k = bm + 1 + 1 ∨ k = bc ∨ k = bd) (bm + 1 + 1) bm (bm + 1) M20 (lw ++ [Q.written ⟨1, 0, 0, (M20.length : Int)⟩]) 1 (bq + y.code.result) (fi + x.dst) 0 none 0 0 [] w21 w21 hT21 (Ext.refl w21) hFl21 (by omega) (hbs21.c 0 rfl) hsl21 (World.ownsRow_nil _ _ _ _) (by decide) hoo
                        rw [show nextQ [] M20.length = (M20.length : Int) + 1 from rfl] at hst
                        clear hbs21 hbd21 hbc21 hT21 K21 hFl21 hoo
                        go_upto_region 53 with (go_at_call 68; refine hst.mono ?_; rintro e w22 ⟨rfl, hT22, K22⟩)
                        clear hst d4 e2 hdl21 hcl21 hsl21
                        have HK22 := Lib.hid (HK21.out.trans K22)
                        have hbs22 := HBS18.out.kpm HK22.out (fun h => h.2 (.inl rfl))
                        have hbd22 := HBD18.out.kpm HK22.out (fun h => h.2 (.inr (.inr rfl)))
                        have hbc22 := HBC18.out.kpm HK22.out (fun h => h.2 (.inr (.inl rfl)))
                        have e2 := hbc22.c 2 (v := .int .i64 x.dst) rfl
                        have hdl22 := hbd22.lt
                        have hcl22 := hbc22.lt
                        have hsl22 := hbs22.lt
                        have hFl22 : ∀ k, (k = bm + 1 + 1 ∨ k = bc ∨ k = bd) → k < w22.heap.size := fun k hk => by
                          rcases hk with h | h | h <;> omega
                        obtain ⟨M22, hM22⟩ : ∃ M22, M20 ++ [Q.written ⟨1, bq + y.code.result, fi + x.dst, (M20.length : Int) + 1⟩] = M22 := ⟨_, rfl⟩
                        have hl22 : M22.length = mw.length + r + 2 := by rw [← hM22, List.length_append, HL20.out]; rfl
                        rw [hM22] at hT22
                        have hoo := HOK.out.o_print HX.out
                        rw [HFE.out, HMW.out, HLA.out, show (mw.length : Int) + (r : Int) + 3 = (M22.length : Int) + 1 by omega] at hoo
                        have hst := two_step bm (fun k => k = bm + 1 + 1 ∨ k = bc ∨ k = bd) (bm + 1 + 1) bm (bm + 1) M22 (lw ++ [Q.written ⟨1, 0, 0, (M20.length : Int)⟩]) 7 (fi + x.dst) 0 0 none 0 0 [] w22 w22 hT22 (Ext.refl w22) hFl22 (by omega) (hbs22.c 0 rfl) hsl22 (World.ownsRow_nil _ _ _ _) (by decide) hoo
                        rw [show nextQ [] M22.length = (M22.length : Int) + 1 from rfl] at hst
                        have HM22 := Lib.hid hM22
                        have HL22 := Lib.hid hl22
                        clear hbs22 hbd22 hbc22 hT22 K22 hFl22 hoo hM22 hl22
                        go_wp2_with (go_at_call 68; refine hst.mono ?_; rintro e w23 ⟨rfl, hT23, K23⟩)
                        go_roundw
                        case rel =>
                          have hmn : mainN cat (ii : Int) cs (q + 1) = M22 ++ [Q.written ⟨7, fi + x.dst, 0, (M22.length : Int) + 1⟩] := by
                            rw [mainN, HX.out]
                            dsimp only
                            unfold callW goW backW printW
                            rw [HMW.out, HFE.out, HE0.out, HEN.out, HBQ.out, HY.out, HO.out, HLA.out, ← HM22.out, ← HM20.out]
                            have z1 := HL20.out
                            have z2 := HL22.out
                            rw [← HM22.out, ← HM20.out] at z2
                            rw [← HM20.out] at z1
                            rw [z2, z1]
                            simp only [List.append_assoc, List.cons_append, List.nil_append]
                            congr 6
                            all_goals (push_cast; omega)
                          have hln : linkN cat (ii : Int) cs (q + 1) = lw ++ [Q.written ⟨1, 0, 0, (M20.length : Int)⟩] := by
                            rw [linkN, HX.out]
                            dsimp only
                            rw [HLW.out, HMW.out, HLA.out, HL20.out]
                            push_cast
                            rfl
                          refine ⟨q + 1, by omega, by go_num, (show TwoAt _ _ _ _ _ _ _ by rw [hmn, hln]; exact hT23.more fun k hk => .inl (.inl hk)), ?_⟩
                          exact ((HKq.out.trans (KpM.of_ext HE17.out)).trans (HKz.out.mono fun k hk => ⟨hk.1, fun e => hk.2 (.inl e)⟩)).trans ((HK22.out.trans K23).mono fun k hk => ⟨hk.1, fun e => hk.2 (.inl e)⟩)
                        case measure => simp [intOf]; omega
                  · have hltz4 : ¬ (q : Int) < (j : Int) := by omega
                    obtain rfl : q = j := by omega
                    obtain ⟨w24, rfl⟩ : ∃ w24 : World, w24 = wo := ⟨_, rfl⟩
                    obtain ⟨gn, rfl⟩ : ∃ gn : Nat, rg = (gn : Int) := ⟨rg.toNat, by omega⟩
                    obtain ⟨mw, hmw⟩ : ∃ mw, mainN cat (ii : Int) cs q = mw := ⟨_, rfl⟩
                    obtain ⟨lw, hlw⟩ : ∃ lw, linkN cat (ii : Int) cs q = lw := ⟨_, rfl⟩
                    have hT24 := HTq.out
                    rw [hmw, hlw] at hT24
                    have hRE := HRE.out
                    rw [hmw, hlw, Int.toNat_natCast] at hRE
                    have HRE2 := Lib.hid hRE
                    have hml := main_len (cat := cat) (inputs := (ii : Int)) (cs := cs) HG.out.inp.1 q
                    have hll := link_len (cat := cat) (inputs := (ii : Int)) (cs := cs) q (by rw [HK.out]; omega)
                    have hor3 := HG.out.ords q (by rw [HK.out]; omega)
                    rw [hmw] at hml
                    rw [hlw] at hll
                    have htot : (mw ++ [0] ++ lw ++ List.replicate gn 0 ++ rt).length ≤ 1000 := by
                      simp only [List.length_append, List.length_replicate, List.length_cons, List.length_nil]
                      omega
                    have HTOT := Lib.hid htot
                    obtain ⟨am, cm, hmc, hmr, hml2⟩ := hT24.words
                    obtain ⟨al, cl, hlc, hlr, hll2⟩ := hT24.wordsl
                    have hbs24 := HBS.out.kpm HKq.out (fun h => h.2 rfl)
                    have hsc := hbs24.c 0 (v := .pointer (some ⟨bm, 0, none⟩)) rfl
                    have hbp24 := HB12.out.ex HEW12.out
                    have hbmw := HBM.out
                    have hbpl := HB12.out.lt
                    have hn1 : bm + 1 + 1 ≠ bp := by omega
                    have hn2 : bm ≠ bp := by omega
                    have hn3 : bm + 1 ≠ bp := by omega
                    have hmi := own_intsL hmr
                    have hli := own_intsL hlr
                    have hri := (own_intsL HO12.out).ext HEW12.out
                    have hE24 := HE12.out.comp HEW12.out
                    have HMI := Lib.hid (And.intro hmi (And.intro hli hri))
                    have HBP24 := Lib.hid hbp24
                    have HE24 := Lib.hid hE24
                    have hmk := fun W => made_int W gn (by omega)
                    have hsl24 := hbs24.lt
                    have hpl24 := hbp24.lt
                    have hml3 : mw.length ≤ 300 := by omega
                    obtain ⟨lm, hlm⟩ : ∃ lm, mw.length = lm := ⟨_, rfl⟩
                    obtain ⟨ll, hlll⟩ : ∃ ll, lw.length = ll := ⟨_, rfl⟩
                    obtain ⟨lr, hlr2⟩ : ∃ lr, rt.length = lr := ⟨_, rfl⟩
                    rw [hlm] at hmc hml3
                    rw [hlll] at hlc
                    rw [hlr2]
                    have HLM := Lib.hid hlm
                    have HLL := Lib.hid hlll
                    have HLR := Lib.hid hlr2
                    clear hmw hlw hT24 hRE hml hll htot hmr hlr hbs24 hmi hli hri hbp24 hE24 hlm hlll hlr2
                    go_upto_region 55 with fail
                    refine wp_region_P (fun _ => false) (fun W => KpM (fun k => k = bp) w24 W) (by kernel_rfl) (KpM.of_ext (Ext.refl w24).drew) fun hSX => ?_
                    have EY : Ext w24 w24.drew := (Ext.refl w24).drew
                    generalize w24.drew = Y at *
                    refine tkP 0 ⟨_, _, _, _, _, _⟩ ?_ rfl (by kernel_rfl) (fun _ _ _ h => h) (Or.inl ⟨by rfl, ?_⟩) hSX ?_
                    rotate_left
                    · intro wX hS
                      have hq := (hS.cell (o := 0) hsl24 hn1).trans hsc
                      go_simp
                      (try with_reducible rfl)
                    (try simp only [Act.put, List.setIfInBounds_toArray, List.set_cons_succ, List.set_cons_zero])
                    refine tkPP 1 ⟨_, _, _, _, _, _⟩ ?_ rfl (by kernel_rfl) (fun _ _ _ h => h) (Or.inl ⟨by rfl, ?_⟩) ?_
                    rotate_left
                    · intro wX _
                      go_simp
                      (try with_reducible rfl)
                    (try simp only [Act.put, List.setIfInBounds_toArray, List.set_cons_succ, List.set_cons_zero])
                    refine tkPP 2 ⟨_, _, _, _, _, _⟩ ?_ rfl (by kernel_rfl) (fun _ _ _ h => h) (Or.inl ⟨by rfl, ?_⟩) ?_
                    rotate_left
                    · intro wX _
                      go_simp
                      (try with_reducible rfl)
                    (try simp only [Act.put, List.setIfInBounds_toArray, List.set_cons_succ, List.set_cons_zero])
                    refine tkPP 3 ⟨_, _, _, _, _, _⟩ ?_ rfl (by kernel_rfl) (fun _ _ _ h => h) (Or.inl ⟨by rfl, ?_⟩) ?_
                    rotate_left
                    · intro wX _
                      go_simp
                      (try with_reducible rfl)
                    (try simp only [Act.put, List.setIfInBounds_toArray, List.set_cons_succ, List.set_cons_zero])
                    refine tkP 4 ⟨_, _, _, _, _, _⟩ ?_ rfl (by kernel_rfl) (fun _ _ _ h => h) (Or.inl ⟨by rfl, ?_⟩) hSX ?_
                    rotate_left
                    · intro wX hS
                      have hq := (hS.cell (o := 0) hml2 hn2).trans hmc
                      go_simp
                      (try with_reducible rfl)
                    (try simp only [Act.put, List.setIfInBounds_toArray, List.set_cons_succ, List.set_cons_zero])
                    refine tkPP 6 ⟨_, _, _, _, _, _⟩ ?_ rfl (by kernel_rfl) (fun _ _ _ h => h) (Or.inl ⟨by rfl, ?_⟩) ?_
                    rotate_left
                    · intro wX _
                      go_simp
                      (try with_reducible rfl)
                    (try simp only [Act.put, List.setIfInBounds_toArray, List.set_cons_succ, List.set_cons_zero])
                    refine tkPP 7 ⟨_, _, _, _, _, _⟩ ?_ rfl (by kernel_rfl) (fun _ _ _ h => h) (Or.inl ⟨by rfl, ?_⟩) ?_
                    rotate_left
                    · intro wX _
                      go_simp
                      (try with_reducible rfl)
                    (try simp only [Act.put, List.setIfInBounds_toArray, List.set_cons_succ, List.set_cons_zero])
                    refine tkPP 8 ⟨_, _, _, _, _, _⟩ ?_ rfl (by kernel_rfl) (fun _ _ _ h => h) (Or.inl ⟨by rfl, ?_⟩) ?_
                    rotate_left
                    · intro wX _
                      go_simp
                      (try with_reducible rfl)
                    (try simp only [Act.put, List.setIfInBounds_toArray, List.set_cons_succ, List.set_cons_zero])
                    refine tkPP 9 ⟨_, _, _, _, _, _⟩ ?_ rfl (by kernel_rfl) (fun _ _ _ h => h) (Or.inl ⟨by rfl, ?_⟩) ?_
                    rotate_left
                    · intro wX _
                      go_simp
                      (try with_reducible rfl)
                    (try simp only [Act.put, List.setIfInBounds_toArray, List.set_cons_succ, List.set_cons_zero])
                    refine tkP 10 ⟨_, _, _, _, _, _⟩ ?_ rfl (by kernel_rfl) (fun _ _ _ h => h) (Or.inl ⟨by rfl, ?_⟩) hSX ?_
                    rotate_left
                    · intro wX hS
                      have hq := (hS.cell (o := 0) hll2 hn3).trans hlc
                      go_simp
                      (try with_reducible rfl)
                    (try simp only [Act.put, List.setIfInBounds_toArray, List.set_cons_succ, List.set_cons_zero])
                    refine tkPP 11 ⟨_, _, _, _, _, _⟩ ?_ rfl (by kernel_rfl) (fun _ _ _ h => h) (Or.inl ⟨by rfl, ?_⟩) ?_
                    rotate_left
                    · intro wX _
                      go_simp
                      (try with_reducible rfl)
                    (try simp only [Act.put, List.setIfInBounds_toArray, List.set_cons_succ, List.set_cons_zero])
                    refine tkPP 13 ⟨_, _, _, _, _, _⟩ ?_ rfl (by kernel_rfl) (fun _ _ _ h => h) (Or.inl ⟨by rfl, ?_⟩) ?_
                    rotate_left
                    · intro wX _
                      go_simp
                      (try with_reducible rfl)
                    (try simp only [Act.put, List.setIfInBounds_toArray, List.set_cons_succ, List.set_cons_zero])
                    refine wpAnyP_two (i := 5) (j := 12) (oi := ⟨_, _, _, _, _, _⟩) (oj := ⟨_, _, _, _, _, _⟩) (by kernel_rfl) rfl rfl ?_ ?_ <;> intro K hK
                    · go_simp
                      refine hK _ _ (.inr fun h => h.trans (KpM.of_ext ((Ext.refl _).alloc _))) ?_
                      clear hK
                      refine wpAnyP_one (i := 12) (o := ⟨_, _, _, _, _, _⟩) (by kernel_rfl) rfl ?_ <;> intro K hK
                      go_simp
                      refine hK _ _ (.inr fun h => h.trans (KpM.of_ext ((Ext.refl _).alloc _))) ?_
                      clear hK
                      have hz5 := (show IntsAt ((Y.alloc (.cells #[.int .i64 0] 3)).alloc (.cells (iv (List.replicate gn 0)).toArray 3)) (some ⟨Y.heap.size, 0, none⟩) [0] from ints_new (zs := [0]) ((Ext.refl _).alloc _))
                      have hz12 := (show IntsAt ((Y.alloc (.cells #[.int .i64 0] 3)).alloc (.cells (iv (List.replicate gn 0)).toArray 3)) (some ⟨Y.heap.size + 1, 0, none⟩) (List.replicate gn 0) from (by have := ints_new (zs := List.replicate gn 0) (w := Y.alloc (.cells #[.int .i64 0] 3)) (W := (Y.alloc (.cells #[.int .i64 0] 3)).alloc (.cells (iv (List.replicate gn 0)).toArray 3)) (t := 3) (Ext.refl _); rw [World.size_alloc] at this; exact this))
                      have EW2 : Ext w24 ((Y.alloc (.cells #[.int .i64 0] 3)).alloc (.cells (iv (List.replicate gn 0)).toArray 3)) := (EY.alloc _).comp ((Ext.refl _).alloc _)
                      generalize (Y.alloc (.cells #[.int .i64 0] 3)).alloc (.cells (iv (List.replicate gn 0)).toArray 3) = X26 at hz5 hz12 EW2 ⊢
                      obtain ⟨n5, hn5⟩ : ∃ n5, Y.heap.size = n5 := ⟨_, rfl⟩
                      obtain ⟨n12, hn12⟩ : ∃ n12, Y.heap.size + 1 = n12 := ⟨_, rfl⟩
                      rw [hn5] at hz5; rw [hn12] at hz12; rw [hn12, hn5]
                      refine wpAnyP_one (i := 14) (o := ⟨_, _, _, _, _, _⟩) (by kernel_rfl) rfl ?_ <;> intro K hK
                      go_simp
                      refine hK _ _ (.inr fun h => h.trans (KpM.of_ext ((Ext.refl _).alloc _))) ?_
                      clear hK
                      have hrb := Blk.nw X26 #[.slice am lm cm, .slice (some ⟨n5, 0, none⟩) 1 1, .slice al ll cl, .slice (some ⟨n12, 0, none⟩) gn gn, .slice a15 lr c15] 22
                      have EW3 := EW2.comp ((Ext.refl X26).alloc (.cells #[.slice am lm cm, .slice (some ⟨n5, 0, none⟩) 1 1, .slice al ll cl, .slice (some ⟨n12, 0, none⟩) gn gn, .slice a15 lr c15] 22))
                      have EX3 : Ext X26 (X26.alloc (.cells #[.slice am lm cm, .slice (some ⟨n5, 0, none⟩) 1 1, .slice al ll cl, .slice (some ⟨n12, 0, none⟩) gn gn, .slice a15 lr c15] 22)) := (Ext.refl X26).alloc _
                      generalize X26.alloc (.cells #[.slice am lm cm, .slice (some ⟨n5, 0, none⟩) 1 1, .slice al ll cl, .slice (some ⟨n12, 0, none⟩) gn gn, .slice a15 lr c15] 22) = X27 at hrb EW3 EX3 ⊢
                      obtain ⟨br, hbr⟩ : ∃ br, X26.heap.size = br := ⟨_, rfl⟩
                      rw [hbr] at hrb ⊢
                      have hcc := lb_concat5 br am (some ⟨n5, 0, none⟩) al (some ⟨n12, 0, none⟩) a15 cm 1 cl gn c15 mw [0] lw (List.replicate gn 0) rt X27 22 (by rw [HLM.out, HLL.out, HLR.out, List.length_replicate]; exact hrb) (HMI.out.1.ext EW3) (hz5.ext EX3) (HMI.out.2.1.ext EW3) (hz12.ext EX3) (HMI.out.2.2.ext EW3) (by decide) HTOT.out
                      obtain ⟨fl, hfl⟩ : ∃ fl, mw ++ [0] ++ lw ++ List.replicate gn 0 ++ rt = fl := ⟨_, rfl⟩
                      rw [hfl] at hcc
                      have HFL := Lib.hid hfl
                      have HEW3 := Lib.hid EW3
                      clear hfl hz5 hz12 EW2 hrb EX3 EW3 hn5 hn12 hbr
                      refine wpAnyP_one (i := 15) (o := ⟨_, _, _, _, _, _⟩) (by kernel_rfl) rfl ?_ <;> intro K hK
                      go_simp
                      go_at_call 70
                      refine hcc.mono ?_
                      rintro e w28 ⟨ra, rc, rfl, hro, E28⟩
                      refine hK _ _ (.inr fun h => h.trans (KpM.of_ext E28)) ?_
                      clear hK hcc
                      refine tkPP 16 ⟨_, _, _, _, _, _⟩ ?_ rfl (by kernel_rfl) (fun _ _ _ h => h) (Or.inl ⟨by rfl, ?_⟩) ?_
                      rotate_left
                      · intro wX _
                        go_simp
                        (try with_reducible rfl)
                      (try simp only [Act.put, List.setIfInBounds_toArray, List.set_cons_succ, List.set_cons_zero])
                      have hb28 := HBP24.out.ex (HEW3.out.comp E28)
                      have k28 := hb28.c 0 (v := .slice none 0 0) rfl
                      have f28 := hb28.f 0
                      have hbl28 := hb28.lt
                      have HB28 := Lib.hid (hb28.st 0 (.slice ra fl.length rc))
                      have hs28 := HEW3.out.size
                      have HRO := Lib.hid (own_set (p := ⟨bp, 0, none⟩) hro (fun e => by have := (hro.lt _ e).1; dsimp only at this; omega) (.slice ra fl.length rc))
                      have HE28 := Lib.hid (ext_put (p := ⟨bp, 0, none⟩) (HE24.out.comp (HEW3.out.comp E28)) (.slice ra fl.length rc) (by have := HBP.out; dsimp only; omega))
                      have HSZ := Lib.hid (show w.heap.size ≤ X27.heap.size ∧ bp < X27.heap.size from ⟨by have := HE24.out.size; omega, by omega⟩)
                      clear hb28 hro E28 hSX EY
                      refine wpAnyP_one (i := 17) (o := ⟨_, _, _, _, _, _⟩) (by kernel_rfl) rfl ?_ <;> intro K hK
                      go_simp
                      refine hK _ _ (.inr fun h => h.trans (KpM.set (M := fun k => k = bp) (p := ⟨bp, 0, none⟩) rfl _)) ?_
                      clear hK
                      refine wpAnyP_done (by kernel_rfl) ?_ _
                      have hb29 := HB28.out
                      simp only [List.setIfInBounds_toArray, List.set_cons_zero] at hb29
                      generalize w28.setCell ⟨bp, 0, none⟩ (.slice ra fl.length rc) = w29 at *
                      have z0 := Blk.c hb29 0 (v := .slice ra fl.length rc) rfl
                      have z1 := Blk.c hb29 1 (v := .int .i64 0) rfl
                      have z2 := Blk.c hb29 2 (v := .int .i64 o) rfl
                      have f0 := Blk.f hb29 0
                      have f1 := Blk.f hb29 1
                      have f2 := Blk.f hb29 2
                      have hl29 := hb29.lt
                      have HB29 := Lib.hid hb29
                      clear hb29 k28 f28 HB28
                      go_wp2_with fail
                      have hb3 := blk3 HB29.out
                      have r0 := Blk.c hb3 0 (v := .slice ra fl.length rc) rfl
                      have r1 := Blk.c hb3 1 (v := .int .i64 0) rfl
                      have r2 := Blk.c hb3 2 (v := .int .i64 o) rfl
                      refine bodyPost_ret (v := .tuple #[.agg #[.slice ra fl.length rc, .int .i64 0, .int .i64 o], .int .i64 0]) (by simp [results, Try.results26, go_sem, r0, r1, r2]) rfl ?_
                      rw [HRE2.out, HFL.out]
                      have hnb : (Value.slice ra fl.length rc).ownBlock ≠ some bp := fun e => by have := (HRO.out.lt _ e).1; have := HSZ.out.2; omega
                      exact ⟨ra, rc, rfl, own_le (own_set (p := ⟨bp, 2, none⟩) (own_set (p := ⟨bp, 1, none⟩) (own_set (p := ⟨bp, 0, none⟩) HRO.out hnb _) hnb _) hnb _) HSZ.out.1, ext3 HE28.out (by have := HBP.out; omega)⟩
                    · go_simp
                      refine hK _ _ (.inr fun h => h.trans (KpM.of_ext ((Ext.refl _).alloc _))) ?_
                      clear hK
                      refine wpAnyP_one (i := 5) (o := ⟨_, _, _, _, _, _⟩) (by kernel_rfl) rfl ?_ <;> intro K hK
                      go_simp
                      refine hK _ _ (.inr fun h => h.trans (KpM.of_ext ((Ext.refl _).alloc _))) ?_
                      clear hK
                      have hz5 := (show IntsAt ((Y.alloc (.cells (iv (List.replicate gn 0)).toArray 3)).alloc (.cells #[.int .i64 0] 3)) (some ⟨Y.heap.size + 1, 0, none⟩) [0] from (by have := ints_new (zs := [0]) (w := Y.alloc (.cells (iv (List.replicate gn 0)).toArray 3)) (W := (Y.alloc (.cells (iv (List.replicate gn 0)).toArray 3)).alloc (.cells #[.int .i64 0] 3)) (t := 3) (Ext.refl _); rw [World.size_alloc] at this; exact this))
                      have hz12 := (show IntsAt ((Y.alloc (.cells (iv (List.replicate gn 0)).toArray 3)).alloc (.cells #[.int .i64 0] 3)) (some ⟨Y.heap.size, 0, none⟩) (List.replicate gn 0) from ints_new (zs := List.replicate gn 0) ((Ext.refl _).alloc _))
                      have EW2 : Ext w24 ((Y.alloc (.cells (iv (List.replicate gn 0)).toArray 3)).alloc (.cells #[.int .i64 0] 3)) := (EY.alloc _).comp ((Ext.refl _).alloc _)
                      generalize (Y.alloc (.cells (iv (List.replicate gn 0)).toArray 3)).alloc (.cells #[.int .i64 0] 3) = X26 at hz5 hz12 EW2 ⊢
                      obtain ⟨n5, hn5⟩ : ∃ n5, Y.heap.size + 1 = n5 := ⟨_, rfl⟩
                      obtain ⟨n12, hn12⟩ : ∃ n12, Y.heap.size = n12 := ⟨_, rfl⟩
                      rw [hn5] at hz5; rw [hn12] at hz12; rw [hn5, hn12]
                      refine wpAnyP_one (i := 14) (o := ⟨_, _, _, _, _, _⟩) (by kernel_rfl) rfl ?_ <;> intro K hK
                      go_simp
                      refine hK _ _ (.inr fun h => h.trans (KpM.of_ext ((Ext.refl _).alloc _))) ?_
                      clear hK
                      have hrb := Blk.nw X26 #[.slice am lm cm, .slice (some ⟨n5, 0, none⟩) 1 1, .slice al ll cl, .slice (some ⟨n12, 0, none⟩) gn gn, .slice a15 lr c15] 22
                      have EW3 := EW2.comp ((Ext.refl X26).alloc (.cells #[.slice am lm cm, .slice (some ⟨n5, 0, none⟩) 1 1, .slice al ll cl, .slice (some ⟨n12, 0, none⟩) gn gn, .slice a15 lr c15] 22))
                      have EX3 : Ext X26 (X26.alloc (.cells #[.slice am lm cm, .slice (some ⟨n5, 0, none⟩) 1 1, .slice al ll cl, .slice (some ⟨n12, 0, none⟩) gn gn, .slice a15 lr c15] 22)) := (Ext.refl X26).alloc _
                      generalize X26.alloc (.cells #[.slice am lm cm, .slice (some ⟨n5, 0, none⟩) 1 1, .slice al ll cl, .slice (some ⟨n12, 0, none⟩) gn gn, .slice a15 lr c15] 22) = X27 at hrb EW3 EX3 ⊢
                      obtain ⟨br, hbr⟩ : ∃ br, X26.heap.size = br := ⟨_, rfl⟩
                      rw [hbr] at hrb ⊢
                      have hcc := lb_concat5 br am (some ⟨n5, 0, none⟩) al (some ⟨n12, 0, none⟩) a15 cm 1 cl gn c15 mw [0] lw (List.replicate gn 0) rt X27 22 (by rw [HLM.out, HLL.out, HLR.out, List.length_replicate]; exact hrb) (HMI.out.1.ext EW3) (hz5.ext EX3) (HMI.out.2.1.ext EW3) (hz12.ext EX3) (HMI.out.2.2.ext EW3) (by decide) HTOT.out
                      obtain ⟨fl, hfl⟩ : ∃ fl, mw ++ [0] ++ lw ++ List.replicate gn 0 ++ rt = fl := ⟨_, rfl⟩
                      rw [hfl] at hcc
                      have HFL := Lib.hid hfl
                      have HEW3 := Lib.hid EW3
                      clear hfl hz5 hz12 EW2 hrb EX3 EW3 hn5 hn12 hbr
                      refine wpAnyP_one (i := 15) (o := ⟨_, _, _, _, _, _⟩) (by kernel_rfl) rfl ?_ <;> intro K hK
                      go_simp
                      go_at_call 70
                      refine hcc.mono ?_
                      rintro e w28 ⟨ra, rc, rfl, hro, E28⟩
                      refine hK _ _ (.inr fun h => h.trans (KpM.of_ext E28)) ?_
                      clear hK hcc
                      refine tkPP 16 ⟨_, _, _, _, _, _⟩ ?_ rfl (by kernel_rfl) (fun _ _ _ h => h) (Or.inl ⟨by rfl, ?_⟩) ?_
                      rotate_left
                      · intro wX _
                        go_simp
                        (try with_reducible rfl)
                      (try simp only [Act.put, List.setIfInBounds_toArray, List.set_cons_succ, List.set_cons_zero])
                      have hb28 := HBP24.out.ex (HEW3.out.comp E28)
                      have k28 := hb28.c 0 (v := .slice none 0 0) rfl
                      have f28 := hb28.f 0
                      have hbl28 := hb28.lt
                      have HB28 := Lib.hid (hb28.st 0 (.slice ra fl.length rc))
                      have hs28 := HEW3.out.size
                      have HRO := Lib.hid (own_set (p := ⟨bp, 0, none⟩) hro (fun e => by have := (hro.lt _ e).1; dsimp only at this; omega) (.slice ra fl.length rc))
                      have HE28 := Lib.hid (ext_put (p := ⟨bp, 0, none⟩) (HE24.out.comp (HEW3.out.comp E28)) (.slice ra fl.length rc) (by have := HBP.out; dsimp only; omega))
                      have HSZ := Lib.hid (show w.heap.size ≤ X27.heap.size ∧ bp < X27.heap.size from ⟨by have := HE24.out.size; omega, by omega⟩)
                      clear hb28 hro E28 hSX EY
                      refine wpAnyP_one (i := 17) (o := ⟨_, _, _, _, _, _⟩) (by kernel_rfl) rfl ?_ <;> intro K hK
                      go_simp
                      refine hK _ _ (.inr fun h => h.trans (KpM.set (M := fun k => k = bp) (p := ⟨bp, 0, none⟩) rfl _)) ?_
                      clear hK
                      refine wpAnyP_done (by kernel_rfl) ?_ _
                      have hb29 := HB28.out
                      simp only [List.setIfInBounds_toArray, List.set_cons_zero] at hb29
                      generalize w28.setCell ⟨bp, 0, none⟩ (.slice ra fl.length rc) = w29 at *
                      have z0 := Blk.c hb29 0 (v := .slice ra fl.length rc) rfl
                      have z1 := Blk.c hb29 1 (v := .int .i64 0) rfl
                      have z2 := Blk.c hb29 2 (v := .int .i64 o) rfl
                      have f0 := Blk.f hb29 0
                      have f1 := Blk.f hb29 1
                      have f2 := Blk.f hb29 2
                      have hl29 := hb29.lt
                      have HB29 := Lib.hid hb29
                      clear hb29 k28 f28 HB28
                      go_wp2_with fail
                      have hb3 := blk3 HB29.out
                      have r0 := Blk.c hb3 0 (v := .slice ra fl.length rc) rfl
                      have r1 := Blk.c hb3 1 (v := .int .i64 0) rfl
                      have r2 := Blk.c hb3 2 (v := .int .i64 o) rfl
                      refine bodyPost_ret (v := .tuple #[.agg #[.slice ra fl.length rc, .int .i64 0, .int .i64 o], .int .i64 0]) (by simp [results, Try.results26, go_sem, r0, r1, r2]) rfl ?_
                      rw [HRE2.out, HFL.out]
                      have hnb : (Value.slice ra fl.length rc).ownBlock ≠ some bp := fun e => by have := (HRO.out.lt _ e).1; have := HSZ.out.2; omega
                      exact ⟨ra, rc, rfl, own_le (own_set (p := ⟨bp, 2, none⟩) (own_set (p := ⟨bp, 1, none⟩) (own_set (p := ⟨bp, 0, none⟩) HRO.out hnb _) hnb _) hnb _) HSZ.out.1, ext3 HE28.out (by have := HBP.out; omega)⟩
end
end Go.Proofs.Ytcijneecjkpebaa
