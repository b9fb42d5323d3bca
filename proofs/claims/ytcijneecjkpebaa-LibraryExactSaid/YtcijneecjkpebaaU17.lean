import Derived.Lib.AppendZeros
import Derived.Lib.AppendZerosOnto
import Derived.Test.YtcijneecjkpebaaU16
import Derived.Test.YtcijneecjkpebaaU2
import Derived.Test.YtcijneecjkpebaaU3
import Derived.Test.YtcijneecjkpebaaU6
import Derived.Test.YtcijneecjkpebaaUP2
set_option linter.unusedVariables false
set_option linter.unusedSimpArgs false
/- Layer 8's reference: routines that are the same. -/
namespace Go.Proofs.Ytcijneecjkpebaa
open Go.RowKit Go.Q
set_option maxRecDepth 100000 in
set_option maxHeartbeats 4000000 in
theorem rb_codes (c : Rt) (l k : Lo) (w : World) (h1 : RtAt w c l) (h2 : RtAt w c k) (hb : RtBd c) :
    Calls Try.prog 17 #[.agg #[.slice l.a1 c.words.length l.c1, .slice l.a2 c.masks.length l.c2, .int .i64 c.entry, .int .i64 c.exit, .int .i64 c.result, .slice l.a3 c.args.length l.c3], .agg #[.slice k.a1 c.words.length k.c1, .slice k.a2 c.masks.length k.c2, .int .i64 c.entry, .int .i64 c.exit, .int .i64 c.result, .slice k.a3 c.args.length k.c3]] w fun e w' => e = .returned (.bool true) ∧ Ext w w' := by
  have i1 := fun W (E : Ext w W) => ints_any l.a1 k.a1 _ _ l.c1 k.c1 c.words c.words W rfl rfl hb.b1 hb.b1 (h1.i1.ext E) (h2.i1.ext E)
  have i2 := fun W (E : Ext w W) => ints_any l.a2 k.a2 _ _ l.c2 k.c2 c.masks c.masks W rfl rfl hb.b2 hb.b2 (h1.i2.ext E) (h2.i2.ext E)
  have i3 := fun W (E : Ext w W) => ints_any l.a3 k.a3 _ _ l.c3 k.c3 c.args c.args W rfl rfl hb.b3 hb.b3 (h1.i3.ext E) (h2.i3.ext E)
  simp only [decide_true] at i1 i2 i3
  clear h1 h2 hb
  generalize c.words.length = l1 at *
  generalize c.masks.length = l2 at *
  generalize c.args.length = l3 at *
  generalize c.entry = en at *
  generalize c.exit = ex at *
  generalize c.result = re at *
  obtain ⟨p1, k1, p2, k2, p3, k3⟩ := l
  obtain ⟨r1, j1, r2, j2, r3, j3⟩ := k
  dsimp only at i1 i2 i3 ⊢
  clear c
  go_enter Try.func17, Try.ntmps17
  go_upto_region 1 with fail
  obtain ⟨X, hX⟩ : ∃ X, ((w.alloc (.cells #[.slice p1 l1 k1, .slice p2 l2 k2, .int .i64 en, .int .i64 ex, .int .i64 re, .slice p3 l3 k3] 24)).alloc (.cells #[.slice r1 l1 j1, .slice r2 l2 j2, .int .i64 en, .int .i64 ex, .int .i64 re, .slice r3 l3 j3] 24)) = X := ⟨_, rfl⟩
  have E0 : Ext w X := by rw [← hX]; exact (by repeat (first | with_reducible exact Ext.refl _ | with_reducible refine Ext.alloc ?_ _ | with_reducible refine Below.drew ?_))
  have hbx : Blk X w.heap.size #[.slice p1 l1 k1, .slice p2 l2 k2, .int .i64 en, .int .i64 ex, .int .i64 re, .slice p3 l3 k3] 24 := by rw [← hX]; exact (Blk.nw _ _ _).al _
  have hby : Blk X (w.heap.size + 1) #[.slice r1 l1 j1, .slice r2 l2 j2, .int .i64 en, .int .i64 ex, .int .i64 re, .slice r3 l3 j3] 24 := by
    rw [← hX]
    have := Blk.nw (w.alloc (.cells #[.slice p1 l1 k1, .slice p2 l2 k2, .int .i64 en, .int .i64 ex, .int .i64 re, .slice p3 l3 k3] 24)) #[.slice r1 l1 j1, .slice r2 l2 j2, .int .i64 en, .int .i64 ex, .int .i64 re, .slice r3 l3 j3] 24
    rw [World.size_alloc] at this
    exact this
  rw [hX]
  clear hX
  obtain ⟨B, hB⟩ : ∃ B, w.heap.size = B := ⟨_, rfl⟩
  rw [hB] at hbx hby ⊢
  clear hB
  have HBX := Lib.hid hbx
  have HBY := Lib.hid hby
  have HE0 := Lib.hid E0
  have q0 := Blk.c hbx 0 (v := .slice p1 l1 k1) rfl
  have t0 := Blk.c hby 0 (v := .slice r1 l1 j1) rfl
  clear hbx hby E0
  have c1 := i1 X HE0.out
  clear i1
  go_wp2_with (go_at_call 25; refine c1.mono ?_; rintro e w1 ⟨rfl, E1⟩; clear q0 t0 c1; have hx1 := HBX.out.ex E1; have hy1 := HBY.out.ex E1; have q1 := hx1.c 1 (v := .slice p2 l2 k2) rfl; have t1 := hy1.c 1 (v := .slice r2 l2 j2) rfl; have EE := HE0.out.comp E1; have HEE := Lib.hid EE; have HX1 := Lib.hid hx1; have HY1 := Lib.hid hy1; clear hx1 hy1)
  refine (i2 _ HEE.out).mono ?_
  rintro e w2 ⟨rfl, E2⟩
  have EE2 := HEE.out.comp E2
  have HE2 := Lib.hid EE2
  have hx2 := HX1.out.ex E2
  have hy2 := HY1.out.ex E2
  have HX2 := Lib.hid hx2
  have HY2 := Lib.hid hy2
  clear q1 t1 EE EE2 i2
  have q0 := Blk.c hx2 0 (v := .slice p1 l1 k1) rfl
  have q1 := Blk.c hx2 1 (v := .slice p2 l2 k2) rfl
  have q2 := Blk.c hx2 2 (v := .int .i64 en) rfl
  have q3 := Blk.c hx2 3 (v := .int .i64 ex) rfl
  have q4 := Blk.c hx2 4 (v := .int .i64 re) rfl
  have q5 := Blk.c hx2 5 (v := .slice p3 l3 k3) rfl
  have t0 := Blk.c hy2 0 (v := .slice r1 l1 j1) rfl
  have t1 := Blk.c hy2 1 (v := .slice r2 l2 j2) rfl
  have t2 := Blk.c hy2 2 (v := .int .i64 en) rfl
  have t3 := Blk.c hy2 3 (v := .int .i64 ex) rfl
  have t4 := Blk.c hy2 4 (v := .int .i64 re) rfl
  have t5 := Blk.c hy2 5 (v := .slice r3 l3 j3) rfl
  clear hx2 hy2
  go_wp2_with fail
  refine (i3 _ HE2.out).mono ?_
  rintro e w3 ⟨rfl, E3⟩
  have EE3 := HE2.out.comp E3
  have HE3 := Lib.hid EE3
  have hx3 := HX2.out.ex E3
  have hy3 := HY2.out.ex E3
  clear q0 q1 q2 q3 q4 q5 t0 t1 t2 t3 t4 t5 EE3 i3
  have q0 := Blk.c hx3 0 (v := .slice p1 l1 k1) rfl
  have q1 := Blk.c hx3 1 (v := .slice p2 l2 k2) rfl
  have q2 := Blk.c hx3 2 (v := .int .i64 en) rfl
  have q3 := Blk.c hx3 3 (v := .int .i64 ex) rfl
  have q4 := Blk.c hx3 4 (v := .int .i64 re) rfl
  have q5 := Blk.c hx3 5 (v := .slice p3 l3 k3) rfl
  have t0 := Blk.c hy3 0 (v := .slice r1 l1 j1) rfl
  have t1 := Blk.c hy3 1 (v := .slice r2 l2 j2) rfl
  have t2 := Blk.c hy3 2 (v := .int .i64 en) rfl
  have t3 := Blk.c hy3 3 (v := .int .i64 ex) rfl
  have t4 := Blk.c hy3 4 (v := .int .i64 re) rfl
  have t5 := Blk.c hy3 5 (v := .slice r3 l3 j3) rfl
  clear hx3 hy3
  go_wp2_with fail
  go_ret
  exact ⟨rfl, HE3.out⟩
end Go.Proofs.Ytcijneecjkpebaa
/- Layer 8: slices.Grow of nil and slices.Concat. -/
namespace Go.Proofs.Ytcijneecjkpebaa
open Go.RowKit Go.Q
set_option maxHeartbeats 1000000 in
theorem lb_grow (n : Nat) (w : World) (h0 : 0 < n) (hn : n ≤ 1000) :
    Calls Try.prog 116 #[.slice none 0 0, .int .i64 n] w fun e w' => ∃ v, e = .returned v ∧ w'.ownsRow w.heap.size 3 1 v 0 (iv []) ∧ Ext w w' := by
  obtain ⟨i0, hi0, hz0, hz1, hz2⟩ := info_parts Try.infoE
  have hnc : Builtin.nextslicecap (0 + n) 0 * i0.bytes ≤ 281474976710656 := growslice_fits (by omega) (by rw [hz2]; omega)
  have h := fun ty W => Lib.run_append_grow_zeros (P := Try.prog) W 22 3 ty 3 i0 (.int .i64 0) .i64 .i64 Try.underlying22 Try.underlying3 hi0 hz0 none 0 0 [] (run_firstCells_none W.drew i0.size 0 0 0) n h0 (by rw [hz1]; decide) (by omega) (by omega) (by rw [hz2]; omega) hnc
  obtain ⟨G, hG⟩ : ∃ G, grownCap w (0 + n) 0 3 = G := ⟨_, rfl⟩
  have hge : n ≤ G := by rw [← hG]; have := grownCap_ge w (0 + n) 0 3; omega
  have hle : G ≤ maxLen := by rw [← hG]; exact grownCap_le_maxLen w (0 + n) 0 3 (by unfold maxLen; omega)
  have hw := fun ty => h ty w
  clear h hnc
  obtain ⟨cs, hcs⟩ : ∃ cs : Array Value, (#[] ++ Builtin.zeroCells (Value.int .i64 0).cells n ++ Builtin.zeroCells (Value.int .i64 0).cells (G - (0 + n))) = cs := ⟨_, rfl⟩
  have hsz : cs.size = G := by
    rw [← hcs]
    have hz : (Value.int .i64 0).cells.size = 1 := rfl
    simp [Builtin.zeroCells, hz]
    omega
  rw [hG] at hw
  have hrow : (w.drew.alloc (.cells cs 3)).ownsRow w.heap.size 3 1 (.slice (some ⟨w.heap.size, 0, none⟩) 0 G) 0 (iv []) :=
    ⟨rfl, .inr ⟨w.heap.size, G, cs, rfl, Nat.le_refl _, heap_alloc_new w.drew _, Nat.zero_le _, hle, by rw [hsz, Nat.mul_one], rfl⟩⟩
  have E : Ext w (w.drew.alloc (.cells cs 3)) := Ext.comp (Ext.refl w).drew ((Ext.refl w.drew).alloc _)
  have hw2 : ∀ ty, (Builtin.append_ #[22, 3] ty #[.slice none 0 0, .int .i64 n]).run Try.prog w = .ok (.slice (some ⟨w.heap.size, 0, none⟩) n G) (w.drew.alloc (.cells cs 3)) := fun ty => by
    have := hw ty
    simp only [List.toArray, hcs] at this
    rw [Nat.zero_add] at this
    first | exact this | (rw [← hcs]; simpa using hw ty)
  obtain ⟨X, hX⟩ : ∃ X, w.drew.alloc (.cells cs 3) = X := ⟨_, rfl⟩
  rw [hX] at hrow E hw2
  have HR := Lib.hid hrow
  have HE := Lib.hid E
  have hGz : G ≤ 9223372036854775807 := by unfold maxLen at hle; omega
  clear hw hcs hsz hrow E hX hG hz0 hz1 hz2 hi0 hle
  go_enter Try.func116, Try.ntmps116
  go_wp2_with (at_builtin; refine Lib.wpList_append_run _ rfl _ _ _ _ rfl _ _ rfl rfl _ _ (hw2 _) ?_)
  go_ret
  exact ⟨_, rfl, HR.out, HE.out⟩
/-- the first j lists, one behind the other -/
def flatN (L : List (List Int)) (j : Nat) : List Int := (L.take j).flatten
theorem flatN_succ {L : List (List Int)} {j : Nat} {xs : List Int} (h : L[j]? = some xs) : flatN L (j + 1) = flatN L j ++ xs := by
  unfold flatN
  rw [take_get h, List.flatten_append]
  simp
theorem flatN_le (L : List (List Int)) (j : Nat) : (flatN L j).length ≤ L.flatten.length := by
  unfold flatN
  conv => rhs; rw [← List.take_append_drop j L, List.flatten_append, List.length_append]
  omega
set_option maxRecDepth 100000 in
set_option maxHeartbeats 2000000 in
theorem lb_concat (b n c : Nat) (A : Nat → Option Addr) (C : Nat → Nat) (L : List (List Int)) (w : World) (hn : L.length = n) (hn9 : n ≤ 9) (hb : b < w.heap.size)
    (hI : ∀ j xs, L[j]? = some xs → w.cell? ⟨b, j, none⟩ = some (.slice (A j) xs.length (C j)) ∧ IntsAt w (A j) xs) (h0 : 0 < L.flatten.length) (h1 : L.flatten.length ≤ 1000) :
    Calls Try.prog 70 #[.slice (some ⟨b, 0, none⟩) n c] w fun e w' => ∃ a c', e = .returned (.slice a L.flatten.length c') ∧ w'.ownsRow w.heap.size 3 1 (.slice a L.flatten.length c') L.flatten.length (iv L.flatten) ∧ Ext w w' := by
  have hgr := fun W => lb_grow L.flatten.length W h0 h1
  have HI := Lib.hid hI
  have HN := Lib.hid hn
  have HF := Lib.hid (flatN_le L)
  have hall : flatN L n = L.flatten := by unfold flatN; rw [← hn, List.take_length]
  have HA := Lib.hid hall
  clear hI hn hall
  generalize hT : L.flatten.length = T at *
  have HT := Lib.hid hT
  clear hT
  obtain ⟨i0, hi0, hz0, hz1, hz2⟩ := info_parts Try.infoE
  go_enter Try.func70, Try.ntmps70
  go_wp2
  go_loop [3, 5, 11] (fun s3 _ s11 => ∃ j : Nat, j ≤ n ∧ s11 = .int .i64 (j : Int) ∧ s3 = .int .i64 ((flatN L j).length : Int)) (fun _ _ s => n - (intOf s).toNat)
  case atStart => exact ⟨0, Nat.zero_le _, rfl, rfl⟩
  case round =>
    obtain ⟨j, hj, rfl, rfl⟩ := hrel
    by_cases hlt : j < n
    · have hltz : (j : Int) < (n : Int) := by omega
      obtain ⟨xs, hxs⟩ : ∃ xs, L[j]? = some xs := ⟨_, List.getElem?_eq_getElem (by rw [HN.out]; exact hlt)⟩
      obtain ⟨hc, hi⟩ := HI.out j xs hxs
      have hs := flatN_succ hxs
      have hf1 := HF.out (j + 1)
      rw [hs, List.length_append] at hf1
      have HS := Lib.hid hs
      have hlen : (flatN L j).length + xs.length ≤ 1000 := by omega
      have HL2 := Lib.hid (show (flatN L (j + 1)).length = (flatN L j).length + xs.length by rw [hs, List.length_append])
      generalize (flatN L j).length = p at *
      clear hs hf1
      have hnn : ¬ ((p : Int) + (xs.length : Int) < 0) := by omega
      go_wp2
      go_round
      case rel => exact ⟨j + 1, by omega, by go_num, by rw [HL2.out]; go_num⟩
      case measure => simp [intOf]; omega
    · have hltz : ¬ (j : Int) < (n : Int) := by omega
      obtain rfl : j = n := by omega
      have hp : (flatN L j).length = T := by rw [HA.out, HT.out]
      rw [hp]
      clear hp
      go_wp2_with fail
      refine (hgr _).mono ?_
      rintro e w1 ⟨v0, rfl, ho, E1⟩
      have HO := Lib.hid ho
      have HE := Lib.hid E1
      clear ho E1 hgr
      go_wp2_with fail
      go_loopw [6, 8, 27] (fun s6 _ s27 wr => ∃ k : Nat, k ≤ j ∧ s27 = .int .i64 (k : Int) ∧ Aside (Gw w.heap.size (fun _ => False) w1 wr s6 (flatN L k))) (fun _ _ s _ => j - (intOf s).toNat)
      case atStart => exact ⟨0, Nat.zero_le _, rfl, Gw.start HO.out (fun _ _ h => h)⟩
      case round =>
        obtain ⟨k, hk, rfl, HG⟩ := hrel
        have EW := HG.out.old HE.out (Nat.le_refl _)
        by_cases hlk : k < j
        · have hlkz : (k : Int) < (j : Int) := by omega
          obtain ⟨xs, hxs⟩ : ∃ xs, L[k]? = some xs := ⟨_, List.getElem?_eq_getElem (by rw [HN.out]; exact hlk)⟩
          obtain ⟨hc, hi⟩ := HI.out k xs hxs
          have hc2 : wr.cell? ⟨b, k, none⟩ = some (.slice (A k) xs.length (C k)) := (EW.cell (p := ⟨b, k, none⟩) hb).trans hc
          have hfr := from_ints (hi.ext EW)
          have hbr : b < wr.heap.size := Nat.lt_of_lt_of_le hb EW.size
          have hsz := EW.size
          have hs := flatN_succ hxs
          have hf1 := HF.out (k + 1)
          rw [hs, List.length_append] at hf1
          have HS := Lib.hid hs
          have hgw := HG.out
          have hlen : (flatN L k).length + xs.length ≤ 1000 := by omega
          clear hs hf1 hc hi HG
          generalize flatN L k = ls at *
          go_wp2_with (at_builtin; refine wpList_app2 rfl _ _ 22 rfl 3 i0 (.int .i64 0) 1 8 Try.underlying22 hi0 hz0 hz1 hz2 rfl (by decide) _ ls.length w.heap.size (iv ls) rfl hgw.row hsz (A k) xs.length (C k) (iv xs) rfl (by rw [iv_length, Nat.mul_one]) hfr (iv_one _) (by unfold maxLen; omega) (by omega) ?_; intro v2 W2 ho2 hg2 ha2)
          go_roundw
          case rel => exact ⟨k + 1, by omega, by go_num, (show Gw _ _ _ _ _ _ by rw [HS.out]; exact Gw.app hgw (Ext.refl _) rfl ho2 hg2 ha2 (fun k h => h.elim))⟩
          case measure => simp [intOf]; omega
        · have hlkz : ¬ (k : Int) < (j : Int) := by omega
          obtain rfl : k = j := by omega
          have hrow := HG.out.row
          rw [HA.out, HT.out] at hrow
          obtain ⟨a', c', hv⟩ := own_slice hrow
          subst hv
          have HR := Lib.hid hrow
          have HEW := Lib.hid EW
          clear hrow EW HG
          go_wp2_with fail
          go_ret
          exact ⟨a', c', rfl, HR.out, HEW.out⟩
end Go.Proofs.Ytcijneecjkpebaa
/- Layer 8 in plain Lean: what Build returns. -/
namespace Go.Q
/-- a call -/
structure Cl where
  name : ByteArray
  args : List Int
  dst : Int
def noEn : En := ⟨⟨#[]⟩, 0, ⟨[], [], 0, 0, 0, []⟩⟩
/-- the entry of a call -/
def entN (cat : List En) (c : Cl) : Nat := (findN cat c.name).getD 0
def entX (cat : List En) (i : Nat) : En := cat[i]?.getD noEn
/-- the error of a call, set being the registers that have something -/
def callE (cat : List En) (set : List Bool) (c : Cl) : Int :=
  if (findN cat c.name).isSome = false then 4
  else if c.args.length ≠ (entX cat (entN cat c)).code.args.length then 3
  else if inB c.dst 0 7 = false then 7
  else if c.args.all (fun r => inB r 0 7 && (set[r.toNat]?.getD false)) = false then 7
  else 0
/-- registers that have something, behind so many calls -/
def setN (inputs : Int) (cs : List Cl) : Nat → List Bool
  | 0 => (List.range 8).map fun (i : Nat) => decide ((i : Int) < inputs)
  | j + 1 => match cs[j]? with | none => setN inputs cs j | some c => (setN inputs cs j).set c.dst.toNat true
/-- the error of calls from j on -/
def callsN (cat : List En) (inputs : Int) (cs : List Cl) : Nat → Nat → Int
  | 0, _ => 0
  | f + 1, j => match cs[j]? with
    | none => 0
    | some c => if callE cat (setN inputs cs j) c ≠ 0 then callE cat (setN inputs cs j) c else callsN cat inputs cs f (j + 1)
def callsE (cat : List En) (inputs : Int) (cs : List Cl) : Int := callsN cat inputs cs cs.length 0
/-- how many orders, how many registers there are with the first j calls -/
def ordsN (inputs : Int) (cs : List Cl) : Nat → Int
  | 0 => inputs + 1
  | j + 1 => match cs[j]? with | none => ordsN inputs cs j | some c => ordsN inputs cs j + (c.args.length + 3)
def regsN (inputs : Int) (cs : List Cl) : Nat → Int
  | 0 => inputs
  | j + 1 => match cs[j]? with | none => regsN inputs cs j | some c => if c.dst + 1 ≤ regsN inputs cs j then regsN inputs cs j else c.dst + 1
/-- is entry i called? -/
def usedB (cat : List En) (cs : List Cl) (i : Nat) : Bool := cs.any fun c => entN cat c == i
/-- where entry i comes, if it is called -/
def baseN (cat : List En) (cs : List Cl) (e : Int) : Nat → Int
  | 0 => e
  | i + 1 => if usedB cat cs i = true then baseN cat cs e i + (entX cat i).code.words.length else baseN cat cs e i
/-- the words of the entries ahead of i that are called -/
def routN (cat : List En) (cs : List Cl) (e : Int) : Nat → List Int
  | 0 => []
  | i + 1 => if usedB cat cs i = true then routN cat cs e i ++ placeL (entX cat i).code ((baseN cat cs e i) % 128) else routN cat cs e i
/-- the first j orders that read -/
def inN (first : Int) (j : Nat) : List Int := (List.range j).map fun (i : Nat) => written ⟨6, 0, first + i, i + 1⟩
/-- the first k orders of a call that bring arguments, the first of them at at -/
def argN (at_ first base : Int) (xs ys : List Int) (k : Nat) : List Int := (List.range k).map fun (t : Nat) => written ⟨1, first + xs[t]?.getD 0, base + ys[t]?.getD 0, at_ + t + 1⟩
/-- a call's orders -/
def goW (link base : Int) (c : Rt) : Int := written ⟨1, link, base + c.exit, base + c.entry⟩
def backW (at_ first base : Int) (c : Rt) (d : Int) : Int := written ⟨1, base + c.result, first + d, at_ + 1⟩
def printW (at_ first d : Int) : Int := written ⟨7, first + d, 0, at_ + 1⟩
def callW (at_ first base link : Int) (c : Rt) (x : Cl) : List Int :=
  argN at_ first base x.args c.args x.args.length ++ [goW link base c, backW (at_ + x.args.length + 1) first base c x.dst, printW (at_ + x.args.length + 2) first x.dst]
section
variable (cat : List En) (inputs : Int) (cs : List Cl)
def ordsE : Int := ordsN inputs cs cs.length
def regsE : Int := regsN inputs cs cs.length
def firstE : Int := ordsE inputs cs + cs.length
def endE : Int := firstE inputs cs + regsE inputs cs
def mainN : Nat → List Int
  | 0 => inN (firstE inputs cs) inputs.toNat
  | j + 1 => match cs[j]? with
    | none => mainN j
    | some c => mainN j ++ callW (mainN j).length (firstE inputs cs) (baseN cat cs (endE inputs cs) (entN cat c)) (ordsE inputs cs + j) (entX cat (entN cat c)).code c
def linkN : Nat → List Int
  | 0 => []
  | j + 1 => match cs[j]? with
    | none => linkN j
    | some c => linkN j ++ [written ⟨1, 0, 0, (mainN cat inputs cs j).length + c.args.length + 1⟩]
/-- what Build returns: orders, the store, the error -/
def buildE : Int × List Int × Int :=
  if soundE cat ≠ 0 then (0, [], soundE cat)
  else if inB inputs 0 6 = false then (0, [], 7)
  else if 5 < cs.length then (0, [], 3)
  else if callsE cat inputs cs ≠ 0 then (0, [], callsE cat inputs cs)
  else if 128 < baseN cat cs (endE inputs cs) cat.length then (0, [], 3)
  else (ordsE inputs cs, mainN cat inputs cs cs.length ++ [0] ++ linkN cat inputs cs cs.length ++ List.replicate (regsE inputs cs).toNat 0 ++ routN cat cs (endE inputs cs) cat.length, 0)
end
end Go.Q
/- Layer 8 in plain Lean: Build's numbers are in range where it comes to something. -/
namespace Go.Q
variable {cat : List En} {inputs : Int} {cs : List Cl}
theorem inB_tt {n a b : Int} (h : inB n a b = true) : a ≤ n ∧ n ≤ b := inB_bd h
theorem callsN_ok : ∀ (f j : Nat), callsN cat inputs cs f j = 0 → ∀ i c, j ≤ i → i < j + f → cs[i]? = some c → callE cat (setN inputs cs i) c = 0
  | 0, j, _, i, c, h1, h2, _ => by omega
  | f + 1, j, h, i, c, h1, h2, hc => by
    have hl : i < cs.length := by
      rcases Nat.lt_or_ge i cs.length with h | h
      · exact h
      · rw [List.getElem?_eq_none h] at hc; cases hc
    have hj : j < cs.length := by omega
    rw [callsN, List.getElem?_eq_getElem hj] at h
    dsimp only at h
    split at h
    · rename_i h3; exact absurd h h3
    · rename_i h3
      rcases Nat.eq_or_lt_of_le h1 with rfl | h4
      · rw [List.getElem?_eq_getElem hj] at hc
        cases hc
        omega
      · exact callsN_ok f (j + 1) h i c h4 (by omega) hc
theorem calls_ok (h : callsE cat inputs cs = 0) : ∀ i c, cs[i]? = some c → callE cat (setN inputs cs i) c = 0 := fun i c hc => by
  refine callsN_ok _ _ h i c (Nat.zero_le _) ?_ hc
  rcases Nat.lt_or_ge i cs.length with h | h
  · omega
  · rw [List.getElem?_eq_none h] at hc; cases hc
/-- what a good call says -/
structure ClOk (cat : List En) (set : List Bool) (c : Cl) (x : En) : Prop where
  find : findN cat c.name = some (entN cat c)
  get : cat[entN cat c]? = some x
  len : c.args.length = x.code.args.length
  dst : 0 ≤ c.dst ∧ c.dst ≤ 7
  args : ∀ r ∈ c.args, 0 ≤ r ∧ r ≤ 7 ∧ set[r.toNat]? = some true
theorem find_lt {n : ByteArray} {k : Nat} (h : findN cat n = some k) : k < cat.length := by
  unfold findN at h
  exact (List.findIdx?_eq_some_iff_getElem.1 h).1
theorem call_ok {set : List Bool} {c : Cl} (h : callE cat set c = 0) : ClOk cat set c (entX cat (entN cat c)) := by
  unfold callE at h
  split at h
  · omega
  split at h
  · omega
  split at h
  · omega
  split at h
  · omega
  rename_i h1 h2 h3 h4
  obtain ⟨k, hk⟩ : ∃ k, findN cat c.name = some k := by
    cases e : findN cat c.name with
    | none => rw [e] at h1; exact absurd rfl h1
    | some k => exact ⟨k, rfl⟩
  have he : entN cat c = k := by unfold entN; rw [hk]; rfl
  have hlt := find_lt hk
  refine ⟨by rw [he]; exact hk, ?_, by omega, inB_tt (by simpa using h3), fun r hr => ?_⟩
  · unfold entX
    rw [he, List.getElem?_eq_getElem hlt]; rfl
  · have h5 : c.args.all (fun r => inB r 0 7 && (set[r.toNat]?.getD false)) = true := by simpa using h4
    rw [List.all_eq_true] at h5
    have h6 := h5 r hr
    rw [Bool.and_eq_true] at h6
    have h7 := inB_tt h6.1
    refine ⟨h7.1, h7.2, ?_⟩
    cases e : set[r.toNat]? with
    | none => rw [e] at h6; exact absurd h6.2 (by decide)
    | some b => rw [e] at h6; have : b = true := h6.2; rw [this]
theorem setN_len (inputs : Int) (cs : List Cl) : ∀ j, (setN inputs cs j).length = 8
  | 0 => by simp [setN]
  | j + 1 => by
    rw [setN]
    split
    · exact setN_len inputs cs j
    · rw [List.length_set]; exact setN_len inputs cs j
theorem regsN_le (inputs : Int) (cs : List Cl) (j : Nat) : regsN inputs cs j ≤ regsN inputs cs (j + 1) := by
  rw [regsN]
  split
  · omega
  · split <;> omega
theorem regsN_mono (inputs : Int) (cs : List Cl) {i j : Nat} (h : i ≤ j) : regsN inputs cs i ≤ regsN inputs cs j := by
  induction j with
  | zero => rw [show i = 0 by omega]; exact Int.le_refl _
  | succ j ih =>
    rcases Nat.eq_or_lt_of_le h with rfl | h
    · exact Int.le_refl _
    · exact Int.le_trans (ih (by omega)) (regsN_le inputs cs j)
theorem regsN_to (inputs : Int) {cs : List Cl} {j : Nat} {c : Cl} (h : cs[j]? = some c) : c.dst + 1 ≤ regsN inputs cs (j + 1) := by
  rw [regsN, h]
  dsimp only
  split <;> omega
theorem set_lt (hto : ∀ (i : Nat) (c : Cl), cs[i]? = some c → 0 ≤ c.dst) : ∀ (j r : Nat), (setN inputs cs j)[r]? = some true → (r : Int) < regsN inputs cs j
  | 0, r, h => by
    rw [setN, List.getElem?_map] at h
    rw [regsN]
    cases e : (List.range 8)[r]? with
    | none => rw [e] at h; cases h
    | some q =>
      rw [e] at h
      have hq := List.getElem?_range (n := 8) (i := r)
      rcases Nat.lt_or_ge r 8 with h8 | h8
      · rw [hq h8] at e
        cases e
        simpa using h
      · rw [List.getElem?_eq_none (by simpa using h8)] at e; cases e
  | j + 1, r, h => by
    rw [setN] at h
    split at h
    · exact Int.lt_of_lt_of_le (set_lt hto j r h) (regsN_le inputs cs j)
    · rename_i c hc
      by_cases e : c.dst.toNat = r
      · have := regsN_to inputs hc
        have := hto j c hc
        omega
      · rw [List.getElem?_set_ne e] at h
        exact Int.lt_of_lt_of_le (set_lt hto j r h) (regsN_le inputs cs j)
theorem ordsN_le (inputs : Int) (cs : List Cl) (j : Nat) : ordsN inputs cs j ≤ ordsN inputs cs (j + 1) := by
  rw [ordsN]
  split
  · omega
  · omega
theorem ordsN_mono (inputs : Int) (cs : List Cl) {i j : Nat} (h : i ≤ j) : ordsN inputs cs i ≤ ordsN inputs cs j := by
  induction j with
  | zero => rw [show i = 0 by omega]; exact Int.le_refl _
  | succ j ih =>
    rcases Nat.eq_or_lt_of_le h with rfl | h
    · exact Int.le_refl _
    · exact Int.le_trans (ih (by omega)) (ordsN_le inputs cs j)
theorem baseN_le (cat : List En) (cs : List Cl) (e : Int) (i : Nat) : baseN cat cs e i ≤ baseN cat cs e (i + 1) := by
  rw [baseN]
  split <;> omega
theorem baseN_mono (cat : List En) (cs : List Cl) (e : Int) {i j : Nat} (h : i ≤ j) : baseN cat cs e i ≤ baseN cat cs e j := by
  induction j with
  | zero => rw [show i = 0 by omega]; exact Int.le_refl _
  | succ j ih =>
    rcases Nat.eq_or_lt_of_le h with rfl | h
    · exact Int.le_refl _
    · exact Int.le_trans (ih (by omega)) (baseN_le cat cs e j)
theorem used_ent {j : Nat} {c : Cl} (h : cs[j]? = some c) : usedB cat cs (entN cat c) = true := by
  unfold usedB
  rw [List.any_eq_true]
  exact ⟨c, List.mem_of_getElem? h, by simp⟩
theorem callW_len (at_ first base link : Int) (c : Rt) (x : Cl) : (callW at_ first base link c x).length = x.args.length + 3 := by
  unfold callW argN
  simp
theorem main_len (hi : 0 ≤ inputs) : ∀ j, ((mainN cat inputs cs j).length : Int) + 1 = ordsN inputs cs j
  | 0 => by
    rw [mainN, ordsN]
    unfold inN
    rw [List.length_map, List.length_range]
    omega
  | j + 1 => by
    have ih := main_len hi j
    rw [mainN, ordsN]
    split
    · exact ih
    · rw [List.length_append, callW_len]
      push_cast
      omega
theorem link_len : ∀ j, j ≤ cs.length → (linkN cat inputs cs j).length = j
  | 0, _ => rfl
  | j + 1, h => by
    rw [linkN, List.getElem?_eq_getElem (by omega)]
    dsimp only
    rw [List.length_append, link_len j (by omega)]
    rfl
theorem rout_len (cat : List En) (cs : List Cl) (e : Int) : ∀ i, ((routN cat cs e i).length : Int) = baseN cat cs e i - e
  | 0 => by rw [routN, baseN]; simp
  | i + 1 => by
    have ih := rout_len cat cs e i
    rw [routN, baseN]
    split
    · rw [List.length_append]
      unfold placeL
      rw [placeN_length]
      push_cast
      omega
    · exact ih
theorem ord_b {op a b c : Int} (h0 : 0 ≤ op ∧ op ≤ 7) (h1 : 0 ≤ a ∧ a ≤ 127) (h2 : 0 ≤ b ∧ b ≤ 127) (h3 : 0 ≤ c ∧ c ≤ 127) : ordB ⟨op, a, b, c⟩ = true := by
  unfold ordB addrB inB
  dsimp only
  rw [decide_eq_true h0.1, decide_eq_true h0.2, decide_eq_true h1.1, decide_eq_true h1.2, decide_eq_true h2.1, decide_eq_true h2.2, decide_eq_true h3.1, decide_eq_true h3.2]
  rfl
theorem check_len {c : Rt} (h : checkR c = 0) : 1 ≤ c.words.length ∧ c.words.length ≤ 40 ∧ 1 ≤ c.args.length ∧ c.args.length ≤ 2 := by
  unfold checkR at h
  split at h
  · omega
  · rename_i h1
    have a1 : inB c.words.length 1 40 = true := by
      cases e : inB (c.words.length : Int) 1 40 with
      | true => rfl
      | false => exact absurd (.inl e) h1
    have a2 : inB c.args.length 1 2 = true := by
      cases e : inB (c.args.length : Int) 1 2 with
      | true => rfl
      | false => exact absurd (.inr (.inr e)) h1
    have := inB_tt a1
    have := inB_tt a2
    omega
theorem check_places {c : Rt} (h : checkR c = 0) : (0 ≤ c.entry ∧ c.entry < c.words.length) ∧ (0 ≤ c.exit ∧ c.exit < c.words.length) ∧ (0 ≤ c.result ∧ c.result < c.words.length) ∧ ∀ a ∈ c.args, 0 ≤ a ∧ a < c.words.length := by
  unfold checkR at h
  split at h
  · omega
  split at h
  · omega
  split at h
  · omega
  rename_i h1
  have h2 : ([c.entry, c.exit, c.result] ++ c.args).all (fun p => inB p 0 ((c.words.length : Int) - 1)) = true := by simpa using h1
  rw [List.all_eq_true] at h2
  have f : ∀ x ∈ [c.entry, c.exit, c.result] ++ c.args, 0 ≤ x ∧ x < c.words.length := fun x hx => by
    have := inB_tt (h2 x hx)
    omega
  exact ⟨f _ (by simp), f _ (by simp), f _ (by simp), fun a ha => f a (by simp [ha])⟩
/-- what holds where Build comes to something -/
structure BdOk (cat : List En) (inputs : Int) (cs : List Cl) : Prop where
  snd : soundE cat = 0
  inp : 0 ≤ inputs ∧ inputs ≤ 6
  len : cs.length ≤ 5
  calls : callsE cat inputs cs = 0
  fits : baseN cat cs (endE inputs cs) cat.length ≤ 128
theorem sound_get (h : soundE cat = 0) {i : Nat} {x : En} (hx : cat[i]? = some x) : Good x := by
  unfold soundE at h
  split at h
  · omega
  · exact (sound_good h).1 x (List.mem_of_getElem? hx)
section
variable (H : BdOk cat inputs cs)
include H
theorem BdOk.good {j : Nat} {c : Cl} (hc : cs[j]? = some c) : ClOk cat (setN inputs cs j) c (entX cat (entN cat c)) := call_ok (calls_ok H.calls j c hc)
theorem BdOk.to0 : ∀ (i : Nat) (c : Cl), cs[i]? = some c → 0 ≤ c.dst := fun _ _ hc => (H.good hc).dst.1
theorem BdOk.code {j : Nat} {c : Cl} (hc : cs[j]? = some c) : checkR (entX cat (entN cat c)).code = 0 := (sound_get H.snd (H.good hc).get).code
/-- a routine that is called lies within the store -/
theorem BdOk.base {j : Nat} {c : Cl} (hc : cs[j]? = some c) : endE inputs cs ≤ baseN cat cs (endE inputs cs) (entN cat c) ∧ baseN cat cs (endE inputs cs) (entN cat c) + (entX cat (entN cat c)).code.words.length ≤ 128 := by
  have hg := H.good hc
  have h1 : entN cat c < cat.length := find_lt hg.find
  have h2 := baseN_mono cat cs (endE inputs cs) (show entN cat c + 1 ≤ cat.length from h1)
  have h3 := baseN_mono cat cs (endE inputs cs) (Nat.zero_le (entN cat c))
  have h4 := H.fits
  rw [baseN, if_pos (used_ent hc)] at h2
  rw [baseN] at h3
  omega
theorem BdOk.end0 : endE inputs cs ≤ 128 := by
  have h3 := baseN_mono cat cs (endE inputs cs) (Nat.zero_le cat.length)
  rw [baseN] at h3
  have := H.fits
  omega
theorem BdOk.pos : 1 ≤ ordsE inputs cs ∧ ordsE inputs cs ≤ firstE inputs cs ∧ 0 ≤ regsE inputs cs ∧ firstE inputs cs + regsE inputs cs ≤ 128 := by
  have h1 := ordsN_mono inputs cs (Nat.zero_le cs.length)
  have h2 := regsN_mono inputs cs (Nat.zero_le cs.length)
  have h3 := H.end0
  have := H.inp
  rw [ordsN] at h1
  rw [regsN] at h2
  unfold endE at h3
  unfold firstE at *
  unfold ordsE regsE at *
  omega
theorem BdOk.reg {j : Nat} {c : Cl} (hc : cs[j]? = some c) : c.dst < regsE inputs cs ∧ ∀ r ∈ c.args, 0 ≤ r ∧ r < regsE inputs cs := by
  have hl : j < cs.length := by
    rcases Nat.lt_or_ge j cs.length with h | h
    · exact h
    · rw [List.getElem?_eq_none h] at hc; cases hc
  have h1 := regsN_to inputs hc
  have h2 := regsN_mono inputs cs (show j + 1 ≤ cs.length from hl)
  have h3 := regsN_mono inputs cs (show j ≤ cs.length by omega)
  unfold regsE
  refine ⟨by omega, fun r hr => ?_⟩
  obtain ⟨r0, r7, hs⟩ := (H.good hc).args r hr
  have h4 := set_lt H.to0 j r.toNat hs
  omega
theorem BdOk.at_ {j : Nat} {c : Cl} (hc : cs[j]? = some c) : ((mainN cat inputs cs j).length : Int) + c.args.length + 3 + 1 ≤ ordsE inputs cs := by
  have hl : j < cs.length := by
    rcases Nat.lt_or_ge j cs.length with h | h
    · exact h
    · rw [List.getElem?_eq_none h] at hc; cases hc
  have h1 := ordsN_mono inputs cs (show j + 1 ≤ cs.length from hl)
  have h2 := main_len (cat := cat) (cs := cs) H.inp.1 j
  rw [ordsN, hc] at h1
  dsimp only at h1
  unfold ordsE
  omega
theorem BdOk.o_in {i : Nat} (hi : (i : Int) < inputs) : ordB ⟨6, 0, firstE inputs cs + i, i + 1⟩ = true := by
  have h := H.pos
  have := H.inp
  have h2 := regsN_mono inputs cs (Nat.zero_le cs.length)
  have h1 := ordsN_mono inputs cs (Nat.zero_le cs.length)
  rw [regsN] at h2
  rw [ordsN] at h1
  unfold ordsE regsE at h
  exact ord_b (by omega) (by omega) (by omega) (by omega)
theorem BdOk.o_arg {j k : Nat} {c : Cl} (hc : cs[j]? = some c) {r a : Int} (hk : c.args[k]? = some r) (ha : (entX cat (entN cat c)).code.args[k]? = some a) :
    ordB ⟨1, firstE inputs cs + r, baseN cat cs (endE inputs cs) (entN cat c) + a, (mainN cat inputs cs j).length + k + 1⟩ = true := by
  have h := H.pos
  have h1 := (H.reg hc).2 r (List.mem_of_getElem? hk)
  have h2 := H.base hc
  have h3 := (check_places (H.code hc)).2.2.2 a (List.mem_of_getElem? ha)
  have h4 := H.at_ hc
  have h5 : k < c.args.length := by
    rcases Nat.lt_or_ge k c.args.length with h | h
    · exact h
    · rw [List.getElem?_eq_none h] at hk; cases hk
  have h6 : endE inputs cs = firstE inputs cs + regsE inputs cs := rfl
  exact ord_b (by omega) (by omega) (by omega) (by omega)
theorem BdOk.o_go {j : Nat} {c : Cl} (hc : cs[j]? = some c) :
    ordB ⟨1, ordsE inputs cs + j, baseN cat cs (endE inputs cs) (entN cat c) + (entX cat (entN cat c)).code.exit, baseN cat cs (endE inputs cs) (entN cat c) + (entX cat (entN cat c)).code.entry⟩ = true := by
  have h := H.pos
  have h2 := H.base hc
  have h3 := check_places (H.code hc)
  have hl : j < cs.length := by
    rcases Nat.lt_or_ge j cs.length with h | h
    · exact h
    · rw [List.getElem?_eq_none h] at hc; cases hc
  have h6 : endE inputs cs = firstE inputs cs + regsE inputs cs := rfl
  have h7 : firstE inputs cs = ordsE inputs cs + cs.length := rfl
  exact ord_b (by omega) (by omega) (by omega) (by omega)
theorem BdOk.o_link {j : Nat} {c : Cl} (hc : cs[j]? = some c) : ordB ⟨1, 0, 0, (mainN cat inputs cs j).length + c.args.length + 1⟩ = true := by
  have h := H.pos
  have h4 := H.at_ hc
  exact ord_b (by omega) (by omega) (by omega) (by omega)
theorem BdOk.o_back {j : Nat} {c : Cl} (hc : cs[j]? = some c) : ordB ⟨1, baseN cat cs (endE inputs cs) (entN cat c) + (entX cat (entN cat c)).code.result, firstE inputs cs + c.dst, (mainN cat inputs cs j).length + c.args.length + 2⟩ = true := by
  have h := H.pos
  have h2 := H.base hc
  have h3 := check_places (H.code hc)
  have h4 := H.at_ hc
  have h5 := (H.reg hc).1
  have h8 := H.to0 j c hc
  have h6 : endE inputs cs = firstE inputs cs + regsE inputs cs := rfl
  exact ord_b (by omega) (by omega) (by omega) (by omega)
theorem BdOk.o_print {j : Nat} {c : Cl} (hc : cs[j]? = some c) : ordB ⟨7, firstE inputs cs + c.dst, 0, (mainN cat inputs cs j).length + c.args.length + 3⟩ = true := by
  have h := H.pos
  have h4 := H.at_ hc
  have h5 := (H.reg hc).1
  have h8 := H.to0 j c hc
  exact ord_b (by omega) (by omega) (by omega) (by omega)
end
/-- what holds ahead of the question whether all of it fits -/
structure BdCk (cat : List En) (inputs : Int) (cs : List Cl) : Prop where
  snd : soundE cat = 0
  inp : 0 ≤ inputs ∧ inputs ≤ 6
  len : cs.length ≤ 5
  calls : callsE cat inputs cs = 0
section
variable (H : BdCk cat inputs cs)
include H
theorem BdCk.good {j : Nat} {c : Cl} (hc : cs[j]? = some c) : ClOk cat (setN inputs cs j) c (entX cat (entN cat c)) := call_ok (calls_ok H.calls j c hc)
theorem BdCk.cat6 : cat.length ≤ 6 := by
  have h := H.snd
  unfold soundE at h
  split at h
  · omega
  · omega
theorem BdCk.args {j : Nat} {c : Cl} (hc : cs[j]? = some c) : c.args.length ≤ 2 := by
  have h := H.good hc
  have := check_len (sound_get H.snd h.get).code
  have := h.len
  omega
theorem BdCk.ords : ∀ j, j ≤ cs.length → 1 ≤ ordsN inputs cs j ∧ ordsN inputs cs j ≤ 7 + 5 * j
  | 0, _ => by rw [ordsN]; have := H.inp; omega
  | j + 1, h => by
    have ih := BdCk.ords j (by omega)
    rw [ordsN, List.getElem?_eq_getElem (by omega)]
    dsimp only
    have := H.args (List.getElem?_eq_getElem (show j < cs.length by omega))
    omega
theorem BdCk.regs : ∀ j, j ≤ cs.length → 0 ≤ regsN inputs cs j ∧ regsN inputs cs j ≤ 8
  | 0, _ => by rw [regsN]; have := H.inp; omega
  | j + 1, h => by
    have ih := BdCk.regs j (by omega)
    rw [regsN, List.getElem?_eq_getElem (by omega)]
    dsimp only
    have := (H.good (List.getElem?_eq_getElem (show j < cs.length by omega))).dst
    split <;> omega
theorem BdCk.words {i : Nat} {x : En} (hx : cat[i]? = some x) : 1 ≤ x.code.words.length ∧ x.code.words.length ≤ 40 := by
  have := check_len (sound_get H.snd hx).code
  omega
theorem BdCk.base {e : Int} (h0 : 0 ≤ e) : ∀ i, i ≤ cat.length → 0 ≤ baseN cat cs e i ∧ baseN cat cs e i ≤ e + 40 * i ∧ ((routN cat cs e i).length : Int) ≤ 40 * i
  | 0, _ => by rw [baseN, routN]; simp; omega
  | i + 1, h => by
    have ih := BdCk.base h0 i (by omega)
    have hg := List.getElem?_eq_getElem (show i < cat.length by omega)
    have hw := H.words hg
    have he : entX cat i = cat[i] := by unfold entX; rw [hg]; rfl
    rw [baseN, routN, he]
    split
    · rw [List.length_append]
      unfold placeL
      rw [placeN_length]
      push_cast
      omega
    · omega
end
theorem BdOk.bdCk (H : BdOk cat inputs cs) : BdCk cat inputs cs := ⟨H.snd, H.inp, H.len, H.calls⟩
end Go.Q
