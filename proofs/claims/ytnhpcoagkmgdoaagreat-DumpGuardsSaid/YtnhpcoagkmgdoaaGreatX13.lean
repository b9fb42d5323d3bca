import Derived.Deep.RegionHeld3
import Derived.Defers
import Derived.Recover
import Derived.RecoverIn
import Derived.Laws.Pointers
import Derived.Test.YtnhpcoagkmgdoaaGreatX3
import Derived.Test.YtnhpcoagkmgdoaaGreatX6
import Derived.Test.YtnhpcoagkmgdoaaGreatX7
import Derived.Test.YtnhpcoagkmgdoaaGreatX1
import Derived.Test.YtnhpcoagkmgdoaaGreatX12
set_option linter.unusedVariables false
set_option linter.unusedSimpArgs false
/- Layer 4 in plain Lean: a run that has ended stays; runs one after the other are one run; what a run leaves. -/
namespace Go.Q
theorem runQ_end {s : St} (h : s.why ≠ 0) : ∀ n, runQ n s = s
 | 0 => rfl
 | n + 1 => by simp [runQ, h]
theorem runQ_add (a : Nat) : ∀ (b : Nat) (s : St), runQ (a + b) s = runQ b (runQ a s)
 | 0, s => rfl
 | b + 1, s => by
  rw [← Nat.add_assoc, runQ_snoc (a + b) s, runQ_snoc b (runQ a s), runQ_add a b s]
theorem idxQ_none {p : Int → Bool} {xs : List Int} (h : ∀ x ∈ xs, p x = false) : ¬ 0 ≤ idxQ p xs := by
 have e := idxQ_nonneg p xs
 have : xs.any p = false := List.any_eq_false.2 (fun x hx => by simp [h x hx])
 rw [this] at e
 exact of_decide_eq_false e
theorem check_of_valid {s : St} (h : Valid s) : checkQ s = (0, 0, 0) := by
 have bw : ∀ {xs : List Int}, (∀ x ∈ xs, 0 ≤ x ∧ x ≤ 16777215) → ¬ 0 ≤ idxQ badW xs := fun hx => idxQ_none (fun x hm => by
  have := hx x hm
  simp only [badW, wordB, inB, Bool.not_eq_false', Bool.and_eq_true, decide_eq_true_eq]
  exact this)
 have hl : lensB s = true := by
  simp only [lensB, Bool.and_eq_true, beq_iff_eq, decide_eq_true_eq]
  exact ⟨⟨h.len, h.tlen⟩, h.plen⟩
 have hf : fieldsB s = true := by
  simp only [fieldsB, addrB, inB, Bool.and_eq_true, decide_eq_true_eq]
  exact ⟨⟨⟨⟨h.taken, h.time⟩, h.at_⟩, h.done⟩, h.why⟩
 unfold checkQ
 rw [if_neg (by simp [hl]), if_neg (bw h.ws), if_neg (bw h.wt), if_neg (bw h.wp), if_neg (by simp [hf]), if_neg (by simpa using h.place)]
end Go.Q
/- Layer 10 in plain Lean: dumps: a state's words; Restart of the dump of a state is the state; what is different in two states. -/
namespace Go.Q
/-- the words of a state -/
def headS (s : St) : List Int := [s.time % 16777216, s.time / 16777216, s.at_, s.done % 16777216, s.done / 16777216, s.why, s.taken, (s.tape.length : Int), (s.printed.length : Int)]
def wordsS (s : St) : List Int := headS s ++ (s.store ++ (s.tape ++ s.printed))
/-- what Dump returns -/
def dumpE (s : St) : List Nat × Int := if (checkQ s).2.2 = 0 then (tapeW (wordsS s), 0) else ([], (checkQ s).2.2)
def wAt (w : List Int) (i : Nat) : Int := w[i]?.getD 0
/-- the state of words -/
def stOf (w : List Int) : St := ⟨(w.drop 9).take 128, (w.drop 137).take (wAt w 7).toNat, wAt w 6, w.drop (137 + (wAt w 7).toNat), wAt w 1 * 16777216 + wAt w 0, wAt w 2, wAt w 4 * 16777216 + wAt w 3, wAt w 5⟩
def formOk (w : List Int) : Bool := decide (137 ≤ w.length) && ((w.length : Int) == 137 + wAt w 7 + wAt w 8) && ((checkQ (stOf w)).2.2 == 0)
/-- what Restart returns -/
def restartE (rs : List Nat) : St × Int := if (readE rs).2.2.2 ≠ 0 then (zst, (readE rs).2.2.2) else if formOk (readE rs).1 = true then (stOf (readE rs).1, 0) else (zst, 6)
theorem wordsS_len (s : St) : (wordsS s).length = 9 + s.store.length + s.tape.length + s.printed.length := by
 unfold wordsS headS
 simp only [List.length_append, List.length_cons, List.length_nil]
 omega
theorem wordsS_ok {s : St} (h : Valid s) : wordOk (wordsS s) ∧ (wordsS s).length ≤ 560 := by
 have h1 := h.tlen
 have h2 := h.plen
 have h3 := h.len
 refine ⟨fun x hx => ?_, by rw [wordsS_len]; omega⟩
 unfold wordsS at hx
 rw [List.mem_append, List.mem_append, List.mem_append] at hx
 rcases hx with hx | hx | hx | hx
 ·have ht := h.time
  have hd := h.done
  have ha := h.at_
  have hw := h.why
  have hk := h.taken
  unfold headS at hx
  simp only [List.mem_cons, List.not_mem_nil, or_false] at hx
  rcases hx with rfl | rfl | rfl | rfl | rfl | rfl | rfl | rfl | rfl <;> omega
 ·exact h.ws x hx
 ·exact h.wt x hx
 ·exact h.wp x hx
/-- the words that are different in two states -/
structure Chd where
 addr : Int
 was : Int
 is_ : Int
def changedN (a b : List Int) (n : Nat) : List Chd := (List.range n).flatMap fun (i : Nat) => if a[i]?.getD 0 = b[i]?.getD 0 then [] else [⟨(i : Int), a[i]?.getD 0, b[i]?.getD 0⟩]
def changesE (a b : St) : List Chd × Int := if (checkQ a).2.2 ≠ 0 then ([], (checkQ a).2.2) else if (checkQ b).2.2 ≠ 0 then ([], (checkQ b).2.2) else (changedN a.store b.store 128, 0)
theorem changed_succ (a b : List Int) (n : Nat) : changedN a b (n + 1) = changedN a b n ++ if a[n]?.getD 0 = b[n]?.getD 0 then [] else [⟨(n : Int), a[n]?.getD 0, b[n]?.getD 0⟩] := by
 unfold changedN
 rw [List.range_succ, List.flatMap_append, List.flatMap_cons, List.flatMap_nil, List.append_nil]
end Go.Q
/- Layer 10's reference: the words of a state. -/
namespace Go.Proofs.YtnhpcoagkmgdoaaGreat
open Go.RowKit Go.Q Go.Joins
end Go.Proofs.YtnhpcoagkmgdoaaGreat
/- Layer 10's reference: Dump. -/
namespace Go.Proofs.YtnhpcoagkmgdoaaGreat
open Go.RowKit Go.Q Go.Joins
end Go.Proofs.YtnhpcoagkmgdoaaGreat
/- Layer 10's program: slices.Grow of nothing, slices.Concat of four rows, Dump. -/
namespace Go.Q
open Go.RowKit
section
variable {P : Program} {w : World} (base : Nat) (t ti ty e : TypeId) (i : TypeInfo) (zv : Value) (ht : P.underlying t = some (.slice e)) (hti : P.underlying ti = some (.int .i64)) (hi : P.info? e = some i) (hz : i.zero = some zv) (hsz : i.size = 1) (hzc : zv.cells = #[zv]) (hib : i.bytes ≤ 8)
include ht hti hi hz hsz hzc hib
theorem run_app_zeros_nil (m : Nat) (hm : 0 < m) (hm2 : m ≤ 1000) (hb : m * i.bytes ≤ 140737488355328) (h63 : m ≤ maxLen) (hbase : base ≤ w.heap.size) :
  ∃ g' c' w', (Builtin.append_ #[t, ti] ty #[.slice none 0 0, .int .i64 m]).run P w = .ok (.slice (some ⟨g', 0, none⟩) m c') w' ∧ w'.ownsRow base e 1 (.slice (some ⟨g', 0, none⟩) m c') m (List.replicate m zv) ∧ w.grownBy w' none := by
 have hsmall : m ≤ 9223372036854775807 := by unfold maxLen at h63; omega
 have hw : IntKind.i64.wrap (m : Int) = (m : Int) := IntWalk.i64_in _ (by omega)
 have hneg : ¬ (m : Int) < 0 := by omega
 have h48a : ¬ (281474976710656 : Int) < (m : Int) * (i.bytes : Int) := by
  have h2 : ((m * i.bytes : Nat) : Int) ≤ ((8000 : Nat) : Int) := Int.ofNat_le.2 (Nat.mul_le_mul hm2 hib)
  rw [Int.natCast_mul] at h2
  omega
 have hm0 : m ≠ 0 := by omega
 have hge := grownCap_ge w m 0 e
 have hcm2 : grownCap w m 0 e ≤ maxLen := grownCap_le_maxLen w m 0 e h63
 have h63' : ¬ (9223372036854775807 < (m : Int)) := by omega
 have h48' : ¬ (281474976710656 < Builtin.nextslicecap m 0 * i.bytes) := by
  have := growslice_fits (old := 0) (need := m) (bytes := i.bytes) (by omega) hb
  omega
 refine ⟨w.heap.size, grownCap w m 0 e, w.drew.alloc (.cells ((List.replicate m zv ++ List.replicate (grownCap w m 0 e - m) zv).toArray) e), ?_, ⟨by simp, .inr ⟨w.heap.size, _, _, rfl, hbase, heap_alloc_new w.drew _, hge, hcm2, ?_, ?_⟩⟩, ⟨rfl, rfl, rfl, by simp, fun k hk _ => heap_alloc_old w.drew _ hk⟩⟩
 ·simp [Builtin.append_, Builtin.firstCells, run_underlying ht, run_underlying hti, sizeOf, typeInfo, zeroValue, hi, hz, hsz, hw, hneg, h48a, hm0, hzc, zeroCells_one, h63', h48', Question.forced, newRow, grownCap, asInt, asIntOf]
 ·rw [Nat.mul_one]
  simp only [List.size_toArray, List.length_append, List.length_replicate]
  omega
 ·show List.take _ (List.replicate m zv ++ List.replicate _ zv) = _
  rw [Nat.mul_one]
  exact List.take_left' (by simp)
theorem wpList_app_zeros_nil {w0 : World} {ops : Array Oper} {rest : List Oper} {o : Oper} {act : Act} {Q : Exit → Act → World → Prop} (hgd : o.guard = none) (s x : Operand)
  (ho : o.op = .call { callee := .builtin .append, args := #[s, x], argTypes := #[t, ti] }) (he : act.eval s = .slice none 0 0) (hE : Ext w0 w) (m : Nat) (hx : act.eval x = .int .i64 m) (hm : 0 < m) (hm2 : m ≤ 1000) (hb : m * i.bytes ≤ 140737488355328) (h63 : m ≤ maxLen) (hb0 : w0.heap.size ≤ base) (hbase : base ≤ w.heap.size)
  (h : ∀ (g' c' : Nat) (w' : World), w'.ownsRow base e 1 (.slice (some ⟨g', 0, none⟩) m c') m (List.replicate m zv) → Ext w0 w' → wpList P ops Q rest (act.put o.dst (.slice (some ⟨g', 0, none⟩) m c')) w') : wpList P ops Q (o :: rest) act w := by
 refine wpList_plain hgd fun K hK => ?_
 obtain ⟨g', c', w', hr, h2, h3⟩ := run_app_zeros_nil base t ti o.type e i zv ht hti hi hz hsz hzc hib m hm hm2 hb h63 hbase
 have hk := hK _ _ (h g' c' w' h2 (hE.grown h3 (Nat.le_trans hb0 hbase) (fun k hk => by cases hk)))
 unfold Oper.wp execOp
 simp only [ho, resolve, invoke, builtin, Sem.run_bind, Sem.run_pure, Result.andThen_ok, List.map_toArray, List.map_cons, List.map_nil, he, hx, hr]
 exact hk
end
theorem own_zero {w : World} {B e n c g : Nat} {xs : List Value} (h : w.ownsRow B e 1 (.slice (some ⟨g, 0, none⟩) n c) n xs) : w.ownsRow B e 1 (.slice (some ⟨g, 0, none⟩) 0 c) 0 [] := by
 rcases h.2 with ⟨h1, _⟩ | ⟨g', cap, cur, h1, hb, hg, hn, hc, hs, _⟩
 ·cases h1
 ·cases h1
  exact ⟨rfl, .inr ⟨g, c, cur, rfl, hb, hg, Nat.zero_le _, hc, hs, by simp⟩⟩
end Go.Q
namespace Go.Proofs.YtnhpcoagkmgdoaaGreat
open Go.RowKit Go.Q Go.Shelf Go.Joins
set_option maxRecDepth 100000 in
set_option maxHeartbeats 2000000 in
theorem grow_any (m : Nat) (w : World) (hm : 0 < m) (hm2 : m ≤ 1000) : Calls Tryz.prog 93 #[.slice none 0 0, .int .i64 m] w fun e w' => ∃ g c, e = .returned (.slice (some ⟨g, 0, none⟩) 0 c) ∧ w'.ownsRow w.heap.size 3 1 (.slice (some ⟨g, 0, none⟩) 0 c) 0 [] ∧ Ext w w' := by
 obtain ⟨i0, hi0, hz0, hz1, hz2⟩ := info_parts Tryz.infoE
 have h1 : ¬ (m : Int) < 0 := by omega
 have h2 : (0 : Int) < (m : Int) := by omega
 go_enter Tryz.func93, Tryz.ntmps93
 go_wp2_with (at_builtin; refine wpList_app_zeros_nil (w0 := w) w.heap.size 22 3 3 i0 (.int .i64 0) Tryz.underlying22 Tryz.underlying3 hi0 hz0 hz1 rfl (by omega) rfl _ _ rfl rfl (Ext.refl _) m rfl hm hm2 (by rw [hz2]; omega) (by unfold maxLen; omega) (Nat.le_refl _) (Nat.le_refl _) ?_; intro g1 c1 w1 hown hE)
 have hcp := own_cap hown
 have hc0 : 0 < c1 := by omega
 have hst := fun W => slice_toI W g1 0 m c1 0 hc0 (Nat.zero_le _)
 have hst' := fun W => at_slice (hst W)
 have ho2 := own_zero hown
 clear hown
 go_wp2
 go_ret
 exact ⟨g1, c1, rfl, ho2, hE⟩
set_option maxRecDepth 100000 in
set_option maxHeartbeats 4000000 in
theorem concat_any (b off K c : Nat) (L : List (List Int)) (w : World) (hK : L.length = K) (hK2 : K ≤ 100) (vs : Nat → Option Addr) (cs : Nat → Nat) (hb : b < w.heap.size)
  (hcell : ∀ k, k < K → w.cell? ⟨b, off + k, none⟩ = some (.slice (vs k) (L[k]?.getD []).length (cs k))) (hI : ∀ k, k < K → IntsAt w (vs k) (L[k]?.getD [])) (all : List Int) (tl : Nat) (hfl : L.flatten = all) (htl : all.length = tl) (h0 : 0 < tl) (h1000 : tl ≤ 1000) :
  Calls Tryz.prog 65 #[.slice (some ⟨b, off, none⟩) K c] w (OwnRes tl all w) := by
 have HK := Lib.hid hK
 have HC := Lib.hid hcell
 have HI := Lib.hid hI
 obtain ⟨i0, hi0, hz0, hz1, hz2⟩ := info_parts Tryz.infoE
 have hsuc : ∀ k, k < K → (L.take (k + 1)).flatten = (L.take k).flatten ++ L[k]?.getD [] := fun k hk => by
  rw [List.take_add_one, List.flatten_append, List.getElem?_eq_getElem (by rw [HK.out]; exact hk)]
  simp
 have hmon : ∀ k, (L.take k).flatten.length ≤ tl := fun k => by
  rw [← htl, ← hfl]
  have h : L.flatten = (L.take k).flatten ++ (L.drop k).flatten := by rw [← List.flatten_append, List.take_append_drop]
  rw [h, List.length_append]
  omega
 have HS := Lib.hid hsuc
 have HMO := Lib.hid hmon
 have hall : (L.take K).flatten = all := by rw [List.take_of_length_le (by omega), hfl]
 have HA := Lib.hid hall
 have HTL := Lib.hid htl
 clear hK hcell hI hsuc hmon hall hfl htl
 go_enter Tryz.func65, Tryz.ntmps65
 go_wp2
 go_loopw [3, 11] (fun s3 s11 X => ∃ (k t : Nat), k ≤ K ∧ s11 = .int .i64 (k : Int) ∧ s3 = .int .i64 (t : Int) ∧ Hid ((L.take k).flatten.length = t) ∧ X = w) (fun _ s11 _ => K - (Go.RowKit.intOf s11).toNat)
 case atStart => exact ⟨0, 0, Nat.zero_le _, rfl, rfl, Lib.hid rfl, rfl⟩
 case round =>
  obtain ⟨k, t, hk, rfl, rfl, HT, rfl⟩ := hrel
  have ht := HMO.out k
  rw [HT.out] at ht
  by_cases hlt : k < K
  ·have hltz : (k : Int) < (K : Int) := by omega
   have hx := HC.out k hlt
   have h2 := HMO.out (k + 1)
   have h3 := HS.out k hlt
   obtain ⟨xs, hxs⟩ : ∃ xs, L[k]?.getD [] = xs := ⟨_, rfl⟩
   rw [hxs] at hx h3
   rw [h3, List.length_append, HT.out] at h2
   obtain ⟨n1, hn1⟩ : ∃ n1, xs.length = n1 := ⟨_, rfl⟩
   rw [hn1] at hx h2
   have w1 : IntKind.i64.wrap ((t : Int) + (n1 : Int)) = (t : Int) + (n1 : Int) := IntWalk.i64_in _ (by omega)
   have hnn : ¬ (t : Int) + (n1 : Int) < 0 := by omega
   have HT2 : Hid ((L.take (k + 1)).flatten.length = t + n1) := Lib.hid (by rw [h3, List.length_append, HT.out, hn1])
   clear hxs hn1 h3
   go_wp2
   go_roundw
   case rel => exact ⟨k + 1, t + n1, by omega, by go_num, by go_num, HT2, (by first | rfl | trivial)⟩
   case measure => simp [Go.RowKit.intOf]; omega
  ·have hltz : ¬ (k : Int) < (K : Int) := by omega
   obtain rfl : k = K := by omega
   obtain ⟨w0, rfl⟩ : ∃ w0 : World, w0 = wr := ⟨_, rfl⟩
   have HT2 := HT.out
   rw [HA.out] at HT2
   obtain rfl : tl = t := by rw [← HT2, HTL.out]
   have hgr := grow_any tl w0 (by omega) (by omega)
   clear HT2
   go_wp2_with fail
   refine hgr.mono ?_
   rintro e w1 ⟨g1, c1, rfl, hown, hE⟩
   go_wp2
   go_loopw [6, 27] (fun s6 s27 X => ∃ (j : Nat), j ≤ k ∧ s27 = .int .i64 (j : Int) ∧ (∃ a' c', s6 = .slice a' ((L.take j).flatten.length) c' ∧ X.ownsRow w0.heap.size 3 1 (.slice a' ((L.take j).flatten.length) c') ((L.take j).flatten.length) (iv (L.take j).flatten)) ∧ Ext w0 X) (fun _ s27 _ => k - (Go.RowKit.intOf s27).toNat)
   case atStart => exact ⟨0, Nat.zero_le _, rfl, ⟨_, _, rfl, hown⟩, hE⟩
   case round =>
    obtain ⟨j, hj, rfl, ⟨a', c', rfl, hown2⟩, EX⟩ := hrel
    by_cases hlj : j < k
    ·have hltz2 : (j : Int) < (k : Int) := by omega
     have hx := (EX.cell (p := ⟨b, off + j, none⟩) hb).trans (HC.out j hlj)
     have hix := (HI.out j hlj).ext EX
     have h2 := HMO.out (j + 1)
     have h3 := HS.out j hlj
     obtain ⟨xs, hxs⟩ : ∃ xs, L[j]?.getD [] = xs := ⟨_, rfl⟩
     rw [hxs] at hx h3 hix
     rw [h3, List.length_append] at h2
     have HX3 := Lib.hid h3
     obtain ⟨ys, hys⟩ : ∃ ys, (L.take j).flatten = ys := ⟨_, rfl⟩
     rw [hys] at hown2 h2 HX3 ⊢
     have hEs := EX.size
     clear hxs hys h3
     go_wp2_with (at_builtin; refine wpList_app (w0 := w0) rfl _ _ 22 rfl 3 i0 (.int .i64 0) 1 8 Tryz.underlying22 hi0 hz0 hz1 hz2 rfl (by decide) _ ys.length w0.heap.size (iv ys) rfl hown2 EX (Nat.le_refl _) hEs (vs j) xs.length (cs j) (iv xs) rfl (by rw [iv_length, Nat.mul_one]) (from_ints hix) (iv_one _) (by unfold maxLen; omega) (by omega) ?_; intro a2 c2 w2 ho2 hE2 _)
     go_roundw
     case rel => exact ⟨j + 1, by omega, by go_num, ⟨a2, c2, by rw [HX3.out, List.length_append], by rw [HX3.out, List.length_append, ← iv_app]; exact ho2⟩, hE2⟩
     case measure => simp [Go.RowKit.intOf]; omega
    ·have hltz2 : ¬ (j : Int) < (k : Int) := by omega
     obtain rfl : j = k := by omega
     rw [HA.out, HTL.out] at hown2
     rw [HA.out, HTL.out]
     go_wp2
     go_ret
     exact ⟨a', c', rfl, hown2, EX⟩
set_option maxRecDepth 100000 in
set_option maxHeartbeats 4000000 in
theorem ldump_any (v : Value) (s : St) (w : World) (h : StAt w v s) (hb : StBd s) :
  Calls Tryz.prog 34 #[v] w (RowsRes (dumpE s) w) := by
 have hc := fun W (E : Ext w W) => check_any v s W (h.ext E) hb
 obtain ⟨a1, a2, a3, k1, k2, k3, rfl, i1, i2, i3⟩ := h
 have hv := fun e => @valid_of_check s e
 obtain ⟨r, hr⟩ : ∃ r, dumpE s = r := ⟨_, rfl⟩
 rw [hr]
 have HR := Lib.hid hr
 unfold dumpE at HR
 obtain ⟨⟨q1, q2, q3⟩, hq⟩ : ∃ q, checkQ s = q := ⟨_, rfl⟩
 rw [hq] at hc hv HR
 dsimp only at hv HR
 unfold v3 at hc
 dsimp only at hc
 clear hr hq
 by_cases h0 : q3 = 0
 ·subst h0
  have hval := hv rfl
  rw [if_pos rfl] at HR
  have HRR := Lib.hid HR.out
  obtain ⟨hok, hwl⟩ := wordsS_ok hval
  obtain rfl : (tapeW (wordsS s), 0) = r := HRR.out
  have hl1 := hval.len
  have hl2 := hval.tlen
  have hl3 := hval.plen
  have hti := hval.time
  have hdo := hval.done
  obtain ⟨n2, hn2⟩ : ∃ n2, s.tape.length = n2 := ⟨_, rfl⟩
  obtain ⟨n3, hn3⟩ : ∃ n3, s.printed.length = n3 := ⟨_, rfl⟩
  rw [hl1, hn2, hn3] at hc
  rw [hl1, hn2, hn3]
  rw [hn2] at hl2
  rw [hn3] at hl3
  have HD : Hid (headS s = [s.time % 16777216, s.time / 16777216, s.at_, s.done % 16777216, s.done / 16777216, s.why, s.taken, (n2 : Int), (n3 : Int)]) := Lib.hid (by unfold headS; rw [hn2, hn3])
  obtain ⟨tq, htq⟩ : ∃ tq, s.time / 16777216 = tq := ⟨_, rfl⟩
  obtain ⟨tr, htr⟩ : ∃ tr, s.time % 16777216 = tr := ⟨_, rfl⟩
  obtain ⟨dq, hdq⟩ : ∃ dq, s.done / 16777216 = dq := ⟨_, rfl⟩
  obtain ⟨dr, hdr⟩ : ∃ dr, s.done % 16777216 = dr := ⟨_, rfl⟩
  rw [htq, htr, hdq, hdr] at HD
  have t1 : Int.tmod s.time 16777216 = tr := by rw [Int.tmod_eq_emod_of_nonneg (by omega)]; exact htr
  have t2 : Int.tdiv s.time 16777216 = tq := by rw [Int.tdiv_eq_ediv_of_nonneg (by omega)]; exact htq
  have t3 : Int.tmod s.done 16777216 = dr := by rw [Int.tmod_eq_emod_of_nonneg (by omega)]; exact hdr
  have t4 : Int.tdiv s.done 16777216 = dq := by rw [Int.tdiv_eq_ediv_of_nonneg (by omega)]; exact hdq
  have HL1 := Lib.hid hl1
  have HN2 := Lib.hid hn2
  have HN3 := Lib.hid hn3
  have HI1 := Lib.hid i1
  have HI2 := Lib.hid i2
  have HI3 := Lib.hid i3
  have Hok := Lib.hid hok
  clear hv HR HRR hval hl1 hn2 hn3 i1 i2 i3 hok
  go_enter Tryz.func34, Tryz.ntmps34
  go_wp2_with fail
  refine (hc _ ((Ext.refl w).alloc _)).mono ?_
  rintro e w' ⟨rfl, E'⟩
  have hE1 := Ext.comp ((Ext.refl w).alloc _) E'
  have hlt : w.heap.size < w'.heap.size := by have := E'.size; simp at this; omega
  have c0 := fun i v (hv : (#[.slice a1 128 k1, .slice a2 n2 k2, .int .i64 s.taken, .slice a3 n3 k3, .int .i64 s.time, .int .i64 s.at_, .int .i64 s.done, .int .i64 s.why] : Array Value)[i]? = some v) => box_at (w := w) (T := 24) E' i hv
  have d0 := c0 0 _ rfl
  have d1 := c0 1 _ rfl
  have d2 := c0 2 _ rfl
  have d3 := c0 3 _ rfl
  have d4 := c0 4 _ rfl
  have d5 := c0 5 _ rfl
  have d6 := c0 6 _ rfl
  have d7 := c0 7 _ rfl
  clear c0 hc
  go_wp2_with fail
  obtain ⟨W1, hW1⟩ : ∃ W1, w'.alloc (.cells #[.int .i64 tr, .int .i64 tq, .int .i64 s.at_, .int .i64 dr, .int .i64 dq, .int .i64 s.why, .int .i64 s.taken, .int .i64 (n2 : Int), .int .i64 (n3 : Int)] 3) = W1 := ⟨_, rfl⟩
  have hs1 : W1.heap.size = w'.heap.size + 1 := by rw [← hW1]; simp
  have E1 : Ext w' W1 := by rw [← hW1]; exact (Ext.refl w').alloc _
  have hh : IntsAt W1 (some ⟨w'.heap.size, 0, none⟩) (headS s) := by
   rw [HD.out, ← hW1]
   refine .inr ⟨w'.heap.size, 0, rfl, by simp, fun i hi => ?_⟩
   match i, hi with
   | 0, _ => exact box_at (Ext.refl _) 0 rfl
   | 1, _ => exact box_at (Ext.refl _) 1 rfl
   | 2, _ => exact box_at (Ext.refl _) 2 rfl
   | 3, _ => exact box_at (Ext.refl _) 3 rfl
   | 4, _ => exact box_at (Ext.refl _) 4 rfl
   | 5, _ => exact box_at (Ext.refl _) 5 rfl
   | 6, _ => exact box_at (Ext.refl _) 6 rfl
   | 7, _ => exact box_at (Ext.refl _) 7 rfl
   | 8, _ => exact box_at (Ext.refl _) 8 rfl
  rw [hW1, ← hs1]
  clear hW1
  have hcon := concat_any W1.heap.size 0 4 4 [headS s, s.store, s.tape, s.printed] (W1.alloc (.cells #[.slice (some ⟨w'.heap.size, 0, none⟩) 9 9, .slice a1 128 k1, .slice a2 n2 k2, .slice a3 n3 k3] 22)) rfl (by omega) (fun k => match k with | 0 => some ⟨w'.heap.size, 0, none⟩ | 1 => a1 | 2 => a2 | _ => a3) (fun k => match k with | 0 => 9 | 1 => k1 | 2 => k2 | _ => k3) (by simp)
   (fun k hk => by
    match k, hk with
    | 0, _ => exact box_at (Ext.refl _) 0 rfl
    | 1, _ => exact (box_at (v := .slice a1 128 k1) (Ext.refl _) 1 rfl).trans (by show _ = some (Value.slice a1 s.store.length k1); rw [HL1.out])
    | 2, _ => exact (box_at (v := .slice a2 n2 k2) (Ext.refl _) 2 rfl).trans (by show _ = some (Value.slice a2 s.tape.length k2); rw [HN2.out])
    | 3, _ => exact (box_at (v := .slice a3 n3 k3) (Ext.refl _) 3 rfl).trans (by show _ = some (Value.slice a3 s.printed.length k3); rw [HN3.out]))
   (fun k hk => by
    match k, hk with
    | 0, _ => exact hh.ext ((Ext.refl _).alloc _)
    | 1, _ => exact HI1.out.ext ((hE1.comp E1).alloc _)
    | 2, _ => exact HI2.out.ext ((hE1.comp E1).alloc _)
    | 3, _ => exact HI3.out.ext ((hE1.comp E1).alloc _))
   (wordsS s) (wordsS s).length (by unfold wordsS; simp) rfl (by unfold wordsS headS; simp) (by omega)
  have EW : Ext w (W1.alloc (.cells #[.slice (some ⟨w'.heap.size, 0, none⟩) 9 9, .slice a1 128 k1, .slice a2 n2 k2, .slice a3 n3 k3] 22)) := (hE1.comp E1).alloc _
  have htp := fun a c W (hI : IntsAt W a (wordsS s)) => ltape_any a (wordsS s).length c (wordsS s) W rfl hwl hI Hok.out
  obtain ⟨nw, hnw⟩ : ∃ nw, (wordsS s).length = nw := ⟨_, rfl⟩
  rw [hnw] at hcon htp hwl
  clear hnw hh
  refine hcon.mono ?_
  rintro e w2 ⟨aw, cw, rfl, hown, E2⟩
  have ht2 := htp aw cw w2 (own_ints hown)
  clear hcon htp
  go_wp2_with fail
  refine ht2.mono ?_
  rintro e w3 ⟨v3, rfl, hown3, E3⟩
  obtain ⟨a8, c8, rfl⟩ := own_formU hown3
  have hEf := (EW.comp E2).comp E3
  have hcp := own_cap hown3
  have hby := own_bytes hown3
  clear hown hown3 ht2 E2 E3 hE1 E' d0 d1 d2 d3 d4 d5 d6 d7
  go_wp2
  exact bodyPost_ret (v := .tuple #[.slice a8 (tapeW (wordsS s)).length c8, .int .i64 0]) (by simp [results, Tryz.results34, go_sem]) rfl ⟨a8, c8, rfl, hcp, hby, hEf⟩
 ·rw [if_neg h0] at HR
  have HRR := Lib.hid HR.out
  obtain rfl : ([], q3) = r := HRR.out
  have h0z : (q3 != 0) = true := by simp; exact h0
  clear hv HR HRR i1 i2 i3
  obtain ⟨n1, hn1⟩ : ∃ n1, s.store.length = n1 := ⟨_, rfl⟩
  obtain ⟨n2, hn2⟩ : ∃ n2, s.tape.length = n2 := ⟨_, rfl⟩
  obtain ⟨n3, hn3⟩ : ∃ n3, s.printed.length = n3 := ⟨_, rfl⟩
  rw [hn1, hn2, hn3] at hc
  rw [hn1, hn2, hn3]
  clear hn1 hn2 hn3
  go_enter Tryz.func34, Tryz.ntmps34
  go_wp2_with fail
  refine (hc _ ((Ext.refl w).alloc _)).mono ?_
  rintro e w' ⟨rfl, E'⟩
  have hE1 := Ext.comp ((Ext.refl w).alloc _) E'
  go_wp2
  exact bodyPost_ret (v := .tuple #[.slice none 0 0, .int .i64 q3]) (by simp [results, Tryz.results34, go_sem]) rfl (rows_none hE1)
end Go.Proofs.YtnhpcoagkmgdoaaGreat
/- Layer 10's program: the reader of words: take, one. -/
namespace Go.Proofs.YtnhpcoagkmgdoaaGreat
open Go.RowKit Go.Q Go.Shelf Go.Joins
/-- a panic with an error -/
def errP (x : Int) : List PanicEntry := [{ v := .iface 26 (.int .i64 x), recovered := false }]
/-- the words that are left lie in old blocks -/
def LeftI (W : World) (rb lim : Nat) (xs : List Int) : Prop :=
 ∃ b off c, W.heap[rb]? = some (.cells #[.slice (some ⟨b, off, none⟩) xs.length c] 122 (0, 0)) ∧ (xs.length ≤ c ∧ c ≤ 9223372036854775807) ∧ (lim ≤ b ∧ b < rb) ∧ b < W.heap.size ∧ ∀ i, i < xs.length → W.cell? ⟨b, off + i, none⟩ = some (.int .i64 (xs[i]?.getD 0))
theorem LeftI.kp {M : Nat → Prop} {W Y : World} {rb lim : Nat} {xs : List Int} (h : LeftI W rb lim xs) (k : KpM M W Y) (h1 : ¬ M rb) (h2 : ∀ b, lim ≤ b → b < rb → ¬ M b) : LeftI Y rb lim xs := by
 obtain ⟨b, off, c, hb, hc, hl, hlt, hI⟩ := h
 exact ⟨b, off, c, (k.block rb (lt_of_block hb) h1).trans hb, hc, hl, Nat.lt_of_lt_of_le hlt k.size, fun i hi => (k.cell hlt (h2 b hl.1 hl.2)).trans (hI i hi)⟩
theorem LeftI.ext {W Y : World} {rb lim : Nat} {xs : List Int} (h : LeftI W rb lim xs) (E : Ext W Y) : LeftI Y rb lim xs := h.kp (M := fun _ => False) (KpM.of_ext E) id (fun _ _ _ => id)
theorem take_bad (rb : Nat) (a : Option Addr) (n c : Nat) (k : Int) (w : World) (hb : w.heap[rb]? = some (.cells #[.slice a n c] 122 (0, 0))) (hk : (n : Int) < k) (hk2 : k ≤ 16777215) :
  Calls Tryz.prog 68 #[.pointer (some ⟨rb, 0, none⟩), .int .i64 k] w fun e w' => e = .panicked (errP 6) ∧ w = w' := by
 have hcc := blk_cell hb 0 (v := .slice a n c) rfl
 clear hb
 go_enter Tryz.func68, Tryz.ntmps68
 go_wp2
 exact ⟨rfl, rfl, rfl⟩
/-- what taking k words leaves -/
def TakeRes (rb lim k : Nat) (xs : List Int) (w : World) (e : Ending) (w' : World) : Prop :=
 ∃ a c, e = .returned (.slice a k c) ∧ IntsAt w' a (xs.take k) ∧ (∀ b, a.map (·.block) = some b → w.heap.size ≤ b) ∧ LeftI w' rb lim (xs.drop k) ∧ KpM (fun q => q = rb) w w'
set_option maxHeartbeats 1000000 in
theorem take_ok (rb lim k : Nat) (xs : List Int) (w : World) (h : LeftI w rb lim xs) (hk : k ≤ xs.length) (hk2 : k ≤ 16777215) :
  Calls Tryz.prog 68 #[.pointer (some ⟨rb, 0, none⟩), .int .i64 (k : Int)] w (TakeRes rb lim k xs w) := by
 obtain ⟨b, off, c, hb, ⟨hcap, hbig⟩, hl, hlt, hI⟩ := h
 have hcc := blk_cell hb 0 (v := .slice (some ⟨b, off, none⟩) xs.length c) rfl
 have hrs := lt_of_block hb
 obtain ⟨n, hn⟩ : ∃ n, xs.length = n := ⟨_, rfl⟩
 have hsub : IntsAt w (some ⟨b, off, none⟩) (xs.take k) := .inr ⟨b, off, rfl, hlt, fun i hi => by
  rw [List.length_take] at hi
  rw [List.getElem?_take, if_pos (by omega)]
  exact hI i (by omega)⟩
 have hlk : (xs.take k).length = k := by rw [List.length_take]; omega
 have hcl := clone_any (some ⟨b, off, none⟩) k c (xs.take k) w hlk (by omega) hsub
 have hnk : ¬ (n : Int) < (k : Int) := by omega
 rw [hn] at hcc hb hk hcap
 have HN := Lib.hid hn
 have HB := Lib.hid hb
 have HI := Lib.hid hI
 have HLK := Lib.hid hlk
 clear hn hb hI hsub hlk
 have fin : ∀ (w1 : World) (a2 : Option Addr) (c2 o' : Nat), w1.ownsRow w.heap.size 3 1 (.slice a2 k c2) k (iv (xs.take k)) → Ext w w1 → (o' = off + k ∨ n = k) → TakeRes rb lim k xs w (.returned (.slice a2 k c2)) (w1.setCell ⟨rb, 0, none⟩ (.slice (some ⟨b, o', none⟩) (n - k) (c - k))) := by
  intro w1 a2 c2 o' hown E1 ho
  have hob : ∀ q, a2.map (·.block) = some q → w.heap.size ≤ q := fun q e => (hown.lt q (by cases a2 with | none => cases e | some ad => exact e)).1
  have kk : KpM (fun q => q = rb) w1 (w1.setCell ⟨rb, 0, none⟩ (.slice (some ⟨b, o', none⟩) (n - k) (c - k))) := KpM.set w1 rb _ rfl
  refine ⟨a2, c2, rfl, ints_kp (own_ints hown) kk (fun q e e2 => by have := hob q e; omega), hob, ?_, (KpM.of_ext E1).trans kk⟩
  refine ⟨b, o', c - k, ?_, ⟨by rw [List.length_drop, HN.out]; omega, by omega⟩, hl, ?_, fun i hi => ?_⟩
  ·rw [List.length_drop, HN.out]
   have hb1 : w1.heap[rb]? = _ := (E1.block rb hrs).trans HB.out
   have := cells_set hb1 0 (.slice (some ⟨b, o', none⟩) (n - k) (c - k))
   simpa using this
  ·have := E1.size; simp; omega
  ·rw [List.length_drop, HN.out] at hi
   rcases ho with rfl | e
   ·refine (kk.cell (o := off + k + i) (show b < w1.heap.size by have := E1.size; omega) (by omega)).trans ((E1.cell (p := ⟨b, off + k + i, none⟩) hlt).trans ?_)
    have := HI.out (k + i) (by rw [HN.out]; omega)
    rw [← Nat.add_assoc] at this
    rw [this, List.getElem?_drop]
   ·omega
 have FIN := Lib.hid fin
 clear fin
 by_cases hck : c = k
 ·subst hck
  obtain rfl : n = c := by omega
  go_enter Tryz.func68, Tryz.ntmps68
  go_wp2_with fail
  refine hcl.mono ?_
  rintro e w1 ⟨a2, c2, rfl, hown, E1⟩
  have hb1 : w1.heap[rb]? = _ := (E1.block rb hrs).trans HB.out
  have hcc1 := blk_cell hb1 0 (v := .slice (some ⟨b, off, none⟩) n n) rfl
  have hff1 := blk_free hb1 0
  have hf := FIN.out w1 a2 c2 off hown E1 (.inr (by first | rfl | trivial))
  rw [Nat.sub_self] at hf
  clear FIN
  go_wp2
  exact bodyPost_ret (v := .slice a2 n c2) (by simp [results, Tryz.results68, go_sem]) rfl hf
 ·go_enter Tryz.func68, Tryz.ntmps68
  go_wp2_with fail
  refine hcl.mono ?_
  rintro e w1 ⟨a2, c2, rfl, hown, E1⟩
  have hb1 : w1.heap[rb]? = _ := (E1.block rb hrs).trans HB.out
  have hcc1 := blk_cell hb1 0 (v := .slice (some ⟨b, off, none⟩) n c) rfl
  have hff1 := blk_free hb1 0
  have hf := FIN.out w1 a2 c2 (off + k) hown E1 (.inl rfl)
  clear FIN
  go_wp2
  exact bodyPost_ret (v := .slice a2 k c2) (by simp [results, Tryz.results68, go_sem]) rfl hf
set_option maxHeartbeats 1000000 in
/-- one word -/
theorem one_bad (rb : Nat) (a : Option Addr) (c : Nat) (w : World) (hb : w.heap[rb]? = some (.cells #[.slice a 0 c] 122 (0, 0))) :
  Calls Tryz.prog 67 #[.pointer (some ⟨rb, 0, none⟩)] w fun e w' => e = .panicked (errP 6) ∧ w = w' := by
 have ht := take_bad rb a 0 c 1 w hb (by decide) (by decide)
 clear hb
 go_enter Tryz.func67, Tryz.ntmps67
 go_wp2_with fail
 refine ht.mono ?_
 rintro e w' ⟨rfl, rfl⟩
 exact ⟨rfl, rfl, rfl⟩
set_option maxHeartbeats 1000000 in
theorem one_ok (rb lim : Nat) (x : Int) (xs : List Int) (w : World) (h : LeftI w rb lim (x :: xs)) :
  Calls Tryz.prog 67 #[.pointer (some ⟨rb, 0, none⟩)] w fun e w' => e = .returned (.int .i64 x) ∧ LeftI w' rb lim xs ∧ KpM (fun q => q = rb) w w' := by
 have ht := take_ok rb lim 1 (x :: xs) w h (by simp) (by decide)
 clear h
 go_enter Tryz.func67, Tryz.ntmps67
 go_wp2_with fail
 refine ht.mono ?_
 rintro e w' ⟨a, c, rfl, hI, _, hL, hK⟩
 obtain ⟨b, off, rfl, hc⟩ : ∃ b off, a = some ⟨b, off, none⟩ ∧ w'.cell? ⟨b, off, none⟩ = some (.int .i64 x) := by
  rcases hI with e | ⟨b, off, ha, _, hc⟩
  ·simp at e
  ·exact ⟨b, off, ha, hc 0 (by simp)⟩
 clear hI
 go_wp2
 go_ret
 exact ⟨rfl, hL, hK⟩
end Go.Proofs.YtnhpcoagkmgdoaaGreat
/- Layer 10's program: what catches a panic in Restart. -/
namespace Go.Proofs.YtnhpcoagkmgdoaaGreat
open Go.RowKit Go.Q Go.Shelf Go.Joins
theorem assertErr (v : Value) (xT : TypeId) (w : World) : (Instr.typeAssert (.iface 26 v) xT 26 false).run Tryz.prog w = .ok v w := by
 simp [Instr.typeAssert, run_underlying Tryz.underlying26, go_sem, Result.andThen]
theorem rest_idle (b0 : Nat) (w : World) (n : Nat) :
  CallsDIn Fence.wide n Tryz.prog 66 #[.pointer (some ⟨b0, 0, none⟩), .pointer (some ⟨b0 + 1, 0, none⟩)] .returning w fun e u' w' => e = .returned (.tuple #[]) ∧ u' = .returning ∧ w' = w := by
 refine callsDIn_of_wpSIn Tryz.func66 rfl trivial fun c₀ cs hu => ?_
 apply wpSIn_seq
 apply wpSIn_region
 simp [wpOpsSIn, go_sem, recoverD, hu, Tryz.ntmps66, Exit.thenS]
 apply wpSIn_seq
 apply wpSIn_region
 simp [wpOpsSIn, go_sem, Exit.thenS, Array.replicate]
 refine wpSIn_cond (t := false) (by simp [Act.eval, Array.replicate]) ?_
 simp only [Bool.false_eq_true, if_false]
 refine wpSIn_of_wpIn rfl (wpIn_skip ?_)
 cases c₀
 simp_all [bodyPostS, results, Tryz.results66]
/-- the zero state -/
abbrev zsv : Array Value := #[.slice none 0 0, .slice none 0 0, .int .i64 0, .slice none 0 0, .int .i64 0, .int .i64 0, .int .i64 0, .int .i64 0]
structure CaughtR (b0 : Nat) (x : Int) (w w' : World) : Prop where
 kp : KpM (fun q => q = b0 ∨ q = b0 + 1) w w'
 c0 : w'.heap[b0]? = some (.cells zsv 24 (0, 0))
 c1 : w'.heap[b0 + 1]? = some (.cells #[.int .i64 x] 26 (0, 0))
/-- eight cells stored -/
def S8 (w : World) (b : Nat) (n0 n1 n2 n3 n4 n5 n6 n7 : Value) : World := (((((((w.setCell ⟨b, 0, none⟩ n0).setCell ⟨b, 1, none⟩ n1).setCell ⟨b, 2, none⟩ n2).setCell ⟨b, 3, none⟩ n3).setCell ⟨b, 4, none⟩ n4).setCell ⟨b, 5, none⟩ n5).setCell ⟨b, 6, none⟩ n6).setCell ⟨b, 7, none⟩ n7
theorem s8_block {w : World} {b : Nat} {t : TypeId} {v0 v1 v2 v3 v4 v5 v6 v7 n0 n1 n2 n3 n4 n5 n6 n7 : Value} (h : w.heap[b]? = some (.cells #[v0, v1, v2, v3, v4, v5, v6, v7] t (0, 0))) : (S8 w b n0 n1 n2 n3 n4 n5 n6 n7).heap[b]? = some (.cells #[n0, n1, n2, n3, n4, n5, n6, n7] t (0, 0)) := by
 have := cells_set (cells_set (cells_set (cells_set (cells_set (cells_set (cells_set (cells_set h 0 n0) 1 n1) 2 n2) 3 n3) 4 n4) 5 n5) 6 n6) 7 n7
 unfold S8
 simpa using this
theorem s8_kp {M : Nat → Prop} {w : World} {b : Nat} {n0 n1 n2 n3 n4 n5 n6 n7 : Value} (hm : M b) : KpM M w (S8 w b n0 n1 n2 n3 n4 n5 n6 n7) :=
 (((((((kpm_set _ b _ _ hm).trans (kpm_set _ b _ _ hm)).trans (kpm_set _ b _ _ hm)).trans (kpm_set _ b _ _ hm)).trans (kpm_set _ b _ _ hm)).trans (kpm_set _ b _ _ hm)).trans (kpm_set _ b _ _ hm)).trans (kpm_set _ b _ _ hm)
theorem caught_of {b0 : Nat} {x : Int} {v0 v1 v2 v3 v4 v5 v6 v7 u : Value} {w : World} (h0 : w.heap[b0]? = some (.cells #[v0, v1, v2, v3, v4, v5, v6, v7] 24 (0, 0))) (h1 : w.heap[b0 + 1]? = some (.cells #[u] 26 (0, 0))) :
  CaughtR b0 x w ((S8 w b0 (.slice none 0 0) (.slice none 0 0) (.int .i64 0) (.slice none 0 0) (.int .i64 0) (.int .i64 0) (.int .i64 0) (.int .i64 0)).setCell ⟨b0 + 1, 0, none⟩ (.int .i64 x)).drew := by
 have e0 := s8_block (n0 := .slice none 0 0) (n1 := .slice none 0 0) (n2 := .int .i64 0) (n3 := .slice none 0 0) (n4 := .int .i64 0) (n5 := .int .i64 0) (n6 := .int .i64 0) (n7 := .int .i64 0) h0
 have k1 := s8_kp (M := fun q => q = b0) (w := w) (b := b0) (n0 := .slice none 0 0) (n1 := .slice none 0 0) (n2 := .int .i64 0) (n3 := .slice none 0 0) (n4 := .int .i64 0) (n5 := .int .i64 0) (n6 := .int .i64 0) (n7 := .int .i64 0) rfl
 generalize S8 w b0 (.slice none 0 0) (.slice none 0 0) (.int .i64 0) (.slice none 0 0) (.int .i64 0) (.int .i64 0) (.int .i64 0) (.int .i64 0) = Y at *
 have h1' : Y.heap[b0 + 1]? = some (.cells #[u] 26 (0, 0)) := (k1.block (b0 + 1) (lt_of_block h1) (by omega)).trans h1
 have k2 : KpM (fun q => q = b0 ∨ q = b0 + 1) w Y := k1.mono fun q h => .inl h
 refine ⟨(k2.trans (kpm_set Y (b0 + 1) 0 (.int .i64 x) (.inr rfl))).trans (KpM.of_ext (Below.refl _ _).drew), ?_, ?_⟩
 ·exact (Below.heap_setCell Y ⟨b0 + 1, 0, none⟩ (.int .i64 x) b0 (show b0 ≠ b0 + 1 by omega)).trans e0
 ·have := cells_set h1' 0 (.int .i64 x)
  show (Y.setCell ⟨b0 + 1, 0, none⟩ (.int .i64 x)).heap[b0 + 1]? = _
  simpa using this
set_option maxRecDepth 100000 in
set_option maxHeartbeats 4000000 in
theorem rest_caught (b0 : Nat) (x : Int) (v0 v1 v2 v3 v4 v5 v6 v7 u : Value) (w : World) (n : Nat) (h0 : w.heap[b0]? = some (.cells #[v0, v1, v2, v3, v4, v5, v6, v7] 24 (0, 0))) (h1 : w.heap[b0 + 1]? = some (.cells #[u] 26 (0, 0))) :
  CallsDIn Fence.wide n Tryz.prog 66 #[.pointer (some ⟨b0, 0, none⟩), .pointer (some ⟨b0 + 1, 0, none⟩)] (.panicking (errP x)) w fun e u' w' => e = .returned (.tuple #[]) ∧ settle u' = .returning ∧ CaughtR b0 x w w' := by
 refine callsDIn_of_wpSIn Tryz.func66 rfl trivial fun c₀ cs hu => ?_
 apply wpSIn_seq
 apply wpSIn_region
 simp [wpOpsSIn, go_sem, recoverD, hu, Tryz.ntmps66, Exit.thenS, errP]
 apply wpSIn_seq
 apply wpSIn_region
 simp [wpOpsSIn, go_sem, Exit.thenS, Array.replicate]
 refine wpSIn_cond (t := true) (by simp [Act.eval, Array.replicate]) ?_
 simp only [if_true]
 refine wpSIn_of_wpIn rfl ?_
 clear hu
 refine wpIn_wide.2 ?_
 have hta := assertErr
 have c0 := cell_of_cells h0 0 (v := v0) rfl
 have c1 := cell_of_cells h0 1 (v := v1) rfl
 have c2 := cell_of_cells h0 2 (v := v2) rfl
 have c3 := cell_of_cells h0 3 (v := v3) rfl
 have c4 := cell_of_cells h0 4 (v := v4) rfl
 have c5 := cell_of_cells h0 5 (v := v5) rfl
 have c6 := cell_of_cells h0 6 (v := v6) rfl
 have c7 := cell_of_cells h0 7 (v := v7) rfl
 have f0 := free_of_cells h0 0
 have f1 := free_of_cells h0 1
 have f2 := free_of_cells h0 2
 have f3 := free_of_cells h0 3
 have f4 := free_of_cells h0 4
 have f5 := free_of_cells h0 5
 have f6 := free_of_cells h0 6
 have f7 := free_of_cells h0 7
 have d0 := cell_of_cells h1 0 (v := u) rfl
 have g0 := free_of_cells h1 0
 go_region
 have hC := caught_of (x := x) h0 h1
 unfold S8 at hC
 clear h0 h1 c0 c1 c2 c3 c4 c5 c6 c7 f0 f1 f2 f3 f4 f5 f6 f7 d0 g0 hta
 generalize (((((((((w.setCell ⟨b0, 0, none⟩ (.slice none 0 0)).setCell ⟨b0, 1, none⟩ (.slice none 0 0)).setCell ⟨b0, 2, none⟩ (.int .i64 0)).setCell ⟨b0, 3, none⟩ (.slice none 0 0)).setCell ⟨b0, 4, none⟩ (.int .i64 0)).setCell ⟨b0, 5, none⟩ (.int .i64 0)).setCell ⟨b0, 6, none⟩ (.int .i64 0)).setCell ⟨b0, 7, none⟩ (.int .i64 0)).setCell ⟨b0 + 1, 0, none⟩ (.int .i64 x)).drew = W at *
 simp [bodyPostS, results, Tryz.results66, settle, hC]
end Go.Proofs.YtnhpcoagkmgdoaaGreat
