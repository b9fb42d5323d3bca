import Derived.Deep.RegionHeld3
import Derived.Test.YtcijneecjkpebaaU10
import Derived.Test.YtcijneecjkpebaaU5
import Derived.Test.YtcijneecjkpebaaU9
import Derived.Test.YtcijneecjkpebaaU3
set_option linter.unusedVariables false
set_option linter.unusedSimpArgs false
/- Layer 8: the error of a catalogue. -/
namespace Go.Q
theorem soundN_cons (pre : List En) (x : En) (r : List En) : soundN pre (x :: r) = if nameB (bytesS x.name) = false then 6
    else if hasN pre x.name = true then 5
    else if inB x.ver 1 1000 = false then 7
    else if checkR x.code ≠ 0 then checkR x.code
    else soundN (pre ++ [x]) r := rfl
theorem drop_get {α : Type} {l : List α} {j : Nat} {x : α} (h : l[j]? = some x) : l.drop j = x :: l.drop (j + 1) := by
  obtain ⟨hj, rfl⟩ := List.getElem?_eq_some_iff.1 h
  exact List.drop_eq_getElem_cons hj
theorem take_get {α : Type} {l : List α} {j : Nat} {x : α} (h : l[j]? = some x) : l.take (j + 1) = l.take j ++ [x] := by
  obtain ⟨hj, rfl⟩ := List.getElem?_eq_some_iff.1 h
  rw [List.take_succ_eq_append_getElem hj]
end Go.Q
namespace Go.Proofs.Ytcijneecjkpebaa
open Go.RowKit Go.Q
theorem Try.infoEn : (Try.prog.info? 63).map (fun i => (i.size, i.bytes)) = some (8, 120) := by kernel_rfl
theorem size_En (W : World) : (sizeOf (Try.prog.elem 39)).run Try.prog W = .ok 8 W := by
  rw [show Try.prog.elem 39 = 63 by kernel_rfl]
  cases hi : Try.prog.info? 63 with
  | none =>
    have := Try.infoEn
    rw [hi] at this
    cases this
  | some i0 =>
    have := Try.infoEn
    rw [hi] at this
    have h8 : i0.size = 8 := by
      have h2 := Option.some.inj this
      exact (Prod.mk.inj h2).1
    simp [sizeOf, typeInfo, hi, h8, go_sem]
theorem slice_toE (W : World) (a : Option Addr) (n k1 hi : Nat) (h1 : hi ≤ k1) : (Instr.slice 39 (.slice a n k1) none (some (.int .i64 (hi : Int))) none).run Try.prog W = .ok (.slice a hi k1) W := by
  have h := run_slice_h (P := Try.prog) (w := W) 39 a n k1 (by rw [Try.underlying39]; kernel_rfl) .i64 (hi : Int) (by omega) (by omega)
  rw [h, size_En]
  show Result.ok (sliced _ _ _ _ 8) W = _
  unfold sliced
  split
  · simp
  · cases a with
    | none => simp
    | some ad => simp [Addr.add]
theorem slice_toEA (W : World) (a : Option Addr) (n k1 hi : Nat) (h1 : hi ≤ k1) : (Instr.sliceAt 39 (.slice a n k1) none (some (.int .i64 (hi : Int))) none).run Try.prog W = .ok (.slice a hi k1) W :=
  Eq.trans (run_sliceAt_slice (P := Try.prog) (w := W) 39 _ _ _ _ (by rw [Try.underlying39]; kernel_rfl)) (slice_toE W a n k1 hi h1)
set_option maxRecDepth 100000 in
set_option maxHeartbeats 4000000 in
theorem lb_sound (a : Option Addr) (n c : Nat) (cat : List En) (L : Nat → Lo) (w : World) (hn : cat.length = n) (hcap : n ≤ c) (hbig : c ≤ 9223372036854775807) (hI : CatAt w a cat L) (hbd : ∀ x ∈ cat, EnBd x) :
    Calls Try.prog 64 #[.slice a n c] w fun e w' => e = .returned (.int .i64 (soundE cat)) ∧ Ext w w' := by
  have HA := Lib.hid (show soundE cat = if 6 < cat.length then 3 else soundN [] cat from rfl)
  obtain ⟨R, hR⟩ : ∃ R, soundE cat = R := ⟨_, rfl⟩
  rw [hR, hn] at HA
  rw [hR]
  clear hR
  by_cases h6 : 6 < n
  · have HR := Lib.hid (show R = 3 by rw [HA.out, if_pos h6])
    have h6z : decide ((6 : Int) < (n : Int)) = true := decide_eq_true (by omega)
    clear HA hI hbd
    go_enter Try.func64, Try.ntmps64
    go_wp2
    go_ret
    exact ⟨ret_int HR.out.symm, Ext.refl _⟩
  · have HS := Lib.hid (show soundN (cat.take 0) (cat.drop 0) = R by rw [HA.out, if_neg h6]; simp)
    have h6z : decide ((6 : Int) < (n : Int)) = false := decide_eq_false (by omega)
    have hent := fun (j : Nat) (nm : ByteArray) (W : World) (hj : j ≤ n) (E : Ext w W) => lb_entry nm a j c (cat.take j) L W (by rw [List.length_take]; omega) (by omega) ((hI.ext E).take j)
    have HI := Lib.hid hI
    have HN := Lib.hid hn
    have HBD := Lib.hid hbd
    have HEN := Lib.hid hent
    clear HA hI hn hbd hent
    go_enter Try.func64, Try.ntmps64
    go_wp2
    go_loopw [13] (fun s wr => ∃ j : Nat, j ≤ n ∧ s = .int .i64 (j : Int) ∧ Aside (Ext w wr) ∧ Aside (soundN (cat.take j) (cat.drop j) = R)) (fun s _ => n - (intOf s).toNat)
    case atStart => exact ⟨0, Nat.zero_le _, rfl, Ext.refl _, HS.out⟩
    case round =>
      obtain ⟨j, hj, rfl, EW, HP⟩ := hrel
      by_cases hlt : j < n
      · have hltz : (j : Int) < (n : Int) := by omega
        obtain ⟨b, off, rfl, hb, hc⟩ : ∃ b off, a = some ⟨b, off, none⟩ ∧ b < w.heap.size ∧ ∀ i x, cat[i]? = some x → (∀ j v, (ecs x (L i))[j]? = some v → w.cell? ⟨b, off + i * 8 + j, none⟩ = some v) ∧ RtAt w x.code (L i) := by
          rcases HI.out with h | h
          · have := HN.out; rw [h] at this; simp at this; omega
          · exact h
        obtain ⟨x, hx⟩ : ∃ x, cat[j]? = some x := ⟨_, List.getElem?_eq_getElem (by rw [HN.out]; exact hlt)⟩
        have hxb := HBD.out x (List.mem_of_getElem? hx)
        obtain ⟨hcx, hrt⟩ := hc j x hx
        have hcj := fun i v hv => (EW.out.cell (p := ⟨b, off + j * 8 + i, none⟩) hb).trans (hcx i v hv)
        have q0 := hcj 0 (.string x.name) rfl
        have q1 := hcj 1 (.int .i64 x.ver) rfl
        have q2 := hcj 2 (.slice (L j).a1 x.code.words.length (L j).c1) rfl
        have q3 := hcj 3 (.slice (L j).a2 x.code.masks.length (L j).c2) rfl
        have q4 := hcj 4 (.int .i64 x.code.entry) rfl
        have q5 := hcj 5 (.int .i64 x.code.exit) rfl
        have q6 := hcj 6 (.int .i64 x.code.result) rfl
        have q7 := hcj 7 (.slice (L j).a3 x.code.args.length (L j).c3) rfl
        rw [Nat.add_zero] at q0
        have hst : soundN (cat.take j) (x :: cat.drop (j + 1)) = R := by rw [← drop_get hx]; exact HP.out
        rw [soundN_cons, ← take_get hx] at hst
        have hname := fun W => name_any x.name W hxb.n
        have hent := fun W (E : Ext w W) => HEN.out j x.name W hj E
        have hout := fun W => lb_out x.ver 1 1000 W
        have hchk := fun W (E : Ext w W) => lb_check x.code (L j) W (hrt.ext E) hxb.code
        have hsl := fun W => slice_toE W (some ⟨b, off, none⟩) n c j (by omega)
        have hslA := fun W => slice_toEA W (some ⟨b, off, none⟩) n c j (by omega)
        generalize (L j).a1 = p1 at *
        generalize (L j).c1 = k1 at *
        generalize (L j).a2 = p2 at *
        generalize (L j).c2 = k2 at *
        generalize (L j).a3 = p3 at *
        generalize (L j).c3 = k3 at *
        generalize x.code.words.length = l1 at *
        generalize x.code.masks.length = l2 at *
        generalize x.code.args.length = l3 at *
        generalize x.code.entry = en at *
        generalize x.code.exit = ex at *
        generalize x.code.result = re at *
        generalize checkR x.code = ck at *
        generalize x.ver = vr at *
        generalize nameB (bytesS x.name) = nb at *
        generalize hasN (cat.take j) x.name = hs at *
        have HST := Lib.hid hst
        have hwn := EW.out.size
        clear hcj hcx hrt hc hx hxb hst
        have BN := fun W (E : Ext (wr.alloc (.cells #[.string x.name, .int .i64 vr, .slice p1 l1 k1, .slice p2 l2 k2, .int .i64 en, .int .i64 ex, .int .i64 re, .slice p3 l3 k3] 63)) W) => Blk.of E
        have HBN := Lib.hid BN
        clear BN
        cases nb with
        | false =>
          have HR := Lib.hid (show R = 6 by rw [← HST.out, if_pos rfl])
          clear HST hent hout hchk
          go_wp2_with fail
          refine (hname _).mono ?_
          rintro e w1 ⟨rfl, E1⟩
          go_wp2_with fail
          go_ret
          exact ⟨ret_int HR.out.symm, EW.out.comp E1.old⟩
        | true =>
        have HS2 := Lib.hid (show (if hs = true then 5 else if inB vr 1 1000 = false then 7 else if ck ≠ 0 then ck else soundN (cat.take (j + 1)) (cat.drop (j + 1))) = R by have h := HST.out; rw [if_neg (by simp)] at h; exact h)
        clear HST
        go_wp2_with fail
        refine (hname _).mono ?_
        rintro e w1 ⟨rfl, E1⟩
        have B1 := HBN.out _ E1
        have EA := EW.out.comp E1.old
        have r0 := Blk.c B1 0 (v := .string x.name) rfl
        have r1 := Blk.c B1 1 (v := .int .i64 vr) rfl
        have r2 := Blk.c B1 2 (v := .slice p1 l1 k1) rfl
        have r3 := Blk.c B1 3 (v := .slice p2 l2 k2) rfl
        have r4 := Blk.c B1 4 (v := .int .i64 en) rfl
        have r5 := Blk.c B1 5 (v := .int .i64 ex) rfl
        have r6 := Blk.c B1 6 (v := .int .i64 re) rfl
        have r7 := Blk.c B1 7 (v := .slice p3 l3 k3) rfl
        have hentw := fun W (E : Ext w1 W) => hent W (EA.comp E)
        clear hname q0 q1 q2 q3 q4 q5 q6 q7 hent
        go_wp2_with fail
        go_region_held3 (fun w' => Ext w1 w' ∧ w'.cell? ⟨wr.heap.size, 0, none⟩ = some (.string x.name))
          (first | exact ⟨(Ext.refl w1).drew, r0⟩ | exact ⟨Ext.comp (Ext.refl w1).drew hb', cell_later hb' r0⟩)
          (first | (go_at_call 113; refine (hentw _ (Ext.refl w1).drew).mono ?_; rintro e w' ⟨rfl, hb'⟩))
        have E2 := (‹Ext w1 _ ∧ _›).1
        have B2 := B1.ex E2
        have EB := EA.comp E2
        clear hentw r0 r1 r2 r3 r4 r5 r6 r7
        have r0 := Blk.c B2 0 (v := .string x.name) rfl
        have r1 := Blk.c B2 1 (v := .int .i64 vr) rfl
        have r2 := Blk.c B2 2 (v := .slice p1 l1 k1) rfl
        have r3 := Blk.c B2 3 (v := .slice p2 l2 k2) rfl
        have r4 := Blk.c B2 4 (v := .int .i64 en) rfl
        have r5 := Blk.c B2 5 (v := .int .i64 ex) rfl
        have r6 := Blk.c B2 6 (v := .int .i64 re) rfl
        have r7 := Blk.c B2 7 (v := .slice p3 l3 k3) rfl
        cases hs with
        | true =>
          have HR := Lib.hid (show R = 5 by rw [← HS2.out, if_pos rfl])
          clear HS2 hout hchk
          go_wp2_with fail
          go_ret
          exact ⟨ret_int HR.out.symm, EB⟩
        | false =>
        have HS3 := Lib.hid (show (if inB vr 1 1000 = false then 7 else if ck ≠ 0 then ck else soundN (cat.take (j + 1)) (cat.drop (j + 1))) = R by have h := HS2.out; rw [if_neg (by simp)] at h; exact h)
        clear HS2
        cases hv : inB vr 1 1000 with
        | false =>
          have HR := Lib.hid (show R = 7 by rw [← HS3.out, if_pos hv])
          rw [hv] at hout
          clear HS3 hchk hv
          go_wp2_with fail
          refine (hout _).mono ?_
          rintro e w3 ⟨rfl, rfl⟩
          go_wp2_with fail
          go_ret
          exact ⟨ret_int HR.out.symm, EB⟩
        | true =>
        have HS4 := Lib.hid (show (if ck ≠ 0 then ck else soundN (cat.take (j + 1)) (cat.drop (j + 1))) = R by have h := HS3.out; rw [hv, if_neg (by simp)] at h; exact h)
        rw [hv] at hout
        clear HS3 hv
        go_wp2_with fail
        refine (hout _).mono ?_
        rintro e w3 ⟨rfl, rfl⟩
        go_wp2_with fail
        refine (hchk _ EB).mono ?_
        rintro e w4 ⟨rfl, E4⟩
        by_cases hk : ck = 0
        · subst hk
          have HS5 := Lib.hid (show soundN (cat.take (j + 1)) (cat.drop (j + 1)) = R by have h := HS4.out; rw [if_neg (by simp)] at h; exact h)
          clear HS4
          go_wp2_with fail
          go_roundw
          case rel => exact ⟨j + 1, by omega, by go_num, EB.comp E4, HS5.out⟩
          case measure => simp [intOf]; omega
        · have HR := Lib.hid (show R = ck by rw [← HS4.out, if_pos hk])
          have hkb : (ck != 0) = true := by simpa using hk
          clear HS4 hk
          go_wp2_with fail
          go_ret
          exact ⟨ret_int HR.out.symm, EB.comp E4⟩
      · have hltz : ¬ (j : Int) < (n : Int) := by omega
        have HR := Lib.hid (show R = 0 by rw [← HP.out, List.drop_eq_nil_of_le (by rw [HN.out]; omega)]; rfl)
        go_wp2
        go_ret
        exact ⟨ret_int HR.out.symm, EW.out⟩
end Go.Proofs.Ytcijneecjkpebaa
/- Layer 8: the builder's cells by their names; emit, jump. -/
namespace Go.Q
/-- strings that are keys -/
structure SK where
  val : ByteArray
  ok : val.size ≤ 9223372036854775807
deriving DecidableEq
def encK (x : SK) : Value := .string x.val
/-- what a list of names and places holds -/
def assocF (L : List (SK × Int)) : SK → Option Value := fun x => (L.find? fun p => decide (p.1 = x)).map fun p => .int .i64 p.2
theorem assoc_put {L : List (SK × Int)} {k : SK} (h : ∀ p ∈ L, p.1 ≠ k) (n : Int) : ∀ x, putF (assocF L) k (.int .i64 n) x = assocF (L ++ [(k, n)]) x := by
  intro x
  unfold putF assocF
  rw [List.find?_append]
  by_cases e : x = k
  · subst e
    rw [if_pos rfl, List.find?_eq_none.2 (fun p hp => by simpa using h p hp)]
    simp
  · rw [if_neg e]
    cases hf : L.find? fun p => decide (p.1 = x) with
    | none =>
      simp
      exact fun e2 => e e2.symm
    | some p => simp
theorem assoc_some {L : List (SK × Int)} {x : SK} : (assocF L x).isSome = true ↔ x ∈ L.map Prod.fst := by
  unfold assocF
  rw [Option.isSome_map, List.find?_isSome]
  simp
end Go.Q
namespace Go.Proofs.Ytcijneecjkpebaa
open Go.RowKit Go.Q Go.Maps
theorem keyS : KeyEnc Try.prog 9 encK :=
  ⟨string_keyed Try.underlying9, fun x => ⟨_, WideMaps.keyOf_string_mk (P := Try.prog) Try.underlying9 (by have := x.ok; unfold maxLen; exact this)⟩, fun x y h => by
    unfold encK at h
    injection h with h
    cases x; cases y
    cases h
    rfl⟩
theorem zero_int (w : World) : (zeroValue 3).run Try.prog w = .ok (.int .i64 0) w := by simp [Try.zeroValue3]
theorem look_str {W : World} {mb : Nat} {L : List (SK × Int)} {s : SK} {n : Int} (h : MapF encK W mb (assocF L)) (hs : assocF L s = some (.int .i64 n)) : (Instr.lookup 89 (.map (some mb)) (.string s.val) false).run Try.prog W = .ok (.int .i64 n) W := by
  have := h.look false keyS Try.underlying89 (zero_int W) s
  simp only [Bool.false_eq_true, if_false] at this
  rw [hs] at this
  exact this
/-- as many entries as names -/
theorem map_size {W : World} {mb : Nat} {L : List (SK × Int)} (h : MapF encK W mb (assocF L)) (hn : (L.map Prod.fst).Nodup) : ∃ es k, W.heap[mb]? = some (.map es k) ∧ es.size = L.length := by
  obtain ⟨es, k, hb, H⟩ := h
  refine ⟨es, k, hb, Nat.le_antisymm ?_ ?_⟩
  · have := H.size_le (L.map Prod.fst) fun x hx => assoc_some.1 hx
    simpa using this
  · have hsub : ∀ v ∈ (L.map Prod.fst).map encK, v ∈ es.toList.map (·.key) := by
      intro v hv
      obtain ⟨x, hx, rfl⟩ := List.mem_map.1 hv
      obtain ⟨u, hu⟩ := Option.isSome_iff_exists.1 (assoc_some.2 hx)
      obtain ⟨e, he, hk, _⟩ := H.all x u hu
      exact List.mem_map.2 ⟨e, he, hk⟩
    have hnd : ((L.map Prod.fst).map encK).Nodup := by
      unfold List.Nodup at *
      rw [List.pairwise_map]
      exact hn.imp fun hab e => hab (keyS.inj _ _ e)
    have := List.Nodup.length_le_of_subset hnd hsub
    simpa using this
/-- the builder with its names -/
def BdC (W : World) (B b : Nat) (ws ms ar : List Int) (ex re : Int) (mb : Nat) (L : List (SK × Int)) : Prop :=
  ∃ v1 v2 v3, Bd W B b ws ms ar ex re v1 v2 v3 (.map (some mb)) ∧ MapF encK W mb (assocF L) ∧ B ≤ b ∧ B ≤ mb
theorem row_map {W : World} {nb n : Nat} {v : Value} {xs : List Value} {t : TypeId} {z mb : Nat} {f : SK → Option Value} (h : W.ownsRow nb t z v n xs) (hm : MapF encK W mb f) : v.ownBlock ≠ some mb := by
  intro e
  obtain ⟨es, k, hb, _⟩ := hm
  rcases h.2 with ⟨rfl, _⟩ | ⟨g, cap, cur, rfl, _, hg, _⟩
  · cases e
  · obtain rfl : g = mb := by simpa [Value.ownBlock] using e
    rw [hg] at hb
    cases hb
theorem blk_map {W : World} {b mb : Nat} {cs : Array Value} {T : TypeId} {f : SK → Option Value} (h : Blk W b cs T) (hm : MapF encK W mb f) : b ≠ mb := by
  intro e
  subst e
  obtain ⟨es, k, hb, _⟩ := hm
  unfold Blk at h
  rw [h] at hb
  cases hb
theorem bdm_map {W : World} {B b : Nat} {ws ms ar : List Int} {ex re : Int} {v1 v2 v3 mv : Value} {mb : Nat} {f : SK → Option Value} (h : Bd W B b ws ms ar ex re v1 v2 v3 mv) (hm : MapF encK W mb f) : ¬ BdM b v1 v2 v3 mb := by
  rintro (e | e | e | e)
  · exact blk_map h.blk hm e.symm
  · exact row_map h.r1 hm e
  · exact row_map h.r2 hm e
  · exact row_map h.r3 hm e
theorem bdm_ge {W : World} {B b : Nat} {ws ms ar : List Int} {ex re : Int} {v1 v2 v3 mv : Value} (h : Bd W B b ws ms ar ex re v1 v2 v3 mv) (hb : B ≤ b) (k : Nat) (hk : BdM b v1 v2 v3 k) : B ≤ k := by
  rcases hk with e | e | e | e
  · omega
  · exact (h.r1.lt k e).1
  · exact (h.r2.lt k e).1
  · exact (h.r3.lt k e).1
/-- what an order emitted leaves -/
def EmRes (B b : Nat) (ws ms ar : List Int) (ex re : Int) (mb : Nat) (L : List (SK × Int)) (w : World) (e : Ending) (w' : World) : Prop := e = .returned (.tuple #[]) ∧ BdC w' B b ws ms ar ex re mb L ∧ Below B w w'
theorem putC {B b : Nat} {ws ms ar : List Int} {ex re : Int} {mb : Nat} {L : List (SK × Int)} {op fm tm nx mask : Int} {w : World} (h : BdC w B b ws ms ar ex re mb L) (hl1 : ws.length ≤ 400) (hl2 : ms.length ≤ 400) (ho : ordB ⟨op, fm, tm, nx⟩ = true) :
    Calls Try.prog 69 #[.pointer (some ⟨b, 0, none⟩), .agg #[.int .i64 op, .int .i64 fm, .int .i64 tm, .int .i64 nx], .int .i64 mask] w (EmRes B b (ws ++ [Q.written ⟨op, fm, tm, nx⟩]) (ms ++ [mask]) ar ex re mb L w) := by
  obtain ⟨v1, v2, v3, H, hm, hb, hmb⟩ := h
  have hB : B ≤ w.heap.size := by have := H.blk.lt; omega
  refine (lb_put B b ws ms ar ex re v1 v2 v3 _ op fm tm nx mask w H hB hl1 hl2 ho).mono ?_
  rintro e w' ⟨he, v1', v2', H', K, _, _⟩
  exact ⟨he, ⟨v1', v2', v3, H', hm.same (K.block mb hm.lt (bdm_map H hm)), hb, hmb⟩, K.below (Below.refl _ _) hB fun k hk => bdm_ge H hb k hk⟩
set_option maxRecDepth 100000 in
set_option maxHeartbeats 4000000 in
theorem lb_emit (B b : Nat) (ws ms ar : List Int) (ex re : Int) (mb : Nat) (L : List (SK × Int)) (op f t nx : Int) (s1 s2 : SK) (w : World) (h : BdC w B b ws ms ar ex re mb L) (hl1 : ws.length ≤ 400) (hl2 : ms.length ≤ 400)
    (h1 : assocF L s1 = some (.int .i64 f)) (h2 : assocF L s2 = some (.int .i64 t)) (ho : ordB ⟨op, f, t, nx⟩ = true) :
    Calls Try.prog 46 #[.pointer (some ⟨b, 0, none⟩), .int .i64 op, .string s1.val, .string s2.val, .int .i64 nx] w (EmRes B b (ws ++ [Q.written ⟨op, f, t, nx⟩]) (ms ++ [7]) ar ex re mb L w) := by
  have hp := fun W (E : Ext w W) (h : BdC W B b ws ms ar ex re mb L) => putC (mask := 7) h hl1 hl2 ho
  have hcopy : ∀ W, Ext w W → BdC W B b ws ms ar ex re mb L := fun W E => by
    obtain ⟨v1, v2, v3, H, hm, hb⟩ := h
    exact ⟨v1, v2, v3, H.ext E, hm.ext E, hb⟩
  obtain ⟨v1, v2, v3, H, hm, hb, hmb⟩ := h
  have hpp := fun W (E : Ext w W) => hp W E (hcopy W E)
  have hsz : B ≤ w.heap.size := by have := H.blk.lt; omega
  have HPP := Lib.hid hpp
  unfold EmRes
  obtain ⟨S, hS⟩ : ∃ S : World → Prop, S = fun w' => BdC w' B b (ws ++ [Q.written ⟨op, f, t, nx⟩]) (ms ++ [7]) ar ex re mb L ∧ Below B w w' := ⟨_, rfl⟩
  have HS := Lib.hid (show ∀ w', BdC w' B b (ws ++ [Q.written ⟨op, f, t, nx⟩]) (ms ++ [7]) ar ex re mb L ∧ Below B w w' → S w' from fun w' h => by rw [hS]; exact h)
  suffices hs : Calls Try.prog 46 #[.pointer (some ⟨b, 0, none⟩), .int .i64 op, .string s1.val, .string s2.val, .int .i64 nx] w (fun e w' => e = .returned (.tuple #[]) ∧ S w') by
    rw [hS] at hs
    exact hs
  have hz : b < w.heap.size := H.blk.lt
  have hzm := hm.lt
  have hblk := H.blk
  clear hS hp hcopy hpp H
  go_enter Try.func46, Try.ntmps46
  go_upto_region 0 with fail
  refine wp_region_P (fun i => i == 16) (fun W => Blk W b #[v1, v2, .int .i64 0, .int .i64 ex, .int .i64 re, v3, .map (some mb)] 91 ∧ MapF encK W mb (assocF L)) (by kernel_rfl) ⟨hblk.dr, hm.same rfl⟩ fun hSX => ?_
  have hE : Ext w w.drew := (Ext.refl w).drew
  generalize w.drew = Y at *
  refine tkPP 0 ⟨_, _, _, _, _, _⟩ ?_ rfl (by kernel_rfl) (fun _ _ _ h => h) (Or.inl ⟨by rfl, ?_⟩) ?_
  rotate_left
  · intro wX _
    go_simp
    (try with_reducible rfl)
  (try simp only [Act.put, List.setIfInBounds_toArray, List.set_cons_succ, List.set_cons_zero])
  refine tkPP 1 ⟨_, _, _, _, _, _⟩ ?_ rfl (by kernel_rfl) (fun _ _ _ h => h) (Or.inl ⟨by rfl, ?_⟩) ?_
  rotate_left
  · intro wX _
    go_simp
    (try with_reducible rfl)
  (try simp only [Act.put, List.setIfInBounds_toArray, List.set_cons_succ, List.set_cons_zero])
  refine tkPP 2 ⟨_, _, _, _, _, _⟩ ?_ rfl (by kernel_rfl) (fun _ _ _ h => h) (Or.inl ⟨by rfl, ?_⟩) ?_
  rotate_left
  · intro wX _
    go_simp
    (try with_reducible rfl)
  (try simp only [Act.put, List.setIfInBounds_toArray, List.set_cons_succ, List.set_cons_zero])
  refine tkPP 3 ⟨_, _, _, _, _, _⟩ ?_ rfl (by kernel_rfl) (fun _ _ _ h => h) (Or.inl ⟨by rfl, ?_⟩) ?_
  rotate_left
  · intro wX _
    go_simp
    (try with_reducible rfl)
  (try simp only [Act.put, List.setIfInBounds_toArray, List.set_cons_succ, List.set_cons_zero])
  refine tkP 4 ⟨_, _, _, _, _, _⟩ ?_ rfl (by kernel_rfl) (fun _ _ _ h => h) (Or.inl ⟨by rfl, ?_⟩) hSX ?_
  rotate_left
  · intro wX hS
    have hq := Blk.c hS.1 6 (v := .map (some mb)) rfl
    go_simp
    (try with_reducible rfl)
  (try simp only [Act.put, List.setIfInBounds_toArray, List.set_cons_succ, List.set_cons_zero])
  refine tkPP 5 ⟨_, _, _, _, _, _⟩ ?_ rfl (by kernel_rfl) (fun _ _ _ h => h) (Or.inl ⟨by rfl, ?_⟩) ?_
  rotate_left
  · intro wX _
    go_simp
    (try with_reducible rfl)
  (try simp only [Act.put, List.setIfInBounds_toArray, List.set_cons_succ, List.set_cons_zero])
  refine tkP 6 ⟨_, _, _, _, _, _⟩ ?_ rfl (by kernel_rfl) (fun _ _ _ h => h) (Or.inl ⟨by rfl, ?_⟩) hSX ?_
  rotate_left
  · intro wX hS
    have hq := look_str hS.2 h1
    go_simp
    (try with_reducible rfl)
  (try simp only [Act.put, List.setIfInBounds_toArray, List.set_cons_succ, List.set_cons_zero])
  refine tkPP 7 ⟨_, _, _, _, _, _⟩ ?_ rfl (by kernel_rfl) (fun _ _ _ h => h) (Or.inl ⟨by rfl, ?_⟩) ?_
  rotate_left
  · intro wX _
    go_simp
    (try with_reducible rfl)
  (try simp only [Act.put, List.setIfInBounds_toArray, List.set_cons_succ, List.set_cons_zero])
  refine tkPP 8 ⟨_, _, _, _, _, _⟩ ?_ rfl (by kernel_rfl) (fun _ _ _ h => h) (Or.inl ⟨by rfl, ?_⟩) ?_
  rotate_left
  · intro wX _
    go_simp
    (try with_reducible rfl)
  (try simp only [Act.put, List.setIfInBounds_toArray, List.set_cons_succ, List.set_cons_zero])
  refine tkPP 9 ⟨_, _, _, _, _, _⟩ ?_ rfl (by kernel_rfl) (fun _ _ _ h => h) (Or.inl ⟨by rfl, ?_⟩) ?_
  rotate_left
  · intro wX _
    go_simp
    (try with_reducible rfl)
  (try simp only [Act.put, List.setIfInBounds_toArray, List.set_cons_succ, List.set_cons_zero])
  refine tkP 10 ⟨_, _, _, _, _, _⟩ ?_ rfl (by kernel_rfl) (fun _ _ _ h => h) (Or.inl ⟨by rfl, ?_⟩) hSX ?_
  rotate_left
  · intro wX hS
    have hq := Blk.c hS.1 6 (v := .map (some mb)) rfl
    go_simp
    (try with_reducible rfl)
  (try simp only [Act.put, List.setIfInBounds_toArray, List.set_cons_succ, List.set_cons_zero])
  refine tkPP 11 ⟨_, _, _, _, _, _⟩ ?_ rfl (by kernel_rfl) (fun _ _ _ h => h) (Or.inl ⟨by rfl, ?_⟩) ?_
  rotate_left
  · intro wX _
    go_simp
    (try with_reducible rfl)
  (try simp only [Act.put, List.setIfInBounds_toArray, List.set_cons_succ, List.set_cons_zero])
  refine tkP 12 ⟨_, _, _, _, _, _⟩ ?_ rfl (by kernel_rfl) (fun _ _ _ h => h) (Or.inl ⟨by rfl, ?_⟩) hSX ?_
  rotate_left
  · intro wX hS
    have hq := look_str hS.2 h2
    go_simp
    (try with_reducible rfl)
  (try simp only [Act.put, List.setIfInBounds_toArray, List.set_cons_succ, List.set_cons_zero])
  refine tkPP 13 ⟨_, _, _, _, _, _⟩ ?_ rfl (by kernel_rfl) (fun _ _ _ h => h) (Or.inl ⟨by rfl, ?_⟩) ?_
  rotate_left
  · intro wX _
    go_simp
    (try with_reducible rfl)
  (try simp only [Act.put, List.setIfInBounds_toArray, List.set_cons_succ, List.set_cons_zero])
  refine tkPP 14 ⟨_, _, _, _, _, _⟩ ?_ rfl (by kernel_rfl) (fun _ _ _ h => h) (Or.inl ⟨by rfl, ?_⟩) ?_
  rotate_left
  · intro wX _
    go_simp
    (try with_reducible rfl)
  (try simp only [Act.put, List.setIfInBounds_toArray, List.set_cons_succ, List.set_cons_zero])
  refine wpAnyP_one (i := 15) (o := ⟨_, _, _, _, _, _⟩) (by kernel_rfl) rfl ?_ <;> intro K hK
  go_simp
  refine hK _ _ (.inr fun h => ⟨h.1.al _, h.2.alloc _⟩) ?_
  clear hK
  refine wpAnyP_one (i := 16) (o := ⟨_, _, _, _, _, _⟩) (by kernel_rfl) rfl ?_ <;> intro K hK
  go_simp
  refine hK _ _ (.inl rfl) ?_
  clear hK
  refine wpAnyP_done (by kernel_rfl) ?_ _
  clear hSX hm hblk h1 h2
  go_wp2_with fail
  refine (HPP.out _ (hE.alloc _)).mono ?_
  rintro e w' ⟨rfl, hC, hBl⟩
  have FIN := HS.out _ ⟨hC, ((hE.alloc _).mono hsz).trans hBl⟩
  go_wp2_with fail
  go_end0
  exact ⟨rfl, FIN⟩
set_option maxRecDepth 100000 in
set_option maxHeartbeats 4000000 in
theorem lb_jump (B b : Nat) (ws ms ar : List Int) (ex re : Int) (mb : Nat) (L : List (SK × Int)) (f lo nx : Int) (s1 : SK) (w : World) (h : BdC w B b ws ms ar ex re mb L) (hl1 : ws.length ≤ 400) (hl2 : ms.length ≤ 400)
    (h1 : assocF L s1 = some (.int .i64 f)) (ho : ordB ⟨5, f, lo, nx⟩ = true) :
    Calls Try.prog 47 #[.pointer (some ⟨b, 0, none⟩), .string s1.val, .int .i64 lo, .int .i64 nx] w (EmRes B b (ws ++ [Q.written ⟨5, f, lo, nx⟩]) (ms ++ [7]) ar ex re mb L w) := by
  have hp := putC (mask := 7) h hl1 hl2 ho
  obtain ⟨v1, v2, v3, H, hm, hb, hmb⟩ := h
  have q6 := H.blk.c 6 (v := .map (some mb)) rfl
  have hlk := look_str hm h1
  unfold EmRes at hp ⊢
  obtain ⟨S, hS⟩ : ∃ S : World → Prop, S = fun w' => BdC w' B b (ws ++ [Q.written ⟨5, f, lo, nx⟩]) (ms ++ [7]) ar ex re mb L ∧ Below B w w' := ⟨_, rfl⟩
  have hp2 : Calls Try.prog 69 #[.pointer (some ⟨b, 0, none⟩), .agg #[.int .i64 5, .int .i64 f, .int .i64 lo, .int .i64 nx], .int .i64 7] w fun e w' => e = .returned (.tuple #[]) ∧ S w' := by rw [hS]; exact hp
  suffices hs : Calls Try.prog 47 #[.pointer (some ⟨b, 0, none⟩), .string s1.val, .int .i64 lo, .int .i64 nx] w (fun e w' => e = .returned (.tuple #[]) ∧ S w') by
    rw [hS] at hs
    exact hs
  clear hS hp H hm h1
  go_enter Try.func47, Try.ntmps47
  go_wp2_with fail
  refine hp2.mono ?_
  rintro e w' ⟨rfl, FIN⟩
  go_wp2_with fail
  go_end0
  exact ⟨rfl, FIN⟩
theorem step_putF {P : Program} {w : World} {ops : Array Oper} {E : Prop} {k : TypeId} {α : Type} [DecidableEq α] {enc : α → Value} {f : α → Option Value} {o : Oper} {a : Act} {K : Act → World → Prop} {Q : Exit → Act → World → Prop} (hgd : o.guard = none) (m x v : Operand) (t : TypeId) (hop : o.op = Op.mapUpdate t m x v) (e : TypeId) (KE : KeyEnc P k enc) (ht : P.underlying t = some (.map k e)) (b : Nat)
    (hm : a.eval m = .map (some b)) (hown : MapF enc w b f) (key : α) (val : Value) (hx : a.eval x = enc key) (hv : a.eval v = val)
    (hK : ∀ w', MapF enc w' b (putF f key val) → w.grownBy w' (some b) → w'.heap.size = w.heap.size → K (a.put o.dst undef) w') :
    if Region.wanted o (yielded ops a.tmps) = true then Oper.wp P o a w K Q else E := by
  rw [if_pos (by simp [Region.wanted, hgd])]
  obtain ⟨w', hrun, r1, r2, r3⟩ := hown.update KE ht key val
  unfold Oper.wp
  simp [execOp, hop, hm, hx, hv, hrun, Result.andThen]
  exact hK w' r1 r2 r3
theorem len_str {W : World} {mb k : Nat} {es : Array MapEntry} {n : Nat} (hb : W.heap[mb]? = some (.map es k)) (hn : es.size = n) : (Builtin.len_ #[89] 3 #[.map (some mb)]).run Try.prog W = .ok (.int .i64 (n : Int)) W := by
  rw [← hn]
  exact run_len_map (P := Try.prog) (w := W) (t := 89) (ty := 3) (r := mb) (es := es) (clock := k) (h := by rw [Try.underlying89]; kernel_rfl) (hb := hb)
/-- names with the places behind the exit, one after the other -/
def addN (ex : Int) (L : List (SK × Int)) (ns : List SK) : List (SK × Int) := ns.foldl (fun L s => L ++ [(s, ex + 1 + (L.length : Int))]) L
theorem addN_snoc (ex : Int) (L : List (SK × Int)) (ns : List SK) (s : SK) : addN ex L (ns ++ [s]) = addN ex L ns ++ [(s, ex + 1 + ((addN ex L ns).length : Int))] := by
  unfold addN
  rw [List.foldl_append]
  rfl
theorem addN_fst (ex : Int) : ∀ (ns : List SK) (L : List (SK × Int)), (addN ex L ns).map Prod.fst = L.map Prod.fst ++ ns
  | [], L => by simp [addN]
  | s :: ns, L => by
    show (addN ex (L ++ [(s, ex + 1 + (L.length : Int))]) ns).map Prod.fst = _
    rw [addN_fst ex ns]
    simp
theorem addN_len (ex : Int) (L : List (SK × Int)) (ns : List SK) : (addN ex L ns).length = L.length + ns.length := by
  have := congrArg List.length (addN_fst ex ns L)
  simpa using this
/-- names lie from a on -/
def StrsAt (w : World) (a : Option Addr) (ns : List SK) : Prop := ns = [] ∨ ∃ b off cs, a = some ⟨b, off, none⟩ ∧ Blk w b cs 9 ∧ ∀ (i : Nat) (s : SK), ns[i]? = some s → cs[off + i]? = some (.string s.val)
/-- what names leave -/
def CeRes (B b : Nat) (ws ms ar : List Int) (ex re : Int) (mb : Nat) (L : List (SK × Int)) (w : World) (e : Ending) (w' : World) : Prop := e = .returned (.tuple #[]) ∧ BdC w' B b ws ms ar ex re mb L ∧ KpM (fun k => k = mb) w w'
set_option maxRecDepth 100000 in
set_option maxHeartbeats 4000000 in
theorem lb_cell (B b : Nat) (ws ms ar : List Int) (ex re : Int) (mb : Nat) (L : List (SK × Int)) (a : Option Addr) (n c : Nat) (ns : List SK) (w : World) (h : BdC w B b ws ms ar ex re mb L) (hn : ns.length = n) (hn9 : n ≤ 9) (hL9 : L.length ≤ 9) (hex : 0 ≤ ex ∧ ex ≤ 100)
    (hd : (L.map Prod.fst ++ ns).Nodup) (hS : StrsAt w a ns) :
    Calls Try.prog 45 #[.pointer (some ⟨b, 0, none⟩), .slice a n c] w (CeRes B b ws ms ar ex re mb (addN ex L ns) w) := by
  have HS := Lib.hid hS
  have HN := Lib.hid hn
  have HD := Lib.hid hd
  have H0 := Lib.hid h
  obtain ⟨e0, e1⟩ := hex
  unfold CeRes
  obtain ⟨S, hSS⟩ : ∃ S : World → Prop, S = fun w' => BdC w' B b ws ms ar ex re mb (addN ex L ns) ∧ KpM (fun k => k = mb) w w' := ⟨_, rfl⟩
  have HSS := Lib.hid (show ∀ w', BdC w' B b ws ms ar ex re mb (addN ex L ns) ∧ KpM (fun k => k = mb) w w' → S w' from fun w' h => by rw [hSS]; exact h)
  suffices hs : Calls Try.prog 45 #[.pointer (some ⟨b, 0, none⟩), .slice a n c] w (fun e w' => e = .returned (.tuple #[]) ∧ S w') by
    rw [hSS] at hs
    exact hs
  clear hSS hS hn hd h
  go_enter Try.func45, Try.ntmps45
  go_wp2
  go_loopw [8] (fun s wr => ∃ j : Nat, j ≤ n ∧ s = .int .i64 (j : Int) ∧ Aside (BdC wr B b ws ms ar ex re mb (addN ex L (ns.take j))) ∧ Aside (KpM (fun k => k = mb) w wr)) (fun s _ => n - (intOf s).toNat)
  case atStart => exact ⟨0, Nat.zero_le _, rfl, H0.out, KpM.refl _ _⟩
  case round =>
    obtain ⟨j, hj, rfl, HB, HK⟩ := hrel
    by_cases hlt : j < n
    · have hltz : (j : Int) < (n : Int) := by omega
      obtain ⟨s, hs⟩ : ∃ s, ns[j]? = some s := ⟨_, List.getElem?_eq_getElem (by rw [HN.out]; exact hlt)⟩
      obtain ⟨v1, v2, v3, H, hm, hb, hmb⟩ := HB.out
      obtain ⟨sb, off, rfl, hsc⟩ : ∃ sb off, a = some ⟨sb, off, none⟩ ∧ wr.cell? ⟨sb, off + j, none⟩ = some (.string s.val) := by
        rcases HS.out with h | ⟨sb, off, cs, ha, hB, hc⟩
        · rw [h] at hs; cases hs
        · obtain ⟨u1, u2, u3, H2, hm2, _⟩ := H0.out
          exact ⟨sb, off, ha, (hB.kpm HK.out (fun e => blk_map hB hm2 e)).c (off + j) (hc j s hs)⟩
      have hnn := addN_snoc ex L (ns.take j) s
      rw [← take_get hs] at hnn
      have hln := addN_len ex L (ns.take j)
      rw [List.length_take, HN.out, show min j n = j by omega] at hln
      have hfs := addN_fst ex (ns.take j) L
      obtain ⟨M, hM⟩ : ∃ M, addN ex L (ns.take j) = M := ⟨_, rfl⟩
      rw [hM] at hm hnn hln hfs
      have hnd : (M.map Prod.fst).Nodup := by
        rw [hfs]
        exact HD.out.sublist (List.Sublist.append (List.Sublist.refl _) (List.take_sublist _ _))
      have hnew : ∀ p ∈ M, p.1 ≠ s := by
        intro p hp e
        have hin : p.1 ∈ L.map Prod.fst ++ ns.take j := by rw [← hfs]; exact List.mem_map_of_mem hp
        have h1 : (L.map Prod.fst ++ ns.take (j + 1)).Nodup := HD.out.sublist (List.Sublist.append (List.Sublist.refl _) (List.take_sublist _ _))
        rw [take_get hs, ← List.append_assoc, List.nodup_append] at h1
        exact h1.2.2 p.1 hin s (by simp) e
      obtain ⟨es, kk, hes, hesz⟩ := map_size hm hnd
      have hblk := H.blk
      have hne := blk_map hblk hm
      have HMW := Lib.hid hm
      have HH := Lib.hid H
      have HNN := Lib.hid hnn
      have HNW := Lib.hid hnew
      have HLN := Lib.hid hln
      have HBB := Lib.hid (And.intro hb hmb)
      rw [hln] at hesz
      have HESZ := Lib.hid hesz
      have HNE := Lib.hid hne
      clear H hnn hnew hnd hfs hM hs hesz hln hne
      go_upto_region 3 with fail
      refine wp_region_P (fun i => i == 17) (fun W => Blk W b #[v1, v2, .int .i64 0, .int .i64 ex, .int .i64 re, v3, .map (some mb)] 91 ∧ W.heap[mb]? = some (.map es kk)) (by kernel_rfl) ⟨hblk.dr, hes⟩ fun hSX => ?_
      have hmd : MapF encK wr.drew mb (assocF M) := hm.same rfl
      have hE : Ext wr wr.drew := (Ext.refl wr).drew
      have hml : (M.length : Int) = (L.length : Int) + (j : Int) := by have := HLN.out; omega
      have w1' : IntKind.i64.wrap (ex + 1) = ex + 1 := IntWalk.i64_in _ (by omega)
      have W2 := Lib.hid (show IntKind.i64.wrap (ex + 1 + ((L.length : Int) + (j : Int))) = ex + 1 + (M.length : Int) by rw [IntWalk.i64_in _ (by omega)]; omega)
      clear hm hblk hes hsc
      generalize wr.drew = Y at *
      refine tkPP 0 ⟨_, _, _, _, _, _⟩ ?_ rfl (by kernel_rfl) (fun _ _ _ h => h) (Or.inl ⟨by rfl, ?_⟩) ?_
      rotate_left
      · intro wX _
        go_simp
        (try with_reducible rfl)
      (try simp only [Act.put, List.setIfInBounds_toArray, List.set_cons_succ, List.set_cons_zero])
      refine tkPP 1 ⟨_, _, _, _, _, _⟩ ?_ rfl (by kernel_rfl) (fun _ _ _ h => h) (Or.inl ⟨by rfl, ?_⟩) ?_
      rotate_left
      · intro wX _
        go_simp
        (try with_reducible rfl)
      (try simp only [Act.put, List.setIfInBounds_toArray, List.set_cons_succ, List.set_cons_zero])
      refine tkPP 2 ⟨_, _, _, _, _, _⟩ ?_ rfl (by kernel_rfl) (fun _ _ _ h => h) (Or.inl ⟨by rfl, ?_⟩) ?_
      rotate_left
      · intro wX _
        go_simp
        (try with_reducible rfl)
      (try simp only [Act.put, List.setIfInBounds_toArray, List.set_cons_succ, List.set_cons_zero])
      refine tkP 3 ⟨_, _, _, _, _, _⟩ ?_ rfl (by kernel_rfl) (fun _ _ _ h => h) (Or.inl ⟨by rfl, ?_⟩) hSX ?_
      rotate_left
      · intro wX hS
        have hq := Blk.c hS.1 6 (v := .map (some mb)) rfl
        go_simp
        (try with_reducible rfl)
      (try simp only [Act.put, List.setIfInBounds_toArray, List.set_cons_succ, List.set_cons_zero])
      refine tkPP 4 ⟨_, _, _, _, _, _⟩ ?_ rfl (by kernel_rfl) (fun _ _ _ h => h) (Or.inl ⟨by rfl, ?_⟩) ?_
      rotate_left
      · intro wX _
        go_simp
        (try with_reducible rfl)
      (try simp only [Act.put, List.setIfInBounds_toArray, List.set_cons_succ, List.set_cons_zero])
      refine tkPP 5 ⟨_, _, _, _, _, _⟩ ?_ rfl (by kernel_rfl) (fun _ _ _ h => h) (Or.inl ⟨by rfl, ?_⟩) ?_
      rotate_left
      · intro wX _
        go_simp
        (try with_reducible rfl)
      (try simp only [Act.put, List.setIfInBounds_toArray, List.set_cons_succ, List.set_cons_zero])
      refine tkPP 6 ⟨_, _, _, _, _, _⟩ ?_ rfl (by kernel_rfl) (fun _ _ _ h => h) (Or.inl ⟨by rfl, ?_⟩) ?_
      rotate_left
      · intro wX _
        go_simp
        (try with_reducible rfl)
      (try simp only [Act.put, List.setIfInBounds_toArray, List.set_cons_succ, List.set_cons_zero])
      refine tkPP 7 ⟨_, _, _, _, _, _⟩ ?_ rfl (by kernel_rfl) (fun _ _ _ h => h) (Or.inl ⟨by rfl, ?_⟩) ?_
      rotate_left
      · intro wX _
        go_simp
        (try with_reducible rfl)
      (try simp only [Act.put, List.setIfInBounds_toArray, List.set_cons_succ, List.set_cons_zero])
      refine tkPP 8 ⟨_, _, _, _, _, _⟩ ?_ rfl (by kernel_rfl) (fun _ _ _ h => h) (Or.inl ⟨by rfl, ?_⟩) ?_
      rotate_left
      · intro wX _
        go_simp
        (try with_reducible rfl)
      (try simp only [Act.put, List.setIfInBounds_toArray, List.set_cons_succ, List.set_cons_zero])
      refine tkP 9 ⟨_, _, _, _, _, _⟩ ?_ rfl (by kernel_rfl) (fun _ _ _ h => h) (Or.inl ⟨by rfl, ?_⟩) hSX ?_
      rotate_left
      · intro wX hS
        have hq := Blk.c hS.1 3 (v := .int .i64 ex) rfl
        go_simp
        (try with_reducible rfl)
      (try simp only [Act.put, List.setIfInBounds_toArray, List.set_cons_succ, List.set_cons_zero])
      refine tkPP 10 ⟨_, _, _, _, _, _⟩ ?_ rfl (by kernel_rfl) (fun _ _ _ h => h) (Or.inl ⟨by rfl, ?_⟩) ?_
      rotate_left
      · intro wX _
        go_simp
        (try with_reducible rfl)
      (try simp only [Act.put, List.setIfInBounds_toArray, List.set_cons_succ, List.set_cons_zero])
      refine tkPP 11 ⟨_, _, _, _, _, _⟩ ?_ rfl (by kernel_rfl) (fun _ _ _ h => h) (Or.inl ⟨by rfl, ?_⟩) ?_
      rotate_left
      · intro wX _
        go_simp
        (try with_reducible rfl)
      (try simp only [Act.put, List.setIfInBounds_toArray, List.set_cons_succ, List.set_cons_zero])
      refine tkPP 12 ⟨_, _, _, _, _, _⟩ ?_ rfl (by kernel_rfl) (fun _ _ _ h => h) (Or.inl ⟨by rfl, ?_⟩) ?_
      rotate_left
      · intro wX _
        go_simp
        (try with_reducible rfl)
      (try simp only [Act.put, List.setIfInBounds_toArray, List.set_cons_succ, List.set_cons_zero])
      refine tkPP 13 ⟨_, _, _, _, _, _⟩ ?_ rfl (by kernel_rfl) (fun _ _ _ h => h) (Or.inl ⟨by rfl, ?_⟩) ?_
      rotate_left
      · intro wX _
        go_simp
        (try with_reducible rfl)
      (try simp only [Act.put, List.setIfInBounds_toArray, List.set_cons_succ, List.set_cons_zero])
      refine tkP 14 ⟨_, _, _, _, _, _⟩ ?_ rfl (by kernel_rfl) (fun _ _ _ h => h) (Or.inl ⟨by rfl, ?_⟩) hSX ?_
      rotate_left
      · intro wX hS
        have hq := Blk.c hS.1 6 (v := .map (some mb)) rfl
        go_simp
        (try with_reducible rfl)
      (try simp only [Act.put, List.setIfInBounds_toArray, List.set_cons_succ, List.set_cons_zero])
      refine tkP 15 ⟨_, _, _, _, _, _⟩ ?_ rfl (by kernel_rfl) (fun _ _ _ h => h) (Or.inl ⟨by rfl, ?_⟩) hSX ?_
      rotate_left
      · intro wX hS
        have hq := len_str hS.2 HESZ.out
        go_simp
        (try with_reducible rfl)
      (try simp only [Act.put, List.setIfInBounds_toArray, List.set_cons_succ, List.set_cons_zero])
      refine tkPP 16 ⟨_, _, _, _, _, _⟩ ?_ rfl (by kernel_rfl) (fun _ _ _ h => h) (Or.inl ⟨by rfl, ?_⟩) ?_
      rotate_left
      · intro wX _
        go_simp
        (try with_reducible rfl)
      (try simp only [Act.put, List.setIfInBounds_toArray, List.set_cons_succ, List.set_cons_zero])
      refine wpAnyP_one (i := 17) (o := ⟨_, _, _, _, _, _⟩) (by kernel_rfl) rfl ?_ <;> intro K hK
      refine step_putF (by rfl) _ _ _ 89 (by rfl) 3 keyS Try.underlying89 mb (by rfl) hmd s (.int .i64 (ex + 1 + (M.length : Int))) (by rfl) (by show Value.int .i64 (IntKind.i64.wrap (ex + 1 + ((L.length : Int) + (j : Int)))) = _; rw [W2.out]) ?_
      intro w' hm' hg' _
      have KK : KpM (fun k => k = mb) wr w' := (KpM.of_ext hE).trans (KpM.grown hg' fun k hk => by injection hk with hk; exact hk.symm)
      have HC : BdC w' B b ws ms ar ex re mb (addN ex L (ns.take (j + 1))) := by
        have H := HH.out
        have hm0 := HB.out
        refine ⟨v1, v2, v3, ⟨H.blk.kpm KK HNE.out, own_kpm H.r1 KK fun k hk e => row_map H.r1 HMW.out (by rw [hk, e]), own_kpm H.r2 KK fun k hk e => row_map H.r2 HMW.out (by rw [hk, e]), own_kpm H.r3 KK fun k hk e => row_map H.r3 HMW.out (by rw [hk, e]), H.n1, H.n2, H.n3, H.a12, H.a13, H.a23⟩, ?_, HBB.out.1, HBB.out.2⟩
        rw [HNN.out]
        exact hm'.congr (assoc_put HNW.out _)
      have HKK := HK.out.trans KK
      refine hK _ _ (.inl rfl) ?_
      clear hK
      refine wpAnyP_done (by kernel_rfl) ?_ _
      clear hSX hmd hE hm' hg' KK hml w1'
      go_wp2_with fail
      go_roundw
      case rel => exact ⟨j + 1, by omega, by go_num, HC, HKK⟩
      case measure => simp [intOf]; omega
    · have hltz : ¬ (j : Int) < (n : Int) := by omega
      have FIN := HSS.out wr ⟨(by have := HB.out; rw [List.take_of_length_le (by rw [HN.out]; omega)] at this; exact this), HK.out⟩
      go_wp2
      go_end0
      exact ⟨rfl, FIN⟩
end Go.Proofs.Ytcijneecjkpebaa
/- Layer 8 in plain Lean: the routines of the three kinds. -/
namespace Go.Q
/-- the orders of a kind, by a (where the product has been made) -/
def codeO (k : Int) : List Ord :=
  let a : Int := if k = 3 then 7 else 6
  let x : Int := a + 8
  let half := x + 1
  let one := x + 2
  let first := x + 3
  let second : Int := if k = 2 then x + 4 else x + 3
  let result := second + 1
  let try_ := second + 2
  let step := second + 3
  let test := second + 4
  [⟨1, half, step, 1⟩, ⟨3, result, result, 2⟩, ⟨1, result, try_, 3⟩, ⟨2, step, try_, 4⟩, ⟨1, try_, test, 5⟩, ⟨4, if k = 2 then second else try_, test, 6⟩]
  ++ (if k = 3 then [⟨4, try_, test, 7⟩] else [])
  ++ [⟨3, first, test, a + 1⟩, ⟨3, one, test, a + 2⟩, ⟨5, test, a + 3, a + 4⟩, ⟨1, try_, result, a + 4⟩, ⟨4, half, step, a + 5⟩, ⟨1, step, test, a + 6⟩, ⟨3, one, test, a + 7⟩, ⟨5, test, x, 2⟩]
def codeX (k : Int) : Int := if k = 3 then 15 else 14
def codeC (k : Int) : List Int := [0, 4194304, 1] ++ List.replicate (if k = 2 then 6 else 5) 0
/-- the routine of a kind -/
def codeQ (k : Int) : Rt := ⟨(codeO k).map written ++ codeC k, List.replicate (codeO k).length 7 ++ List.replicate (codeC k).length 0, 0, codeX k, codeX k + (if k = 2 then 5 else 4), if k = 2 then [codeX k + 3, codeX k + 4] else [codeX k + 3]⟩
def noRt : Rt := ⟨[], [], 0, 0, 0, []⟩
/-- what Code returns -/
def codeE (k : Int) : Rt × Int := if k = 1 ∨ k = 2 ∨ k = 3 then (codeQ k, 0) else (noRt, 2)
theorem code_check : checkR (codeQ 1) = 0 ∧ checkR (codeQ 2) = 0 ∧ checkR (codeQ 3) = 0 := by decide +kernel
theorem code_ords : (codeO 1).all ordB = true ∧ (codeO 2).all ordB = true ∧ (codeO 3).all ordB = true := by decide
theorem code_len : (codeQ 1).words.length = 22 ∧ (codeQ 2).words.length = 23 ∧ (codeQ 3).words.length = 23 := by decide
end Go.Q
