import Derived.Deep.QuietTactic
import Derived.BigQuiet
import Derived.BigFrameIn
import Derived.StillTailTactics
import Derived.Test.YtnhpcoagkmgdoaaGreatX5
import Derived.Test.YtnhpcoagkmgdoaaGreatX6
import Derived.Test.YtnhpcoagkmgdoaaGreatX8
import Derived.Test.YtnhpcoagkmgdoaaGreatX7
set_option linter.unusedVariables false
set_option linter.unusedSimpArgs false
/- Layer 10's program: mend. -/
namespace Go.Q
open Go.RowKit
theorem ones_low : ∀ x : Fin 64, Go.Lib.onesCount x.1 = onesN x.1 6 := by decide +kernel
theorem evsK_pre (b : List Nat) (i : Nat) : ∀ d, ∃ t, evsK b (i + d) = evsK b i ++ t
 | 0 => ⟨[], by simp⟩
 | d + 1 => by
  obtain ⟨t, ht⟩ := evsK_pre b i d
  rw [← Nat.add_assoc, evsK_succ, ht]
  split
  ·exact ⟨t, rfl⟩
  ·exact ⟨t ++ [i + d], by rw [List.append_assoc]⟩
theorem cast_eq0 (x : Nat) : ((x : Int) == 0) = (x == 0) := by rw [Bool.eq_iff_iff]; simp
def RowOf (es : List Nat) (R : Int) : Prop := (es = [] ∧ R = -1) ∨ ∃ r : Nat, es = [r] ∧ R = (r : Int)
theorem mend_many {b : List Nat} {x y : Nat} {t : List Nat} (h : evs b = x :: y :: t) : mendB b = (0, false, b) := by unfold mendB; rw [h]
theorem mend_nil {b : List Nat} (h : evs b = []) : mendB b = (-1, chk b == 0, b) := by unfold mendB; rw [h]
theorem mend_one {b : List Nat} {r : Nat} (h : evs b = [r]) : mendB b = if 1 < onesN (chk b) 6 then (0, false, b) else ((r : Int), true, b.set r (b[r]?.getD 0 ^^^ turnM b)) := by unfold mendB; rw [h]
theorem mend_bd (b : List Nat) : -1 ≤ (mendB b).1 ∧ (mendB b).1 ≤ b.length := by
 unfold mendB
 split
 ·dsimp only; omega
 ·rename_i r h
  have hr : r < b.length := by
   have : r ∈ evs b := by rw [h]; exact List.mem_cons_self ..
   unfold evs at this
   rw [List.mem_filter, List.mem_range] at this
   exact this.1
  split <;> dsimp only <;> omega
 ·dsimp only; omega
theorem evs_lt {b : List Nat} {r : Nat} (h : r ∈ evs b) : r < b.length := by
 unfold evs at h
 rw [List.mem_filter, List.mem_range] at h
 exact h.1
end Go.Q
namespace Go.Proofs.YtnhpcoagkmgdoaaGreat
open Go.RowKit Go.Q Go.Joins
/-- what mend leaves: the block as it was, or a row turned -/
def MendRes (g off : Nat) (b : List Nat) (w : World) (e : Ending) (w' : World) : Prop :=
 e = .returned (.tuple #[.int .i64 (mendB b).1, .bool (mendB b).2.1]) ∧ (((mendB b).2.2 = b ∧ w' = w) ∨ ∃ r v : Nat, r < b.length ∧ v < 128 ∧ (mendB b).2.2 = b.set r v ∧ w' = w.setCell ⟨g, off + r, none⟩ (.int .u8 (v : Int)))
set_option maxRecDepth 100000 in
set_option maxHeartbeats 8000000 in
theorem lmend_any (g off n c : Nat) (b : List Nat) (w : World) (hn : b.length = n) (hn65 : n ≤ 65) (hr : ∀ r ∈ b, r < 128) (hI : BytesAt w (some ⟨g, off, none⟩) (natI b)) (hf : ∀ i, i < n → w.frozen? ⟨g, off + i, none⟩ = false) :
  Calls Tryz.prog 61 #[.slice (some ⟨g, off, none⟩) n c] w (MendRes g off b w) := by
 have hcell : ∀ i, i < n → w.cell? ⟨g, off + i, none⟩ = some (.int .u8 ((b[i]?.getD 0 : Nat) : Int)) := by
  intro i hi
  rcases hI with e | ⟨q, o2, ha, hq, hc⟩
  ·have := natI_length b; rw [e] at this; simp at this; omega
  ·have := hc i (by rw [natI_length]; omega)
   rw [natI_get] at this
   cases ha
   exact this
 have hck := check10_any (some ⟨g, off, none⟩) n c b w hn (by omega) (fun r h => by have := hr r h; omega) hI
 have hoc := fun (x : Nat) (W : World) (h : x < 128) => Tryz.bits_OnesCount8 (x : Int) W (by omega) (by omega)
 have HC := Lib.hid hcell
 have HN := Lib.hid hn
 have HR := Lib.hid hr
 have HF := Lib.hid hf
 have HEV := Lib.hid (show evs b = evsK b n by unfold evs evsK; rw [hn])
 have HCK := Lib.hid hck
 clear hn hr hI hcell hf hck
 go_enter Tryz.func61, Tryz.ntmps61
 go_wp2
 go_loopw [2, 9] (fun s2 s9 X => ∃ (i : Nat) (R : Int), i ≤ n ∧ s9 = .int .i64 (i : Int) ∧ s2 = .int .i64 R ∧ Hid (RowOf (evsK b i) R) ∧ X = w) (fun _ s9 _ => n - (Go.RowKit.intOf s9).toNat)
 case atStart => exact ⟨0, -1, Nat.zero_le _, rfl, rfl, Lib.hid (.inl ⟨rfl, rfl⟩), rfl⟩
 case round =>
  obtain ⟨i, R, hi, rfl, rfl, HRO, rfl⟩ := hrel
  by_cases hlt : i < n
  ·have hltz : (i : Int) < (n : Int) := by omega
   have hx := HC.out i hlt
   have hy := get_lt HR.out (by decide) i
   have HS := Lib.hid (evsK_succ b i)
   obtain ⟨y, hye⟩ : ∃ y, b[i]?.getD 0 = y := ⟨_, rfl⟩
   rw [hye] at hx hy HS
   have hoy := fun W => hoc y W hy
   rw [Int.toNat_natCast] at hoy
   have ho := ones_odd ⟨y, hy⟩
   dsimp only at ho
   obtain ⟨ct, hct⟩ : ∃ ct, Go.Lib.onesCount y = ct := ⟨_, rfl⟩
   rw [hct] at ho hoy
   obtain ⟨pp, hpp⟩ : ∃ pp, ct % 2 = pp := ⟨_, rfl⟩
   rw [hpp] at ho
   have t1 : Int.tmod (ct : Int) 2 = (pp : Int) := by rw [Int.tmod_eq_emod_of_nonneg (by omega)]; omega
   have t2 : (ct : Int) % 2 = (pp : Int) := by omega
   clear hye hct hpp
   cases hop : oddP y with
   | true =>
    rw [hop, if_pos rfl] at ho
    rw [hop, if_pos rfl] at HS
    have HRO2 : Hid (RowOf (evsK b (i + 1)) R) := by rw [HS.out]; exact HRO
    subst ho
    clear hop
    go_wp2_with fail
    refine (hoy _).mono ?_
    rintro e w' ⟨rfl, rfl⟩
    go_wp2
    go_roundw
    case rel => exact ⟨i + 1, R, by omega, by go_num, rfl, HRO2, (by first | rfl | trivial)⟩
    case measure => simp [Go.RowKit.intOf]; omega
   | false =>
    rw [hop, if_neg (by decide)] at ho
    rw [hop, if_neg (by decide)] at HS
    subst ho
    clear hop
    rcases HRO.out with ⟨e1, rfl⟩ | ⟨r, e1, rfl⟩
    ·have HRO2 : Hid (RowOf (evsK b (i + 1)) (i : Int)) := Lib.hid (.inr ⟨i, by rw [HS.out, e1]; rfl, rfl⟩)
     clear e1
     go_wp2_with fail
     refine (hoy _).mono ?_
     rintro e w' ⟨rfl, rfl⟩
     go_wp2
     go_roundw
     case rel => exact ⟨i + 1, (i : Int), by omega, by go_num, rfl, HRO2, (by first | rfl | trivial)⟩
     case measure => simp [Go.RowKit.intOf]; omega
    ·have HM : Hid (mendB b = (0, false, b)) := Lib.hid (by
      obtain ⟨t, ht⟩ := evsK_pre b (i + 1) (n - (i + 1))
      rw [show i + 1 + (n - (i + 1)) = n by omega, ← HEV.out, HS.out, e1] at ht
      exact mend_many ht)
     clear e1 HRO
     have hr0 : (0 : Int) ≤ (r : Int) := by omega
     go_wp2_with fail
     refine (hoy _).mono ?_
     rintro e w' ⟨rfl, rfl⟩
     go_wp2
     refine bodyPost_ret (v := .tuple #[.int .i64 0, .bool false]) (by simp [results, Tryz.results61, go_sem]) rfl ?_
     unfold MendRes
     rw [HM.out]
     exact ⟨rfl, .inl ⟨rfl, rfl⟩⟩
  ·have hltz : ¬ (i : Int) < (n : Int) := by omega
   obtain rfl : i = n := by omega
   have hck64 : chk b < 64 := Nat.mod_lt _ (by decide)
   have HRO2 : Hid (RowOf (evs b) R) := by rw [HEV.out]; exact HRO
   rcases HRO2.out with ⟨e1, rfl⟩ | ⟨r, e1, rfl⟩
   ·have HM := Lib.hid (mend_nil e1)
    clear e1 HRO2 HRO
    obtain ⟨ck, hckn⟩ : ∃ ck, chk b = ck := ⟨_, rfl⟩
    have hck := HCK.out
    rw [hckn] at HM hck hck64
    clear hckn
    go_wp2_with fail
    refine hck.mono ?_
    rintro e w' ⟨rfl, rfl⟩
    go_wp2
    refine bodyPost_ret (v := .tuple #[.int .i64 (-1), .bool (ck == 0)]) (by simp [results, Tryz.results61, go_sem]; exact cast_eq0 _) rfl ?_
    unfold MendRes
    rw [HM.out]
    exact ⟨rfl, .inl ⟨rfl, rfl⟩⟩
   ·have HM := Lib.hid (mend_one e1)
    have hri : r < i := by rw [← HN.out]; exact evs_lt (by rw [e1]; exact List.mem_cons_self ..)
    have hx := HC.out r hri
    have hfz := HF.out r hri
    have hy := get_lt HR.out (by decide) r
    have hr0 : ¬ (r : Int) < 0 := by omega
    have hlow := ones_low ⟨chk b, hck64⟩
    dsimp only at hlow
    have hoy := fun W => hoc (chk b) W (by omega)
    rw [Int.toNat_natCast] at hoy
    clear e1 HRO2 HRO
    obtain ⟨ck, hckn⟩ : ∃ ck, chk b = ck := ⟨_, rfl⟩
    have HTM : Hid (turnM b = if ck = 0 then 64 else ck) := Lib.hid (by unfold turnM; rw [hckn])
    have hck := HCK.out
    rw [hckn] at HM hck hck64 hlow hoy
    obtain ⟨y, hye⟩ : ∃ y, b[r]?.getD 0 = y := ⟨_, rfl⟩
    rw [hye] at HM hx hy
    clear hckn hye
    by_cases h0 : ck = 0
    ·subst h0
     have HM2 : Hid (mendB b = ((r : Int), true, b.set r (y ^^^ 64))) := Lib.hid (by rw [HM.out, if_neg (by decide), HTM.out, if_pos rfl])
     have hxo : bits .xor .u8 (y : Int) 64 = ((y ^^^ 64 : Nat) : Int) := Go.Q.u8_xor (a := y) (b := 64) (by omega) (by decide)
     have hz := Nat.xor_lt_two_pow (n := 7) hy (show 64 < 2 ^ 7 by decide)
     obtain ⟨z, hze⟩ : ∃ z, y ^^^ 64 = z := ⟨_, rfl⟩
     rw [hze] at hxo HM2 hz
     clear hze HM hlow hoy
     go_wp2_with fail
     refine hck.mono ?_
     rintro e w' ⟨rfl, rfl⟩
     go_wp2
     refine bodyPost_ret (v := .tuple #[.int .i64 r, .bool true]) (by simp [results, Tryz.results61, go_sem]) rfl ?_
     unfold MendRes
     rw [HM2.out]
     exact ⟨rfl, .inr ⟨r, z, by rw [HN.out]; exact hri, hz, rfl, rfl⟩⟩
    ·have h0z : ((ck : Int) == 0) = false := by simp; exact h0
     by_cases hm : 1 < onesN ck 6
     ·have HM2 : Hid (mendB b = (0, false, b)) := Lib.hid (by rw [HM.out, if_pos hm])
      have h1 : 1 < Go.Lib.onesCount ck := by rw [hlow]; exact hm
      obtain ⟨oc, hoc2⟩ : ∃ oc, Go.Lib.onesCount ck = oc := ⟨_, rfl⟩
      rw [hoc2] at h1 hoy
      clear hoc2 hlow hm HM
      go_wp2_with fail
      refine hck.mono ?_
      rintro e w' ⟨rfl, rfl⟩
      go_wp2_with fail
      refine (hoy _).mono ?_
      rintro e w' ⟨rfl, rfl⟩
      go_wp2
      refine bodyPost_ret (v := .tuple #[.int .i64 0, .bool false]) (by simp [results, Tryz.results61, go_sem]) rfl ?_
      unfold MendRes
      rw [HM2.out]
      exact ⟨rfl, .inl ⟨rfl, rfl⟩⟩
     ·have HM2 : Hid (mendB b = ((r : Int), true, b.set r (y ^^^ ck))) := Lib.hid (by rw [HM.out, if_neg hm, HTM.out, if_neg h0])
      have h1 : ¬ 1 < Go.Lib.onesCount ck := by rw [hlow]; exact hm
      obtain ⟨oc, hoc2⟩ : ∃ oc, Go.Lib.onesCount ck = oc := ⟨_, rfl⟩
      rw [hoc2] at h1 hoy
      have hxo := Go.Q.u8_xor (a := y) (b := ck) (by omega) (by omega)
      have hz := Nat.xor_lt_two_pow (n := 7) hy (show ck < 2 ^ 7 by omega)
      obtain ⟨z, hze⟩ : ∃ z, y ^^^ ck = z := ⟨_, rfl⟩
      rw [hze] at hxo HM2 hz
      clear hze hoc2 hlow hm HM
      go_wp2_with fail
      refine hck.mono ?_
      rintro e w' ⟨rfl, rfl⟩
      go_wp2_with fail
      refine (hoy _).mono ?_
      rintro e w' ⟨rfl, rfl⟩
      go_wp2
      refine bodyPost_ret (v := .tuple #[.int .i64 r, .bool true]) (by simp [results, Tryz.results61, go_sem]) rfl ?_
      unfold MendRes
      rw [HM2.out]
      exact ⟨rfl, .inr ⟨r, z, by rw [HN.out]; exact hri, hz, rfl, rfl⟩⟩
end Go.Proofs.YtnhpcoagkmgdoaaGreat
/- Ranges over functions: a loop whose rounds may leave the function; a loop within a round. -/
namespace Go.Q
open Go.RowKit Go.Shelf
/-- how a round ends: as usual, or by leaving the function -/
def JPostS (B : Nat) (Kp : World → World → Prop) (J Z : World → Prop) (W : World) : Exit → Act → World → Prop
 | .normal, _, W' => KeepsFrom B W W' ∧ Kp W W' ∧ J W'
 | .ret, _, W' => KeepsFrom B W W' ∧ Z W'
 | _, _, _ => False
/-- a range over a function; its rounds may return from the function -/
theorem wpIn_rangeFunc_JS {α : Type} {P : Program} {n : Nat} {g : Operand} {ps : Array Tmp} {assign body : Code} {Q : Exit → Act → World → Prop} {a : Act} {w : World} {gf : Nat} {lb : Array Value}
  (hg : a.eval g = .func (.func gf) #[] lb) (eg : ∀ args w, (callFunc gf args).run P w = .ok (.enter gf args) w)
  {encs : α → Array Value} (hps : ∀ x, (encs x).size = ps.size) (J : Nat → World → Prop) (Z : World → Prop) (X : Nat → α → World → Prop) (N : Nat) (Kp : World → World → Prop)
  (hKt : ∀ {A B C : World}, Kp A B → Kp B C → Kp A C) (hKb : ∀ (W : World) (o o' : Obj), W.heap[w.heap.size + 1]? = some o → o.isCells = false → Kp W (W.putObj (w.heap.size + 1) o'))
  (hJ : TurnsAt (w.heap.size + 1) J) (hZ : TurnsAt (w.heap.size + 1) (fun (_ : Unit) => Z)) (hX : ∀ k, TurnsAt (w.heap.size + 1) (X k)) (h0 : ∀ W, Ext w W → J 0 W)
  (hcall : ∀ (l : Nat) (JJ : Nat → World → Prop) (ZZ : World → Prop) (W1 : World), Ext w W1 → w.heap.size + 1 < W1.heap.size → (∀ k W, JJ k W → J k W ∧ w.heap.size + 1 < W.heap.size) →
   (∀ k W W', JJ k W → J k W' → W'.heap[w.heap.size]? = W.heap[w.heap.size]? → W'.heap[w.heap.size + 1]? = W.heap[w.heap.size + 1]? → JJ k W') →
   (∀ k x W, JJ k W → k < N → X k x W → YieldAt Fence.wide (n - 1 - 1) P l (encs x) W fun e W' => (e = .returned (.bool true) ∧ JJ (k + 1) W' ∧ Kp W W') ∨ (e = .returned (.bool false) ∧ ZZ W')) → JJ 0 W1 →
   CallsIn Fence.wide (n - 1) P gf (#[.func (.yield l) #[] #[]] ++ lb) W1 fun e W' => (∃ v, e = .returned v) ∧ (JJ N W' ∨ ZZ W'))
  (a₁ : α → Act)
  (hassign : ∀ (l : Nat) (x : α) (W : World) (K : Act → World → Prop), K (a₁ x) W →
   assign.wpIn (Fence.wide.inRound l) (n - 1 - 1) P (Exit.then K (fun _ _ _ => False)) { tmps := (ps.zip (encs x)).foldl (fun t (p, v) => t.setIfInBounds p v) a.tmps, defers := [] } W)
  (hbody : ∀ (l k : Nat) (x : α) (W : World), w.heap.size ≤ l → (∃ r, W.heap[l]? = some (.loop r)) → J k W → k < N → X k x W → body.wpIn (Fence.wide.inRound l) (n - 1 - 1) P (JPostS w.heap.size Kp (J (k + 1)) Z W) (a₁ x) W)
  (hdone : ∀ (D : Nat) (W : World), w.heap.size ≤ D → J N W → W.heap[D]? = some (.deferred (some [])) → Q .normal { a with defers := { target := .collected D, args := #[] } :: a.defers } W)
  (hret : ∀ (D : Nat) (W : World), w.heap.size ≤ D → Z W → W.heap[D]? = some (.deferred (some [])) → Q .ret { a with defers := { target := .collected D, args := #[] } :: a.defers } W) :
  (Code.rangeFunc g ps assign body).wpIn Fence.wide n P Q a w := by
 refine wpIn_rangeFunc fun fn hfn => ?_
 obtain ⟨rec, hrec⟩ : ∃ rec : LoopState → Option Code → Loop, rec = fun st pe => { state := st, pending := pe, fn, tmps := a.tmps, params := ps, assign, body, defers := w.heap.size } := ⟨_, rfl⟩
 obtain ⟨W1, hW1⟩ : ∃ W1, (w.alloc (.deferred (some []))).alloc (.loop (rec .ready none)) = W1 := ⟨_, rfl⟩
 have hE1 : Ext w W1 := by rw [← hW1]; exact ((Ext.refl w).alloc _).alloc _
 have hs1 : W1.heap.size = w.heap.size + 2 := by rw [← hW1]; simp
 have hL1 : W1.heap[w.heap.size + 1]? = some (.loop (rec .ready none)) := by
  rw [← hW1]; have := World.alloc_heap_new (w.alloc (.deferred (some []))) (.loop (rec .ready none)); rwa [World.size_alloc] at this
 have hD1 : W1.heap[w.heap.size]? = some (.deferred (some [])) := by
  rw [← hW1]; exact (Below.heap_alloc _ _ _ (by simp)).trans (World.alloc_heap_new w _)
 refine ⟨w.heap.size + 1, [{ target := .collected w.heap.size, args := #[] }], W1, { target := .fn (.func gf) lb, args := #[.func (.yield (w.heap.size + 1)) #[] #[]] }, W1, gf,
  #[.func (.yield (w.heap.size + 1)) #[] #[]] ++ lb, W1, ?_, ?_, fun _ _ => trivial, ?_, fun h => (by cases h), ?_⟩
 ·rw [← hW1, hrec]; exact run_enterLoop_outer _ _ _ _ _
 ·simp only [resolve, hg]
  simp [go_sem]
 ·simp [invoke, go_sem, eg]
 ·refine (hcall (w.heap.size + 1) (fun k W => J k W ∧ W.heap[w.heap.size + 1]? = some (.loop (rec .ready none)) ∧ W.heap[w.heap.size]? = some (.deferred (some []))) (fun W => Z W ∧ W.heap[w.heap.size + 1]? = some (.loop (rec .done (some .ret))) ∧ W.heap[w.heap.size]? = some (.deferred (some []))) W1 hE1 (by omega) (fun _ _ h => ⟨h.1, (Array.getElem?_eq_some_iff.1 h.2.1).1⟩)
   (fun _ _ _ h hj e1 e2 => ⟨hj, e2.trans h.2.1, e1.trans h.2.2⟩) ?_ ⟨h0 _ hE1, hL1, hD1⟩).mono ?_
  ·rintro k x W ⟨hj, hl, hd⟩ hk hx
   have hlt : w.heap.size + 1 < W.heap.size := (Array.getElem?_eq_some_iff.1 hl).1
   have hy := run_yield (P := P) (args := encs x) hl (by rw [hrec]; exact hps x)
   rw [hrec] at hy
   refine ⟨fn, _, assign, body, hy, roundIn_of_wpIn hfn (hassign _ x W _ ?_)⟩
   refine ⟨_, run_beginRound hl (by rw [hrec]), ?_⟩
   have hl2 : (W.putObj (w.heap.size + 1) (.loop { rec .ready none with state := .busy })).heap[w.heap.size + 1]? = some (.loop { rec .ready none with state := .busy }) := World.putObj_heap_same hlt
   have hd2 : (W.putObj (w.heap.size + 1) (.loop { rec .ready none with state := .busy })).heap[w.heap.size]? = some (.deferred (some [])) := (World.putObj_heap_other (by omega)).trans hd
   refine wpIn_mono (hbody _ k x _ (by omega) ⟨_, hl2⟩ (hJ _ _ _ _ hj hl rfl) hk (hX k _ _ _ _ hx hl rfl)) ?_
   rintro e a3 W3 hp
   cases e with
   | normal =>
    obtain ⟨hk3, hkp3, hj3⟩ := hp
    have hl3 := hk3.same _ _ (by omega) hl2 rfl
    have hd3 := hk3.same _ _ (Nat.le_refl _) hd2 rfl
    have hr := run_endRound (P := P) none hl3
    rw [hrec] at hr hl3 ⊢
    exact ⟨_, _, hr, .inl ⟨rfl, ⟨hJ _ _ _ _ hj3 hl3 rfl, World.putObj_heap_same (Array.getElem?_eq_some_iff.1 hl3).1, (World.putObj_heap_other (by omega)).trans hd3⟩,
     hKt (hKb _ _ _ hl rfl) (hKt hkp3 (hKb _ _ _ hl3 rfl))⟩⟩
   | ret =>
    obtain ⟨hk3, hz3⟩ := hp
    have hl3 := hk3.same _ _ (by omega) hl2 rfl
    have hd3 := hk3.same _ _ (Nat.le_refl _) hd2 rfl
    have hr := run_endRound (P := P) (some .ret) hl3
    rw [hrec] at hr hl3 ⊢
    exact ⟨_, _, hr, .inr ⟨rfl, hZ () _ _ _ hz3 hl3 rfl, World.putObj_heap_same (Array.getElem?_eq_some_iff.1 hl3).1, (World.putObj_heap_other (by omega)).trans hd3⟩⟩
   | exit id => exact hp.elim
   | goto t => exact hp.elim
   | panic ch => exact hp.elim
   | outgrown => exact hp.elim
  ·rintro e W2 ⟨⟨v, rfl⟩, ⟨hj, hl, hd⟩ | ⟨hz, hl, hd⟩⟩
   ·exact ⟨none, _, by have := run_endLoop (P := P) hl (by rw [hrec]; simp); rw [hrec] at this; exact this, hdone _ _ (Nat.le_refl _) (hJ _ _ _ _ hj hl rfl) ((World.putObj_heap_other (by omega)).trans hd)⟩
   ·exact ⟨some .ret, _, by have := run_endLoop (P := P) hl (by rw [hrec]; simp); rw [hrec] at this; exact this, wpIn_ret (hret _ _ (Nat.le_refl _) (hZ () _ _ _ hz hl rfl) ((World.putObj_heap_other (by omega)).trans hd))⟩
/-- a range over a function within a round of loop l₀ -/
theorem wpIn_rangeFunc_JN {α : Type} {P : Program} {n l₀ : Nat} {r₀ : Loop} {g : Operand} {ps : Array Tmp} {assign body : Code} {Q : Exit → Act → World → Prop} {a : Act} {w : World} {gf : Nat} {lb : Array Value}
  (hl₀ : w.heap[l₀]? = some (.loop r₀)) (hg : a.eval g = .func (.func gf) #[] lb) (eg : ∀ args w, (callFunc gf args).run P w = .ok (.enter gf args) w)
  {encs : α → Array Value} (hps : ∀ x, (encs x).size = ps.size) (J : Nat → World → Prop) (X : Nat → α → World → Prop) (N : Nat) (Kp : World → World → Prop)
  (hKt : ∀ {A B C : World}, Kp A B → Kp B C → Kp A C) (hKb : ∀ (W : World) (o o' : Obj), W.heap[w.heap.size]? = some o → o.isCells = false → Kp W (W.putObj w.heap.size o'))
  (hJ : TurnsAt w.heap.size J) (hX : ∀ k, TurnsAt w.heap.size (X k)) (h0 : ∀ W, Ext w W → KeepsOthers w W → J 0 W)
  (hcall : ∀ (l : Nat) (JJ : Nat → World → Prop) (W1 : World), Ext w W1 → w.heap.size < W1.heap.size → (∀ k W, JJ k W → J k W ∧ w.heap.size < W.heap.size) →
   (∀ k W W', JJ k W → J k W' → W'.heap[w.heap.size]? = W.heap[w.heap.size]? → JJ k W') →
   (∀ k x W, JJ k W → k < N → X k x W → YieldAt Fence.wide (n - 1 - 1) P l (encs x) W fun e W' => e = .returned (.bool true) ∧ JJ (k + 1) W' ∧ Kp W W') → JJ 0 W1 →
   CallsIn Fence.wide (n - 1) P gf (#[.func (.yield l) #[] #[]] ++ lb) W1 fun e W' => (∃ v, e = .returned v) ∧ JJ N W')
  (a₁ : α → Act)
  (hassign : ∀ (l : Nat) (x : α) (W : World) (K : Act → World → Prop), K (a₁ x) W →
   assign.wpIn (Fence.wide.inRound l) (n - 1 - 1) P (Exit.then K (fun _ _ _ => False)) { tmps := (ps.zip (encs x)).foldl (fun t (p, v) => t.setIfInBounds p v) a.tmps, defers := [] } W)
  (hbody : ∀ (l k : Nat) (x : α) (W : World), w.heap.size ≤ l → (∃ r, W.heap[l]? = some (.loop r)) → J k W → k < N → X k x W → body.wpIn (Fence.wide.inRound l) (n - 1 - 1) P (JPost w.heap.size Kp (J (k + 1)) W) (a₁ x) W)
  (hdone : ∀ (W : World), J N W → Q .normal a W) :
  (Code.rangeFunc g ps assign body).wpIn (Fence.wide.inRound l₀) n P Q a w := by
 refine wpIn_rangeFunc fun fn hfn => ?_
 obtain ⟨rec, hrec⟩ : ∃ rec : LoopState → Option Code → Loop, rec = fun st pe => { state := st, pending := pe, fn, tmps := a.tmps, params := ps, assign, body, defers := r₀.defers } := ⟨_, rfl⟩
 obtain ⟨W1, hW1⟩ : ∃ W1, w.alloc (.loop (rec .ready none)) = W1 := ⟨_, rfl⟩
 have hE1 : Ext w W1 := by rw [← hW1]; exact (Ext.refl w).alloc _
 have hK1 : KeepsOthers w W1 := by rw [← hW1]; exact KeepsOthers.alloc _ _
 have hs1 : W1.heap.size = w.heap.size + 1 := by rw [← hW1]; simp
 have hL1 : W1.heap[w.heap.size]? = some (.loop (rec .ready none)) := by rw [← hW1]; exact World.alloc_heap_new w _
 refine ⟨w.heap.size, [], W1, { target := .fn (.func gf) lb, args := #[.func (.yield w.heap.size) #[] #[]] }, W1, gf,
  #[.func (.yield w.heap.size) #[] #[]] ++ lb, W1, ?_, ?_, fun _ _ => trivial, ?_, fun h => by simp [Fence.wide] at h, ?_⟩
 ·rw [← hW1, hrec]; exact run_enterLoop_inner hl₀ _ _ _ _ _
 ·simp only [resolve, hg]
  simp [go_sem]
 ·simp [invoke, go_sem, eg]
 ·refine CallsIn.inRound l₀ ((hcall w.heap.size (fun k W => J k W ∧ W.heap[w.heap.size]? = some (.loop (rec .ready none))) W1 hE1 (by omega) (fun _ _ h => ⟨h.1, (Array.getElem?_eq_some_iff.1 h.2).1⟩)
   (fun _ _ _ h hj e1 => ⟨hj, e1.trans h.2⟩) ?_ ⟨h0 _ hE1 hK1, hL1⟩).mono ?_)
  ·rintro k x W ⟨hj, hl⟩ hk hx
   have hlt : w.heap.size < W.heap.size := (Array.getElem?_eq_some_iff.1 hl).1
   have hy := run_yield (P := P) (args := encs x) hl (by rw [hrec]; exact hps x)
   rw [hrec] at hy
   refine ⟨fn, _, assign, body, hy, roundIn_of_wpIn hfn (hassign _ x W _ ?_)⟩
   refine ⟨_, run_beginRound hl (by rw [hrec]), ?_⟩
   have hl2 : (W.putObj w.heap.size (.loop { rec .ready none with state := .busy })).heap[w.heap.size]? = some (.loop { rec .ready none with state := .busy }) := World.putObj_heap_same hlt
   refine wpIn_mono (hbody _ k x _ (Nat.le_refl _) ⟨_, hl2⟩ (hJ _ _ _ _ hj hl rfl) hk (hX k _ _ _ _ hx hl rfl)) ?_
   rintro e a3 W3 ⟨rfl, hk3, hkp3, hj3⟩
   have hl3 := hk3.same _ _ (Nat.le_refl _) hl2 rfl
   have hr := run_endRound (P := P) none hl3
   rw [hrec] at hr hl3 ⊢
   exact ⟨_, _, hr, rfl, ⟨hJ _ _ _ _ hj3 hl3 rfl, World.putObj_heap_same (Array.getElem?_eq_some_iff.1 hl3).1⟩, hKt (hKb _ _ _ hl rfl) (hKt hkp3 (hKb _ _ _ hl3 rfl))⟩
  ·rintro e W2 ⟨⟨v, rfl⟩, hj, hl⟩
   exact ⟨none, _, by have := run_endLoop (P := P) hl (by rw [hrec]; simp); rw [hrec] at this; exact this, hdone _ (hJ _ _ _ _ hj hl rfl)⟩
end Go.Q
/- Layer 10's program: iterators over bytes. -/
namespace Go.Proofs.YtnhpcoagkmgdoaaGreat
open Go.RowKit Go.Q Go.Shelf Go.Joins
attribute [local go_sem] Oper.semAt_some
set_option maxRecDepth 100000 in
theorem backU_any (a : Option Addr) (k c : Nat) (w : World) :
  Calls Tryz.prog 63 #[.slice a k c] w fun e w' => e = .returned (.func (.func 92) #[] #[.pointer (some ⟨w.heap.size, 0, none⟩)]) ∧ w.alloc (.cells #[.slice a k c] 63) = w' := by
 go_enter Tryz.func63, Tryz.ntmps63
 go_wp2
 go_ret
 exact ⟨rfl, rfl⟩
set_option maxRecDepth 100000 in
set_option maxHeartbeats 2000000 in
theorem backU_in (n : Nat) (hn : 1 ≤ n) (l Bs b off N : Nat) (f : Nat → Int) (M : Nat → Prop) (hMs : ¬ M Bs) (hMb : ¬ M b) (JJ : Nat → World → Prop) (W : World)
  (hY : ∀ k W, JJ k W → k < N → YieldAt Fence.wide (n - 1) Tryz.prog l #[.int .i64 ((N - 1 - k : Nat) : Int), .int .u8 (f (N - 1 - k))] W fun e W' => e = .returned (.bool true) ∧ JJ (k + 1) W' ∧ KpM M W W')
  (hB : W.cell? ⟨Bs, 0, none⟩ = some (.slice (some ⟨b, off, none⟩) N N)) (hBs : Bs < W.heap.size) (hb : b < W.heap.size) (hC : ∀ i, i < N → W.cell? ⟨b, off + i, none⟩ = some (.int .u8 (f i))) (hN : N ≤ 400) (h0 : JJ 0 W) :
  CallsIn Fence.wide n Tryz.prog 92 #[.func (.yield l) #[] #[], .pointer (some ⟨Bs, 0, none⟩)] W fun e W' => (∃ v, e = .returned v) ∧ JJ N W' := by
 have HC := Lib.hid hC
 clear hC
 refine callsIn_of_wp Tryz.func92 rfl trivial ?_ rfl
 simp only [Tryz.ntmps92, List.size_toArray, List.length_cons, List.length_nil, Nat.reduceAdd, Nat.reduceSub, Array.replicate_succ, Array.replicate_zero, List.push_toArray, List.append_toArray, List.nil_append, List.cons_append]
 gi_wp2
 gi_loopw [3] (fun i wr => ∃ m : Nat, m ≤ N ∧ (∃ z : Int, z = (N : Int) - 1 - (m : Int) ∧ i = .int .i64 z) ∧ JJ m wr ∧ KpM M W wr) (fun i _ => (intOf i + 1).toNat)
 case atStart => exact ⟨0, by omega, ⟨(N : Int) - 1, by omega, rfl⟩, h0, KpM.refl _ _⟩
 case round =>
  obtain ⟨m, hm, ⟨z, hz, rfl⟩, hJs, hnx⟩ := hrel
  have hcs := (hnx.cell (o := 0) hBs hMs).trans hB
  by_cases hlt : m < N
  ·obtain ⟨j, rfl⟩ : ∃ j : Nat, z = j := ⟨N - 1 - m, by omega⟩
   have hj : j < N := by omega
   have hjm : N - 1 - m = j := by omega
   have hcb := (hnx.cell (o := off + j) hb hMb).trans (HC.out j hj)
   obtain ⟨fn, tmps, assign, body, hy, hR⟩ := hY m wr hJs hlt
   rw [hjm] at hy
   have HZ := Lib.hid hz
   clear hjm hz
   have hj0 : (0 : Int) ≤ (j : Int) := by omega
   gi_wp2
   refine hR.mono ?_
   rintro e W3 ⟨rfl, hJ3, hk3⟩
   gi_wp2
   go_roundw
   case rel => exact ⟨m + 1, by omega, ⟨_, by have := HZ.out; omega, rfl⟩, hJ3, hnx.trans hk3⟩
   case measure => simp [intOf]
  ·obtain rfl : m = N := by omega
   obtain rfl : z = -1 := by omega
   gi_wp2
   go_end0
   exact ⟨⟨_, rfl⟩, hJs⟩
set_option maxRecDepth 100000 in
theorem chunkB_any (a : Option Addr) (k c s : Nat) (w : World) (hs : 1 ≤ s) :
  Calls Tryz.prog 62 #[.slice a k c, .int .i64 s] w fun e w' => e = .returned (.func (.func 91) #[] #[.pointer (some ⟨w.heap.size, 0, none⟩), .pointer (some ⟨w.heap.size + 1, 0, none⟩)]) ∧ (w.alloc (.cells #[.slice a k c] 63)).alloc (.cells #[.int .i64 s] 3) = w' := by
 have h1 : ¬ (s : Int) < 1 := by omega
 go_enter Tryz.func62, Tryz.ntmps62
 go_wp2
 go_ret
 exact ⟨rfl, rfl⟩
set_option maxRecDepth 100000 in
set_option maxHeartbeats 4000000 in
theorem chunkB_in (n : Nat) (hn : 1 ≤ n) (l Bs Bc b off c nb N : Nat) (hNb : 4 * nb = N) (hcap : N ≤ c) (hc63 : c ≤ 9223372036854775807) (hN : N ≤ 576) (M : Nat → Prop) (hMs : ¬ M Bs) (hMc : ¬ M Bc) (JJ : Nat → World → Prop) (W : World)
  (hJd : ∀ k W m, JJ k W → JJ k (W.drewN m))
  (hY : ∀ k W, JJ k W → k < nb → YieldAt Fence.wide (n - 1) Tryz.prog l #[.slice (some ⟨b, off + 4 * k, none⟩) 4 4] W fun e W' => e = .returned (.bool true) ∧ JJ (k + 1) W' ∧ KpM M W W')
  (hB : W.cell? ⟨Bs, 0, none⟩ = some (.slice (some ⟨b, off, none⟩) N c)) (hC : W.cell? ⟨Bc, 0, none⟩ = some (.int .i64 4)) (hBs : Bs < W.heap.size) (hBc : Bc < W.heap.size) (h0 : JJ 0 W) :
  CallsIn Fence.wide n Tryz.prog 91 #[.func (.yield l) #[] #[], .pointer (some ⟨Bs, 0, none⟩), .pointer (some ⟨Bc, 0, none⟩)] W fun e W' => (∃ v, e = .returned v) ∧ JJ nb W' := by
 refine callsIn_of_wp Tryz.func91 rfl trivial ?_ rfl
 simp only [Tryz.ntmps91, List.size_toArray, List.length_cons, List.length_nil, Nat.reduceAdd, Nat.reduceSub, Array.replicate_succ, Array.replicate_zero, List.push_toArray, List.append_toArray, List.nil_append, List.cons_append]
 gi_wp2
 gi_loopw [4] (fun i wr => ∃ k : Nat, k ≤ nb ∧ (∃ z : Nat, z = 4 * k ∧ i = .int .i64 (z : Int)) ∧ JJ k wr ∧ KpM M W wr) (fun i _ => N - (intOf i).toNat)
 case atStart => exact ⟨0, by omega, ⟨0, rfl, rfl⟩, h0, KpM.refl _ _⟩
 case round =>
  obtain ⟨k, hk, ⟨z, hz, rfl⟩, hJs, hnx⟩ := hrel
  have hcs := (hnx.cell (o := 0) hBs hMs).trans hB
  have hcc := (hnx.cell (o := 0) hBc hMc).trans hC
  by_cases hlt : k < nb
  ·have hltz : (z : Int) < (N : Int) := by omega
   obtain ⟨R, hR⟩ : ∃ R, N - z = R := ⟨_, rfl⟩
   have hR4 : 4 ≤ R := by omega
   obtain ⟨ho, hho⟩ : ∃ ho, z + 4 = ho := ⟨_, rfl⟩
   have hs1 := fun W => slice_fromU W b off N c z (by omega) (by omega)
   rw [hR] at hs1
   have hs1' := fun W => at_sliceU (hs1 W)
   have hs2 := fun W => slice_threeU W b off N c z ho (by omega) (by omega)
   rw [show ho - z = 4 by omega] at hs2
   have hs2' := fun W => at_sliceU (hs2 W)
   have hmin : min (4 : Int) (R : Int) = 4 := by omega
   have w1 : IntKind.i64.wrap ((z : Int) + 4) = (ho : Int) := by rw [show (z : Int) + 4 = (ho : Int) by omega]; exact IntWalk.i64_in _ (by omega)
   have m8 : (0 : Int) ≤ (z : Int) := by omega
   have m9 : (z : Int) ≤ (ho : Int) := by omega
   have m10 : (ho : Int) ≤ (c : Int) := by omega
   have HZN := Lib.hid (show z < N by omega)
   have HZ := Lib.hid hz
   have HHO := Lib.hid hho
   have hz16 : 4 * k = z := hz.symm
   have hYk := hY k
   rw [hz16] at hYk
   have HYK := Lib.hid hYk
   have HNB := Lib.hid hNb
   clear hR hho hz hz16 hYk hNb
   gi_wp2
   refine wpIn_wide.2 ?_
   go_quiet (fail)
   obtain ⟨fn, tmps, assign, body, hy, hRd⟩ := HYK.out (wr.drewN nq) (hJd _ _ _ hJs) hlt
   gi_wp2
   refine hRd.mono ?_
   rintro e W3 ⟨rfl, hJ3, hk3⟩
   have hcc3 := hk3.cell (o := 0) (show Bc < (wr.drewN nq).heap.size from Nat.lt_of_lt_of_le hBc hnx.size) hMc
   rw [World.cell?_drewN, hcc] at hcc3
   gi_wp2
   go_roundw
   case rel => exact ⟨k + 1, by omega, ⟨ho, by have := HZ.out; have := HHO.out; omega, by go_num⟩, hJ3, (hnx.trans (KpM.of_ext (ext_drewN (Ext.refl wr) nq))).trans hk3⟩
   case measure =>
    have := HZN.out
    have := HHO.out
    simp [intOf]
    omega
  ·have hltz : ¬ (z : Int) < (N : Int) := by omega
   obtain rfl : k = nb := by omega
   gi_wp2
   go_end0
   exact ⟨⟨_, rfl⟩, hJs⟩
set_option maxRecDepth 100000 in
theorem blocks_any (a : Option Addr) (k c : Nat) (w : World) :
  Calls Tryz.prog 60 #[.slice a k c] w fun e w' => e = .returned (.func (.func 89) #[] #[.pointer (some ⟨w.heap.size, 0, none⟩)]) ∧ w.alloc (.cells #[.slice a k c] 63) = w' := by
 go_enter Tryz.func60, Tryz.ntmps60
 go_wp2
 go_ret
 exact ⟨rfl, rfl⟩
set_option maxRecDepth 100000 in
set_option maxHeartbeats 4000000 in
theorem blocks_in (n : Nat) (hn : 1 ≤ n) (l Bs b c nb N : Nat) (hNb : 65 * nb = N) (hcap : N ≤ c) (hc63 : c ≤ 9223372036854775807) (hN : N ≤ 2400) (M : Nat → Prop) (hMs : ¬ M Bs) (JJ : Nat → World → Prop) (ZZ : World → Prop) (W : World)
  (hY : ∀ k W, JJ k W → k < nb → YieldAt Fence.wide (n - 1) Tryz.prog l #[.int .i64 ((65 * k : Nat) : Int), .slice (some ⟨b, 65 * k, none⟩) 65 65] W fun e W' => (e = .returned (.bool true) ∧ JJ (k + 1) W' ∧ KpM M W W') ∨ (e = .returned (.bool false) ∧ ZZ W'))
  (hB : W.cell? ⟨Bs, 0, none⟩ = some (.slice (some ⟨b, 0, none⟩) N c)) (hBs : Bs < W.heap.size) (h0 : JJ 0 W) :
  CallsIn Fence.wide n Tryz.prog 89 #[.func (.yield l) #[] #[], .pointer (some ⟨Bs, 0, none⟩)] W fun e W' => (∃ v, e = .returned v) ∧ (JJ nb W' ∨ ZZ W') := by
 refine callsIn_of_wp Tryz.func89 rfl trivial ?_ rfl
 simp only [Tryz.ntmps89, List.size_toArray, List.length_cons, List.length_nil, Nat.reduceAdd, Nat.reduceSub, Array.replicate_succ, Array.replicate_zero, List.push_toArray, List.append_toArray, List.nil_append, List.cons_append]
 gi_wp2
 gi_loopw [3] (fun i wr => ∃ k : Nat, k ≤ nb ∧ (∃ z : Nat, z = 65 * k ∧ i = .int .i64 (z : Int)) ∧ JJ k wr ∧ KpM M W wr) (fun i _ => N - (intOf i).toNat)
 case atStart => exact ⟨0, by omega, ⟨0, rfl, rfl⟩, h0, KpM.refl _ _⟩
 case round =>
  obtain ⟨k, hk, ⟨z, hz, rfl⟩, hJs, hnx⟩ := hrel
  have hcs := (hnx.cell (o := 0) hBs hMs).trans hB
  by_cases hlt : k < nb
  ·have hltz : (z : Int) < (N : Int) := by omega
   obtain ⟨ho, hho⟩ : ∃ ho, z + 65 = ho := ⟨_, rfl⟩
   have hs2 := fun W => slice_threeU W b 0 N c z ho (by omega) (by omega)
   rw [show ho - z = 65 by omega, Nat.zero_add] at hs2
   have hs2' := fun W => at_sliceU (hs2 W)
   have w1 : IntKind.i64.wrap ((z : Int) + 65) = (ho : Int) := by rw [show (z : Int) + 65 = (ho : Int) by omega]; exact IntWalk.i64_in _ (by omega)
   have m8 : (0 : Int) ≤ (z : Int) := by omega
   have m9 : (z : Int) ≤ (ho : Int) := by omega
   have m10 : (ho : Int) ≤ (c : Int) := by omega
   have HZN := Lib.hid (show z < N by omega)
   have HZ := Lib.hid hz
   have HHO := Lib.hid hho
   have hz65 : 65 * k = z := hz.symm
   have hYk := hY k
   rw [hz65] at hYk
   obtain ⟨fn, tmps, assign, body, hy, hRd⟩ := hYk wr hJs hlt
   have HNB := Lib.hid hNb
   clear hho hz hz65 hYk hNb hY
   gi_wp2
   refine hRd.mono ?_
   rintro e W3 hpost
   rcases hpost with ⟨rfl, hJ3, hk3⟩ | ⟨rfl, hZ3⟩
   ·gi_wp2
    go_roundw
    case rel => exact ⟨k + 1, by omega, ⟨ho, by have := HZ.out; have := HHO.out; omega, by go_num⟩, hJ3, hnx.trans hk3⟩
    case measure =>
     have := HZN.out
     have := HHO.out
     simp [intOf]
     omega
   ·gi_wp2
    refine bodyPost_ret (results_none rfl _ _ _) rfl ?_
    exact ⟨⟨_, rfl⟩, .inr hZ3⟩
  ·have hltz : ¬ (z : Int) < (N : Int) := by omega
   obtain rfl : k = nb := by omega
   gi_wp2
   go_end0
   exact ⟨⟨_, rfl⟩, .inl hJs⟩
end Go.Proofs.YtnhpcoagkmgdoaaGreat
/- Layer 10's program: slices.Max, Clone, Equal of bytes. -/
namespace Go.Q
open Go.RowKit
/-- the greatest of the first i rows -/
def mxK (rs : List Nat) : Nat → Nat
 | 0 => 0
 | i + 1 => max (mxK rs i) (rs[i]?.getD 0)
theorem mxK_low {rs : List Nat} {b : Nat} : ∀ i, i ≤ rs.length → (mxK rs i ≤ b ↔ ∀ r ∈ rs.take i, r ≤ b)
 | 0, _ => by simp [mxK]
 | i + 1, h => by
  have ih := mxK_low (rs := rs) (b := b) i (by omega)
  rw [List.take_add_one, List.getElem?_eq_getElem (by omega)]
  have e : rs[i]?.getD 0 = rs[i] := by rw [List.getElem?_eq_getElem (by omega)]; rfl
  unfold mxK
  rw [e]
  constructor
  ·intro hm r hr
   simp only [Option.toList_some, List.mem_append, List.mem_singleton] at hr
   rcases hr with hr | rfl
   ·exact ih.1 (by omega) r hr
   ·omega
  ·intro hm
   have h1 := ih.2 fun r hr => hm r (List.mem_append_left _ hr)
   have h2 := hm rs[i] (List.mem_append_right _ (List.mem_singleton.2 rfl))
   omega
end Go.Q
namespace Go.Proofs.YtnhpcoagkmgdoaaGreat
open Go.RowKit Go.Q Go.Shelf Go.Joins
set_option maxRecDepth 100000 in
set_option maxHeartbeats 2000000 in
theorem maxU_any (a : Option Addr) (n c : Nat) (rs : List Nat) (w : World) (hn : rs.length = n) (h0 : 0 < n) (hbig : n ≤ 9223372036854775807) (hr : ∀ r ∈ rs, r < 256) (hI : BytesAt w a (natI rs)) :
  Calls Tryz.prog 58 #[.slice a n c] w fun e w' => e = .returned (.int .u8 (mxK rs n : Nat)) ∧ w' = w := by
 obtain ⟨b, off, rfl, hcell⟩ : ∃ b off, a = some ⟨b, off, none⟩ ∧ ∀ i, i < n → w.cell? ⟨b, off + i, none⟩ = some (.int .u8 ((rs[i]?.getD 0 : Nat) : Int)) := by
  rcases hI with e | ⟨b, off, ha, hb, hc⟩
  ·have := natI_length rs; rw [e] at this; simp at this; omega
  ·refine ⟨b, off, ha, fun i hi => ?_⟩
   have := hc i (by rw [natI_length]; omega)
   rw [natI_get] at this
   exact this
 have HN := Lib.hid hn
 have HR := Lib.hid hr
 have HC := Lib.hid hcell
 have hc0 := hcell 0 h0
 rw [Nat.add_zero] at hc0
 obtain ⟨m0, hm0⟩ : ∃ m0, rs[0]?.getD 0 = m0 := ⟨_, rfl⟩
 rw [hm0] at hc0
 have HM0 : Hid (m0 = mxK rs 1) := Lib.hid (by unfold mxK; unfold mxK; rw [hm0]; omega)
 have h1n : ¬ n < 1 := by omega
 clear hn hr hI hcell hm0
 go_enter Tryz.func58, Tryz.ntmps58
 go_wp2
 go_loopw [3, 4] (fun s3 s4 wr => ∃ i x : Nat, 1 ≤ i ∧ i ≤ n ∧ s4 = .int .i64 (i : Int) ∧ s3 = .int .u8 (x : Int) ∧ Hid (x = mxK rs i) ∧ wr = w) (fun _ s4 _ => n - (Go.RowKit.intOf s4).toNat)
 case atStart => exact ⟨1, m0, Nat.le_refl _, by omega, rfl, rfl, HM0, rfl⟩
 case round =>
  obtain ⟨i, x, hi1, hi, rfl, rfl, HX, rfl⟩ := hrel
  by_cases hlt : i < n
  ·have hltz : (i : Int) < (n : Int) := by omega
   have hc := HC.out i hlt
   obtain ⟨y, hye⟩ : ∃ y, rs[i]?.getD 0 = y := ⟨_, rfl⟩
   rw [hye] at hc
   obtain ⟨z, hz⟩ : ∃ z, max x y = z := ⟨_, rfl⟩
   have hmx : max (x : Int) (y : Int) = (z : Int) := by omega
   have HX2 : Hid (z = mxK rs (i + 1)) := Lib.hid (by unfold mxK; rw [hye, ← HX.out, hz])
   clear hye hz
   go_wp2
   go_roundw
   case rel => exact ⟨i + 1, z, by omega, by omega, by go_num, rfl, HX2, (by first | rfl | trivial)⟩
   case measure => simp [Go.RowKit.intOf]; omega
  ·have hltz : ¬ (i : Int) < (n : Int) := by omega
   obtain rfl : i = n := by omega
   go_wp2
   go_ret
   exact ⟨by rw [← HX.out]; rfl, rfl⟩
set_option maxRecDepth 100000 in
set_option maxHeartbeats 1000000 in
theorem cloneU_any (ad : Addr) (n cap : Nat) (xs : List Int) (w : World) (hn : xs.length = n) (hbig : n ≤ 17592186044416)
  (hI : BytesAt w (some ad) xs) :
  Calls Tryz.prog 59 #[.slice (some ad) n cap] w fun e w' => ∃ a c, e = .returned (.slice a n c) ∧ w'.ownsRow w.heap.size 5 1 (.slice a n c) n (ub xs) ∧ Ext w w' := by
 obtain ⟨i0, hi, hz0, hz1, hz2⟩ := info_parts Tryz.infoU
 have hnil := fun (W : World) => Lib.run_eql_slice_nil (P := Tryz.prog) W 63 5 (some ad) n cap 0 0 Tryz.underlying63
 have hF := from_bytes hI
 go_enter Tryz.func59, Tryz.ntmps59
 go_wp2_with (at_builtin; refine wpList_append_own _ rfl _ _ 63 rfl w.heap.size 5 i0 (.int .u8 0) 1 1 Tryz.underlying63 hi hz0 hz1 hz2 rfl (by decide) _ 0 [] rfl (ownsRow_fresh w 5) ad n cap (ub xs) rfl ?c1 ?c2 (ub_one xs) ?c3 ?c4 ?c5 ?_)
 case c1 => simp [ub_length, hn]
 case c2 =>
  rcases hF with e | ⟨ad2, e, h⟩
  ·intro j u hu; rw [e] at hu; simp at hu
  ·cases e; exact fun j u hu => cell_later ((Ext.refl w).alloc _) (h j u hu)
 case c3 => unfold maxLen; omega
 case c4 => omega
 case c5 => simp
 intro v' w1 hown' hgrow _
 have hx : Ext w w1 := ((Ext.refl w).alloc _).grown hgrow (by simp) (fun k e => by simp [Value.ownBlock] at e; omega)
 obtain ⟨a', c', hv'⟩ : ∃ a' c', v' = .slice a' n c' := by
  obtain ⟨a', c', h⟩ := own_formU hown'
  exact ⟨a', c', by simpa using h⟩
 rw [hv'] at hown' ⊢
 clear hI hgrow hv' hF
 go_wp2
 go_ret
 exact ⟨a', c', rfl, by simpa using hown', hx⟩
set_option maxRecDepth 100000 in
set_option maxHeartbeats 4000000 in
theorem equalU_any (a1 a2 : Option Addr) (n1 n2 c1 c2 : Nat) (xs ys : List Nat) (w : World) (h1 : xs.length = n1) (h2 : ys.length = n2) (hb1 : n1 ≤ 9223372036854775807) (hb2 : n2 ≤ 9223372036854775807)
  (i1 : BytesAt w a1 (natI xs)) (i2 : BytesAt w a2 (natI ys)) :
  Calls Tryz.prog 64 #[.slice a1 n1 c1, .slice a2 n2 c2] w fun e w' => e = .returned (.bool (decide (xs = ys))) ∧ Ext w w' := by
 by_cases hl : n1 = n2
 ·subst hl
  have hcell : ∀ {a : Option Addr} {zs : List Nat}, zs.length = n1 → BytesAt w a (natI zs) → ∀ i, i < n1 → ∃ b off, a = some ⟨b, off, none⟩ ∧ b < w.heap.size ∧ w.cell? ⟨b, off + i, none⟩ = some (.int .u8 ((zs[i]?.getD 0 : Nat) : Int)) := by
   intro a zs hz hI i hi
   rcases hI with e | ⟨b, off, ha, hb, hc⟩
   ·have := natI_length zs; rw [e] at this; simp at this; omega
   ·have := hc i (by rw [natI_length]; omega)
    rw [natI_get] at this
    exact ⟨b, off, ha, hb, this⟩
  have H1 := Lib.hid (hcell h1 i1)
  have H2 := Lib.hid (hcell h2 i2)
  have L1 := Lib.hid h1
  have L2 := Lib.hid h2
  have hne : ((n1 : Int) != (n1 : Int)) = false := by simp
  obtain ⟨t, ht⟩ : ∃ t, decide (xs = ys) = t := ⟨_, rfl⟩
  rw [ht]
  have HT := Lib.hid ht
  clear h1 h2 i1 i2 hcell ht
  go_enter Tryz.func64, Tryz.ntmps64
  go_wp2
  go_loopw [13] (fun s13 wr => ∃ i : Nat, i ≤ n1 ∧ s13 = .int .i64 (i : Int) ∧ Hid (∀ j, j < i → xs[j]?.getD 0 = ys[j]?.getD 0) ∧ Ext w wr) (fun s13 _ => n1 - (Go.RowKit.intOf s13).toNat)
  case atStart => exact ⟨0, Nat.zero_le _, rfl, Lib.hid (fun j hj => absurd hj (Nat.not_lt_zero _)), Ext.refl _⟩
  case round =>
   obtain ⟨i, hi, rfl, HA, EX⟩ := hrel
   by_cases hlt : i < n1
   ·have hltz : (i : Int) < (n1 : Int) := by omega
    obtain ⟨b, off, rfl, hb, hc⟩ := H1.out i hlt
    obtain ⟨b', off', rfl, hb', hc'⟩ := H2.out i hlt
    have hx := (EX.cell (p := ⟨b, off + i, none⟩) hb).trans hc
    have hy := (EX.cell (p := ⟨b', off' + i, none⟩) hb').trans hc'
    obtain ⟨x, hxe⟩ : ∃ x, xs[i]?.getD 0 = x := ⟨_, rfl⟩
    obtain ⟨y, hye⟩ : ∃ y, ys[i]?.getD 0 = y := ⟨_, rfl⟩
    rw [hxe] at hx
    rw [hye] at hy
    have HXE := Lib.hid hxe
    have HYE := Lib.hid hye
    clear hxe hye hc hc'
    by_cases hxy : x = y
    ·subst hxy
     have HA2 : Hid (∀ j, j < i + 1 → xs[j]?.getD 0 = ys[j]?.getD 0) := Lib.hid (fun j hj => by
      by_cases e : j = i
      ·rw [e, HXE.out, HYE.out]
      ·exact HA.out j (by omega))
     have hnz : ((x : Int) != (x : Int)) = false := by simp
     go_wp2
     go_quiet (fail)
     go_wp2
     go_roundw
     case rel => exact ⟨i + 1, by omega, by go_num, HA2, ext_drewN EX _⟩
     case measure => simp [Go.RowKit.intOf]; omega
    ·obtain rfl : false = t := by
      rw [← HT.out]
      symm
      refine decide_eq_false fun e => hxy ?_
      rw [← HXE.out, ← HYE.out, e]
     have hnz : ((x : Int) != (y : Int)) = true := by simp; omega
     go_wp2
     go_quiet (fail)
     go_wp2
     go_ret
     exact ⟨rfl, ext_drewN EX _⟩
   ·have hltz : ¬ (i : Int) < (n1 : Int) := by omega
    obtain rfl : i = n1 := by omega
    obtain rfl : true = t := by
     rw [← HT.out]
     symm
     refine decide_eq_true (List.ext_getElem? fun j => ?_)
     by_cases hj : j < i
     ·have := HA.out j hj
      rw [List.getElem?_eq_getElem (by rw [L1.out]; exact hj), List.getElem?_eq_getElem (by rw [L2.out]; exact hj)] at this ⊢
      exact congrArg some this
     ·rw [List.getElem?_eq_none (by rw [L1.out]; omega), List.getElem?_eq_none (by rw [L2.out]; omega)]
    go_wp2
    go_ret
    exact ⟨rfl, EX⟩
 ·have hne : ((n1 : Int) != (n2 : Int)) = true := by simp; omega
  have e : decide (xs = ys) = false := decide_eq_false fun e => hl (by rw [← h1, ← h2, e])
  rw [e]
  clear h1 h2 i1 i2 e
  go_enter Tryz.func64, Tryz.ntmps64
  go_wp2
  go_ret
  exact ⟨rfl, Ext.refl _⟩
end Go.Proofs.YtnhpcoagkmgdoaaGreat
/- Layer 10's reference: Read. -/
namespace Go.Q
open Go.RowKit
theorem natI_set (rs : List Nat) (i v : Nat) : natI (rs.set i v) = (natI rs).set i (v : Int) := by unfold natI; rw [List.map_set]
end Go.Q
namespace Go.Proofs.YtnhpcoagkmgdoaaGreat
open Go.RowKit Go.Q Go.Joins
end Go.Proofs.YtnhpcoagkmgdoaaGreat
