import Derived.Test.YtbcciokmlkofkaaGreatWJ16
import Derived.Test.YtbcciokmlkofkaaGreatWG1
import Derived.Test.YtbcciokmlkofkaaGreatWD1
import Derived.Test.YtbcciokmlkofkaaGreatWH24
set_option linter.unusedVariables false
set_option linter.unusedSimpArgs false
/- The law TopWarm: its walk (printed by gen_j17.py). -/
namespace Go.Proofs.YtbcciokmlkofkaaGreat
open Go.RowKit Go.Q Go.Shelf Go.Maps
theorem alloc_blkW {w : World} {b : Nat} {x : Obj} (h : w.heap[b]? = some x) (ob : Obj) : (w.alloc ob).heap[b]? = some x := ((Ext.refl w).alloc ob |>.block b (Array.getElem?_eq_some_iff.1 h).1).trans h
theorem three_boxes {w w1 : World} {c0 c1 c2 : Array Value} {k0 k1 k2 : TypeId} (E : Ext (((w.alloc (.cells c0 k0)).alloc (.cells c1 k1)).alloc (.cells c2 k2)) w1) :
    w1.heap[w.heap.size]? = some (.cells c0 k0 (0, 0)) ∧ w1.heap[w.heap.size + 1]? = some (.cells c1 k1 (0, 0)) ∧ w1.heap[w.heap.size + 1 + 1]? = some (.cells c2 k2 (0, 0)) := by
  have e1 := heap_alloc_new w (.cells c0 k0)
  have e2 := heap_alloc_new (w.alloc (.cells c0 k0)) (.cells c1 k1)
  have e3 := heap_alloc_new ((w.alloc (.cells c0 k0)).alloc (.cells c1 k1)) (.cells c2 k2)
  simp only [World.size_alloc] at e2 e3
  exact ⟨(E.old.old.block _ (by simp)).trans e1, (E.old.block _ (by simp)).trans e2, (E.block _ (by simp)).trans e3⟩
theorem runE_okW {s : St} (h : Valid s) (n : Nat) (hn : n ≤ 5000) : runE s n = (runQ n s, 0) := by
  have : askedQ s n = 0 := asked_of_valid h (by omega)
  simp [runE, this]
theorem slice_lane (W : World) (b off n k1 lo hi : Nat) (h1 : lo < k1) (h2 : lo ≤ hi) (h3 : hi ≤ k1) : (Instr.slice 22 (.slice (some ⟨b, off, none⟩) n k1) (some (.int .i64 (lo : Int))) (some (.int .i64 (hi : Int))) none).run Tryz.prog W = .ok (.slice (some ⟨b, off + lo, none⟩) (hi - lo) (k1 - lo)) W := by
  have h := run_slice_lh (P := Tryz.prog) (w := W) 22 (some ⟨b, off, none⟩) n k1 (by rw [Tryz.underlying22]; kernel_rfl) .i64 .i64 (lo : Int) (hi : Int) (by omega) (by omega) (by omega)
  rw [h]
  have e : (sizeOf (Tryz.prog.elem 22)).run Tryz.prog W = .ok 1 W := by
    rw [show Tryz.prog.elem 22 = 3 by kernel_rfl]
    obtain ⟨i0, hi, _, hz1, _⟩ := info_parts Tryz.infoE
    simp [sizeOf, typeInfo, hi, hz1, go_sem]
  rw [e]
  show Result.ok (sliced _ _ _ _ 1) W = _
  unfold sliced
  rw [if_neg (by omega)]
  simp [Addr.add]
theorem slice_laneAt (W : World) (b off n k1 lo hi : Nat) (h1 : lo < k1) (h2 : lo ≤ hi) (h3 : hi ≤ k1) : (Instr.sliceAt 22 (.slice (some ⟨b, off, none⟩) n k1) (some (.int .i64 (lo : Int))) (some (.int .i64 (hi : Int))) none).run Tryz.prog W = .ok (.slice (some ⟨b, off + lo, none⟩) (hi - lo) (k1 - lo)) W := by
  refine Eq.trans (run_sliceAt_slice (P := Tryz.prog) (w := W) 22 _ _ _ _ (by rw [Tryz.underlying22]; kernel_rfl)) ?_
  exact slice_lane W b off n k1 lo hi h1 h2 h3
theorem lane_ints {W : World} {b off k : Nat} {s : St} (hv : Valid s) (hk : k < 8) (hb : b < W.heap.size) (hc : ∀ i, i < s.store.length → W.cell? ⟨b, off + i, none⟩ = some (.int .i64 (s.store[i]?.getD 0))) : IntsAt W (some ⟨b, off + 16 * k, none⟩) (lane s k) :=
  .inr ⟨b, off + 16 * k, rfl, hb, fun i hi => by
    rw [lane_length hv hk] at hi
    rw [Nat.add_assoc, hc _ (by rw [hv.len]; omega), lane_get hi]⟩
/-- the state that is put together, line by line -/
def LaterAt (X : World) (B : Nat) (s : St) (a2 a3 : Option Addr) (k2 k3 k : Nat) : Prop := ∃ (sa : Option Addr) (sc : Nat), X.heap[B]? = some (.cells #[.slice sa (16 * k) sc, .slice a2 s.tape.length k2, .int .i64 s.taken, .slice a3 s.printed.length k3, .int .i64 s.time, .int .i64 s.at_, .int .i64 s.done, .int .i64 s.why] 24 (0, 0)) ∧ X.ownsRow (B + 1) 3 1 (.slice sa (16 * k) sc) (16 * k) (iv (s.store.take (16 * k)))
set_option maxRecDepth 100000 in
set_option maxHeartbeats 8000000 in
theorem warm_law (s : St) (a1 a2 a3 : Option Addr) (k1 k2 k3 : Nat) (l : Ln) (o : Ov) (temp : Sp) (heats : Bool) (a : Option Addr) (c n : Nat) (xs : List Int) (p q : Int) (w : World) (hcap : s.store.length ≤ k1 ∧ k1 ≤ 9223372036854775807) (hi : IntsAt w a1 s.store ∧ IntsAt w a2 s.tape ∧ IntsAt w a3 s.printed) (hb : StBd s) (hl : xs.length = n) (hbig : n ≤ 9223372036854775807) (hI : BytesAt w a xs) (hxs : ∀ x ∈ xs, 0 ≤ x ∧ x ≤ 255) (hp : 0 ≤ p ∧ p ≤ 255) (hq : 0 ≤ q ∧ q ≤ 255) :
    Calls Tryz.prog 3 #[sv a1 a2 a3 s.store.length k1 s.tape.length k2 s.printed.length k3 s.taken s.time s.at_ s.done s.why, .agg #[.int .i64 l.words, .int .i64 l.bits, .int .i64 l.period, .int .i64 l.delay, .int .i64 l.slope, .int .i64 l.window, .int .i64 o.low, .int .i64 o.high, .int .i64 o.warm.lo, .int .i64 o.warm.hi, .int .i64 o.cool.lo, .int .i64 o.cool.hi, .int .i64 temp.lo, .int .i64 temp.hi, .bool heats, .slice a n c], .agg #[.int .u8 p, .int .u8 q]] w fun e w' => e = .returned (.bool true) ∧ Ext w w' := by
  have h : StAt w (sv a1 a2 a3 s.store.length k1 s.tape.length k2 s.printed.length k3 s.taken s.time s.at_ s.done s.why) s := ⟨a1, a2, a3, k1, k2, k3, rfl, hi⟩
  have hck := fun W (E : Ext w W) => rcheck_any _ s W (h.ext E) hb
  unfold v3 at hck
  obtain ⟨M, hM⟩ : ∃ M : Nat, p % 60 = M := Int.eq_ofNat_of_zero_le (by omega)
  have hM59 : M ≤ 59 := by omega
  have tM : Int.tmod p 60 = (M : Int) := by rw [Int.tmod_eq_emod_of_nonneg hp.1]; exact hM
  have wp1 : IntKind.i64.wrap p = p := IntWalk.i64_in _ (by omega)
  have wp2 : IntKind.i64.wrap (M : Int) = (M : Int) := IntWalk.i64_in _ (by omega)
  have hkp := fun W => Keeps_any (lineW l) o temp heats (M : Int) W
  dsimp only [lineW] at hkp
  rw [show (⟨16, 24, l.period, l.delay, l.slope, l.window⟩ : Ln) = lineW l from rfl] at hkp
  obtain ⟨e1, he1⟩ : ∃ x, (checkQ s).1 = x := ⟨_, rfl⟩
  obtain ⟨e2, he2⟩ : ∃ x, (checkQ s).2.1 = x := ⟨_, rfl⟩
  obtain ⟨er, her⟩ : ∃ x, (checkQ s).2.2 = x := ⟨_, rfl⟩
  obtain ⟨kv, hkv⟩ : ∃ x, (keepsE (lineW l) o temp heats (M : Int)).1 = x := ⟨_, rfl⟩
  obtain ⟨f, hf⟩ : ∃ x, (keepsE (lineW l) o temp heats (M : Int)).2 = x := ⟨_, rfl⟩
  rw [he1, he2, her] at hck
  rw [hkv, hf] at hkp
  have HM := Lib.hid hM
  obtain ⟨qn, hqn⟩ := Int.eq_ofNat_of_zero_le hq.1
  have HQ := Lib.hid (show q = (qn : Int) ∧ q ≤ 255 from ⟨hqn, hq.2⟩)
  have wq : IntKind.i64.wrap q = q := IntWalk.i64_in _ (by omega)
  clear hqn
  clear he1 he2 h
  by_cases c1 : er = 0
  · by_cases c2 : f = 0
    · by_cases c3 : kv < 0
      · by_cases c4 : n = 0
        · have d4 : ((n : Int) == 0) = true := by simp [c4]
          have d3 : decide (0 ≤ kv) = false := decide_eq_false (by omega)
          subst c1 c2
          clear her hkv hf c4
          go_enter Tryz.func3, Tryz.ntmps3
          go_wp2_with fail
          refine (hck _ ((((Ext.refl w).alloc _).alloc _).alloc _)).mono ?_
          rintro e w1 ⟨rfl, E1⟩
          obtain ⟨b0, b1, b2⟩ := three_boxes E1
          have EX := E1.old.old.old
          have x0 := blk_cell b1 0 (v := .int .i64 l.words) rfl
          have x1 := blk_cell b1 1 (v := .int .i64 l.bits) rfl
          have x2 := blk_cell b1 2 (v := .int .i64 l.period) rfl
          have x3 := blk_cell b1 3 (v := .int .i64 l.delay) rfl
          have x4 := blk_cell b1 4 (v := .int .i64 l.slope) rfl
          have x5 := blk_cell b1 5 (v := .int .i64 l.window) rfl
          have x6 := fun ob => blk_cell (alloc_blkW b1 ob) 6 (v := .int .i64 o.low) rfl
          have x7 := fun ob => blk_cell (alloc_blkW b1 ob) 7 (v := .int .i64 o.high) rfl
          have x8 := fun ob => blk_cell (alloc_blkW b1 ob) 8 (v := .int .i64 o.warm.lo) rfl
          have x9 := fun ob => blk_cell (alloc_blkW b1 ob) 9 (v := .int .i64 o.warm.hi) rfl
          have x10 := fun ob => blk_cell (alloc_blkW b1 ob) 10 (v := .int .i64 o.cool.lo) rfl
          have x11 := fun ob => blk_cell (alloc_blkW b1 ob) 11 (v := .int .i64 o.cool.hi) rfl
          have x12 := fun ob => blk_cell (alloc_blkW b1 ob) 12 (v := .int .i64 temp.lo) rfl
          have x13 := fun ob => blk_cell (alloc_blkW b1 ob) 13 (v := .int .i64 temp.hi) rfl
          have x14 := fun ob => blk_cell (alloc_blkW b1 ob) 14 (v := .bool heats) rfl
          have x15 := fun ob => blk_cell (alloc_blkW b1 ob) 15 (v := .slice a n c) rfl
          have y0 := fun ob => blk_cell (alloc_blkW b2 ob) 0 (v := .int .u8 p) rfl
          have y1 := fun ob => blk_cell (alloc_blkW b2 ob) 1 (v := .int .u8 q) rfl
          have HB := Lib.hid (And.intro b0 (And.intro b1 b2))
          have HE := Lib.hid EX
          clear E1 hck b0 b1 b2 EX
          go_wp2_with fail
          refine (hkp _).mono ?_
          rintro e w2 ⟨rfl, E2⟩
          have b3 : w2.heap[w1.heap.size]? = some (.cells #[.int .i64 16, .int .i64 24, .int .i64 l.period, .int .i64 l.delay, .int .i64 l.slope, .int .i64 l.window] 26 (0, 0)) := (E2.block w1.heap.size (by simp)).trans (heap_alloc_new w1 _)
          have EX := HE.out.comp E2.old
          have b0 := ((E2.old).block _ (Array.getElem?_eq_some_iff.1 HB.out.1).1).trans HB.out.1
          have b1 := ((E2.old).block _ (Array.getElem?_eq_some_iff.1 HB.out.2.1).1).trans HB.out.2.1
          have b2 := ((E2.old).block _ (Array.getElem?_eq_some_iff.1 HB.out.2.2).1).trans HB.out.2.2
          clear E2 HE HB hkp x0 x1 x2 x3 x4 x5 x6 x7 x8 x9 x10 x11 x12 x13 x14 x15 y0 y1
          have x15 := blk_cell b1 15 (v := .slice a n c) rfl
          clear b0 b1 b2 b3
          go_wp2_with fail
          refine (awake_anyL _).mono ?_
          rintro e w3 ⟨rfl, E3⟩
          go_wp2_with fail
          refine (awake_any _).mono ?_
          rintro e w4 ⟨rfl, E4⟩
          go_wp2
          go_ret
          exact ⟨rfl, EX.comp (E3.comp E4)⟩
        · have d4 : ((n : Int) == 0) = false := by simp; omega
          have d3 : decide (0 ≤ kv) = false := decide_eq_false (by omega)
          subst c1 c2
          have hv := valid_of_check her
          go_enter Tryz.func3, Tryz.ntmps3
          go_wp2_with fail
          refine (hck _ ((((Ext.refl w).alloc _).alloc _).alloc _)).mono ?_
          rintro e w1 ⟨rfl, E1⟩
          obtain ⟨b0, b1, b2⟩ := three_boxes E1
          have EX := E1.old.old.old
          have x0 := blk_cell b1 0 (v := .int .i64 l.words) rfl
          have x1 := blk_cell b1 1 (v := .int .i64 l.bits) rfl
          have x2 := blk_cell b1 2 (v := .int .i64 l.period) rfl
          have x3 := blk_cell b1 3 (v := .int .i64 l.delay) rfl
          have x4 := blk_cell b1 4 (v := .int .i64 l.slope) rfl
          have x5 := blk_cell b1 5 (v := .int .i64 l.window) rfl
          have x6 := fun ob => blk_cell (alloc_blkW b1 ob) 6 (v := .int .i64 o.low) rfl
          have x7 := fun ob => blk_cell (alloc_blkW b1 ob) 7 (v := .int .i64 o.high) rfl
          have x8 := fun ob => blk_cell (alloc_blkW b1 ob) 8 (v := .int .i64 o.warm.lo) rfl
          have x9 := fun ob => blk_cell (alloc_blkW b1 ob) 9 (v := .int .i64 o.warm.hi) rfl
          have x10 := fun ob => blk_cell (alloc_blkW b1 ob) 10 (v := .int .i64 o.cool.lo) rfl
          have x11 := fun ob => blk_cell (alloc_blkW b1 ob) 11 (v := .int .i64 o.cool.hi) rfl
          have x12 := fun ob => blk_cell (alloc_blkW b1 ob) 12 (v := .int .i64 temp.lo) rfl
          have x13 := fun ob => blk_cell (alloc_blkW b1 ob) 13 (v := .int .i64 temp.hi) rfl
          have x14 := fun ob => blk_cell (alloc_blkW b1 ob) 14 (v := .bool heats) rfl
          have x15 := fun ob => blk_cell (alloc_blkW b1 ob) 15 (v := .slice a n c) rfl
          have y0 := fun ob => blk_cell (alloc_blkW b2 ob) 0 (v := .int .u8 p) rfl
          have y1 := fun ob => blk_cell (alloc_blkW b2 ob) 1 (v := .int .u8 q) rfl
          have HB := Lib.hid (And.intro b0 (And.intro b1 b2))
          have HE := Lib.hid EX
          clear E1 hck b0 b1 b2 EX
          go_wp2_with fail
          refine (hkp _).mono ?_
          rintro e w2 ⟨rfl, E2⟩
          have b3 : w2.heap[w1.heap.size]? = some (.cells #[.int .i64 16, .int .i64 24, .int .i64 l.period, .int .i64 l.delay, .int .i64 l.slope, .int .i64 l.window] 26 (0, 0)) := (E2.block w1.heap.size (by simp)).trans (heap_alloc_new w1 _)
          have EX := HE.out.comp E2.old
          have b0 := ((E2.old).block _ (Array.getElem?_eq_some_iff.1 HB.out.1).1).trans HB.out.1
          have b1 := ((E2.old).block _ (Array.getElem?_eq_some_iff.1 HB.out.2.1).1).trans HB.out.2.1
          have b2 := ((E2.old).block _ (Array.getElem?_eq_some_iff.1 HB.out.2.2).1).trans HB.out.2.2
          clear E2 HE HB hkp x0 x1 x2 x3 x4 x5 x6 x7 x8 x9 x10 x11 x12 x13 x14 x15 y0 y1
          have x15 := blk_cell b1 15 (v := .slice a n c) rfl
          have z0 := blk_cell b0 0 (v := .slice a1 s.store.length k1) rfl
          have z1 := blk_cell b0 1 (v := .slice a2 s.tape.length k2) rfl
          have z2 := blk_cell b0 2 (v := .int .i64 s.taken) rfl
          have z3 := blk_cell b0 3 (v := .slice a3 s.printed.length k3) rfl
          have z4 := blk_cell b0 4 (v := .int .i64 s.time) rfl
          have z5 := blk_cell b0 5 (v := .int .i64 s.at_) rfl
          have z6 := blk_cell b0 6 (v := .int .i64 s.done) rfl
          have z7 := blk_cell b0 7 (v := .int .i64 s.why) rfl
          go_wp2_with fail
          have hwm := fun (k : Nat) (hk : k < 8) => warm_pass (xs := xs) (heats := heats) hv hk hM59 hxs hf (by rw [hkv]; exact c3)
          obtain ⟨_, hO, hsp⟩ := hwm 0 (by omega)
          obtain ⟨b, off, rfl, hbl, hc⟩ : ∃ b off, a1 = some ⟨b, off, none⟩ ∧ b < w.heap.size ∧ ∀ i, i < s.store.length → w.cell? ⟨b, off + i, none⟩ = some (.int .i64 (s.store[i]?.getD 0)) := hi.1.elim (fun h => by have := hv.len; rw [h] at this; simp at this) id
          have HTM := Lib.hid (fun W (E : Ext w W) => temps_any l o temp heats a c n M xs W hl (by omega) hbig (hI.ext E) hxs hO hsp hM59)
          have HPS := Lib.hid (fun (k : Nat) (hk : k < 8) W (E : Ext w W) (cc : Nat) (at4 : Option Addr) (ct : Nat) (it : IntsAt W at4 (tempsQ o temp heats xs M)) => show Calls Tryz.prog 8 #[.agg #[.int .i64 16, .int .i64 24, .int .i64 l.period, .int .i64 l.delay, .int .i64 l.slope, .int .i64 l.window], .slice (some ⟨b, off + 16 * k, none⟩) 16 cc, .slice at4 (M + 1) ct] W (PassRes (lane s k, -1, 0) W) by
            rw [← (hwm k hk).1]
            exact Pass_any (lineW l) (some ⟨b, off + 16 * k, none⟩) at4 16 (M + 1) cc ct (lane s k) (tempsQ o temp heats xs M) W (lane_length hv hk) tempsQ_length (by decide) (by omega) (lane_ints hv hk (Nat.lt_of_lt_of_le hbl E.size) fun i hi => (E.cell (p := ⟨b, off + i, none⟩) hbl).trans (hc i hi)) it)
          have HI := Lib.hid hi
          have HB := Lib.hid (And.intro b0 (And.intro b1 (And.intro b2 b3)))
          have HE := Lib.hid EX
          have HV := Lib.hid hv
          clear hwm hO hsp hc her hkv hf hi b0 b1 b2 b3 x15 z0 z1 z2 z3 z4 z5 z6 z7
          have hlat : LaterAt (w2.alloc (.cells #[.slice none 0 0, .slice a2 s.tape.length k2, .int .i64 s.taken, .slice a3 s.printed.length k3, .int .i64 s.time, .int .i64 s.at_, .int .i64 s.done, .int .i64 s.why] 24)) w2.heap.size s a2 a3 k2 k3 0 := ⟨none, 0, heap_alloc_new w2 _, by simpa [iv] using World.ownsRow_nil _ _ _ _⟩
          have EL : Ext w2 (w2.alloc (.cells #[.slice none 0 0, .slice a2 s.tape.length k2, .int .i64 s.taken, .slice a3 s.printed.length k3, .int .i64 s.time, .int .i64 s.at_, .int .i64 s.done, .int .i64 s.why] 24)) := (Ext.refl w2).alloc _
          generalize w2.alloc (.cells #[.slice none 0 0, .slice a2 s.tape.length k2, .int .i64 s.taken, .slice a3 s.printed.length k3, .int .i64 s.time, .int .i64 s.at_, .int .i64 s.done, .int .i64 s.why] 24) = X0 at *
          go_loopw [15] (fun s15 X => ∃ k : Nat, k ≤ 8 ∧ s15 = .int .i64 (k : Int) ∧ LaterAt X w2.heap.size s a2 a3 k2 k3 k ∧ Ext w2 X) (fun s15 _ => 8 - (Go.RowKit.intOf s15).toNat)
          case atStart => exact ⟨0, by omega, rfl, hlat, EL⟩
          case round =>
            clear hlat EL
            obtain ⟨k, hk, rfl, hlat, EX2⟩ := hrel
            obtain ⟨X, rfl⟩ : ∃ X : World, X = wr := ⟨_, rfl⟩
            have b0 := (EX2.block _ (Array.getElem?_eq_some_iff.1 HB.out.1).1).trans HB.out.1
            have b1 := (EX2.block _ (Array.getElem?_eq_some_iff.1 HB.out.2.1).1).trans HB.out.2.1
            have b2 := (EX2.block _ (Array.getElem?_eq_some_iff.1 HB.out.2.2.1).1).trans HB.out.2.2.1
            have b3 := (EX2.block _ (Array.getElem?_eq_some_iff.1 HB.out.2.2.2).1).trans HB.out.2.2.2
            by_cases hlt : k < 8
            · have hltz : (k : Int) < 8 := by omega
              have q0 := blk_cell b3 0 (v := .int .i64 16) rfl
              have q1 := blk_cell b3 1 (v := .int .i64 24) rfl
              have q2 := blk_cell b3 2 (v := .int .i64 l.period) rfl
              have q3 := blk_cell b3 3 (v := .int .i64 l.delay) rfl
              have q4 := blk_cell b3 4 (v := .int .i64 l.slope) rfl
              have q5 := blk_cell b3 5 (v := .int .i64 l.window) rfl
              have z0 := blk_cell b0 0 (v := .slice (some ⟨b, off, none⟩) s.store.length k1) rfl
              have x0 := blk_cell b1 0 (v := .int .i64 l.words) rfl
              have x1 := blk_cell b1 1 (v := .int .i64 l.bits) rfl
              have x2 := blk_cell b1 2 (v := .int .i64 l.period) rfl
              have x3 := blk_cell b1 3 (v := .int .i64 l.delay) rfl
              have x4 := blk_cell b1 4 (v := .int .i64 l.slope) rfl
              have x5 := blk_cell b1 5 (v := .int .i64 l.window) rfl
              have x6 := blk_cell b1 6 (v := .int .i64 o.low) rfl
              have x7 := blk_cell b1 7 (v := .int .i64 o.high) rfl
              have x8 := blk_cell b1 8 (v := .int .i64 o.warm.lo) rfl
              have x9 := blk_cell b1 9 (v := .int .i64 o.warm.hi) rfl
              have x10 := blk_cell b1 10 (v := .int .i64 o.cool.lo) rfl
              have x11 := blk_cell b1 11 (v := .int .i64 o.cool.hi) rfl
              have x12 := blk_cell b1 12 (v := .int .i64 temp.lo) rfl
              have x13 := blk_cell b1 13 (v := .int .i64 temp.hi) rfl
              have x14 := blk_cell b1 14 (v := .bool heats) rfl
              have x15 := blk_cell b1 15 (v := .slice a n c) rfl
              obtain ⟨lo, hlo⟩ : ∃ lo : Nat, 16 * k = lo := ⟨_, rfl⟩
              obtain ⟨ho, hho⟩ : ∃ ho : Nat, lo + 16 = ho := ⟨_, rfl⟩
              have hsub : ho - lo = 16 := by omega
              have hsl := fun W => slice_lane W b off s.store.length k1 lo ho (by have := HV.out.len; omega) (by omega) (by have := HV.out.len; omega)
              rw [hsub] at hsl
              have hsl2 := fun W => slice_laneAt W b off s.store.length k1 lo ho (by have := HV.out.len; omega) (by omega) (by have := HV.out.len; omega)
              rw [hsub] at hsl2
              have m1 : 16 * (k : Int) = (lo : Int) := by omega
              have m1' : (k : Int) * 16 = (lo : Int) := by omega
              have m2 : 16 * ((k : Int) + 1) = (ho : Int) := by omega
              have m2' : ((k : Int) + 1) * 16 = (ho : Int) := by omega
              have m3 : IntKind.i64.wrap (lo : Int) = (lo : Int) := IntWalk.i64_in _ (by omega)
              have m4 : IntKind.i64.wrap (ho : Int) = (ho : Int) := IntWalk.i64_in _ (by omega)
              have m5 : IntKind.i64.wrap ((k : Int) + 1) = (k : Int) + 1 := IntWalk.i64_in _ (by omega)
              have m6 : IntKind.i64.wrap (16 * (k : Int)) = (lo : Int) := by rw [m1]; exact m3
              have m6' : IntKind.i64.wrap ((k : Int) * 16) = (lo : Int) := by rw [m1']; exact m3
              have m7 : IntKind.i64.wrap (16 * ((k : Int) + 1)) = (ho : Int) := by rw [m2]; exact m4
              have m7' : IntKind.i64.wrap (((k : Int) + 1) * 16) = (ho : Int) := by rw [m2']; exact m4
              have m8 : (0 : Int) ≤ (lo : Int) := by omega
              have m9 : (lo : Int) ≤ (ho : Int) := by omega
              have m10 : (ho : Int) ≤ (k1 : Int) := by have := HV.out.len; omega
              have m11 : ¬ k1 = lo := by have := HV.out.len; omega
              clear m1 m1' m2 m2'
              have htm := fun W (E : Ext X W) => HTM.out W ((HE.out.comp EX2).comp E)
              have hps := fun W (E : Ext X W) => HPS.out k hlt W ((HE.out.comp EX2).comp E)
              rw [hlo] at hps
              have h23 : ∀ W, Ext X W → (Ext X W ∧ W.cell? ⟨w1.heap.size, 0, none⟩ = some (.int .i64 16) ∧ W.cell? ⟨w1.heap.size, 1, none⟩ = some (.int .i64 24) ∧ W.cell? ⟨w1.heap.size, 2, none⟩ = some (.int .i64 l.period) ∧ W.cell? ⟨w1.heap.size, 3, none⟩ = some (.int .i64 l.delay) ∧ W.cell? ⟨w1.heap.size, 4, none⟩ = some (.int .i64 l.slope) ∧ W.cell? ⟨w1.heap.size, 5, none⟩ = some (.int .i64 l.window) ∧ W.cell? ⟨w.heap.size, 0, none⟩ = some (.slice (some ⟨b, off, none⟩) s.store.length k1) ∧ W.cell? ⟨w.heap.size + 1, 0, none⟩ = some (.int .i64 l.words) ∧ W.cell? ⟨w.heap.size + 1, 1, none⟩ = some (.int .i64 l.bits) ∧ W.cell? ⟨w.heap.size + 1, 2, none⟩ = some (.int .i64 l.period) ∧ W.cell? ⟨w.heap.size + 1, 3, none⟩ = some (.int .i64 l.delay) ∧ W.cell? ⟨w.heap.size + 1, 4, none⟩ = some (.int .i64 l.slope) ∧ W.cell? ⟨w.heap.size + 1, 5, none⟩ = some (.int .i64 l.window) ∧ W.cell? ⟨w.heap.size + 1, 6, none⟩ = some (.int .i64 o.low) ∧ W.cell? ⟨w.heap.size + 1, 7, none⟩ = some (.int .i64 o.high) ∧ W.cell? ⟨w.heap.size + 1, 8, none⟩ = some (.int .i64 o.warm.lo) ∧ W.cell? ⟨w.heap.size + 1, 9, none⟩ = some (.int .i64 o.warm.hi) ∧ W.cell? ⟨w.heap.size + 1, 10, none⟩ = some (.int .i64 o.cool.lo) ∧ W.cell? ⟨w.heap.size + 1, 11, none⟩ = some (.int .i64 o.cool.hi) ∧ W.cell? ⟨w.heap.size + 1, 12, none⟩ = some (.int .i64 temp.lo) ∧ W.cell? ⟨w.heap.size + 1, 13, none⟩ = some (.int .i64 temp.hi) ∧ W.cell? ⟨w.heap.size + 1, 14, none⟩ = some (.bool heats) ∧ W.cell? ⟨w.heap.size + 1, 15, none⟩ = some (.slice a n c)) := fun W E => ⟨E, cell_laterA q0 E, cell_laterA q1 E, cell_laterA q2 E, cell_laterA q3 E, cell_laterA q4 E, cell_laterA q5 E, cell_laterA z0 E, cell_laterA x0 E, cell_laterA x1 E, cell_laterA x2 E, cell_laterA x3 E, cell_laterA x4 E, cell_laterA x5 E, cell_laterA x6 E, cell_laterA x7 E, cell_laterA x8 E, cell_laterA x9 E, cell_laterA x10 E, cell_laterA x11 E, cell_laterA x12 E, cell_laterA x13 E, cell_laterA x14 E, cell_laterA x15 E⟩
              have HLO := Lib.hid hlo
              clear hlo hho
              go_wp2_with fail
              go_region_held3 (fun W => Ext X W ∧ W.cell? ⟨w1.heap.size, 0, none⟩ = some (.int .i64 16) ∧ W.cell? ⟨w1.heap.size, 1, none⟩ = some (.int .i64 24) ∧ W.cell? ⟨w1.heap.size, 2, none⟩ = some (.int .i64 l.period) ∧ W.cell? ⟨w1.heap.size, 3, none⟩ = some (.int .i64 l.delay) ∧ W.cell? ⟨w1.heap.size, 4, none⟩ = some (.int .i64 l.slope) ∧ W.cell? ⟨w1.heap.size, 5, none⟩ = some (.int .i64 l.window) ∧ W.cell? ⟨w.heap.size, 0, none⟩ = some (.slice (some ⟨b, off, none⟩) s.store.length k1) ∧ W.cell? ⟨w.heap.size + 1, 0, none⟩ = some (.int .i64 l.words) ∧ W.cell? ⟨w.heap.size + 1, 1, none⟩ = some (.int .i64 l.bits) ∧ W.cell? ⟨w.heap.size + 1, 2, none⟩ = some (.int .i64 l.period) ∧ W.cell? ⟨w.heap.size + 1, 3, none⟩ = some (.int .i64 l.delay) ∧ W.cell? ⟨w.heap.size + 1, 4, none⟩ = some (.int .i64 l.slope) ∧ W.cell? ⟨w.heap.size + 1, 5, none⟩ = some (.int .i64 l.window) ∧ W.cell? ⟨w.heap.size + 1, 6, none⟩ = some (.int .i64 o.low) ∧ W.cell? ⟨w.heap.size + 1, 7, none⟩ = some (.int .i64 o.high) ∧ W.cell? ⟨w.heap.size + 1, 8, none⟩ = some (.int .i64 o.warm.lo) ∧ W.cell? ⟨w.heap.size + 1, 9, none⟩ = some (.int .i64 o.warm.hi) ∧ W.cell? ⟨w.heap.size + 1, 10, none⟩ = some (.int .i64 o.cool.lo) ∧ W.cell? ⟨w.heap.size + 1, 11, none⟩ = some (.int .i64 o.cool.hi) ∧ W.cell? ⟨w.heap.size + 1, 12, none⟩ = some (.int .i64 temp.lo) ∧ W.cell? ⟨w.heap.size + 1, 13, none⟩ = some (.int .i64 temp.hi) ∧ W.cell? ⟨w.heap.size + 1, 14, none⟩ = some (.bool heats) ∧ W.cell? ⟨w.heap.size + 1, 15, none⟩ = some (.slice a n c))
                (first | exact h23 _ (Ext.refl X).drew | exact h23 _ hb' | exact h23 _ hb'')
                (first
                  | (go_at_call 9; refine (htm _ (Ext.refl X).drew).mono ?_; rintro e w' ⟨at4, ct, rfl, hIt, hb1'⟩; have hb' : Ext X w' := Ext.comp (Ext.refl X).drew hb1')
                  | (go_at_call 8; refine (hps _ hb' _ _ _ hIt).mono ?_; rintro e w'' ⟨a5, c5, rfl, hI5, hb2'⟩; have hb'' : Ext X w'' := Ext.comp hb' hb2'))
              clear h23 htm hps hsl hsl2 m3 m4 m5 m6 m6' m7 m7' m8 m9 m10 m11 hb1' hb2' hIt b0 b1 b2 b3 q0 q1 q2 q3 q4 q5 z0 x0 x1 x2 x3 x4 x5 x6 x7 x8 x9 x10 x11 x12 x13 x14 x15
              obtain ⟨sa, sc, hbk, hown⟩ := hlat
              have hXs : w2.heap.size + 1 ≤ w''.heap.size := by have := (Array.getElem?_eq_some_iff.1 hbk).1; have := hb''.size; omega
              replace hbk := (hb''.block _ (Array.getElem?_eq_some_iff.1 hbk).1).trans hbk
              replace hown := own_ext hown hb''
              have s0 := blk_cell hbk 0 (v := .slice sa (16 * k) sc) rfl
              rw [show ((lane s k, -1, 0) : List Int × Int × Int).1.length = 16 from lane_length HV.out hlt]
              clear hb'
              obtain ⟨i0, hi, hz0, hz1, hz2⟩ := info_parts Tryz.infoE
              go_wp2_with (at_builtin; refine wpList_app (w0 := w2) rfl _ _ 22 rfl 3 i0 (.int .i64 0) 1 8 Tryz.underlying22 hi hz0 hz1 hz2 rfl (by decide) _ (16 * k) (w2.heap.size + 1) (iv (s.store.take (16 * k))) rfl hown (EX2.comp hb'') (Nat.le_succ _) hXs a5 16 c5 (iv (lane s k)) rfl ?c1 ?c2 (iv_one _) (by unfold maxLen; omega) (by omega) ?_)
              case c1 => rw [iv_length, lane_length HV.out hlt]
              case c2 => exact from_ints hI5
              intro a6 c6 w7 hown7 hE7 hg7
              rw [iv_app, lanes_join] at hown7
              have hbk7 := (hg7.block w2.heap.size (by omega) (fun e => by have := (hown.lt _ e.symm).1; omega)).trans hbk
              clear s0 hg7 hown hbk hI5
              have f0 := blk_free hbk7 0
              have s0 := blk_cell hbk7 0 (v := .slice sa (16 * k) sc) rfl
              (try go_frame)
              go_wp2
              have hbk8 : (w7.setCell ⟨w2.heap.size, 0, none⟩ (.slice a6 (16 * k + 16) c6)).heap[w2.heap.size]? = some (.cells #[.slice a6 (16 * (k + 1)) c6, .slice a2 s.tape.length k2, .int .i64 s.taken, .slice a3 s.printed.length k3, .int .i64 s.time, .int .i64 s.at_, .int .i64 s.done, .int .i64 s.why] 24 (0, 0)) := cells_set hbk7 0 _
              have hown8 := ownsRow_setCell_below hown7 (a := ⟨w2.heap.size, 0, none⟩) (Nat.lt_succ_self _) (.slice a6 (16 * k + 16) c6)
              have E8 : Ext w2 (w7.setCell ⟨w2.heap.size, 0, none⟩ (.slice a6 (16 * k + 16) c6)) := hE7.setCell (p := ⟨w2.heap.size, 0, none⟩) (Nat.le_refl _) _
              go_roundw
              case rel => exact ⟨k + 1, by omega, by go_num, ⟨a6, c6, hbk8, hown8⟩, E8⟩
              case measure => simp [Go.RowKit.intOf]; omega
            · have hltz : ¬ (k : Int) < 8 := by omega
              obtain rfl : k = 8 := by omega
              obtain ⟨sa, sc, hbk, hown⟩ := hlat
              rw [lanes_all HV.out] at hown
              rw [show 16 * 8 = 128 from rfl] at hbk hown
              have hI6 := own_ints hown
              have hr := fun W v (A : StAt W v s) => runE_any v s q W A hb
              rw [show runE s q = (runQ qn s, 0) by rw [HQ.out.1]; exact runE_okW HV.out qn (by have := HQ.out; omega)] at hr
              have htv := runQ_valid qn HV.out
              obtain ⟨t, ht⟩ : ∃ t, runQ qn s = t := ⟨_, rfl⟩
              rw [ht] at hr htv
              have hst := fun W v v' (A : StAt W v t) (B : StAt W v' t) => states_same v v' t W A B ⟨by rw [htv.len]; decide, Nat.le_trans htv.tlen (by decide), Nat.le_trans htv.plen (by decide)⟩
              have EW := HE.out.comp EX2
              have A0 : StAt X (sv (some ⟨b, off, none⟩) a2 a3 s.store.length k1 s.tape.length k2 s.printed.length k3 s.taken s.time s.at_ s.done s.why) s := ⟨some ⟨b, off, none⟩, a2, a3, k1, k2, k3, rfl, HI.out.1.ext EW, HI.out.2.1.ext EW, HI.out.2.2.ext EW⟩
              have AL : StAt X (sv sa a2 a3 128 sc s.tape.length k2 s.printed.length k3 s.taken s.time s.at_ s.done s.why) s := ⟨sa, a2, a3, sc, k2, k3, by rw [HV.out.len], hI6, HI.out.2.1.ext EW, HI.out.2.2.ext EW⟩
              have z0 := blk_cell b0 0 (v := .slice (some ⟨b, off, none⟩) s.store.length k1) rfl
              have z1 := blk_cell b0 1 (v := .slice a2 s.tape.length k2) rfl
              have z2 := blk_cell b0 2 (v := .int .i64 s.taken) rfl
              have z3 := blk_cell b0 3 (v := .slice a3 s.printed.length k3) rfl
              have z4 := blk_cell b0 4 (v := .int .i64 s.time) rfl
              have z5 := blk_cell b0 5 (v := .int .i64 s.at_) rfl
              have z6 := blk_cell b0 6 (v := .int .i64 s.done) rfl
              have z7 := blk_cell b0 7 (v := .int .i64 s.why) rfl
              have y1 := blk_cell b2 1 (v := .int .u8 q) rfl
              clear ht htv hown hI6 b0 b1 b3
              go_wp2_with fail
              refine (hr _ _ A0).mono ?_
              rintro e w8 ⟨v8, rfl, ⟨g1, g2, g3, j1, j2, j3, rfl, u1, u2, u3⟩, E8⟩
              replace hbk := (E8.block _ (Array.getElem?_eq_some_iff.1 hbk).1).trans hbk
              replace b2 := (E8.block _ (Array.getElem?_eq_some_iff.1 b2).1).trans b2
              replace AL := AL.ext E8
              clear A0 z0 z1 z2 z3 z4 z5 z6 z7 y1
              have y1 := fun ob => blk_cell (alloc_blkW b2 ob) 1 (v := .int .u8 q) rfl
              have s0 := fun ob => blk_cell (alloc_blkW hbk ob) 0 (v := .slice sa 128 sc) rfl
              have s1 := fun ob => blk_cell (alloc_blkW hbk ob) 1 (v := .slice a2 s.tape.length k2) rfl
              have s2 := fun ob => blk_cell (alloc_blkW hbk ob) 2 (v := .int .i64 s.taken) rfl
              have s3 := fun ob => blk_cell (alloc_blkW hbk ob) 3 (v := .slice a3 s.printed.length k3) rfl
              have s4 := fun ob => blk_cell (alloc_blkW hbk ob) 4 (v := .int .i64 s.time) rfl
              have s5 := fun ob => blk_cell (alloc_blkW hbk ob) 5 (v := .int .i64 s.at_) rfl
              have s6 := fun ob => blk_cell (alloc_blkW hbk ob) 6 (v := .int .i64 s.done) rfl
              have s7 := fun ob => blk_cell (alloc_blkW hbk ob) 7 (v := .int .i64 s.why) rfl
              go_wp2_with fail
              have AT1 : StAt w8 (sv g1 g2 g3 t.store.length j1 t.tape.length j2 t.printed.length j3 t.taken t.time t.at_ t.done t.why) t := ⟨g1, g2, g3, j1, j2, j3, rfl, u1, u2, u3⟩
              refine (hr _ _ (AL.ext ((Ext.refl w8).alloc _))).mono ?_
              rintro e w9 ⟨v9, rfl, ⟨d1, d2, d3, n1, n2, n3, rfl, r1, r2, r3⟩, E9⟩
              have AT2 : StAt w9 (sv d1 d2 d3 t.store.length n1 t.tape.length n2 t.printed.length n3 t.taken t.time t.at_ t.done t.why) t := ⟨d1, d2, d3, n1, n2, n3, rfl, r1, r2, r3⟩
              clear s0 s1 s2 s3 s4 s5 s6 s7 y1 AL hr u1 u2 u3 r1 r2 r3
              have p0 := fun ob => box_at (v := .slice g1 t.store.length j1) (Ext.alloc E9 ob) 0 rfl
              have p1 := fun ob => box_at (v := .slice g2 t.tape.length j2) (Ext.alloc E9 ob) 1 rfl
              have p2 := fun ob => box_at (v := .int .i64 t.taken) (Ext.alloc E9 ob) 2 rfl
              have p3 := fun ob => box_at (v := .slice g3 t.printed.length j3) (Ext.alloc E9 ob) 3 rfl
              have p4 := fun ob => box_at (v := .int .i64 t.time) (Ext.alloc E9 ob) 4 rfl
              have p5 := fun ob => box_at (v := .int .i64 t.at_) (Ext.alloc E9 ob) 5 rfl
              have p6 := fun ob => box_at (v := .int .i64 t.done) (Ext.alloc E9 ob) 6 rfl
              have p7 := fun ob => box_at (v := .int .i64 t.why) (Ext.alloc E9 ob) 7 rfl
              go_wp2_with fail
              refine (hst _ _ _ ((AT1.ext E9.old).ext ((Ext.refl w9).alloc _)) (AT2.ext ((Ext.refl w9).alloc _))).mono ?_
              rintro e w10 ⟨rfl, E10⟩
              go_wp2_with fail
              refine (awake_anyL _).mono ?_
              rintro e w11 ⟨rfl, E11⟩
              go_wp2_with fail
              refine (awake_any _).mono ?_
              rintro e w12 ⟨rfl, E12⟩
              go_wp2
              go_ret
              exact ⟨rfl, ((EW.comp E8).comp E9.old).comp (E10.old.comp (E11.comp E12))⟩
      · have d3 : decide (0 ≤ kv) = true := decide_eq_true (by omega)
        subst c1 c2
        clear her hkv hf
        go_enter Tryz.func3, Tryz.ntmps3
        go_wp2_with fail
        refine (hck _ ((((Ext.refl w).alloc _).alloc _).alloc _)).mono ?_
        rintro e w1 ⟨rfl, E1⟩
        obtain ⟨b0, b1, b2⟩ := three_boxes E1
        have EX := E1.old.old.old
        have x0 := blk_cell b1 0 (v := .int .i64 l.words) rfl
        have x1 := blk_cell b1 1 (v := .int .i64 l.bits) rfl
        have x2 := blk_cell b1 2 (v := .int .i64 l.period) rfl
        have x3 := blk_cell b1 3 (v := .int .i64 l.delay) rfl
        have x4 := blk_cell b1 4 (v := .int .i64 l.slope) rfl
        have x5 := blk_cell b1 5 (v := .int .i64 l.window) rfl
        have x6 := fun ob => blk_cell (alloc_blkW b1 ob) 6 (v := .int .i64 o.low) rfl
        have x7 := fun ob => blk_cell (alloc_blkW b1 ob) 7 (v := .int .i64 o.high) rfl
        have x8 := fun ob => blk_cell (alloc_blkW b1 ob) 8 (v := .int .i64 o.warm.lo) rfl
        have x9 := fun ob => blk_cell (alloc_blkW b1 ob) 9 (v := .int .i64 o.warm.hi) rfl
        have x10 := fun ob => blk_cell (alloc_blkW b1 ob) 10 (v := .int .i64 o.cool.lo) rfl
        have x11 := fun ob => blk_cell (alloc_blkW b1 ob) 11 (v := .int .i64 o.cool.hi) rfl
        have x12 := fun ob => blk_cell (alloc_blkW b1 ob) 12 (v := .int .i64 temp.lo) rfl
        have x13 := fun ob => blk_cell (alloc_blkW b1 ob) 13 (v := .int .i64 temp.hi) rfl
        have x14 := fun ob => blk_cell (alloc_blkW b1 ob) 14 (v := .bool heats) rfl
        have x15 := fun ob => blk_cell (alloc_blkW b1 ob) 15 (v := .slice a n c) rfl
        have y0 := fun ob => blk_cell (alloc_blkW b2 ob) 0 (v := .int .u8 p) rfl
        have y1 := fun ob => blk_cell (alloc_blkW b2 ob) 1 (v := .int .u8 q) rfl
        have HB := Lib.hid (And.intro b0 (And.intro b1 b2))
        have HE := Lib.hid EX
        clear E1 hck b0 b1 b2 EX
        go_wp2_with fail
        refine (hkp _).mono ?_
        rintro e w2 ⟨rfl, E2⟩
        have b3 : w2.heap[w1.heap.size]? = some (.cells #[.int .i64 16, .int .i64 24, .int .i64 l.period, .int .i64 l.delay, .int .i64 l.slope, .int .i64 l.window] 26 (0, 0)) := (E2.block w1.heap.size (by simp)).trans (heap_alloc_new w1 _)
        have EX := HE.out.comp E2.old
        have b0 := ((E2.old).block _ (Array.getElem?_eq_some_iff.1 HB.out.1).1).trans HB.out.1
        have b1 := ((E2.old).block _ (Array.getElem?_eq_some_iff.1 HB.out.2.1).1).trans HB.out.2.1
        have b2 := ((E2.old).block _ (Array.getElem?_eq_some_iff.1 HB.out.2.2).1).trans HB.out.2.2
        clear E2 HE HB hkp x0 x1 x2 x3 x4 x5 x6 x7 x8 x9 x10 x11 x12 x13 x14 x15 y0 y1
        have x15 := blk_cell b1 15 (v := .slice a n c) rfl
        clear b0 b1 b2 b3
        go_wp2_with fail
        refine (awake_anyL _).mono ?_
        rintro e w3 ⟨rfl, E3⟩
        go_wp2_with fail
        refine (awake_any _).mono ?_
        rintro e w4 ⟨rfl, E4⟩
        go_wp2
        go_ret
        exact ⟨rfl, EX.comp (E3.comp E4)⟩
    · have d2 : (f != 0) = true := by simpa using c2
      subst c1
      clear her hkv hf c2
      go_enter Tryz.func3, Tryz.ntmps3
      go_wp2_with fail
      refine (hck _ ((((Ext.refl w).alloc _).alloc _).alloc _)).mono ?_
      rintro e w1 ⟨rfl, E1⟩
      obtain ⟨b0, b1, b2⟩ := three_boxes E1
      have EX := E1.old.old.old
      have x0 := blk_cell b1 0 (v := .int .i64 l.words) rfl
      have x1 := blk_cell b1 1 (v := .int .i64 l.bits) rfl
      have x2 := blk_cell b1 2 (v := .int .i64 l.period) rfl
      have x3 := blk_cell b1 3 (v := .int .i64 l.delay) rfl
      have x4 := blk_cell b1 4 (v := .int .i64 l.slope) rfl
      have x5 := blk_cell b1 5 (v := .int .i64 l.window) rfl
      have x6 := fun ob => blk_cell (alloc_blkW b1 ob) 6 (v := .int .i64 o.low) rfl
      have x7 := fun ob => blk_cell (alloc_blkW b1 ob) 7 (v := .int .i64 o.high) rfl
      have x8 := fun ob => blk_cell (alloc_blkW b1 ob) 8 (v := .int .i64 o.warm.lo) rfl
      have x9 := fun ob => blk_cell (alloc_blkW b1 ob) 9 (v := .int .i64 o.warm.hi) rfl
      have x10 := fun ob => blk_cell (alloc_blkW b1 ob) 10 (v := .int .i64 o.cool.lo) rfl
      have x11 := fun ob => blk_cell (alloc_blkW b1 ob) 11 (v := .int .i64 o.cool.hi) rfl
      have x12 := fun ob => blk_cell (alloc_blkW b1 ob) 12 (v := .int .i64 temp.lo) rfl
      have x13 := fun ob => blk_cell (alloc_blkW b1 ob) 13 (v := .int .i64 temp.hi) rfl
      have x14 := fun ob => blk_cell (alloc_blkW b1 ob) 14 (v := .bool heats) rfl
      have x15 := fun ob => blk_cell (alloc_blkW b1 ob) 15 (v := .slice a n c) rfl
      have y0 := fun ob => blk_cell (alloc_blkW b2 ob) 0 (v := .int .u8 p) rfl
      have y1 := fun ob => blk_cell (alloc_blkW b2 ob) 1 (v := .int .u8 q) rfl
      have HB := Lib.hid (And.intro b0 (And.intro b1 b2))
      have HE := Lib.hid EX
      clear E1 hck b0 b1 b2 EX
      go_wp2_with fail
      refine (hkp _).mono ?_
      rintro e w2 ⟨rfl, E2⟩
      have b3 : w2.heap[w1.heap.size]? = some (.cells #[.int .i64 16, .int .i64 24, .int .i64 l.period, .int .i64 l.delay, .int .i64 l.slope, .int .i64 l.window] 26 (0, 0)) := (E2.block w1.heap.size (by simp)).trans (heap_alloc_new w1 _)
      have EX := HE.out.comp E2.old
      have b0 := ((E2.old).block _ (Array.getElem?_eq_some_iff.1 HB.out.1).1).trans HB.out.1
      have b1 := ((E2.old).block _ (Array.getElem?_eq_some_iff.1 HB.out.2.1).1).trans HB.out.2.1
      have b2 := ((E2.old).block _ (Array.getElem?_eq_some_iff.1 HB.out.2.2).1).trans HB.out.2.2
      clear E2 HE HB hkp x0 x1 x2 x3 x4 x5 x6 x7 x8 x9 x10 x11 x12 x13 x14 x15 y0 y1
      have x15 := blk_cell b1 15 (v := .slice a n c) rfl
      clear b0 b1 b2 b3
      go_wp2_with fail
      refine (awake_anyL _).mono ?_
      rintro e w3 ⟨rfl, E3⟩
      go_wp2_with fail
      refine (awake_any _).mono ?_
      rintro e w4 ⟨rfl, E4⟩
      go_wp2
      go_ret
      exact ⟨rfl, EX.comp (E3.comp E4)⟩
  · have d1 : (er != 0) = true := by simpa using c1
    clear her hkv hf c1
    go_enter Tryz.func3, Tryz.ntmps3
    go_wp2_with fail
    refine (hck _ ((((Ext.refl w).alloc _).alloc _).alloc _)).mono ?_
    rintro e w1 ⟨rfl, E1⟩
    obtain ⟨b0, b1, b2⟩ := three_boxes E1
    have EX := E1.old.old.old
    have x0 := blk_cell b1 0 (v := .int .i64 l.words) rfl
    have x1 := blk_cell b1 1 (v := .int .i64 l.bits) rfl
    have x2 := blk_cell b1 2 (v := .int .i64 l.period) rfl
    have x3 := blk_cell b1 3 (v := .int .i64 l.delay) rfl
    have x4 := blk_cell b1 4 (v := .int .i64 l.slope) rfl
    have x5 := blk_cell b1 5 (v := .int .i64 l.window) rfl
    have x6 := fun ob => blk_cell (alloc_blkW b1 ob) 6 (v := .int .i64 o.low) rfl
    have x7 := fun ob => blk_cell (alloc_blkW b1 ob) 7 (v := .int .i64 o.high) rfl
    have x8 := fun ob => blk_cell (alloc_blkW b1 ob) 8 (v := .int .i64 o.warm.lo) rfl
    have x9 := fun ob => blk_cell (alloc_blkW b1 ob) 9 (v := .int .i64 o.warm.hi) rfl
    have x10 := fun ob => blk_cell (alloc_blkW b1 ob) 10 (v := .int .i64 o.cool.lo) rfl
    have x11 := fun ob => blk_cell (alloc_blkW b1 ob) 11 (v := .int .i64 o.cool.hi) rfl
    have x12 := fun ob => blk_cell (alloc_blkW b1 ob) 12 (v := .int .i64 temp.lo) rfl
    have x13 := fun ob => blk_cell (alloc_blkW b1 ob) 13 (v := .int .i64 temp.hi) rfl
    have x14 := fun ob => blk_cell (alloc_blkW b1 ob) 14 (v := .bool heats) rfl
    have x15 := fun ob => blk_cell (alloc_blkW b1 ob) 15 (v := .slice a n c) rfl
    have y0 := fun ob => blk_cell (alloc_blkW b2 ob) 0 (v := .int .u8 p) rfl
    have y1 := fun ob => blk_cell (alloc_blkW b2 ob) 1 (v := .int .u8 q) rfl
    have HB := Lib.hid (And.intro b0 (And.intro b1 b2))
    have HE := Lib.hid EX
    clear E1 hck b0 b1 b2 EX
    go_wp2_with fail
    refine (hkp _).mono ?_
    rintro e w2 ⟨rfl, E2⟩
    have b3 : w2.heap[w1.heap.size]? = some (.cells #[.int .i64 16, .int .i64 24, .int .i64 l.period, .int .i64 l.delay, .int .i64 l.slope, .int .i64 l.window] 26 (0, 0)) := (E2.block w1.heap.size (by simp)).trans (heap_alloc_new w1 _)
    have EX := HE.out.comp E2.old
    have b0 := ((E2.old).block _ (Array.getElem?_eq_some_iff.1 HB.out.1).1).trans HB.out.1
    have b1 := ((E2.old).block _ (Array.getElem?_eq_some_iff.1 HB.out.2.1).1).trans HB.out.2.1
    have b2 := ((E2.old).block _ (Array.getElem?_eq_some_iff.1 HB.out.2.2).1).trans HB.out.2.2
    clear E2 HE HB hkp x0 x1 x2 x3 x4 x5 x6 x7 x8 x9 x10 x11 x12 x13 x14 x15 y0 y1
    have x15 := blk_cell b1 15 (v := .slice a n c) rfl
    clear b0 b1 b2 b3
    go_wp2_with fail
    refine (awake_anyL _).mono ?_
    rintro e w3 ⟨rfl, E3⟩
    go_wp2_with fail
    refine (awake_any _).mono ?_
    rintro e w4 ⟨rfl, E4⟩
    go_wp2
    go_ret
    exact ⟨rfl, EX.comp (E3.comp E4)⟩
end Go.Proofs.YtbcciokmlkofkaaGreat
