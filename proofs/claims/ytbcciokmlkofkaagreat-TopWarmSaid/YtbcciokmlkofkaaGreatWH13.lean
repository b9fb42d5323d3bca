import Derived.Test.YtbcciokmlkofkaaGreatWH12
import Derived.Test.YtbcciokmlkofkaaGreatWMp
import Derived.Test.YtbcciokmlkofkaaGreatWH7
set_option linter.unusedVariables false
set_option linter.unusedSimpArgs false
/- Layer 1: maps from numbers, spans in memory; Can, refusals. -/
namespace Go.Proofs.YtbcciokmlkofkaaGreat
open Go.RowKit Go.Q Go.Shelf Go.Maps
/-- numbers that an int can be -/
structure I64 where
  val : Int
  ok : -9223372036854775808 ≤ val ∧ val ≤ 9223372036854775807
deriving DecidableEq
theorem I64.same {x y : I64} (h : x.1 = y.1) : x = y := by
  cases x; cases y
  cases h
  rfl
def encI (x : I64) : Value := .int .i64 x.1
theorem keyI : KeyEnc Tryz.prog 3 encI :=
  ⟨int_keyed Tryz.underlying3, fun x => ⟨_, keyOf_int_mk Tryz.underlying3 (WalkArith.wf_i64 (by have := x.2; omega))⟩, fun x y h => by
    unfold encI at h
    injection h with _ h
    exact I64.same h⟩
/-- block b is a map whose keys are those of p -/
def MapP (w : World) (b : Nat) (p : Int → Prop) : Prop := ∃ f : I64 → Option Value, MapF encI w b f ∧ ∀ x, (f x).isSome = true ↔ p x.1
theorem MapP.ext {w w' : World} {b : Nat} {p : Int → Prop} (h : MapP w b p) (E : Ext w w') : MapP w' b p := by
  obtain ⟨f, h1, h2⟩ := h
  exact ⟨f, h1.ext E, h2⟩
theorem MapP.lt {w : World} {b : Nat} {p : Int → Prop} (h : MapP w b p) : b < w.heap.size := by
  obtain ⟨f, h1, h2⟩ := h
  exact h1.lt
theorem MapP.same {w w' : World} {b : Nat} {p : Int → Prop} (h : MapP w b p) (e : w'.heap[b]? = w.heap[b]?) : MapP w' b p := by
  obtain ⟨f, h1, h2⟩ := h
  exact ⟨f, h1.same e, h2⟩
theorem MapP.congr {w : World} {b : Nat} {p q : Int → Prop} (h : MapP w b p) (e : ∀ x, p x ↔ q x) : MapP w b q := by
  obtain ⟨f, h1, h2⟩ := h
  exact ⟨f, h1, fun x => (h2 x).trans (e x.1)⟩
theorem MapP.made (w : World) : MapP (w.alloc (.map #[] 0)) w.heap.size (fun _ => False) := ⟨fun _ => none, MapF.made w, fun x => by simp⟩
theorem putF_isSome {f : I64 → Option Value} {k x : I64} {v : Value} : (putF f k v x).isSome = true ↔ ((f x).isSome = true ∨ x.1 = k.1) := by
  unfold putF
  by_cases h : x = k
  · rw [if_pos h]; subst h; simp
  · rw [if_neg h]
    have : ¬ x.1 = k.1 := fun e => h (I64.same e)
    simp [this]
/-- the spans ss lie from a on -/
def SpansAt (w : World) (a : Option Addr) (ss : List Sp) : Prop :=
  ss = [] ∨ ∃ b off, a = some ⟨b, off, none⟩ ∧ b < w.heap.size ∧ ∀ i, i < ss.length → w.cell? ⟨b, off + i * 2, none⟩ = some (.int .i64 (ss[i]?.getD ⟨0, 0⟩).lo) ∧ w.cell? ⟨b, off + i * 2 + 1, none⟩ = some (.int .i64 (ss[i]?.getD ⟨0, 0⟩).hi)
theorem SpansAt.ext {w w' : World} {a : Option Addr} {ss : List Sp} (h : SpansAt w a ss) (E : Ext w w') : SpansAt w' a ss :=
  h.imp id fun ⟨b, off, ha, hb, hc⟩ => ⟨b, off, ha, Nat.lt_of_lt_of_le hb E.size, fun i hi => ⟨(E.cell (p := ⟨b, off + i * 2, none⟩) hb).trans (hc i hi).1, (E.cell (p := ⟨b, off + i * 2 + 1, none⟩) hb).trans (hc i hi).2⟩⟩
/-- what Can hands back -/
def CanRes (r : List Int × Bool × Int) (w : World) (e : Ending) (w' : World) : Prop :=
  ∃ a c, e = .returned (.tuple #[.agg #[.slice a r.1.length c, .bool r.2.1], .int .i64 r.2.2]) ∧ IntsAt w' a r.1 ∧ Ext w w'
theorem can_err {x : Int} {w W : World} (h : Ext w W) : CanRes ([], false, x) w (.returned (.tuple #[.agg #[.slice none 0 0, .bool false], .int .i64 x])) W := ⟨none, 0, rfl, .inl rfl, h⟩
theorem spansX_first : ∀ (ss : List Sp) (k : Nat), k < ss.length → (∀ j, j < k → spanX (ss[j]?.getD ⟨0, 0⟩) = 0) → spanX (ss[k]?.getD ⟨0, 0⟩) ≠ 0 → spansX ss = spanX (ss[k]?.getD ⟨0, 0⟩)
  | [], k, hk, _, _ => by simp at hk
  | s :: ss, 0, _, _, h => by
    unfold spansX
    rw [if_pos (by simpa using h)]
    rfl
  | s :: ss, k + 1, hk, hz, h => by
    unfold spansX
    rw [if_neg (by have := hz 0 (by omega); simpa using this)]
    exact spansX_first ss k (by simpa using hk) (fun j hj => by simpa using hz (j + 1) (by omega)) (by simpa using h)
theorem spansX_zero : ∀ (ss : List Sp), (∀ j, j < ss.length → spanX (ss[j]?.getD ⟨0, 0⟩) = 0) → spansX ss = 0
  | [], _ => rfl
  | s :: ss, h => by
    unfold spansX
    rw [if_neg (by have := h 0 (by simp); simpa using this)]
    exact spansX_zero ss (fun j hj => by simpa using h (j + 1) (by simpa using hj))
theorem spansX_all : ∀ (ss : List Sp), spansX ss = 0 → ∀ s ∈ ss, spanX s = 0
  | [], _, s, hs => by simp at hs
  | t :: ss, h, s, hs => by
    unfold spansX at h
    split at h
    · omega
    · rename_i h0
      rcases List.mem_cons.1 hs with rfl | hs
      · omega
      · exact spansX_all ss h s hs
set_option maxRecDepth 100000 in
set_option maxHeartbeats 4000000 in
theorem can_bad (l : Ln) (a2 : Option Addr) (n2 c2 : Nat) (ss : List Sp) (w : World) (l2 : ss.length = n2) (b2 : n2 ≤ 9223372036854775807) (i2 : SpansAt w a2 ss) (hx : canX l ss ≠ 0) :
    Calls Tryz.prog 24 #[.agg #[.int .i64 l.words, .int .i64 l.bits, .int .i64 l.period, .int .i64 l.delay, .int .i64 l.slope, .int .i64 l.window], .slice a2 n2 c2] w (CanRes (canE l ss) w) := by
  have hE : canE l ss = ([], false, canX l ss) := by unfold canE; rw [if_neg hx]
  rw [hE]
  have hck := fun W => check_anyL l W
  cases ho : okL l with
  | false =>
    have e1 : canX l ss = 7 := by unfold canX; rw [if_pos ho]
    rw [e1]
    rw [checkL_no ho] at hck
    clear hE hx e1 ho i2
    go_enter Tryz.func24, Tryz.ntmps24
    go_wp2_with fail
    refine (hck _).mono ?_
    rintro e w1 ⟨rfl, E1⟩
    have z0 := box_at2 (v := .slice none 0 0) E1 0 rfl
    have z1 := box_at2 (v := .bool false) E1 1 rfl
    have f0 := box_free2 E1 0
    have f1 := box_free2 E1 1
    go_wp2
    refine bodyPost_ret (v := .tuple #[.agg #[.slice none 0 0, .bool false], .int .i64 7]) (by simp [results, Tryz.results24, go_sem, z0, z1, f0, f1]) rfl (can_err ?_)
    exact (E1.old.old.setCell (p := ⟨w.heap.size + 1, 0, none⟩) (Nat.le_succ _) _).setCell (p := ⟨w.heap.size + 1, 1, none⟩) (Nat.le_succ _) _
  | true =>
    rw [checkL_of ho] at hck
    have hok := okL_ok ho
    by_cases h60 : 60 < n2
    · have e1 : canX l ss = 3 := by unfold canX; rw [ho, if_neg (by simp), if_pos (by omega)]
      rw [e1]
      clear hE hx e1 ho i2
      go_enter Tryz.func24, Tryz.ntmps24
      go_wp2_with fail
      refine (hck _).mono ?_
      rintro e w1 ⟨rfl, E1⟩
      have z0 := box_at2 (v := .slice none 0 0) E1 0 rfl
      have z1 := box_at2 (v := .bool false) E1 1 rfl
      have f0 := box_free2 E1 0
      have f1 := box_free2 E1 1
      go_wp2
      refine bodyPost_ret (v := .tuple #[.agg #[.slice none 0 0, .bool false], .int .i64 3]) (by simp [results, Tryz.results24, go_sem, z0, z1, f0, f1]) rfl (can_err ?_)
      exact (E1.old.old.setCell (p := ⟨w.heap.size + 1, 0, none⟩) (Nat.le_succ _) _).setCell (p := ⟨w.heap.size + 1, 1, none⟩) (Nat.le_succ _) _
    · have e1 : canX l ss = spansX ss := by unfold canX; rw [ho, if_neg (by simp), if_neg (by omega)]
      rw [e1] at hx ⊢
      clear hE e1 ho
      rcases i2 with rfl | ⟨b, off, rfl, hb, hc⟩
      · exact absurd rfl hx
      have HC := Lib.hid hc
      have HX := Lib.hid hx
      have HL := Lib.hid l2
      clear hc hx l2
      go_enter Tryz.func24, Tryz.ntmps24
      go_wp2_with fail
      refine (hck _).mono ?_
      rintro e w1 ⟨rfl, E1⟩
      have HE1 := Lib.hid E1
      have E1o : Ext w w1 := E1.old.old
      clear E1 hck
      go_wp2
      go_loopw [32] (fun s32 wr => ∃ k : Nat, k ≤ n2 ∧ s32 = .int .i64 k ∧ Ext w1 wr ∧ Aside (∀ j, j < k → spanX (ss[j]?.getD ⟨0, 0⟩) = 0)) (fun s32 _ => n2 - (intOf s32).toNat)
      case atStart => exact ⟨0, Nat.zero_le _, rfl, Ext.refl _, fun j hj => absurd hj (Nat.not_lt_zero _)⟩
      case round =>
        obtain ⟨k, hk, rfl, E, HA⟩ := hrel
        by_cases hlt : k < n2
        · have hltz : (k : Int) < (n2 : Int) := by omega
          have EE := E1o.comp E
          have hcc := HC.out k (by rw [HL.out]; exact hlt)
          have x0 := (EE.cell (p := ⟨b, off + k * 2, none⟩) hb).trans hcc.1
          have x1 := (EE.cell (p := ⟨b, off + k * 2 + 1, none⟩) hb).trans hcc.2
          clear hcc
          obtain ⟨s, hs⟩ : ∃ s, ss[k]?.getD ⟨0, 0⟩ = s := ⟨_, rfl⟩
          rw [hs] at x0 x1
          have hod := fun W => odd_any1 s.lo s.hi W
          rw [show (⟨s.lo, s.hi⟩ : Sp) = s from rfl] at hod
          have HS := Lib.hid hs
          clear hs
          go_wp2_with fail
          refine (hod _).mono ?_
          rintro e w2 ⟨rfl, E2⟩
          have EB := HE1.out.comp (E.comp E2.old)
          have z0 := box_at2 (v := .slice none 0 0) EB 0 rfl
          have z1 := box_at2 (v := .bool false) EB 1 rfl
          have f0 := box_free2 EB 0
          have f1 := box_free2 EB 1
          by_cases hs0 : spanX s = 0
          · rw [hs0]
            have hA2 : Aside (∀ j, j < k + 1 → spanX (ss[j]?.getD ⟨0, 0⟩) = 0) := (show Aside _ from fun j hj => by
              by_cases e : j = k
              · rw [e, HS.out]; exact hs0
              · exact HA.out j (by omega))
            have E3 : Ext w1 w2 := E.comp E2.old
            clear hs0 HA
            go_wp2
            go_roundw
            case rel => exact ⟨k + 1, by omega, by go_num, E3, hA2⟩
            case measure => simp [intOf]; omega
          · have e1 : spansX ss = spanX s := by
              rw [← HS.out]
              exact spansX_first ss k (by rw [HL.out]; exact hlt) HA.out (by rw [HS.out]; exact hs0)
            obtain ⟨x, hx⟩ : ∃ x, spanX s = x := ⟨_, rfl⟩
            rw [hx] at hs0 e1
            rw [hx]
            have HE := Lib.hid e1
            clear hx
            have hxb : (x != 0) = true := by simpa using hs0
            have E3 : Ext w w2 := E1o.comp (E.comp E2.old)
            clear hs0 HA e1
            go_wp2
            refine bodyPost_ret (v := .tuple #[.agg #[.slice none 0 0, .bool false], .int .i64 x]) (by simp [results, Tryz.results24, go_sem, z0, z1, f0, f1]) rfl ?_
            rw [HE.out]
            refine can_err ?_
            exact (E3.setCell (p := ⟨w.heap.size + 1, 0, none⟩) (Nat.le_succ _) _).setCell (p := ⟨w.heap.size + 1, 1, none⟩) (Nat.le_succ _) _
        · exfalso
          obtain rfl : k = n2 := by omega
          exact HX.out (spansX_zero ss fun j hj => HA.out j (by rw [← HL.out]; exact hj))
end Go.Proofs.YtbcciokmlkofkaaGreat
