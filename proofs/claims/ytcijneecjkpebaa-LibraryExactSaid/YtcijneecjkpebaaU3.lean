import Derived.Test.YtcijneecjkpebaaRows
import Derived.Deep.RegionHeld3
import Derived.Deep.DeepCutAuto
import Derived.Outline
import Derived.Laws.IdiomStrings
import Derived.Deep.LoopGhost
import Derived.Laws.Strings
import Derived.Lib.SmallJoins
import Derived.Deep.RegionLaw
import Derived.RangeFuncNested
import Derived.RangeFuncBound
import Derived.RangeFuncCalls
import Derived.RangeFuncLeaves
import Derived.Shelf.Abstract
import Derived.Shelf.RegionOpen
import Derived.OwnWalkIn
import Derived.TacticsInMore
import Derived.LoopNIn
import Derived.LoopIn
import Derived.Laws.CopyOwn
import Derived.Deep.QuietTactic
import Derived.BigQuiet
import Derived.Laws.EntriesVeiled
import Derived.Test.YtcijneecjkpebaaU2
set_option linter.unusedVariables false
set_option linter.unusedSimpArgs false
/- Layer 1 in plain Lean: by how many beats words can be late (Can); the states of an oven. -/
namespace Go.Q
/-- the temperatures of a span -/
def tempsS (s : Sp) : List Int := fstN (fun i => s.lo + (i : Int)) (s.hi - s.lo + 1).toNat
theorem mem_tempsS {s : Sp} {t : Int} : t ∈ tempsS s ↔ s.lo ≤ t ∧ t ≤ s.hi := by
  unfold tempsS fstN
  rw [List.mem_map]
  constructor
  · rintro ⟨i, hi, rfl⟩
    rw [List.mem_range] at hi
    omega
  · rintro ⟨h1, h2⟩
    exact ⟨(t - s.lo).toNat, by rw [List.mem_range]; omega, by omega⟩
/-- pulses can be b beats late after a round at a temperature of the span -/
def oneC (l : Ln) (s : Sp) (b : Int) : Bool := (tempsS s).any fun t => !lostL l t && (turnL l (byL l t) == b)
def lostC (l : Ln) (s : Sp) : Bool := (tempsS s).any fun t => lostL l t
def beatsN (l : Ln) : List Int := fstN (fun i => (i : Int)) (beatsL l).toNat
def nextC (l : Ln) (s : Sp) (can : Int → Bool) (x : Int) : Bool := (beatsN l).any fun n => can n && (beatsN l).any fun b => oneC l s b && (turnL l (n + b) == x)
def canC (l : Ln) (ss : List Sp) : Int → Bool := ss.foldl (fun can s => nextC l s can) (fun n => n == 0)
theorem canC_snoc (l : Ln) (ss : List Sp) (s : Sp) : canC l (ss ++ [s]) = nextC l s (canC l ss) := by simp [canC]
def shiftsC (l : Ln) (ss : List Sp) : List Int := (beatsN l).filter (canC l ss)
/-- the error of spans -/
def spansX (ss : List Sp) : Int := match ss with
  | [] => 0
  | s :: ss => if spanX s ≠ 0 then spanX s else spansX ss
def canX (l : Ln) (ss : List Sp) : Int := if okL l = false then 7 else if 60 < ss.length then 3 else spansX ss
/-- what Can returns -/
def canE (l : Ln) (ss : List Sp) : List Int × Bool × Int := if canX l ss = 0 then (shiftsC l ss, ss.any (lostC l), 0) else ([], false, canX l ss)
theorem mem_beatsN {l : Ln} {n : Int} : n ∈ beatsN l ↔ 0 ≤ n ∧ n < beatsL l := by
  unfold beatsN fstN
  rw [List.mem_map]
  constructor
  · rintro ⟨i, hi, rfl⟩
    rw [List.mem_range] at hi
    omega
  · rintro ⟨h1, h2⟩
    exact ⟨n.toNat, by rw [List.mem_range]; omega, by omega⟩
theorem OkL.turn {l : Ln} (h : OkL l) (n : Int) : 0 ≤ turnL l n ∧ turnL l n < beatsL l := by
  have := h.beats
  unfold turnL
  exact ⟨Int.emod_nonneg _ (by omega), Int.emod_lt_of_pos _ (by omega)⟩
theorem canC_in {l : Ln} (h : OkL l) {ss : List Sp} {x : Int} (hx : canC l ss x = true) : 0 ≤ x ∧ x < beatsL l := by
  have hb := h.beats
  rcases List.eq_nil_or_concat ss with rfl | ⟨ss', s, rfl⟩
  · have : x = 0 := by simpa [canC] using hx
    omega
  · rw [List.concat_eq_append, canC_snoc] at hx
    unfold nextC at hx
    obtain ⟨n, _, hn⟩ := List.any_eq_true.1 hx
    rw [Bool.and_eq_true] at hn
    obtain ⟨b, _, hb2⟩ := List.any_eq_true.1 hn.2
    rw [Bool.and_eq_true] at hb2
    have : turnL l (n + b) = x := by simpa using hb2.2
    rw [← this]
    exact h.turn _
theorem oneC_in {l : Ln} (h : OkL l) {s : Sp} {x : Int} (hx : oneC l s x = true) : 0 ≤ x ∧ x < beatsL l := by
  obtain ⟨t, _, ht⟩ := List.any_eq_true.1 hx
  rw [Bool.and_eq_true] at ht
  have : turnL l (byL l t) = x := by simpa using ht.2
  rw [← this]
  exact h.turn _
/-- an oven heats in a minute -/
def heatsO (o : Ov) (t : Int) (h : Bool) : Bool := decide (t < o.low) || (decide (t ≤ o.high) && h)
/-- the states after a minute from a state on -/
def afterO (o : Ov) (s : Int × Bool) : List (Int × Bool) :=
  if heatsO o s.1 s.2 = true then (tempsS o.warm).map fun n => (s.1 + n, true) else (tempsS o.cool).map fun n => (s.1 - n, false)
def statesO (o : Ov) (temp : Sp) (heats : Bool) : Nat → List (Int × Bool)
  | 0 => (tempsS temp).map fun t => (t, heats)
  | m + 1 => (statesO o temp heats m).flatMap (afterO o)
/-- the span of temperatures up to a minute -/
def loO (o : Ov) (temp : Sp) (heats : Bool) : Nat → Int
  | 0 => temp.lo
  | m + 1 => (statesO o temp heats (m + 1)).foldl (fun a s => min a s.1) (loO o temp heats m)
def hiO (o : Ov) (temp : Sp) (heats : Bool) : Nat → Int
  | 0 => temp.hi
  | m + 1 => (statesO o temp heats (m + 1)).foldl (fun a s => max a s.1) (hiO o temp heats m)
def warmB (n : Int) : Bool := inB n 0 100
/-- the error of an oven, of temperatures and of minutes -/
def ovenX (o : Ov) (temp : Sp) (minutes : Int) : Int :=
  if tempB o.low = false ∨ tempB o.high = false ∨ warmB o.warm.lo = false ∨ warmB o.warm.hi = false ∨ warmB o.cool.lo = false ∨ warmB o.cool.hi = false then 7
  else if o.high < o.low ∨ o.warm.hi < o.warm.lo ∨ o.cool.hi < o.cool.lo then 2
  else if spanX temp ≠ 0 then spanX temp else if inB minutes 0 200 = false then 7 else 0
/-- what Oven returns -/
def ovenE (o : Ov) (temp : Sp) (heats : Bool) (minutes : Int) : Sp × Int :=
  if ovenX o temp minutes = 0 then (⟨loO o temp heats minutes.toNat, hiO o temp heats minutes.toNat⟩, 0) else (⟨0, 0⟩, ovenX o temp minutes)
/-- an oven that is valid -/
structure OkO (o : Ov) : Prop where
  low : -500 ≤ o.low ∧ o.low ≤ 1000
  high : -500 ≤ o.high ∧ o.high ≤ 1000
  lh : o.low ≤ o.high
  w0 : 0 ≤ o.warm.lo ∧ o.warm.lo ≤ o.warm.hi ∧ o.warm.hi ≤ 100
  c0 : 0 ≤ o.cool.lo ∧ o.cool.lo ≤ o.cool.hi ∧ o.cool.hi ≤ 100
theorem statesO_bd {o : Ov} (h : OkO o) {temp : Sp} (ht : -500 ≤ temp.lo ∧ temp.hi ≤ 1000) {heats : Bool} : ∀ m, ∀ s ∈ statesO o temp heats m, -600 ≤ s.1 ∧ s.1 ≤ 1100
  | 0, s, hs => by
    obtain ⟨t, h1, rfl⟩ := List.mem_map.1 hs
    rw [mem_tempsS] at h1
    dsimp only
    omega
  | m + 1, s, hs => by
    obtain ⟨s', h1, h2⟩ := List.mem_flatMap.1 hs
    have ih := statesO_bd h ht m s' h1
    unfold afterO at h2
    have h3 := h.low; have h4 := h.high; have h5 := h.w0; have h6 := h.c0; have h7 := h.lh
    split at h2
    · rename_i hh
      obtain ⟨n, h8, rfl⟩ := List.mem_map.1 h2
      rw [mem_tempsS] at h8
      unfold heatsO at hh
      simp only [Bool.or_eq_true, Bool.and_eq_true, decide_eq_true_eq] at hh
      dsimp only
      omega
    · rename_i hh
      obtain ⟨n, h8, rfl⟩ := List.mem_map.1 h2
      rw [mem_tempsS] at h8
      unfold heatsO at hh
      simp only [Bool.or_eq_true, Bool.and_eq_true, decide_eq_true_eq] at hh
      dsimp only
      omega
end Go.Q
/- Contracts of layer 1: out, strange, Check, beats, shift, turn, safe, Shift. -/
namespace Go.Proofs.Ytcijneecjkpebaa
open Go.RowKit Go.Q
set_option maxHeartbeats 400000 in
theorem lout_any (n l h : Int) (w : World) :
    Calls Try.prog 118 #[.int .i64 n, .int .i64 l, .int .i64 h] w fun e w' => e = .returned (.bool (!inB n l h)) ∧ w = w' := by
  by_cases h1 : n < l
  · go_enter Try.func118, Try.ntmps118
    go_wp2
    go_ret
    exact ⟨ret_bool (by unfold inB; rw [decide_eq_false (by omega : ¬ l ≤ n)]; rfl), rfl⟩
  · go_enter Try.func118, Try.ntmps118
    go_wp2
    go_ret
    exact ⟨ret_bool (by
      unfold inB
      rw [decide_eq_true (by omega : l ≤ n), Bool.true_and, ← decide_not]
      exact decide_eq_decide.2 (by omega)), rfl⟩
theorem inB_half {p : Int} (h : inB p 2 100000 = true) : 0 ≤ p - 1 ∧ 2 ≤ p ∧ p ≤ 100000 := by have := inB_bd h; omega
theorem six_later {w W W' : World} {b : Nat} {v0 v1 v2 v3 v4 v5 : Value} (h : Ext w W ∧ W.cell? ⟨b, 0, none⟩ = some v0 ∧ W.cell? ⟨b, 1, none⟩ = some v1 ∧ W.cell? ⟨b, 2, none⟩ = some v2 ∧ W.cell? ⟨b, 3, none⟩ = some v3 ∧ W.cell? ⟨b, 4, none⟩ = some v4 ∧ W.cell? ⟨b, 5, none⟩ = some v5) (e : Ext W W') :
    Ext w W' ∧ W'.cell? ⟨b, 0, none⟩ = some v0 ∧ W'.cell? ⟨b, 1, none⟩ = some v1 ∧ W'.cell? ⟨b, 2, none⟩ = some v2 ∧ W'.cell? ⟨b, 3, none⟩ = some v3 ∧ W'.cell? ⟨b, 4, none⟩ = some v4 ∧ W'.cell? ⟨b, 5, none⟩ = some v5 :=
  ⟨Ext.comp h.1 e, cell_later e h.2.1, cell_later e h.2.2.1, cell_later e h.2.2.2.1, cell_later e h.2.2.2.2.1, cell_later e h.2.2.2.2.2.1, cell_later e h.2.2.2.2.2.2⟩
theorem six_new {w : World} {v0 v1 v2 v3 v4 v5 : Value} {T : TypeId} : Ext w (w.alloc (.cells #[v0, v1, v2, v3, v4, v5] T)) ∧ (w.alloc (.cells #[v0, v1, v2, v3, v4, v5] T)).cell? ⟨w.heap.size, 0, none⟩ = some v0 ∧ (w.alloc (.cells #[v0, v1, v2, v3, v4, v5] T)).cell? ⟨w.heap.size, 1, none⟩ = some v1 ∧ (w.alloc (.cells #[v0, v1, v2, v3, v4, v5] T)).cell? ⟨w.heap.size, 2, none⟩ = some v2 ∧ (w.alloc (.cells #[v0, v1, v2, v3, v4, v5] T)).cell? ⟨w.heap.size, 3, none⟩ = some v3 ∧ (w.alloc (.cells #[v0, v1, v2, v3, v4, v5] T)).cell? ⟨w.heap.size, 4, none⟩ = some v4 ∧ (w.alloc (.cells #[v0, v1, v2, v3, v4, v5] T)).cell? ⟨w.heap.size, 5, none⟩ = some v5 :=
  ⟨(Ext.refl w).alloc _, box_at (Ext.refl _) 0 rfl, box_at (Ext.refl _) 1 rfl, box_at (Ext.refl _) 2 rfl, box_at (Ext.refl _) 3 rfl, box_at (Ext.refl _) 4 rfl, box_at (Ext.refl _) 5 rfl⟩
end Go.Proofs.Ytcijneecjkpebaa
/- Contract of layer 1: Name. -/
namespace Go.Proofs.Ytcijneecjkpebaa
open Go.RowKit Go.Q
theorem name_all {s : List Int} (h1 : inB s.length 1 20 = true) (h2 : ((s[s.length - 1]?.getD 0) == 95) = false) (h3 : ∀ i, i < s.length → nameC i (s[i]?.getD 0) = true) : nameB s = true := by
  unfold nameB
  rw [h1, h2, Bool.not_false, Bool.true_and, Bool.true_and, List.all_eq_true]
  intro i hi
  exact h3 i (List.mem_range.1 hi)
theorem name_no {s : List Int} {i : Nat} (hi : i < s.length) (h : nameC i (s[i]?.getD 0) = false) : nameB s = false := by
  unfold nameB
  have : ((List.range s.length).all fun i => nameC i (s[i]?.getD 0)) = false := by
    rw [List.all_eq_false]
    exact ⟨i, List.mem_range.2 hi, by rw [h]; simp⟩
  rw [this, Bool.and_false]
set_option maxHeartbeats 4000000 in
theorem name_any (s : ByteArray) (w : World) (hs : s.size ≤ 9223372036854775807) :
    Calls Try.prog 91 #[.string s] w fun e w' => e = .returned (.bool (nameB (bytesS s))) ∧ Ext w w' := by
  have ho := fun W => lout_any (s.size : Int) 1 20 W
  cases h1 : inB (s.size : Int) 1 20 with
  | false =>
    have e1 : nameB (bytesS s) = false := by unfold nameB; rw [bytesS_length, h1]; rfl
    rw [h1] at ho
    rw [e1]
    clear e1 h1
    go_enter Try.func91, Try.ntmps91
    go_wp2_with fail
    refine (ho _).mono ?_
    rintro e w1 ⟨rfl, rfl⟩
    go_wp2
    go_ret
    exact ⟨rfl, Ext.refl _⟩
  | true =>
    rw [h1] at ho
    have hb := inB_bd h1
    have hl0 : s.size - 1 < s.size := by omega
    have hlast := bytesS_get s (s.size - 1) hl0
    cases h2 : ((bytesS s)[s.size - 1]?.getD 0 == 95) with
    | true =>
      have e1 : nameB (bytesS s) = false := by unfold nameB; rw [bytesS_length, h2]; simp
      rw [e1]
      have h3 : ((s[s.size - 1].toNat : Int) == 95) = true := by rw [← hlast]; exact h2
      have HL := Lib.hid hlast
      have HB := Lib.hid hb
      clear e1 h1 h2 hlast
      go_enter Try.func91, Try.ntmps91
      go_wp2_with fail
      refine (ho _).mono ?_
      rintro e w1 ⟨rfl, rfl⟩
      go_wp2
      go_ret
      exact ⟨rfl, Ext.refl _⟩
    | false =>
      have h3 : ((s[s.size - 1].toNat : Int) == 95) = false := by rw [← hlast]; exact h2
      have H1 := Lib.hid h1
      have H2 := Lib.hid h2
      have HB := Lib.hid hb
      clear h1 h2 hlast
      have kc := fun W => run_bytes_of_string (P := Try.prog) W 9 69 5 s Try.underlying9 Try.underlying69 Try.underlying5
      go_enter Try.func91, Try.ntmps91
      go_wp2_with fail
      refine (ho _).mono ?_
      rintro e w1 ⟨rfl, rfl⟩
      go_wp2
      have hcells : ∀ i, i < s.size → ((w.alloc (.cells (bytesRow s (grownCap w s.size 0 5)) 5 ((bytesRow s (grownCap w s.size 0 5)).size, (bytesRow s (grownCap w s.size 0 5)).size + 1))).drew).cell? ⟨w.heap.size, i, none⟩ = some (.int .u8 ((bytesS s)[i]?.getD 0)) := by
        intro i hi
        rw [World.cell?_drew, bytesS_get s i hi]
        have hc : (bytesRow s (grownCap w s.size 0 5))[i]? = some (.int .u8 (s[i].toNat : Int)) := by
          unfold bytesRow
          rw [Array.getElem?_append_left (by simpa using hi)]
          simp [hi]
          rfl
        have e : (w.alloc (.cells (bytesRow s (grownCap w s.size 0 5)) 5 ((bytesRow s (grownCap w s.size 0 5)).size, (bytesRow s (grownCap w s.size 0 5)).size + 1))).heap[w.heap.size]? = some (.cells (bytesRow s (grownCap w s.size 0 5)) 5 ((bytesRow s (grownCap w s.size 0 5)).size, (bytesRow s (grownCap w s.size 0 5)).size + 1)) := heap_alloc_new w _
        simp only [World.cell?, e]
        simpa using hc
      have hE : Ext w ((w.alloc (.cells (bytesRow s (grownCap w s.size 0 5)) 5 ((bytesRow s (grownCap w s.size 0 5)).size, (bytesRow s (grownCap w s.size 0 5)).size + 1))).drew) := ((Ext.refl w).alloc _).drew
      generalize World.drew _ = W at hcells hE ⊢
      have HC := Lib.hid hcells
      clear hcells kc
      go_loop [19] (fun s19 => ∃ k : Nat, k ≤ s.size ∧ s19 = .int .i64 k ∧ Aside (∀ i, i < k → nameC i ((bytesS s)[i]?.getD 0) = true)) (fun s19 => s.size - (intOf s19).toNat)
      case atStart => exact ⟨0, Nat.zero_le _, rfl, fun i hi => absurd hi (Nat.not_lt_zero _)⟩
      case round =>
        obtain ⟨k, hk, rfl, HA⟩ := hrel
        by_cases hlt : k < s.size
        · have hltz : (k : Int) < (s.size : Int) := by omega
          have hcx := HC.out k hlt
          have hyes : nameC k ((bytesS s)[k]?.getD 0) = true → ∃ u : Nat, u ≤ s.size ∧ Value.int .i64 ((k : Int) + 1) = .int .i64 u ∧ Aside (∀ i, i < u → nameC i ((bytesS s)[i]?.getD 0) = true) := by
            intro h
            refine ⟨k + 1, by omega, by go_num, (show Aside _ from fun i hi => ?_)⟩
            by_cases e : i = k
            · rw [e]; exact h
            · exact HA.out i (by omega)
          have hno : nameC k ((bytesS s)[k]?.getD 0) = false → nameB (bytesS s) = false := name_no (by rw [bytesS_length]; exact hlt)
          have HY := Lib.hid hyes
          have HN := Lib.hid hno
          clear hyes hno
          obtain ⟨c, hc⟩ : ∃ c, (bytesS s)[k]?.getD 0 = c := ⟨_, rfl⟩
          rw [hc] at hcx HY HN
          clear hc
          by_cases h97 : 97 ≤ c ∧ c ≤ 122
          · obtain ⟨h97a, h97b⟩ := h97
            go_wp2
            go_round
            case rel => exact HY.out (by unfold nameC; simp [h97a, h97b])
            case measure => simp [intOf]; omega
          · by_cases hk0 : 0 < k
            · have hk0z : (0 : Int) < (k : Int) := by omega
              cases h95 : (c == 95) with
              | true =>
                have e95 : c = 95 := by simpa using h95
                subst e95
                clear h95
                go_wp2
                go_round
                case rel => exact HY.out (by unfold nameC; simp [hk0])
                case measure => simp [intOf]; omega
              | false =>
                by_cases h48 : 48 ≤ c ∧ c ≤ 57
                · obtain ⟨h48a, h48b⟩ := h48
                  have : ¬ 97 ≤ c := by omega
                  go_wp2
                  go_round
                  case rel => exact HY.out (by unfold nameC; simp [hk0, h48a, h48b])
                  case measure => simp [intOf]; omega
                · have hn : nameC k c = false := by
                    unfold nameC
                    rw [h95]
                    simp
                    omega
                  have HNN := Lib.hid (HN.out hn)
                  clear hn HN HY
                  by_cases a97 : 97 ≤ c
                  · have b122 : ¬ c ≤ 122 := by omega
                    have a48 : 48 ≤ c := by omega
                    have b57 : ¬ c ≤ 57 := by omega
                    go_wp2
                    go_ret
                    exact ⟨by rw [HNN.out]; rfl, hE⟩
                  · by_cases a48 : 48 ≤ c
                    · have b57 : ¬ c ≤ 57 := by omega
                      go_wp2
                      go_ret
                      exact ⟨by rw [HNN.out]; rfl, hE⟩
                    · go_wp2
                      go_ret
                      exact ⟨by rw [HNN.out]; rfl, hE⟩
            · have hk0z : ¬ (0 : Int) < (k : Int) := by omega
              have hn : nameC k c = false := by
                unfold nameC
                simp [hk0]
                omega
              have HNN := Lib.hid (HN.out hn)
              clear hn HN HY
              by_cases a97 : 97 ≤ c
              · have b122 : ¬ c ≤ 122 := by omega
                go_wp2
                go_ret
                exact ⟨by rw [HNN.out]; rfl, hE⟩
              · go_wp2
                go_ret
                exact ⟨by rw [HNN.out]; rfl, hE⟩
        · have hltz : ¬ (k : Int) < (s.size : Int) := by omega
          have e := Lib.hid (name_all (s := bytesS s) (by rw [bytesS_length]; exact H1.out) (by rw [bytesS_length]; exact H2.out) (fun i hi => HA.out i (by rw [bytesS_length] at hi; omega)))
          go_wp2
          go_ret
          exact ⟨by rw [e.out]; rfl, hE⟩
end Go.Proofs.Ytcijneecjkpebaa
/- Layer 8 (library) in plain Lean: catalogues, patches, differences. -/
namespace Go.Q
/-- a routine -/
structure Rt where
  words : List Int
  masks : List Int
  entry : Int
  exit : Int
  result : Int
  args : List Int
/-- an entry of a catalogue -/
structure En where
  name : ByteArray
  ver : Int
  code : Rt
structure Pt where
  name : ByteArray
  ver : Int
  at_ : Int
  old : Int
  new : Int
  oldM : Int
  newM : Int
def Rt.w (c : Rt) (i : Nat) : Int := c.words[i]?.getD 0
def Rt.m (c : Rt) (i : Nat) : Int := c.masks[i]?.getD 0
def maskB (n : Int) : Bool := inB n 0 7
/-- the error of a routine -/
def checkR (c : Rt) : Int :=
  if inB c.words.length 1 40 = false ∨ c.masks.length ≠ c.words.length ∨ inB c.args.length 1 2 = false then 3
  else if c.words.all wordB = false ∨ c.masks.all maskB = false then 7
  else if ([c.entry, c.exit, c.result] ++ c.args).all (fun p => inB p 0 ((c.words.length : Int) - 1)) = false then 4
  else 0
def hasN (cat : List En) (n : ByteArray) : Bool := cat.any fun x => decide (x.name = n)
/-- the index of the entry with a name -/
def findN (cat : List En) (n : ByteArray) : Option Nat := cat.findIdx? fun x => decide (x.name = n)
/-- the error of what is left of a catalogue, pre being ahead of it -/
def soundN (pre : List En) : List En → Int
  | [] => 0
  | x :: r =>
    if nameB (bytesS x.name) = false then 6
    else if hasN pre x.name = true then 5
    else if inB x.ver 1 1000 = false then 7
    else if checkR x.code ≠ 0 then checkR x.code
    else soundN (pre ++ [x]) r
def soundE (cat : List En) : Int := if 6 < cat.length then 3 else soundN [] cat
/-- a patch is made, or why it does not fit -/
def En.patch (x : En) (p : Pt) : En := { x with ver := x.ver + 1, code := { x.code with words := x.code.words.set p.at_.toNat p.new, masks := x.code.masks.set p.at_.toNat p.newM } }
def fitE (cat : List En) (p : Pt) : Int :=
  match findN cat p.name with
  | none => 4
  | some k =>
    match cat[k]? with
    | none => 4
    | some x =>
      if inB p.at_ 0 ((x.code.words.length : Int) - 1) = false then 4
      else if x.ver ≠ p.ver then 181
      else if x.code.w p.at_.toNat ≠ p.old ∨ x.code.m p.at_.toNat ≠ p.oldM then 180
      else if wordB p.new = false ∨ maskB p.newM = false ∨ x.ver = 1000 then 7
      else 0
def putE (cat : List En) (p : Pt) : List En :=
  match findN cat p.name with
  | none => cat
  | some k => match cat[k]? with | none => cat | some x => cat.set k (x.patch p)
/-- patches from index i on: the catalogue, or the patch that does not fit and why -/
def patchN (i : Nat) (cat : List En) : List Pt → List En × Int × Int
  | [] => (cat, 0, 0)
  | p :: r => if fitE cat p = 0 then patchN (i + 1) (putE cat p) r else ([], (i : Int), fitE cat p)
def patchE (cat : List En) (l : List Pt) : List En × Int × Int :=
  if soundE cat ≠ 0 then ([], 0, soundE cat) else if 20 < l.length then ([], 0, 3) else patchN 0 cat l
/-- the patches from one entry to another one, f words from index k on, and the version behind them -/
def difK (n : ByteArray) (a b : Rt) : Nat → Nat → Int → List Pt × Int
  | 0, _, v => ([], v)
  | f + 1, k, v =>
    if a.w k = b.w k ∧ a.m k = b.m k then difK n a b f (k + 1) v
    else (⟨n, v, (k : Int), a.w k, b.w k, a.m k, b.m k⟩ :: (difK n a b f (k + 1) (v + 1)).1, (difK n a b f (k + 1) (v + 1)).2)
def difE (a b : En) : List Pt × Int := difK a.name a.code b.code a.code.words.length 0 a.ver
def alikeB (a b : En) : Bool := decide (a.name = b.name) && a.code.words.length == b.code.words.length && a.code.entry == b.code.entry && a.code.exit == b.code.exit && a.code.result == b.code.result && a.code.args == b.code.args
def alikeL : List En → List En → Bool
  | [], [] => true
  | a :: r, b :: s => alikeB a b && alikeL r s
  | _, _ => false
def difL : List En → List En → List Pt
  | a :: r, b :: s => (difE a b).1 ++ difL r s
  | _, _ => []
def difV : List En → List En → Bool
  | a :: r, b :: s => decide ((difE a b).2 = b.ver) && difV r s
  | _, _ => true
/-- what Diff returns -/
def diffE (old new : List En) : List Pt × Int :=
  if soundE old ≠ 0 then ([], soundE old) else if soundE new ≠ 0 then ([], soundE new) else if alikeL old new = false then ([], 2)
  else if 20 < (difL old new).length then ([], 3) else if difV old new = false then ([], 181) else (difL old new, 0)
/-- catalogues that hold the same -/
theorem En.same {a b : En} (h1 : a.name = b.name) (h2 : a.ver = b.ver) (h3 : a.code = b.code) : a = b := by cases a; cases b; simp_all
/-- what is sound is so entry by entry -/
structure Good (x : En) : Prop where
  name : nameB (bytesS x.name) = true
  ver : 1 ≤ x.ver ∧ x.ver ≤ 1000
  code : checkR x.code = 0
theorem sound_good : ∀ {cat pre : List En}, soundN pre cat = 0 → (∀ x ∈ cat, Good x) ∧ (cat.Pairwise fun a b => a.name ≠ b.name) ∧ ∀ x ∈ cat, ∀ y ∈ pre, y.name ≠ x.name
  | [], _, _ => ⟨by simp, .nil, by simp⟩
  | x :: r, pre, h => by
    unfold soundN at h
    split at h
    · omega
    split at h
    · omega
    split at h
    · omega
    split at h
    · rename_i hc; exact absurd h hc
    rename_i h1 h2 h3 h4
    obtain ⟨g1, g2, g3⟩ := sound_good h
    have hx : ∀ y ∈ pre, y.name ≠ x.name := fun y hy e => h2 (by
      unfold hasN
      rw [List.any_eq_true]
      exact ⟨y, hy, by simp [e]⟩)
    refine ⟨fun z hz => ?_, ?_, fun z hz y hy => ?_⟩
    · rw [List.mem_cons] at hz
      rcases hz with rfl | hz
      · exact ⟨by simpa using h1, inB_bd (by simpa using h3), by simpa using h4⟩
      · exact g1 z hz
    · rw [List.pairwise_cons]
      exact ⟨fun z hz => g3 z hz x (by simp), g2⟩
    · rw [List.mem_cons] at hz
      rcases hz with rfl | hz
      · exact hx y hy
      · exact g3 z hz y (by simp [hy])
theorem good_sound : ∀ {cat pre : List En}, (∀ x ∈ cat, Good x) → (cat.Pairwise fun a b => a.name ≠ b.name) → (∀ x ∈ cat, ∀ y ∈ pre, y.name ≠ x.name) → soundN pre cat = 0
  | [], _, _, _, _ => rfl
  | x :: r, pre, h1, h2, h3 => by
    have hx := h1 x (List.mem_cons_self ..)
    rw [List.pairwise_cons] at h2
    unfold soundN
    have hv : inB x.ver 1 1000 = true := by unfold inB; simp; exact hx.ver
    have hn : hasN pre x.name = false := by
      unfold hasN
      rw [List.any_eq_false]
      intro y hy
      simpa using h3 x (List.mem_cons_self ..) y hy
    rw [if_neg (by rw [hx.name]; simp), if_neg (by rw [hn]; simp), if_neg (by rw [hv]; simp), if_neg (by rw [hx.code]; simp)]
    refine good_sound (fun z hz => h1 z (List.mem_cons_of_mem _ hz)) h2.2 (fun z hz y hy => ?_)
    rw [List.mem_append, List.mem_singleton] at hy
    rcases hy with hy | rfl
    · exact h3 z (List.mem_cons_of_mem _ hz) y hy
    · exact h2.1 z hz
end Go.Q
/- Rows of bytes in memory: what a slice of bytes holds, a row owned, a string of bytes (for layers that do not stand on layer 1's texts). -/
namespace Go.Q
open Go.RowKit
def ub (xs : List Int) : List Value := xs.map (Value.int .u8)
def BytesAt (w : World) (a : Option Addr) (xs : List Int) : Prop := xs = [] ∨ ∃ b off, a = some ⟨b, off, none⟩ ∧ b < w.heap.size ∧ ∀ i, i < xs.length → w.cell? ⟨b, off + i, none⟩ = some (.int .u8 (xs[i]?.getD 0))
theorem BytesAt.ext {w w' : World} {a : Option Addr} {xs : List Int} (h : BytesAt w a xs) (E : Ext w w') : BytesAt w' a xs :=
  h.imp id fun ⟨b, off, ha, hb, hc⟩ => ⟨b, off, ha, Nat.lt_of_lt_of_le hb E.size, fun i hi => (E.cell (p := ⟨b, off + i, none⟩) hb).trans (hc i hi)⟩
/-- the string of bytes -/
def strU (xs : List Int) : ByteArray := ⟨(xs.map fun x => UInt8.ofNat x.toNat).toArray⟩
theorem u8_back {x : Int} (h : 0 ≤ x ∧ x ≤ 255) : ((UInt8.ofNat x.toNat).toNat : Int) = x := by
  rw [UInt8.toNat_ofNat']
  omega
theorem map_inj : ∀ {xs ys : List Int}, (∀ x ∈ xs, 0 ≤ x ∧ x ≤ 255) → (∀ x ∈ ys, 0 ≤ x ∧ x ≤ 255) → (xs.map fun x => UInt8.ofNat x.toNat) = (ys.map fun x => UInt8.ofNat x.toNat) → xs = ys
  | [], [], _, _, _ => rfl
  | [], y :: ys, _, _, h => by simp at h
  | x :: xs, [], _, _, h => by simp at h
  | x :: xs, y :: ys, hx, hy, h => by
    rw [List.map_cons, List.map_cons] at h
    obtain ⟨h1, h2⟩ := List.cons.inj h
    have e1 := u8_back (hx x (List.mem_cons_self ..))
    have e2 := u8_back (hy y (List.mem_cons_self ..))
    rw [h1] at e1
    rw [map_inj (fun z hz => hx z (List.mem_cons_of_mem _ hz)) (fun z hz => hy z (List.mem_cons_of_mem _ hz)) h2]
    congr 1
    omega
theorem strU_inj {xs ys : List Int} (hx : ∀ x ∈ xs, 0 ≤ x ∧ x ≤ 255) (hy : ∀ x ∈ ys, 0 ≤ x ∧ x ≤ 255) (h : strU xs = strU ys) : xs = ys := by
  unfold strU at h
  injection h with h1
  exact map_inj hx hy (by simpa using h1)
end Go.Q
namespace Go.Proofs.Ytcijneecjkpebaa
open Go.RowKit Go.Q Go.Joins
theorem own_formU {w : World} {nb t n : Nat} {v : Value} {xs : List Value} (h : w.ownsRow nb t 1 v n xs) : ∃ a c, v = .slice a n c := by
  rcases h.2 with ⟨h1, h2⟩ | ⟨g, cap, cur, h1, _⟩
  · exact ⟨none, 0, by rw [h2]; exact h1⟩
  · exact ⟨_, _, h1⟩
theorem ub_get (xs : List Int) (i : Nat) (h : i < xs.length) : (ub xs)[i]? = some (.int .u8 (xs[i]?.getD 0)) := by
  unfold ub
  rw [List.getElem?_map, List.getElem?_eq_getElem h]; rfl
theorem own_bytes {w : World} {B n c : Nat} {a : Option Addr} {xs : List Int} (h : w.ownsRow B 5 1 (.slice a n c) n (ub xs)) : BytesAt w a xs := by
  rcases h.2 with ⟨h1, h2⟩ | ⟨g, cap, cur, h1, h2, h3, h4, h5, h6, h7⟩
  · left
    have h0 := h.1
    rw [h2] at h0
    simpa [ub] using h0
  · obtain ⟨rfl, -, -⟩ := Value.slice.inj h1
    refine .inr ⟨g, 0, rfl, (Array.getElem?_eq_some_iff.1 h3).1, fun i hi => ?_⟩
    have := World.ownsRow.cells h (g := g) rfl i (.int .u8 (xs[i]?.getD 0)) (ub_get xs i hi)
    refine Eq.trans (congrArg w.cell? ?_) this
    cases i <;> simp [Addr.add]
theorem Try.infoU : (Try.prog.info? 5).map (fun i => (i.zero, i.size, i.bytes)) = some (some (.int .u8 0), 1, 1) := by kernel_rfl
theorem own_cap {w : World} {B t sz n c : Nat} {a : Option Addr} {xs : List Value} (h : w.ownsRow B t sz (.slice a n c) n xs) : n ≤ c ∧ c ≤ 9223372036854775807 := by
  rcases h.2 with ⟨h1, h2⟩ | ⟨g, cap, cur, h1, h2, h3, h4, h5, h6⟩
  · obtain ⟨-, h8, h9⟩ := Value.slice.inj h1
    omega
  · obtain ⟨-, -, rfl⟩ := Value.slice.inj h1
    unfold maxLen at h5
    omega
theorem conv_bytes {W : World} {a : Option Addr} {c : Nat} {xs : List Int} (hI : BytesAt W a xs) (hx : ∀ x ∈ xs, 0 ≤ x ∧ x ≤ 255) : (convert 69 9 (.slice a xs.length c)).run Try.prog W = .ok (.string (strU xs)) W := by
  rcases hI with rfl | ⟨b, off, rfl, hb, hc⟩
  · have := run_convert_bytes_string (P := Try.prog) W 69 9 5 a 0 c Try.underlying69 Try.underlying5 Try.underlying9
    rw [show ([] : List Int).length = 0 from rfl, this]
    cases a with
    | none => simp [Conv.bytesToString, go_sem, strU]; rfl
    | some a => simpa [strU] using (run_convert_bytes_back (P := Try.prog) W 69 9 5 a c [] Try.underlying69 Try.underlying5 Try.underlying9 (fun j hj => by simp at hj)).symm.trans (this) |>.symm
  · have := run_convert_bytes_back (P := Try.prog) W 69 9 5 ⟨b, off, none⟩ c (xs.map fun x => UInt8.ofNat x.toNat) Try.underlying69 Try.underlying5 Try.underlying9 (fun j hj => by
      rw [List.length_map] at hj
      rw [Addr.add_lit, hc j hj, List.getElem_map, List.getElem?_eq_getElem hj, u8_back (hx _ (List.getElem_mem hj))]
      rfl)
    rw [List.length_map] at this
    exact this
set_option maxRecDepth 100000 in
theorem conv_own {W : World} {nb n c : Nat} {a : Option Addr} {xs : List Int} (h : W.ownsRow nb 5 1 (.slice a n c) xs.length (ub xs)) (hx : ∀ x ∈ xs, 0 ≤ x ∧ x ≤ 255) : (convert 69 9 (.slice a n c)).run Try.prog W = .ok (.string (strU xs)) W := by
  obtain ⟨a', c', e⟩ := own_formU h
  injection e with e1 e2 e3
  subst e2
  exact conv_bytes (own_bytes h) hx
theorem toList_inj {x y : ByteArray} (h : x.toList = y.toList) : x = y := by
  rw [ByteArray.toList_eq, ByteArray.toList_eq] at h
  obtain ⟨⟨a⟩⟩ := x
  obtain ⟨⟨b⟩⟩ := y
  have h2 : a = b := h
  rw [h2]
theorem ub_length (xs : List Int) : (ub xs).length = xs.length := by simp [ub]
theorem ub_one (xs : List Int) : ∀ u ∈ ub xs, u.oneCell' = true := by
  intro u hu
  simp only [ub, List.mem_map] at hu
  obtain ⟨x, _, rfl⟩ := hu
  rfl
theorem from_bytes {w : World} {a : Option Addr} {xs : List Int} (h : BytesAt w a xs) : From w a (ub xs) := by
  rcases h with h | ⟨b, off, ha, hb, hc⟩
  · subst h; exact .inl rfl
  · refine .inr ⟨_, ha, fun j u hu => ?_⟩
    have hj : j < xs.length := by
      rcases Nat.lt_or_ge j xs.length with h | h
      · exact h
      · rw [List.getElem?_eq_none (by simpa [ub_length] using h)] at hu; cases hu
    rw [ub_get xs j hj] at hu
    obtain rfl := Option.some.inj hu
    refine Eq.trans (congrArg w.cell? ?_) (hc j hj)
    cases j <;> simp [Addr.add]
end Go.Proofs.Ytcijneecjkpebaa
/- Ranges over functions: an iterator of our own, the invariant by the number of rounds; what stays when some blocks are turned. (From the texts of layer 1, for layers that do not stand on them.) -/
namespace Go.Q
open Go.RowKit Go.Shelf
/-- all blocks but those of M lie unturned -/
structure KpM (M : Nat → Prop) (W W' : World) : Prop where
  size : W.heap.size ≤ W'.heap.size
  block : ∀ b, b < W.heap.size → ¬ M b → W'.heap[b]? = W.heap[b]?
  os : W'.os = W.os
  tape : W'.tape = W.tape
  output : W'.output = W.output
theorem KpM.refl (M : Nat → Prop) (W : World) : KpM M W W := ⟨Nat.le_refl _, fun _ _ _ => rfl, rfl, rfl, rfl⟩
theorem KpM.trans {M : Nat → Prop} {A B C : World} (h : KpM M A B) (k : KpM M B C) : KpM M A C :=
  ⟨Nat.le_trans h.1 k.1, fun b hb hm => (k.2 b (Nat.lt_of_lt_of_le hb h.1) hm).trans (h.2 b hb hm), k.os.trans h.os, k.tape.trans h.tape, k.output.trans h.output⟩
theorem KpM.of_ext {M : Nat → Prop} {A B : World} (h : Ext A B) : KpM M A B := ⟨h.size, fun b hb _ => h.block b hb, h.os, h.tape, h.output⟩
theorem KpM.cell {M : Nat → Prop} {A B : World} (h : KpM M A B) {b o : Nat} (hb : b < A.heap.size) (hm : ¬ M b) : B.cell? ⟨b, o, none⟩ = A.cell? ⟨b, o, none⟩ := World.cell?_of_block (w := A) (h.2 b hb hm)
theorem KpM.mono {M M' : Nat → Prop} {A B : World} (h : KpM M A B) (hm : ∀ b, M b → M' b) : KpM M' A B := ⟨h.1, fun b hb hn => h.2 b hb (fun hx => hn (hm b hx)), h.os, h.tape, h.output⟩
theorem KpM.below {M : Nat → Prop} {n : Nat} {w A B : World} (k : KpM M A B) (h : Below n w A) (hn : n ≤ w.heap.size) (hM : ∀ b, M b → n ≤ b) : Below n w B :=
  ⟨k.os.trans h.os, k.tape.trans h.tape, k.output.trans h.output, Nat.le_trans h.size k.size, fun b hb => (k.block b (Nat.lt_of_lt_of_le (Nat.lt_of_lt_of_le hb hn) h.size) (fun hm => by have := hM b hm; omega)).trans (h.block b hb)⟩
theorem _root_.Go.Q.Ext.below5 {M : Nat → Prop} {w A B : World} (h : Ext w A) (k : KpM M A B) (hM : ∀ b, M b → w.heap.size ≤ b) : Ext w B := k.below h (Nat.le_refl _) hM
theorem KpM.store {A B : World} (h : Ext A B) (b : Nat) (v : Value) : KpM (fun x => x = b) A (B.setCell ⟨b, 0, none⟩ v) := by
  have k := (Below.refl 0 B).setCell (p := ⟨b, 0, none⟩) (Nat.zero_le _) v
  exact ⟨by simpa using h.size, fun x hx hn => (Below.heap_setCell _ _ _ _ hn).trans (h.block x hx), k.os.trans h.os, k.tape.trans h.tape, k.output.trans h.output⟩
theorem blk_cell {w : World} {m : Nat} {cs : Array Value} {t : TypeId} (h : w.heap[m]? = some (.cells cs t (0, 0))) (i : Nat) {v : Value} (hv : cs[i]? = some v) : w.cell? ⟨m, i, none⟩ = some v := by
  simp [World.cell?, h, hv]
theorem blk_free {w : World} {m : Nat} {cs : Array Value} {t : TypeId} (h : w.heap[m]? = some (.cells cs t (0, 0))) (i : Nat) : w.frozen? ⟨m, i, none⟩ = false := by
  simp [World.frozen?, h]
/-- the turn of block B, that holds no cells -/
def TurnsAt {β : Type} (B : Nat) (J : β → World → Prop) : Prop := ∀ s W o o', J s W → W.heap[B]? = some o → o.isCells = false → J s (W.putObj B o')
/-- how a round ends -/
def JPost (B : Nat) (Kp : World → World → Prop) (J : World → Prop) (W : World) : Exit → Act → World → Prop := fun e _ W' => e = .normal ∧ KeepsFrom B W W' ∧ Kp W W' ∧ J W'
theorem wpIn_rangeFunc_J {α : Type} {P : Program} {n : Nat} {g : Operand} {ps : Array Tmp} {assign body : Code} {Q : Exit → Act → World → Prop} {a : Act} {w : World} {gf : Nat} {lb : Array Value}
    (hg : a.eval g = .func (.func gf) #[] lb) (eg : ∀ args w, (callFunc gf args).run P w = .ok (.enter gf args) w)
    {encs : α → Array Value} (hps : ∀ x, (encs x).size = ps.size) (J : Nat → World → Prop) (X : Nat → α → World → Prop) (N : Nat) (Kp : World → World → Prop)
    (hKt : ∀ {A B C : World}, Kp A B → Kp B C → Kp A C) (hKb : ∀ (W : World) (o o' : Obj), W.heap[w.heap.size + 1]? = some o → o.isCells = false → Kp W (W.putObj (w.heap.size + 1) o'))
    (hJ : TurnsAt (w.heap.size + 1) J) (hX : ∀ k, TurnsAt (w.heap.size + 1) (X k)) (h0 : ∀ W, Ext w W → J 0 W)
    (hcall : ∀ (l : Nat) (JJ : Nat → World → Prop) (W1 : World), Ext w W1 → w.heap.size + 1 < W1.heap.size → (∀ k W, JJ k W → J k W ∧ w.heap.size + 1 < W.heap.size) →
      (∀ k W W', JJ k W → J k W' → W'.heap[w.heap.size]? = W.heap[w.heap.size]? → W'.heap[w.heap.size + 1]? = W.heap[w.heap.size + 1]? → JJ k W') →
      (∀ k x W, JJ k W → k < N → X k x W → YieldAt Fence.wide (n - 1 - 1) P l (encs x) W fun e W' => e = .returned (.bool true) ∧ JJ (k + 1) W' ∧ Kp W W') → JJ 0 W1 →
      CallsIn Fence.wide (n - 1) P gf (#[.func (.yield l) #[] #[]] ++ lb) W1 fun e W' => (∃ v, e = .returned v) ∧ JJ N W')
    (a₁ : α → Act)
    (hassign : ∀ (l : Nat) (x : α) (W : World) (K : Act → World → Prop), K (a₁ x) W →
      assign.wpIn (Fence.wide.inRound l) (n - 1 - 1) P (Exit.then K (fun _ _ _ => False)) { tmps := (ps.zip (encs x)).foldl (fun t (p, v) => t.setIfInBounds p v) a.tmps, defers := [] } W)
    (hbody : ∀ (l k : Nat) (x : α) (W : World), J k W → k < N → X k x W → body.wpIn (Fence.wide.inRound l) (n - 1 - 1) P (JPost w.heap.size Kp (J (k + 1)) W) (a₁ x) W)
    (hdone : ∀ (D : Nat) (W : World), w.heap.size ≤ D → J N W → W.heap[D]? = some (.deferred (some [])) → Q .normal { a with defers := { target := .collected D, args := #[] } :: a.defers } W) :
    (Code.rangeFunc g ps assign body).wpIn Fence.wide n P Q a w := by
  refine wpIn_rangeFunc fun fn hfn => ?_
  obtain ⟨rec, hrec⟩ : ∃ rec : LoopState → Option Code → Loop, rec = fun st pe => { state := st, pending := pe, fn, tmps := a.tmps, params := ps, assign, body, defers := w.heap.size } := ⟨_, rfl⟩
  obtain ⟨W1, hW1⟩ : ∃ W1, (w.alloc (.deferred (some []))).alloc (.loop (rec .ready none)) = W1 := ⟨_, rfl⟩
  have hE1 : Ext w W1 := by rw [← hW1]; exact ((Ext.refl w).alloc _).alloc _
  have hs1 : W1.heap.size = w.heap.size + 2 := by rw [← hW1]; simp
  have hL1 : W1.heap[w.heap.size + 1]? = some (.loop (rec .ready none)) := by
    rw [← hW1]; have := World.alloc_heap_new (w.alloc (.deferred (some []))) (.loop (rec .ready none)); rwa [World.size_alloc] at this
  have hD1 : W1.heap[w.heap.size]? = some (.deferred (some [])) := by
    rw [← hW1]; exact (Below.heap_alloc _ _ _ (by simp)).trans (World.alloc_heap_new w _)
  refine ⟨w.heap.size + 1, [{ target := .collected w.heap.size, args := #[] }], W1, { target := .fn (.func gf) lb, args := #[.func (.yield (w.heap.size + 1)) #[] #[]] }, W1, gf,
    #[.func (.yield (w.heap.size + 1)) #[] #[]] ++ lb, W1, ?_, ?_, fun _ _ => trivial, ?_, fun h => (by cases h), ?_⟩
  · rw [← hW1, hrec]; exact run_enterLoop_outer _ _ _ _ _
  · simp only [resolve, hg]
    simp [go_sem]
  · simp [invoke, go_sem, eg]
  · refine (hcall (w.heap.size + 1) (fun k W => J k W ∧ W.heap[w.heap.size + 1]? = some (.loop (rec .ready none)) ∧ W.heap[w.heap.size]? = some (.deferred (some []))) W1 hE1 (by omega) (fun _ _ h => ⟨h.1, (Array.getElem?_eq_some_iff.1 h.2.1).1⟩)
      (fun _ _ _ h hj e1 e2 => ⟨hj, e2.trans h.2.1, e1.trans h.2.2⟩) ?_ ⟨h0 _ hE1, hL1, hD1⟩).mono ?_
    · rintro k x W ⟨hj, hl, hd⟩ hk hx
      have hlt : w.heap.size + 1 < W.heap.size := (Array.getElem?_eq_some_iff.1 hl).1
      have hy := run_yield (P := P) (args := encs x) hl (by rw [hrec]; exact hps x)
      rw [hrec] at hy
      refine ⟨fn, _, assign, body, hy, roundIn_of_wpIn hfn (hassign _ x W _ ?_)⟩
      refine ⟨_, run_beginRound hl (by rw [hrec]), ?_⟩
      have hl2 : (W.putObj (w.heap.size + 1) (.loop { rec .ready none with state := .busy })).heap[w.heap.size + 1]? = some (.loop { rec .ready none with state := .busy }) := World.putObj_heap_same hlt
      have hd2 : (W.putObj (w.heap.size + 1) (.loop { rec .ready none with state := .busy })).heap[w.heap.size]? = some (.deferred (some [])) := (World.putObj_heap_other (by omega)).trans hd
      refine wpIn_mono (hbody _ k x _ (hJ _ _ _ _ hj hl rfl) hk (hX k _ _ _ _ hx hl rfl)) ?_
      rintro e a3 W3 ⟨rfl, hk3, hkp3, hj3⟩
      have hl3 := hk3.same _ _ (by omega) hl2 rfl
      have hd3 := hk3.same _ _ (Nat.le_refl _) hd2 rfl
      have hr := run_endRound (P := P) none hl3
      rw [hrec] at hr hl3 ⊢
      exact ⟨_, _, hr, rfl, ⟨hJ _ _ _ _ hj3 hl3 rfl, World.putObj_heap_same (Array.getElem?_eq_some_iff.1 hl3).1, (World.putObj_heap_other (by omega)).trans hd3⟩,
        hKt (hKb _ _ _ hl rfl) (hKt hkp3 (hKb _ _ _ hl3 rfl))⟩
    · rintro e W2 ⟨⟨v, rfl⟩, hj, hl, hd⟩
      exact ⟨none, _, by have := run_endLoop (P := P) hl (by rw [hrec]; simp); rw [hrec] at this; exact this, hdone _ _ (Nat.le_refl _) (hJ _ _ _ _ hj hl rfl) ((World.putObj_heap_other (by omega)).trans hd)⟩
/-- a piece of code that ends as usual -/
def NQ (Q : Exit → Act → World → Prop) : Exit → Act → World → Prop
  | .normal, a, w => Q .normal a w
  | _, _, _ => False
theorem wpIn_normal {F : Fence} {n : Nat} {P : Program} {c : Code} {Q : Exit → Act → World → Prop} {a : Act} {w : World} (h : c.wpIn F n P (NQ Q) a w) : c.wpIn F n P Q a w :=
  wpIn_mono h fun e a' w' hq => by
    cases e with
    | normal => exact hq
    | _ => exact hq.elim
theorem KpM.put {M : Nat → Prop} (W : World) (b : Nat) (o' : Obj) (hm : M b) : KpM M W (W.putObj b o') :=
  ⟨by simp, fun x _ hx => World.putObj_heap_other (fun e => hx (by rw [e]; exact hm)), rfl, rfl, rfl⟩
theorem boxed_kp {M : Nat → Prop} {A B : World} {b : Nat} {t : TypeId} {v : Value} (h : Boxed A b t v) (k : KpM M A B) (hm : ¬ M b) : Boxed B b t v := (k.block b h.lt hm).trans h
theorem KpM.set {M : Nat → Prop} (W : World) (b : Nat) (v : Value) (hm : M b) : KpM M W (W.setCell ⟨b, 0, none⟩ v) := (KpM.store (Ext.refl W) b v).mono (fun x h => by rw [h]; exact hm)
end Go.Q
/- Layer 8: blocks known whole; routines and catalogues in memory. -/
namespace Go.Proofs.Ytcijneecjkpebaa
open Go.RowKit Go.Q
theorem ext_put {a w : World} {p : Addr} (h : Ext a w) (u : Value) (hp : a.heap.size ≤ p.block) : Ext a (w.setCell p u) := h.setCell hp u
/-- block b is known whole -/
def Blk (W : World) (b : Nat) (cs : Array Value) (T : TypeId) : Prop := W.heap[b]? = some (.cells cs T (0, 0))
section
variable {w W W' : World} {b m i : Nat} {cs : Array Value} {T : TypeId} {v : Value}
theorem Blk.lt (h : Blk W b cs T) : b < W.heap.size := lt_of_block h
theorem Blk.al (h : Blk W b cs T) (ob : Obj) : Blk (W.alloc ob) b cs T := by
  have := h.lt
  show (W.heap.push ob)[b]? = _
  rw [Array.getElem?_push, if_neg (by omega)]; exact h
theorem Blk.dr (h : Blk W b cs T) : Blk W.drew b cs T := h
theorem Blk.ot (h : Blk W b cs T) (hne : b ≠ m) : Blk (W.setCell ⟨m, i, none⟩ v) b cs T := (Below.heap_setCell _ _ _ _ hne).trans h
theorem lb_set {w : World} {m : Nat} {cs : Array Value} {t : TypeId} (h : w.heap[m]? = some (.cells cs t (0, 0))) (i : Nat) (v : Value) :
    (w.setCell ⟨m, i, none⟩ v).heap[m]? = some (.cells (cs.setIfInBounds i v) t (0, 0)) := by
  have hlt := lt_of_block h
  have h' : w.heap[m] = .cells cs t (0, 0) := by simpa [Array.getElem?_eq_getElem hlt] using h
  show (w.heap.modify m _)[m]? = _
  rw [Array.getElem?_eq_getElem (by simpa using hlt), Array.getElem_modify_self, h']
  rfl
theorem Blk.st (h : Blk W b cs T) (i : Nat) (v : Value) : Blk (W.setCell ⟨b, i, none⟩ v) b (cs.setIfInBounds i v) T := lb_set h i v
theorem Blk.ex (h : Blk W b cs T) (E : Ext W W') : Blk W' b cs T := (E.block b h.lt).trans h
theorem Blk.go {X Y : World} (h : Blk W b cs T) (k : Blk W b cs T → Blk X b cs T) (E : Ext X Y) : Blk Y b cs T := (k h).ex E
theorem Blk.nw (W : World) (cs : Array Value) (T : TypeId) : Blk (W.alloc (.cells cs T)) W.heap.size cs T := heap_alloc_new W _
theorem Blk.of (E : Ext (w.alloc (.cells cs T)) W) : Blk W w.heap.size cs T := (Blk.nw w cs T).ex E
theorem Blk.c (h : Blk W b cs T) (i : Nat) {v : Value} (hv : cs[i]? = some v) : W.cell? ⟨b, i, none⟩ = some v := by
  unfold Blk at h
  simp [World.cell?, h, hv]
theorem Blk.f (h : Blk W b cs T) (i : Nat) : W.frozen? ⟨b, i, none⟩ = false := by
  unfold Blk at h
  simp [World.frozen?, h]
end
theorem own_extX {w w' : World} {B t sz n : Nat} {v : Value} {xs : List Value} (h : w.ownsRow B t sz v n xs) (E : Ext w w') : w'.ownsRow B t sz v n xs := by
  refine ⟨h.1, ?_⟩
  rcases h.2 with h2 | ⟨g, cap, cur, rfl, hb, hg, r⟩
  · exact .inl h2
  · exact .inr ⟨g, cap, cur, rfl, hb, (E.block g (lt_of_block hg)).trans hg, r⟩
theorem own_le {w : World} {B B' t sz n : Nat} {v : Value} {xs : List Value} (h : w.ownsRow B t sz v n xs) (hB : B' ≤ B) : w.ownsRow B' t sz v n xs := by
  refine ⟨h.1, ?_⟩
  rcases h.2 with h2 | ⟨g, cap, cur, rfl, hb, r⟩
  · exact .inl h2
  · exact .inr ⟨g, cap, cur, rfl, Nat.le_trans hB hb, r⟩
/-- a literal of n elements -/
theorem own_lit {w w1 : World} {e : TypeId} {sz n : Nat} {vs : Array Value} (hs : vs.size = n * sz) (hn : n ≤ maxLen) (hE : Ext (w.alloc (.cells vs e)) w1) : w1.ownsRow w.heap.size e sz (.slice (some ⟨w.heap.size, 0, none⟩) n n) n vs.toList :=
  ⟨by simpa using hs, .inr ⟨w.heap.size, n, vs, rfl, Nat.le_refl _, (hE.block w.heap.size (by simp)).trans (heap_alloc_new w _), Nat.le_refl _, hn, hs, List.take_of_length_le (by rw [← hs]; simp)⟩⟩
theorem own_slice {w : World} {nb t sz n : Nat} {v : Value} {xs : List Value} (h : w.ownsRow nb t sz v n xs) : ∃ a c, v = .slice a n c := by
  rcases h.2 with ⟨h1, h2⟩ | ⟨g, cap, cur, h1, _⟩
  · exact ⟨none, 0, by rw [h2]; exact h1⟩
  · exact ⟨_, _, h1⟩
theorem own_intsL {w : World} {nb t n : Nat} {a : Option Addr} {c : Nat} {xs : List Int} (h : w.ownsRow nb t 1 (.slice a n c) n (iv xs)) : IntsAt w a xs := by
  have hl : xs.length = n := by have := h.1; rw [iv_length] at this; omega
  rcases h.2 with ⟨h1, h2⟩ | ⟨g, cap, cur, h1, hb, hg, h3, h4, h5, h6⟩
  · left
    exact List.eq_nil_of_length_eq_zero (by omega)
  · obtain ⟨rfl, -, -⟩ := Value.slice.inj h1
    refine .inr ⟨g, 0, rfl, lt_of_block hg, fun i hi => ?_⟩
    have := World.ownsRow.cells h (g := g) rfl i (.int .i64 (xs[i]?.getD 0)) (iv_get xs i hi)
    rw [Addr.add_lit] at this
    exact this
/-- where the lists of a routine lie -/
structure Lo where
  a1 : Option Addr
  c1 : Nat
  a2 : Option Addr
  c2 : Nat
  a3 : Option Addr
  c3 : Nat
/-- a routine's cells; an entry's -/
def rcs (c : Rt) (l : Lo) : List Value := [.slice l.a1 c.words.length l.c1, .slice l.a2 c.masks.length l.c2, .int .i64 c.entry, .int .i64 c.exit, .int .i64 c.result, .slice l.a3 c.args.length l.c3]
def ecs (x : En) (l : Lo) : List Value := [.string x.name, .int .i64 x.ver, .slice l.a1 x.code.words.length l.c1, .slice l.a2 x.code.masks.length l.c2, .int .i64 x.code.entry, .int .i64 x.code.exit, .int .i64 x.code.result, .slice l.a3 x.code.args.length l.c3]
structure RtAt (w : World) (c : Rt) (l : Lo) : Prop where
  i1 : IntsAt w l.a1 c.words
  i2 : IntsAt w l.a2 c.masks
  i3 : IntsAt w l.a3 c.args
structure RtBd (c : Rt) : Prop where
  b1 : c.words.length ≤ 9223372036854775807
  b2 : c.masks.length ≤ 9223372036854775807
  b3 : c.args.length ≤ 9223372036854775807
structure EnBd (x : En) : Prop where
  n : x.name.size ≤ 9223372036854775807
  code : RtBd x.code
theorem RtAt.ext {w w' : World} {c : Rt} {l : Lo} (h : RtAt w c l) (E : Ext w w') : RtAt w' c l := ⟨h.i1.ext E, h.i2.ext E, h.i3.ext E⟩
/-- a catalogue lies from a on, its entries' lists at L -/
def CatAt (w : World) (a : Option Addr) (cat : List En) (L : Nat → Lo) : Prop :=
  cat = [] ∨ ∃ b off, a = some ⟨b, off, none⟩ ∧ b < w.heap.size ∧ ∀ i x, cat[i]? = some x → (∀ j v, (ecs x (L i))[j]? = some v → w.cell? ⟨b, off + i * 8 + j, none⟩ = some v) ∧ RtAt w x.code (L i)
theorem CatAt.ext {w w' : World} {a : Option Addr} {cat : List En} {L : Nat → Lo} (h : CatAt w a cat L) (E : Ext w w') : CatAt w' a cat L :=
  h.imp id fun ⟨b, off, ha, hb, hc⟩ => ⟨b, off, ha, Nat.lt_of_lt_of_le hb E.size, fun i x hx => ⟨fun j v hv => (E.cell (p := ⟨b, off + i * 8 + j, none⟩) hb).trans ((hc i x hx).1 j v hv), (hc i x hx).2.ext E⟩⟩
theorem CatAt.take {w : World} {a : Option Addr} {cat : List En} {L : Nat → Lo} (h : CatAt w a cat L) (n : Nat) : CatAt w a (cat.take n) L := by
  rcases h with rfl | ⟨b, off, ha, hb, hc⟩
  · exact .inl (by simp)
  · refine .inr ⟨b, off, ha, hb, fun i x hx => hc i x ?_⟩
    rw [List.getElem?_take] at hx
    split at hx
    · exact hx
    · cases hx
end Go.Proofs.Ytcijneecjkpebaa
