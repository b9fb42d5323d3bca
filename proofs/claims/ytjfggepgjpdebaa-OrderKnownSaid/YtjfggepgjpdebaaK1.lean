/- Contract: OrderKnown returns true. -/
import Derived.Test.YtjfggepgjpdebaaD2
import Derived.Test.YtjfggepgjpdebaaE6
import Derived.Test.YtjfggepgjpdebaaG7
import Derived.Test.YtjfggepgjpdebaaSpec4i
import Derived.Deep.RegionHeld3
import Derived.Deep.DeepCutAuto
import Derived.Outline
set_option linter.unusedVariables false
set_option linter.unusedSimpArgs false
namespace Go.Proofs.Ytjfggepgjpdebaa
open Go.RowKit Go.Q

theorem st_eta (s : St) {a b : List Int} {c : Int} {d : List Int} {e f g h : Int} (h0 : s.store = a) (h1 : s.tape = b) (h2 : s.taken = c) (h3 : s.printed = d) (h4 : s.time = e) (h5 : s.at_ = f) (h6 : s.done = g) (h7 : s.why = h) : s = ⟨a, b, c, d, e, f, g, h⟩ := by
  subst h0 h1 h2 h3 h4 h5 h6 h7; rfl
def kn0 : St := (beginQ storeQ [3] 0).1
theorem kn_begin : beginQ storeQ [3] 0 = (kn0, 0) := by
  have : (beginQ storeQ [3] 0).2 = 0 := by decide +kernel
  rw [← this]; rfl
theorem kn_len : kn0.store.length = 128 ∧ kn0.tape.length = 1 ∧ kn0.printed.length = 0 := by decide +kernel
theorem kn_facts : (runE kn0 100).2 = 0 ∧ (runE kn0 100).1.store.length = 128 ∧ (runE kn0 100).1.tape = [3] ∧ (runE kn0 100).1.taken = 1 ∧ (runE kn0 100).1.printed = [] ∧ (runE kn0 100).1.time = 48 ∧ (runE kn0 100).1.at_ = 0 ∧ (runE kn0 100).1.done = 3 ∧ (runE kn0 100).1.why = 2 := by decide +kernel
theorem kn_run : ∃ X : List Int, X.length = 128 ∧ runE kn0 100 = (⟨X, [3], 1, [], 48, 0, 3, 2⟩, 0) := by
  obtain ⟨h0, h1, h2, h3, h4, h5, h6, h7, h8⟩ := kn_facts
  refine ⟨_, h1, Prod.ext ?_ h0⟩
  exact st_eta _ rfl h2 h3 h4 h5 h6 h7 h8
theorem kn_when : whenQ ⟨4, 1, 2, 3⟩ 0 false = (3, 19, 0) := by decide +kernel
/-- the words of the products -/
def kw : Nat → Int × Int × Int
  | 0 => (4194304, 14680064, 15728640)
  | 1 => (1, 16777215, 16777215)
  | _ => (8388608, 8388608, 8388608)
theorem kw_law {k : Nat} (hk : k < 3) : (0 ≤ (kw k).1 ∧ (kw k).1 ≤ 16777215) ∧ (0 ≤ (kw k).2.1 ∧ (kw k).2.1 ≤ 16777215) ∧ prod (kw k).1 (kw k).2.1 = (kw k).2.2 := by
  match k, hk with
  | 0, _ => decide
  | 1, _ => decide
  | 2, _ => decide
theorem kw_cells {k : Nat} (hk : k < 3) {l : Array Value} (hl : l = #[.int .i64 4194304, .int .i64 14680064, .int .i64 15728640, .int .i64 1, .int .i64 16777215, .int .i64 16777215, .int .i64 8388608, .int .i64 8388608, .int .i64 8388608]) :
    l[k * 3]? = some (.int .i64 (kw k).1) ∧ l[k * 3 + 1]? = some (.int .i64 (kw k).2.1) ∧ l[k * 3 + 2]? = some (.int .i64 (kw k).2.2) := by
  subst hl
  match k, hk with
  | 0, _ => exact ⟨rfl, rfl, rfl⟩
  | 1, _ => exact ⟨rfl, rfl, rfl⟩
  | 2, _ => exact ⟨rfl, rfl, rfl⟩
theorem pm_end (x y : Int) : runQ 5 (pm x y 0 0 0) = ⟨[8405251, x, prod x y] ++ List.replicate 125 0, [], 0, [], 19, 3, 1, 1⟩ := by
  have e : runQ 5 (pm x y 0 0 0) = runQ 4 (runQ 1 (pm x y 0 0 0)) := runQ_add 1 4 _
  have h : stepQ (pm x (prod x y) 19 3 1) = { pm x (prod x y) 19 3 1 with why := 1 } := step_halt (s := pm x (prod x y) 19 3 1) (k := 0) rfl (by simp [decodeQ])
  rw [e, pm0, run_go 3 rfl, h]
  exact runQ_end (by show (1 : Int) ≠ 0; decide) 3
theorem kpm_begin {a b : Int} (ha : 0 ≤ a ∧ a ≤ 16777215) (hb : 0 ≤ b ∧ b ≤ 16777215) : beginQ [8405251, a, b] [] 0 = (pm a b 0 0 0, 0) ∧ Valid (pm a b 0 0 0) := by
  have h := begin_valid (st := [8405251, a, b]) (tp := []) (start := 0) (by simp) (by simp) (by
    intro x hx
    simp only [List.mem_cons, List.not_mem_nil, or_false] at hx
    rcases hx with rfl | rfl | rfl
    · decide
    · exact ha
    · exact hb) (by simp) (by decide)
  exact h
theorem kints_form {w : World} {a : Option Addr} {xs : List Int} (h : IntsAt w a xs) (h0 : 0 < xs.length) : ∃ b off, a = some ⟨b, off, none⟩ ∧ b < w.heap.size ∧ ∀ i, i < xs.length → w.cell? ⟨b, off + i, none⟩ = some (.int .i64 (xs[i]?.getD 0)) := by
  rcases h with e | h
  · subst e; simp at h0
  · exact h
/-- a run of a product has ended -/
theorem kp_form {w : World} {v : Value} {x y : Int} (h : StAt w v ⟨[8405251, x, y] ++ List.replicate 125 0, [], 0, [], 19, 3, 1, 1⟩) : ∃ b off c1 d2 c2 d3 c3, v = sv (some ⟨b, off, none⟩) d2 d3 128 c1 0 c2 0 c3 0 19 3 1 1 ∧ b < w.heap.size ∧
    w.cell? ⟨b, off + 2, none⟩ = some (.int .i64 y) := by
  obtain ⟨a1, a2, a3, k1, k2, k3, rfl, i1, i2, i3⟩ := h
  have hl : ([8405251, x, y] ++ List.replicate 125 0).length = 128 := by simp
  obtain ⟨b, off, rfl, hb, hc⟩ := kints_form i1 (by rw [hl]; decide)
  refine ⟨b, off, k1, a2, k2, a3, k3, ?_, hb, hc 2 (by rw [hl]; decide)⟩
  show sv _ _ _ ([8405251, x, y] ++ List.replicate 125 0).length _ _ _ _ _ _ _ _ _ _ = _
  rw [hl]; rfl

theorem ints_fresh2 {w W : World} {xs : List Int} {t : TypeId} {l : Array Value} {n : Nat} (hn : w.heap.size = n) (hl : l = (iv xs).toArray) (E : Ext (w.alloc (.cells l t)) W) : IntsAt W (some ⟨n, 0, none⟩) xs := by
  subst hn; exact ints_fresh hl E
theorem size_set (W : World) (p : Addr) (v : Value) : (W.setCell p v).heap.size = W.heap.size := by simp [World.setCell]
theorem ints_blk {w' W : World} {a : Option Addr} {xs : List Int} (h : IntsAt w' a xs) (hs : w'.heap.size ≤ W.heap.size) (he : ∀ b off, a = some ⟨b, off, none⟩ → W.heap[b]? = w'.heap[b]?) : IntsAt W a xs := by
  rcases h with h | ⟨b, off, ha, hlt, hc⟩
  · exact .inl h
  · exact .inr ⟨b, off, ha, Nat.lt_of_lt_of_le hlt hs, fun i hi => (World.cell?_of_block (w := w') (he b off ha)).trans (hc i hi)⟩
theorem ints_set8 {w' : World} {a : Option Addr} {xs : List Int} {B : Nat} (h : IntsAt w' a xs) (hb : ∀ b off, a = some ⟨b, off, none⟩ → b ≠ B) (v0 v1 v2 v3 v4 v5 v6 v7 : Value) :
    IntsAt ((((((((w'.setCell ⟨B, 0, none⟩ v0).setCell ⟨B, 1, none⟩ v1).setCell ⟨B, 2, none⟩ v2).setCell ⟨B, 3, none⟩ v3).setCell ⟨B, 4, none⟩ v4).setCell ⟨B, 5, none⟩ v5).setCell ⟨B, 6, none⟩ v6).setCell ⟨B, 7, none⟩ v7) a xs :=
  ints_blk h (by rw [size_set, size_set, size_set, size_set, size_set, size_set, size_set, size_set]; exact Nat.le_refl _) (fun b off ha => other8 w' B b (hb b off ha) v0 v1 v2 v3 v4 v5 v6 v7)
def KCut (s : St) (wo : World) (s10 : Value) (wx : World) : Prop :=
  ∃ b v, s10 = .pointer (some ⟨b, 0, none⟩) ∧ StAt wx v s ∧ (∃ cs, v = .agg cs ∧ wx.heap[b]? = some (.cells cs 24 (0, 0))) ∧ Ext wo wx
section
variable {s : St} {wo w' : World} {x1 x2 x3 : Option Addr} {k1 k2 k3 : Nat} {P : Nat}
theorem kcut_new (i1 : IntsAt w' x1 s.store) (i2 : IntsAt w' x2 s.tape) (i3 : IntsAt w' x3 s.printed) (EB : Ext wo w') :
    KCut s wo (.pointer (some ⟨w'.heap.size, 0, none⟩)) (w'.alloc (.cells #[.slice x1 s.store.length k1, .slice x2 s.tape.length k2, .int .i64 s.taken, .slice x3 s.printed.length k3, .int .i64 s.time, .int .i64 s.at_, .int .i64 s.done, .int .i64 s.why] 24)) :=
  ⟨_, _, rfl, ⟨x1, x2, x3, k1, k2, k3, rfl, i1.ext ((Ext.refl w').alloc _), i2.ext ((Ext.refl w').alloc _), i3.ext ((Ext.refl w').alloc _)⟩, ⟨_, rfl, heap_alloc_new w' _⟩, EB.alloc _⟩
theorem kcut_old {b : Nat} (i1 : IntsAt w' x1 s.store) (i2 : IntsAt w' x2 s.tape) (i3 : IntsAt w' x3 s.printed) (EB : Ext wo w') (HB : w'.heap[b]? = some (.cells bxc 24 (0, 0)))
    (hN : ∀ b off, x1 = some ⟨b, off, none⟩ ∨ x2 = some ⟨b, off, none⟩ ∨ x3 = some ⟨b, off, none⟩ → P ≤ b) (hP : b < P) (hb : wo.heap.size ≤ b) :
    KCut s wo (.pointer (some ⟨b, 0, none⟩)) ((((((((w'.setCell ⟨b, 0, none⟩ (.slice x1 s.store.length k1)).setCell ⟨b, 1, none⟩ (.slice x2 s.tape.length k2)).setCell ⟨b, 2, none⟩ (.int .i64 s.taken)).setCell ⟨b, 3, none⟩ (.slice x3 s.printed.length k3)).setCell ⟨b, 4, none⟩ (.int .i64 s.time)).setCell ⟨b, 5, none⟩ (.int .i64 s.at_)).setCell ⟨b, 6, none⟩ (.int .i64 s.done)).setCell ⟨b, 7, none⟩ (.int .i64 s.why)) :=
  ⟨b, _, rfl, ⟨x1, x2, x3, k1, k2, k3, rfl, ints_set8 i1 (fun b' off h => by have := hN b' off (.inl h); omega) _ _ _ _ _ _ _ _, ints_set8 i2 (fun b' off h => by have := hN b' off (.inr (.inl h)); omega) _ _ _ _ _ _ _ _, ints_set8 i3 (fun b' off h => by have := hN b' off (.inr (.inr h)); omega) _ _ _ _ _ _ _ _⟩,
    ⟨_, rfl, cells8 HB _ _ _ _ _ _ _ _⟩, ext_set8 EB hb _ _ _ _ _ _ _ _⟩
end
theorem kbegin {a b : Int} (ha : 0 ≤ a ∧ a ≤ 16777215) (hb : 0 ≤ b ∧ b ≤ 16777215) (A : Option Addr) (W : World) (I : IntsAt W A [8405251, a, b]) :
    Calls Try.prog 17 #[.slice A 3 3, .slice none 0 0, .int .i64 0] W (NewRes (pm a b 0 0 0, 0) W) := by
  have ho : outB 16777215 [8405251, a, b] = false := outB_words (fun n hn => by
    simp only [List.mem_cons, List.not_mem_nil, or_false] at hn
    rcases hn with rfl | rfl | rfl
    · decide
    · exact ha
    · exact hb)
  have h := begin_good' A none 3 0 3 0 [8405251, a, b] [] 0 W rfl rfl (by decide) (by decide) I (.inl rfl) ho rfl (by decide)
  have e : (⟨[8405251, a, b] ++ List.replicate (128 - [8405251, a, b].length) 0, [], 0, [], 0 % 16, 0, 0, 0⟩ : St) = pm a b 0 0 0 := rfl
  rw [e] at h
  exact h
theorem ksl {wo W : World} {a b : Addr} {u v : Value} (E : Ext wo W) (c0 : wo.cell? a = some u) (c1 : wo.cell? b = some v) (ha : a.block < wo.heap.size) (hb : b.block < wo.heap.size) : Ext wo W ∧ W.cell? a = some u ∧ W.cell? b = some v :=
  ⟨E, (E.cell ha).trans c0, (E.cell hb).trans c1⟩
set_option maxRecDepth 100000 in
set_option maxHeartbeats 8000000 in
theorem known_law (w : World) : Calls Try.prog 4 #[] w fun e w' => e = .returned (.bool true) ∧ Ext w w' := by
  obtain ⟨X, hX, hrun⟩ := kn_run
  obtain ⟨n1, n2, n3⟩ := kn_len
  have hbg := fun A B c1 c2 W (I : IntsAt W A storeQ) (J : IntsAt W B [3]) => begin_any A B 15 1 c1 c2 storeQ [3] 0 W rfl rfl (by decide) (by decide) I J
  rw [kn_begin] at hbg
  have hr := fun W V (A : StAt W V kn0) => runE_any V kn0 100 W A ⟨by omega, by omega, by omega⟩
  rw [hrun] at hr
  have hwh := fun W => whenE_any 4 1 2 3 0 false W
  rw [kn_when] at hwh
  unfold v3 at hwh
  have hs := fun W => store_any W
  go_enter Try.func4, Try.ntmps4
  go_wp2_with fail
  refine (hs _).mono ?_
  rintro e w1 ⟨rfl, rfl⟩
  go_wp2_with fail
  have hs1 : IntsAt ((w.alloc (.cells (iv storeQ).toArray 3)).alloc (.cells #[.int .i64 3] 3)) (some ⟨w.heap.size, 0, none⟩) storeQ := by
    exact ints_fresh (w := w) rfl ((Ext.refl _).alloc _)
  have hs2 : IntsAt ((w.alloc (.cells (iv storeQ).toArray 3)).alloc (.cells #[.int .i64 3] 3)) (some ⟨w.heap.size + 1, 0, none⟩) [3] := by
    have := ints_fresh (w := w.alloc (.cells (iv storeQ).toArray 3)) (xs := [3]) (t := 3) rfl (Ext.refl _)
    rw [World.size_alloc] at this
    exact this
  refine (hbg _ _ _ _ _ hs1 hs2).mono ?_
  rintro e w1 ⟨v1, rfl, A1, E1⟩
  obtain ⟨a1, a2, a3, c1, c2, c3, rfl, i1, i2, i3⟩ := id A1
  clear hs1 hs2 i1 i2 i3
  go_wp2_with fail
  refine (hr _ _ (A1.ext (by repeat (first | with_reducible exact Ext.refl _ | with_reducible refine Ext.alloc ?_ _ | with_reducible refine Below.drew ?_)))).mono ?_
  rintro e w2 ⟨v2, rfl, A2, E2⟩
  obtain ⟨b1, b2, b3, d1, d2, d3, rfl, _, _, _⟩ := A2
  clear A1 hbg hr hs
  go_wp2_with fail
  refine (hwh _).mono ?_
  rintro e w3 ⟨rfl, E3⟩
  have q0 := box_at (v := .slice b1 128 d1) E3 0 rfl
  have q1 := box_at (v := .slice b2 1 d2) E3 1 rfl
  have q2 := box_at (v := .int .i64 1) E3 2 rfl
  have q3 := box_at (v := .slice b3 0 d3) E3 3 rfl
  have q4 := box_at (v := .int .i64 48) E3 4 rfl
  have q5 := box_at (v := .int .i64 0) E3 5 rfl
  have q6 := box_at (v := .int .i64 3) E3 6 rfl
  have q7 := box_at (v := .int .i64 2) E3 7 rfl
  go_wp2_with fail
  have hwr := fun W => written_any 4 1 2 3 W (by decide)
  rw [show Q.written ⟨4, 1, 2, 3⟩ = 8405251 by decide] at hwr
  obtain ⟨L, hL⟩ : ∃ l : Array Value, l = #[.int .i64 4194304, .int .i64 14680064, .int .i64 15728640, .int .i64 1, .int .i64 16777215, .int .i64 16777215, .int .i64 8388608, .int .i64 8388608, .int .i64 8388608] := ⟨_, rfl⟩
  have EL := Ext.refl (w3.alloc (.cells L 37))
  rw [hL] at EL
  have HL := Lib.hid hL
  have H3 := Lib.hid E3
  clear q0 q1 q2 q3 q4 q5 q6 q7 hL E3 hwh
  generalize hB : w3.heap.size = B at *
  have HB := Lib.hid hB
  clear hB
  go_loopw [9] (fun s9 wr => ∃ k : Nat, k ≤ 3 ∧ s9 = .int .i64 k ∧ Aside (Ext (w3.alloc (.cells L 37)) wr)) (fun s9 _ => 3 - (intOf s9).toNat)
  case atStart => exact ⟨0, by omega, rfl, by rw [HL.out]; exact EL⟩
  case round =>
    obtain ⟨k, hk, rfl, ER⟩ := hrel
    clear EL
    by_cases hlt : k < 3
    · have hltz : (k : Int) < 3 := by omega
      have hk0 : (0 : Int) ≤ (k : Int) := by omega
      obtain ⟨z1, z2, z3⟩ := kw_cells hlt HL.out
      obtain ⟨hx, hy, hp⟩ := kw_law hlt
      have c0 : wr.cell? ⟨B, k * 3, none⟩ = some (.int .i64 (kw k).1) := by rw [← HB.out]; exact box_at ER.out _ z1
      have c1 : wr.cell? ⟨B, k * 3 + 1, none⟩ = some (.int .i64 (kw k).2.1) := by rw [← HB.out]; exact box_at ER.out _ z2
      have c2 : wr.cell? ⟨B, k * 3 + 2, none⟩ = some (.int .i64 (kw k).2.2) := by rw [← HB.out]; exact box_at ER.out _ z3
      have hBlt : B < wr.heap.size := by have := ER.out.size; rw [← HB.out]; simp at this; omega
      clear z1 z2 z3
      obtain ⟨hq, hv⟩ := kpm_begin hx hy
      have hbg := fun A W (I : IntsAt W A [8405251, (kw k).1, (kw k).2.1]) => kbegin hx hy A W I
      have hr := fun W V (A : StAt W V (pm (kw k).1 (kw k).2.1 0 0 0)) => runE_any V (pm (kw k).1 (kw k).2.1 0 0 0) 5 W A (valid_bd hv)
      have hq2 : runE (pm (kw k).1 (kw k).2.1 0 0 0) 5 = (⟨[8405251, (kw k).1, (kw k).2.2] ++ List.replicate 125 0, [], 0, [], 19, 3, 1, 1⟩, 0) := by
        have := runE_valid hv 5 (by decide)
        rw [pm_end, hp] at this
        exact this
      rw [hq2] at hr
      clear hq hq2 hp hx hy hv
      generalize (kw k).1 = x at *
      generalize (kw k).2.1 = y at *
      generalize (kw k).2.2 = z at *
      have hzz : (z != z) = false := by simp
      obtain ⟨wo, rfl⟩ : ∃ wo : World, wo = wr := ⟨_, rfl⟩
      go_upto_region 10 with fail
      go_cut [10, 11] (fun s10 s11 wx => s11 = .int .i64 0 ∧ KCut (pm x y 0 0 0) wo s10 wx)
      case first =>
        go_region_held3 (fun w' => Ext wo w' ∧ w'.cell? ⟨B, k * 3, none⟩ = some (.int .i64 x) ∧ w'.cell? ⟨B, k * 3 + 1, none⟩ = some (.int .i64 y))
          (first | with_reducible exact ksl (Ext.refl wo).drew c0 c1 hBlt hBlt | with_reducible exact ksl ((Ext.refl wo).alloc bx0).drew c0 c1 hBlt hBlt | with_reducible exact ksl (Ext.comp (Ext.refl wo).drew hw') c0 c1 hBlt hBlt | with_reducible exact ksl (Ext.comp ((Ext.refl wo).alloc bx0).drew hw') c0 c1 hBlt hBlt | with_reducible exact ksl (EB.alloc _) c0 c1 hBlt hBlt | with_reducible exact ksl (ext_set8 EB (by first | exact Nat.le_refl _ | (have := hw'.size; simp at this; omega)) _ _ _ _ _ _ _ _) c0 c1 hBlt hBlt | (have hh := (‹Ext wo _ ∧ _ ∧ _›).1; first | with_reducible exact ksl (Ext.comp hh hb') c0 c1 hBlt hBlt | with_reducible exact ksl (Ext.comp hh hw') c0 c1 hBlt hBlt | with_reducible exact ksl (hh.alloc _) c0 c1 hBlt hBlt | with_reducible exact ksl (Ext.comp (hh.alloc _) hb') c0 c1 hBlt hBlt))
          (first | (go_at_call 24; refine (hwr _).mono ?_; rintro e w' ⟨rfl, hw'⟩) | (go_at_call 17; refine (hbg _ _ (by first | exact ints_fresh2 (by simp) rfl (Ext.refl _) | exact ints_fresh2 (by simp) rfl ((Ext.refl _).alloc _))).mono ?_; rintro e w' ⟨v', rfl, ⟨x1, x2, x3, k1, k2, k3, rfl, i1, i2, i3, hN⟩, hb'⟩; have EB := Ext.comp (‹Ext wo _ ∧ _ ∧ _›).1 hb'; (try ((with_reducible have HB1 := heap_new2 (ob := bx0) (Ext.comp (Ext.alloc (Ext.comp (Ext.refl (wo.alloc bx0)).drew hw') _) hb')); (try simp only [World.size_alloc] at HB1); have p0 := cell_of_cells HB1 0 (v := .slice none 0 0) rfl; have x0 := free_of_cells HB1 0; have p1 := cell_of_cells HB1 1 (v := .slice none 0 0) rfl; have x1 := free_of_cells HB1 1; have p2 := cell_of_cells HB1 2 (v := .int .i64 0) rfl; have x2 := free_of_cells HB1 2; have p3 := cell_of_cells HB1 3 (v := .slice none 0 0) rfl; have x3 := free_of_cells HB1 3; have p4 := cell_of_cells HB1 4 (v := .int .i64 0) rfl; have x4 := free_of_cells HB1 4; have p5 := cell_of_cells HB1 5 (v := .int .i64 0) rfl; have x5 := free_of_cells HB1 5; have p6 := cell_of_cells HB1 6 (v := .int .i64 0) rfl; have x6 := free_of_cells HB1 6; have p7 := cell_of_cells HB1 7 (v := .int .i64 0) rfl; have x7 := free_of_cells HB1 7)); (try ((with_reducible have HB1 := heap_new2 (ob := bx0) (Ext.comp (Ext.alloc (Ext.refl _) _) hb')); (try simp only [World.size_alloc] at HB1); have p0 := cell_of_cells HB1 0 (v := .slice none 0 0) rfl; have x0 := free_of_cells HB1 0; have p1 := cell_of_cells HB1 1 (v := .slice none 0 0) rfl; have x1 := free_of_cells HB1 1; have p2 := cell_of_cells HB1 2 (v := .int .i64 0) rfl; have x2 := free_of_cells HB1 2; have p3 := cell_of_cells HB1 3 (v := .slice none 0 0) rfl; have x3 := free_of_cells HB1 3; have p4 := cell_of_cells HB1 4 (v := .int .i64 0) rfl; have x4 := free_of_cells HB1 4; have p5 := cell_of_cells HB1 5 (v := .int .i64 0) rfl; have x5 := free_of_cells HB1 5; have p6 := cell_of_cells HB1 6 (v := .int .i64 0) rfl; have x6 := free_of_cells HB1 6; have p7 := cell_of_cells HB1 7 (v := .int .i64 0) rfl; have x7 := free_of_cells HB1 7)); (try ((with_reducible have HB1 := heap_new2 (ob := bx0) hb'); (try simp only [World.size_alloc] at HB1); have p0 := cell_of_cells HB1 0 (v := .slice none 0 0) rfl; have x0 := free_of_cells HB1 0; have p1 := cell_of_cells HB1 1 (v := .slice none 0 0) rfl; have x1 := free_of_cells HB1 1; have p2 := cell_of_cells HB1 2 (v := .int .i64 0) rfl; have x2 := free_of_cells HB1 2; have p3 := cell_of_cells HB1 3 (v := .slice none 0 0) rfl; have x3 := free_of_cells HB1 3; have p4 := cell_of_cells HB1 4 (v := .int .i64 0) rfl; have x4 := free_of_cells HB1 4; have p5 := cell_of_cells HB1 5 (v := .int .i64 0) rfl; have x5 := free_of_cells HB1 5; have p6 := cell_of_cells HB1 6 (v := .int .i64 0) rfl; have x6 := free_of_cells HB1 6; have p7 := cell_of_cells HB1 7 (v := .int .i64 0) rfl; have x7 := free_of_cells HB1 7))))
        all_goals
          have hwz := hw'.size
          simp at hwz
          go_wp2_with fail
          go_meet
          refine ⟨rfl, ?_⟩
          simp only [World.size_alloc] at hN
          first
            | with_reducible exact kcut_new i1 i2 i3 EB
            | with_reducible exact kcut_old i1 i2 i3 EB HB1 hN (by omega) (by omega)
      case rest =>
        obtain ⟨rfl, b, v, rfl, A1, ⟨cs, rfl, HB2⟩, E4⟩ := hcut
        obtain ⟨x1, x2, x3, k1, k2, k3, hcs, i1, i2, i3⟩ := id A1
        obtain rfl := Value.agg.inj hcs
        have p0 := cell_of_cells HB2 0 (v := .slice x1 (pm x y 0 0 0).store.length k1) rfl
        have p1 := cell_of_cells HB2 1 (v := .slice x2 (pm x y 0 0 0).tape.length k2) rfl
        have p2 := cell_of_cells HB2 2 (v := .int .i64 (pm x y 0 0 0).taken) rfl
        have p3 := cell_of_cells HB2 3 (v := .slice x3 (pm x y 0 0 0).printed.length k3) rfl
        have p4 := cell_of_cells HB2 4 (v := .int .i64 (pm x y 0 0 0).time) rfl
        have p5 := cell_of_cells HB2 5 (v := .int .i64 (pm x y 0 0 0).at_) rfl
        have p6 := cell_of_cells HB2 6 (v := .int .i64 (pm x y 0 0 0).done) rfl
        have p7 := cell_of_cells HB2 7 (v := .int .i64 (pm x y 0 0 0).why) rfl
        have d2 := cell_later E4 c2
        go_wp2_with fail
        refine (hr _ _ A1).mono ?_
        rintro e w4 ⟨v4, rfl, A4, E5⟩
        obtain ⟨b4, o4, l4, d5, l5, d6, l6, rfl, hb4, t2⟩ := kp_form A4
        have d3 := cell_later E5 d2
        clear p0 p1 p2 p3 p4 p5 p6 p7 d2 c0 c1 c2 i1 i2 i3 A1
        have E45 := E4.comp E5
        have hB4 : B < w4.heap.size := Nat.lt_of_lt_of_le hBlt E45.size
        go_wp2_with fail
        go_quiet (fail)
        go_wp2_with fail
        go_roundw
        case rel =>
          refine ⟨k + 1, by omega, by go_num, (show Ext _ _ from ?_)⟩
          exact ext_drewN ((ER.out.comp E45).alloc _) _
        case measure => simp [intOf]; omega
    · have hltz : ¬ (k : Int) < 3 := by omega
      go_wp2_with (go_at_call 20; refine (awake_any _).mono ?_; rintro e w4 ⟨rfl, E4⟩)
      go_ret
      refine ⟨rfl, ?_⟩
      have X := ER.out.old
      refine Ext.comp (by first | with_reducible exact E1 | with_reducible exact E1.old | with_reducible exact E1.old.old | with_reducible exact E1.old.old.old) ?_
      refine Ext.comp (by first | with_reducible exact E2 | with_reducible exact E2.old | with_reducible exact E2.old.old | with_reducible exact E2.old.old.old) ?_
      refine Ext.comp (by first | with_reducible exact H3.out | with_reducible exact H3.out.old | with_reducible exact H3.out.old.old | with_reducible exact H3.out.old.old.old) ?_
      refine Ext.comp (by first | with_reducible exact X | with_reducible exact X.old | with_reducible exact X.old.old | with_reducible exact X.old.old.old) ?_
      exact (by first | with_reducible exact E4 | with_reducible exact E4.old | with_reducible exact E4.old.old | with_reducible exact E4.old.old.old)
end Go.Proofs.Ytjfggepgjpdebaa
