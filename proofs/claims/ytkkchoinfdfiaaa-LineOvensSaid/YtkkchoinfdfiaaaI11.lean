/- Contract of layer 1's reference: minute. -/
import Derived.Test.YtkkchoinfdfiaaaI10
set_option linter.unusedVariables false
set_option linter.unusedSimpArgs false
namespace Go.Q
open Go.RowKit
def byO (o : Ov) (hh : Bool) : Sp := if hh = true then o.warm else o.cool
def tempO (hh : Bool) (t x : Int) : Int := if hh = true then t + x else t - x
def aftT (o : Ov) (s : Int × Bool) (hh : Bool) (m : Nat) : List (Int × Bool) := fstN (fun i => (tempO hh s.1 ((byO o hh).lo + (i : Int)), hh)) m
theorem aftT_succ (o : Ov) (s : Int × Bool) (hh : Bool) (m : Nat) : aftT o s hh (m + 1) = aftT o s hh m ++ [(tempO hh s.1 ((byO o hh).lo + (m : Int)), hh)] := fstN_succ _ _
theorem aftT_all (o : Ov) (s : Int × Bool) : aftT o s (heatsO o s.1 s.2) ((byO o (heatsO o s.1 s.2)).hi - (byO o (heatsO o s.1 s.2)).lo + 1).toNat = afterO o s := by
  unfold aftT afterO byO tempO
  cases h : heatsO o s.1 s.2
  · simp only [Bool.false_eq_true, if_false]
    unfold tempsS fstN
    rw [List.map_map]
    rfl
  · simp only [if_true]
    unfold tempsS fstN
    rw [List.map_map]
    rfl
theorem aftT_mem {o : Ov} {s x : Int × Bool} {m : Nat} (hm : m ≤ ((byO o (heatsO o s.1 s.2)).hi - (byO o (heatsO o s.1 s.2)).lo + 1).toNat) (h : x ∈ aftT o s (heatsO o s.1 s.2) m) : x ∈ afterO o s := by
  rw [← aftT_all]
  unfold aftT fstN at h ⊢
  obtain ⟨i, hi, rfl⟩ := List.mem_map.1 h
  rw [List.mem_range] at hi
  exact List.mem_map.2 ⟨i, List.mem_range.2 (by omega), rfl⟩
def minL (o : Ov) (ss : List (Int × Bool)) : List (Int × Bool) := allO [] (ss.flatMap (afterO o))
theorem allO_app (os xs ys : List (Int × Bool)) : allO os (xs ++ ys) = allO (allO os xs) ys := by unfold allO; rw [List.foldl_append]
theorem minL_snoc (o : Ov) (ss : List (Int × Bool)) (s : Int × Bool) : minL o (ss ++ [s]) = allO (minL o ss) (afterO o s) := by
  unfold minL
  rw [List.flatMap_append, List.flatMap_cons, List.flatMap_nil, List.append_nil, allO_app]
theorem minL_bd {o : Ov} (h : OkO o) {ss : List (Int × Bool)} (hb : ∀ s ∈ ss, -600 ≤ s.1 ∧ s.1 ≤ 1100) : ∀ x ∈ minL o ss, -600 ≤ x.1 ∧ x.1 ≤ 1100 := by
  intro x hx
  unfold minL at hx
  rw [mem_allO] at hx
  rcases hx with hx | hx
  · simp at hx
  · obtain ⟨s, hs, hx2⟩ := List.mem_flatMap.1 hx
    exact afterO_bd h (hb s hs) hx2
/-- the states that are there, while those after s are added -/
def minT (o : Ov) (ss : List (Int × Bool)) (s : Int × Bool) (hh : Bool) (m : Nat) : List (Int × Bool) := allO (minL o ss) (aftT o s hh m)
theorem minT_zero (o : Ov) (ss : List (Int × Bool)) (s : Int × Bool) (hh : Bool) : minT o ss s hh 0 = minL o ss := rfl
theorem minT_succ (o : Ov) (ss : List (Int × Bool)) (s : Int × Bool) (hh : Bool) (m : Nat) : minT o ss s hh (m + 1) = addS (minT o ss s hh m) (tempO hh s.1 ((byO o hh).lo + (m : Int)), hh) := by
  unfold minT; rw [aftT_succ, allO_snoc]
theorem minT_all {o : Ov} {ss : List (Int × Bool)} {s : Int × Bool} : minT o ss s (heatsO o s.1 s.2) ((byO o (heatsO o s.1 s.2)).hi - (byO o (heatsO o s.1 s.2)).lo + 1).toNat = minL o (ss ++ [s]) := by
  unfold minT; rw [aftT_all, minL_snoc]
theorem minT_bd {o : Ov} (h : OkO o) {ss : List (Int × Bool)} (hb : ∀ s ∈ ss, -600 ≤ s.1 ∧ s.1 ≤ 1100) {s : Int × Bool} (hs : -600 ≤ s.1 ∧ s.1 ≤ 1100) {m : Nat} (hm : m ≤ ((byO o (heatsO o s.1 s.2)).hi - (byO o (heatsO o s.1 s.2)).lo + 1).toNat) :
    (∀ x ∈ minT o ss s (heatsO o s.1 s.2) m, bdO x) ∧ (minT o ss s (heatsO o s.1 s.2) m).length ≤ 4800 := by
  have h1 : ∀ x ∈ minT o ss s (heatsO o s.1 s.2) m, bdO x := by
    intro x hx
    unfold minT at hx
    rw [mem_allO] at hx
    rcases hx with hx | hx
    · have := minL_bd h hb x hx; exact ⟨by omega, by omega⟩
    · have := afterO_bd h hs (aftT_mem hm hx); exact ⟨by omega, by omega⟩
  refine ⟨h1, lenO ?_ h1⟩
  unfold minT minL
  exact nodup_allO (nodup_allO List.nodup_nil)
end Go.Q
namespace Go.Proofs.Ytkkchoinfdfiaaa
open Go.RowKit Go.Q Go.Shelf Go.Maps

theorem makeB5 (W : World) (n : Nat) (hn : n ≤ 4800) : (Instr.makeSlice 83 (.int .i64 n) (.int .i64 n)).run Try.prog W = .ok (.slice (some ⟨W.heap.size, 0, none⟩) n n) (W.alloc (.cells (Array.replicate n (.bool false)) 4)) := by
  obtain ⟨i0, hi, hz0, hz1, hz2⟩ := info_parts Try.infoBl
  have := run_makeSlice (P := Try.prog) W 83 4 i0 (.bool false) Try.underlying83 hi hz0 .i64 .i64 n n (by omega) (by omega) (by rw [hz1]; omega) (by rw [hz2]; omega) (by omega)
  rw [hz1] at this
  rw [this]
  have e : madeCells (Value.bool false).cells (((n : Int)).toNat * 1) = Array.replicate n (.bool false) := by
    rw [Int.toNat_natCast, Nat.mul_one, show (Value.bool false).cells = #[.bool false] from rfl]
    apply Array.ext
    · simp [madeCells]
    · intro i h1 h2
      simp [madeCells, Nat.mod_one]
  rw [e, Int.toNat_natCast]
theorem hown_two {W : World} {B t sz n b : Nat} {v : Value} {xs : List Value} (h : W.ownsRow B t sz v n xs) (hne : ∀ q, v.ownBlock = some q → q ≠ b) (x y : Value) : ((W.setCell ⟨b, 0, none⟩ x).setCell ⟨b, 1, none⟩ y).ownsRow B t sz v n xs := by
  have h1 := h.kept (grownBy_setCell' W b x) (by
    by_cases e : v.ownBlock = none
    · exact .inl e
    · exact .inr (fun e2 => hne b e2 rfl))
  refine h1.kept (w' := (W.setCell ⟨b, 0, none⟩ x).setCell ⟨b, 1, none⟩ y) (row := some b) ⟨rfl, rfl, rfl, by simp [World.setCell], fun k _ hk => Below.heap_setCell _ _ _ _ (fun e => hk (by rw [e]))⟩ (by
    by_cases e : v.ownBlock = none
    · exact .inl e
    · exact .inr (fun e2 => hne b e2 rfl))
theorem own_put {W : World} {B t sz n b o : Nat} {v : Value} {xs : List Value} (h : W.ownsRow B t sz v n xs) (hne : ∀ q, v.ownBlock = some q → q ≠ b) (x : Value) : (W.setCell ⟨b, o, none⟩ x).ownsRow B t sz v n xs :=
  h.kept (w' := W.setCell ⟨b, o, none⟩ x) (row := some b) ⟨rfl, rfl, rfl, by simp [World.setCell], fun k _ hk => Below.heap_setCell _ _ _ _ (fun e => hk (by rw [e]))⟩ (by
    by_cases e : v.ownBlock = none
    · exact .inl e
    · exact .inr (fun e2 => hne b e2 rfl))
theorem own_type {w : World} {B t sz n : Nat} {v : Value} {xs : List Value} (h : w.ownsRow B t sz v n xs) {g : Nat} (e : v.ownBlock = some g) : ∃ cs, w.heap[g]? = some (.cells cs t (0, 0)) := by
  rcases h.2 with ⟨h1, h2⟩ | ⟨g', cap, cur, h1, h2, h3, h4, h5, h6, h7⟩
  · rw [h1] at e; simp [Value.ownBlock] at e
  · rw [h1] at e
    have : g' = g := by simpa [Value.ownBlock] using e
    subst this
    exact ⟨cur, h3⟩
theorem eight_later {w X W : World} {p0 p1 p2 p3 p4 p5 p6 p7 : Addr} {v0 v1 v2 v3 v4 v5 v6 v7 : Value} (h : Ext w X ∧ X.cell? p0 = some v0 ∧ X.cell? p1 = some v1 ∧ X.cell? p2 = some v2 ∧ X.cell? p3 = some v3 ∧ X.cell? p4 = some v4 ∧ X.cell? p5 = some v5 ∧ X.cell? p6 = some v6 ∧ X.cell? p7 = some v7) (E : Ext X W) :
    Ext w W ∧ W.cell? p0 = some v0 ∧ W.cell? p1 = some v1 ∧ W.cell? p2 = some v2 ∧ W.cell? p3 = some v3 ∧ W.cell? p4 = some v4 ∧ W.cell? p5 = some v5 ∧ W.cell? p6 = some v6 ∧ W.cell? p7 = some v7 :=
  ⟨h.1.comp E, cell_laterA h.2.1 E, cell_laterA h.2.2.1 E, cell_laterA h.2.2.2.1 E, cell_laterA h.2.2.2.2.1 E, cell_laterA h.2.2.2.2.2.1 E, cell_laterA h.2.2.2.2.2.2.1 E, cell_laterA h.2.2.2.2.2.2.2.1 E, cell_laterA h.2.2.2.2.2.2.2.2 E⟩
def StsRes (os : List (Int × Bool)) (w : World) (e : Ending) (w' : World) : Prop := ∃ a c, e = .returned (.slice a os.length c) ∧ StsT w' a os ∧ Ext w w'
set_option maxRecDepth 100000 in
set_option maxHeartbeats 8000000 in
theorem rminute_any (o : Ov) (ho : OkO o) (a : Option Addr) (n c : Nat) (ss : List (Int × Bool)) (w : World) (hn : ss.length = n) (hbig : n ≤ 4800) (hI : StsAt w a ss) (hb : ∀ s ∈ ss, -600 ≤ s.1 ∧ s.1 ≤ 1100) :
    Calls Try.prog 76 #[.agg #[.int .i64 o.low, .int .i64 o.high, .int .i64 o.warm.lo, .int .i64 o.warm.hi, .int .i64 o.cool.lo, .int .i64 o.cool.hi], .slice a n c] w (StsRes (minL o ss) w) := by
  obtain ⟨i0, hi, hz0, hz1, hz2⟩ := info_parts Try.infoSt
  obtain ⟨M, hM⟩ : ∃ M : Nat, M = 4800 := ⟨_, rfl⟩
  have hmk : ∀ W, (Instr.makeSlice 83 (.int .i64 4800) (.int .i64 4800)).run Try.prog W = .ok (.slice (some ⟨W.heap.size, 0, none⟩) M M) (W.alloc (.cells (Array.replicate M (.bool false)) 4)) := fun W => by subst hM; exact makeB5 W 4800 (by omega)
  have hM1 : M ≤ 4800 := by omega
  have hM2 : 4800 ≤ M := by omega
  have HN := Lib.hid hn
  have HB := Lib.hid hb
  have HI := Lib.hid hI
  have HO := Lib.hid ho
  clear hM hn hb hI ho
  go_enter Try.func76, Try.ntmps76
  go_wp2_with fail
  have E0 : Ext w ((w.alloc (.cells #[.int .i64 o.low, .int .i64 o.high, .int .i64 o.warm.lo, .int .i64 o.warm.hi, .int .i64 o.cool.lo, .int .i64 o.cool.hi] 57)).alloc (.cells (Array.replicate M (.bool false)) 4)) := ((Ext.refl w).alloc _).alloc _
  have EB : Ext (w.alloc (.cells #[.int .i64 o.low, .int .i64 o.high, .int .i64 o.warm.lo, .int .i64 o.warm.hi, .int .i64 o.cool.lo, .int .i64 o.cool.hi] 57)) ((w.alloc (.cells #[.int .i64 o.low, .int .i64 o.high, .int .i64 o.warm.lo, .int .i64 o.warm.hi, .int .i64 o.cool.lo, .int .i64 o.cool.hi] 57)).alloc (.cells (Array.replicate M (.bool false)) 4)) := (Ext.refl _).alloc _
  have K0 : KB ((w.alloc (.cells #[.int .i64 o.low, .int .i64 o.high, .int .i64 o.warm.lo, .int .i64 o.warm.hi, .int .i64 o.cool.lo, .int .i64 o.cool.hi] 57)).alloc (.cells (Array.replicate M (.bool false)) 4)) (w.heap.size + 1) (fun _ => false) M := by
    have := KB.fresh (W := w.alloc (.cells #[.int .i64 o.low, .int .i64 o.high, .int .i64 o.warm.lo, .int .i64 o.warm.hi, .int .i64 o.cool.lo, .int .i64 o.cool.hi] 57)) (T := 4) (B := M)
    rwa [World.size_alloc] at this
  obtain ⟨bt, hbt⟩ : ∃ bt, w.heap.size + 1 = bt := ⟨_, rfl⟩
  rw [hbt] at K0 ⊢
  have HBT := Lib.hid hbt
  have hnb : bt + 1 ≤ ((w.alloc (.cells #[.int .i64 o.low, .int .i64 o.high, .int .i64 o.warm.lo, .int .i64 o.warm.hi, .int .i64 o.cool.lo, .int .i64 o.cool.hi] 57)).alloc (.cells (Array.replicate M (.bool false)) 4)).heap.size := by simp; omega
  generalize (w.alloc (.cells #[.int .i64 o.low, .int .i64 o.high, .int .i64 o.warm.lo, .int .i64 o.warm.hi, .int .i64 o.cool.lo, .int .i64 o.cool.hi] 57)).alloc (.cells (Array.replicate M (.bool false)) 4) = W0 at *
  clear hbt hmk
  go_loopw [7, 8] (fun s7 s8 X => ∃ k : Nat, k ≤ n ∧ s8 = .int .i64 k ∧ X.ownsRow (bt + 1) 106 2 s7 (minL o (ss.take k)).length (tv (minL o (ss.take k))) ∧ KB X bt (thereO (minL o (ss.take k))) M ∧ bt + 1 ≤ X.heap.size ∧ Below bt W0 X) (fun _ s8 _ => n - (Go.RowKit.intOf s8).toNat)
  case atStart => exact ⟨0, Nat.zero_le _, rfl, World.ownsRow_nil _ _ _ _, K0, hnb, Below.refl _ _⟩
  case round =>
    clear K0 hnb
    obtain ⟨k, hk, rfl, hown, KT, hX, EX⟩ := hrel
    obtain ⟨X, rfl⟩ : ∃ X : World, X = wr := ⟨_, rfl⟩
    by_cases hlt : k < n
    · have hltz : (k : Int) < (n : Int) := by omega
      rcases HI.out with e | ⟨b, off, rfl, hb, hc⟩
      · exfalso
        have := HN.out
        rw [e] at this; simp at this; omega
      have hcc := hc k (by rw [HN.out]; exact hlt)
      obtain ⟨s, hs⟩ : ∃ s, ss[k]?.getD (0, false) = s := ⟨_, rfl⟩
      rw [hs] at hcc
      have hbt := HBT.out
      have hbB : b < bt := by omega
      have x0 := (EX.cell (p := ⟨b, off + k * 2, none⟩) hbB).trans ((E0.cell (p := ⟨b, off + k * 2, none⟩) hb).trans hcc.1)
      have x1 := (EX.cell (p := ⟨b, off + k * 2 + 1, none⟩) hbB).trans ((E0.cell (p := ⟨b, off + k * 2 + 1, none⟩) hb).trans hcc.2)
      have hX0 := (E0.cell (p := ⟨b, off + k * 2, none⟩) hb).trans hcc.1
      have HX0 := Lib.hid hX0
      clear hX0
      have o0 := (EX.cell (p := ⟨w.heap.size, 0, none⟩) (by show w.heap.size < bt; omega)).trans (box_at (v := .int .i64 o.low) EB 0 rfl)
      have o1 := (EX.cell (p := ⟨w.heap.size, 1, none⟩) (by show w.heap.size < bt; omega)).trans (box_at (v := .int .i64 o.high) EB 1 rfl)
      have o2 := (EX.cell (p := ⟨w.heap.size, 2, none⟩) (by show w.heap.size < bt; omega)).trans (box_at (v := .int .i64 o.warm.lo) EB 2 rfl)
      have o3 := (EX.cell (p := ⟨w.heap.size, 3, none⟩) (by show w.heap.size < bt; omega)).trans (box_at (v := .int .i64 o.warm.hi) EB 3 rfl)
      have o4 := (EX.cell (p := ⟨w.heap.size, 4, none⟩) (by show w.heap.size < bt; omega)).trans (box_at (v := .int .i64 o.cool.lo) EB 4 rfl)
      have o5 := (EX.cell (p := ⟨w.heap.size, 5, none⟩) (by show w.heap.size < bt; omega)).trans (box_at (v := .int .i64 o.cool.hi) EB 5 rfl)
      have HS := Lib.hid (show ss.take (k + 1) = ss.take k ++ [s] from take_snoc (by rw [HN.out]; exact hlt) (0, false) hs)
      have hsm : s ∈ ss := by rw [← hs, List.getElem?_eq_getElem (by rw [HN.out]; exact hlt)]; exact List.getElem_mem _
      have hsb := HB.out s hsm
      have HTB := Lib.hid (fun m => minT_bd HO.out (ss := ss.take k) (s := s) (m := m) (fun x hx => HB.out x (List.mem_of_mem_take hx)) hsb)
      have HTA := Lib.hid (minT_all (o := o) (ss := ss.take k) (s := s))
      have hcall := fun W => rheats_any o s.1 s.2 W
      obtain ⟨s1, s2⟩ := s
      dsimp only at x0 x1 hcall hsb HTB HTA
      obtain ⟨hh, hhh⟩ : ∃ hh, heatsO o s1 s2 = hh := ⟨_, rfl⟩
      rw [hhh] at hcall HTB HTA
      clear hs hcc hc hhh hsm hbt
      cases hh with
      | true =>
        go_wp2_with fail
        go_region_held3 (fun w' => Ext X w' ∧ w'.cell? ⟨w.heap.size, 0, none⟩ = some (.int .i64 o.low) ∧ w'.cell? ⟨w.heap.size, 1, none⟩ = some (.int .i64 o.high) ∧ w'.cell? ⟨w.heap.size, 2, none⟩ = some (.int .i64 o.warm.lo) ∧ w'.cell? ⟨w.heap.size, 3, none⟩ = some (.int .i64 o.warm.hi) ∧ w'.cell? ⟨w.heap.size, 4, none⟩ = some (.int .i64 o.cool.lo) ∧ w'.cell? ⟨w.heap.size, 5, none⟩ = some (.int .i64 o.cool.hi) ∧ w'.cell? ⟨b, off + k * 2, none⟩ = some (.int .i64 s1) ∧ w'.cell? ⟨b, off + k * 2 + 1, none⟩ = some (.bool s2))
          (first | exact ⟨(Ext.refl X).drew, o0, o1, o2, o3, o4, o5, x0, x1⟩ | exact eight_later ⟨Ext.refl X, o0, o1, o2, o3, o4, o5, x0, x1⟩ hbx | exact eight_later ⟨Ext.refl X, o0, o1, o2, o3, o4, o5, x0, x1⟩ (Ext.alloc hbx _) | exact eight_later ⟨Ext.refl X, o0, o1, o2, o3, o4, o5, x0, x1⟩ (Ext.alloc (Ext.refl X).drew _) | exact eight_later ⟨Ext.refl X, o0, o1, o2, o3, o4, o5, x0, x1⟩ ((hbx.setCell (p := ⟨X.heap.size, 0, none⟩) (Nat.le_refl _) _).setCell (p := ⟨X.heap.size, 1, none⟩) (Nat.le_refl _) _))
          (first | (go_at_call 98; refine (hcall _).mono ?_; rintro e w' ⟨rfl, hb'⟩; first | (have hbx : Ext X w' := Ext.comp ((Ext.refl X).drew) hb') | ((have hbx : Ext X w' := Ext.comp (Ext.alloc ((Ext.refl X).drew) _) hb'); (have q0 : w'.cell? ⟨X.heap.size, 0, none⟩ = some (.int .i64 0) := box_at (w := X.drew) hb' 0 rfl); (have q1 : w'.cell? ⟨X.heap.size, 1, none⟩ = some (.int .i64 0) := box_at (w := X.drew) hb' 1 rfl); (have g0 : w'.frozen? ⟨X.heap.size, 0, none⟩ = false := box_free (w := X.drew) hb' 0); (have g1 : w'.frozen? ⟨X.heap.size, 1, none⟩ = false := box_free (w := X.drew) hb' 1))))
        all_goals
          have HO' := HO
          first
            | (have hb0 : w'.heap[X.heap.size]? = some (.cells #[.int .i64 0, .int .i64 0] 49 (0, 0)) := (hb'.block _ (by simp)).trans (heap_alloc_new X.drew _)
               have hb2 := heap_setCell_same _ X.heap.size 1 _ _ (.int .i64 o.cool.hi) (heap_setCell_same w' X.heap.size 0 _ _ (.int .i64 o.cool.lo) hb0)
               have hbb : ((w'.setCell ⟨X.heap.size, 0, none⟩ (.int .i64 o.cool.lo)).setCell ⟨X.heap.size, 1, none⟩ (.int .i64 o.cool.hi)).heap[X.heap.size]? = some (.cells #[.int .i64 o.cool.lo, .int .i64 o.cool.hi] 49 (0, 0)) := by simpa using hb2
               have EY : Ext X ((w'.setCell ⟨X.heap.size, 0, none⟩ (.int .i64 o.cool.lo)).setCell ⟨X.heap.size, 1, none⟩ (.int .i64 o.cool.hi)) := (hbx.setCell (p := ⟨X.heap.size, 0, none⟩) (Nat.le_refl _) _).setCell (p := ⟨X.heap.size, 1, none⟩) (Nat.le_refl _) _
               obtain ⟨bb, hbe⟩ : ∃ bb, X.heap.size = bb := ⟨_, rfl⟩
               have hbX : X.heap.size ≤ bb := by omega
               rw [hbe] at hbb EY ⊢
               clear hbx hb' hb0 hb2 q0 q1 g0 g1 hbe
               generalize (w'.setCell ⟨bb, 0, none⟩ (.int .i64 o.cool.lo)).setCell ⟨bb, 1, none⟩ (.int .i64 o.cool.hi) = Y at *
               skip)
            | (have hbb : (w'.alloc (.cells #[.int .i64 o.cool.lo, .int .i64 o.cool.hi] 49)).heap[w'.heap.size]? = some (.cells #[.int .i64 o.cool.lo, .int .i64 o.cool.hi] 49 (0, 0)) := heap_alloc_new w' _
               have EY : Ext X (w'.alloc (.cells #[.int .i64 o.cool.lo, .int .i64 o.cool.hi] 49)) := Ext.alloc hbx _
               have hbX : X.heap.size ≤ w'.heap.size := hbx.size
               clear hbx hb'
               generalize hYY : w'.alloc (.cells #[.int .i64 o.cool.lo, .int .i64 o.cool.hi] 49) = Y at *
               clear hYY
               generalize w'.heap.size = bb at *
               skip)
          clear HO'
          clear hcall
          have hownX := hown
          replace hown := own_ext hown EY
          replace KT := KT.ext EY
          have hYs := EY.size
          replace EX : Below bt W0 Y := EX.trans (Below.mono EY (by omega))
          replace o2 := cell_laterA o2 EY
          replace o3 := cell_laterA o3 EY
          have hx0 := HX0.out
          clear EY o0 o1 o4 o5 x0 x1
          have p0 := blk_cell hbb 0 (v := .int .i64 o.cool.lo) rfl
          have p1 := blk_cell hbb 1 (v := .int .i64 o.cool.hi) rfl
          have f0 := blk_free hbb 0
          have f1 := blk_free hbb 1
          (try go_frame)
          go_wp2_with fail
          have hb3 := heap_setCell_same _ bb 1 _ _ (.int .i64 o.warm.hi) (heap_setCell_same Y bb 0 _ _ (.int .i64 o.warm.lo) hbb)
          have hb4 : ((Y.setCell ⟨bb, 0, none⟩ (.int .i64 o.warm.lo)).setCell ⟨bb, 1, none⟩ (.int .i64 o.warm.hi)).heap[bb]? = some (.cells #[.int .i64 o.warm.lo, .int .i64 o.warm.hi] 49 (0, 0)) := by simpa using hb3
          have hown4 := hown_two hown (b := bb) (fun q e => by have := (hownX.lt q e).2; omega) (.int .i64 o.warm.lo) (.int .i64 o.warm.hi)
          have KT4 := (KT.other (p := ⟨bb, 0, none⟩) (v := .int .i64 o.warm.lo) (by show bb ≠ bt; omega)).other (p := ⟨bb, 1, none⟩) (v := .int .i64 o.warm.hi) (by show bb ≠ bt; omega)
          have EX4 : Below bt W0 ((Y.setCell ⟨bb, 0, none⟩ (.int .i64 o.warm.lo)).setCell ⟨bb, 1, none⟩ (.int .i64 o.warm.hi)) := (EX.setCell (p := ⟨bb, 0, none⟩) (by show bt ≤ bb; omega) _).setCell (p := ⟨bb, 1, none⟩) (by show bt ≤ bb; omega) _
          have hYs4 : Y.heap.size = ((Y.setCell ⟨bb, 0, none⟩ (.int .i64 o.warm.lo)).setCell ⟨bb, 1, none⟩ (.int .i64 o.warm.hi)).heap.size := by rw [World.size_setCell, World.size_setCell]
          clear hown KT EX p0 p1 f0 f1 hb3 hbb o2 o3 hownX
          generalize (Y.setCell ⟨bb, 0, none⟩ (.int .i64 o.warm.lo)).setCell ⟨bb, 1, none⟩ (.int .i64 o.warm.hi) = Z at *
          have hl0 := HO.out.w0
          have hby1 : (byO o true).lo = o.warm.lo := rfl
          have hby2 : (byO o true).hi = o.warm.hi := rfl
          rw [hby1, hby2] at HTB HTA
          obtain ⟨l0, l1, l2⟩ := hl0
          have HT2 := Lib.hid (fun m => minT_succ o (ss.take k) (s1, s2) true m)
          rw [hby1] at HT2
          clear hby1 hby2
          have hcc1 := fun W (E : Below bt W0 W) => (E.cell (p := ⟨b, off + k * 2, none⟩) hbB).trans hx0
          have HCC := Lib.hid hcc1
          clear hcc1
          go_wp2_with fail
          go_loopw [7, 13] (fun s7 s13 Z => ∃ m : Nat, m ≤ (o.warm.hi - o.warm.lo + 1).toNat ∧ s13 = .int .i64 (o.warm.lo + m) ∧ Z.ownsRow (bt + 1) 106 2 s7 (minT o (ss.take k) (s1, s2) true m).length (tv (minT o (ss.take k) (s1, s2) true m)) ∧ KB Z bt (thereO (minT o (ss.take k) (s1, s2) true m)) M ∧ Z.heap[bb]? = some (.cells #[.int .i64 o.warm.lo, .int .i64 o.warm.hi] 49 (0, 0)) ∧ bt + 1 ≤ Z.heap.size ∧ Below bt W0 Z) (fun _ s13 _ => (o.warm.hi + 1 - Go.RowKit.intOf s13).toNat)
          case atStart => exact ⟨0, Nat.zero_le _, by congr 1; omega, hown4, KT4, hb4, by omega, EX4⟩
          case round =>
            clear hown4 KT4 hb4 EX4 hYs4
            obtain ⟨m, hm, rfl, hown, KT, hbb, hZ, EZ⟩ := hrel
            obtain ⟨Z, rfl⟩ : ∃ Z : World, Z = wr := ⟨_, rfl⟩
            have p0 := blk_cell hbb 0 (v := .int .i64 o.warm.lo) rfl
            have p1 := blk_cell hbb 1 (v := .int .i64 o.warm.hi) rfl
            by_cases hlt2 : o.warm.lo + (m : Int) ≤ o.warm.hi
            · have x0 := HCC.out Z EZ
              have hT2 := HT2.out m
              obtain ⟨u, hu⟩ : ∃ u, o.warm.lo + (m : Int) = u := ⟨_, rfl⟩
              have hub : 0 ≤ u ∧ u ≤ 100 := by omega
              have HTE := Lib.hid (show o.warm.lo + ((m + 1 : Nat) : Int) = u + 1 by omega)
              have hm1 : m + 1 ≤ (o.warm.hi - o.warm.lo + 1).toNat := by omega
              have hme : (o.warm.hi + 1 - (u + 1)).toNat < (o.warm.hi + 1 - u).toNat := by omega
              rw [hu] at hT2 hlt2 ⊢
              obtain ⟨v, hv⟩ : ∃ v, s1 + u = v := ⟨_, rfl⟩
              have hT3 : minT o (ss.take k) (s1, s2) true (m + 1) = addS (minT o (ss.take k) (s1, s2) true m) (v, true) := by rw [hT2, ← hv]; rfl
              have hbdd := HTB.out m hm
              have hlen5 := hbdd.2
              have HBD := Lib.hid hbdd.1
              have hvd : bdO (v, true) := (HTB.out (m + 1) (by omega)).1 (v, true) (by rw [hT3, mem_addS]; exact .inr rfl)
              have hvb0 : -1200 ≤ v := hvd.1
              have hvb1 : v < 1200 := hvd.2
              have hidx : idxO (v, true) = (2400 + v + 1200).toNat := by unfold idxO; rw [if_pos rfl]; dsimp only; omega
              obtain ⟨os, hos⟩ : ∃ os, minT o (ss.take k) (s1, s2) true m = os := ⟨_, rfl⟩
              rw [hos] at hown KT hT3 hlen5 HBD
              have hiM : (2400 + v + 1200).toNat < M := by omega
              have c0 := KT.at_ _ hiM
              have c1 := KT.free _ hiM
              have HV := Lib.hid hv
              have HVD := Lib.hid hvd
              have HT3 := Lib.hid hT3
              have HIX := Lib.hid hidx
              obtain ⟨hub0, hub1⟩ := hub
              clear hT2 hu hT3 hbdd hvd hidx hos
              cases hth : thereO os (2400 + v + 1200).toNat with
              | true =>
                rw [hth] at c0
                have HAD := Lib.hid (show addS os (v, true) = os from thereO_yes HBD.out HVD.out (by rw [HIX.out]; exact hth))
                clear hth
                go_wp2
                go_roundw
                case rel => exact ⟨m + 1, hm1, by rw [HTE.out], by rw [HT3.out, HAD.out]; exact hown, by rw [HT3.out, HAD.out]; exact KT, hbb, hZ, EZ⟩
                case measure => simp only [Go.RowKit.intOf]; exact hme
              | false =>
                rw [hth] at c0
                have HAD := Lib.hid (show addS os (v, true) = os ++ [(v, true)] from thereO_no (by rw [HIX.out]; exact hth))
                clear hth
                have hownS := own_put hown (b := bt) (o := (2400 + v + 1200).toNat) (fun q e => by have := (hown.lt q e).1; omega) (.bool true)
                have hcell : ∀ j u, [Value.int .i64 v, Value.bool true][j]? = some u → ((Z.setCell ⟨bt, (2400 + v + 1200).toNat, none⟩ (.bool true)).alloc (.cells #[.int .i64 v, .bool true] 106)).cell? ((⟨Z.heap.size, 0, none⟩ : Addr).add j) = some u := by
                  have := cell_two_new2 (Z.setCell ⟨bt, (2400 + v + 1200).toNat, none⟩ (.bool true)) (.int .i64 v) (.bool true) 106
                  rwa [World.size_setCell] at this
                go_wp2_with (at_builtin; refine wpList_append_own _ rfl _ _ 102 rfl (bt + 1) 106 i0 (.agg #[.int .i64 0, .bool false]) 2 16 Try.underlying102 hi hz0 hz1 hz2 rfl (by decide) _ _ _ rfl (hownS.alloc _) ⟨Z.heap.size, 0, none⟩ 1 1 [.int .i64 v, .bool true] rfl rfl hcell (by simp [Value.oneCell']) (by unfold maxLen; omega) (by omega) (by simp; omega) ?_; intro v' w3 hown' hgrow hnil; clear hnil)
                have KT1 := KB.ext (KT.put (v := true) hiM) ((Ext.refl _).alloc (.cells #[.int .i64 v, .bool true] 106))
                have hbS := blk_put hbb (c := bt) (o := (2400 + v + 1200).toNat) (v := .bool true) (by omega)
                have hbA := (((Ext.refl (Z.setCell ⟨bt, (2400 + v + 1200).toNat, none⟩ (.bool true))).alloc (.cells #[.int .i64 v, .bool true] 106)).block bb (Array.getElem?_eq_some_iff.1 hbS).1).trans hbS
                have KT2 : KB w3 bt _ M := KB.same KT1 (hgrow.block _ KT1.lt (fun e => by have := (hownS.lt _ e.symm).1; omega))
                have hb3 := (hgrow.block _ (Array.getElem?_eq_some_iff.1 hbA).1 (fun e => by obtain ⟨cs, hcs⟩ := own_type hownS e.symm; rw [hbS] at hcs; exact absurd hcs (by simp))).trans hbA
                have EZ3 : Below bt W0 w3 := ((EZ.setCell (p := ⟨bt, (2400 + v + 1200).toNat, none⟩) (Nat.le_refl _) (.bool true)).alloc (by rw [World.size_setCell]; omega) _).grown hgrow (by simp; omega) (fun q e => by have := (hownS.lt q e).1; omega)
                have hZ3 : bt + 1 ≤ w3.heap.size := by
                  have := hgrow.size
                  simp at this
                  omega
                have hm3 : minT o (ss.take k) (s1, s2) true (m + 1) = os ++ [(v, true)] := by rw [HT3.out, HAD.out]
                have hown3 : w3.ownsRow (bt + 1) 106 2 v' (minT o (ss.take k) (s1, s2) true (m + 1)).length (tv (minT o (ss.take k) (s1, s2) true (m + 1))) := by
                  rw [hm3, tv_snoc, List.length_append, List.length_singleton]; exact hown'
                have KT3 : KB w3 bt (thereO (minT o (ss.take k) (s1, s2) true (m + 1))) M := by
                  rw [hm3]
                  exact KT2.congr (fun i hi => by rw [thereO_put, HIX.out])
                clear hown hown' hgrow hownS hcell KT KT1 KT2 hbS hbA hbb EZ hm3 c0 c1 p0 p1 x0
                go_wp2
                go_roundw
                case rel => exact ⟨m + 1, hm1, by rw [HTE.out], hown3, KT3, hb3, hZ3, EZ3⟩
                case measure => simp only [Go.RowKit.intOf]; exact hme
            · have hmL : m = (o.warm.hi - o.warm.lo + 1).toNat := by omega
              have hmk : minT o (ss.take k) (s1, s2) true m = minL o (ss.take (k + 1)) := by rw [hmL, HTA.out, HS.out]
              rw [hmk] at hown KT
              clear hmL hmk
              go_wp2
              go_roundw
              case rel => exact ⟨k + 1, by omega, by go_num, hown, KT, hZ, EZ⟩
              case measure => simp [Go.RowKit.intOf]; omega
      | false =>
        go_wp2_with fail
        go_region_held3 (fun w' => Ext X w' ∧ w'.cell? ⟨w.heap.size, 0, none⟩ = some (.int .i64 o.low) ∧ w'.cell? ⟨w.heap.size, 1, none⟩ = some (.int .i64 o.high) ∧ w'.cell? ⟨w.heap.size, 2, none⟩ = some (.int .i64 o.warm.lo) ∧ w'.cell? ⟨w.heap.size, 3, none⟩ = some (.int .i64 o.warm.hi) ∧ w'.cell? ⟨w.heap.size, 4, none⟩ = some (.int .i64 o.cool.lo) ∧ w'.cell? ⟨w.heap.size, 5, none⟩ = some (.int .i64 o.cool.hi) ∧ w'.cell? ⟨b, off + k * 2, none⟩ = some (.int .i64 s1) ∧ w'.cell? ⟨b, off + k * 2 + 1, none⟩ = some (.bool s2))
          (first | exact ⟨(Ext.refl X).drew, o0, o1, o2, o3, o4, o5, x0, x1⟩ | exact eight_later ⟨Ext.refl X, o0, o1, o2, o3, o4, o5, x0, x1⟩ hbx | exact eight_later ⟨Ext.refl X, o0, o1, o2, o3, o4, o5, x0, x1⟩ (Ext.alloc hbx _) | exact eight_later ⟨Ext.refl X, o0, o1, o2, o3, o4, o5, x0, x1⟩ (Ext.alloc (Ext.refl X).drew _) | exact eight_later ⟨Ext.refl X, o0, o1, o2, o3, o4, o5, x0, x1⟩ ((hbx.setCell (p := ⟨X.heap.size, 0, none⟩) (Nat.le_refl _) _).setCell (p := ⟨X.heap.size, 1, none⟩) (Nat.le_refl _) _))
          (first | (go_at_call 98; refine (hcall _).mono ?_; rintro e w' ⟨rfl, hb'⟩; first | (have hbx : Ext X w' := Ext.comp ((Ext.refl X).drew) hb') | ((have hbx : Ext X w' := Ext.comp (Ext.alloc ((Ext.refl X).drew) _) hb'); (have q0 : w'.cell? ⟨X.heap.size, 0, none⟩ = some (.int .i64 0) := box_at (w := X.drew) hb' 0 rfl); (have q1 : w'.cell? ⟨X.heap.size, 1, none⟩ = some (.int .i64 0) := box_at (w := X.drew) hb' 1 rfl); (have g0 : w'.frozen? ⟨X.heap.size, 0, none⟩ = false := box_free (w := X.drew) hb' 0); (have g1 : w'.frozen? ⟨X.heap.size, 1, none⟩ = false := box_free (w := X.drew) hb' 1))))
        all_goals
          have HO' := HO
          first
            | (have hb0 : w'.heap[X.heap.size]? = some (.cells #[.int .i64 0, .int .i64 0] 49 (0, 0)) := (hb'.block _ (by simp)).trans (heap_alloc_new X.drew _)
               have hb2 := heap_setCell_same _ X.heap.size 1 _ _ (.int .i64 o.cool.hi) (heap_setCell_same w' X.heap.size 0 _ _ (.int .i64 o.cool.lo) hb0)
               have hbb : ((w'.setCell ⟨X.heap.size, 0, none⟩ (.int .i64 o.cool.lo)).setCell ⟨X.heap.size, 1, none⟩ (.int .i64 o.cool.hi)).heap[X.heap.size]? = some (.cells #[.int .i64 o.cool.lo, .int .i64 o.cool.hi] 49 (0, 0)) := by simpa using hb2
               have EY : Ext X ((w'.setCell ⟨X.heap.size, 0, none⟩ (.int .i64 o.cool.lo)).setCell ⟨X.heap.size, 1, none⟩ (.int .i64 o.cool.hi)) := (hbx.setCell (p := ⟨X.heap.size, 0, none⟩) (Nat.le_refl _) _).setCell (p := ⟨X.heap.size, 1, none⟩) (Nat.le_refl _) _
               obtain ⟨bb, hbe⟩ : ∃ bb, X.heap.size = bb := ⟨_, rfl⟩
               have hbX : X.heap.size ≤ bb := by omega
               rw [hbe] at hbb EY ⊢
               clear hbx hb' hb0 hb2 q0 q1 g0 g1 hbe
               generalize (w'.setCell ⟨bb, 0, none⟩ (.int .i64 o.cool.lo)).setCell ⟨bb, 1, none⟩ (.int .i64 o.cool.hi) = Y at *
               skip)
            | (have hbb : (w'.alloc (.cells #[.int .i64 o.cool.lo, .int .i64 o.cool.hi] 49)).heap[w'.heap.size]? = some (.cells #[.int .i64 o.cool.lo, .int .i64 o.cool.hi] 49 (0, 0)) := heap_alloc_new w' _
               have EY : Ext X (w'.alloc (.cells #[.int .i64 o.cool.lo, .int .i64 o.cool.hi] 49)) := Ext.alloc hbx _
               have hbX : X.heap.size ≤ w'.heap.size := hbx.size
               clear hbx hb'
               generalize hYY : w'.alloc (.cells #[.int .i64 o.cool.lo, .int .i64 o.cool.hi] 49) = Y at *
               clear hYY
               generalize w'.heap.size = bb at *
               skip)
          clear HO'
          clear hcall
          have hownX := hown
          replace hown := own_ext hown EY
          replace KT := KT.ext EY
          have hYs := EY.size
          replace EX : Below bt W0 Y := EX.trans (Below.mono EY (by omega))
          replace o2 := cell_laterA o2 EY
          replace o3 := cell_laterA o3 EY
          have hx0 := HX0.out
          clear EY o0 o1 o4 o5 x0 x1
          have p0 := blk_cell hbb 0 (v := .int .i64 o.cool.lo) rfl
          have p1 := blk_cell hbb 1 (v := .int .i64 o.cool.hi) rfl
          have f0 := blk_free hbb 0
          have f1 := blk_free hbb 1
          (try go_frame)
          go_wp2_with fail
          have hb4 := hbb
          have hown4 := hown
          have KT4 := KT
          have EX4 := EX
          have hYs4 : Y.heap.size = Y.heap.size := rfl
          clear hown KT EX p0 p1 f0 f1 hbb o2 o3 hownX
          obtain ⟨Z, rfl⟩ : ∃ Z : World, Z = Y := ⟨_, rfl⟩
          have hl0 := HO.out.c0
          have hby1 : (byO o false).lo = o.cool.lo := rfl
          have hby2 : (byO o false).hi = o.cool.hi := rfl
          rw [hby1, hby2] at HTB HTA
          obtain ⟨l0, l1, l2⟩ := hl0
          have HT2 := Lib.hid (fun m => minT_succ o (ss.take k) (s1, s2) false m)
          rw [hby1] at HT2
          clear hby1 hby2
          have hcc1 := fun W (E : Below bt W0 W) => (E.cell (p := ⟨b, off + k * 2, none⟩) hbB).trans hx0
          have HCC := Lib.hid hcc1
          clear hcc1
          go_wp2_with fail
          go_loopw [7, 13] (fun s7 s13 Z => ∃ m : Nat, m ≤ (o.cool.hi - o.cool.lo + 1).toNat ∧ s13 = .int .i64 (o.cool.lo + m) ∧ Z.ownsRow (bt + 1) 106 2 s7 (minT o (ss.take k) (s1, s2) false m).length (tv (minT o (ss.take k) (s1, s2) false m)) ∧ KB Z bt (thereO (minT o (ss.take k) (s1, s2) false m)) M ∧ Z.heap[bb]? = some (.cells #[.int .i64 o.cool.lo, .int .i64 o.cool.hi] 49 (0, 0)) ∧ bt + 1 ≤ Z.heap.size ∧ Below bt W0 Z) (fun _ s13 _ => (o.cool.hi + 1 - Go.RowKit.intOf s13).toNat)
          case atStart => exact ⟨0, Nat.zero_le _, by congr 1; omega, hown4, KT4, hb4, by omega, EX4⟩
          case round =>
            clear hown4 KT4 hb4 EX4 hYs4
            obtain ⟨m, hm, rfl, hown, KT, hbb, hZ, EZ⟩ := hrel
            obtain ⟨Z, rfl⟩ : ∃ Z : World, Z = wr := ⟨_, rfl⟩
            have p0 := blk_cell hbb 0 (v := .int .i64 o.cool.lo) rfl
            have p1 := blk_cell hbb 1 (v := .int .i64 o.cool.hi) rfl
            by_cases hlt2 : o.cool.lo + (m : Int) ≤ o.cool.hi
            · have x0 := HCC.out Z EZ
              have hT2 := HT2.out m
              obtain ⟨u, hu⟩ : ∃ u, o.cool.lo + (m : Int) = u := ⟨_, rfl⟩
              have hub : 0 ≤ u ∧ u ≤ 100 := by omega
              have HTE := Lib.hid (show o.cool.lo + ((m + 1 : Nat) : Int) = u + 1 by omega)
              have hm1 : m + 1 ≤ (o.cool.hi - o.cool.lo + 1).toNat := by omega
              have hme : (o.cool.hi + 1 - (u + 1)).toNat < (o.cool.hi + 1 - u).toNat := by omega
              rw [hu] at hT2 hlt2 ⊢
              obtain ⟨v, hv⟩ : ∃ v, s1 + -u = v := ⟨_, rfl⟩
              have hT3 : minT o (ss.take k) (s1, s2) false (m + 1) = addS (minT o (ss.take k) (s1, s2) false m) (v, false) := by rw [hT2, ← hv]; rw [← Int.sub_eq_add_neg]; rfl
              have hbdd := HTB.out m hm
              have hlen5 := hbdd.2
              have HBD := Lib.hid hbdd.1
              have hvd : bdO (v, false) := (HTB.out (m + 1) (by omega)).1 (v, false) (by rw [hT3, mem_addS]; exact .inr rfl)
              have hvb0 : -1200 ≤ v := hvd.1
              have hvb1 : v < 1200 := hvd.2
              have hidx : idxO (v, false) = (v + 1200).toNat := by unfold idxO; rw [if_neg (by simp)]; dsimp only; omega
              obtain ⟨os, hos⟩ : ∃ os, minT o (ss.take k) (s1, s2) false m = os := ⟨_, rfl⟩
              rw [hos] at hown KT hT3 hlen5 HBD
              have hiM : (v + 1200).toNat < M := by omega
              have c0 := KT.at_ _ hiM
              have c1 := KT.free _ hiM
              have HV := Lib.hid hv
              have HVD := Lib.hid hvd
              have HT3 := Lib.hid hT3
              have HIX := Lib.hid hidx
              obtain ⟨hub0, hub1⟩ := hub
              clear hT2 hu hT3 hbdd hvd hidx hos
              cases hth : thereO os (v + 1200).toNat with
              | true =>
                rw [hth] at c0
                have HAD := Lib.hid (show addS os (v, false) = os from thereO_yes HBD.out HVD.out (by rw [HIX.out]; exact hth))
                clear hth
                go_wp2
                go_roundw
                case rel => exact ⟨m + 1, hm1, by rw [HTE.out], by rw [HT3.out, HAD.out]; exact hown, by rw [HT3.out, HAD.out]; exact KT, hbb, hZ, EZ⟩
                case measure => simp only [Go.RowKit.intOf]; exact hme
              | false =>
                rw [hth] at c0
                have HAD := Lib.hid (show addS os (v, false) = os ++ [(v, false)] from thereO_no (by rw [HIX.out]; exact hth))
                clear hth
                have hownS := own_put hown (b := bt) (o := (v + 1200).toNat) (fun q e => by have := (hown.lt q e).1; omega) (.bool true)
                have hcell : ∀ j u, [Value.int .i64 v, Value.bool false][j]? = some u → ((Z.setCell ⟨bt, (v + 1200).toNat, none⟩ (.bool true)).alloc (.cells #[.int .i64 v, .bool false] 106)).cell? ((⟨Z.heap.size, 0, none⟩ : Addr).add j) = some u := by
                  have := cell_two_new2 (Z.setCell ⟨bt, (v + 1200).toNat, none⟩ (.bool true)) (.int .i64 v) (.bool false) 106
                  rwa [World.size_setCell] at this
                go_wp2_with (at_builtin; refine wpList_append_own _ rfl _ _ 102 rfl (bt + 1) 106 i0 (.agg #[.int .i64 0, .bool false]) 2 16 Try.underlying102 hi hz0 hz1 hz2 rfl (by decide) _ _ _ rfl (hownS.alloc _) ⟨Z.heap.size, 0, none⟩ 1 1 [.int .i64 v, .bool false] rfl rfl hcell (by simp [Value.oneCell']) (by unfold maxLen; omega) (by omega) (by simp; omega) ?_; intro v' w3 hown' hgrow hnil; clear hnil)
                have KT1 := KB.ext (KT.put (v := true) hiM) ((Ext.refl _).alloc (.cells #[.int .i64 v, .bool false] 106))
                have hbS := blk_put hbb (c := bt) (o := (v + 1200).toNat) (v := .bool true) (by omega)
                have hbA := (((Ext.refl (Z.setCell ⟨bt, (v + 1200).toNat, none⟩ (.bool true))).alloc (.cells #[.int .i64 v, .bool false] 106)).block bb (Array.getElem?_eq_some_iff.1 hbS).1).trans hbS
                have KT2 : KB w3 bt _ M := KB.same KT1 (hgrow.block _ KT1.lt (fun e => by have := (hownS.lt _ e.symm).1; omega))
                have hb3 := (hgrow.block _ (Array.getElem?_eq_some_iff.1 hbA).1 (fun e => by obtain ⟨cs, hcs⟩ := own_type hownS e.symm; rw [hbS] at hcs; exact absurd hcs (by simp))).trans hbA
                have EZ3 : Below bt W0 w3 := ((EZ.setCell (p := ⟨bt, (v + 1200).toNat, none⟩) (Nat.le_refl _) (.bool true)).alloc (by rw [World.size_setCell]; omega) _).grown hgrow (by simp; omega) (fun q e => by have := (hownS.lt q e).1; omega)
                have hZ3 : bt + 1 ≤ w3.heap.size := by
                  have := hgrow.size
                  simp at this
                  omega
                have hm3 : minT o (ss.take k) (s1, s2) false (m + 1) = os ++ [(v, false)] := by rw [HT3.out, HAD.out]
                have hown3 : w3.ownsRow (bt + 1) 106 2 v' (minT o (ss.take k) (s1, s2) false (m + 1)).length (tv (minT o (ss.take k) (s1, s2) false (m + 1))) := by
                  rw [hm3, tv_snoc, List.length_append, List.length_singleton]; exact hown'
                have KT3 : KB w3 bt (thereO (minT o (ss.take k) (s1, s2) false (m + 1))) M := by
                  rw [hm3]
                  exact KT2.congr (fun i hi => by rw [thereO_put, HIX.out])
                clear hown hown' hgrow hownS hcell KT KT1 KT2 hbS hbA hbb EZ hm3 c0 c1 p0 p1 x0
                go_wp2
                go_roundw
                case rel => exact ⟨m + 1, hm1, by rw [HTE.out], hown3, KT3, hb3, hZ3, EZ3⟩
                case measure => simp only [Go.RowKit.intOf]; exact hme
            · have hmL : m = (o.cool.hi - o.cool.lo + 1).toNat := by omega
              have hmk : minT o (ss.take k) (s1, s2) false m = minL o (ss.take (k + 1)) := by rw [hmL, HTA.out, HS.out]
              rw [hmk] at hown KT
              clear hmL hmk
              go_wp2
              go_roundw
              case rel => exact ⟨k + 1, by omega, by go_num, hown, KT, hZ, EZ⟩
              case measure => simp [Go.RowKit.intOf]; omega
    · have hltz : ¬ (k : Int) < (n : Int) := by omega
      obtain rfl : k = n := by omega
      rw [show ss.take k = ss from List.take_of_length_le (by rw [HN.out]; exact Nat.le_refl _)] at hown
      obtain ⟨a', c', rfl⟩ := own_form3 hown
      have hEw : Ext w X := E0.trans (Below.mono EX (by have := HBT.out; omega))
      go_wp2
      exact bodyPost_ret (v := .slice a' (minL o ss).length c') (by simp [results, Try.results76, go_sem]) rfl ⟨a', c', rfl, own_sts rfl hown, hEw⟩
end Go.Proofs.Ytkkchoinfdfiaaa
