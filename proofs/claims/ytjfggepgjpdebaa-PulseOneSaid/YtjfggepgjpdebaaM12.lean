import Derived.Deep.DeepCutAuto
import Derived.Outline
import Derived.Test.YtjfggepgjpdebaaM2
import Derived.Test.YtjfggepgjpdebaaM11
import Derived.Test.YtjfggepgjpdebaaM9
import Derived.Test.YtjfggepgjpdebaaM1
set_option linter.unusedVariables false
set_option linter.unusedSimpArgs false
/- Three copies that a region makes of three lists, in whatever order: what has been made so far. -/
namespace Go.Proofs.Ytjfggepgjpdebaa
open Go.RowKit Go.Q
/-- block b holds nothing, and was laid since W1 -/
def Emp (W1 w : World) (b : Nat) : Prop := W1.heap.size ≤ b ∧ w.heap[b]? = some (.cells #[] 3 (0, 0))
theorem Emp.lt {W1 w : World} {b : Nat} (h : Emp W1 w b) : b < w.heap.size := lt_of_block h.2
theorem Emp.alloc {W1 w : World} {b : Nat} (h : Emp W1 w b) (o : Obj) : Emp W1 (w.alloc o) b := ⟨h.1, by
  have := h.lt
  show (w.heap.push o)[b]? = _
  rw [Array.getElem?_push, if_neg (by omega)]; exact h.2⟩
theorem Emp.new {W1 w : World} (hE : Ext W1 w) : Emp W1 (w.alloc (.cells #[] 3)) w.heap.size := ⟨hE.size, heap_alloc_new w _⟩
theorem Emp.grown {W1 w w' : World} {b c : Nat} (h : Emp W1 w b) (hg : w.grownBy w' (some c)) (hne : b ≠ c) : Emp W1 w' b := ⟨h.1, (hg.block b h.lt (fun e => hne (by simpa using e))).trans h.2⟩
theorem ints_emp {W1 w w' : World} {a : Option Addr} {xs : List Int} {c : Nat} (h : IntsAt w a xs) (he : Emp W1 w c) (hg : w.grownBy w' (some c)) : IntsAt w' a xs := by
  rcases h with h | ⟨b, off, ha, hb, hc⟩
  · exact .inl h
  · by_cases hx : xs = []
    · exact .inl hx
    · have h0 : 0 < xs.length := by
        cases xs with
        | nil => exact absurd rfl hx
        | cons x t => simp
      have hne : b ≠ c := fun e => by
        have h1 := hc 0 h0
        subst e
        have h2 := he.2
        simp only [World.cell?, h2] at h1
        simp at h1
      exact .inr ⟨b, off, ha, Nat.lt_of_lt_of_le hb hg.size, fun i hi => (World.cell?_of_block (hg.block b hb (fun e => hne (by simpa using e)))).trans (hc i hi)⟩
/-- the list lies in a block that was laid since W1 -/
def IntsN (W1 w : World) (a : Option Addr) (xs : List Int) : Prop := IntsAt w a xs ∧ ∀ b off, a = some ⟨b, off, none⟩ → W1.heap.size ≤ b
theorem IntsN.ext {W1 w w' : World} {a : Option Addr} {xs : List Int} (h : IntsN W1 w a xs) (E : Ext w w') : IntsN W1 w' a xs := ⟨h.1.ext E, h.2⟩
theorem IntsN.emp {W1 w w' : World} {a : Option Addr} {xs : List Int} {c : Nat} (h : IntsN W1 w a xs) (he : Emp W1 w c) (hg : w.grownBy w' (some c)) : IntsN W1 w' a xs := ⟨ints_emp h.1 he hg, h.2⟩
theorem IntsN.own {W1 w : World} {a : Option Addr} {n c : Nat} {xs : List Int} (h : w.ownsRow W1.heap.size 3 1 (.slice a n c) n (iv xs)) : IntsN W1 w a xs := ⟨own_ints h, fun b off e => by
  rcases h.2 with ⟨h1, _⟩ | ⟨g, cap, cur, h1, hg, _⟩
  · rw [e] at h1; cases h1
  · rw [e] at h1
    simp only [Value.slice.injEq, Option.some.injEq, Addr.mk.injEq] at h1
    obtain ⟨⟨rfl, _⟩, _⟩ := h1
    exact hg⟩
theorem IntsN.put {W1 w : World} {a : Option Addr} {xs : List Int} {p : Addr} (h : IntsN W1 w a xs) (hp : p.block < W1.heap.size) (u : Value) : IntsN W1 (w.setCell p u) a xs := ⟨by
  rcases h.1 with h1 | ⟨b, off, ha, hb, hc⟩
  · exact .inl h1
  · exact .inr ⟨b, off, ha, by simpa [World.setCell] using hb, fun i hi => (World.cell?_setCell_other w p _ u (fun e => by
      have e2 : b = p.block := by rw [e]
      have := h.2 b off ha
      omega)).trans (hc i hi)⟩, h.2⟩
theorem Emp.own {W1 w : World} {b : Nat} (h : Emp W1 w b) : w.ownsRow W1.heap.size 3 1 (.slice (some ⟨b, 0, none⟩) 0 0) 0 [] :=
  ⟨by simp, .inr ⟨b, 0, #[], rfl, h.1, h.2, Nat.le_refl _, Nat.zero_le _, by simp, by simp⟩⟩
/-- what has been made so far: e: the empty slices; d: the copies -/
def Rows3 (W1 : World) (xs0 xs1 xs2 : List Int) (e0 d0 e1 d1 e2 d2 : Bool) (b0 b1 b2 : Nat) (r0 r1 r2 : Option Addr) (w : World) : Prop :=
  Ext W1 w ∧ (e0 = true → d0 = false → Emp W1 w b0) ∧ (e1 = true → d1 = false → Emp W1 w b1) ∧ (e2 = true → d2 = false → Emp W1 w b2) ∧
  (e0 = true → e1 = true → b0 ≠ b1) ∧ (e0 = true → e2 = true → b0 ≠ b2) ∧ (e1 = true → e2 = true → b1 ≠ b2) ∧
  (e0 = true → b0 < w.heap.size) ∧ (e1 = true → b1 < w.heap.size) ∧ (e2 = true → b2 < w.heap.size) ∧
  (d0 = true → IntsN W1 w r0 xs0) ∧ (d1 = true → IntsN W1 w r1 xs1) ∧ (d2 = true → IntsN W1 w r2 xs2)
section
variable {W1 w w' : World} {xs0 xs1 xs2 : List Int} {e0 d0 e1 d1 e2 d2 : Bool} {b0 b1 b2 : Nat} {r0 r1 r2 r : Option Addr}
theorem Rows3.start (W1 : World) (xs0 xs1 xs2 : List Int) (b0 b1 b2 : Nat) (r0 r1 r2 : Option Addr) : Rows3 W1 xs0 xs1 xs2 false false false false false false b0 b1 b2 r0 r1 r2 W1.drew :=
  ⟨(Ext.refl W1).drew, nofun, nofun, nofun, nofun, nofun, nofun, nofun, nofun, nofun, nofun, nofun, nofun⟩
theorem Rows3.rot (h : Rows3 W1 xs0 xs1 xs2 e0 d0 e1 d1 e2 d2 b0 b1 b2 r0 r1 r2 w) : Rows3 W1 xs1 xs2 xs0 e1 d1 e2 d2 e0 d0 b1 b2 b0 r1 r2 r0 w := by
  obtain ⟨E, m0, m1, m2, n01, n02, n12, z0, z1, z2, i0, i1, i2⟩ := h
  exact ⟨E, m1, m2, m0, n12, fun a b => (n01 b a).symm, fun a b => (n02 b a).symm, z1, z2, z0, i1, i2, i0⟩
theorem Rows3.mk0 (h : Rows3 W1 xs0 xs1 xs2 e0 false e1 d1 e2 d2 b0 b1 b2 r0 r1 r2 w) : Rows3 W1 xs0 xs1 xs2 true false e1 d1 e2 d2 w.heap.size b1 b2 r0 r1 r2 (w.alloc (.cells #[] 3)) := by
  obtain ⟨E, m0, m1, m2, n01, n02, n12, z0, z1, z2, i0, i1, i2⟩ := h
  have hs : (w.alloc (.cells #[] 3)).heap.size = w.heap.size + 1 := by simp
  have E' : Ext w (w.alloc (.cells #[] 3)) := (Ext.refl w).alloc _
  refine ⟨E.alloc _, fun _ _ => Emp.new E, fun a b => (m1 a b).alloc _, fun a b => (m2 a b).alloc _, fun _ a => ?_, fun _ a => ?_, n12, fun _ => by rw [hs]; omega, fun a => by rw [hs]; have := z1 a; omega, fun a => by rw [hs]; have := z2 a; omega, nofun, fun a => (i1 a).ext E', fun a => (i2 a).ext E'⟩
  · have := z1 a; omega
  · have := z2 a; omega
theorem Rows3.app0 (h : Rows3 W1 xs0 xs1 xs2 true false e1 d1 e2 d2 b0 b1 b2 r0 r1 r2 w) (hI : IntsN W1 w' r xs0) (hE : Ext W1 w') (hg : w.grownBy w' (some b0)) : Rows3 W1 xs0 xs1 xs2 true true e1 d1 e2 d2 b0 b1 b2 r r1 r2 w' := by
  obtain ⟨E, m0, m1, m2, n01, n02, n12, z0, z1, z2, i0, i1, i2⟩ := h
  have M0 := m0 rfl rfl
  have hs := hg.size
  exact ⟨hE, nofun, fun a b => (m1 a b).grown hg (n01 rfl a).symm, fun a b => (m2 a b).grown hg (n02 rfl a).symm, n01, n02, n12, fun a => Nat.lt_of_lt_of_le (z0 a) hs, fun a => Nat.lt_of_lt_of_le (z1 a) hs, fun a => Nat.lt_of_lt_of_le (z2 a) hs, fun _ => hI, fun a => (i1 a).emp M0 hg, fun a => (i2 a).emp M0 hg⟩
theorem Rows3.mk1 (h : Rows3 W1 xs0 xs1 xs2 e0 d0 e1 false e2 d2 b0 b1 b2 r0 r1 r2 w) : Rows3 W1 xs0 xs1 xs2 e0 d0 true false e2 d2 b0 w.heap.size b2 r0 r1 r2 (w.alloc (.cells #[] 3)) := h.rot.mk0.rot.rot
theorem Rows3.mk2 (h : Rows3 W1 xs0 xs1 xs2 e0 d0 e1 d1 e2 false b0 b1 b2 r0 r1 r2 w) : Rows3 W1 xs0 xs1 xs2 e0 d0 e1 d1 true false b0 b1 w.heap.size r0 r1 r2 (w.alloc (.cells #[] 3)) := h.rot.rot.mk0.rot
theorem Rows3.app1 (h : Rows3 W1 xs0 xs1 xs2 e0 d0 true false e2 d2 b0 b1 b2 r0 r1 r2 w) (hI : IntsN W1 w' r xs1) (hE : Ext W1 w') (hg : w.grownBy w' (some b1)) : Rows3 W1 xs0 xs1 xs2 e0 d0 true true e2 d2 b0 b1 b2 r0 r r2 w' := (h.rot.app0 hI hE hg).rot.rot
theorem Rows3.app2 (h : Rows3 W1 xs0 xs1 xs2 e0 d0 e1 d1 true false b0 b1 b2 r0 r1 r2 w) (hI : IntsN W1 w' r xs2) (hE : Ext W1 w') (hg : w.grownBy w' (some b2)) : Rows3 W1 xs0 xs1 xs2 e0 d0 e1 d1 true true b0 b1 b2 r0 r1 r w' := (h.rot.rot.app0 hI hE hg).rot
theorem Rows3.new0 (h : Rows3 W1 xs0 xs1 xs2 e0 d0 e1 d1 e2 d2 b0 b1 b2 r0 r1 r2 w) (hd : d0 = false) : Rows3 W1 xs0 xs1 xs2 true d0 e1 d1 e2 d2 w.heap.size b1 b2 r0 r1 r2 (w.alloc (.cells #[] 3)) := by subst hd; exact h.mk0
theorem Rows3.new1 (h : Rows3 W1 xs0 xs1 xs2 e0 d0 e1 d1 e2 d2 b0 b1 b2 r0 r1 r2 w) (hd : d1 = false) : Rows3 W1 xs0 xs1 xs2 e0 d0 true d1 e2 d2 b0 w.heap.size b2 r0 r1 r2 (w.alloc (.cells #[] 3)) := by subst hd; exact h.mk1
theorem Rows3.new2 (h : Rows3 W1 xs0 xs1 xs2 e0 d0 e1 d1 e2 d2 b0 b1 b2 r0 r1 r2 w) (hd : d2 = false) : Rows3 W1 xs0 xs1 xs2 e0 d0 e1 d1 true d2 b0 b1 w.heap.size r0 r1 r2 (w.alloc (.cells #[] 3)) := by subst hd; exact h.mk2
theorem Rows3.out0 (h : Rows3 W1 xs0 xs1 xs2 e0 d0 e1 d1 e2 d2 b0 b1 b2 r0 r1 r2 w) (he : e0 = true) (hd : d0 = false) (hI : IntsN W1 w' r xs0) (hE : Ext W1 w') (hg : w.grownBy w' (some b0)) : Rows3 W1 xs0 xs1 xs2 e0 true e1 d1 e2 d2 b0 b1 b2 r r1 r2 w' := by subst he; subst hd; exact h.app0 hI hE hg
theorem Rows3.out1 (h : Rows3 W1 xs0 xs1 xs2 e0 d0 e1 d1 e2 d2 b0 b1 b2 r0 r1 r2 w) (he : e1 = true) (hd : d1 = false) (hI : IntsN W1 w' r xs1) (hE : Ext W1 w') (hg : w.grownBy w' (some b1)) : Rows3 W1 xs0 xs1 xs2 e0 d0 e1 true e2 d2 b0 b1 b2 r0 r r2 w' := by subst he; subst hd; exact h.app1 hI hE hg
theorem Rows3.out2 (h : Rows3 W1 xs0 xs1 xs2 e0 d0 e1 d1 e2 d2 b0 b1 b2 r0 r1 r2 w) (he : e2 = true) (hd : d2 = false) (hI : IntsN W1 w' r xs2) (hE : Ext W1 w') (hg : w.grownBy w' (some b2)) : Rows3 W1 xs0 xs1 xs2 e0 d0 e1 d1 e2 true b0 b1 b2 r0 r1 r w' := by subst he; subst hd; exact h.app2 hI hE hg
end
end Go.Proofs.Ytjfggepgjpdebaa
/- Contract: the reference of layer 5: Start, where it succeeds. -/
namespace Go.Proofs.Ytjfggepgjpdebaa
open Go.RowKit Go.Q
/-- the frame, whatever of the region has come up -/
def StL (sz : Nat) (a1 a2 a3 : Option Addr) (n2 n3 k1 k2 k3 : Nat) (s : St) (l : Nat → Bool) (b0 b1 b2 : Nat) (r0 r1 r2 : Option Addr) (q0 q1 q2 : Nat) : Act := { tmps := #[sv a1 a2 a3 128 k1 n2 k2 n3 k3 s.taken s.time s.at_ s.done s.why, .pointer (some ⟨sz, 0, none⟩), .pointer (some ⟨sz + 1, 0, none⟩), .int .i64 0, .int .i64 0, .int .i64 0, .int .i64 0, .tuple #[.int .i64 0, .int .i64 0, .int .i64 0], .agg #[.slice a1 128 k1, .slice a2 n2 k2, .int .i64 s.taken, .slice a3 n3 k3, .int .i64 s.time, .int .i64 s.at_, .int .i64 s.done, .int .i64 s.why], .tuple #[.int .i64 0, .int .i64 0, .int .i64 0], .int .i64 0, .int .i64 0, .int .i64 0, .int .i64 0, .bool false, undef, undef, cond (l 0) (.slice (some ⟨b0, 0, none⟩) 0 0) undef, cond (l 1) (.pointer (some ⟨sz, 0, none⟩)) undef, cond (l 2) (.slice a1 128 k1) undef, cond (l 3) (.slice r0 128 q0) undef, cond (l 4) (.slice (some ⟨b1, 0, none⟩) 0 0) undef, cond (l 5) (.pointer (some ⟨sz, 1, none⟩)) undef, cond (l 6) (.slice a2 n2 k2) undef, cond (l 7) (.slice r1 n2 q1) undef, cond (l 8) (.pointer (some ⟨sz, 2, none⟩)) undef, cond (l 9) (.int .i64 s.taken) undef, cond (l 10) (.slice (some ⟨b2, 0, none⟩) 0 0) undef, cond (l 11) (.pointer (some ⟨sz, 3, none⟩)) undef, cond (l 12) (.slice a3 n3 k3) undef, cond (l 13) (.slice r2 n3 q2) undef, cond (l 14) (.pointer (some ⟨sz, 4, none⟩)) undef, cond (l 15) (.int .i64 s.time) undef, cond (l 16) (.pointer (some ⟨sz, 5, none⟩)) undef, cond (l 17) (.int .i64 s.at_) undef, cond (l 18) (.pointer (some ⟨sz, 6, none⟩)) undef, cond (l 19) (.int .i64 s.done) undef, cond (l 20) (.pointer (some ⟨sz, 7, none⟩)) undef, cond (l 21) (.int .i64 s.why) undef, cond (l 22) (.agg #[.slice r0 128 q0, .slice r1 n2 q1, .int .i64 s.taken, .slice r2 n3 q2, .int .i64 s.time, .int .i64 s.at_, .int .i64 0, .int .i64 0, .int .i64 0, .int .i64 0, .int .i64 0, .int .i64 0, .int .i64 s.done, .int .i64 s.why]) undef], defers := [] }
/-- what holds, whatever of the region has come up -/
def StI (w w1 : World) (a1 a2 a3 : Option Addr) (n2 n3 k1 k2 k3 : Nat) (s : St) (l : Nat → Bool) (a : Act) (w' : World) : Prop :=
  ∃ b0 b1 b2 r0 r1 r2 q0 q1 q2, a = StL w.heap.size a1 a2 a3 n2 n3 k1 k2 k3 s l b0 b1 b2 r0 r1 r2 q0 q1 q2 ∧ (l 23 = false → Rows3 w1 s.store s.tape s.printed (l 0) (l 3) (l 4) (l 7) (l 10) (l 13) b0 b1 b2 r0 r1 r2 w') ∧
    (l 23 = true → ∃ wf, Rows3 w1 s.store s.tape s.printed true true true true true true b0 b1 b2 r0 r1 r2 wf ∧ w' = ((((((((((((((wf.setCell ⟨w.heap.size + 1, 0, none⟩ (.slice r0 128 q0)).setCell ⟨w.heap.size + 1, 1, none⟩ (.slice r1 n2 q1)).setCell ⟨w.heap.size + 1, 2, none⟩ (.int .i64 s.taken)).setCell ⟨w.heap.size + 1, 3, none⟩ (.slice r2 n3 q2)).setCell ⟨w.heap.size + 1, 4, none⟩ (.int .i64 s.time)).setCell ⟨w.heap.size + 1, 5, none⟩ (.int .i64 s.at_)).setCell ⟨w.heap.size + 1, 6, none⟩ (.int .i64 0)).setCell ⟨w.heap.size + 1, 7, none⟩ (.int .i64 0)).setCell ⟨w.heap.size + 1, 8, none⟩ (.int .i64 0)).setCell ⟨w.heap.size + 1, 9, none⟩ (.int .i64 0)).setCell ⟨w.heap.size + 1, 10, none⟩ (.int .i64 0)).setCell ⟨w.heap.size + 1, 11, none⟩ (.int .i64 0)).setCell ⟨w.heap.size + 1, 12, none⟩ (.int .i64 s.done)).setCell ⟨w.heap.size + 1, 13, none⟩ (.int .i64 s.why)))
set_option maxRecDepth 100000 in
set_option maxHeartbeats 16000000 in
theorem rstart_good (a1 a2 a3 : Option Addr) (n2 n3 k1 k2 k3 : Nat) (s : St) (w : World) (l1 : s.store.length = 128) (l2 : s.tape.length = n2) (l3 : s.printed.length = n3) (m2 : n2 ≤ 200) (m3 : n3 ≤ 200)
    (i1 : IntsAt w a1 s.store) (i2 : IntsAt w a2 s.tape) (i3 : IntsAt w a3 s.printed) (hz : checkQ s = (0, 0, 0)) :
    Calls Try.prog 48 #[sv a1 a2 a3 128 k1 n2 k2 n3 k3 s.taken s.time s.at_ s.done s.why] w (PuRes (startQ s, 0) w) := by
  obtain ⟨i0, hi0, ha0, ha1, ha2⟩ := info_parts Try.infoE
  have hc := fun W (E : Ext w W) => rcheck_any (sv a1 a2 a3 128 k1 n2 k2 n3 k3 s.taken s.time s.at_ s.done s.why) s W ⟨a1, a2, a3, k1, k2, k3, by rw [l1, l2, l3], i1.ext E, i2.ext E, i3.ext E⟩ ⟨by omega, by omega, by omega⟩
  rw [hz] at hc
  unfold v3 at hc
  have Hl := Lib.hid (And.intro l1 (And.intro l2 l3))
  clear l1 l2 l3 hz
  go_enter Try.func48, Try.ntmps48
  go_wp2_with fail
  refine (hc _ (by repeat (first | with_reducible exact Ext.refl _ | with_reducible refine Ext.alloc ?_ _ | with_reducible refine Below.drew ?_))).mono ?_
  rintro e w1 ⟨rfl, E1⟩
  clear hc
  have F1 : Ext w w1 := E1.old.old
  have PB := Blk.of E1.old
  have RB := Blk.of E1
  rw [World.size_alloc] at RB
  have j1 := i1.ext F1
  have j2 := i2.ext F1
  have j3 := i3.ext F1
  clear i1 i2 i3
  go_upto_region 4 with fail
  refine wp_region_closed (StI w w1 a1 a2 a3 n2 n3 k1 k2 k3 s) (by kernel_rfl) (by kernel_rfl) ?start ?step ?done
  case start => exact ⟨0, 0, 0, none, none, none, 0, 0, 0, rfl, fun _ => Rows3.start w1 _ _ _ _ _ _ _ _ _, nofun⟩
  case step =>
    intro l a w' hI hcl i hi hl hw
    have hi2 : i < 25 := hi
    obtain ⟨b0, b1, b2, r0, r1, r2, q0, q1, q2, rfl, hR, hF⟩ := hI
    have c23 := hcl 23
    have c22 := hcl 22
    have c3 := hcl 3
    have c7 := hcl 7
    have c13 := hcl 13
    simp only [Region.waits] at c23 c22 c3 c7 c13 hw
    clear hcl hi
    match i, hi2 with
    | 0, _ =>
      have h23 : l 23 = false := by
              cases h : l 23 with
              | false => rfl
              | true =>
                have c := c23 h
                simp [Region.binds] at c
                simp [c] at hl
      have hR2 := hR h23
      have E2 : Ext w1 w' := hR2.1
      have hd : l 3 = false := by
              cases h : l 3 with
              | false => rfl
              | true =>
                have c := c3 h
                simp [Region.binds] at c
                simp [c] at hl
      clear c23 c22 c3 c7 c13 hR hF
      clear hw
      refine wpOp_step rfl (fun K2 hK => ?_)
      rw [if_pos (by rfl)]
      unfold StL
      go_simp
      exact hK _ _ ⟨w'.heap.size, b1, b2, r0, r1, r2, q0, q1, q2, (by unfold StL; simp [hl, hd]), fun _ => hR2.new0 hd, fun h => absurd h (by show ¬ l 23 = true; rw [h23]; decide)⟩
    | 1, _ =>
      have h23 : l 23 = false := by
              cases h : l 23 with
              | false => rfl
              | true =>
                have c := c23 h
                simp [Region.binds] at c
                simp [c] at hl
      have hR2 := hR h23
      have E2 : Ext w1 w' := hR2.1
      clear c23 c22 c3 c7 c13 hR hF
      clear hw
      refine wpOp_step rfl (fun K2 hK => ?_)
      rw [if_pos (by rfl)]
      unfold StL
      go_simp
      exact hK _ _ ⟨b0, b1, b2, r0, r1, r2, q0, q1, q2, (by unfold StL; simp []), fun _ => hR2, fun h => absurd h (by show ¬ l 23 = true; rw [h23]; decide)⟩
    | 2, _ =>
      have h23 : l 23 = false := by
              cases h : l 23 with
              | false => rfl
              | true =>
                have c := c23 h
                simp [Region.binds] at c
                simp [c] at hl
      have hR2 := hR h23
      have E2 : Ext w1 w' := hR2.1
      clear c23 c22 c3 c7 c13 hR hF
      simp [Region.binds] at hw
      refine wpOp_step rfl (fun K2 hK => ?_)
      have cf := Blk.c (PB.ex E2) 0 (v := .slice a1 128 k1) rfl
      rw [if_pos (by rfl)]
      unfold StL
      go_simp
      exact hK _ _ ⟨b0, b1, b2, r0, r1, r2, q0, q1, q2, (by unfold StL; simp [hw]), fun _ => hR2, fun h => absurd h (by show ¬ l 23 = true; rw [h23]; decide)⟩
    | 3, _ =>
      have h23 : l 23 = false := by
              cases h : l 23 with
              | false => rfl
              | true =>
                have c := c23 h
                simp [Region.binds] at c
                simp [c] at hl
      have hR2 := hR h23
      have E2 : Ext w1 w' := hR2.1
      have h22 : l 22 = false := by
              cases h : l 22 with
              | false => rfl
              | true =>
                have c := c22 h
                simp [Region.binds] at c
                simp [c] at hl
      clear c23 c22 c3 c7 c13 hR hF
      simp [Region.binds] at hw
      refine wpOp_step rfl (fun K2 hK => ?_)
      obtain ⟨g0, g1⟩ := hw
      have hM : Emp w1 w' b0 := hR2.2.1 g0 hl
      refine step_app (w0 := w1) rfl (.tmp 17) (.tmp 19) 22 rfl 3 i0 (.int .i64 0) 1 8 Try.underlying22 hi0 ha0 ha1 ha2 rfl (by decide) (.slice (some ⟨b0, 0, none⟩) 0 0) 0 w1.heap.size [] ?e1 hM.own E2 (Nat.le_refl _) E2.size a1 128 k1 (iv s.store) ?e2 ?e3 ?e4 (iv_one _) ?e5 ?e6 ?_
      case e1 => simp [StL, Act.eval, g0]
      case e2 => simp [StL, Act.eval, g1]
      case e3 => rw [iv_length, Nat.mul_one]; exact Hl.out.1
      case e4 => exact from_ints (j1.ext E2)
      case e5 => unfold maxLen; omega
      case e6 => omega
      intro a' c' w2 hown hE hg
      rw [List.nil_append] at hown
      have hIa := IntsN.own hown
      refine hK _ _ ⟨b0, b1, b2, a', r1, r2, c', q1, q2, ?_, fun _ => hR2.out0 g0 hl hIa hE hg, fun h => absurd h (by show ¬ l 23 = true; rw [h23]; decide)⟩
      unfold StL
      simp [Act.put, hl, h22]
    | 4, _ =>
      have h23 : l 23 = false := by
              cases h : l 23 with
              | false => rfl
              | true =>
                have c := c23 h
                simp [Region.binds] at c
                simp [c] at hl
      have hR2 := hR h23
      have E2 : Ext w1 w' := hR2.1
      have hd : l 7 = false := by
              cases h : l 7 with
              | false => rfl
              | true =>
                have c := c7 h
                simp [Region.binds] at c
                simp [c] at hl
      clear c23 c22 c3 c7 c13 hR hF
      clear hw
      refine wpOp_step rfl (fun K2 hK => ?_)
      rw [if_pos (by rfl)]
      unfold StL
      go_simp
      exact hK _ _ ⟨b0, w'.heap.size, b2, r0, r1, r2, q0, q1, q2, (by unfold StL; simp [hl, hd]), fun _ => hR2.new1 hd, fun h => absurd h (by show ¬ l 23 = true; rw [h23]; decide)⟩
    | 5, _ =>
      have h23 : l 23 = false := by
              cases h : l 23 with
              | false => rfl
              | true =>
                have c := c23 h
                simp [Region.binds] at c
                simp [c] at hl
      have hR2 := hR h23
      have E2 : Ext w1 w' := hR2.1
      clear c23 c22 c3 c7 c13 hR hF
      clear hw
      refine wpOp_step rfl (fun K2 hK => ?_)
      rw [if_pos (by rfl)]
      unfold StL
      go_simp
      exact hK _ _ ⟨b0, b1, b2, r0, r1, r2, q0, q1, q2, (by unfold StL; simp []), fun _ => hR2, fun h => absurd h (by show ¬ l 23 = true; rw [h23]; decide)⟩
    | 6, _ =>
      have h23 : l 23 = false := by
              cases h : l 23 with
              | false => rfl
              | true =>
                have c := c23 h
                simp [Region.binds] at c
                simp [c] at hl
      have hR2 := hR h23
      have E2 : Ext w1 w' := hR2.1
      clear c23 c22 c3 c7 c13 hR hF
      simp [Region.binds] at hw
      refine wpOp_step rfl (fun K2 hK => ?_)
      have cf := Blk.c (PB.ex E2) 1 (v := .slice a2 n2 k2) rfl
      rw [if_pos (by rfl)]
      unfold StL
      go_simp
      exact hK _ _ ⟨b0, b1, b2, r0, r1, r2, q0, q1, q2, (by unfold StL; simp [hw]), fun _ => hR2, fun h => absurd h (by show ¬ l 23 = true; rw [h23]; decide)⟩
    | 7, _ =>
      have h23 : l 23 = false := by
              cases h : l 23 with
              | false => rfl
              | true =>
                have c := c23 h
                simp [Region.binds] at c
                simp [c] at hl
      have hR2 := hR h23
      have E2 : Ext w1 w' := hR2.1
      have h22 : l 22 = false := by
              cases h : l 22 with
              | false => rfl
              | true =>
                have c := c22 h
                simp [Region.binds] at c
                simp [c] at hl
      clear c23 c22 c3 c7 c13 hR hF
      simp [Region.binds] at hw
      refine wpOp_step rfl (fun K2 hK => ?_)
      obtain ⟨g0, g1, g2⟩ := hw
      have hM : Emp w1 w' b1 := hR2.2.2.1 g0 hl
      refine step_app (w0 := w1) rfl (.tmp 21) (.tmp 23) 22 rfl 3 i0 (.int .i64 0) 1 8 Try.underlying22 hi0 ha0 ha1 ha2 rfl (by decide) (.slice (some ⟨b1, 0, none⟩) 0 0) 0 w1.heap.size [] ?e1 hM.own E2 (Nat.le_refl _) E2.size a2 n2 k2 (iv s.tape) ?e2 ?e3 ?e4 (iv_one _) ?e5 ?e6 ?_
      case e1 => simp [StL, Act.eval, g0]
      case e2 => simp [StL, Act.eval, g1]
      case e3 => rw [iv_length, Nat.mul_one]; exact Hl.out.2.1
      case e4 => exact from_ints (j2.ext E2)
      case e5 => unfold maxLen; omega
      case e6 => omega
      intro a' c' w2 hown hE hg
      rw [List.nil_append] at hown
      have hIa := IntsN.own hown
      refine hK _ _ ⟨b0, b1, b2, r0, a', r2, q0, c', q2, ?_, fun _ => hR2.out1 g0 hl hIa hE hg, fun h => absurd h (by show ¬ l 23 = true; rw [h23]; decide)⟩
      unfold StL
      simp [Act.put, hl, h22]
    | 8, _ =>
      have h23 : l 23 = false := by
              cases h : l 23 with
              | false => rfl
              | true =>
                have c := c23 h
                simp [Region.binds] at c
                simp [c] at hl
      have hR2 := hR h23
      have E2 : Ext w1 w' := hR2.1
      clear c23 c22 c3 c7 c13 hR hF
      clear hw
      refine wpOp_step rfl (fun K2 hK => ?_)
      rw [if_pos (by rfl)]
      unfold StL
      go_simp
      exact hK _ _ ⟨b0, b1, b2, r0, r1, r2, q0, q1, q2, (by unfold StL; simp []), fun _ => hR2, fun h => absurd h (by show ¬ l 23 = true; rw [h23]; decide)⟩
    | 9, _ =>
      have h23 : l 23 = false := by
              cases h : l 23 with
              | false => rfl
              | true =>
                have c := c23 h
                simp [Region.binds] at c
                simp [c] at hl
      have hR2 := hR h23
      have E2 : Ext w1 w' := hR2.1
      clear c23 c22 c3 c7 c13 hR hF
      simp [Region.binds] at hw
      refine wpOp_step rfl (fun K2 hK => ?_)
      have cf := Blk.c (PB.ex E2) 2 (v := .int .i64 s.taken) rfl
      rw [if_pos (by rfl)]
      unfold StL
      go_simp
      exact hK _ _ ⟨b0, b1, b2, r0, r1, r2, q0, q1, q2, (by unfold StL; simp [hw]), fun _ => hR2, fun h => absurd h (by show ¬ l 23 = true; rw [h23]; decide)⟩
    | 10, _ =>
      have h23 : l 23 = false := by
              cases h : l 23 with
              | false => rfl
              | true =>
                have c := c23 h
                simp [Region.binds] at c
                simp [c] at hl
      have hR2 := hR h23
      have E2 : Ext w1 w' := hR2.1
      have hd : l 13 = false := by
              cases h : l 13 with
              | false => rfl
              | true =>
                have c := c13 h
                simp [Region.binds] at c
                simp [c] at hl
      clear c23 c22 c3 c7 c13 hR hF
      clear hw
      refine wpOp_step rfl (fun K2 hK => ?_)
      rw [if_pos (by rfl)]
      unfold StL
      go_simp
      exact hK _ _ ⟨b0, b1, w'.heap.size, r0, r1, r2, q0, q1, q2, (by unfold StL; simp [hl, hd]), fun _ => hR2.new2 hd, fun h => absurd h (by show ¬ l 23 = true; rw [h23]; decide)⟩
    | 11, _ =>
      have h23 : l 23 = false := by
              cases h : l 23 with
              | false => rfl
              | true =>
                have c := c23 h
                simp [Region.binds] at c
                simp [c] at hl
      have hR2 := hR h23
      have E2 : Ext w1 w' := hR2.1
      clear c23 c22 c3 c7 c13 hR hF
      clear hw
      refine wpOp_step rfl (fun K2 hK => ?_)
      rw [if_pos (by rfl)]
      unfold StL
      go_simp
      exact hK _ _ ⟨b0, b1, b2, r0, r1, r2, q0, q1, q2, (by unfold StL; simp []), fun _ => hR2, fun h => absurd h (by show ¬ l 23 = true; rw [h23]; decide)⟩
    | 12, _ =>
      have h23 : l 23 = false := by
              cases h : l 23 with
              | false => rfl
              | true =>
                have c := c23 h
                simp [Region.binds] at c
                simp [c] at hl
      have hR2 := hR h23
      have E2 : Ext w1 w' := hR2.1
      clear c23 c22 c3 c7 c13 hR hF
      simp [Region.binds] at hw
      refine wpOp_step rfl (fun K2 hK => ?_)
      have cf := Blk.c (PB.ex E2) 3 (v := .slice a3 n3 k3) rfl
      rw [if_pos (by rfl)]
      unfold StL
      go_simp
      exact hK _ _ ⟨b0, b1, b2, r0, r1, r2, q0, q1, q2, (by unfold StL; simp [hw]), fun _ => hR2, fun h => absurd h (by show ¬ l 23 = true; rw [h23]; decide)⟩
    | 13, _ =>
      have h23 : l 23 = false := by
              cases h : l 23 with
              | false => rfl
              | true =>
                have c := c23 h
                simp [Region.binds] at c
                simp [c] at hl
      have hR2 := hR h23
      have E2 : Ext w1 w' := hR2.1
      have h22 : l 22 = false := by
              cases h : l 22 with
              | false => rfl
              | true =>
                have c := c22 h
                simp [Region.binds] at c
                simp [c] at hl
      clear c23 c22 c3 c7 c13 hR hF
      simp [Region.binds] at hw
      refine wpOp_step rfl (fun K2 hK => ?_)
      obtain ⟨g0, g1, g2⟩ := hw
      have hM : Emp w1 w' b2 := hR2.2.2.2.1 g0 hl
      refine step_app (w0 := w1) rfl (.tmp 27) (.tmp 29) 22 rfl 3 i0 (.int .i64 0) 1 8 Try.underlying22 hi0 ha0 ha1 ha2 rfl (by decide) (.slice (some ⟨b2, 0, none⟩) 0 0) 0 w1.heap.size [] ?e1 hM.own E2 (Nat.le_refl _) E2.size a3 n3 k3 (iv s.printed) ?e2 ?e3 ?e4 (iv_one _) ?e5 ?e6 ?_
      case e1 => simp [StL, Act.eval, g0]
      case e2 => simp [StL, Act.eval, g1]
      case e3 => rw [iv_length, Nat.mul_one]; exact Hl.out.2.2
      case e4 => exact from_ints (j3.ext E2)
      case e5 => unfold maxLen; omega
      case e6 => omega
      intro a' c' w2 hown hE hg
      rw [List.nil_append] at hown
      have hIa := IntsN.own hown
      refine hK _ _ ⟨b0, b1, b2, r0, r1, a', q0, q1, c', ?_, fun _ => hR2.out2 g0 hl hIa hE hg, fun h => absurd h (by show ¬ l 23 = true; rw [h23]; decide)⟩
      unfold StL
      simp [Act.put, hl, h22]
    | 14, _ =>
      have h23 : l 23 = false := by
              cases h : l 23 with
              | false => rfl
              | true =>
                have c := c23 h
                simp [Region.binds] at c
                simp [c] at hl
      have hR2 := hR h23
      have E2 : Ext w1 w' := hR2.1
      clear c23 c22 c3 c7 c13 hR hF
      clear hw
      refine wpOp_step rfl (fun K2 hK => ?_)
      rw [if_pos (by rfl)]
      unfold StL
      go_simp
      exact hK _ _ ⟨b0, b1, b2, r0, r1, r2, q0, q1, q2, (by unfold StL; simp []), fun _ => hR2, fun h => absurd h (by show ¬ l 23 = true; rw [h23]; decide)⟩
    | 15, _ =>
      have h23 : l 23 = false := by
              cases h : l 23 with
              | false => rfl
              | true =>
                have c := c23 h
                simp [Region.binds] at c
                simp [c] at hl
      have hR2 := hR h23
      have E2 : Ext w1 w' := hR2.1
      clear c23 c22 c3 c7 c13 hR hF
      simp [Region.binds] at hw
      refine wpOp_step rfl (fun K2 hK => ?_)
      have cf := Blk.c (PB.ex E2) 4 (v := .int .i64 s.time) rfl
      rw [if_pos (by rfl)]
      unfold StL
      go_simp
      exact hK _ _ ⟨b0, b1, b2, r0, r1, r2, q0, q1, q2, (by unfold StL; simp [hw]), fun _ => hR2, fun h => absurd h (by show ¬ l 23 = true; rw [h23]; decide)⟩
    | 16, _ =>
      have h23 : l 23 = false := by
              cases h : l 23 with
              | false => rfl
              | true =>
                have c := c23 h
                simp [Region.binds] at c
                simp [c] at hl
      have hR2 := hR h23
      have E2 : Ext w1 w' := hR2.1
      clear c23 c22 c3 c7 c13 hR hF
      clear hw
      refine wpOp_step rfl (fun K2 hK => ?_)
      rw [if_pos (by rfl)]
      unfold StL
      go_simp
      exact hK _ _ ⟨b0, b1, b2, r0, r1, r2, q0, q1, q2, (by unfold StL; simp []), fun _ => hR2, fun h => absurd h (by show ¬ l 23 = true; rw [h23]; decide)⟩
    | 17, _ =>
      have h23 : l 23 = false := by
              cases h : l 23 with
              | false => rfl
              | true =>
                have c := c23 h
                simp [Region.binds] at c
                simp [c] at hl
      have hR2 := hR h23
      have E2 : Ext w1 w' := hR2.1
      clear c23 c22 c3 c7 c13 hR hF
      simp [Region.binds] at hw
      refine wpOp_step rfl (fun K2 hK => ?_)
      have cf := Blk.c (PB.ex E2) 5 (v := .int .i64 s.at_) rfl
      rw [if_pos (by rfl)]
      unfold StL
      go_simp
      exact hK _ _ ⟨b0, b1, b2, r0, r1, r2, q0, q1, q2, (by unfold StL; simp [hw]), fun _ => hR2, fun h => absurd h (by show ¬ l 23 = true; rw [h23]; decide)⟩
    | 18, _ =>
      have h23 : l 23 = false := by
              cases h : l 23 with
              | false => rfl
              | true =>
                have c := c23 h
                simp [Region.binds] at c
                simp [c] at hl
      have hR2 := hR h23
      have E2 : Ext w1 w' := hR2.1
      clear c23 c22 c3 c7 c13 hR hF
      clear hw
      refine wpOp_step rfl (fun K2 hK => ?_)
      rw [if_pos (by rfl)]
      unfold StL
      go_simp
      exact hK _ _ ⟨b0, b1, b2, r0, r1, r2, q0, q1, q2, (by unfold StL; simp []), fun _ => hR2, fun h => absurd h (by show ¬ l 23 = true; rw [h23]; decide)⟩
    | 19, _ =>
      have h23 : l 23 = false := by
              cases h : l 23 with
              | false => rfl
              | true =>
                have c := c23 h
                simp [Region.binds] at c
                simp [c] at hl
      have hR2 := hR h23
      have E2 : Ext w1 w' := hR2.1
      clear c23 c22 c3 c7 c13 hR hF
      simp [Region.binds] at hw
      refine wpOp_step rfl (fun K2 hK => ?_)
      have cf := Blk.c (PB.ex E2) 6 (v := .int .i64 s.done) rfl
      rw [if_pos (by rfl)]
      unfold StL
      go_simp
      exact hK _ _ ⟨b0, b1, b2, r0, r1, r2, q0, q1, q2, (by unfold StL; simp [hw]), fun _ => hR2, fun h => absurd h (by show ¬ l 23 = true; rw [h23]; decide)⟩
    | 20, _ =>
      have h23 : l 23 = false := by
              cases h : l 23 with
              | false => rfl
              | true =>
                have c := c23 h
                simp [Region.binds] at c
                simp [c] at hl
      have hR2 := hR h23
      have E2 : Ext w1 w' := hR2.1
      clear c23 c22 c3 c7 c13 hR hF
      clear hw
      refine wpOp_step rfl (fun K2 hK => ?_)
      rw [if_pos (by rfl)]
      unfold StL
      go_simp
      exact hK _ _ ⟨b0, b1, b2, r0, r1, r2, q0, q1, q2, (by unfold StL; simp []), fun _ => hR2, fun h => absurd h (by show ¬ l 23 = true; rw [h23]; decide)⟩
    | 21, _ =>
      have h23 : l 23 = false := by
              cases h : l 23 with
              | false => rfl
              | true =>
                have c := c23 h
                simp [Region.binds] at c
                simp [c] at hl
      have hR2 := hR h23
      have E2 : Ext w1 w' := hR2.1
      clear c23 c22 c3 c7 c13 hR hF
      simp [Region.binds] at hw
      refine wpOp_step rfl (fun K2 hK => ?_)
      have cf := Blk.c (PB.ex E2) 7 (v := .int .i64 s.why) rfl
      rw [if_pos (by rfl)]
      unfold StL
      go_simp
      exact hK _ _ ⟨b0, b1, b2, r0, r1, r2, q0, q1, q2, (by unfold StL; simp [hw]), fun _ => hR2, fun h => absurd h (by show ¬ l 23 = true; rw [h23]; decide)⟩
    | 22, _ =>
      have h23 : l 23 = false := by
              cases h : l 23 with
              | false => rfl
              | true =>
                have c := c23 h
                simp [Region.binds] at c
                simp [c] at hl
      have hR2 := hR h23
      have E2 : Ext w1 w' := hR2.1
      clear c23 c22 c3 c7 c13 hR hF
      simp [Region.binds] at hw
      refine wpOp_step rfl (fun K2 hK => ?_)
      obtain ⟨g0, g1, g2, g3, g4, g5, g6, g7⟩ := hw
      rw [if_pos (by rfl)]
      unfold StL
      go_simp
      exact hK _ _ ⟨b0, b1, b2, r0, r1, r2, q0, q1, q2, (by unfold StL; simp [g0, g1, g2, g3, g4, g5, g6, g7]), fun _ => hR2, fun h => absurd h (by show ¬ l 23 = true; rw [h23]; decide)⟩
    | 23, _ =>
      clear c23 c22 c3 c7 c13
      simp [Region.binds] at hw
      refine wpOp_step rfl (fun K2 hK => ?_)
      have hR2 := hR hl
      clear hR hF
      have hk : l 22 = true ∧ l 0 = true ∧ l 3 = true ∧ l 4 = true ∧ l 7 = true ∧ l 10 = true ∧ l 13 = true := by simp [hw]
      obtain ⟨g22, g0, g3, g4, g7, g10, g13⟩ := hk
      rw [g0, g3, g4, g7, g10, g13] at hR2
      clear hw
      have E2 : Ext w1 w' := hR2.1
      have RR := RB.ex E2
      have z0 := Blk.c RR 0 (v := .slice none 0 0) rfl
      have z1 := Blk.c RR 1 (v := .slice none 0 0) rfl
      have z2 := Blk.c RR 2 (v := .int .i64 0) rfl
      have z3 := Blk.c RR 3 (v := .slice none 0 0) rfl
      have z4 := Blk.c RR 4 (v := .int .i64 0) rfl
      have z5 := Blk.c RR 5 (v := .int .i64 0) rfl
      have z6 := Blk.c RR 6 (v := .int .i64 0) rfl
      have z7 := Blk.c RR 7 (v := .int .i64 0) rfl
      have z8 := Blk.c RR 8 (v := .int .i64 0) rfl
      have z9 := Blk.c RR 9 (v := .int .i64 0) rfl
      have z10 := Blk.c RR 10 (v := .int .i64 0) rfl
      have z11 := Blk.c RR 11 (v := .int .i64 0) rfl
      have z12 := Blk.c RR 12 (v := .int .i64 0) rfl
      have z13 := Blk.c RR 13 (v := .int .i64 0) rfl
      have f0 := Blk.f RR 0
      have f1 := Blk.f RR 1
      have f2 := Blk.f RR 2
      have f3 := Blk.f RR 3
      have f4 := Blk.f RR 4
      have f5 := Blk.f RR 5
      have f6 := Blk.f RR 6
      have f7 := Blk.f RR 7
      have f8 := Blk.f RR 8
      have f9 := Blk.f RR 9
      have f10 := Blk.f RR 10
      have f11 := Blk.f RR 11
      have f12 := Blk.f RR 12
      have f13 := Blk.f RR 13
      rw [if_pos (by rfl)]
      unfold StL
      go_simp
      exact hK _ _ ⟨b0, b1, b2, r0, r1, r2, q0, q1, q2, (by unfold StL; simp [g22, g0, g3, g4, g7, g10, g13]), fun h => absurd h (by simp), fun _ => ⟨w', hR2, rfl⟩⟩
    | 24, _ =>
      clear c23 c22 c3 c7 c13
      simp [Region.binds] at hw
      refine wpOp_step rfl (fun K2 hK => ?_)
      have h23 : l 23 = true := by simp [hw]
      obtain ⟨wf, hR2, rfl⟩ := hF h23
      clear hw hR hF
      rw [if_pos (by rfl)]
      unfold StL
      go_simp
      exact hK _ _ ⟨b0, b1, b2, r0, r1, r2, q0, q1, q2, (by unfold StL; simp), fun h => absurd h (by simp [h23]), fun _ => ⟨wf, hR2, rfl⟩⟩
  case done =>
    intro l a w' hI hall
    obtain ⟨b0, b1, b2, r0, r1, r2, q0, q1, q2, rfl, _, hF⟩ := hI
    obtain ⟨wf, hR, rfl⟩ := hF (hall 23 (by show 23 < 25; decide))
    have hL : ∀ i, i < 25 → l i = true := hall
    obtain ⟨E2, _, _, _, _, _, _, _, _, _, I1, I2, I3⟩ := hR
    have I1 := I1 rfl
    have I2 := I2 rfl
    have I3 := I3 rfl
    have HI := Lib.hid (And.intro I1 (And.intro I2 I3))
    have RR := RB.ex E2
    have hsz := RB.lt
    clear hF hall I1 I2 I3 j1 j2 j3
    have z0 := Blk.c RR 0 (v := .slice none 0 0) rfl
    have z1 := Blk.c RR 1 (v := .slice none 0 0) rfl
    have z2 := Blk.c RR 2 (v := .int .i64 0) rfl
    have z3 := Blk.c RR 3 (v := .slice none 0 0) rfl
    have z4 := Blk.c RR 4 (v := .int .i64 0) rfl
    have z5 := Blk.c RR 5 (v := .int .i64 0) rfl
    have z6 := Blk.c RR 6 (v := .int .i64 0) rfl
    have z7 := Blk.c RR 7 (v := .int .i64 0) rfl
    have z8 := Blk.c RR 8 (v := .int .i64 0) rfl
    have z9 := Blk.c RR 9 (v := .int .i64 0) rfl
    have z10 := Blk.c RR 10 (v := .int .i64 0) rfl
    have z11 := Blk.c RR 11 (v := .int .i64 0) rfl
    have z12 := Blk.c RR 12 (v := .int .i64 0) rfl
    have z13 := Blk.c RR 13 (v := .int .i64 0) rfl
    have f0 := Blk.f RR 0
    have f1 := Blk.f RR 1
    have f2 := Blk.f RR 2
    have f3 := Blk.f RR 3
    have f4 := Blk.f RR 4
    have f5 := Blk.f RR 5
    have f6 := Blk.f RR 6
    have f7 := Blk.f RR 7
    have f8 := Blk.f RR 8
    have f9 := Blk.f RR 9
    have f10 := Blk.f RR 10
    have f11 := Blk.f RR 11
    have f12 := Blk.f RR 12
    have f13 := Blk.f RR 13
    have hz0 := RR.lt
    unfold StL
    simp only [hL 0 (by decide), hL 1 (by decide), hL 2 (by decide), hL 3 (by decide), hL 4 (by decide), hL 5 (by decide), hL 6 (by decide), hL 7 (by decide), hL 8 (by decide), hL 9 (by decide), hL 10 (by decide), hL 11 (by decide), hL 12 (by decide), hL 13 (by decide), hL 14 (by decide), hL 15 (by decide), hL 16 (by decide), hL 17 (by decide), hL 18 (by decide), hL 19 (by decide), hL 20 (by decide), hL 21 (by decide), hL 22 (by decide), cond_true]
    clear hL
    go_wp2_with fail
    refine bodyPost_ret (v := .tuple #[.agg #[.slice r0 128 q0, .slice r1 n2 q1, .int .i64 s.taken, .slice r2 n3 q2, .int .i64 s.time, .int .i64 s.at_, .int .i64 0, .int .i64 0, .int .i64 0, .int .i64 0, .int .i64 0, .int .i64 0, .int .i64 s.done, .int .i64 s.why], .int .i64 0]) (by simp [results, Try.results48, go_sem, hz0, z0, z1, z2, z3, z4, z5, z6, z7, z8, z9, z10, z11, z12, z13]) rfl ?_
    obtain ⟨l1, l2, l3⟩ := Hl.out
    obtain ⟨I1, I2, I3⟩ := HI.out
    refine ⟨_, rfl, ⟨r0, r1, r2, q0, q1, q2, ?_, ?_, ?_, ?_⟩, ?_⟩
    · show _ = psv r0 r1 r2 s.store.length q0 s.tape.length q1 s.printed.length q2 (startQ s)
      rw [l1, l2, l3]
      rfl
    · exact (by repeat (first | with_reducible exact I1 | with_reducible refine IntsN.put ?_ hsz _) : IntsN w1 _ r0 s.store).1
    · exact (by repeat (first | with_reducible exact I2 | with_reducible refine IntsN.put ?_ hsz _) : IntsN w1 _ r1 s.tape).1
    · exact (by repeat (first | with_reducible exact I3 | with_reducible refine IntsN.put ?_ hsz _) : IntsN w1 _ r2 s.printed).1
    · have F2 := F1.comp E2
      exact (by repeat (first | with_reducible exact Ext.refl _ | with_reducible exact F2 | with_reducible exact F2.old | with_reducible exact F2.old.old | with_reducible exact F2.old.old.old | (with_reducible refine Ext.alloc ?_ _) | (with_reducible refine Below.drew ?_) | (with_reducible refine below_drewN ?_ _) | (with_reducible refine ext_put ?_ _ ?_; rotate_left; (first | with_reducible exact Nat.le_refl _ | with_reducible exact Nat.le_succ _ | omega | (dsimp only; omega)))))
end Go.Proofs.Ytjfggepgjpdebaa
/- Contract: pulse.Start, whatever the state. -/
namespace Go.Proofs.Ytjfggepgjpdebaa
open Go.RowKit Go.Q
set_option maxRecDepth 100000 in
set_option maxHeartbeats 4000000 in
theorem start_bad (v : Value) (s : St) (w : World) (h : StAt w v s) (hb : StBd s) (he : (checkQ s).2.2 ≠ 0) :
    Calls Try.prog 47 #[v] w (PuRes (startE s) w) := by
  have hc := fun W (E : Ext w W) => check_any v s W (h.ext E) hb
  have e : startE s = (zpu, (checkQ s).2.2) := by unfold startE; rw [if_pos he]
  rw [e]
  obtain ⟨a1, a2, a3, c1, c2, c3, rfl, _, _, _⟩ := h
  generalize checkQ s = p at *
  obtain ⟨p, i, er⟩ := p
  unfold v3 at hc
  dsimp only at he hc ⊢
  have hz' : (er != 0) = true := by simpa using he
  clear e he hb
  go_enter Try.func47, Try.ntmps47
  go_wp2_with fail
  refine (hc _ (by repeat (first | with_reducible exact Ext.refl _ | with_reducible refine Ext.alloc ?_ _ | with_reducible refine Below.drew ?_))).mono ?_
  rintro e w1 ⟨rfl, E1⟩
  have q0 := box_at2 (v := .slice none 0 0) E1 0 rfl
  have q1 := box_at2 (v := .slice none 0 0) E1 1 rfl
  have q2 := box_at2 (v := .int .i64 0) E1 2 rfl
  have q3 := box_at2 (v := .slice none 0 0) E1 3 rfl
  have q4 := box_at2 (v := .int .i64 0) E1 4 rfl
  have q5 := box_at2 (v := .int .i64 0) E1 5 rfl
  have q6 := box_at2 (v := .int .i64 0) E1 6 rfl
  have q7 := box_at2 (v := .int .i64 0) E1 7 rfl
  have q8 := box_at2 (v := .int .i64 0) E1 8 rfl
  have q9 := box_at2 (v := .int .i64 0) E1 9 rfl
  have q10 := box_at2 (v := .int .i64 0) E1 10 rfl
  have q11 := box_at2 (v := .int .i64 0) E1 11 rfl
  have q12 := box_at2 (v := .int .i64 0) E1 12 rfl
  have q13 := box_at2 (v := .int .i64 0) E1 13 rfl
  have f0 := box_free2 E1 0
  have f1 := box_free2 E1 1
  have f2 := box_free2 E1 2
  have f3 := box_free2 E1 3
  have f4 := box_free2 E1 4
  have f5 := box_free2 E1 5
  have f6 := box_free2 E1 6
  have f7 := box_free2 E1 7
  have f8 := box_free2 E1 8
  have f9 := box_free2 E1 9
  have f10 := box_free2 E1 10
  have f11 := box_free2 E1 11
  have f12 := box_free2 E1 12
  have f13 := box_free2 E1 13
  go_wp2_with fail
  refine bodyPost_ret (v := .tuple #[zpv, .int .i64 er]) (by simp [results, Try.results47, go_sem, q0, q1, q2, q3, q4, q5, q6, q7, q8, q9, q10, q11, q12, q13]) rfl ?_
  exact zpu_res er (ext_set14 E1.old.old (Nat.le_succ _) _ _ _ _ _ _ _ _ _ _ _ _ _ _)
theorem start_any (v : Value) (s : St) (w : World) (h : StAt w v s) (hb : StBd s) : Calls Try.prog 47 #[v] w (PuRes (startE s) w) := by
  by_cases he : (checkQ s).2.2 = 0
  · have V := valid_of_check he
    obtain ⟨a1, a2, a3, c1, c2, c3, rfl, i1, i2, i3⟩ := h
    have e : startE s = (startQ s, 0) := by unfold startE; rw [if_neg (by rw [he]; decide)]
    rw [e]
    have hg := start_good a1 a2 a3 s.tape.length s.printed.length c1 c2 c3 s w V.len rfl rfl V.tlen V.plen i1 i2 i3 (checkQ_zero he)
    rw [V.len]
    exact hg
  · exact start_bad v s w h hb he
end Go.Proofs.Ytjfggepgjpdebaa
/- Contract: the reference of layer 5: Start, whatever the state. -/
namespace Go.Proofs.Ytjfggepgjpdebaa
open Go.RowKit Go.Q
set_option maxRecDepth 100000 in
set_option maxHeartbeats 4000000 in
theorem rstart_bad (v : Value) (s : St) (w : World) (h : StAt w v s) (hb : StBd s) (he : (checkQ s).2.2 ≠ 0) :
    Calls Try.prog 48 #[v] w (PuRes (startE s) w) := by
  have hc := fun W (E : Ext w W) => rcheck_any v s W (h.ext E) hb
  have e : startE s = (zpu, (checkQ s).2.2) := by unfold startE; rw [if_pos he]
  rw [e]
  obtain ⟨a1, a2, a3, c1, c2, c3, rfl, _, _, _⟩ := h
  generalize checkQ s = p at *
  obtain ⟨p, i, er⟩ := p
  unfold v3 at hc
  dsimp only at he hc ⊢
  have hz' : (er != 0) = true := by simpa using he
  clear e he hb
  go_enter Try.func48, Try.ntmps48
  go_wp2_with fail
  refine (hc _ (by repeat (first | with_reducible exact Ext.refl _ | with_reducible refine Ext.alloc ?_ _ | with_reducible refine Below.drew ?_))).mono ?_
  rintro e w1 ⟨rfl, E1⟩
  have R := Blk.of E1
  rw [World.size_alloc] at R
  have q0 := Blk.c R 0 (v := .slice none 0 0) rfl
  have q1 := Blk.c R 1 (v := .slice none 0 0) rfl
  have q2 := Blk.c R 2 (v := .int .i64 0) rfl
  have q3 := Blk.c R 3 (v := .slice none 0 0) rfl
  have q4 := Blk.c R 4 (v := .int .i64 0) rfl
  have q5 := Blk.c R 5 (v := .int .i64 0) rfl
  have q6 := Blk.c R 6 (v := .int .i64 0) rfl
  have q7 := Blk.c R 7 (v := .int .i64 0) rfl
  have q8 := Blk.c R 8 (v := .int .i64 0) rfl
  have q9 := Blk.c R 9 (v := .int .i64 0) rfl
  have q10 := Blk.c R 10 (v := .int .i64 0) rfl
  have q11 := Blk.c R 11 (v := .int .i64 0) rfl
  have q12 := Blk.c R 12 (v := .int .i64 0) rfl
  have q13 := Blk.c R 13 (v := .int .i64 0) rfl
  have f0 := Blk.f R 0
  have f1 := Blk.f R 1
  have f2 := Blk.f R 2
  have f3 := Blk.f R 3
  have f4 := Blk.f R 4
  have f5 := Blk.f R 5
  have f6 := Blk.f R 6
  have f7 := Blk.f R 7
  have f8 := Blk.f R 8
  have f9 := Blk.f R 9
  have f10 := Blk.f R 10
  have f11 := Blk.f R 11
  have f12 := Blk.f R 12
  have f13 := Blk.f R 13
  have hz0 := R.lt
  go_wp2_with fail
  refine bodyPost_ret (v := .tuple #[zpv, .int .i64 er]) (by simp [results, Try.results48, go_sem, hz0, q0, q1, q2, q3, q4, q5, q6, q7, q8, q9, q10, q11, q12, q13]) rfl ?_
  exact zpu_res er (by repeat (first | with_reducible exact Ext.refl _ | with_reducible exact E1 | with_reducible exact E1.old | with_reducible exact E1.old.old | with_reducible exact E1.old.old.old | (with_reducible refine Ext.alloc ?_ _) | (with_reducible refine Below.drew ?_) | (with_reducible refine below_drewN ?_ _) | (with_reducible refine ext_put ?_ _ ?_; rotate_left; (first | with_reducible exact Nat.le_refl _ | with_reducible exact Nat.le_succ _ | omega | (dsimp only; omega)))))
theorem rstart_any (v : Value) (s : St) (w : World) (h : StAt w v s) (hb : StBd s) : Calls Try.prog 48 #[v] w (PuRes (startE s) w) := by
  by_cases he : (checkQ s).2.2 = 0
  · have V := valid_of_check he
    obtain ⟨a1, a2, a3, c1, c2, c3, rfl, i1, i2, i3⟩ := h
    have e : startE s = (startQ s, 0) := by unfold startE; rw [if_neg (by rw [he]; decide)]
    rw [e]
    have hg := rstart_good a1 a2 a3 s.tape.length s.printed.length c1 c2 c3 s w V.len rfl rfl V.tlen V.plen i1 i2 i3 (checkQ_zero he)
    rw [V.len]
    exact hg
  · exact rstart_bad v s w h hb he
end Go.Proofs.Ytjfggepgjpdebaa
/- Contracts: layer 5's examples: Program, Product, Begun. -/
namespace Go.Proofs.Ytjfggepgjpdebaa
open Go.RowKit Go.Q
/-- a list that is not all zeros does not lie in a block of zeros -/
theorem ints_far {w : World} {b : Nat} {cs : Array Value} {T : TypeId} {a : Option Addr} {xs : List Int} (h : IntsAt w a xs) (hB : Blk w b cs T) (hz : ∀ (i : Nat) (x : Int), cs[i]? = some (Value.int .i64 x) → x = 0) (hx : xs = [] ∨ ∃ i, i < xs.length ∧ xs[i]?.getD 0 ≠ 0) :
    xs = [] ∨ ∀ b' off, a = some ⟨b', off, none⟩ → b' ≠ b := by
  rcases hx with hx | ⟨i, hi, hne⟩
  · exact .inl hx
  rcases h with h | ⟨b1, off, ha, hb, hc⟩
  · exact .inl h
  · refine .inr fun b' off' e eb => ?_
    rw [ha] at e
    cases e
    subst eb
    have h1 := hc i hi
    have h2 : w.heap[b1]? = some (.cells cs T (0, 0)) := hB
    simp only [World.cell?, h2] at h1
    simp at h1
    exact hne (hz _ _ h1)
theorem ints_keep {w : World} {a : Option Addr} {xs : List Int} {p : Addr} (h : IntsAt w a xs) (hp : xs = [] ∨ ∀ b off, a = some ⟨b, off, none⟩ → b ≠ p.block) (u : Value) : IntsAt (w.setCell p u) a xs := by
  rcases hp with hp | hp
  · exact .inl hp
  · exact ints_put h hp
theorem zeros8 : ∀ (i : Nat) (x : Int), (#[.slice none 0 0, .slice none 0 0, .int .i64 0, .slice none 0 0, .int .i64 0, .int .i64 0, .int .i64 0, .int .i64 0] : Array Value)[i]? = some (Value.int .i64 x) → x = 0 := by
  intro i x h
  have hi : i < 8 := (Array.getElem?_eq_some_iff.1 h).1
  obtain rfl | rfl | rfl | rfl | rfl | rfl | rfl | rfl : i = 0 ∨ i = 1 ∨ i = 2 ∨ i = 3 ∨ i = 4 ∨ i = 5 ∨ i = 6 ∨ i = 7 := by omega
  all_goals simp at h
  all_goals exact h.symm
theorem zeros14 : ∀ (i : Nat) (x : Int), (#[.slice none 0 0, .slice none 0 0, .int .i64 0, .slice none 0 0, .int .i64 0, .int .i64 0, .int .i64 0, .int .i64 0, .int .i64 0, .int .i64 0, .int .i64 0, .int .i64 0, .int .i64 0, .int .i64 0] : Array Value)[i]? = some (Value.int .i64 x) → x = 0 := by
  intro i x h
  have hi : i < 14 := (Array.getElem?_eq_some_iff.1 h).1
  obtain rfl | rfl | rfl | rfl | rfl | rfl | rfl | rfl | rfl | rfl | rfl | rfl | rfl | rfl : i = 0 ∨ i = 1 ∨ i = 2 ∨ i = 3 ∨ i = 4 ∨ i = 5 ∨ i = 6 ∨ i = 7 ∨ i = 8 ∨ i = 9 ∨ i = 10 ∨ i = 11 ∨ i = 12 ∨ i = 13 := by omega
  all_goals simp at h
  all_goals exact h.symm
/-- the call returned a state of layer 4, or of layer 5 -/
def RetSt (s : St) (w : World) (e : Ending) (w' : World) : Prop := ∃ v, e = .returned v ∧ StAt w' v s ∧ Ext w w'
def RetPu (s : Pu) (w : World) (e : Ending) (w' : World) : Prop := ∃ v, e = .returned v ∧ PuAt w' v s ∧ Ext w w'
def prodW : List Int := [Q.written ⟨4, 1, 2, 3⟩, 4194304, 14680064]
def pr0 : St := (beginQ prodW [] 0).1
/-- no list of the state is all zeros -/
def NzS (s : St) : Prop := (s.store = [] ∨ ∃ i, i < s.store.length ∧ s.store[i]?.getD 0 ≠ 0) ∧ (s.tape = [] ∨ ∃ i, i < s.tape.length ∧ s.tape[i]?.getD 0 ≠ 0) ∧ (s.printed = [] ∨ ∃ i, i < s.printed.length ∧ s.printed[i]?.getD 0 ≠ 0)
theorem nz_st0 : NzS st0 := ⟨.inr ⟨0, by decide +kernel, by decide +kernel⟩, .inr ⟨0, by decide +kernel, by decide +kernel⟩, .inl (by decide +kernel)⟩
theorem nz_pr0 : NzS pr0 := ⟨.inr ⟨0, by decide +kernel, by decide +kernel⟩, .inl (by decide +kernel), .inl (by decide +kernel)⟩
set_option maxRecDepth 100000 in
set_option maxHeartbeats 4000000 in
theorem program_any (w : World) : Calls Try.prog 39 #[] w (RetSt st0 w) := by
  have hnz := nz_st0
  have hbg := fun (a1 a2 : Option Addr) W (i1 : IntsAt W a1 storeQ) (i2 : IntsAt W a2 [3, 4, 16777215]) => rbegin_any a1 a2 15 3 15 3 storeQ [3, 4, 16777215] 0 W (by decide) (by decide) (by decide) (by decide) i1 i2
  have e0 : beginQ storeQ [3, 4, 16777215] 0 = (st0, 0) := Prod.ext rfl aw_begin
  rw [e0] at hbg
  clear e0
  generalize st0 = s at *
  have HN := Lib.hid hnz
  clear hnz
  go_enter Try.func39, Try.ntmps39
  go_wp2_with (go_at_call 21; refine (store_any _).mono ?_; rintro e w1 ⟨rfl, rfl⟩)
  go_wp2_with fail
  refine (hbg _ _ _ ?i1 ?i2).mono ?_
  case i1 =>
    have := ints_fresh (w := w.alloc (.cells #[.slice none 0 0, .slice none 0 0, .int .i64 0, .slice none 0 0, .int .i64 0, .int .i64 0, .int .i64 0, .int .i64 0] 24)) (xs := storeQ) (t := 3) rfl ((Ext.refl _).alloc (.cells #[.int .i64 3, .int .i64 4, .int .i64 16777215] 3))
    rw [World.size_alloc] at this
    exact this
  case i2 =>
    have := ints_fresh (w := (w.alloc (.cells #[.slice none 0 0, .slice none 0 0, .int .i64 0, .slice none 0 0, .int .i64 0, .int .i64 0, .int .i64 0, .int .i64 0] 24)).alloc (.cells (iv storeQ).toArray 3)) (xs := [3, 4, 16777215]) (t := 3) rfl (Ext.refl _)
    simp only [World.size_alloc] at this
    exact this
  rintro e w1 ⟨v, rfl, ⟨a1, a2, a3, k1, k2, k3, rfl, I1, I2, I3⟩, E1⟩
  have RB := Blk.of E1.old.old
  have F1 : Ext w w1 := E1.old.old.old
  have G1 := ints_far I1 RB zeros8 HN.out.1
  have G2 := ints_far I2 RB zeros8 HN.out.2.1
  have G3 := ints_far I3 RB zeros8 HN.out.2.2
  have HG := Lib.hid (And.intro (And.intro I1 (And.intro I2 I3)) (And.intro G1 (And.intro G2 G3)))
  clear I1 I2 I3 G1 G2 G3 hbg
  have q0 := Blk.c RB 0 (v := .slice none 0 0) rfl
  have q1 := Blk.c RB 1 (v := .slice none 0 0) rfl
  have q2 := Blk.c RB 2 (v := .int .i64 0) rfl
  have q3 := Blk.c RB 3 (v := .slice none 0 0) rfl
  have q4 := Blk.c RB 4 (v := .int .i64 0) rfl
  have q5 := Blk.c RB 5 (v := .int .i64 0) rfl
  have q6 := Blk.c RB 6 (v := .int .i64 0) rfl
  have q7 := Blk.c RB 7 (v := .int .i64 0) rfl
  have f0 := Blk.f RB 0
  have f1 := Blk.f RB 1
  have f2 := Blk.f RB 2
  have f3 := Blk.f RB 3
  have f4 := Blk.f RB 4
  have f5 := Blk.f RB 5
  have f6 := Blk.f RB 6
  have f7 := Blk.f RB 7
  have hz0 := RB.lt
  go_wp2_with fail
  refine bodyPost_ret (v := sv a1 a2 a3 s.store.length k1 s.tape.length k2 s.printed.length k3 s.taken s.time s.at_ s.done s.why) (by simp [results, Try.results39, go_sem, hz0, q0, q1, q2, q3, q4, q5, q6, q7]) rfl ?_
  obtain ⟨⟨I1, I2, I3⟩, G1, G2, G3⟩ := HG.out
  refine ⟨_, rfl, ⟨a1, a2, a3, k1, k2, k3, rfl, ?_, ?_, ?_⟩, (by repeat (first | with_reducible exact Ext.refl _ | with_reducible exact F1 | with_reducible exact F1.old | with_reducible exact F1.old.old | with_reducible exact F1.old.old.old | (with_reducible refine Ext.alloc ?_ _) | (with_reducible refine Below.drew ?_) | (with_reducible refine below_drewN ?_ _) | (with_reducible refine ext_put ?_ _ ?_; rotate_left; (first | with_reducible exact Nat.le_refl _ | with_reducible exact Nat.le_succ _ | omega | (dsimp only; omega)))))⟩
  · repeat (first | with_reducible exact I1 | with_reducible refine ints_keep ?_ G1 _ | (with_reducible refine IntsAt.ext ?_ ((Ext.refl _).alloc _)))
  · repeat (first | with_reducible exact I2 | with_reducible refine ints_keep ?_ G2 _ | (with_reducible refine IntsAt.ext ?_ ((Ext.refl _).alloc _)))
  · repeat (first | with_reducible exact I3 | with_reducible refine ints_keep ?_ G3 _ | (with_reducible refine IntsAt.ext ?_ ((Ext.refl _).alloc _)))
set_option maxRecDepth 100000 in
set_option maxHeartbeats 4000000 in
theorem product5_any (w : World) : Calls Try.prog 40 #[] w (RetSt pr0 w) := by
  have hnz := nz_pr0
  have hwr := fun W => written_any 4 1 2 3 W (by decide)
  have hbg := fun (a1 : Option Addr) W (i1 : IntsAt W a1 prodW) => rbegin_any a1 none 3 0 3 0 prodW [] 0 W (by decide) (by decide) (by decide) (by decide) i1 (.inl rfl)
  have e0 : beginQ prodW [] 0 = (pr0, 0) := Prod.ext rfl (by decide +kernel)
  have ew : prodW = [Q.written ⟨4, 1, 2, 3⟩, 4194304, 14680064] := rfl
  rw [e0] at hbg
  rw [ew] at hbg
  clear e0 ew
  generalize Q.written ⟨4, 1, 2, 3⟩ = wr at *
  generalize pr0 = s at *
  have HN := Lib.hid hnz
  clear hnz
  go_enter Try.func40, Try.ntmps40
  go_wp2_with fail
  refine (hwr _).mono ?_
  rintro e w1 ⟨rfl, E1⟩
  have RB := Blk.of E1
  have F1 : Ext w w1 := E1.old
  go_wp2_with fail
  refine (hbg _ _ ?i1).mono ?_
  case i1 => exact ints_fresh (w := w1) (xs := [wr, 4194304, 14680064]) (t := 3) rfl (Ext.refl _)
  rintro e w2 ⟨v, rfl, ⟨a1, a2, a3, k1, k2, k3, rfl, I1, I2, I3⟩, E2⟩
  have RB2 := RB.ex E2.old
  have F2 : Ext w w2 := F1.comp E2.old
  have G1 := ints_far I1 RB2 zeros8 HN.out.1
  have G2 := ints_far I2 RB2 zeros8 HN.out.2.1
  have G3 := ints_far I3 RB2 zeros8 HN.out.2.2
  have HG := Lib.hid (And.intro (And.intro I1 (And.intro I2 I3)) (And.intro G1 (And.intro G2 G3)))
  clear I1 I2 I3 G1 G2 G3 hbg
  have q0 := Blk.c RB2 0 (v := .slice none 0 0) rfl
  have q1 := Blk.c RB2 1 (v := .slice none 0 0) rfl
  have q2 := Blk.c RB2 2 (v := .int .i64 0) rfl
  have q3 := Blk.c RB2 3 (v := .slice none 0 0) rfl
  have q4 := Blk.c RB2 4 (v := .int .i64 0) rfl
  have q5 := Blk.c RB2 5 (v := .int .i64 0) rfl
  have q6 := Blk.c RB2 6 (v := .int .i64 0) rfl
  have q7 := Blk.c RB2 7 (v := .int .i64 0) rfl
  have f0 := Blk.f RB2 0
  have f1 := Blk.f RB2 1
  have f2 := Blk.f RB2 2
  have f3 := Blk.f RB2 3
  have f4 := Blk.f RB2 4
  have f5 := Blk.f RB2 5
  have f6 := Blk.f RB2 6
  have f7 := Blk.f RB2 7
  have hz0 := RB2.lt
  go_wp2_with fail
  refine bodyPost_ret (v := sv a1 a2 a3 s.store.length k1 s.tape.length k2 s.printed.length k3 s.taken s.time s.at_ s.done s.why) (by simp [results, Try.results40, go_sem, hz0, q0, q1, q2, q3, q4, q5, q6, q7]) rfl ?_
  obtain ⟨⟨I1, I2, I3⟩, G1, G2, G3⟩ := HG.out
  refine ⟨_, rfl, ⟨a1, a2, a3, k1, k2, k3, rfl, ?_, ?_, ?_⟩, (by repeat (first | with_reducible exact Ext.refl _ | with_reducible exact F2 | with_reducible exact F2.old | with_reducible exact F2.old.old | with_reducible exact F2.old.old.old | (with_reducible refine Ext.alloc ?_ _) | (with_reducible refine Below.drew ?_) | (with_reducible refine below_drewN ?_ _) | (with_reducible refine ext_put ?_ _ ?_; rotate_left; (first | with_reducible exact Nat.le_refl _ | with_reducible exact Nat.le_succ _ | omega | (dsimp only; omega)))))⟩
  · repeat (first | with_reducible exact I1 | with_reducible refine ints_keep ?_ G1 _ | (with_reducible refine IntsAt.ext ?_ ((Ext.refl _).alloc _)))
  · repeat (first | with_reducible exact I2 | with_reducible refine ints_keep ?_ G2 _ | (with_reducible refine IntsAt.ext ?_ ((Ext.refl _).alloc _)))
  · repeat (first | with_reducible exact I3 | with_reducible refine ints_keep ?_ G3 _ | (with_reducible refine IntsAt.ext ?_ ((Ext.refl _).alloc _)))
set_option maxRecDepth 100000 in
set_option maxHeartbeats 8000000 in
theorem begun_any (v : Value) (s : St) (w : World) (h : StAt w v s) (hz : (checkQ s).2.2 = 0) (hn : NzS s) : Calls Try.prog 38 #[v] w (RetPu (startQ s) w) := by
  have V := valid_of_check hz
  have hb : StBd s := ⟨by rw [V.len]; decide, Nat.le_trans V.tlen (by decide), Nat.le_trans V.plen (by decide)⟩
  have hst := fun W (E : Ext w W) => rstart_any v s W (h.ext E) hb
  have e0 : startE s = (startQ s, 0) := by unfold startE; rw [if_neg (by rw [hz]; decide)]
  rw [e0] at hst
  obtain ⟨b1, b2, b3, m1, m2, m3, rfl, _, _, _⟩ := h
  have hn2 : NzS ⟨(startQ s).store, (startQ s).tape, 0, (startQ s).printed, 0, 0, 0, 0⟩ := hn
  clear e0 hb hz V hn
  generalize startQ s = t at *
  have HN := Lib.hid hn2
  clear hn2
  go_enter Try.func38, Try.ntmps38
  go_wp2_with fail
  refine (hst _ (by repeat (first | with_reducible exact Ext.refl _ | with_reducible refine Ext.alloc ?_ _ | with_reducible refine Below.drew ?_))).mono ?_
  rintro e w1 ⟨v, rfl, ⟨a1, a2, a3, k1, k2, k3, rfl, I1, I2, I3⟩, E1⟩
  have RB := Blk.of E1
  rw [World.size_alloc] at RB
  have F1 : Ext w w1 := E1.old.old
  have G1 := ints_far I1 RB zeros14 HN.out.1
  have G2 := ints_far I2 RB zeros14 HN.out.2.1
  have G3 := ints_far I3 RB zeros14 HN.out.2.2
  have HG := Lib.hid (And.intro (And.intro I1 (And.intro I2 I3)) (And.intro G1 (And.intro G2 G3)))
  clear I1 I2 I3 G1 G2 G3 hst
  have q0 := Blk.c RB 0 (v := .slice none 0 0) rfl
  have q1 := Blk.c RB 1 (v := .slice none 0 0) rfl
  have q2 := Blk.c RB 2 (v := .int .i64 0) rfl
  have q3 := Blk.c RB 3 (v := .slice none 0 0) rfl
  have q4 := Blk.c RB 4 (v := .int .i64 0) rfl
  have q5 := Blk.c RB 5 (v := .int .i64 0) rfl
  have q6 := Blk.c RB 6 (v := .int .i64 0) rfl
  have q7 := Blk.c RB 7 (v := .int .i64 0) rfl
  have q8 := Blk.c RB 8 (v := .int .i64 0) rfl
  have q9 := Blk.c RB 9 (v := .int .i64 0) rfl
  have q10 := Blk.c RB 10 (v := .int .i64 0) rfl
  have q11 := Blk.c RB 11 (v := .int .i64 0) rfl
  have q12 := Blk.c RB 12 (v := .int .i64 0) rfl
  have q13 := Blk.c RB 13 (v := .int .i64 0) rfl
  have f0 := Blk.f RB 0
  have f1 := Blk.f RB 1
  have f2 := Blk.f RB 2
  have f3 := Blk.f RB 3
  have f4 := Blk.f RB 4
  have f5 := Blk.f RB 5
  have f6 := Blk.f RB 6
  have f7 := Blk.f RB 7
  have f8 := Blk.f RB 8
  have f9 := Blk.f RB 9
  have f10 := Blk.f RB 10
  have f11 := Blk.f RB 11
  have f12 := Blk.f RB 12
  have f13 := Blk.f RB 13
  have hz0 := RB.lt
  go_wp2_with fail
  refine bodyPost_ret (v := psv a1 a2 a3 t.store.length k1 t.tape.length k2 t.printed.length k3 t) (by simp [results, Try.results38, go_sem, hz0, q0, q1, q2, q3, q4, q5, q6, q7, q8, q9, q10, q11, q12, q13]) rfl ?_
  obtain ⟨⟨I1, I2, I3⟩, G1, G2, G3⟩ := HG.out
  refine ⟨_, rfl, ⟨a1, a2, a3, k1, k2, k3, rfl, ?_, ?_, ?_⟩, (by repeat (first | with_reducible exact Ext.refl _ | with_reducible exact F1 | with_reducible exact F1.old | with_reducible exact F1.old.old | with_reducible exact F1.old.old.old | (with_reducible refine Ext.alloc ?_ _) | (with_reducible refine Below.drew ?_) | (with_reducible refine below_drewN ?_ _) | (with_reducible refine ext_put ?_ _ ?_; rotate_left; (first | with_reducible exact Nat.le_refl _ | with_reducible exact Nat.le_succ _ | omega | (dsimp only; omega)))))⟩
  · repeat (first | with_reducible exact I1 | with_reducible refine ints_keep ?_ G1 _ | (with_reducible refine IntsAt.ext ?_ ((Ext.refl _).alloc _)))
  · repeat (first | with_reducible exact I2 | with_reducible refine ints_keep ?_ G2 _ | (with_reducible refine IntsAt.ext ?_ ((Ext.refl _).alloc _)))
  · repeat (first | with_reducible exact I3 | with_reducible refine ints_keep ?_ G3 _ | (with_reducible refine IntsAt.ext ?_ ((Ext.refl _).alloc _)))
end Go.Proofs.Ytjfggepgjpdebaa
/- Layer 5 in plain Lean, on: what stays while the machine waits; a product. -/
namespace Go.Q
end Go.Q
/- Layers 4 and 5 in plain Lean: an order of layer 4 is some minor cycles of layer 5. -/
namespace Go.Q
end Go.Q
/- Layers 4 and 5 in plain Lean: a run of layer 4 is some minor cycles of layer 5. -/
namespace Go.Q
end Go.Q
