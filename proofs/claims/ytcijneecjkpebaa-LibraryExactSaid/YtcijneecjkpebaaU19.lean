import Derived.Test.YtcijneecjkpebaaU18
set_option linter.unusedVariables false
set_option linter.unusedSimpArgs false
/- Layer 8: Build, up to where all is put together. -/
namespace Go.Proofs.Ytcijneecjkpebaa
open Go.RowKit Go.Q
theorem Try.infoFo : (Try.prog.info? 42).map (fun i => (i.zero, i.size, i.bytes)) = some (some (.agg #[.slice none 0 0, .int .i64 0, .int .i64 0]), 3, 40) := by kernel_rfl
/-- what Build returns: orders, store, error -/
def BldRes (r : Int × List Int × Int) (w : World) (e : Ending) (w' : World) : Prop :=
  ∃ a c, e = .returned (.tuple #[.agg #[.slice a r.2.1.length c, .int .i64 0, .int .i64 r.1], .int .i64 r.2.2]) ∧ w'.ownsRow w.heap.size 3 1 (.slice a r.2.1.length c) r.2.1.length (iv r.2.1) ∧ Ext w w'
/-- what Build is given -/
structure BIn (w : World) (a : Option Addr) (n c : Nat) (cat : List En) (L : Nat → Lo) (a2 : Option Addr) (k c2 : Nat) (cs : List Cl) (A : Nat → Option Addr) (C : Nat → Nat) : Prop where
  hn : cat.length = n
  hcap : n ≤ c
  hbig : c ≤ 9223372036854775807
  hcat : CatAt w a cat L
  hbd : ∀ x ∈ cat, EnBd x
  hk : cs.length = k
  hkb : k ≤ 9223372036854775807
  hcs : ClAt w a2 cs A C
  hargs : ∀ x ∈ cs, x.args.length ≤ 9223372036854775807
theorem BIn.ext {w w' : World} {a : Option Addr} {n c : Nat} {cat : List En} {L : Nat → Lo} {a2 : Option Addr} {k c2 : Nat} {cs : List Cl} {A : Nat → Option Addr} {C : Nat → Nat} (h : BIn w a n c cat L a2 k c2 cs A C) (E : Ext w w') : BIn w' a n c cat L a2 k c2 cs A C :=
  ⟨h.hn, h.hcap, h.hbig, h.hcat.ext E, h.hbd, h.hk, h.hkb, h.hcs.ext E, h.hargs⟩
/-- a struct of three cells loaded and stored back -/
theorem blk3 {W : World} {b : Nat} {x y z : Value} {T : TypeId} (h : Blk W b #[x, y, z] T) : Blk (((W.setCell ⟨b, 0, none⟩ x).setCell ⟨b, 1, none⟩ y).setCell ⟨b, 2, none⟩ z) b #[x, y, z] T := by
  simpa using ((h.st 0 x).st 1 y).st 2 z
theorem ext3 {w W : World} {b : Nat} {x y z : Value} (h : Ext w W) (hb : w.heap.size ≤ b) : Ext w (((W.setCell ⟨b, 0, none⟩ x).setCell ⟨b, 1, none⟩ y).setCell ⟨b, 2, none⟩ z) := ext_put (ext_put (ext_put h _ hb) _ hb) _ hb
theorem kpm3 {M : Nat → Prop} {W : World} {b : Nat} (x y z : Value) (hM : M b) : KpM M W (((W.setCell ⟨b, 0, none⟩ x).setCell ⟨b, 1, none⟩ y).setCell ⟨b, 2, none⟩ z) :=
  ((KpM.set (p := ⟨b, 0, none⟩) hM x).trans (KpM.set (p := ⟨b, 1, none⟩) hM y)).trans (KpM.set (p := ⟨b, 2, none⟩) hM z)
section
variable {w : World} {a : Option Addr} {n c : Nat} {cat : List En} {L : Nat → Lo} {a2 : Option Addr} {k c2 : Nat} {cs : List Cl} {A : Nat → Option Addr} {C : Nat → Nat} {inp : Int}
set_option maxRecDepth 100000 in
set_option maxHeartbeats 4000000 in
/-- a catalogue that is not sound -/
theorem bld_e1 (H : BIn w a n c cat L a2 k c2 cs A C) (h1 : soundE cat ≠ 0) :
    Calls Try.prog 26 #[.slice a n c, .int .i64 inp, .slice a2 k c2] w (BldRes (0, [], soundE cat) w) := by
  have hs := fun W (E : Ext w W) => lb_sound a n c cat L W H.hn H.hcap H.hbig (H.hcat.ext E) H.hbd
  obtain ⟨e1, he1⟩ : ∃ e1, soundE cat = e1 := ⟨_, rfl⟩
  rw [he1] at hs h1 ⊢
  clear H he1
  have h1b : (e1 != 0) = true := by simpa using h1
  go_enter Try.func26, Try.ntmps26
  go_upto_region 1 with fail
  have hb := Blk.nw w #[.slice none 0 0, .int .i64 0, .int .i64 0] 42
  have E0 : Ext w (w.alloc (.cells #[.slice none 0 0, .int .i64 0, .int .i64 0] 42)) := (Ext.refl w).alloc _
  generalize w.alloc (.cells #[.slice none 0 0, .int .i64 0, .int .i64 0] 42) = X at hb E0 ⊢
  go_wp2_with fail
  refine (hs _ E0).mono ?_
  rintro e w1 ⟨rfl, E1⟩
  have hb1 := hb.ex E1
  have q0 := Blk.c hb1 0 (v := .slice none 0 0) rfl
  have q1 := Blk.c hb1 1 (v := .int .i64 0) rfl
  have q2 := Blk.c hb1 2 (v := .int .i64 0) rfl
  have f0 := Blk.f hb1 0
  have f1 := Blk.f hb1 1
  have f2 := Blk.f hb1 2
  have hl := hb1.lt
  have HB := Lib.hid hb1
  have HE := Lib.hid (E0.comp E1)
  clear hb hb1 hs E0 E1
  go_wp2_with fail
  have hb3 := blk3 HB.out
  have r0 := Blk.c hb3 0 (v := .slice none 0 0) rfl
  have r1 := Blk.c hb3 1 (v := .int .i64 0) rfl
  have r2 := Blk.c hb3 2 (v := .int .i64 0) rfl
  refine bodyPost_ret (v := .tuple #[.agg #[.slice none 0 0, .int .i64 0, .int .i64 0], .int .i64 e1]) (by simp [results, Try.results26, go_sem, r0, r1, r2]) rfl ?_
  exact ⟨none, 0, rfl, World.ownsRow_nil _ _ _ _, ext3 HE.out (Nat.le_refl _)⟩
set_option maxRecDepth 100000 in
set_option maxHeartbeats 4000000 in
/-- a number of inputs that is none -/
theorem bld_e2 (H : BIn w a n c cat L a2 k c2 cs A C) (h1 : soundE cat = 0) (h2 : inB inp 0 6 = false) :
    Calls Try.prog 26 #[.slice a n c, .int .i64 inp, .slice a2 k c2] w (BldRes (0, [], 7) w) := by
  have hs := fun W (E : Ext w W) => lb_sound a n c cat L W H.hn H.hcap H.hbig (H.hcat.ext E) H.hbd
  rw [h1] at hs
  have ho := fun W => lb_out inp 0 6 W
  rw [h2] at ho
  clear H h1 h2
  go_enter Try.func26, Try.ntmps26
  go_upto_region 1 with fail
  have hb := Blk.nw w #[.slice none 0 0, .int .i64 0, .int .i64 0] 42
  have E0 : Ext w (w.alloc (.cells #[.slice none 0 0, .int .i64 0, .int .i64 0] 42)) := (Ext.refl w).alloc _
  generalize w.alloc (.cells #[.slice none 0 0, .int .i64 0, .int .i64 0] 42) = X at hb E0 ⊢
  go_wp2_with fail
  refine (hs _ E0).mono ?_
  rintro e w1 ⟨rfl, E1⟩
  have hb1 := hb.ex E1
  have q0 := Blk.c hb1 0 (v := .slice none 0 0) rfl
  have q1 := Blk.c hb1 1 (v := .int .i64 0) rfl
  have q2 := Blk.c hb1 2 (v := .int .i64 0) rfl
  have f0 := Blk.f hb1 0
  have f1 := Blk.f hb1 1
  have f2 := Blk.f hb1 2
  have hl := hb1.lt
  have HB := Lib.hid hb1
  have HE := Lib.hid (E0.comp E1)
  clear hb hb1 hs E0 E1
  go_wp2_with fail
  refine (ho _).mono ?_
  rintro e w2 ⟨rfl, rfl⟩
  go_wp2_with fail
  have hb3 := blk3 HB.out
  have r0 := Blk.c hb3 0 (v := .slice none 0 0) rfl
  have r1 := Blk.c hb3 1 (v := .int .i64 0) rfl
  have r2 := Blk.c hb3 2 (v := .int .i64 0) rfl
  refine bodyPost_ret (v := .tuple #[.agg #[.slice none 0 0, .int .i64 0, .int .i64 0], .int .i64 7]) (by simp [results, Try.results26, go_sem, r0, r1, r2]) rfl ?_
  exact ⟨none, 0, rfl, World.ownsRow_nil _ _ _ _, ext3 HE.out (Nat.le_refl _)⟩
set_option maxRecDepth 100000 in
set_option maxHeartbeats 4000000 in
/-- too many calls -/
theorem bld_e3 (H : BIn w a n c cat L a2 k c2 cs A C) (h1 : soundE cat = 0) (h2 : inB inp 0 6 = true) (h3 : 5 < cs.length) :
    Calls Try.prog 26 #[.slice a n c, .int .i64 inp, .slice a2 k c2] w (BldRes (0, [], 3) w) := by
  have hs := fun W (E : Ext w W) => lb_sound a n c cat L W H.hn H.hcap H.hbig (H.hcat.ext E) H.hbd
  rw [h1] at hs
  have ho := fun W => lb_out inp 0 6 W
  rw [h2] at ho
  have hk5 : 5 < k := by have := H.hk; omega
  have hk5z : (5 : Int) < (k : Int) := by omega
  clear H h1 h2 h3
  go_enter Try.func26, Try.ntmps26
  go_upto_region 1 with fail
  have hb := Blk.nw w #[.slice none 0 0, .int .i64 0, .int .i64 0] 42
  have E0 : Ext w (w.alloc (.cells #[.slice none 0 0, .int .i64 0, .int .i64 0] 42)) := (Ext.refl w).alloc _
  generalize w.alloc (.cells #[.slice none 0 0, .int .i64 0, .int .i64 0] 42) = X at hb E0 ⊢
  go_wp2_with fail
  refine (hs _ E0).mono ?_
  rintro e w1 ⟨rfl, E1⟩
  have hb1 := hb.ex E1
  have q0 := Blk.c hb1 0 (v := .slice none 0 0) rfl
  have q1 := Blk.c hb1 1 (v := .int .i64 0) rfl
  have q2 := Blk.c hb1 2 (v := .int .i64 0) rfl
  have f0 := Blk.f hb1 0
  have f1 := Blk.f hb1 1
  have f2 := Blk.f hb1 2
  have hl := hb1.lt
  have HB := Lib.hid hb1
  have HE := Lib.hid (E0.comp E1)
  clear hb hb1 hs E0 E1
  go_wp2_with fail
  refine (ho _).mono ?_
  rintro e w2 ⟨rfl, rfl⟩
  go_wp2_with fail
  have hb3 := blk3 HB.out
  have r0 := Blk.c hb3 0 (v := .slice none 0 0) rfl
  have r1 := Blk.c hb3 1 (v := .int .i64 0) rfl
  have r2 := Blk.c hb3 2 (v := .int .i64 0) rfl
  refine bodyPost_ret (v := .tuple #[.agg #[.slice none 0 0, .int .i64 0, .int .i64 0], .int .i64 3]) (by simp [results, Try.results26, go_sem, r0, r1, r2]) rfl ?_
  exact ⟨none, 0, rfl, World.ownsRow_nil _ _ _ _, ext3 HE.out (Nat.le_refl _)⟩
set_option maxRecDepth 100000 in
set_option maxHeartbeats 4000000 in
/-- calls that cannot be made -/
theorem bld_e4 (H : BIn w a n c cat L a2 k c2 cs A C) (h1 : soundE cat = 0) (h2 : inB inp 0 6 = true) (h3 : cs.length ≤ 5) (h4 : callsE cat inp cs ≠ 0) :
    Calls Try.prog 26 #[.slice a n c, .int .i64 inp, .slice a2 k c2] w (BldRes (0, [], callsE cat inp cs) w) := by
  have hs := fun W (E : Ext w W) => lb_sound a n c cat L W H.hn H.hcap H.hbig (H.hcat.ext E) H.hbd
  rw [h1] at hs
  have ho := fun W => lb_out inp 0 6 W
  rw [h2] at ho
  have hk5 : k ≤ 5 := by have := H.hk; omega
  have hk5z : ¬ (5 : Int) < (k : Int) := by omega
  have hi := inB_bd h2
  obtain ⟨m, rfl⟩ : ∃ m : Nat, inp = (m : Int) := ⟨inp.toNat, by omega⟩
  have hc := fun W (E : Ext w W) => lb_callable a n c cat L m a2 k c2 cs A C W H.hn H.hcap H.hbig (H.hcat.ext E) H.hbd (by omega) H.hk hk5 (H.hcs.ext E) H.hargs
  obtain ⟨e4, he4⟩ : ∃ e4, callsE cat (m : Int) cs = e4 := ⟨_, rfl⟩
  rw [he4] at hc h4 ⊢
  have h4b : (e4 != 0) = true := by simpa using h4
  clear H h1 h2 h3 he4
  go_enter Try.func26, Try.ntmps26
  go_upto_region 1 with fail
  have hb := Blk.nw w #[.slice none 0 0, .int .i64 0, .int .i64 0] 42
  have E0 : Ext w (w.alloc (.cells #[.slice none 0 0, .int .i64 0, .int .i64 0] 42)) := (Ext.refl w).alloc _
  generalize w.alloc (.cells #[.slice none 0 0, .int .i64 0, .int .i64 0] 42) = X at hb E0 ⊢
  go_wp2_with fail
  refine (hs _ E0).mono ?_
  rintro e w1 ⟨rfl, E1⟩
  have hb1 := hb.ex E1
  have q0 := Blk.c hb1 0 (v := .slice none 0 0) rfl
  have q1 := Blk.c hb1 1 (v := .int .i64 0) rfl
  have q2 := Blk.c hb1 2 (v := .int .i64 0) rfl
  have f0 := Blk.f hb1 0
  have f1 := Blk.f hb1 1
  have f2 := Blk.f hb1 2
  have hl := hb1.lt
  have HB := Lib.hid hb1
  have HE := Lib.hid (E0.comp E1)
  clear hb hb1 hs E0 E1
  go_wp2_with fail
  refine (ho _).mono ?_
  rintro e w2 ⟨rfl, rfl⟩
  clear q0 q1 q2 f0 f1 f2
  go_wp2_with fail
  refine (hc _ HE.out).mono ?_
  rintro e w3 ⟨v, rfl, -, E3⟩
  have HEn := Lib.hid (HE.out.comp E3)
  have hb2 := HB.out.ex E3
  have q0 := Blk.c hb2 0 (v := .slice none 0 0) rfl
  have q1 := Blk.c hb2 1 (v := .int .i64 0) rfl
  have q2 := Blk.c hb2 2 (v := .int .i64 0) rfl
  have f0 := Blk.f hb2 0
  have f1 := Blk.f hb2 1
  have f2 := Blk.f hb2 2
  have hl2 := hb2.lt
  have HBn := Lib.hid hb2
  clear hb2 hc E3
  go_wp2_with fail
  have hb3 := blk3 HBn.out
  have r0 := Blk.c hb3 0 (v := .slice none 0 0) rfl
  have r1 := Blk.c hb3 1 (v := .int .i64 0) rfl
  have r2 := Blk.c hb3 2 (v := .int .i64 0) rfl
  refine bodyPost_ret (v := .tuple #[.agg #[.slice none 0 0, .int .i64 0, .int .i64 0], .int .i64 e4]) (by simp [results, Try.results26, go_sem, r0, r1, r2]) rfl ?_
  exact ⟨none, 0, rfl, World.ownsRow_nil _ _ _ _, ext3 HEn.out (Nat.le_refl _)⟩
end
end Go.Proofs.Ytcijneecjkpebaa
