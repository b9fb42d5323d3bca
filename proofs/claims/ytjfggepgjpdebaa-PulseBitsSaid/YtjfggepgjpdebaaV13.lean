/- Contract: the reference of layer 5: Words. -/
import Derived.Test.YtjfggepgjpdebaaV12
set_option linter.unusedVariables false
set_option linter.unusedSimpArgs false
namespace Go.Proofs.Ytjfggepgjpdebaa
open Go.RowKit Go.Q

theorem own_onlyB {w W : World} {B base n k : Nat} {a : Option Addr} {xs : List Int} (ho : w.ownsRow base 3 1 (.slice a n k) n (iv xs)) (h : OnlyB B w W) (hB : B < base) : IntsAt W a xs :=
  own_ints (own_later ho (fun q hq => h.block q (own_lt ho hq) (fun e => by cases e; have := (own_at ho hq).1; omega)))
set_option maxRecDepth 100000 in
set_option maxHeartbeats 8000000 in
theorem rwords_bad (aL a1 a2 a3 : Option Addr) (nL cL n1 c1 n2 c2 n3 c3 : Nat) (b : PuB) (er : Int) (w : World) (her : er ≠ 0)
    (hs : ∀ W, Ext w W → Calls Try.prog 72 #[pbv aL a1 a2 a3 nL cL n1 c1 n2 c2 n3 c3 b] W fun e w' => e = .returned (.int .i64 er) ∧ Ext W w') :
    Calls Try.prog 35 #[pbv aL a1 a2 a3 nL cL n1 c1 n2 c2 n3 c3 b] w (PuRes (zpu, er) w) := by
  have t1 : (er != 0) = true := by simpa using her
  have t2 : (er == 0) = false := by simpa using her
  clear her
  have HR := Lib.hid (Blk.range (L := [.slice aL nL cL, .slice a1 n1 c1, .slice a2 n2 c2, .int .i64 b.now.taken, .slice a3 n3 c3, .int .i64 b.now.clock, .int .i64 b.now.at_, .int .i64 b.now.phase, .int .i64 b.now.order, .int .i64 b.now.operand, .int .i64 b.now.other, .int .i64 b.now.product, .int .i64 b.now.count, .int .i64 b.now.done, .int .i64 b.now.why, .int .i64 b.beat, .int .i64 b.carry, .int .i64 b.sum]) (Blk.al (Blk.nw w #[.slice aL nL cL, .slice a1 n1 c1, .slice a2 n2 c2, .int .i64 b.now.taken, .slice a3 n3 c3, .int .i64 b.now.clock, .int .i64 b.now.at_, .int .i64 b.now.phase, .int .i64 b.now.order, .int .i64 b.now.operand, .int .i64 b.now.other, .int .i64 b.now.product, .int .i64 b.now.count, .int .i64 b.now.done, .int .i64 b.now.why, .int .i64 b.beat, .int .i64 b.carry, .int .i64 b.sum] 50) (.cells #[.slice none 0 0, .slice none 0 0, .int .i64 0, .slice none 0 0, .int .i64 0, .int .i64 0, .int .i64 0, .int .i64 0, .int .i64 0, .int .i64 0, .int .i64 0, .int .i64 0, .int .i64 0, .int .i64 0] 41)))
  go_enter Try.func35, Try.ntmps35
  go_wp2_with (first | (refine wpList_load_mid rfl 50 (.tmp 1) rfl w.heap.size 0 rfl [.slice aL nL cL, .slice a1 n1 c1, .slice a2 n2 c2, .int .i64 b.now.taken, .slice a3 n3 c3, .int .i64 b.now.clock, .int .i64 b.now.at_, .int .i64 b.now.phase, .int .i64 b.now.order, .int .i64 b.now.operand, .int .i64 b.now.other, .int .i64 b.now.product, .int .i64 b.now.count, .int .i64 b.now.done, .int .i64 b.now.why, .int .i64 b.beat, .int .i64 b.carry, .int .i64 b.sum] _ HR.out Try.underlying50 rfl (by kernel_rfl) ?_))
  refine (hs _ (by repeat (first | with_reducible exact Ext.refl _ | with_reducible refine Ext.alloc ?_ _ | with_reducible refine Below.drew ?_))).mono ?_
  rintro e w1 ⟨rfl, E1⟩
  have rb := Blk.of E1
  rw [World.size_alloc] at rb
  have pb := Blk.of E1.old
  have p15 := pb.c 15 (v := .int .i64 b.beat) rfl
  have HT := Lib.hid (Blk.there rb)
  have HF := Lib.hid E1.old.old
  clear rb pb E1
  go_wp2_with (first | (refine wpList_store_mid rfl 41 (.tmp 2) (.tmp 17) rfl (w.heap.size + 1) 0 [.slice none 0 0, .slice none 0 0, .int .i64 0, .slice none 0 0, .int .i64 0, .int .i64 0, .int .i64 0, .int .i64 0, .int .i64 0, .int .i64 0, .int .i64 0, .int .i64 0, .int .i64 0, .int .i64 0].toArray rfl rfl HT.out (by kernel_rfl) (by simp [Value.oneCell']) ?_))
  clear p15
  have hW : Ext w (w1.setCells (w.heap.size + 1) 0 [.slice none 0 0, .slice none 0 0, .int .i64 0, .slice none 0 0, .int .i64 0, .int .i64 0, .int .i64 0, .int .i64 0, .int .i64 0, .int .i64 0, .int .i64 0, .int .i64 0, .int .i64 0, .int .i64 0]) := (OnlyB.sets _ _ _ (OnlyB.refl (w.heap.size + 1) _)).ext HF.out (Nat.le_succ _)
  have r3 : (w1.setCells (w.heap.size + 1) 0 [.slice none 0 0, .slice none 0 0, .int .i64 0, .slice none 0 0, .int .i64 0, .int .i64 0, .int .i64 0, .int .i64 0, .int .i64 0, .int .i64 0, .int .i64 0, .int .i64 0, .int .i64 0, .int .i64 0]).rangeAt (w.heap.size + 1) 0 [.slice none 0 0, .slice none 0 0, .int .i64 0, .slice none 0 0, .int .i64 0, .int .i64 0, .int .i64 0, .int .i64 0, .int .i64 0, .int .i64 0, .int .i64 0, .int .i64 0, .int .i64 0, .int .i64 0] := World.rangeAt_setCells_same _ _ _ _ HT.out
  obtain ⟨W3, hW3⟩ : ∃ W3 : World, W3 = w1.setCells (w.heap.size + 1) 0 [.slice none 0 0, .slice none 0 0, .int .i64 0, .slice none 0 0, .int .i64 0, .int .i64 0, .int .i64 0, .int .i64 0, .int .i64 0, .int .i64 0, .int .i64 0, .int .i64 0, .int .i64 0, .int .i64 0] := ⟨_, rfl⟩
  rw [← hW3] at hW r3
  (try dsimp only [Act.put])
  rw [← hW3]
  clear hW3
  have z0 : W3.cell? ⟨w.heap.size + 1, 0, none⟩ = some (.slice none 0 0) := by simpa using r3 0 _ rfl
  have z1 : W3.cell? ⟨w.heap.size + 1, 1, none⟩ = some (.slice none 0 0) := by simpa using r3 1 _ rfl
  have z2 : W3.cell? ⟨w.heap.size + 1, 2, none⟩ = some (.int .i64 0) := by simpa using r3 2 _ rfl
  have z3 : W3.cell? ⟨w.heap.size + 1, 3, none⟩ = some (.slice none 0 0) := by simpa using r3 3 _ rfl
  have z4 : W3.cell? ⟨w.heap.size + 1, 4, none⟩ = some (.int .i64 0) := by simpa using r3 4 _ rfl
  have z5 : W3.cell? ⟨w.heap.size + 1, 5, none⟩ = some (.int .i64 0) := by simpa using r3 5 _ rfl
  have z6 : W3.cell? ⟨w.heap.size + 1, 6, none⟩ = some (.int .i64 0) := by simpa using r3 6 _ rfl
  have z7 : W3.cell? ⟨w.heap.size + 1, 7, none⟩ = some (.int .i64 0) := by simpa using r3 7 _ rfl
  have z8 : W3.cell? ⟨w.heap.size + 1, 8, none⟩ = some (.int .i64 0) := by simpa using r3 8 _ rfl
  have z9 : W3.cell? ⟨w.heap.size + 1, 9, none⟩ = some (.int .i64 0) := by simpa using r3 9 _ rfl
  have z10 : W3.cell? ⟨w.heap.size + 1, 10, none⟩ = some (.int .i64 0) := by simpa using r3 10 _ rfl
  have z11 : W3.cell? ⟨w.heap.size + 1, 11, none⟩ = some (.int .i64 0) := by simpa using r3 11 _ rfl
  have z12 : W3.cell? ⟨w.heap.size + 1, 12, none⟩ = some (.int .i64 0) := by simpa using r3 12 _ rfl
  have z13 : W3.cell? ⟨w.heap.size + 1, 13, none⟩ = some (.int .i64 0) := by simpa using r3 13 _ rfl
  have HPW := Lib.hid hW
  clear hW r3
  as_aux_lemma =>
  refine bodyPost_ret (v := .tuple #[zpv, .int .i64 er]) (by simp [results, Try.results35, go_sem, z0, z1, z2, z3, z4, z5, z6, z7, z8, z9, z10, z11, z12, z13]) rfl ?_
  exact zpu_res er HPW.out
set_option maxRecDepth 100000 in
set_option maxHeartbeats 8000000 in
theorem rwords_down (aL a1 a2 a3 : Option Addr) (nL cL n1 c1 n2 c2 n3 c3 : Nat) (b : PuB) (w : World) (hbt : b.beat ≠ 0)
    (hs : ∀ W, Ext w W → Calls Try.prog 72 #[pbv aL a1 a2 a3 nL cL n1 c1 n2 c2 n3 c3 b] W fun e w' => e = .returned (.int .i64 0) ∧ Ext W w') :
    Calls Try.prog 35 #[pbv aL a1 a2 a3 nL cL n1 c1 n2 c2 n3 c3 b] w (PuRes (zpu, 9) w) := by
  have t1 : (b.beat != 0) = true := by simpa using hbt
  clear hbt
  have HR := Lib.hid (Blk.range (L := [.slice aL nL cL, .slice a1 n1 c1, .slice a2 n2 c2, .int .i64 b.now.taken, .slice a3 n3 c3, .int .i64 b.now.clock, .int .i64 b.now.at_, .int .i64 b.now.phase, .int .i64 b.now.order, .int .i64 b.now.operand, .int .i64 b.now.other, .int .i64 b.now.product, .int .i64 b.now.count, .int .i64 b.now.done, .int .i64 b.now.why, .int .i64 b.beat, .int .i64 b.carry, .int .i64 b.sum]) (Blk.al (Blk.nw w #[.slice aL nL cL, .slice a1 n1 c1, .slice a2 n2 c2, .int .i64 b.now.taken, .slice a3 n3 c3, .int .i64 b.now.clock, .int .i64 b.now.at_, .int .i64 b.now.phase, .int .i64 b.now.order, .int .i64 b.now.operand, .int .i64 b.now.other, .int .i64 b.now.product, .int .i64 b.now.count, .int .i64 b.now.done, .int .i64 b.now.why, .int .i64 b.beat, .int .i64 b.carry, .int .i64 b.sum] 50) (.cells #[.slice none 0 0, .slice none 0 0, .int .i64 0, .slice none 0 0, .int .i64 0, .int .i64 0, .int .i64 0, .int .i64 0, .int .i64 0, .int .i64 0, .int .i64 0, .int .i64 0, .int .i64 0, .int .i64 0] 41)))
  go_enter Try.func35, Try.ntmps35
  go_wp2_with (first | (refine wpList_load_mid rfl 50 (.tmp 1) rfl w.heap.size 0 rfl [.slice aL nL cL, .slice a1 n1 c1, .slice a2 n2 c2, .int .i64 b.now.taken, .slice a3 n3 c3, .int .i64 b.now.clock, .int .i64 b.now.at_, .int .i64 b.now.phase, .int .i64 b.now.order, .int .i64 b.now.operand, .int .i64 b.now.other, .int .i64 b.now.product, .int .i64 b.now.count, .int .i64 b.now.done, .int .i64 b.now.why, .int .i64 b.beat, .int .i64 b.carry, .int .i64 b.sum] _ HR.out Try.underlying50 rfl (by kernel_rfl) ?_))
  refine (hs _ (by repeat (first | with_reducible exact Ext.refl _ | with_reducible refine Ext.alloc ?_ _ | with_reducible refine Below.drew ?_))).mono ?_
  rintro e w1 ⟨rfl, E1⟩
  have rb := Blk.of E1
  rw [World.size_alloc] at rb
  have pb := Blk.of E1.old
  have p15 := pb.c 15 (v := .int .i64 b.beat) rfl
  have HT := Lib.hid (Blk.there rb)
  have HF := Lib.hid E1.old.old
  clear rb pb E1
  go_wp2_with (first | (refine wpList_store_mid rfl 41 (.tmp 2) (.tmp 17) rfl (w.heap.size + 1) 0 [.slice none 0 0, .slice none 0 0, .int .i64 0, .slice none 0 0, .int .i64 0, .int .i64 0, .int .i64 0, .int .i64 0, .int .i64 0, .int .i64 0, .int .i64 0, .int .i64 0, .int .i64 0, .int .i64 0].toArray rfl rfl HT.out (by kernel_rfl) (by simp [Value.oneCell']) ?_))
  clear p15
  have hW : Ext w (w1.setCells (w.heap.size + 1) 0 [.slice none 0 0, .slice none 0 0, .int .i64 0, .slice none 0 0, .int .i64 0, .int .i64 0, .int .i64 0, .int .i64 0, .int .i64 0, .int .i64 0, .int .i64 0, .int .i64 0, .int .i64 0, .int .i64 0]) := (OnlyB.sets _ _ _ (OnlyB.refl (w.heap.size + 1) _)).ext HF.out (Nat.le_succ _)
  have r3 : (w1.setCells (w.heap.size + 1) 0 [.slice none 0 0, .slice none 0 0, .int .i64 0, .slice none 0 0, .int .i64 0, .int .i64 0, .int .i64 0, .int .i64 0, .int .i64 0, .int .i64 0, .int .i64 0, .int .i64 0, .int .i64 0, .int .i64 0]).rangeAt (w.heap.size + 1) 0 [.slice none 0 0, .slice none 0 0, .int .i64 0, .slice none 0 0, .int .i64 0, .int .i64 0, .int .i64 0, .int .i64 0, .int .i64 0, .int .i64 0, .int .i64 0, .int .i64 0, .int .i64 0, .int .i64 0] := World.rangeAt_setCells_same _ _ _ _ HT.out
  obtain ⟨W3, hW3⟩ : ∃ W3 : World, W3 = w1.setCells (w.heap.size + 1) 0 [.slice none 0 0, .slice none 0 0, .int .i64 0, .slice none 0 0, .int .i64 0, .int .i64 0, .int .i64 0, .int .i64 0, .int .i64 0, .int .i64 0, .int .i64 0, .int .i64 0, .int .i64 0, .int .i64 0] := ⟨_, rfl⟩
  rw [← hW3] at hW r3
  (try dsimp only [Act.put])
  rw [← hW3]
  clear hW3
  have z0 : W3.cell? ⟨w.heap.size + 1, 0, none⟩ = some (.slice none 0 0) := by simpa using r3 0 _ rfl
  have z1 : W3.cell? ⟨w.heap.size + 1, 1, none⟩ = some (.slice none 0 0) := by simpa using r3 1 _ rfl
  have z2 : W3.cell? ⟨w.heap.size + 1, 2, none⟩ = some (.int .i64 0) := by simpa using r3 2 _ rfl
  have z3 : W3.cell? ⟨w.heap.size + 1, 3, none⟩ = some (.slice none 0 0) := by simpa using r3 3 _ rfl
  have z4 : W3.cell? ⟨w.heap.size + 1, 4, none⟩ = some (.int .i64 0) := by simpa using r3 4 _ rfl
  have z5 : W3.cell? ⟨w.heap.size + 1, 5, none⟩ = some (.int .i64 0) := by simpa using r3 5 _ rfl
  have z6 : W3.cell? ⟨w.heap.size + 1, 6, none⟩ = some (.int .i64 0) := by simpa using r3 6 _ rfl
  have z7 : W3.cell? ⟨w.heap.size + 1, 7, none⟩ = some (.int .i64 0) := by simpa using r3 7 _ rfl
  have z8 : W3.cell? ⟨w.heap.size + 1, 8, none⟩ = some (.int .i64 0) := by simpa using r3 8 _ rfl
  have z9 : W3.cell? ⟨w.heap.size + 1, 9, none⟩ = some (.int .i64 0) := by simpa using r3 9 _ rfl
  have z10 : W3.cell? ⟨w.heap.size + 1, 10, none⟩ = some (.int .i64 0) := by simpa using r3 10 _ rfl
  have z11 : W3.cell? ⟨w.heap.size + 1, 11, none⟩ = some (.int .i64 0) := by simpa using r3 11 _ rfl
  have z12 : W3.cell? ⟨w.heap.size + 1, 12, none⟩ = some (.int .i64 0) := by simpa using r3 12 _ rfl
  have z13 : W3.cell? ⟨w.heap.size + 1, 13, none⟩ = some (.int .i64 0) := by simpa using r3 13 _ rfl
  have HPW := Lib.hid hW
  clear hW r3
  as_aux_lemma =>
  refine bodyPost_ret (v := .tuple #[zpv, .int .i64 9]) (by simp [results, Try.results35, go_sem, z0, z1, z2, z3, z4, z5, z6, z7, z8, z9, z10, z11, z12, z13]) rfl ?_
  exact zpu_res 9 HPW.out
set_option maxRecDepth 100000 in
set_option maxHeartbeats 8000000 in
theorem rwords_good (aL a1 a2 a3 : Option Addr) (cL c1 n2 c2 n3 c3 : Nat) (b : PuB) (w : World) (hbt : b.beat = 0) (l2 : b.now.tape.length = n2) (l3 : b.now.printed.length = n3) (hsl : (stP b).store.length = 128)
    (i2 : IntsAt w a2 b.now.tape) (i3 : IntsAt w a3 b.now.printed)
    (hs : ∀ W, Ext w W → Calls Try.prog 72 #[pbv aL a1 a2 a3 8 cL 0 c1 n2 c2 n3 c3 b] W fun e w' => e = .returned (.int .i64 0) ∧ Ext W w')
    (hst : ∀ W, Ext w W → Calls Try.prog 73 #[.slice aL 8 cL] W fun e w' => ∃ a' c', e = .returned (.slice a' 128 c') ∧ w'.ownsRow W.heap.size 3 1 (.slice a' 128 c') 128 (iv (storeB b.lines)) ∧ Ext W w') :
    Calls Try.prog 35 #[pbv aL a1 a2 a3 8 cL 0 c1 n2 c2 n3 c3 b] w (PuRes (stP b, 0) w) := by
  have t1 : (b.beat != 0) = false := by simpa using hbt
  have HPu := Lib.hid (And.intro hsl (And.intro (show (stP b).tape.length = n2 from l2) (show (stP b).printed.length = n3 from l3)))
  have HI2 := Lib.hid (And.intro i2 i3)
  have HST := Lib.hid hst
  clear hbt l2 l3 hsl i2 i3 hst
  have HR := Lib.hid (Blk.range (L := [.slice aL 8 cL, .slice a1 0 c1, .slice a2 n2 c2, .int .i64 b.now.taken, .slice a3 n3 c3, .int .i64 b.now.clock, .int .i64 b.now.at_, .int .i64 b.now.phase, .int .i64 b.now.order, .int .i64 b.now.operand, .int .i64 b.now.other, .int .i64 b.now.product, .int .i64 b.now.count, .int .i64 b.now.done, .int .i64 b.now.why, .int .i64 b.beat, .int .i64 b.carry, .int .i64 b.sum]) (Blk.al (Blk.nw w #[.slice aL 8 cL, .slice a1 0 c1, .slice a2 n2 c2, .int .i64 b.now.taken, .slice a3 n3 c3, .int .i64 b.now.clock, .int .i64 b.now.at_, .int .i64 b.now.phase, .int .i64 b.now.order, .int .i64 b.now.operand, .int .i64 b.now.other, .int .i64 b.now.product, .int .i64 b.now.count, .int .i64 b.now.done, .int .i64 b.now.why, .int .i64 b.beat, .int .i64 b.carry, .int .i64 b.sum] 50) (.cells #[.slice none 0 0, .slice none 0 0, .int .i64 0, .slice none 0 0, .int .i64 0, .int .i64 0, .int .i64 0, .int .i64 0, .int .i64 0, .int .i64 0, .int .i64 0, .int .i64 0, .int .i64 0, .int .i64 0] 41)))
  go_enter Try.func35, Try.ntmps35
  go_wp2_with (first | (refine wpList_load_mid rfl 50 (.tmp 1) rfl w.heap.size 0 rfl [.slice aL 8 cL, .slice a1 0 c1, .slice a2 n2 c2, .int .i64 b.now.taken, .slice a3 n3 c3, .int .i64 b.now.clock, .int .i64 b.now.at_, .int .i64 b.now.phase, .int .i64 b.now.order, .int .i64 b.now.operand, .int .i64 b.now.other, .int .i64 b.now.product, .int .i64 b.now.count, .int .i64 b.now.done, .int .i64 b.now.why, .int .i64 b.beat, .int .i64 b.carry, .int .i64 b.sum] _ HR.out Try.underlying50 rfl (by kernel_rfl) ?_))
  refine (hs _ (by repeat (first | with_reducible exact Ext.refl _ | with_reducible refine Ext.alloc ?_ _ | with_reducible refine Below.drew ?_))).mono ?_
  rintro e w1 ⟨rfl, E1⟩
  have rb := Blk.of E1
  rw [World.size_alloc] at rb
  have pb := Blk.of E1.old
  have p15 := pb.c 15 (v := .int .i64 b.beat) rfl
  have p0 := fun ob => (Blk.al pb ob).c 0 (v := .slice aL 8 cL) rfl
  have HR14 := Lib.hid pb.range14
  have hlt1 := rb.lt
  have HB := Lib.hid (And.intro rb E1.old.old)
  clear rb pb E1 HR
  go_wp2_with (first | (refine wpList_load_mid rfl 41 (.tmp 19) rfl w.heap.size 1 rfl [.slice a1 0 c1, .slice a2 n2 c2, .int .i64 b.now.taken, .slice a3 n3 c3, .int .i64 b.now.clock, .int .i64 b.now.at_, .int .i64 b.now.phase, .int .i64 b.now.order, .int .i64 b.now.operand, .int .i64 b.now.other, .int .i64 b.now.product, .int .i64 b.now.count, .int .i64 b.now.done, .int .i64 b.now.why] _ HR14.out Try.underlying41 rfl (by kernel_rfl) ?_) | (go_at_call 73; refine (HST.out _ (by exact HB.out.2.alloc _)).mono ?_; rintro e w5 ⟨a5, c5, rfl, ho5, hb5⟩; have nb5 := Blk.of hb5; have n0 := nb5.c 0 (v := .slice a1 0 c1) rfl; have nf := nb5.f 0; have ho6 : (w5.setCell ⟨w1.heap.size, 0, none⟩ (.slice a5 128 c5)).ownsRow (w1.heap.size + 1) 3 1 (.slice a5 128 c5) 128 (iv (storeB b.lines)) := (have ho7 := ho5; World.size_alloc w1 _ ▸ own_later ho7 (fun q hq => Below.heap_setCell _ _ _ _ (fun e => (by have h1 := (own_at ho7 hq).1; rw [World.size_alloc] at h1; have e' : q = w1.heap.size := (by simpa using e); omega)))); have nb6 := nb5.st 0 (.slice a5 128 c5); have HR6 := Lib.hid (Blk.range (L := [.slice a5 128 c5, .slice a2 n2 c2, .int .i64 b.now.taken, .slice a3 n3 c3, .int .i64 b.now.clock, .int .i64 b.now.at_, .int .i64 b.now.phase, .int .i64 b.now.order, .int .i64 b.now.operand, .int .i64 b.now.other, .int .i64 b.now.product, .int .i64 b.now.count, .int .i64 b.now.done, .int .i64 b.now.why]) nb6); have X5 : Ext w1 (w5.setCell ⟨w1.heap.size, 0, none⟩ (.slice a5 128 c5)) := (hb5.old).setCell (p := ⟨w1.heap.size, 0, none⟩) (Nat.le_refl _) _; have rb6 := HB.out.1.ex X5; have HT := Lib.hid (Blk.there rb6); have HO := Lib.hid ho6; have HF := Lib.hid (HB.out.2.comp X5); clear nb5 nb6 ho6 rb6 X5) | (refine wpList_load_mid rfl 41 (.tmp 5) rfl w1.heap.size 0 rfl [.slice a5 128 c5, .slice a2 n2 c2, .int .i64 b.now.taken, .slice a3 n3 c3, .int .i64 b.now.clock, .int .i64 b.now.at_, .int .i64 b.now.phase, .int .i64 b.now.order, .int .i64 b.now.operand, .int .i64 b.now.other, .int .i64 b.now.product, .int .i64 b.now.count, .int .i64 b.now.done, .int .i64 b.now.why] _ HR6.out Try.underlying41 rfl (by kernel_rfl) ?_) | (refine wpList_store_mid rfl 41 (.tmp 2) (.tmp 25) rfl (w.heap.size + 1) 0 [.slice a5 128 c5, .slice a2 n2 c2, .int .i64 b.now.taken, .slice a3 n3 c3, .int .i64 b.now.clock, .int .i64 b.now.at_, .int .i64 b.now.phase, .int .i64 b.now.order, .int .i64 b.now.operand, .int .i64 b.now.other, .int .i64 b.now.product, .int .i64 b.now.count, .int .i64 b.now.done, .int .i64 b.now.why].toArray rfl rfl HT.out (by kernel_rfl) (by simp [Value.oneCell']) ?_))
  clear n0 nf p15 p0
  have hW : Ext w ((w5.setCell ⟨w1.heap.size, 0, none⟩ (.slice a5 128 c5)).setCells (w.heap.size + 1) 0 [.slice a5 128 c5, .slice a2 n2 c2, .int .i64 b.now.taken, .slice a3 n3 c3, .int .i64 b.now.clock, .int .i64 b.now.at_, .int .i64 b.now.phase, .int .i64 b.now.order, .int .i64 b.now.operand, .int .i64 b.now.other, .int .i64 b.now.product, .int .i64 b.now.count, .int .i64 b.now.done, .int .i64 b.now.why]) := (OnlyB.sets _ _ _ (OnlyB.refl (w.heap.size + 1) _)).ext HF.out (Nat.le_succ _)
  have r3 : ((w5.setCell ⟨w1.heap.size, 0, none⟩ (.slice a5 128 c5)).setCells (w.heap.size + 1) 0 [.slice a5 128 c5, .slice a2 n2 c2, .int .i64 b.now.taken, .slice a3 n3 c3, .int .i64 b.now.clock, .int .i64 b.now.at_, .int .i64 b.now.phase, .int .i64 b.now.order, .int .i64 b.now.operand, .int .i64 b.now.other, .int .i64 b.now.product, .int .i64 b.now.count, .int .i64 b.now.done, .int .i64 b.now.why]).rangeAt (w.heap.size + 1) 0 [.slice a5 128 c5, .slice a2 n2 c2, .int .i64 b.now.taken, .slice a3 n3 c3, .int .i64 b.now.clock, .int .i64 b.now.at_, .int .i64 b.now.phase, .int .i64 b.now.order, .int .i64 b.now.operand, .int .i64 b.now.other, .int .i64 b.now.product, .int .i64 b.now.count, .int .i64 b.now.done, .int .i64 b.now.why] := World.rangeAt_setCells_same _ _ _ _ HT.out
  have hP : PuAt ((w5.setCell ⟨w1.heap.size, 0, none⟩ (.slice a5 128 c5)).setCells (w.heap.size + 1) 0 [.slice a5 128 c5, .slice a2 n2 c2, .int .i64 b.now.taken, .slice a3 n3 c3, .int .i64 b.now.clock, .int .i64 b.now.at_, .int .i64 b.now.phase, .int .i64 b.now.order, .int .i64 b.now.operand, .int .i64 b.now.other, .int .i64 b.now.product, .int .i64 b.now.count, .int .i64 b.now.done, .int .i64 b.now.why]) (psv a5 a2 a3 128 c5 n2 c2 n3 c3 (stP b)) (stP b) := puAt_mk (s := stP b) HPu.out.1 HPu.out.2.1 HPu.out.2.2 (own_onlyB HO.out (OnlyB.sets _ _ _ (OnlyB.refl (w.heap.size + 1) _)) (by omega)) (HI2.out.1.ext hW) (HI2.out.2.ext hW)
  obtain ⟨W3, hW3⟩ : ∃ W3 : World, W3 = (w5.setCell ⟨w1.heap.size, 0, none⟩ (.slice a5 128 c5)).setCells (w.heap.size + 1) 0 [.slice a5 128 c5, .slice a2 n2 c2, .int .i64 b.now.taken, .slice a3 n3 c3, .int .i64 b.now.clock, .int .i64 b.now.at_, .int .i64 b.now.phase, .int .i64 b.now.order, .int .i64 b.now.operand, .int .i64 b.now.other, .int .i64 b.now.product, .int .i64 b.now.count, .int .i64 b.now.done, .int .i64 b.now.why] := ⟨_, rfl⟩
  rw [← hW3] at hW r3 hP
  (try dsimp only [Act.put])
  rw [← hW3]
  clear hW3
  have z0 : W3.cell? ⟨w.heap.size + 1, 0, none⟩ = some (.slice a5 128 c5) := by simpa using r3 0 _ rfl
  have z1 : W3.cell? ⟨w.heap.size + 1, 1, none⟩ = some (.slice a2 n2 c2) := by simpa using r3 1 _ rfl
  have z2 : W3.cell? ⟨w.heap.size + 1, 2, none⟩ = some (.int .i64 b.now.taken) := by simpa using r3 2 _ rfl
  have z3 : W3.cell? ⟨w.heap.size + 1, 3, none⟩ = some (.slice a3 n3 c3) := by simpa using r3 3 _ rfl
  have z4 : W3.cell? ⟨w.heap.size + 1, 4, none⟩ = some (.int .i64 b.now.clock) := by simpa using r3 4 _ rfl
  have z5 : W3.cell? ⟨w.heap.size + 1, 5, none⟩ = some (.int .i64 b.now.at_) := by simpa using r3 5 _ rfl
  have z6 : W3.cell? ⟨w.heap.size + 1, 6, none⟩ = some (.int .i64 b.now.phase) := by simpa using r3 6 _ rfl
  have z7 : W3.cell? ⟨w.heap.size + 1, 7, none⟩ = some (.int .i64 b.now.order) := by simpa using r3 7 _ rfl
  have z8 : W3.cell? ⟨w.heap.size + 1, 8, none⟩ = some (.int .i64 b.now.operand) := by simpa using r3 8 _ rfl
  have z9 : W3.cell? ⟨w.heap.size + 1, 9, none⟩ = some (.int .i64 b.now.other) := by simpa using r3 9 _ rfl
  have z10 : W3.cell? ⟨w.heap.size + 1, 10, none⟩ = some (.int .i64 b.now.product) := by simpa using r3 10 _ rfl
  have z11 : W3.cell? ⟨w.heap.size + 1, 11, none⟩ = some (.int .i64 b.now.count) := by simpa using r3 11 _ rfl
  have z12 : W3.cell? ⟨w.heap.size + 1, 12, none⟩ = some (.int .i64 b.now.done) := by simpa using r3 12 _ rfl
  have z13 : W3.cell? ⟨w.heap.size + 1, 13, none⟩ = some (.int .i64 b.now.why) := by simpa using r3 13 _ rfl
  have HPW := Lib.hid (And.intro hP hW)
  clear hW r3 hP
  as_aux_lemma =>
  refine bodyPost_ret (v := .tuple #[.agg #[.slice a5 128 c5, .slice a2 n2 c2, .int .i64 b.now.taken, .slice a3 n3 c3, .int .i64 b.now.clock, .int .i64 b.now.at_, .int .i64 b.now.phase, .int .i64 b.now.order, .int .i64 b.now.operand, .int .i64 b.now.other, .int .i64 b.now.product, .int .i64 b.now.count, .int .i64 b.now.done, .int .i64 b.now.why], .int .i64 0]) (by simp [results, Try.results35, go_sem, z0, z1, z2, z3, z4, z5, z6, z7, z8, z9, z10, z11, z12, z13]) rfl ?_
  exact ⟨_, rfl, HPW.out.1, HPW.out.2⟩
theorem rwords_any (v : Value) (b : PuB) (w : World) (h : PbAt w v b) (hb : PbBd b) : Calls Try.prog 35 #[v] w (PuRes (wordsE b) w) := by
  have hs := fun W (E : Ext w W) => rstate_any v b W (h.ext E) hb
  obtain ⟨aL, a1, a2, a3, cL, c1, c2, c3, rfl, iL, i1, i2, i3⟩ := h
  by_cases hz : stateE b = 0
  · have hv := valid_state hz
    have e0 : b.now.store.length = 0 := by rw [hv.nostore]; rfl
    rw [hz] at hs
    by_cases hbt : b.beat = 0
    · have e : wordsE b = (stP b, 0) := by unfold wordsE; rw [hz, if_neg (by decide), if_neg (by rw [hbt]; decide)]
      rw [e]
      rw [hv.lines, e0] at hs ⊢
      exact rwords_good aL a1 a2 a3 cL c1 _ c2 _ c3 b w hbt rfl rfl (by show (storeB b.lines).length = 128; rw [storeB_length, hv.lines]) i2 i3 hs (fun W E => rstore5_any aL cL b.lines W hv.lines hv.len (iL.ext E))
    · have e : wordsE b = (zpu, 9) := by unfold wordsE; rw [hz, if_neg (by decide), if_pos hbt]; rfl
      rw [e]
      exact rwords_down aL a1 a2 a3 _ cL _ c1 _ c2 _ c3 b w hbt hs
  · have e : wordsE b = (zpu, stateE b) := by unfold wordsE; rw [if_pos hz]; rfl
    rw [e]
    exact rwords_bad aL a1 a2 a3 _ cL _ c1 _ c2 _ c3 b (stateE b) w hz hs
end Go.Proofs.Ytjfggepgjpdebaa
