/- Contract: the reference of layer 5: Bits, at any state. -/
import Derived.Test.YtjfggepgjpdebaaM26
import Derived.Test.YtjfggepgjpdebaaV14
set_option linter.unusedVariables false
set_option linter.unusedSimpArgs false
namespace Go.Proofs.Ytjfggepgjpdebaa
open Go.RowKit Go.Q

set_option maxRecDepth 100000 in
set_option maxHeartbeats 4000000 in
theorem rbits_bad (v : Value) (s : Pu) (w : World) (h : PuAt w v s) (hb : PuBd s) (he : (checkP s).2.2 ≠ 0) :
    Calls Try.prog 32 #[v] w (PbRes (zpb, (checkP s).2.2) w) := by
  have hc := fun W (E : Ext w W) => rcheck5_any v s W (h.ext E) hb
  obtain ⟨a1, a2, a3, c1, c2, c3, rfl, _, _, _⟩ := h
  generalize checkP s = p at *
  obtain ⟨p, i, er⟩ := p
  unfold v3 at hc
  dsimp only at he hc ⊢
  have hz2 : (er != 0) = true := by simpa using he
  clear he hb
  go_enter Try.func32, Try.ntmps32
  go_wp2_with fail
  refine (hc _ (by repeat (first | with_reducible exact Ext.refl _ | with_reducible refine Ext.alloc ?_ _ | with_reducible refine Below.drew ?_))).mono ?_
  rintro e w1 ⟨rfl, E1⟩
  have R := Blk.of E1
  rw [World.size_alloc] at R
  have th : w1.there (w.heap.size + 1) 0 18 := Blk.there R
  have HTh := Lib.hid th
  have o5 : OnlyB (w.heap.size + 1) w1 (w1.setCells (w.heap.size + 1) 0 zpbl) := OnlyB.sets _ _ _ (OnlyB.refl _ _)
  have rb5 : Blk (w1.setCells (w.heap.size + 1) 0 zpbl) (w.heap.size + 1) zpbl.toArray 50 := Blk.sames _ _ _ R (fun j v hv => by rw [Nat.zero_add]; simpa using hv)
  have HR := Lib.hid (And.intro o5 rb5)
  clear th o5 rb5 R
  go_wp2_with (first | (refine wpList_store_mid rfl 50 (.tmp 2) (.tmp 20) rfl (w.heap.size + 1) 0 zpbl.toArray rfl rfl HTh.out (by kernel_rfl) (by simp [Value.oneCell']) ?_))
  obtain ⟨o5, rb5⟩ := HR.out
  generalize w1.setCells (w.heap.size + 1) 0 _ = W5 at *
  have z0 := Blk.c rb5 0 (v := .slice none 0 0) rfl
  have z1 := Blk.c rb5 1 (v := .slice none 0 0) rfl
  have z2 := Blk.c rb5 2 (v := .slice none 0 0) rfl
  have z3 := Blk.c rb5 3 (v := .int .i64 0) rfl
  have z4 := Blk.c rb5 4 (v := .slice none 0 0) rfl
  have z5 := Blk.c rb5 5 (v := .int .i64 0) rfl
  have z6 := Blk.c rb5 6 (v := .int .i64 0) rfl
  have z7 := Blk.c rb5 7 (v := .int .i64 0) rfl
  have z8 := Blk.c rb5 8 (v := .int .i64 0) rfl
  have z9 := Blk.c rb5 9 (v := .int .i64 0) rfl
  have z10 := Blk.c rb5 10 (v := .int .i64 0) rfl
  have z11 := Blk.c rb5 11 (v := .int .i64 0) rfl
  have z12 := Blk.c rb5 12 (v := .int .i64 0) rfl
  have z13 := Blk.c rb5 13 (v := .int .i64 0) rfl
  have z14 := Blk.c rb5 14 (v := .int .i64 0) rfl
  have z15 := Blk.c rb5 15 (v := .int .i64 0) rfl
  have z16 := Blk.c rb5 16 (v := .int .i64 0) rfl
  have z17 := Blk.c rb5 17 (v := .int .i64 0) rfl
  refine bodyPost_ret (v := .tuple #[zpbv, .int .i64 er]) (by simp [results, Try.results32, go_sem, z0, z1, z2, z3, z4, z5, z6, z7, z8, z9, z10, z11, z12, z13, z14, z15, z16, z17]) rfl ?_
  exact zpb_res er (o5.ext E1.old.old (by omega))
theorem rbits_any (v : Value) (s : Pu) (w : World) (h : PuAt w v s) (hb : PuBd s) : Calls Try.prog 32 #[v] w (PbRes (bitsE s) w) := by
  by_cases hz : (checkP s).2.2 = 0
  · have e : bitsE s = (bitsP s, 0) := by unfold bitsE; rw [if_neg (by omega)]
    rw [e]
    have hv := valid_check hz
    have hc := fun W (E : Ext w W) => rcheck5_any v s W (h.ext E) hb
    obtain ⟨a1, a2, a3, c1, c2, c3, rfl, i1, i2, i3⟩ := h
    have hl := hv.len
    rw [checkP_valid hv] at hc
    rw [hl] at hc ⊢
    exact rbits_good a1 a2 a3 s.tape.length s.printed.length c1 c2 c3 s w rfl rfl i1 i2 i3 hv hc
  · have e : bitsE s = (zpb, (checkP s).2.2) := by unfold bitsE; rw [if_pos hz]; rfl
    rw [e]
    exact rbits_bad v s w h hb hz
end Go.Proofs.Ytjfggepgjpdebaa
