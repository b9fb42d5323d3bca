/- Contract of layer 1: Read. -/
import Derived.Test.YtkkchoinfdfiaaaLR3
import Derived.Test.YtkkchoinfdfiaaaN10
import Derived.BigFrameIn
import Derived.StillTailTactics
set_option linter.unusedVariables false
set_option linter.unusedSimpArgs false
namespace Go.Proofs.Ytkkchoinfdfiaaa
open Go.RowKit Go.Q Go.Shelf Go.Maps
attribute [local go_sem] Oper.semAt_some

theorem four_boxes {w w1 : World} {c0 c1 c2 c3 : Array Value} {k0 k1 k2 k3 : TypeId} (E : Ext ((((w.alloc (.cells c0 k0)).alloc (.cells c1 k1)).alloc (.cells c2 k2)).alloc (.cells c3 k3)) w1) :
    w1.heap[w.heap.size]? = some (.cells c0 k0 (0, 0)) ∧ w1.heap[w.heap.size + 1]? = some (.cells c1 k1 (0, 0)) ∧ w1.heap[w.heap.size + 1 + 1]? = some (.cells c2 k2 (0, 0)) ∧ w1.heap[w.heap.size + 1 + 1 + 1]? = some (.cells c3 k3 (0, 0)) := by
  have e1 := heap_alloc_new w (.cells c0 k0)
  have e2 := heap_alloc_new (w.alloc (.cells c0 k0)) (.cells c1 k1)
  have e3 := heap_alloc_new ((w.alloc (.cells c0 k0)).alloc (.cells c1 k1)) (.cells c2 k2)
  have e4 := heap_alloc_new (((w.alloc (.cells c0 k0)).alloc (.cells c1 k1)).alloc (.cells c2 k2)) (.cells c3 k3)
  simp only [World.size_alloc] at e2 e3 e4
  have X3 := E.old
  have X2 := X3.old
  have X1 := X2.old
  exact ⟨(X1.block _ (by simp)).trans e1, (X2.block _ (by simp)).trans e2, (X3.block _ (by simp)).trans e3, (E.block _ (by simp)).trans e4⟩
theorem ResB.put {W : World} {b0 rb o : Nat} {v v0 v1 v2 v3 : Value} (h : ResB W b0 v0 v1 v2 v3) (hr : b0 + 1 + 1 + 1 < rb) : ResB (W.setCell ⟨rb, o, none⟩ v) b0 v0 v1 v2 v3 :=
  ⟨(Below.heap_setCell _ _ _ _ (by show b0 ≠ rb; omega)).trans h.c0, (Below.heap_setCell _ _ _ _ (by show b0 + 1 ≠ rb; omega)).trans h.c1, (Below.heap_setCell _ _ _ _ (by show b0 + 1 + 1 ≠ rb; omega)).trans h.c2, (Below.heap_setCell _ _ _ _ (by show b0 + 1 + 1 + 1 ≠ rb; omega)).trans h.c3⟩
theorem Left.lt {W : World} {rb c lim : Nat} {xs : List Int} (h : Left W rb xs c lim) : rb < W.heap.size := by
  obtain ⟨a, h1, _⟩ := h.at_
  exact (Array.getElem?_eq_some_iff.1 h1).1
/-- what is left, while the old blocks and its own box stay -/
theorem Left.keep {W W' : World} {rb c lim : Nat} {xs : List Int} (h : Left W rb xs c lim) (hs : W.heap.size ≤ W'.heap.size) (h1 : ∀ x, W.heap[rb]? = some x → W'.heap[rb]? = some x) (h2 : ∀ q, q < lim → W'.heap[q]? = W.heap[q]?) : Left W' rb xs c lim := by
  obtain ⟨a, g1, g2⟩ := h.at_
  refine ⟨h.cap, h.big, a, h1 _ g1, ?_⟩
  rcases g2 with g2 | ⟨b, off, ha, hm, hb, hc⟩
  · exact .inl g2
  · exact .inr ⟨b, off, ha, hm, by omega, fun i hi => (World.cell?_of_block (w := W) (h2 b hm)).trans (hc i hi)⟩
theorem Left.ext {W W' : World} {rb c lim : Nat} {xs : List Int} (h : Left W rb xs c lim) (E : Ext W W') : Left W' rb xs c lim := by
  obtain ⟨a, g1, g2⟩ := h.at_
  refine ⟨h.cap, h.big, a, (E.block _ (Array.getElem?_eq_some_iff.1 g1).1).trans g1, ?_⟩
  rcases g2 with g2 | ⟨b, off, ha, hm, hb, hc⟩
  · exact .inl g2
  · exact .inr ⟨b, off, ha, hm, Nat.lt_of_lt_of_le hb E.size, fun i hi => (E.cell (p := ⟨b, off + i, none⟩) hb).trans (hc i hi)⟩
theorem own_extR {w w' : World} {B t sz n : Nat} {v : Value} {xs : List Value} (h : w.ownsRow B t sz v n xs) (E : Ext w w') : w'.ownsRow B t sz v n xs :=
  h.kept (row := none) ⟨E.os, E.tape, E.output, E.size, fun k hk _ => E.block k hk⟩ (by cases v.ownBlock <;> simp)
theorem blk_putR {W : World} {b c : Nat} {ob : Obj} (h : W.heap[b]? = some ob) {o : Nat} {v : Value} (hc : b ≠ c) : (W.setCell ⟨c, o, none⟩ v).heap[b]? = some ob := (Below.heap_setCell _ _ _ _ hc).trans h
theorem own_put2 {W : World} {B t sz n b o : Nat} {v : Value} {xs : List Value} (h : W.ownsRow B t sz v n xs) (hne : ∀ q, v.ownBlock = some q → q ≠ b) (x : Value) : (W.setCell ⟨b, o, none⟩ x).ownsRow B t sz v n xs :=
  h.kept (w' := W.setCell ⟨b, o, none⟩ x) (row := some b) ⟨rfl, rfl, rfl, by simp [World.setCell], fun k _ hk => Below.heap_setCell _ _ _ _ (fun e => hk (by rw [e]))⟩ (by
    by_cases e : v.ownBlock = none
    · exact .inl e
    · exact .inr (fun e2 => hne b e2 rfl))
theorem le256 {m : Nat} (h : m ≤ 4) : (256 : Int) ^ m ≤ 4294967296 := by
  match m, h with
  | 0, _ => decide
  | 1, _ => decide
  | 2, _ => decide
  | 3, _ => decide
  | 4, _ => decide
theorem own_typeR {w : World} {B t sz n : Nat} {v : Value} {xs : List Value} (h : w.ownsRow B t sz v n xs) {g : Nat} (e : v.ownBlock = some g) : ∃ cs, w.heap[g]? = some (.cells cs t (0, 0)) := by
  rcases h.2 with ⟨h1, h2⟩ | ⟨g', cap, cur, h1, h2, h3, h4, h5, h6, h7⟩
  · rw [h1] at e; simp [Value.ownBlock] at e
  · rw [h1] at e
    have : g' = g := by simpa [Value.ownBlock] using e
    subst this
    exact ⟨cur, h3⟩
/-- the world behind the four results' stores -/
def resW (W : World) (b0 : Nat) (x y s z : Value) : World := ((((W.setCell ⟨b0, 0, none⟩ x).setCell ⟨b0 + 1, 0, none⟩ y).setCell ⟨b0 + 1 + 1, 0, none⟩ s).setCell ⟨b0 + 1 + 1 + 1, 0, none⟩ z).drew
theorem res_final {W : World} {b0 : Nat} {v0 v1 v2 v3 x y s z : Value} (h : ResB W b0 v0 v1 v2 v3) : ResB (resW W b0 x y s z) b0 x y s z := by
  unfold resW
  refine ⟨?_, ?_, ?_, ?_⟩
  · exact blk_putR (blk_putR (blk_putR (by simpa using heap_setCell_same W b0 0 _ _ x h.c0) (by omega)) (by omega)) (by omega)
  · exact blk_putR (blk_putR (by simpa using heap_setCell_same _ (b0 + 1) 0 _ _ y (blk_putR h.c1 (by omega))) (by omega)) (by omega)
  · exact blk_putR (by simpa using heap_setCell_same _ (b0 + 1 + 1) 0 _ _ s (blk_putR (blk_putR h.c2 (by omega)) (by omega))) (by omega)
  · have h4 := heap_setCell_same _ (b0 + 1 + 1 + 1) 0 _ _ z (blk_putR (v := s) (c := b0 + 1 + 1) (o := 0) (blk_putR (v := y) (c := b0 + 1) (o := 0) (blk_putR (v := x) (c := b0) (o := 0) h.c3 (by omega)) (by omega)) (by omega))
    exact h4
theorem res_keep {W : World} {b0 q : Nat} {ob : Obj} {x y s z : Value} (h : W.heap[q]? = some ob) (hq : q < b0 ∨ b0 + 3 < q) : (resW W b0 x y s z).heap[q]? = some ob :=
  blk_putR (blk_putR (blk_putR (blk_putR h (by omega)) (by omega)) (by omega)) (by omega)
theorem res_below {w W : World} {x y s z : Value} (h : Ext w W) : Ext w (resW W w.heap.size x y s z) :=
  ((((h.setCell (p := ⟨w.heap.size, 0, none⟩) (Nat.le_refl _) x).setCell (p := ⟨w.heap.size + 1, 0, none⟩) (Nat.le_succ _) y).setCell (p := ⟨w.heap.size + 1 + 1, 0, none⟩) (by show w.heap.size ≤ w.heap.size + 1 + 1; omega) s).setCell (p := ⟨w.heap.size + 1 + 1 + 1, 0, none⟩) (by show w.heap.size ≤ w.heap.size + 1 + 1 + 1; omega) z).drew
theorem res_own {W : World} {b0 B t sz n : Nat} {v x y s z : Value} {xs : List Value} (h : W.ownsRow B t sz v n xs) (hB : b0 + 1 + 1 + 1 < B) : (resW W b0 x y s z).ownsRow B t sz v n xs := by
  have k1 := own_put2 h (b := b0) (o := 0) (fun q e => by have := (h.lt q e).1; omega) x
  have k2 := own_put2 k1 (b := b0 + 1) (o := 0) (fun q e => by have := (h.lt q e).1; omega) y
  have k3 := own_put2 k2 (b := b0 + 1 + 1) (o := 0) (fun q e => by have := (h.lt q e).1; omega) s
  have k4 := own_put2 k3 (b := b0 + 1 + 1 + 1) (o := 0) (fun q e => by have := (h.lt q e).1; omega) z
  exact own_extR k4 (Ext.refl _).drew
theorem set_ext1 {w W : World} {b : Nat} (E : Ext w W) (hb : w.heap.size ≤ b) (x : Value) : Ext w (W.setCell ⟨b, 0, none⟩ x) := E.setCell (p := ⟨b, 0, none⟩) hb x
theorem alloc_agg6 {w W : World} {p2 p3 : Addr} {v2 v3 : Value} (h : Ext w W ∧ W.cell? p2 = some v2 ∧ W.cell? p3 = some v3) (o : Obj) : Ext w (W.alloc o) ∧ (W.alloc o).cell? p2 = some v2 ∧ (W.alloc o).cell? p3 = some v3 :=
  ⟨h.1.alloc o, cell_laterA h.2.1 ((Ext.refl W).alloc o), cell_laterA h.2.2 ((Ext.refl W).alloc o)⟩
set_option maxRecDepth 100000 in
set_option maxHeartbeats 8000000 in
theorem Read_any (a : Option Addr) (n c : Nat) (bs : List Int) (w : World) (hn : bs.length = n) (hcap : n ≤ c) (hbig : c ≤ 9223372036854775807) (hI : BytesAt w a bs) (hB : ∀ x ∈ bs, 0 ≤ x ∧ x ≤ 255) :
    Calls Try.prog 51 #[.slice a n c] w (ReadRes (readF bs) w) := by
  obtain ⟨r, hr⟩ : ∃ r, readF bs = r := ⟨_, rfl⟩
  have HR := Lib.hid hr
  rw [hr]
  clear hr
  refine (callsIn_wide (n := 9)).1 ?_
  refine callsIn_of_wp_marks Try.func51 rfl trivial ?_ rfl
  simp only [Try.ntmps51, List.size_toArray, List.length_cons, List.length_nil, Nat.reduceAdd, Nat.reduceSub, Array.replicate_succ, Array.replicate_zero, List.push_toArray, List.append_toArray, List.nil_append, List.cons_append]
  refine wpIn_wide.2 ?_
  have hmf : ∀ (fn : Fn) (first cap : Array Value) (w : World), (Instr.makeFunc fn first cap).run Try.prog w = .ok (.func fn first cap) w := fun _ _ _ _ => rfl
  have HN := Lib.hid hn
  have HI := Lib.hid hI
  have HBB := Lib.hid hB
  clear hn hI hB
  have E0 : Ext w ((((w.alloc (.cells #[.int .i64 0] 3)).alloc (.cells #[.int .i64 0] 3)).alloc (.cells #[.slice none 0 0] 26)).alloc (.cells #[.int .i64 0] 27)) := ((((Ext.refl w).alloc _).alloc _).alloc _).alloc _
  have hfb := four_boxes (Ext.refl ((((w.alloc (.cells #[.int .i64 0] 3)).alloc (.cells #[.int .i64 0] 3)).alloc (.cells #[.slice none 0 0] 26)).alloc (.cells #[.int .i64 0] 27)))
  have hRB : ResB _ w.heap.size (.int .i64 0) (.int .i64 0) (.slice none 0 0) (.int .i64 0) := ⟨hfb.1, hfb.2.1, hfb.2.2.1, hfb.2.2.2⟩
  clear hfb
  by_cases hl : n ≤ 400
  · have d1 : decide ((n : Int) ≤ 400) = true := decide_eq_true (by omega)
    have hls := fun W (E : Ext w W) => lsum_any a n c bs W HN.out (by omega) (HI.out.ext E)
    go_wp2_with (go_at_call 82; refine (must_ok _ _).mono ?_; rintro e w' ⟨rfl, rfl⟩)
    generalize (((w.alloc (.cells #[.int .i64 0] 3)).alloc (.cells #[.int .i64 0] 3)).alloc (.cells #[.slice none 0 0] 26)).alloc (.cells #[.int .i64 0] 27) = W1 at *
    have hb4 : w.heap.size + 1 + 1 + 1 < W1.heap.size := (Array.getElem?_eq_some_iff.1 hRB.c3).1
    refine (hls _ E0).mono ?_
    rintro e w' ⟨rfl, rfl⟩
    by_cases hs : sum8 bs = 0
    · rw [hs]
      go_wp2_with (go_at_call 82; refine (must_ok _ _).mono ?_; rintro e w' ⟨rfl, rfl⟩)
      have hL1 : Left (w'.alloc (.cells #[.slice a n c] 112)) w'.heap.size bs c w.heap.size := ⟨by rw [HN.out]; exact hcap, hbig, a, by rw [HN.out]; exact heap_alloc_new w' _, BytesL.of HI.out (Ext.alloc E0 _)⟩
      have hRB1 := hRB.ext ((Ext.refl w').alloc (.cells #[.slice a n c] 112))
      have E1 := Ext.alloc E0 (.cells #[.slice a n c] 112)
      obtain ⟨rb, hrb⟩ : ∃ rb, w'.heap.size = rb := ⟨_, rfl⟩
      rw [hrb] at hL1 hb4 ⊢
      have hwr : w.heap.size ≤ rb := by omega
      clear hls hRB E0
      generalize w'.alloc (.cells #[.slice a n c] 112) = W2 at *
      clear hrb w'
      by_cases h4 : 4 ≤ n
      · have htk := fun W (h : Left W rb bs c w.heap.size) => take_ok rb bs c w.heap.size 4 W h (by decide) (by rw [HN.out]; exact h4)
        refine (htk W2 hL1).mono ?_
        rintro e W3 ⟨b, off, v, rfl, rfl, hbl, hc, hL2, hne, hblim⟩
        have hRB2 := hRB1.put (o := 0) (v := v) hb4
        have E2 := set_ext1 E1 hwr v
        have hbs : b < (W2.setCell ⟨rb, 0, none⟩ v).heap.size := by rw [World.size_setCell]; exact hbl
        have hcell : ∀ i, i < 4 → (W2.setCell ⟨rb, 0, none⟩ v).cell? ⟨b, off + i, none⟩ = some (.int .u8 (byteF bs i)) := fun i hi => (World.cell?_of_block (w := W2) (Below.heap_setCell _ _ _ _ hne)).trans (hc i hi)
        have x0 := hcell 0 (by decide)
        have x1 := hcell 1 (by decide)
        have x2 := hcell 2 (by decide)
        have x3 := hcell 3 (by decide)
        rw [Nat.add_zero] at x0
        clear htk hL1 hRB1 E1 hc hcell hbl
        generalize W2.setCell ⟨rb, 0, none⟩ v = W3 at *
        clear W2 v
        have hbd2 := byteF_bd HBB.out 2
        have hbd3 := byteF_bd HBB.out 3
        have wr2 : IntKind.i64.wrap (byteF bs 2) = byteF bs 2 := IntWalk.i64_in _ (by omega)
        have wr3 : IntKind.i64.wrap (byteF bs 3) = byteF bs 3 := IntWalk.i64_in _ (by omega)
        by_cases hml : (byteF bs 0 == 77 && byteF bs 1 == 76) = true
        · obtain ⟨hm0, hm1⟩ : (byteF bs 0 == 77) = true ∧ (byteF bs 1 == 76) = true := by simpa using hml
          go_wp2_with (go_at_call 82; refine (must_ok _ _).mono ?_; rintro e w' ⟨rfl, rfl⟩)
          go_region_held3 (fun w' => Ext W3 w' ∧ w'.cell? ⟨b, off + 2, none⟩ = some (.int .u8 (byteF bs 2)) ∧ w'.cell? ⟨b, off + 3, none⟩ = some (.int .u8 (byteF bs 3)))
            (first | exact ⟨(Ext.refl W3).drew, x2, x3⟩ | exact alloc_agg6 ⟨(Ext.refl W3).drew, x2, x3⟩ _ | assumption)
            (fail)
          have hlb : (W3.alloc (.cells #[.int .i64 (byteF bs 2), .int .i64 (byteF bs 3), .int .i64 2, .int .i64 0, .int .i64 0, .int .i64 0] 25)).drew.heap[W3.heap.size]? = some (.cells #[.int .i64 (byteF bs 2), .int .i64 (byteF bs 3), .int .i64 2, .int .i64 0, .int .i64 0, .int .i64 0] 25 (0, 0)) := heap_alloc_new W3 _
          have X4 : Ext W3 (W3.alloc (.cells #[.int .i64 (byteF bs 2), .int .i64 (byteF bs 3), .int .i64 2, .int .i64 0, .int .i64 0, .int .i64 0] 25)).drew := ((Ext.refl W3).alloc _).drew
          have hRB3 := hRB2.ext X4
          have hL3 := hL2.ext X4
          have E3 := E2.comp X4
          have hbr : rb < W3.heap.size := hL2.lt
          obtain ⟨bl, hbl⟩ : ∃ bl, W3.heap.size = bl := ⟨_, rfl⟩
          rw [hbl] at hlb hbr ⊢
          generalize (W3.alloc (.cells #[.int .i64 (byteF bs 2), .int .i64 (byteF bs 3), .int .i64 2, .int .i64 0, .int .i64 0, .int .i64 0] 25)).drew = W4 at *
          clear X4 hbl hRB2 hL2 E2 x0 x1 x2 x3 hbs wr2 wr3
          have HML := Lib.hid hml
          clear hml hm0 hm1
          have hck := fun W => check_any (lineF bs) W
          dsimp only [lineF] at hck
          have l0 := blk_cell hlb 0 (v := .int .i64 (byteF bs 2)) rfl
          have l1 := blk_cell hlb 1 (v := .int .i64 (byteF bs 3)) rfl
          have l2 := blk_cell hlb 2 (v := .int .i64 2) rfl
          have l3 := blk_cell hlb 3 (v := .int .i64 0) rfl
          have l4 := blk_cell hlb 4 (v := .int .i64 0) rfl
          have l5 := blk_cell hlb 5 (v := .int .i64 0) rfl
          (try go_frame)
          go_wp2_with fail
          cases hok : okL (lineF bs) with
          | false =>
            obtain rfl : (0, 0, [], 6) = r := by rw [← HR.out]; exact (readF_bad (by rw [HN.out]; exact hl) (goodF_head (head_line hok))).symm
            rw [show (⟨byteF bs 2, byteF bs 3, 2, 0, 0, 0⟩ : Ln) = lineF bs from rfl, checkL_no hok] at hck
            clear hok
            refine (hck _).mono ?_
            rintro e W5 ⟨rfl, E5⟩
            have hRB4 := hRB3.ext E5
            have E4 := E3.comp E5
            go_wp2_with (go_at_call 82; refine (must_bad _ _).mono ?_; rintro e w' ⟨rfl, rfl⟩)
            exact leaves_bad [] (MarksL.nil _ _) hRB4 E4 rfl rfl rfl rfl
          | true =>
            rw [show (⟨byteF bs 2, byteF bs 3, 2, 0, 0, 0⟩ : Ln) = lineF bs from rfl, checkL_of hok] at hck
            have HOK := Lib.hid (okL_ok hok)
            have HHD := Lib.hid (head_yes hs (by rw [HN.out]; exact h4) HML.out hok)
            clear hok
            refine (hck _).mono ?_
            rintro e W5 ⟨rfl, E5⟩
            replace hRB3 := hRB3.ext E5
            replace hL3 := hL3.ext E5
            replace E3 := E3.comp E5
            replace hlb := (E5.block _ (Array.getElem?_eq_some_iff.1 hlb).1).trans hlb
            clear E5 hck l0 l1 l2 l3 l4 l5
            have l0 := blk_cell hlb 0 (v := .int .i64 (byteF bs 2)) rfl
            go_wp2_with (go_at_call 82; refine (must_ok _ _).mono ?_; rintro e w' ⟨rfl, rfl⟩)
            -- LOOPBEGIN
            obtain ⟨K, hK⟩ : ∃ K : Nat, byteF bs 2 = K := Int.eq_ofNat_of_zero_le hbd2.1
            have hKN : (byteF bs 2).toNat = K := by omega
            have HK := Lib.hid hK
            have HKN := Lib.hid hKN
            have hszb := size_bd HOK.out
            have hszq : (byteF bs 3 + 7) / 8 = ((sizeF bs : Nat) : Int) := by unfold sizeF many8; omega
            have hKZ0 : (K : Int) ≤ byteF bs 2 := by omega
            have hKZ1 : byteF bs 2 ≤ (K : Int) := by omega
            have hK64 : K ≤ 64 := by have := HOK.out.words; have h2 : (lineF bs).words = byteF bs 2 := rfl; omega
            clear hK hKN l0
            refine wp_loop (fun a' W => ∃ (k : Nat) (Ds : List Nat) (v : Value) (c' : Nat) (u9 u10 u11 u53 u54 u55 u56 u57 u58 u59 u60 u61 u62 u63 u64 u65 u66 u67 u68 u69 u70 u71 u72 : Value), k ≤ K ∧ a' = { tmps := #[.slice a n c, undef, .pointer (some ⟨w.heap.size, 0, none⟩), .pointer (some ⟨w.heap.size + 1, 0, none⟩), .pointer (some ⟨w.heap.size + 1 + 1, 0, none⟩), .pointer (some ⟨w.heap.size + 1 + 1 + 1, 0, none⟩), .pointer (some ⟨rb, 0, none⟩), .slice (some ⟨b, off, none⟩) 4 4, .pointer (some ⟨bl, 0, none⟩), u9, u10, u11, .func (.func 81) #[] #[.pointer (some ⟨w.heap.size, 0, none⟩), .pointer (some ⟨w.heap.size + 1, 0, none⟩), .pointer (some ⟨w.heap.size + 1 + 1, 0, none⟩), .pointer (some ⟨w.heap.size + 1 + 1 + 1, 0, none⟩)], .slice a n c, .int .i64 n, .bool true, .tuple #[], .slice a n c, .int .u8 0, .bool true, .tuple #[], .slice a n c, .agg #[.slice a n c], .pointer (some ⟨rb, 0, none⟩), .pointer (some ⟨rb, 0, none⟩), .slice (some ⟨b, off, none⟩) 4 4, .slice (some ⟨b, off, none⟩) 4 4, .pointer (some ⟨b, off, none⟩), .int .u8 (byteF bs 0), .bool true, .bool true, .slice (some ⟨b, off, none⟩) 4 4, .pointer (some ⟨b, off + 1, none⟩), .int .u8 (byteF bs 1), .bool true, .bool true, .tuple #[], .slice (some ⟨b, off, none⟩) 4 4, .pointer (some ⟨b, off + 2, none⟩), .int .u8 (byteF bs 2), .int .i64 (byteF bs 2), .slice (some ⟨b, off, none⟩) 4 4, .pointer (some ⟨b, off + 3, none⟩), .int .u8 (byteF bs 3), .int .i64 (byteF bs 3), .agg #[.int .i64 (byteF bs 2), .int .i64 (byteF bs 3), .int .i64 2, .int .i64 0, .int .i64 0, .int .i64 0], .agg #[.int .i64 (byteF bs 2), .int .i64 (byteF bs 3), .int .i64 2, .int .i64 0, .int .i64 0, .int .i64 0], .int .i64 0, .bool true, .tuple #[], .pointer (some ⟨bl, 0, none⟩), .int .i64 (byteF bs 2), .int .i64 k, u53, u54, u55, u56, u57, u58, u59, u60, u61, u62, u63, u64, u65, u66, u67, u68, u69, u70, u71, u72, undef, undef, undef, undef, undef, undef, undef, undef, undef, undef, undef, undef, undef, undef, undef, undef, undef, undef, undef], defers := Ds.map markL ++ [catchD w.heap.size] } ∧ MarksL w.heap.size W Ds ∧ ResB W w.heap.size (.int .i64 0) (.int .i64 0) v (.int .i64 0) ∧ W.ownsRow (bl + 1) 3 1 v k (iv ((wordsF bs).take k)) ∧ Left W rb (bs.drop (4 + k * sizeF bs)) c' w.heap.size ∧ W.heap[bl]? = some (.cells #[.int .i64 (byteF bs 2), .int .i64 (byteF bs 3), .int .i64 2, .int .i64 0, .int .i64 0, .int .i64 0] 25 (0, 0)) ∧ Ext w W) (fun a' _ => K - (Go.RowKit.intOf (a'.tmps.getD 52 undef)).toNat) ?_ ?_
            · exact ⟨0, [], .slice none 0 0, c - 4, undef, undef, undef, undef, undef, undef, undef, undef, undef, undef, undef, undef, undef, undef, undef, undef, undef, undef, undef, undef, undef, undef, undef, Nat.zero_le _, rfl, MarksL.nil _ _, hRB3, World.ownsRow_nil _ _ _ _, by rw [Nat.zero_mul]; exact hL3, hlb, E3⟩
            clear hRB3 hL3 E3 hlb
            rintro a' W ⟨k, Ds, v, c', u9, u10, u11, u53, u54, u55, u56, u57, u58, u59, u60, u61, u62, u63, u64, u65, u66, u67, u68, u69, u70, u71, u72, hk, rfl, hM, hRB, hown, hL, hlb, hE⟩
            have HM := Lib.hid hM
            clear hM
            have l1 := fun ob => blk_cell (((Ext.refl W).alloc ob |>.block bl (Array.getElem?_eq_some_iff.1 hlb).1).trans hlb) 1 (v := .int .i64 (byteF bs 3)) rfl
            by_cases hlt : k < K
            · have hltz : (k : Int) < byteF bs 2 := by omega
              go_wp2_with fail
              have hdl : (bs.drop (4 + k * sizeF bs)).length = n - (4 + k * sizeF bs) := by rw [List.length_drop, HN.out]
              have hmul : (k + 1) * sizeF bs ≤ K * sizeF bs := Nat.mul_le_mul_right _ hlt
              have hmul2 : (k + 1) * sizeF bs = k * sizeF bs + sizeF bs := by rw [Nat.add_mul]; omega
              have X1 : Ext W (W.alloc (.cells #[.int .i64 0] 3)) := (Ext.refl W).alloc _
              by_cases hen : n - (4 + k * sizeF bs) < sizeF bs
              · obtain rfl : (0, 0, [], 6) = r := by rw [← HR.out]; exact (readF_bad (by rw [HN.out]; exact hl) (good_len (by rw [HN.out, HKN.out]; omega))).symm
                refine (take_bad rb _ c' w.heap.size (sizeF bs) _ (hL.ext X1) (by rw [hdl]; exact hen) (by omega)).mono ?_
                rintro e w' ⟨rfl, rfl⟩
                exact leaves_bad Ds (HM.out.keep (fun E hE => (X1.block E (Array.getElem?_eq_some_iff.1 hE).1).trans hE)) (hRB.ext X1) (hE.comp X1) rfl rfl rfl rfl
              · have hbW : w.heap.size ≤ W.heap.size := hE.size
                have hblW : bl < W.heap.size := (Array.getElem?_eq_some_iff.1 hlb).1
                refine (take_ok rb _ c' w.heap.size (sizeF bs) _ (hL.ext X1) hszb.1 (by rw [hdl]; omega)).mono ?_
                rintro e W2 ⟨b', off', v', rfl, rfl, hbl', hc', hL2, hne', hbm'⟩
                rw [List.drop_drop, show 4 + k * sizeF bs + sizeF bs = 4 + (k + 1) * sizeF bs by omega] at hL2
                have hRB2 := (hRB.ext X1).put (o := 0) (v := v') (by omega)
                have hE2 := set_ext1 (hE.comp X1) hwr v'
                have hlb2 := blk_putR ((X1.block bl hblW).trans hlb) (c := rb) (o := 0) (v := v') (by omega)
                have hown2 := own_put2 (own_extR hown X1) (b := rb) (o := 0) (fun q e => by have := (hown.lt q e).1; omega) v'
                have hbn := blk_putR (heap_alloc_new W (.cells #[.int .i64 0] 3)) (c := rb) (o := 0) (v := v') (by omega)
                have hM2 : ∀ E : Nat, W.heap[E]? = some (Obj.deferred (some [])) → ((W.alloc (.cells #[.int .i64 0] 3)).setCell ⟨rb, 0, none⟩ v').heap[E]? = some (Obj.deferred (some [])) := fun E hE' => blk_putR ((X1.block E (Array.getElem?_eq_some_iff.1 hE').1).trans hE') (by
                  intro e
                  obtain ⟨aa, h1, _⟩ := hL.at_
                  rw [e, h1] at hE'
                  cases hE')
                have hcell : ∀ i, i < sizeF bs → ((W.alloc (.cells #[.int .i64 0] 3)).setCell ⟨rb, 0, none⟩ v').cell? ⟨b', off' + i, none⟩ = some (.int .u8 (byteF bs (4 + k * sizeF bs + i))) := fun i hi => (World.cell?_of_block (w := W.alloc (.cells #[.int .i64 0] 3)) (Below.heap_setCell _ _ _ _ hne')).trans ((hc' i hi).trans (by unfold byteF; rw [List.getElem?_drop]))
                have hbl2 : b' < ((W.alloc (.cells #[.int .i64 0] 3)).setCell ⟨rb, 0, none⟩ v').heap.size := by rw [World.size_setCell]; exact hbl'
                have hs2 : ((W.alloc (.cells #[.int .i64 0] 3)).setCell ⟨rb, 0, none⟩ v').heap.size = W.heap.size + 1 := by rw [World.size_setCell, World.size_alloc]
                have HM2 := Lib.hid (HM.out.keep hM2)
                have hol := fun q (e : v.ownBlock = some q) => (hown.lt q e).2
                obtain ⟨Bn, hBn⟩ : ∃ Bn, W.heap.size = Bn := ⟨_, rfl⟩
                rw [hBn] at hol
                have HOL := Lib.hid hol
                clear hol
                rw [hBn] at hs2 hbn hblW ⊢
                have hBw : w.heap.size ≤ Bn := by omega
                clear l1 hc' hbl' hL hRB hown hlb hE X1 hdl hM2
                generalize (W.alloc (.cells #[.int .i64 0] 3)).setCell ⟨rb, 0, none⟩ v' = W2 at *
                go_wp2_with fail
                refine (backU_any _ _ _ _).mono ?_
                rintro e W3 ⟨rfl, hW3⟩
                have X3 : Ext W2 W3 := by rw [← hW3]; exact (Ext.refl W2).alloc _
                have hbs : Boxed W3 W2.heap.size 46 (.slice (some ⟨b', off', none⟩) (sizeF bs) (sizeF bs)) := by rw [← hW3]; exact Boxed.new W2 _ _
                have hs3 : W3.heap.size = Bn + 2 := by rw [← hW3, World.size_alloc, hs2]
                rw [hs2] at hbs ⊢
                clear hW3
                go_wp2_with fail
                obtain ⟨f, hf⟩ : ∃ f : Nat → Int, (fun i => byteF bs (4 + k * sizeF bs + i)) = f := ⟨_, rfl⟩
                have hfb : ∀ i, 0 ≤ f i ∧ f i ≤ 255 := fun i => by rw [← hf]; exact byteF_bd HBB.out _
                have hcf : ∀ i, i < sizeF bs → W3.cell? ⟨b', off' + i, none⟩ = some (.int .u8 (f i)) := fun i hi => (X3.cell (p := ⟨b', off' + i, none⟩) hbl2).trans (by rw [hcell i hi, ← hf])
                have HWD := Lib.hid (show accD f (sizeF bs) = wordF bs k by rw [← hf]; rfl)
                have HFB := Lib.hid hfb
                have HCF := Lib.hid hcf
                have bn0 : Boxed W3 Bn 3 (.int .i64 (accK f (sizeF bs) 0)) := (X3.block Bn (by omega)).trans hbn
                have hb3 : b' < W3.heap.size := by have := X3.size; omega
                have HNB := Lib.hid (show b' ≠ Bn by omega)
                clear hf hfb hcf hcell hbn
                obtain ⟨M, hM⟩ : ∃ M : Nat → Prop, M = fun q => q = Bn ∨ W3.heap.size ≤ q := ⟨_, rfl⟩
                refine (wpIn_wide (n := 9)).1 ?_
                refine wpIn_rangeFunc_J (n := 9) (α := Int × Int) (gf := 100) (lb := #[.pointer (some ⟨Bn + 1, 0, none⟩)]) rfl (enters_of Try.func100 (by kernel_rfl) rfl)
                  (encs := fun x => #[.int .i64 x.1, .int .u8 x.2]) (fun _ => rfl)
                  (fun m V => Boxed V Bn 3 (.int .i64 (accK f (sizeF bs) m)) ∧ KpM M W3 V)
                  (fun m x V => x = (((sizeF bs - 1 - m : Nat) : Int), f (sizeF bs - 1 - m)))
                  (sizeF bs) (KpM M) (fun h k => h.trans k) ?kb ?tj ?tx ?h0 ?call
                  (fun x => { tmps := #[.slice a n c, undef, .pointer (some ⟨w.heap.size, 0, none⟩), .pointer (some ⟨w.heap.size + 1, 0, none⟩), .pointer (some ⟨w.heap.size + 1 + 1, 0, none⟩), .pointer (some ⟨w.heap.size + 1 + 1 + 1, 0, none⟩), .pointer (some ⟨rb, 0, none⟩), .slice (some ⟨b, off, none⟩) 4 4, .pointer (some ⟨bl, 0, none⟩), .pointer (some ⟨Bn, 0, none⟩), u10, .int .u8 x.2, .func (.func 81) #[] #[.pointer (some ⟨w.heap.size, 0, none⟩), .pointer (some ⟨w.heap.size + 1, 0, none⟩), .pointer (some ⟨w.heap.size + 1 + 1, 0, none⟩), .pointer (some ⟨w.heap.size + 1 + 1 + 1, 0, none⟩)], .slice a n c, .int .i64 n, .bool true, .tuple #[], .slice a n c, .int .u8 0, .bool true, .tuple #[], .slice a n c, .agg #[.slice a n c], .pointer (some ⟨rb, 0, none⟩), .pointer (some ⟨rb, 0, none⟩), .slice (some ⟨b, off, none⟩) 4 4, .slice (some ⟨b, off, none⟩) 4 4, .pointer (some ⟨b, off, none⟩), .int .u8 (byteF bs 0), .bool true, .bool true, .slice (some ⟨b, off, none⟩) 4 4, .pointer (some ⟨b, off + 1, none⟩), .int .u8 (byteF bs 1), .bool true, .bool true, .tuple #[], .slice (some ⟨b, off, none⟩) 4 4, .pointer (some ⟨b, off + 2, none⟩), .int .u8 (byteF bs 2), .int .i64 (byteF bs 2), .slice (some ⟨b, off, none⟩) 4 4, .pointer (some ⟨b, off + 3, none⟩), .int .u8 (byteF bs 3), .int .i64 (byteF bs 3), .agg #[.int .i64 (byteF bs 2), .int .i64 (byteF bs 3), .int .i64 2, .int .i64 0, .int .i64 0, .int .i64 0], .agg #[.int .i64 (byteF bs 2), .int .i64 (byteF bs 3), .int .i64 2, .int .i64 0, .int .i64 0, .int .i64 0], .int .i64 0, .bool true, .tuple #[], .pointer (some ⟨bl, 0, none⟩), .int .i64 (byteF bs 2), .int .i64 k, .bool true, .pointer (some ⟨rb, 0, none⟩), .pointer (some ⟨bl, 1, none⟩), .int .i64 (byteF bs 3), .int .i64 (byteF bs 3 + 7), .int .i64 (sizeF bs), .slice (some ⟨b', off', none⟩) (sizeF bs) (sizeF bs), .func (.func 100) #[] #[.pointer (some ⟨Bn + 1, 0, none⟩)], .int .i64 x.1, .int .u8 x.2, u63, u64, u65, u66, u67, u68, u69, u70, u71, u72, undef, undef, undef, undef, undef, undef, undef, undef, undef, undef, undef, undef, undef, undef, undef, undef, undef, undef, undef], defers := [] }) ?assign ?body ?done
                case kb => exact fun V o o' _ _ => KpM.put V _ o' (by rw [hM]; exact .inr (by omega))
                case tj =>
                  rintro m V o o' ⟨h1, h2⟩ ho hn
                  have kp := KpM.put (M := fun q => q = W3.heap.size + 1) V (W3.heap.size + 1) o' rfl
                  exact ⟨boxed_kp h1 kp (by omega), h2.trans (KpM.put V _ o' (by rw [hM]; exact .inr (by omega)))⟩
                case tx => exact fun m x V o o' h _ _ => h
                case h0 => exact fun V E => ⟨(E.block Bn (by omega)).trans bn0, KpM.of_ext E⟩
                case call =>
                  intro yl JJ V1 E1' hlt' hJJ hJk hY h0
                  refine backU_in 8 (by decide) yl (Bn + 1) b' off' (sizeF bs) f M (by rw [hM]; omega) (by rw [hM]; have := HNB.out; omega) JJ V1 (fun m V hm hms => hY m _ V hm hms rfl) (show Boxed V1 (Bn + 1) 46 (.slice (some ⟨b', off', none⟩) (sizeF bs) (sizeF bs)) from (E1'.block _ (by omega)).trans hbs).cell (by omega) (by have := E1'.size; omega) (fun i hi => (E1'.cell (p := ⟨b', off' + i, none⟩) hb3).trans (HCF.out i hi)) (by omega) h0
                case assign =>
                  intro l' x V KK hKK
                  gi_wp2
                  exact hKK
                case body =>
                  rintro l' m x V ⟨h1, h2⟩ hm rfl
                  dsimp only
                  have c1 := h1.cell
                  have f1 := h1.frozen
                  have hA := accK_bd (f := f) (N := sizeF bs) (k := m) (by omega) (fun j _ => HFB.out j)
                  have h256 : (256 : Int) ^ m ≤ 4294967296 := by
                    exact le256 (by omega)
                  have hx := HFB.out (sizeF bs - 1 - m)
                  have HSN := Lib.hid (accK_succ f hm)
                  obtain ⟨A, hAe⟩ : ∃ A, accK f (sizeF bs) m = A := ⟨_, rfl⟩
                  obtain ⟨y, hye⟩ : ∃ y, f (sizeF bs - 1 - m) = y := ⟨_, rfl⟩
                  rw [hAe] at h1 c1 hA HSN
                  rw [hye] at hx HSN ⊢
                  have hA0 : 0 ≤ A := hA.1
                  have hA1 : A < 4294967296 := by omega
                  obtain ⟨hx0, hx1⟩ := hx
                  have hor := i64_or256 A y hA0 (by omega) hx0 hx1
                  have wy : IntKind.i64.wrap y = y := IntWalk.i64_in _ (by omega)
                  have hks := fun v => KpM.set (M := M) V Bn v (by rw [hM]; exact .inl rfl)
                  have HKS := Lib.hid hks
                  clear hAe hye hA h256 hM hks hs3 hs2 hBn bn0 hbs hlb2 hmul2 hszq hmf
                  gi_wp2
                  refine ⟨rfl, (KeepsOthers.setCell _ _ _).from _, HKS.out _, ?_, h2.trans (HKS.out _)⟩
                  rw [HSN.out]
                  exact h1.set _
                case done =>
                  rintro D V hD ⟨h1, h2⟩ hdef
                  rw [accK_all, HWD.out] at h1
                  have hVs := h2.size
                  have kq : ∀ q o, q < W3.heap.size → q ≠ Bn → W3.heap[q]? = some o → V.heap[q]? = some o := fun q o hq hne ho => (h2.block q hq (by rw [hM]; omega)).trans ho
                  have hRB4 : ResB V w.heap.size (.int .i64 0) (.int .i64 0) v (.int .i64 0) := by
                    have h := hRB2.ext X3
                    exact ⟨kq _ _ (by omega) (by omega) h.c0, kq _ _ (by omega) (by omega) h.c1, kq _ _ (by omega) (by omega) h.c2, kq _ _ (by omega) (by omega) h.c3⟩
                  have hE4 : Ext w V := h2.below (hE2.comp X3) (by have := hE2.size; omega) (fun q hq => by rw [hM] at hq; omega)
                  have hlb4 : V.heap[bl]? = some (.cells #[.int .i64 (byteF bs 2), .int .i64 (byteF bs 3), .int .i64 2, .int .i64 0, .int .i64 0, .int .i64 0] 25 (0, 0)) := kq _ _ (by omega) (by omega) ((X3.block bl (by omega)).trans hlb2)
                  have hL4 : Left V rb (bs.drop (4 + (k + 1) * sizeF bs)) (c' - sizeF bs) w.heap.size := (hL2.ext X3).keep h2.size (fun x hx => kq _ _ (by omega) (by omega) hx) (fun q hq => h2.block q (by omega) (by rw [hM]; omega))
                  have hown4 : V.ownsRow (bl + 1) 3 1 v k (iv ((wordsF bs).take k)) := by
                    refine (own_extR hown2 X3).kept (row := some Bn) ⟨h2.os, h2.tape, h2.output, h2.size, fun q hq hne => ?_⟩ ?_
                    · exact h2.block q hq (by rw [hM]; rintro (e | e); exact hne (by rw [e]); omega)
                    · by_cases e : v.ownBlock = none
                      · exact .inl e
                      · exact .inr (fun e2 => by have := HOL.out _ e2; omega)
                  have hvB : ∀ q, v.ownBlock = some q → bl + 1 ≤ q ∧ q < Bn := fun q e => ⟨(hown2.lt q e).1, HOL.out q e⟩
                  have kd : ∀ E : Nat, W2.heap[E]? = some (Obj.deferred (some [])) → V.heap[E]? = some (Obj.deferred (some [])) := fun E hE' => by
                    have hlt' := (Array.getElem?_eq_some_iff.1 hE').1
                    have h3 := (X3.block E hlt').trans hE'
                    refine kq E _ (by have := X3.size; omega) (fun e => ?_) h3
                    have hb0 : W3.heap[Bn]? = _ := bn0
                    rw [e, hb0] at h3
                    cases h3
                  have HKD := Lib.hid kd
                  have HVB := Lib.hid hvB
                  have HLW := Lib.hid (show (wordsF bs).take (k + 1) = (wordsF bs).take k ++ [wordF bs k] from take_snoc (by unfold wordsF; rw [fstN_length, HKN.out]; exact hlt) 0 (by unfold wordsF; rw [fstN_get _ (by rw [HKN.out]; exact hlt)]; rfl))
                  have hbl8 : bl < V.heap.size := by omega
                  have hD2 : W2.heap.size ≤ D := by omega
                  have HDF := Lib.hid hdef
                  have hD3 : w.heap.size ≤ D := by omega
                  have c2 := fun ob => blk_cell (((Ext.refl V).alloc ob |>.block _ (Array.getElem?_eq_some_iff.1 hRB4.c2).1).trans hRB4.c2) 0 (v := v) rfl
                  have c2' := blk_cell hRB4.c2 0 (v := v) rfl
                  have cn := h1.cell
                  obtain ⟨i0, hi, hz0, hz1, hz2⟩ := info_parts Try.infoE
                  have hbk : ∀ (o : Obj) (Z : World), (V.alloc o).grownBy Z v.ownBlock → ∀ q x, V.heap[q]? = some x → v.ownBlock ≠ some q → Z.heap[q]? = some x := fun o Z g q x hq hne => by
                    have hlt' := (Array.getElem?_eq_some_iff.1 hq).1
                    exact (g.block q (by rw [World.size_alloc]; omega) (fun e => hne e.symm)).trans (((Ext.refl V).alloc o |>.block q hlt').trans hq)
                  have HBK := Lib.hid hbk
                  have HOW := Lib.hid hown4
                  have h2ne : v.ownBlock ≠ some (w.heap.size + 1 + 1) := fun e => by have := (hvB _ e).1; omega
                  clear hbk kd hvB h1 h2 hM hown2 hRB2 hlb2 hE2 X3 hbs bn0 hb3 hdef kq hs3 hs2 hBn hbl2
                  (try go_frame)
                  go_wp2_with (at_builtin; refine wpList_append_own _ rfl _ _ 26 rfl (bl + 1) 3 i0 (.int .i64 0) 1 8 Try.underlying26 hi hz0 hz1 hz2 rfl (by decide) _ _ _ rfl (hown4.alloc _) ⟨V.heap.size, 0, none⟩ 1 1 [.int .i64 (wordF bs k)] rfl rfl (cell_one_new _ _ _) (by simp [Value.oneCell']) (by unfold maxLen; omega) (by omega) (by simp; omega) ?_; intro v2 w10 hown' hgrow hnil; clear hnil; obtain ⟨g', cap', rfl⟩ := ownsRow_succ hown'; have fr0 := blk_free (HBK.out _ _ hgrow _ _ hRB4.c2 h2ne) 0; have cr0 := blk_cell (HBK.out _ _ hgrow _ _ hRB4.c2 h2ne) 0 (v := v) rfl)
                  have hkf : ∀ q x, V.heap[q]? = some x → v.ownBlock ≠ some q → q ≠ w.heap.size + 1 + 1 → (w10.setCell ⟨w.heap.size + 1 + 1, 0, none⟩ (.slice (some ⟨g', 0, none⟩) (k + 1) cap')).heap[q]? = some x := fun q x hq hne h2 => blk_putR (HBK.out _ _ hgrow q x hq hne) h2
                  have hRB5 : ResB (w10.setCell ⟨w.heap.size + 1 + 1, 0, none⟩ (.slice (some ⟨g', 0, none⟩) (k + 1) cap')) w.heap.size (.int .i64 0) (.int .i64 0) (.slice (some ⟨g', 0, none⟩) (k + 1) cap') (.int .i64 0) := by
                    refine ⟨hkf _ _ hRB4.c0 (fun e => ?_) (by omega), hkf _ _ hRB4.c1 (fun e => ?_) (by omega), ?_, hkf _ _ hRB4.c3 (fun e => ?_) (by omega)⟩
                    · have := (HVB.out _ e).1; omega
                    · have := (HVB.out _ e).1; omega
                    · exact heap_setCell_same w10 (w.heap.size + 1 + 1) 0 _ _ _ (HBK.out _ _ hgrow _ _ hRB4.c2 h2ne)
                    · have := (HVB.out _ e).1; omega
                  have hE5 : Ext w (w10.setCell ⟨w.heap.size + 1 + 1, 0, none⟩ (.slice (some ⟨g', 0, none⟩) (k + 1) cap')) := set_ext1 ((hE4.alloc _).grown hgrow (Nat.le_trans hE4.size (by simp)) (fun q e => by have := (HVB.out q e).1; omega)) (by omega) _
                  have hlb5 := hkf bl _ hlb4 (fun e => by have := (HVB.out _ e).1; omega) (by omega)
                  have hL5 : Left (w10.setCell ⟨w.heap.size + 1 + 1, 0, none⟩ (.slice (some ⟨g', 0, none⟩) (k + 1) cap')) rb (bs.drop (4 + (k + 1) * sizeF bs)) (c' - sizeF bs) w.heap.size := hL4.keep (by have := hgrow.size; simp at this ⊢; omega) (fun x hx => hkf _ _ hx (fun e => by have := (HVB.out _ e).1; omega) (by omega)) (fun q hq => by
                    have hqV : q < V.heap.size := by have := hE4.size; omega
                    have h8 := hkf q _ (Array.getElem?_eq_getElem hqV) (fun e => by have := (HVB.out _ e).1; omega) (by omega)
                    rw [h8, Array.getElem?_eq_getElem hqV])
                  have o5 : (w10.setCell ⟨w.heap.size + 1 + 1, 0, none⟩ (.slice (some ⟨g', 0, none⟩) (k + 1) cap')).ownsRow (bl + 1) 3 1 (.slice (some ⟨g', 0, none⟩) (k + 1) cap') (k + 1) (iv ((wordsF bs).take (k + 1))) := by
                    rw [HLW.out, ← iv_app]
                    exact own_put2 hown' (fun q e => by have := (hown'.lt q e).1; omega) _
                  have hM5 : MarksL w.heap.size (w10.setCell ⟨w.heap.size + 1 + 1, 0, none⟩ (.slice (some ⟨g', 0, none⟩) (k + 1) cap')) (D :: Ds) := by
                    have kdf : ∀ E : Nat, V.heap[E]? = some (Obj.deferred (some [])) → (w10.setCell ⟨w.heap.size + 1 + 1, 0, none⟩ (.slice (some ⟨g', 0, none⟩) (k + 1) cap')).heap[E]? = some (Obj.deferred (some [])) := fun E hE' => hkf E _ hE' (fun e => by
                      obtain ⟨cs, hcs⟩ := own_typeR HOW.out e
                      rw [hE'] at hcs
                      cases hcs) (fun e => by
                      have h0 := hRB4.c2
                      rw [← e, hE'] at h0
                      cases h0)
                    exact HM2.out.cons (fun E hE' => kdf E (HKD.out E hE')) hD2 hD3 (kdf D HDF.out)
                  clear hkf hgrow hown' hown4 hRB4 hE4 hlb4 hL4 fr0 cr0 cn c2 c2' HBK
                  have hcast : (k : Int) + 1 = ((k + 1 : Nat) : Int) := by omega
                  rw [hcast]
                  exact ⟨⟨k + 1, D :: Ds, _, c' - sizeF bs, _, _, _, _, _, _, _, _, _, _, _, _, _, _, _, _, _, _, _, _, _, _, _, by omega, rfl, hM5, hRB5, o5, hL5, hlb5, hE5⟩, by simp [Go.RowKit.intOf]; omega⟩
            · have hltz : ¬ (k : Int) < byteF bs 2 := by omega
              obtain rfl : k = K := by omega
              have hdl : (bs.drop (4 + k * sizeF bs)).length = n - (4 + k * sizeF bs) := by rw [List.length_drop, HN.out]
              obtain ⟨aL, hLb, -⟩ := hL.at_
              rw [hdl] at hLb
              obtain ⟨LL, hLL⟩ : ∃ LL, n - (4 + k * sizeF bs) = LL := ⟨_, rfl⟩
              rw [hLL] at hLb
              have r0 := blk_cell hLb 0 (v := .slice aL LL c') rfl
              clear l1
              have q0 := blk_cell hlb 0 (v := .int .i64 (byteF bs 2)) rfl
              have q1 := blk_cell hlb 1 (v := .int .i64 (byteF bs 3)) rfl
              have q2 := blk_cell hlb 2 (v := .int .i64 2) rfl
              have q3 := blk_cell hlb 3 (v := .int .i64 0) rfl
              have q4 := blk_cell hlb 4 (v := .int .i64 0) rfl
              have q5 := blk_cell hlb 5 (v := .int .i64 0) rfl
              have hwl : (wordsF bs).length = k := by unfold wordsF; rw [fstN_length]; exact HKN.out
              rw [show (wordsF bs).take k = wordsF bs from List.take_of_length_le (by omega)] at hown
              obtain ⟨av, cv, rfl⟩ := own_formU hown
              have v2 := blk_cell hRB.c2 0 (v := .slice av k cv) rfl
              by_cases h1L : LL = 1
              · have hLe : bs.length = 5 + (byteF bs 2).toNat * sizeF bs := by rw [HN.out, HKN.out]; omega
                have hLi : ((LL : Int) == 1) = true := by simp [h1L]
                have hIw : IntsAt W av (wordsF bs) := own_ints hown
                have htc := fun W' (E : Ext W W') => tcheck_any (lineF bs) av k cv (wordsF bs) W' HOK.out hwl (by omega) (hIw.ext E)
                dsimp only [lineF] at htc
                rw [show (⟨byteF bs 2, byteF bs 3, 2, 0, 0, 0⟩ : Ln) = lineF bs from rfl] at htc
                have HLE := Lib.hid hLe
                have HWL := Lib.hid hwl
                clear hLL hdl hmf hLe hwl h1L
                go_wp2_with fail
                by_cases hwz : wordsE (lineF bs) (wordsF bs) = 0
                · rw [hwz] at htc
                  obtain rfl : (byteF bs 2, byteF bs 3, wordsF bs, 0) = r := by rw [← HR.out]; exact (readF_good (by rw [HN.out]; exact hl) (good_yes HHD.out HLE.out hwz)).symm
                  refine (htc _ (Ext.refl _)).mono ?_
                  rintro e W6 ⟨rfl, E6⟩
                  replace hRB := hRB.ext E6
                  replace hlb := (E6.block _ (Array.getElem?_eq_some_iff.1 hlb).1).trans hlb
                  replace hown := own_extR hown E6
                  replace hE := hE.comp E6
                  have HM6 := Lib.hid (HM.out.keep (fun E hE' => (E6.block E (Array.getElem?_eq_some_iff.1 hE').1).trans hE'))
                  clear htc E6 q0 q1 q2 q3 q4 q5 r0 v2 hIw hLb hL
                  have q0 := blk_cell hlb 0 (v := .int .i64 (byteF bs 2)) rfl
                  have q1 := blk_cell hlb 1 (v := .int .i64 (byteF bs 3)) rfl
                  have v0 := blk_cell hRB.c0 0 (v := .int .i64 0) rfl
                  have v1 := blk_cell hRB.c1 0 (v := .int .i64 0) rfl
                  have v2 := blk_cell hRB.c2 0 (v := .slice av k cv) rfl
                  have v3 := blk_cell hRB.c3 0 (v := .int .i64 0) rfl
                  have f0 := blk_free hRB.c0 0
                  have f1 := blk_free hRB.c1 0
                  have f2 := blk_free hRB.c2 0
                  have f3 := blk_free hRB.c3 0
                  go_wp2_with (go_at_call 82; refine (must_ok _ _).mono ?_; rintro e w' ⟨rfl, rfl⟩)
                  clear hLi hltz hKZ0 hKZ1 hk hlt
                  go_region
                  have hR9 := res_final (x := .int .i64 (byteF bs 2)) (y := .int .i64 (byteF bs 3)) (s := .slice av k cv) (z := .int .i64 0) hRB
                  have hO9 := res_own (b0 := w.heap.size) (x := .int .i64 (byteF bs 2)) (y := .int .i64 (byteF bs 3)) (s := .slice av k cv) (z := .int .i64 0) hown (by omega)
                  have hE9 := res_below (x := .int .i64 (byteF bs 2)) (y := .int .i64 (byteF bs 3)) (s := .slice av k cv) (z := .int .i64 0) hE
                  have hM9 : MarksL w.heap.size (resW W6 w.heap.size (.int .i64 (byteF bs 2)) (.int .i64 (byteF bs 3)) (.slice av k cv) (.int .i64 0)) Ds := HM6.out.keep (fun E hE' => res_keep hE' (by
                    by_cases e : E < w.heap.size
                    · exact .inl e
                    · by_cases e2 : w.heap.size + 3 < E
                      · exact .inr e2
                      · exfalso
                        have h : E = w.heap.size ∨ E = w.heap.size + 1 ∨ E = w.heap.size + 1 + 1 ∨ E = w.heap.size + 1 + 1 + 1 := by omega
                        rcases h with rfl | rfl | rfl | rfl
                        · have := hRB.c0; rw [hE'] at this; cases this
                        · have := hRB.c1; rw [hE'] at this; cases this
                        · have := hRB.c2; rw [hE'] at this; cases this
                        · have := hRB.c3; rw [hE'] at this; cases this))
                  obtain ⟨W9, hW9⟩ : ∃ W9, resW W6 w.heap.size (.int .i64 (byteF bs 2)) (.int .i64 (byteF bs 3)) (.slice av k cv) (.int .i64 0) = W9 := ⟨_, rfl⟩
                  change Exit.then _ _ _ _ (resW W6 w.heap.size (.int .i64 (byteF bs 2)) (.int .i64 (byteF bs 3)) (.slice av k cv) (.int .i64 0))
                  rw [hW9] at hR9 hO9 hE9 hM9 ⊢
                  clear hW9 hRB hown hE HM6 v0 v1 v2 v3 f0 f1 f2 f3 q0 q1 hlb
                  (try go_frame)
                  go_wp2_with fail
                  have e9 := HWL.out
                  subst e9
                  exact leaves_good Ds hM9 hR9 hO9 hE9 rfl rfl rfl rfl
                · obtain rfl : (0, 0, [], 6) = r := by rw [← HR.out]; exact (readF_bad (by rw [HN.out]; exact hl) (good_words hwz)).symm
                  have hwzb : (wordsE (lineF bs) (wordsF bs) == 0) = false := by simpa using hwz
                  refine (htc _ (Ext.refl _)).mono ?_
                  rintro e W6 ⟨rfl, E6⟩
                  go_wp2_with (go_at_call 82; refine (must_bad _ _).mono ?_; rintro e w' ⟨rfl, rfl⟩)
                  exact leaves_bad Ds (HM.out.keep (fun E hE' => (E6.block E (Array.getElem?_eq_some_iff.1 hE').1).trans hE')) (hRB.ext E6) (hE.comp E6) rfl rfl rfl rfl
              · obtain rfl : (0, 0, [], 6) = r := by rw [← HR.out]; exact (readF_bad (by rw [HN.out]; exact hl) (good_len (by rw [HN.out, HKN.out]; omega))).symm
                have hLi : ((LL : Int) == 1) = false := by simp; omega
                clear hLL hdl hmf
                go_wp2_with (go_at_call 82; refine (must_bad _ _).mono ?_; rintro e w' ⟨rfl, rfl⟩)
                exact leaves_bad Ds HM.out hRB hE rfl rfl rfl rfl
            -- LOOPEND
        · have hml' : (byteF bs 0 == 77 && byteF bs 1 == 76) = false := by simpa using hml
          obtain rfl : (0, 0, [], 6) = r := by rw [← HR.out]; exact (readF_bad (by rw [HN.out]; exact hl) (goodF_head (head_ml hml'))).symm
          cases hm0 : byteF bs 0 == 77 with
          | false =>
            clear hml hml'
            go_wp2_with (go_at_call 82; refine (must_bad _ _).mono ?_; rintro e w' ⟨rfl, rfl⟩)
            exact leaves_bad [] (MarksL.nil _ _) hRB2 E2 rfl rfl rfl rfl
          | true =>
            rw [hm0] at hml'
            have hm1 : (byteF bs 1 == 76) = false := by simpa using hml'
            clear hml hml'
            go_wp2_with (go_at_call 82; refine (must_bad _ _).mono ?_; rintro e w' ⟨rfl, rfl⟩)
            exact leaves_bad [] (MarksL.nil _ _) hRB2 E2 rfl rfl rfl rfl
      · obtain rfl : (0, 0, [], 6) = r := by rw [← HR.out]; exact (readF_bad (by rw [HN.out]; exact hl) (goodF_head (head_len (by rw [HN.out]; omega)))).symm
        refine (take_bad rb bs c w.heap.size 4 W2 hL1 (by rw [HN.out]; omega) (by decide)).mono ?_
        rintro e w' ⟨rfl, rfl⟩
        exact leaves_bad [] (MarksL.nil _ _) hRB1 E1 rfl rfl rfl rfl
    · obtain rfl : (0, 0, [], 6) = r := by rw [← HR.out]; exact (readF_bad (by rw [HN.out]; exact hl) (goodF_head (head_sum hs))).symm
      have hsb : (sum8 bs == 0) = false := by simpa using hs
      go_wp2_with (go_at_call 82; refine (must_bad _ _).mono ?_; rintro e w' ⟨rfl, rfl⟩)
      exact leaves_bad [] (MarksL.nil _ _) hRB E0 rfl rfl rfl rfl
  · have d1 : decide ((n : Int) ≤ 400) = false := decide_eq_false (by omega)
    obtain rfl : (0, 0, [], 3) = r := by rw [← HR.out]; exact (readF_long (by rw [HN.out]; omega)).symm
    go_wp2_with (go_at_call 82; refine (must_bad _ _).mono ?_; rintro e w' ⟨rfl, rfl⟩)
    exact leaves_bad [] (MarksL.nil _ _) hRB E0 rfl rfl rfl rfl
end Go.Proofs.Ytkkchoinfdfiaaa
