import Derived.Sort.CutIn
import Derived.Maps.OwnIn
import Derived.Test.YtnhpcoagkmgdoaaGreatX11
set_option linter.unusedVariables false
set_option linter.unusedSimpArgs false
/- Layer 10's program: Read. -/
namespace Go.Proofs.YtnhpcoagkmgdoaaGreat
open Go.RowKit Go.Q Go.Shelf Go.Joins
attribute [local go_sem] Oper.semAt_some
/-- what Read returns: words in a block of its own -/
def ReadResN (r : List Int × List Int × Int × Int) (w : World) (e : Ending) (w' : World) : Prop := ∃ a c ma mc, e = .returned (.tuple #[.slice a r.1.length c, .slice ma r.2.1.length mc, .int .i64 r.2.2.1, .int .i64 r.2.2.2]) ∧ (r.1.length ≤ c ∧ c ≤ 9223372036854775807) ∧ (r.2.1.length ≤ mc ∧ mc ≤ 9223372036854775807) ∧ IntsAt w' a r.1 ∧ IntsAt w' ma r.2.1 ∧ Ext w w' ∧ (∀ b, a.map (·.block) = some b → w.heap.size ≤ b) ∧ (∀ b, ma.map (·.block) = some b → w.heap.size ≤ b)
theorem read_noneN {x y : Int} {w W : World} (E : Ext w W) : ReadResN ([], [], x, y) w (.returned (.tuple #[.slice none 0 0, .slice none 0 0, .int .i64 x, .int .i64 y])) W := ⟨none, 0, none, 0, rfl, ⟨Nat.le_refl _, by decide⟩, ⟨Nat.le_refl _, by decide⟩, .inl rfl, .inl rfl, E, (fun b e => by cases e), (fun b e => by cases e)⟩
set_option maxRecDepth 100000 in
set_option maxHeartbeats 8000000 in
theorem lread_early (a : Option Addr) (n c : Nat) (rs : List Nat) (w : World) (hn : rs.length = n) (hbig : n ≤ c ∧ c ≤ 9223372036854775807) (hI : BytesAt w a (natI rs)) (h256 : ∀ r ∈ rs, r < 256)
  (hx : 2400 < n ∨ n = 0 ∨ n % 65 ≠ 0 ∨ 127 < mxK rs n) : Calls Tryz.prog 32 #[.slice a n c] w (ReadResN (readE rs) w) := by
 by_cases hl : 2400 < n
 ·rw [read_long (by rw [hn]; exact hl)]
  have d1 : decide (2400 < (n : Int)) = true := decide_eq_true (by omega)
  clear hx hn hI h256
  go_enter Tryz.func32, Tryz.ntmps32
  go_wp2
  exact bodyPost_ret (v := .tuple #[.slice none 0 0, .slice none 0 0, .int .i64 0, .int .i64 3]) (by simp [results, Tryz.results32, go_sem]) rfl (read_noneN (((((Ext.refl w).alloc _).alloc _).alloc _).alloc _))
 ·have d1 : decide (2400 < (n : Int)) = false := decide_eq_false (by omega)
  by_cases h0 : n = 0
  ·rw [read_size (by rw [hn]; omega) (.inl (by rw [hn]; exact h0))]
   subst h0
   clear hx hn hI h256 hl d1
   go_enter Tryz.func32, Tryz.ntmps32
   go_wp2
   exact bodyPost_ret (v := .tuple #[.slice none 0 0, .slice none 0 0, .int .i64 0, .int .i64 6]) (by simp [results, Tryz.results32, go_sem]) rfl (read_noneN (((((Ext.refl w).alloc _).alloc _).alloc _).alloc _))
  ·have d2 : ((n : Int) == 0) = false := by simp; exact h0
   obtain ⟨r, hr⟩ : ∃ r, n % 65 = r := ⟨_, rfl⟩
   have t1 : Int.tmod (n : Int) 65 = (r : Int) := by rw [Int.tmod_eq_emod_of_nonneg (by omega)]; omega
   have t2 : (n : Int) % 65 = (r : Int) := by omega
   by_cases h1 : r = 0
   ·have hmx : 127 < mxK rs n := by rcases hx with h | h | h | h <;> first | exact h | omega
    have hmax := fun W (E : Ext w W) => maxU_any a n c rs W hn (by omega) (by omega) h256 (hI.ext E)
    obtain ⟨k, hk, hk2⟩ : ∃ k, k < rs.length ∧ 128 ≤ rs[k]?.getD 0 := by
     rcases Classical.em (∃ k, k < rs.length ∧ 128 ≤ rs[k]?.getD 0) with h | h
     ·exact h
     ·exfalso
      have := (mxK_low (rs := rs) (b := 127) n (by omega)).2 fun x hx => by
       rw [List.take_of_length_le (by omega)] at hx
       obtain ⟨i, hi, rfl⟩ := List.mem_iff_getElem.1 hx
       rcases Nat.lt_or_ge rs[i] 128 with h2 | h2
       ·omega
       ·exact absurd ⟨i, hi, by rw [List.getElem?_eq_getElem hi]; exact h2⟩ h
      omega
    rw [read_high (by rw [hn]; omega) hk hk2]
    obtain ⟨mx, hmxe⟩ : ∃ mx, mxK rs n = mx := ⟨_, rfl⟩
    rw [hmxe] at hmax hmx
    subst h1
    clear hx hn hI h256 hr hk hk2 hmxe h0
    go_enter Tryz.func32, Tryz.ntmps32
    go_wp2_with fail
    refine (hmax _ (((((Ext.refl w).alloc _).alloc _).alloc _).alloc _)).mono ?_
    rintro e w' ⟨rfl, rfl⟩
    go_wp2
    exact bodyPost_ret (v := .tuple #[.slice none 0 0, .slice none 0 0, .int .i64 0, .int .i64 6]) (by simp [results, Tryz.results32, go_sem]) rfl (read_noneN (((((Ext.refl w).alloc _).alloc _).alloc _).alloc _))
   ·rw [read_size (by rw [hn]; omega) (.inr (by rw [hn, hr]; exact h1))]
    have d3 : ((r : Int) != 0) = true := by simp; exact h1
    clear hx hn hI h256 hr h0
    go_enter Tryz.func32, Tryz.ntmps32
    go_wp2
    exact bodyPost_ret (v := .tuple #[.slice none 0 0, .slice none 0 0, .int .i64 0, .int .i64 6]) (by simp [results, Tryz.results32, go_sem]) rfl (read_noneN (((((Ext.refl w).alloc _).alloc _).alloc _).alloc _))
set_option maxRecDepth 100000 in
set_option maxHeartbeats 8000000 in
theorem lread_main (a : Option Addr) (n c m : Nat) (rs : List Nat) (w : World) (hn : rs.length = n) (hbig : n ≤ c ∧ c ≤ 9223372036854775807) (hI : BytesAt w a (natI rs)) (hr : ∀ r ∈ rs, r < 128) (hm : 65 * m = n) (h0 : 0 < m) (hl : n ≤ 2400) :
  Calls Tryz.prog 32 #[.slice a n c] w (ReadResN (readE rs) w) := by
 obtain ⟨ad, rfl⟩ : ∃ ad, a = some ad := by
  rcases hI with e | ⟨b, off, ha, _⟩
  ·have := natI_length rs; rw [e] at this; simp at this; omega
  ·exact ⟨_, ha⟩
 have d1 : decide (2400 < (n : Int)) = false := decide_eq_false (by omega)
 have d2 : ((n : Int) == 0) = false := by simp; omega
 have t1 : Int.tmod (n : Int) 65 = 0 := by rw [Int.tmod_eq_emod_of_nonneg (by omega)]; omega
 have t2 : (n : Int) % 65 = 0 := by omega
 have hmx : ¬ 127 < mxK rs n := by
  have := (mxK_low (rs := rs) (b := 127) n (by omega)).2 fun x hx => by have := hr x (List.mem_of_mem_take hx); omega
  omega
 have hmax := fun W (E : Ext w W) => maxU_any (some ad) n c rs W hn (by omega) (by omega) (fun r h => by have := hr r h; omega) (hI.ext E)
 obtain ⟨mx, hmxe⟩ : ∃ mx, mxK rs n = mx := ⟨_, rfl⟩
 rw [hmxe] at hmax hmx
 have dmx : decide (127 < (mx : Int)) = false := decide_eq_false (by omega)
 have hcl := fun W (E : Ext w W) => cloneU_any ad n c (natI rs) W (by rw [natI_length]; exact hn) (by omega) (hI.ext E)
 have HN := Lib.hid hn
 have HR := Lib.hid hr
 have HM := Lib.hid hm
 clear hn hI hr hmxe hm
 have E0 := (((((Ext.refl w).alloc (.cells #[.slice none 0 0] 22)).alloc (.cells #[.slice none 0 0] 22)).alloc (.cells #[.int .i64 0] 3)).alloc (.cells #[.int .i64 0] 26))
 refine (callsIn_wide (n := 20)).1 ?_
 refine callsIn_of_wp_marks Tryz.func32 rfl trivial ?_ rfl
 simp only [Tryz.ntmps32, List.size_toArray, List.length_cons, List.length_nil, Nat.reduceAdd, Nat.reduceSub, Array.replicate_succ, Array.replicate_zero, List.push_toArray, List.append_toArray, List.nil_append, List.cons_append]
 refine wpIn_wide.2 ?_
 go_wp2_with fail
 refine (hmax _ E0).mono ?_
 rintro e w' ⟨rfl, rfl⟩
 go_wp2_with fail
 refine (hcl _ E0).mono ?_
 rintro e w2 ⟨ga, cr, rfl, hown, E2⟩
 obtain ⟨g, hg⟩ : ∃ g, ga = some ⟨g, 0, none⟩ := by
  obtain ⟨g, cc, e⟩ := ownsRow_form hown (by have := HM.out; omega)
  cases e; exact ⟨g, rfl⟩
 subst hg
 go_wp2_with fail
 refine (blocks_any (some ⟨g, 0, none⟩) n cr w2).mono ?_
 rintro e w3 ⟨rfl, hW3⟩
 go_wp2_with fail
 have hs2 : w.heap.size + 4 ≤ g ∧ g < w2.heap.size := by
  have := hown.lt g rfl
  simpa using this
 have hs3 : w3.heap.size = w2.heap.size + 1 := by rw [← hW3]; simp
 have E23 : Ext w2 w3 := by rw [← hW3]; exact (Ext.refl w2).alloc _
 have E3 : Ext w w3 := (E0.comp E2).comp E23
 have hcap := own_cap hown
 have kb : ∀ {b : Nat} {t : TypeId} {v : Value}, Boxed ((((w.alloc (.cells #[.slice none 0 0] 22)).alloc (.cells #[.slice none 0 0] 22)).alloc (.cells #[.int .i64 0] 3)).alloc (.cells #[.int .i64 0] 26)) b t v → Boxed w3 b t v := fun hb => ((E2.comp E23).block _ hb.lt).trans hb
 have k0 : Boxed w3 w.heap.size 22 (.slice none 0 0) := kb ((((Boxed.new w _ _).alloc _).alloc _).alloc _)
 have k1 : Boxed w3 (w.heap.size + 1) 22 (.slice none 0 0) := kb (((by have := Boxed.new (w.alloc (.cells #[.slice none 0 0] 22)) 22 (.slice none 0 0); rw [World.size_alloc] at this; exact this : Boxed _ (w.heap.size + 1) 22 (.slice none 0 0)).alloc _).alloc _)
 have k2 : Boxed w3 (w.heap.size + 2) 3 (.int .i64 0) := kb ((by have := Boxed.new ((w.alloc (.cells #[.slice none 0 0] 22)).alloc (.cells #[.slice none 0 0] 22)) 3 (.int .i64 0); rw [World.size_alloc, World.size_alloc] at this; exact this : Boxed _ (w.heap.size + 2) 3 (.int .i64 0)).alloc _)
 have k3 : Boxed w3 (w.heap.size + 3) 26 (.int .i64 0) := kb (by have := Boxed.new (((w.alloc (.cells #[.slice none 0 0] 22)).alloc (.cells #[.slice none 0 0] 22)).alloc (.cells #[.int .i64 0] 3)) 26 (.int .i64 0); rw [World.size_alloc, World.size_alloc, World.size_alloc] at this; exact this)
 have kbs : Boxed w3 w2.heap.size 63 (.slice (some ⟨g, 0, none⟩) n cr) := by rw [← hW3]; exact Boxed.new w2 _ _
 have hown3 : w3.ownsRow (w.heap.size + 4) 5 1 (.slice (some ⟨g, 0, none⟩) n cr) n (ub (natI rs)) := by
  have := own_extX hown E23
  simpa using this
 obtain ⟨P, hP⟩ : ∃ P : Nat → Prop, P = fun q => w3.heap.size ≤ q := ⟨_, rfl⟩
 have RD0 : Rd w.heap.size g n cr P w3 (rk rs 0) (mendedN rs 0) (wordsN10 rs 0) := by
  refine ⟨none, 0, none, 0, ⟨?_, World.ownsRow_nil _ _ _ _, World.ownsRow_nil _ _ _ _, .inr (by simp [Value.ownBlock]), .inr (by simp [Value.ownBlock]), .inl rfl⟩, HN.out, k0, k1, k2, k3, (fun b e => by cases e), (fun b e => by cases e)⟩
  rw [natI_length, rk_zero, HN.out]
  exact hown3
 have HP := Lib.hid hP
 have HS2 := Lib.hid hs2
 have HRD0 := Lib.hid RD0
 have HM4B : Hid (∀ q, M4 w.heap.size g P q → w.heap.size ≤ q) := Lib.hid (fun q hq => by rcases hq with hq | hq | hq; all_goals first | omega | (rw [hP] at hq; have := E3.size; omega))
 clear hown hown3 RD0 hW3 kb hs2 hP
 rw [show w.heap.size + 1 + 1 + 1 = w.heap.size + 3 from rfl, show w.heap.size + 1 + 1 = w.heap.size + 2 from rfl]
 refine (wpIn_wide (n := 20)).1 ?_
 refine wpIn_rangeFunc_JS (n := 20) (α := Nat) (gf := 89) (lb := #[.pointer (some ⟨w2.heap.size, 0, none⟩)]) rfl (enters_of Tryz.func89 (by kernel_rfl) rfl)
  (encs := fun x => #[.int .i64 ((65 * x : Nat) : Int), .slice (some ⟨g, 65 * x, none⟩) 65 65]) (fun _ => rfl)
  (fun k V => Rd w.heap.size g n cr P V (rk rs k) (mendedN rs k) (wordsN10 rs k) ∧ (∀ j, j < k → fineB rs j = true) ∧ KpM (M4 w.heap.size g P) w3 V)
  (fun V => ∃ kb : Nat, readE rs = ([], [], (kb : Int), 200) ∧ (Boxed V w.heap.size 22 (.slice none 0 0) ∧ Boxed V (w.heap.size + 1) 22 (.slice none 0 0) ∧ Boxed V (w.heap.size + 2) 3 (.int .i64 (kb : Int)) ∧ Boxed V (w.heap.size + 3) 26 (.int .i64 200)) ∧ KpM (M4 w.heap.size g P) w3 V)
  (fun k x V => x = k)
  m (KpM (M4 w.heap.size g P)) (fun h k => h.trans k) ?kb ?tj ?tz ?tx ?h0 ?call
  (fun x => { tmps := #[.slice (some ad) n c, undef, .pointer (some ⟨w.heap.size, 0, none⟩), .pointer (some ⟨w.heap.size + 1, 0, none⟩), .pointer (some ⟨w.heap.size + 2, 0, none⟩), .pointer (some ⟨w.heap.size + 3, 0, none⟩), .slice (some ⟨g, 0, none⟩) n cr, .int .i64 ((65 * x : Nat) : Int), .slice (some ⟨g, 65 * x, none⟩) 65 65, undef, undef, undef, undef, undef, undef, undef, .bool false, .slice (some ad) n c, .int .i64 (n : Int), .bool false, .bool false, .slice (some ad) n c, .int .i64 (n : Int), .bool false, .bool false, .slice (some ad) n c, .int .i64 (n : Int), .int .i64 0, .bool false, .bool false, .bool false, .slice (some ad) n c, .int .u8 (mx : Int), .bool false, .bool false, .slice (some ad) n c, .slice (some ⟨g, 0, none⟩) n cr, .slice (some ⟨g, 0, none⟩) n cr, .func (.func 89) #[] #[.pointer (some ⟨w2.heap.size, 0, none⟩)], .int .i64 ((65 * x : Nat) : Int), .slice (some ⟨g, 65 * x, none⟩) 65 65, undef, undef, undef, undef, undef, undef, undef, undef, undef, undef, undef, undef, undef, undef, undef, undef, undef, undef, undef, undef, undef, undef, undef, undef, undef, undef, undef, undef, undef, undef, undef, undef, undef, undef, undef, undef, undef, undef, undef, undef, undef, undef, undef, undef, undef, undef, undef, undef, undef, undef, undef, undef, undef, undef, undef, undef, undef, undef], defers := [] }) ?assign ?body ?done ?ret
 case kb => exact fun V o o' _ _ => KpM.put V _ o' (.inr (.inr (by rw [HP.out]; omega)))
 case tj =>
  rintro k V o o' ⟨h1, h2, h3⟩ ho hc
  exact ⟨h1.turn ho hc, h2, h3.trans (KpM.put V _ o' (.inr (.inr (by rw [HP.out]; omega))))⟩
 case tz =>
  rintro _ V o o' ⟨kb, h1, ⟨b1, b2, b3, b4⟩, h3⟩ ho hc
  exact ⟨kb, h1, ⟨box_turn b1 ho hc, box_turn b2 ho hc, box_turn b3 ho hc, box_turn b4 ho hc⟩, h3.trans (KpM.put V _ o' (.inr (.inr (by rw [HP.out]; omega))))⟩
 case tx => exact fun k x V o o' h _ _ => h
 case h0 => exact fun V E => ⟨HRD0.out.ext E, fun j hj => absurd hj (Nat.not_lt_zero _), KpM.of_ext E⟩
 case call =>
  intro yl JJ ZZ V1 E1' hlt' hJJ hJk hY h0
  have hnm : ¬ M4 w.heap.size g P w2.heap.size := by
   have := HS2.out
   have := (E0.comp E2).size
   have h4 : w.heap.size + 4 ≤ w2.heap.size := by omega
   rintro (hq | hq | hq)
   ·omega
   ·omega
   ·rw [HP.out] at hq; omega
  exact blocks_in 19 (by decide) yl w2.heap.size g cr m n HM.out hcap.1 hcap.2 hl (M4 w.heap.size g P) hnm JJ ZZ V1 (fun k W h hk => hY k k W h hk rfl) (show Boxed V1 w2.heap.size 63 _ from (E1'.block _ (by omega)).trans kbs).cell (by have := E1'.size; omega) h0
 case assign =>
  intro l' x V KK hKK
  gi_wp2
  exact hKK
 case body =>
  rintro l' k x V hlk ⟨r0, hr0⟩ ⟨hRd, hOk, hKp⟩ hk rfl
  dsimp only
  obtain ⟨q, hq⟩ : ∃ q, 65 * x = q := ⟨_, rfl⟩
  rw [hq]
  have hln : rs.length = 65 * m := by rw [HN.out]; exact HM.out.symm
  have hq65 : q + 65 ≤ n := by have := HM.out; omega
  have hbl : (blk rs x).length = 65 := blkLen hln hk
  have hblk : ((rk rs x).drop q).take 65 = blk rs x := by
   unfold rk
   rw [List.drop_left' (by rw [rightN_len hln (by omega), hq])]
   rfl
  have hbt : BytesAt V (some ⟨g, q, none⟩) (natI (blk rs x)) := by rw [← hblk]; exact hRd.bytes (by omega)
  have hmend := lmend_any g q 65 65 (blk rs x) V hbl (by omega) (blk_lt HR.out x) hbt (fun i _ => hRd.free _)
  have haft : ∀ W, (((mendB (blk rs x)).2.2 = blk rs x ∧ W = V) ∨ ∃ r v : Nat, r < (blk rs x).length ∧ v < 128 ∧ (mendB (blk rs x)).2.2 = (blk rs x).set r v ∧ W = V.setCell ⟨g, q + r, none⟩ (.int .u8 (v : Int))) →
    Rd w.heap.size g n cr P W (rk rs (x + 1)) (mendedN rs x) (wordsN10 rs x) ∧ KeepsOthers V W ∧ KpM (M4 w.heap.size g P) V W := by
   rintro W (⟨e1, rfl⟩ | ⟨r, v, hr1, hv, e1, rfl⟩)
   ·rw [rk_same e1]; exact ⟨hRd, KeepsOthers.refl _, KpM.refl _ _⟩
   ·rw [rk_set (m := m) hln hk (by omega) e1, hq]
    exact ⟨hRd.mend _ _, KeepsOthers.setCell _ _ _, kpm_set V g _ _ (.inr (.inl rfl))⟩
  have hms := mended_succ rs x
  have hws := words_succ rs x
  have hmb := mend_bd (blk rs x)
  have hbl2 := mendB_len (blk rs x)
  have hblt := mendB_lt (blk_lt HR.out x)
  have hfin : fineB rs x = (mendB (blk rs x)).2.1 := rfl
  have hnew := fun r (hr : r < 65) => rk_new hln hk hr
  unfold MendRes at hmend
  obtain ⟨⟨mr, fine, b'⟩, hmB⟩ : ∃ v, mendB (blk rs x) = v := ⟨_, rfl⟩
  rw [hmB] at hmend haft hms hws hmb hbl2 hblt hfin hnew
  dsimp only at hmend haft hms hws hmb hbl2 hblt hfin hnew
  have HAFT := Lib.hid haft
  have HMS := Lib.hid hms
  have HWS := Lib.hid hws
  have HBL := Lib.hid (hbl2.trans hbl)
  have HBT := Lib.hid hblt
  have HFN := Lib.hid hfin
  have HNEW := Lib.hid hnew
  have HOK := Lib.hid hOk
  have HQ := Lib.hid hq
  have HLN := Lib.hid hln
  have mr1 := hmb.1
  have mr2 : mr ≤ 65 := by have := hmb.2; omega
  have tq : Int.tdiv (q : Int) 65 = (x : Int) := by rw [Int.tdiv_eq_ediv_of_nonneg (by omega)]; omega
  have tq2 : (q : Int) / 65 = (x : Int) := by omega
  have HVW := Lib.hid hr0
  have HKP := Lib.hid hKp
  clear hq hbl hblk hbt haft hms hws hmb hbl2 hblt hfin hnew hOk hmB hln hr0 hKp
  cases fine with
  | false =>
   have hE := read_fails (by rw [HN.out]; exact hl) HLN.out HR.out hk HOK.out HFN.out
   have HE := Lib.hid hE
   clear hE
   gi_wp2_with fail
   refine ⟨trivial, ?_⟩
   refine (CallsIn.inRound l' (callsIn_wide.2 hmend)).mono ?_
   rintro e W1 ⟨rfl, hW1⟩
   obtain ⟨hR1, hK1, hP1⟩ := HAFT.out W1 hW1
   obtain ⟨ma, mc, wa, wc, h1, hln, b0, b1, b2, b3, h6⟩ := hR1
   have c0 := b0.cell
   have c1 := b1.cell
   have c2 := b2.cell
   have c3 := b3.cell
   have f0 := b0.frozen
   have f1 := b1.frozen
   have f2 := b2.frozen
   have f3 := b3.frozen
   clear hW1 hln h6
   gi_wp2
   obtain ⟨s1, s2, s3⟩ := four_set (g := g) (P := P) (.slice none 0 0) (.slice none 0 0) (.int .i64 (x : Int)) (.int .i64 200) b0 b1 b2 b3
   exact ⟨(hK1.trans s2).from _, x, HE.out, s1, HKP.out.trans (hP1.trans s3)⟩
  | true =>
   gi_wp2_with fail
   refine ⟨trivial, ?_⟩
   refine (CallsIn.inRound l' (callsIn_wide.2 hmend)).mono ?_
   rintro e W1 ⟨rfl, hW1⟩
   have HR1 := Lib.hid (HAFT.out W1 hW1)
   clear hW1
   gi_upto_if 51 with fail
   gi_cut [] from 51 (fun wc => Hid (Rd w.heap.size g n cr P wc (rk rs (x + 1)) (mendedN rs (x + 1)) (wordsN10 rs x) ∧ KeepsOthers V wc ∧ KpM (M4 w.heap.size g P) V wc))
   case first =>
    by_cases h0 : 0 ≤ mr
    ·have HMS2 : Hid (mendedN rs (x + 1) = mendedN rs x ++ [(q : Int) + mr]) := Lib.hid (by rw [HMS.out, if_pos h0, HQ.out])
     obtain ⟨⟨ma, mc, wa, wc, h1, hln, b0, b1, b2, b3, h6⟩, hK1, hP1⟩ := HR1.out
     have c1 := b1.cell
     have hml : (mendedN rs x).length ≤ 40 := by have := mendedN_len rs x; omega
     have wq : IntKind.i64.wrap ((q : Int) + mr) = (q : Int) + mr := IntWalk.i64_in _ (by omega)
     have hPn : ∀ b, W1.heap.size ≤ b → P b := fun b hb => by rw [HP.out]; have h1 := HKP.out.size; have h2 := hP1.size; omega
     obtain ⟨i0, hi0, hz0, hz1, hz2⟩ := info_parts Tryz.infoE
     have hB4 : w.heap.size + 4 ≤ W1.heap.size := by have := HS2.out; have h1 := HKP.out.size; have h2 := hP1.size; omega
     have HLN1 := Lib.hid hln
     obtain ⟨ms, hms⟩ : ∃ ms, mendedN rs x = ms := ⟨_, rfl⟩
     rw [hms] at HMS2 h1 b1 c1 h6 hml
     clear hln hms
     gi_wp2_with (gi_at_builtin; refine wpListIn_append_own_at _ rfl _ _ 22 rfl (w.heap.size + 4) 3 i0 (.int .i64 0) 1 8 Tryz.underlying22 hi0 hz0 hz1 hz2 rfl (by decide) _ _ _ rfl (World.ownsRow.alloc h1.r8 _) ⟨W1.heap.size, 0, none⟩ 1 1 [.int .i64 ((q : Int) + mr)] rfl rfl (cell_one_new _ _ _) (by simp [Value.oneCell']) (by unfold maxLen; omega) (by omega) (by simp; omega) ?_; intro v' w1 hown' hgrow _ hat; obtain ⟨av, cv, rfl⟩ := own_len hown'; obtain ⟨hv1, hR2, hK2, hP2⟩ := Rd.row h1 HLN1.out b0 b1 b2 b3 h6 hPn hown' hgrow hat; have hc1 := hv1.cell; have hf1 := hv1.frozen)
     gi_meet
     case rel => rw [HMS2.out]; exact Lib.hid ⟨hR2, hK1.trans hK2, hP1.trans hP2⟩
    ·have HMS2 : Hid (mendedN rs (x + 1) = mendedN rs x) := Lib.hid (by rw [HMS.out, if_neg h0, List.append_nil])
     gi_wp2_with fail
     gi_meet
     case rel => rw [HMS2.out]; exact HR1
   case rest =>
    have hst := fun W => slice_toU W g q 65 65 64 (by decide) (by decide)
    have hst' := fun W => at_sliceU (hst W)
    gi_wp2_with fail
    refine ⟨trivial, ?_⟩
    refine (CallsIn.inRound l' (callsIn_wide.2 (chunkB_any (some ⟨g, q, none⟩) 64 65 4 wc (by decide)))).mono ?_
    rintro e W3 ⟨rfl, hW3⟩
    gi_wp2_with fail
    obtain ⟨hR2, hK2, hP2⟩ := hcut.out
    have hs3c : W3.heap.size = wc.heap.size + 2 := by rw [← hW3]; simp
    have E3c : Ext wc W3 := by rw [← hW3]; exact ((Ext.refl wc).alloc _).alloc _
    have K3c : KeepsOthers wc W3 := by rw [← hW3]; exact (KeepsOthers.alloc _ _).trans (KeepsOthers.alloc _ _)
    have bs : Boxed W3 wc.heap.size 63 (.slice (some ⟨g, q, none⟩) 64 65) := by rw [← hW3]; exact (Boxed.new wc _ _).alloc _
    have bc : Boxed W3 (wc.heap.size + 1) 3 (.int .i64 4) := by
     rw [← hW3]
     have := Boxed.new (wc.alloc (.cells #[.slice (some ⟨g, q, none⟩) 64 65] 63)) 3 (.int .i64 4)
     rw [World.size_alloc] at this
     exact this
    have hSw : w3.heap.size ≤ wc.heap.size := by have h1 := HKP.out.size; have h2 := hP2.size; omega
    obtain ⟨P2, hP2e⟩ : ∃ P2 : Nat → Prop, P2 = fun b => w3.heap.size ≤ b ∧ b ≠ wc.heap.size ∧ b ≠ wc.heap.size + 1 := ⟨_, rfl⟩
    have HP2 := Lib.hid hP2e
    have HRD2 : Hid (Rd w.heap.size g n cr P2 W3 (rk rs (x + 1)) (mendedN rs (x + 1)) (wordsN10 rs x)) := Lib.hid ((hR2.narrow fun b hb hlt => by
     rw [HP.out] at hb
     rw [hP2e]
     exact ⟨hb, by omega, by omega⟩).ext E3c)
    have HPP : Hid (∀ b, P2 b → P b) := Lib.hid (fun b hb => by rw [hP2e] at hb; rw [HP.out]; exact hb.1)
    have hloop : W3.heap[l']? = some (.loop r0) := K3c.same _ _ (hK2.same _ _ HVW.out rfl) rfl
    have HB4 : Hid (w.heap.size + 4 ≤ w3.heap.size ∧ g < w3.heap.size) := Lib.hid (by have := HS2.out; omega)
    clear hW3 hP2e
    refine wpIn_rangeFunc_JN (n := 20 - 1 - 1) (l₀ := l') (r₀ := r0) (α := Nat) (gf := 91) (lb := #[.pointer (some ⟨wc.heap.size, 0, none⟩), .pointer (some ⟨wc.heap.size + 1, 0, none⟩)]) hloop rfl (enters_of Tryz.func91 (by kernel_rfl) rfl)
     (encs := fun y => #[.slice (some ⟨g, q + 4 * y, none⟩) 4 4]) (fun _ => rfl)
     (fun k U => Rd w.heap.size g n cr P2 U (rk rs (x + 1)) (mendedN rs (x + 1)) (wordsN10 rs x ++ (wordsB b').take k) ∧ KeepsOthers W3 U ∧ KpM (M4 w.heap.size g P2) W3 U)
     (fun k y U => y = k)
     16 (KpM (M4 w.heap.size g P2)) (fun h k => h.trans k) ?kb2 ?tj2 ?tx2 ?h02 ?call2
     (fun y => { tmps := #[.slice (some ad) n c, undef, .pointer (some ⟨w.heap.size, 0, none⟩), .pointer (some ⟨w.heap.size + 1, 0, none⟩), .pointer (some ⟨w.heap.size + 2, 0, none⟩), .pointer (some ⟨w.heap.size + 3, 0, none⟩), .slice (some ⟨g, 0, none⟩) n cr, .int .i64 (q : Int), .slice (some ⟨g, q, none⟩) 65 65, .int .i64 mr, .bool true, .slice (some ⟨g, q + 4 * y, none⟩) 4 4, undef, undef, undef, undef, .bool false, .slice (some ad) n c, .int .i64 (n : Int), .bool false, .bool false, .slice (some ad) n c, .int .i64 (n : Int), .bool false, .bool false, .slice (some ad) n c, .int .i64 (n : Int), .int .i64 0, .bool false, .bool false, .bool false, .slice (some ad) n c, .int .u8 (mx : Int), .bool false, .bool false, .slice (some ad) n c, .slice (some ⟨g, 0, none⟩) n cr, .slice (some ⟨g, 0, none⟩) n cr, .func (.func 89) #[] #[.pointer (some ⟨w2.heap.size, 0, none⟩)], .int .i64 (q : Int), .slice (some ⟨g, q, none⟩) 65 65, .tuple #[.int .i64 mr, .bool true], .slice (some ⟨g, q, none⟩) 65 65, .tuple #[.int .i64 mr, .bool true], .int .i64 mr, .bool true, .bool true, .bool false, undef, undef, .int .i64 mr, u51, u52, u53, u54, u55, u56, u57, .slice (some ⟨g, q, none⟩) 65 65, .slice (some ⟨g, q, none⟩) 65 65, .int .i64 65, .int .i64 64, .slice (some ⟨g, q, none⟩) 64 65, .func (.func 91) #[] #[.pointer (some ⟨wc.heap.size, 0, none⟩), .pointer (some ⟨wc.heap.size + 1, 0, none⟩)], .slice (some ⟨g, q + 4 * y, none⟩) 4 4, u65, u66, u67, u68, u69, u70, u71, u72, u73, u74, u75, u76, u77, u78, u79, u80, u81, u82, u83, u84, u85, u86, u87, u88, u89, u90, u91, u92, u93, u94, u95, u96, u97, u98], defers := [] }) ?assign2 ?body2 ?done2
    case kb2 => exact fun U o o' _ _ => KpM.put U _ o' (.inr (.inr (by rw [HP2.out]; omega)))
    case tj2 =>
     rintro k U o o' ⟨h1, h2, h3⟩ ho hc
     exact ⟨h1.turn ho hc, ⟨by simpa using h2.size, fun j p hj hp => (World.putObj_heap_other (fun e => by have := (Array.getElem?_eq_some_iff.1 hj).1; omega)).trans (h2.same j p hj hp)⟩, h3.trans (KpM.put U _ o' (.inr (.inr (by rw [HP2.out]; omega))))⟩
    case tx2 => exact fun k y U o o' h _ _ => h
    case h02 => exact fun U E K => ⟨by rw [List.take_zero, List.append_nil]; exact HRD2.out.ext E, K, KpM.of_ext E⟩
    case call2 =>
     intro yl JJ U1 E1' hlt' hJJ hJk hY h0
     have hm1 : ¬ M4 w.heap.size g P2 wc.heap.size := by
      have := HB4.out
      rintro (hq | hq | hq)
      ·omega
      ·omega
      ·rw [HP2.out] at hq; exact hq.2.1 rfl
     have hm2 : ¬ M4 w.heap.size g P2 (wc.heap.size + 1) := by
      have := HB4.out
      rintro (hq | hq | hq)
      ·omega
      ·omega
      ·rw [HP2.out] at hq; exact hq.2.2 rfl
     exact chunkB_in 17 (by decide) yl wc.heap.size (wc.heap.size + 1) g q 65 16 64 rfl (by decide) (by decide) (by decide) (M4 w.heap.size g P2) hm1 hm2 JJ U1 (fun k U j h => hJk k U _ h ⟨(hJJ k U h).1.1.ext (ext_drewN (Ext.refl U) j), (hJJ k U h).1.2.1.trans ⟨Nat.le_refl _, fun _ _ h _ => h⟩, (hJJ k U h).1.2.2.trans (KpM.of_ext (ext_drewN (Ext.refl U) j))⟩ rfl) (fun k U h hk => hY k k U h hk rfl) (show Boxed U1 wc.heap.size 63 _ from (E1'.block _ (by omega)).trans bs).cell (show Boxed U1 (wc.heap.size + 1) 3 _ from (E1'.block _ (by omega)).trans bc).cell (by have := E1'.size; omega) (by have := E1'.size; omega) h0
    case assign2 =>
     intro l2 y U KK hKK
     gi_wp2
     exact hKK
    case body2 =>
     rintro l2 k y U hl2 ⟨r2, hr2⟩ ⟨hRu, hKu, hPu⟩ hk16 rfl
     dsimp only
     have hcell : ∀ i, i < 65 → U.cell? ⟨g, q + i, none⟩ = some (.int .u8 ((b'[i]?.getD 0 : Nat) : Int)) := fun i hi => by
      have h := hRu.bytes (lo := q) (k := 65) (by omega)
      rcases h with e | ⟨bb, off, e1, _, hc⟩
      ·have h2 := natI_length (((rk rs (x + 1)).drop q).take 65)
       rw [e, List.length_take, List.length_drop, rk_len HLN.out (by omega)] at h2
       have := HM.out
       simp at h2
       omega
      ·cases e1
       have h2 := hc i (by rw [natI_length, List.length_take, List.length_drop, rk_len HLN.out (by omega)]; have := HM.out; omega)
       rw [natI_get, List.getElem?_take, if_pos hi, List.getElem?_drop, ← HQ.out, HNEW.out i hi, HQ.out] at h2
       exact h2
     have hUs := hPu.size
     have HCE := Lib.hid hcell
     obtain ⟨z4, hz4⟩ : ∃ z4, q + 4 * y = z4 := ⟨_, rfl⟩
     rw [hz4]
     have hblt := HBT.out
     clear hcell
     gi_wp2_with fail
     refine ⟨trivial, ?_⟩
     refine (CallsIn.inRound l2 (callsIn_wide.2 (backU_any (some ⟨g, z4, none⟩) 4 4 _))).mono ?_
     rintro e W5 ⟨rfl, hW5⟩
     gi_wp2_with fail
     have hs5 : W5.heap.size = U.heap.size + 2 := by rw [← hW5]; simp
     have E5 : Ext U W5 := by rw [← hW5]; exact ((Ext.refl U).alloc _).alloc _
     have K5 : KeepsOthers U W5 := by rw [← hW5]; exact (KeepsOthers.alloc _ _).trans (KeepsOthers.alloc _ _)
     have bn : Boxed W5 U.heap.size 3 (.int .i64 0) := by rw [← hW5]; exact (Boxed.new U _ _).alloc _
     have bb : Boxed W5 (U.heap.size + 1) 63 (.slice (some ⟨g, z4, none⟩) 4 4) := by
      rw [← hW5]
      have := Boxed.new (U.alloc (.cells #[.int .i64 0] 3)) 63 (.slice (some ⟨g, z4, none⟩) 4 4)
      rw [World.size_alloc] at this
      exact this
     have hl5 : W5.heap[l2]? = some (.loop r2) := K5.same _ _ hr2 rfl
     obtain ⟨M3, hM3⟩ : ∃ M3 : Nat → Prop, M3 = fun b => b = U.heap.size ∨ W5.heap.size ≤ b := ⟨_, rfl⟩
     have HM3 := Lib.hid hM3
     clear hW5 hM3
     refine wpIn_rangeFunc_JN (n := 20 - 1 - 1 - 1 - 1) (l₀ := l2) (r₀ := r2) (α := Nat) (gf := 92) (lb := #[.pointer (some ⟨U.heap.size + 1, 0, none⟩)]) hl5 rfl (enters_of Tryz.func92 (by kernel_rfl) rfl)
      (encs := fun j => #[.int .i64 ((4 - 1 - j : Nat) : Int), .int .u8 ((b'[4 * y + (4 - 1 - j)]?.getD 0 : Nat) : Int)]) (fun _ => rfl)
      (fun k Y => Boxed Y U.heap.size 3 (.int .i64 ((hw b' y k : Nat) : Int)) ∧ KpM M3 W5 Y)
      (fun k j Y => j = k)
      4 (KpM M3) (fun h k => h.trans k) ?kb3 ?tj3 ?tx3 ?h03 ?call3
      (fun j => { tmps := #[.slice (some ad) n c, undef, .pointer (some ⟨w.heap.size, 0, none⟩), .pointer (some ⟨w.heap.size + 1, 0, none⟩), .pointer (some ⟨w.heap.size + 2, 0, none⟩), .pointer (some ⟨w.heap.size + 3, 0, none⟩), .slice (some ⟨g, 0, none⟩) n cr, .int .i64 (q : Int), .slice (some ⟨g, q, none⟩) 65 65, .int .i64 mr, .bool true, .slice (some ⟨g, z4, none⟩) 4 4, .pointer (some ⟨U.heap.size, 0, none⟩), undef, .int .u8 ((b'[4 * y + (4 - 1 - j)]?.getD 0 : Nat) : Int), undef, .bool false, .slice (some ad) n c, .int .i64 (n : Int), .bool false, .bool false, .slice (some ad) n c, .int .i64 (n : Int), .bool false, .bool false, .slice (some ad) n c, .int .i64 (n : Int), .int .i64 0, .bool false, .bool false, .bool false, .slice (some ad) n c, .int .u8 (mx : Int), .bool false, .bool false, .slice (some ad) n c, .slice (some ⟨g, 0, none⟩) n cr, .slice (some ⟨g, 0, none⟩) n cr, .func (.func 89) #[] #[.pointer (some ⟨w2.heap.size, 0, none⟩)], .int .i64 (q : Int), .slice (some ⟨g, q, none⟩) 65 65, .tuple #[.int .i64 mr, .bool true], .slice (some ⟨g, q, none⟩) 65 65, .tuple #[.int .i64 mr, .bool true], .int .i64 mr, .bool true, .bool true, .bool false, undef, undef, .int .i64 mr, u51, u52, u53, u54, u55, u56, u57, .slice (some ⟨g, q, none⟩) 65 65, .slice (some ⟨g, q, none⟩) 65 65, .int .i64 65, .int .i64 64, .slice (some ⟨g, q, none⟩) 64 65, .func (.func 91) #[] #[.pointer (some ⟨wc.heap.size, 0, none⟩), .pointer (some ⟨wc.heap.size + 1, 0, none⟩)], .slice (some ⟨g, z4, none⟩) 4 4, .slice (some ⟨g, z4, none⟩) 4 4, .func (.func 92) #[] #[.pointer (some ⟨U.heap.size + 1, 0, none⟩)], .int .i64 ((4 - 1 - j : Nat) : Int), .int .u8 ((b'[4 * y + (4 - 1 - j)]?.getD 0 : Nat) : Int), u69, u70, u71, u72, u73, u74, u75, u76, u77, u78, u79, u80, u81, u82, u83, u84, u85, u86, u87, u88, u89, u90, u91, u92, u93, u94, u95, u96, u97, u98], defers := [] }) ?assign3 ?body3 ?done3
     case kb3 => exact fun Y o o' _ _ => KpM.put Y _ o' (by rw [HM3.out]; exact .inr (Nat.le_refl _))
     case tj3 =>
      rintro k Y o o' ⟨h1, h2⟩ ho hc
      exact ⟨box_turn h1 ho hc, h2.trans (KpM.put Y _ o' (by rw [HM3.out]; exact .inr (Nat.le_refl _)))⟩
     case tx3 => exact fun k j Y o o' h _ _ => h
     case h03 => exact fun Y E K => ⟨(E.block _ bn.lt).trans bn, KpM.of_ext E⟩
     case call3 =>
      intro yl JJ Y1 E1' hlt' hJJ hJk hY h0
      have hg2 := HB4.out
      refine backU_in 15 (by decide) yl (U.heap.size + 1) g z4 4 (fun i => ((b'[4 * y + i]?.getD 0 : Nat) : Int)) M3 (by rw [HM3.out]; omega) (by rw [HM3.out]; omega) JJ Y1 (fun k Y h hk => hY k k Y h hk rfl) (show Boxed Y1 (U.heap.size + 1) 63 _ from (E1'.block _ (by omega)).trans bb).cell (by have := E1'.size; omega) (by have := E1'.size; omega) (fun i hi => ?_) (by decide) h0
      refine (E1'.cell (p := ⟨g, z4 + i, none⟩) (by show g < _; omega)).trans ((E5.cell (p := ⟨g, z4 + i, none⟩) (by show g < _; omega)).trans ?_)
      have h := HCE.out (4 * y + i) (by omega)
      rw [← Nat.add_assoc, hz4] at h
      exact h
     case assign3 =>
      intro l3 j Y KK hKK
      gi_wp2
      exact hKK
     case body3 =>
      rintro l3 k j Y hl3 hr3 ⟨h1, h2⟩ hk4 rfl
      dsimp only
      have c1 := h1.cell
      have f1 := h1.frozen
      have hsuc : hw b' y (j + 1) = 64 * hw b' y j + b'[4 * y + (4 - 1 - j)]?.getD 0 % 64 := rfl
      have hle := hw_le b' y j (by omega)
      obtain ⟨rj, hrj⟩ : ∃ rj, b'[4 * y + (4 - 1 - j)]?.getD 0 = rj := ⟨_, rfl⟩
      obtain ⟨h, hh⟩ : ∃ h, hw b' y j = h := ⟨_, rfl⟩
      obtain ⟨s6, hs6⟩ : ∃ s6, rj % 64 = s6 := ⟨_, rfl⟩
      obtain ⟨v, hv⟩ : ∃ v, 64 * h + s6 = v := ⟨_, rfl⟩
      have ha : bits .and .i64 (rj : Int) 63 = (s6 : Int) := by
       have := i64_and63 (n := (rj : Int)) (by omega)
       rw [Int.toNat_natCast, hs6] at this
       exact this
      have ho : bits .or .i64 ((h : Int) * 64) (s6 : Int) = (v : Int) := by
       rw [i64_or64 (h : Int) (s6 : Int) (by omega) (by omega) (by omega) (by omega)]
       omega
      have wh : IntKind.i64.wrap ((h : Int) * 64) = (h : Int) * 64 := IntWalk.i64_in _ (by omega)
      rw [hrj, hh, hs6, hv] at hsuc
      rw [hh] at h1 c1
      rw [hrj]
      have HSU := Lib.hid hsuc
      have hrj2 : (rj : Int) ≤ 127 := by
       have := get_lt hblt (by decide) (4 * y + (4 - 1 - j))
       omega
      have wr : IntKind.i64.wrap (rj : Int) = (rj : Int) := IntWalk.i64_in _ (by omega)
      clear hsuc hrj hh hs6 hv
      gi_wp2
      exact ⟨rfl, (KeepsOthers.setCell _ _ _).from _, KpM.set Y _ _ (by rw [HM3.out]; exact .inl rfl), by rw [HSU.out]; exact h1.set _, h2.trans (KpM.set Y _ _ (by rw [HM3.out]; exact .inl rfl))⟩
     case done3 =>
      rintro Y ⟨h1, h2⟩
      have EY : Ext U Y := h2.below E5 (Nat.le_refl _) (fun b hb => by rw [HM3.out] at hb; omega)
      have KY : KeepsOthers U Y := ⟨EY.size, fun p o hp _ => (EY.block p (Array.getElem?_eq_some_iff.1 hp).1).trans hp⟩
      have RY := hRu.ext EY
      obtain ⟨ma, mc, wa, wc', r1, hln, b0, b1, b2, b3, h6⟩ := RY
      rw [hw_word] at h1
      have HTK := Lib.hid (wordsB_take b' (k := y) (by omega))
      obtain ⟨wd, hwd⟩ : ∃ wd, wordR b' y = wd := ⟨_, rfl⟩
      rw [hwd] at h1 HTK
      have c0 := b0.cell
      have c1 := h1.cell
      obtain ⟨i0, hi0, hz0, hz1, hz2⟩ := info_parts Tryz.infoE
      have hwl : (wordsN10 rs x ++ (wordsB b').take y).length ≤ 16 * 40 := by
       rw [List.length_append, wordsN10_len, List.length_take, wordsB_len]
       omega
      have HAP : Hid (wordsN10 rs x ++ (wordsB b').take (y + 1) = (wordsN10 rs x ++ (wordsB b').take y) ++ [wd]) := Lib.hid (by rw [HTK.out, List.append_assoc])
      obtain ⟨wsl, hwsl⟩ : ∃ wsl, wordsN10 rs x ++ (wordsB b').take y = wsl := ⟨_, rfl⟩
      rw [hwsl] at r1 b0 c0 h6 hwl HAP
      have hYs := EY.size
      have hPn : ∀ b, Y.heap.size ≤ b → P2 b := fun b hb => by rw [HP2.out]; have h1 := hPu.size; omega
      have hB4 : w.heap.size + 4 ≤ Y.heap.size := by have := HB4.out; have h1 := hPu.size; omega
      have HLN2 := Lib.hid hln
      clear hln hwd hwsl
      gi_wp2_with (gi_at_builtin; refine wpListIn_append_own_at _ rfl _ _ 22 rfl (w.heap.size + 4) 3 i0 (.int .i64 0) 1 8 Tryz.underlying22 hi0 hz0 hz1 hz2 rfl (by decide) _ _ _ rfl (World.ownsRow.alloc r1.r9 _) ⟨Y.heap.size, 0, none⟩ 1 1 [.int .i64 wd] rfl rfl (cell_one_new _ _ _) (by simp [Value.oneCell']) (by unfold maxLen; omega) (by omega) (by simp; omega) ?_; intro v' w1 hown' hgrow _ hat; obtain ⟨av, cv, rfl⟩ := own_len hown'; obtain ⟨hv1, hR2, hK2, hP2⟩ := Rd.word r1 HLN2.out b0 b1 b2 b3 h6 hPn hown' hgrow hat; have hc1 := hv1.cell; have hf1 := hv1.frozen)
      exact ⟨rfl, (KY.trans hK2).from _, (KpM.of_ext EY).trans hP2, by rw [HAP.out]; exact hR2, hKu.trans (KY.trans hK2), hPu.trans ((KpM.of_ext EY).trans hP2)⟩
    case done2 =>
     rintro U ⟨hRu, hKu, hPu⟩
     rw [List.take_of_length_le (by rw [wordsB_len]; exact Nat.le_refl _), ← HWS.out] at hRu
     have hP3 := KpM.mono hPu (M4.mono (B := w.heap.size) (g := g) HPP.out)
     gi_wp2
     refine ⟨((hK2.trans K3c).trans hKu).from _, (hP2.trans (KpM.of_ext E3c)).trans hP3, hRu.narrow (fun b hb _ => HPP.out b hb), fun j hj => ?_, HKP.out.trans ((hP2.trans (KpM.of_ext E3c)).trans hP3)⟩
     by_cases e : j = x
     ·rw [e]; exact HFN.out
     ·exact HOK.out j (by omega)
 case done =>
  rintro D V hD ⟨hRd, hOk, hKp⟩ hdef
  obtain ⟨ma, mc, wa, wc, h1, hln, b0, b1, b2, b3, h6⟩ := hRd
  have hE0 : Ext w V := hKp.below E3 (Nat.le_refl _) HM4B.out
  have hwl := wordsN10_len rs m
  have hbody := body_eq (rs := rs) (m := m) (by rw [HN.out]; exact HM.out.symm)
  have hok := wordsN_ok rs m
  obtain ⟨ws, hws⟩ : ∃ ws, wordsN10 rs m = ws := ⟨_, rfl⟩
  rw [hws] at h1 b0 h6 hwl hbody hok
  obtain ⟨gw, cw, hgw⟩ := ownsRow_form h1.r9 (by omega)
  obtain ⟨rfl, -, rfl⟩ := Value.slice.inj hgw
  clear hgw
  have hcw := own_cap h1.r9
  have hI9 := own_ints h1.r9
  obtain ⟨bl, hwle⟩ : ∃ bl, ws.length = bl + 1 := ⟨ws.length - 1, by omega⟩
  rw [hwle] at b0 hwl hcw
  obtain ⟨bc, rfl⟩ : ∃ bc, wc = bc + 1 := ⟨wc - 1, by omega⟩
  have hx0 : V.cell? ⟨gw, 0, none⟩ = some (.int .i64 (manyR rs)) := by
   rcases hI9 with e | ⟨b, off, e1, _, hc⟩
   ·rw [e] at hwle; simp at hwle
   ·cases e1
    have h2 := hc 0 (by omega)
    rw [← hbody.2] at h2
    exact h2
  have hmany := manyR_bd rs
  obtain ⟨mn, hmn⟩ : ∃ mn : Nat, manyR rs = (mn : Int) := ⟨(manyR rs).toNat, by omega⟩
  rw [hmn] at hx0
  have hsl1 := fun W => slice_from W gw (bl + 1) (bc + 1) 1 (by omega) (by omega)
  have hsl1' := fun W => at_slice (hsl1 W)
  have hbody1 : bodyR rs = ws.drop 1 := hbody.1
  have hbll : (bodyR rs).length = bl := by rw [hbody1, List.length_drop]; omega
  have c0 := b0.cell
  have c1 := b1.cell
  have c2 := b2.cell
  have c3 := b3.cell
  have f0 := b0.frozen
  have f1 := b1.frozen
  have f2 := b2.frozen
  have f3 := b3.frozen
  have hgB : w.heap.size + 4 ≤ gw ∧ gw < V.heap.size := h1.r9.lt gw rfl
  have hDne : D ≠ w.heap.size ∧ D ≠ w.heap.size + 1 ∧ D ≠ w.heap.size + 2 ∧ D ≠ w.heap.size + 3 := by have := HS2.out; omega
  have HWSE := Lib.hid hws
  have HOK := Lib.hid hOk
  have HW := Lib.hid hok
  have HI9 := Lib.hid hI9
  have HMN := Lib.hid hmn
  have HB1 := Lib.hid hbody1
  have HBLL := Lib.hid hbll
  have HLN := Lib.hid hln
  have HWL := Lib.hid hwle
  have HWE := Lib.hid hwl
  have hlb : bl + 1 ≤ 16 * 40 := by have := HM.out; omega
  have hbcb : bl ≤ bc := by omega
  have hbc0 : ¬ bc = 0 := by omega
  clear hws hok hI9 hmn hbody hbody1 hbll hln hwle hwl hOk
  obtain ⟨mi, hmi⟩ : ∃ mi, min bl 560 = mi := ⟨_, rfl⟩
  have hmi2 : min (bl : Int) 560 = (mi : Int) := by omega
  by_cases hbig2 : mi < mn
  ·have hE := read_many (rs := rs) (m := m) (by rw [HN.out]; exact hl) (by rw [HN.out]; exact HM.out.symm) h0 HR.out HOK.out (by rw [HMN.out, HBLL.out]; omega)
   have HE := Lib.hid hE
   have HMI := Lib.hid hmi
   clear hE hmi
   go_wp2
   obtain ⟨s1, s2, s3⟩ := four_set (g := g) (P := P) (.slice none 0 0) (.slice none 0 0) (.int .i64 0) (.int .i64 6) (b0.set (.slice (some ⟨gw, 1, none⟩) bl bc)) (box_set_far b1 (by omega)) (box_set_far b2 (by omega)) (box_set_far b3 (by omega))
   obtain ⟨q1, ⟨d1, d2, d3, d4⟩, hE1⟩ := end4 (w := w) s1 hdef ((KeepsOthers.setCell _ _ _).trans s2) (s3.below (hE0.setCell (p := ⟨w.heap.size, 0, none⟩) (Nat.le_refl _) _) (Nat.le_refl _) HM4B.out) (by have := E3.size; omega)
   refine ⟨by simp, .inl ⟨_, _, rfl, run_takeDeferred q1, ?_⟩⟩
   refine ⟨.tuple #[.slice none 0 0, .slice none 0 0, .int .i64 0, .int .i64 6], by simp [results, Tryz.results32, go_sem, d1, d2, d3, d4], ?_⟩
   rw [HE.out]
   exact read_noneN hE1
  ·have hmb : mn ≤ bl ∧ mn ≤ 560 := by omega
   have hsl2 := fun W => slice_toI W gw 1 bl bc mn (by omega) (by omega)
   have hsl2' := fun W => at_slice (hsl2 W)
   have hlen : ((bodyR rs).take mn).length = mn := by rw [List.length_take, HBLL.out]; omega
   have hwk : wordOk ((bodyR rs).take mn) := fun y hy => HW.out y (by rw [HB1.out] at hy; exact List.mem_of_mem_drop (List.mem_of_mem_take hy))
   have hsub : IntsAt V (some ⟨gw, 1, none⟩) ((bodyR rs).take mn) := by
    rw [HB1.out]
    exact sub_intsN HI9.out (by rw [HWL.out]; omega)
   have hgne : gw ≠ w.heap.size := by omega
   have hgne2 : g ≠ w.heap.size := by have := HS2.out; omega
   have htp := ltape_any (some ⟨gw, 1, none⟩) mn bc ((bodyR rs).take mn) ((V.setCell ⟨w.heap.size, 0, none⟩ (.slice (some ⟨gw, 1, none⟩) bl bc)).setCell ⟨w.heap.size, 0, none⟩ (.slice (some ⟨gw, 1, none⟩) mn bc)) hlen hmb.2 (ints_far (ints_far hsub hgne) hgne) hwk
   have hrb : BytesAt V (some ⟨g, 0, none⟩) (natI (rk rs m)) := own_bytes (r3_own7 h1 HLN.out)
   have b0x := (b0.set (.slice (some ⟨gw, 1, none⟩) bl bc)).set (.slice (some ⟨gw, 1, none⟩) mn bc)
   have b1x := box_set_far (o := 0) (u := .slice (some ⟨gw, 1, none⟩) mn bc) (box_set_far (o := 0) (u := .slice (some ⟨gw, 1, none⟩) bl bc) b1 (show w.heap.size + 1 ≠ w.heap.size by omega)) (show w.heap.size + 1 ≠ w.heap.size by omega)
   have b2x := box_set_far (o := 0) (u := .slice (some ⟨gw, 1, none⟩) mn bc) (box_set_far (o := 0) (u := .slice (some ⟨gw, 1, none⟩) bl bc) b2 (show w.heap.size + 2 ≠ w.heap.size by omega)) (show w.heap.size + 2 ≠ w.heap.size by omega)
   have b3x := box_set_far (o := 0) (u := .slice (some ⟨gw, 1, none⟩) mn bc) (box_set_far (o := 0) (u := .slice (some ⟨gw, 1, none⟩) bl bc) b3 (show w.heap.size + 3 ≠ w.heap.size by omega)) (show w.heap.size + 3 ≠ w.heap.size by omega)
   have hrbx := bytes_far (o := 0) (v := .slice (some ⟨gw, 1, none⟩) mn bc) (bytes_far (o := 0) (v := .slice (some ⟨gw, 1, none⟩) bl bc) hrb hgne2) hgne2
   have hsubx := ints_far (o := 0) (v := .slice (some ⟨gw, 1, none⟩) mn bc) (ints_far (o := 0) (v := .slice (some ⟨gw, 1, none⟩) bl bc) hsub hgne) hgne
   have HMR := own_ints h1.r8
   have hmcap := own_cap h1.r8
   have HMRX := ints_kp (Y := ((V.setCell ⟨w.heap.size, 0, none⟩ (.slice (some ⟨gw, 1, none⟩) bl bc)).setCell ⟨w.heap.size, 0, none⟩ (.slice (some ⟨gw, 1, none⟩) mn bc))) HMR ((KpM.set (M := fun q => q = w.heap.size) V _ _ rfl).trans (KpM.set _ _ _ rfl)) (fun b e q => by
    have h2 : w.heap.size + 4 ≤ b := (h1.r8.lt b (by cases ma with | none => cases e | some ad2 => exact e)).1
    omega)
   have KX : KeepsOthers V ((V.setCell ⟨w.heap.size, 0, none⟩ (.slice (some ⟨gw, 1, none⟩) bl bc)).setCell ⟨w.heap.size, 0, none⟩ (.slice (some ⟨gw, 1, none⟩) mn bc)) := (KeepsOthers.setCell _ _ _).trans (KeepsOthers.setCell _ _ _)
   have EX : Ext w ((V.setCell ⟨w.heap.size, 0, none⟩ (.slice (some ⟨gw, 1, none⟩) bl bc)).setCell ⟨w.heap.size, 0, none⟩ (.slice (some ⟨gw, 1, none⟩) mn bc)) := (hE0.setCell (p := ⟨w.heap.size, 0, none⟩) (Nat.le_refl _) _).setCell (p := ⟨w.heap.size, 0, none⟩) (Nat.le_refl _) _
   have HMI := Lib.hid hmi
   have HLEN := Lib.hid hlen
   clear hmi hlen hrb hsub HMR
   go_wp2_with fail
   refine htp.mono ?_
   rintro e V3 ⟨vt, rfl, hownT, E33⟩
   obtain ⟨a8, c8, rfl⟩ := own_formU hownT
   have kx : ∀ {b : Nat} {t : TypeId} {v : Value}, Boxed _ b t v → Boxed V3 b t v := fun hb => (E33.block _ hb.lt).trans hb
   have b0y := kx b0x
   have b1y := kx b1x
   have b2y := kx b2x
   have b3y := kx b3x
   have hrby := hrbx.ext E33
   have hsuby := hsubx.ext E33
   have HMRY := HMRX.ext E33
   have KY : KeepsOthers V V3 := KX.trans ⟨E33.size, fun p o hp _ => (E33.block p (Array.getElem?_eq_some_iff.1 hp).1).trans hp⟩
   have EY : Ext w V3 := EX.comp E33
   have hcapT := own_cap hownT
   have heq := equalU_any a8 (some ⟨g, 0, none⟩) (tapeW ((bodyR rs).take mn)).length n c8 cr (tapeW ((bodyR rs).take mn)) (rk rs m) V3 rfl HLN.out (by omega) (by omega) (own_bytes hownT) hrby
   obtain ⟨tl, htl⟩ : ∃ tl, (tapeW ((bodyR rs).take mn)).length = tl := ⟨_, rfl⟩
   rw [htl] at heq ⊢
   clear kx b0x b1x b2x b3x hrbx hsubx HMRX hownT htp htl hcapT E33 KX EX
   go_wp2_with fail
   refine heq.mono ?_
   rintro e V4 ⟨rfl, E44⟩
   have kx : ∀ {b : Nat} {t : TypeId} {v : Value}, Boxed V3 b t v → Boxed V4 b t v := fun hb => (E44.block _ hb.lt).trans hb
   have b0z := kx b0y
   have b1z := kx b1y
   have b2z := kx b2y
   have b3z := kx b3y
   have hsubz := hsuby.ext E44
   have HMRZ := HMRY.ext E44
   have KZ : KeepsOthers V V4 := KY.trans ⟨E44.size, fun p o hp _ => (E44.block p (Array.getElem?_eq_some_iff.1 hp).1).trans hp⟩
   have EZ : Ext w V4 := EY.comp E44
   clear kx b0y b1y b2y b3y hrby hsuby HMRY E44 KY EY heq
   have e0 := b0z.cell
   have e1 := b1z.cell
   have e2 := b2z.cell
   have e3 := b3z.cell
   have g0 := b0z.frozen
   have g1 := b1z.frozen
   have g2 := b2z.frozen
   have g3 := b3z.frozen
   cases hteq : decide (tapeW ((bodyR rs).take mn) = rk rs m) with
   | true =>
    have hte := of_decide_eq_true hteq
    clear hteq
    have hE := read_fine (rs := rs) (m := m) (by rw [HN.out]; exact hl) (by rw [HN.out]; exact HM.out.symm) h0 HR.out HOK.out (by rw [HMN.out, HBLL.out]; omega) (by rw [HMN.out, Int.toNat_natCast, ← rk_end (by rw [HN.out]; exact HM.out.symm)]; exact hte)
    rw [HMN.out, Int.toNat_natCast] at hE
    have HE := Lib.hid hE
    obtain ⟨ml, hml⟩ : ∃ ml, (mendedN rs m).length = ml := ⟨_, rfl⟩
    rw [hml] at b1z e1 hmcap
    have HML := Lib.hid hml
    obtain ⟨s1, s2, s3⟩ := four_set (g := w.heap.size) (P := fun _ => False) (.slice (some ⟨gw, 1, none⟩) mn bc) (.slice ma ml mc) (.int .i64 0) (.int .i64 0) b0z b1z b2z b3z
    have E5 := (s3.below EZ (Nat.le_refl _) (fun b hb => by rcases hb with hb | hb | hb; all_goals first | omega | exact hb.elim)).drew
    obtain ⟨q1, ⟨d1, d2, d3, d4⟩, hE1⟩ := end4 (w := w) (Y := ((((V4.setCell ⟨w.heap.size, 0, none⟩ (.slice (some ⟨gw, 1, none⟩) mn bc)).setCell ⟨w.heap.size + 1, 0, none⟩ (.slice ma ml mc)).setCell ⟨w.heap.size + 2, 0, none⟩ (.int .i64 0)).setCell ⟨w.heap.size + 3, 0, none⟩ (.int .i64 0)).drew) s1 hdef ((KZ.trans s2).trans (KeepsOthers.drew _)) E5 (by have := E3.size; omega)
    have hgD : gw ≠ D := fun e => by
     rcases h1.r9.2 with ⟨x, _⟩ | ⟨g9, c9, cu9, x, _, hg9, _⟩
     ·cases x
     ·cases x
      rw [e, hdef] at hg9
      cases hg9
    have hmD : ∀ b, ma.map (·.block) = some b → w.heap.size + 4 ≤ b ∧ b ≠ D := fun b e => by
     have e2 : (Value.slice ma (mendedN rs m).length mc).ownBlock = some b := by cases ma with | none => cases e | some ad2 => exact e
     refine ⟨(h1.r8.lt b e2).1, fun e3 => ?_⟩
     rcases h1.r8.2 with ⟨x, _⟩ | ⟨g9, c9, cu9, x, _, hg9, _⟩
     ·rw [x] at e2; cases e2
     ·rw [x] at e2
      injection e2 with e2
      have e4 : g9 = b := e2
      rw [e4, e3, hdef] at hg9
      cases hg9
    have kk : KpM (fun q => M4 w.heap.size w.heap.size (fun _ => False) q ∨ q = D) V4 (((((V4.setCell ⟨w.heap.size, 0, none⟩ (.slice (some ⟨gw, 1, none⟩) mn bc)).setCell ⟨w.heap.size + 1, 0, none⟩ (.slice ma ml mc)).setCell ⟨w.heap.size + 2, 0, none⟩ (.int .i64 0)).setCell ⟨w.heap.size + 3, 0, none⟩ (.int .i64 0)).drew.putObj D (.deferred none)) := ((s3.mono fun b hb => .inl hb).trans (KpM.of_ext (Below.refl _ _).drew)).trans (KpM.put _ D _ (.inr rfl))
    have FIN : ReadResN ((bodyR rs).take mn, mendedN rs m, 0, 0) w (.returned (.tuple #[.slice (some ⟨gw, 1, none⟩) mn bc, .slice ma ml mc, .int .i64 0, .int .i64 0])) (((((V4.setCell ⟨w.heap.size, 0, none⟩ (.slice (some ⟨gw, 1, none⟩) mn bc)).setCell ⟨w.heap.size + 1, 0, none⟩ (.slice ma ml mc)).setCell ⟨w.heap.size + 2, 0, none⟩ (.int .i64 0)).setCell ⟨w.heap.size + 3, 0, none⟩ (.int .i64 0)).drew.putObj D (.deferred none)) := by
     refine ⟨some ⟨gw, 1, none⟩, bc, ma, mc, by rw [HLEN.out, HML.out], ⟨by rw [HLEN.out]; omega, by omega⟩, ⟨by rw [HML.out]; exact hmcap.1, hmcap.2⟩, ints_kp hsubz kk (fun b e hq => ?_), ints_kp HMRZ kk (fun b e hq => ?_), hE1, (fun b e => by simp only [Option.map_some, Option.some.injEq] at e; omega), (fun b e => by have := (hmD b e).1; omega)⟩
     ·simp only [Option.map_some, Option.some.injEq] at e
      subst e
      rcases hq with (hq | hq | hq) | hq
      ·omega
      ·omega
      ·exact hq
      ·exact hgD hq
     ·have hb := hmD b e
      rcases hq with (hq | hq | hq) | hq
      ·omega
      ·omega
      ·exact hq
      ·exact hb.2 hq
    have HFIN := Lib.hid FIN
    clear hE hte hml FIN s1 s2 s3 E5 hE1 kk hmD hgD
    go_wp2
    go_region
    all_goals
     go_wp2
     refine ⟨by simp, .inl ⟨_, _, rfl, run_takeDeferred q1, ?_⟩⟩
     refine ⟨.tuple #[.slice (some ⟨gw, 1, none⟩) mn bc, .slice ma ml mc, .int .i64 0, .int .i64 0], by simp [results, Tryz.results32, go_sem, d1, d2, d3, d4], ?_⟩
     rw [HE.out]
     exact HFIN.out
   | false =>
    have hte := of_decide_eq_false hteq
    have hE := read_other (rs := rs) (m := m) (by rw [HN.out]; exact hl) (by rw [HN.out]; exact HM.out.symm) h0 HR.out HOK.out (by rw [HMN.out, HBLL.out]; omega) (by rw [HMN.out, Int.toNat_natCast, ← rk_end (by rw [HN.out]; exact HM.out.symm)]; exact hte)
    have HE := Lib.hid hE
    clear hE hteq hte
    go_wp2
    obtain ⟨s1, s2, s3⟩ := four_set (g := g) (P := P) (.slice none 0 0) (.slice none 0 0) (.int .i64 0) (.int .i64 6) b0z b1z b2z b3z
    obtain ⟨q1, ⟨d1, d2, d3, d4⟩, hE1⟩ := end4 (w := w) s1 hdef (KZ.trans s2) (s3.below EZ (Nat.le_refl _) HM4B.out) (by have := E3.size; omega)
    refine ⟨by simp, .inl ⟨_, _, rfl, run_takeDeferred q1, ?_⟩⟩
    refine ⟨.tuple #[.slice none 0 0, .slice none 0 0, .int .i64 0, .int .i64 6], by simp [results, Tryz.results32, go_sem, d1, d2, d3, d4], ?_⟩
    rw [HE.out]
    exact read_noneN hE1
 case ret =>
  rintro D V hD ⟨kb, hE, ⟨b1, b2, b3, b4⟩, hKp⟩ hdef
  have hE0 : Ext w V := hKp.below E3 (Nat.le_refl _) HM4B.out
  have hE1 : Ext w (V.putObj D (.deferred none)) := (KpM.put (M := fun q => q = D) V D _ rfl).below hE0 (Nat.le_refl _) (fun b e => by rw [e]; have := E3.size; omega)
  have d1 := (box_turn b1 hdef rfl (o' := .deferred none)).cell
  have d2 := (box_turn b2 hdef rfl (o' := .deferred none)).cell
  have d3 := (box_turn b3 hdef rfl (o' := .deferred none)).cell
  have d4 := (box_turn b4 hdef rfl (o' := .deferred none)).cell
  rw [hE]
  (try simp only [Exit.inBlock, Exit.then])
  refine ⟨by simp, .inl ⟨_, _, rfl, run_takeDeferred hdef, ?_⟩⟩
  refine ⟨.tuple #[.slice none 0 0, .slice none 0 0, .int .i64 (kb : Int), .int .i64 200], by simp [results, Tryz.results32, go_sem, d1, d2, d3, d4], read_noneN hE1⟩
theorem lreadN_any (a : Option Addr) (n c : Nat) (rs : List Nat) (w : World) (hn : rs.length = n) (hbig : n ≤ c ∧ c ≤ 9223372036854775807) (hI : BytesAt w a (natI rs)) (h256 : ∀ r ∈ rs, r < 256) :
  Calls Tryz.prog 32 #[.slice a n c] w (ReadResN (readE rs) w) := by
 by_cases hx : 2400 < n ∨ n = 0 ∨ n % 65 ≠ 0 ∨ 127 < mxK rs n
 ·exact lread_early a n c rs w hn hbig hI h256 hx
 ·refine lread_main a n c (n / 65) rs w hn hbig hI (fun r hr => ?_) (by omega) (by omega) (by omega)
  have := (mxK_low (rs := rs) (b := 127) n (by omega)).1 (by omega) r (by rw [List.take_of_length_le (by omega)]; exact hr)
  omega
end Go.Proofs.YtnhpcoagkmgdoaaGreat
