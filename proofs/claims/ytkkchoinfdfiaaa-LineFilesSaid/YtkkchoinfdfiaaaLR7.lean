/- Contract of layer 1's reference: Read. -/
import Derived.Test.YtkkchoinfdfiaaaLR6
import Derived.Test.YtkkchoinfdfiaaaN11
import Derived.StillTailTactics
import Derived.Laws.Strings
set_option linter.unusedVariables false
set_option linter.unusedSimpArgs false
namespace Go.Q
open Go.RowKit
/-- a row of values in memory, that may be written -/
structure KV (W : World) (b : Nat) (f : Nat → Value) (B : Nat) : Prop where
  lt : b < W.heap.size
  at_ : ∀ i, i < B → W.cell? ⟨b, i, none⟩ = some (f i)
  free : ∀ i, i < B → W.frozen? ⟨b, i, none⟩ = false
theorem KV.congr {W : World} {b B : Nat} {f g : Nat → Value} (h : KV W b f B) (e : ∀ i, i < B → f i = g i) : KV W b g B :=
  ⟨h.lt, fun i hi => by rw [← e i hi]; exact h.at_ i hi, h.free⟩
theorem KV.ext {W W' : World} {b B : Nat} {f : Nat → Value} (h : KV W b f B) (E : Ext W W') : KV W' b f B :=
  ⟨Nat.lt_of_lt_of_le h.lt E.size, fun i hi => (E.cell (p := ⟨b, i, none⟩) h.lt).trans (h.at_ i hi), fun i hi => (E.frozen (p := ⟨b, i, none⟩) h.lt).trans (h.free i hi)⟩
theorem KV.other {W : World} {b B : Nat} {f : Nat → Value} (h : KV W b f B) {p : Addr} {v : Value} (hp : p.block ≠ b) : KV (W.setCell p v) b f B := by
  have hb : (W.setCell p v).heap[b]? = W.heap[b]? := Below.heap_setCell _ _ _ _ (fun e => hp e.symm)
  refine ⟨by rw [World.size_setCell]; exact h.lt, fun i hi => ?_, fun i hi => ?_⟩
  · have := h.at_ i hi
    simp only [World.cell?] at this ⊢
    rw [hb]; exact this
  · have := h.free i hi
    simp only [World.frozen?] at this ⊢
    rw [hb]; exact this
theorem KV.put {W : World} {b B i : Nat} {f : Nat → Value} (h : KV W b f B) {v : Value} (hi : i < B) : KV (W.setCell ⟨b, i, none⟩ v) b (fun j => if j = i then v else f j) B := by
  refine ⟨by rw [World.size_setCell]; exact h.lt, fun j hj => ?_, fun j hj => ?_⟩
  · by_cases e : j = i
    · subst e
      rw [if_pos rfl]
      exact World.cell?_setCell_same _ _ _ (h.at_ j hj)
    · rw [if_neg e]
      exact (World.cell?_setCell_other _ _ _ _ (by intro q; injection q with q1 q2; exact e q2.symm)).trans (h.at_ j hj)
  · rw [World.frozen?_setCell]; exact h.free j hj
end Go.Q
namespace Go.Proofs.Ytkkchoinfdfiaaa
open Go.RowKit Go.Q Go.Shelf Go.Maps

theorem makeI3 (W : World) (n : Nat) (hn : n ≤ 2600) : (Instr.makeSlice 26 (.int .i64 n) (.int .i64 n)).run Try.prog W = .ok (.slice (some ⟨W.heap.size, 0, none⟩) n n) (W.alloc (.cells (Array.replicate n (.int .i64 0)) 3)) := by
  obtain ⟨i0, hi, hz0, hz1, hz2⟩ := info_parts Try.infoE
  have := run_makeSlice (P := Try.prog) W 26 3 i0 (.int .i64 0) Try.underlying26 hi hz0 .i64 .i64 n n (by omega) (by omega) (by rw [hz1]; omega) (by rw [hz2]; omega) (by omega)
  rw [hz1] at this
  rw [this]
  have e : madeCells (Value.int .i64 0).cells (((n : Int)).toNat * 1) = Array.replicate n (.int .i64 0) := by
    rw [Int.toNat_natCast, Nat.mul_one, show (Value.int .i64 0).cells = #[.int .i64 0] from rfl]
    apply Array.ext
    · simp [madeCells]
    · intro i h1 h2
      simp [madeCells, Nat.mod_one]
  rw [e, Int.toNat_natCast]
theorem KV.made {W : World} {cs : Array Value} {T : TypeId} {f : Nat → Value} {B : Nat} (h : ∀ i, i < B → cs[i]? = some (f i)) : KV (W.alloc (.cells cs T)) W.heap.size f B :=
  ⟨by simp, fun i hi => box_at (Ext.refl _) i (h i hi), fun i _ => box_free (Ext.refl _) i⟩
theorem words_seven {l : Ln} {ws : List Int} (h : wordsE l ws ≠ 0) (hl : (ws.length : Int) = l.words) : wordsE l ws = 7 := by
  unfold wordsE at h ⊢
  rw [if_neg (by omega)] at h ⊢
  split
  · rfl
  · rename_i h2
    rw [if_neg h2] at h
    exact absurd rfl h
set_option maxRecDepth 100000 in
theorem conv_own {W : World} {nb n c : Nat} {a : Option Addr} {xs : List Int} (h : W.ownsRow nb 5 1 (.slice a n c) xs.length (ub xs)) (hx : ∀ x ∈ xs, 0 ≤ x ∧ x ≤ 255) : (convert 46 9 (.slice a n c)).run Try.prog W = .ok (.string (strU xs)) W := by
  obtain ⟨a', c', e⟩ := own_formU h
  injection e with e1 e2 e3
  subst e2
  exact conv_bytes (own_bytes h) hx
theorem toList_inj {x y : ByteArray} (h : x.toList = y.toList) : x = y := by
  rw [ByteArray.toList_eq, ByteArray.toList_eq] at h
  obtain ⟨⟨a⟩⟩ := x
  obtain ⟨⟨b⟩⟩ := y
  have h2 : a = b := h
  rw [h2]
theorem file_bytes {bs : List Int} (h : ∀ x ∈ bs, 0 ≤ x ∧ x ≤ 255) : ∀ x ∈ fileF (lineF bs) (wordsF bs), 0 ≤ x ∧ x ≤ 255 := file_bd (byteF_bd h 2) (byteF_bd h 3)
theorem words_bd2 {bs : List Int} (h : ∀ x ∈ bs, 0 ≤ x ∧ x ≤ 255) (h5 : sizeF bs ≤ 5) : ∀ x ∈ wordsF bs, 0 ≤ x ∧ x ≤ 1099511627775 := by
  intro x hx
  obtain ⟨k, hk, rfl⟩ := List.getElem_of_mem hx
  have hk2 := hk
  unfold wordsF at hk2
  rw [fstN_length] at hk2
  have e : (wordsF bs)[k]'hk = wordF bs k := by
    have h1 := fstN_get (wordF bs) hk2
    have h2 : (wordsF bs)[k]? = some ((wordsF bs)[k]'hk) := List.getElem?_eq_getElem hk
    unfold wordsF at h2 ⊢
    rw [h1] at h2
    exact (Option.some.inj h2).symm
  rw [e]
  have h3 := accD_bd (sizeF bs) (f := fun j => byteF bs (4 + k * sizeF bs + j)) (fun j _ => byteF_bd h _)
  have h4 : (256 : Int) ^ sizeF bs ≤ 1099511627776 := by
    have : sizeF bs = 0 ∨ sizeF bs = 1 ∨ sizeF bs = 2 ∨ sizeF bs = 3 ∨ sizeF bs = 4 ∨ sizeF bs = 5 := by omega
    rcases this with e | e | e | e | e | e <;> rw [e] <;> decide
  unfold wordF
  omega
theorem res_bad {x : Int} {w W : World} (E : Ext w W) : ReadRes (0, 0, [], x) w (.returned (.tuple #[.int .i64 0, .int .i64 0, .slice none 0 0, .int .i64 x])) W := ⟨none, 0, rfl, .inl rfl, E⟩
theorem res_good {x y : Int} {ws : List Int} {w X W : World} {b i : Nat} (h : ws.length = i) (hI : IntsAt X (some ⟨b, 0, none⟩) ws) (EX : Ext w X) (E : Ext X W) : ReadRes (x, y, ws, 0) w (.returned (.tuple #[.int .i64 x, .int .i64 y, .slice (some ⟨b, 0, none⟩) i i, .int .i64 0])) W := ⟨_, i, by rw [show ((x, y, ws, 0) : Int × Int × List Int × Int).2.2.1.length = i from h], hI.ext E, EX.comp E⟩
set_option maxRecDepth 100000 in
set_option maxHeartbeats 8000000 in
theorem rRead_any (a : Option Addr) (n c : Nat) (bs : List Int) (w : World) (hn : bs.length = n) (hbig : n ≤ 9223372036854775807) (hI : BytesAt w a bs) (hB : ∀ x ∈ bs, 0 ≤ x ∧ x ≤ 255) :
    Calls Try.prog 52 #[.slice a n c] w (ReadRes (readF bs) w) := by
  obtain ⟨r, hr⟩ : ∃ r, readF bs = r := ⟨_, rfl⟩
  have HR := Lib.hid hr
  rw [hr]
  clear hr
  have HN := Lib.hid hn
  have HI := Lib.hid hI
  have HBB := Lib.hid hB
  clear hn hB
  by_cases hl : n ≤ 400
  · have d1 : decide (400 < (n : Int)) = false := decide_eq_false (by omega)
    by_cases h4 : 4 ≤ n
    · have d2 : decide ((n : Int) < 4) = false := decide_eq_false (by omega)
      rcases hI with e | ⟨b, off, rfl, hbl, hc⟩
      · exfalso
        have := HN.out
        rw [e] at this; simp at this; omega
      have x2 : w.cell? ⟨b, off + 2, none⟩ = some (.int .u8 (byteF bs 2)) := hc 2 (by rw [HN.out]; omega)
      have x3 : w.cell? ⟨b, off + 3, none⟩ = some (.int .u8 (byteF bs 3)) := hc 3 (by rw [HN.out]; omega)
      have HC := Lib.hid hc
      have hbd2 := byteF_bd HBB.out 2
      have hbd3 := byteF_bd HBB.out 3
      have wr2 : IntKind.i64.wrap (byteF bs 2) = byteF bs 2 := IntWalk.i64_in _ (by omega)
      have wr3 : IntKind.i64.wrap (byteF bs 3) = byteF bs 3 := IntWalk.i64_in _ (by omega)
      have n2 : (2 : Int) < (n : Int) := by omega
      have n3 : (3 : Int) < (n : Int) := by omega
      clear hc
      go_enter Try.func52, Try.ntmps52
      go_wp2_with fail
      go_region_held3 (fun w' => Ext w w' ∧ w'.cell? ⟨b, off + 2, none⟩ = some (.int .u8 (byteF bs 2)) ∧ w'.cell? ⟨b, off + 3, none⟩ = some (.int .u8 (byteF bs 3)))
        (first | exact ⟨(Ext.refl w).drew, x2, x3⟩ | exact alloc_agg6 ⟨(Ext.refl w).drew, x2, x3⟩ _ | assumption)
        (fail)
      have hlb : (w.alloc (.cells #[.int .i64 (byteF bs 2), .int .i64 (byteF bs 3), .int .i64 2, .int .i64 0, .int .i64 0, .int .i64 0] 25)).drew.heap[w.heap.size]? = some (.cells #[.int .i64 (byteF bs 2), .int .i64 (byteF bs 3), .int .i64 2, .int .i64 0, .int .i64 0, .int .i64 0] 25 (0, 0)) := heap_alloc_new w _
      have E1 : Ext w (w.alloc (.cells #[.int .i64 (byteF bs 2), .int .i64 (byteF bs 3), .int .i64 2, .int .i64 0, .int .i64 0, .int .i64 0] 25)).drew := ((Ext.refl w).alloc _).drew
      obtain ⟨bl, hble⟩ : ∃ bl, w.heap.size = bl := ⟨_, rfl⟩
      rw [hble] at hlb ⊢
      have HBL := Lib.hid hble
      generalize (w.alloc (.cells #[.int .i64 (byteF bs 2), .int .i64 (byteF bs 3), .int .i64 2, .int .i64 0, .int .i64 0, .int .i64 0] 25)).drew = W1 at *
      clear x2 x3 wr2 wr3 hble
      have hck := fun W => rcheck_any (lineF bs) W
      dsimp only [lineF] at hck
      rw [show (⟨byteF bs 2, byteF bs 3, 2, 0, 0, 0⟩ : Ln) = lineF bs from rfl] at hck
      have l0 := blk_cell hlb 0 (v := .int .i64 (byteF bs 2)) rfl
      have l1 := blk_cell hlb 1 (v := .int .i64 (byteF bs 3)) rfl
      have l2 := blk_cell hlb 2 (v := .int .i64 2) rfl
      have l3 := blk_cell hlb 3 (v := .int .i64 0) rfl
      have l4 := blk_cell hlb 4 (v := .int .i64 0) rfl
      have l5 := blk_cell hlb 5 (v := .int .i64 0) rfl
      have hszq : (byteF bs 3 + 7) / 8 = ((sizeF bs : Nat) : Int) := by unfold sizeF many8; omega
      (try go_frame)
      go_wp2_with fail
      cases hok : okL (lineF bs) with
      | false =>
        rw [checkL_no hok] at hck
        obtain rfl : (0, 0, [], 6) = r := by rw [← HR.out]; exact (readF_bad (by rw [HN.out]; exact hl) (goodF_head (head_line hok))).symm
        clear hok
        refine (hck _).mono ?_
        rintro e W2 ⟨rfl, E2⟩
        go_wp2
        exact bodyPost_ret (v := .tuple #[.int .i64 0, .int .i64 0, .slice none 0 0, .int .i64 6]) (by simp [results, Try.results52, go_sem]) rfl (res_bad (E1.comp E2))
      | true =>
        rw [checkL_of hok] at hck
        have HOK := Lib.hid (okL_ok hok)
        have HO := Lib.hid hok
        have hszb := size_bd (okL_ok hok)
        obtain ⟨K, hK⟩ : ∃ K : Nat, byteF bs 2 = K := Int.eq_ofNat_of_zero_le hbd2.1
        have HK := Lib.hid hK
        have hK64 : K ≤ 64 := by have := (okL_ok hok).words; have h2 : (lineF bs).words = byteF bs 2 := rfl; omega
        obtain ⟨S, hS⟩ : ∃ S, sizeF bs = S := ⟨_, rfl⟩
        have HS := Lib.hid hS
        try rw [hszq]
        rw [hS] at hszb hszq ⊢
        have hmul : K * S ≤ 64 * 5 := Nat.mul_le_mul hK64 hszb.2
        have hpm : byteF bs 2 * (S : Int) = ((K * S : Nat) : Int) := by rw [hK]; exact (Int.natCast_mul K S).symm
        obtain ⟨Z, hZ⟩ : ∃ Z, K * S = Z := ⟨_, rfl⟩
        rw [hZ] at hmul hpm
        have HZ := Lib.hid hZ
        have wz : IntKind.i64.wrap (byteF bs 2 * (S : Int)) = (Z : Int) := by rw [hpm]; exact IntWalk.i64_in _ (by omega)
        clear hok hK hS hZ
        refine (hck _).mono ?_
        rintro e W2 ⟨rfl, E2⟩
        replace hlb := (E2.block _ (Array.getElem?_eq_some_iff.1 hlb).1).trans hlb
        replace E1 := E1.comp E2
        clear l0 l1 l2 l3 l4 l5 hck E2
        have l0 := blk_cell hlb 0 (v := .int .i64 (byteF bs 2)) rfl
        by_cases hlen : n = 5 + Z
        · have hlz : ((n : Int) == 5 + (Z : Int)) = true := by simp; omega
          have hlz2 : ((n : Int) != 5 + (Z : Int)) = false := by simp; omega
          have HLEN := Lib.hid hlen
          have hmk : ∀ W, (Instr.makeSlice 26 (.int .i64 (byteF bs 2)) (.int .i64 (byteF bs 2))).run Try.prog W = .ok (.slice (some ⟨W.heap.size, 0, none⟩) K K) (W.alloc (.cells (Array.replicate K (.int .i64 0)) 3)) := fun W => by rw [HK.out]; exact makeI3 W K (by omega)
          have hKz : byteF bs 2 ≤ (K : Int) := by have := HK.out; omega
          have hKz2 : (K : Int) ≤ byteF bs 2 := by have := HK.out; omega
          clear hlen
          go_wp2_with fail
          have K0 := KV.made (W := W2) (T := 3) (B := K) (f := fun _ => .int .i64 0) (cs := Array.replicate K (.int .i64 0)) (fun i hi => by simp [hi])
          have X2 : Ext W2 (W2.alloc (.cells (Array.replicate K (.int .i64 0)) 3)) := (Ext.refl W2).alloc _
          have hblW : bl < W2.heap.size := (Array.getElem?_eq_some_iff.1 hlb).1
          replace hlb := (X2.block _ hblW).trans hlb
          replace E1 := E1.comp X2
          have hwb0 : w.heap.size ≤ W2.heap.size := by have := HBL.out; omega
          obtain ⟨wb, hwb⟩ : ∃ wb, W2.heap.size = wb := ⟨_, rfl⟩
          rw [hwb] at K0 hblW hwb0 ⊢
          generalize W2.alloc (.cells (Array.replicate K (.int .i64 0)) 3) = W3 at *
          clear X2 hwb hmk l0 wz
          go_loopw [9] (fun s9 X => ∃ i : Nat, i ≤ K ∧ s9 = .int .i64 i ∧ KV X wb (fun q => if q < i then .int .i64 (wordF bs q) else .int .i64 0) K ∧ X.heap[bl]? = some (.cells #[.int .i64 (byteF bs 2), .int .i64 (byteF bs 3), .int .i64 2, .int .i64 0, .int .i64 0, .int .i64 0] 25 (0, 0)) ∧ Ext w X) (fun s9 _ => K - (Go.RowKit.intOf s9).toNat)
          case atStart => exact ⟨0, Nat.zero_le _, rfl, K0.congr (fun q hq => by rw [if_neg (by omega)]), hlb, E1⟩
          case round =>
            clear K0 hlb E1
            obtain ⟨i, hi, rfl, KK, hlb, EX⟩ := hrel
            obtain ⟨X, rfl⟩ : ∃ X : World, X = wr := ⟨_, rfl⟩
            have l0 := blk_cell hlb 0 (v := .int .i64 (byteF bs 2)) rfl
            by_cases hlt : i < K
            · have hltz : (i : Int) < byteF bs 2 := by omega
              obtain ⟨P, hP⟩ : ∃ P, i * S = P := ⟨_, rfl⟩
              have hPS : P + S ≤ Z := by
                have h1 : (i + 1) * S ≤ K * S := Nat.mul_le_mul_right _ hlt
                rw [Nat.add_mul, Nat.one_mul, hP, HZ.out] at h1
                exact h1
              have hpi : (i : Int) * (S : Int) = (P : Int) := by rw [← hP]; exact (Int.natCast_mul i S).symm
              have wpi : IntKind.i64.wrap ((i : Int) * (S : Int)) = (P : Int) := by rw [hpi]; exact IntWalk.i64_in _ (by omega)
              have wpP : IntKind.i64.wrap (P : Int) = (P : Int) := IntWalk.i64_in _ (by omega)
              obtain ⟨f, hf⟩ : ∃ f : Nat → Int, (fun j => byteF bs (4 + P + j)) = f := ⟨_, rfl⟩
              have HF := Lib.hid (show ∀ j, f j = byteF bs (4 + P + j) from fun j => by rw [← hf])
              have HW := Lib.hid (show accD f S = wordF bs i by rw [← hf]; unfold wordF; rw [HS.out, hP])
              have HFB := Lib.hid (fun j => show 0 ≤ f j ∧ f j ≤ 255 by rw [HF.out]; exact byteF_bd HBB.out _)
              clear hP hf
              go_wp2_with fail
              go_loopw [10] (fun s10 Y => ∃ m : Nat, m ≤ S ∧ (∃ z : Int, z = (S : Int) - 1 - (m : Int) ∧ s10 = .int .i64 z) ∧ KV Y wb (fun q => if q < i then .int .i64 (wordF bs q) else if q = i then .int .i64 (accK f S m) else .int .i64 0) K ∧ Y.heap[bl]? = some (.cells #[.int .i64 (byteF bs 2), .int .i64 (byteF bs 3), .int .i64 2, .int .i64 0, .int .i64 0, .int .i64 0] 25 (0, 0)) ∧ Ext w Y) (fun s10 _ => (Go.RowKit.intOf s10 + 1).toNat)
              case atStart => exact ⟨0, Nat.zero_le _, ⟨(S : Int) - 1, by omega, rfl⟩, KK.congr (fun q hq => by
                by_cases e : q < i
                · rw [if_pos e, if_pos e]
                · rw [if_neg e, if_neg e, accK_zero]; split <;> rfl), hlb, EX⟩
              case round =>
                clear KK hlb EX l0
                obtain ⟨m, hm, ⟨z, hz, rfl⟩, KK, hlb, EY⟩ := hrel
                obtain ⟨Y, rfl⟩ : ∃ Y : World, Y = wr := ⟨_, rfl⟩
                by_cases hms : m < S
                · obtain ⟨j, rfl⟩ : ∃ j : Nat, z = j := ⟨S - 1 - m, by omega⟩
                  have hjS : j < S := by omega
                  have hjm : S - 1 - m = j := by omega
                  have hA := accK_bd (f := f) (N := S) (k := m) (by omega) (fun q _ => HFB.out q)
                  have h256 : (256 : Int) ^ m ≤ 4294967296 := le256 (by omega)
                  have hx := HFB.out j
                  have HSN := Lib.hid (accK_succ f hms)
                  rw [hjm] at HSN
                  have HZZ := Lib.hid hz
                  have c0 := KK.at_ i hlt
                  rw [if_neg (Nat.lt_irrefl _), if_pos rfl] at c0
                  have f0 := KK.free i hlt
                  have x0 := (EY.cell (p := ⟨b, off + (4 + P + j), none⟩) hbl).trans (HC.out (4 + P + j) (by rw [HN.out, HLEN.out]; omega))
                  have x0' : Y.cell? ⟨b, off + (4 + P + j), none⟩ = some (.int .u8 (f j)) := x0.trans (by rw [HF.out]; rfl)
                  clear x0
                  obtain ⟨A, hAe⟩ : ∃ A, accK f S m = A := ⟨_, rfl⟩
                  have HAE := Lib.hid hAe
                  obtain ⟨y, hye⟩ : ∃ y, f j = y := ⟨_, rfl⟩
                  rw [hAe] at c0 hA HSN
                  rw [hye] at hx HSN x0'
                  have hA0 : 0 ≤ A := hA.1
                  have hA1 : A < 4294967296 := by omega
                  obtain ⟨hx0, hx1⟩ := hx
                  have wy : IntKind.i64.wrap y = y := IntWalk.i64_in _ (by omega)
                  have hj0 : (0 : Int) ≤ (j : Int) := by omega
                  have hjn : (4 : Int) + (P : Int) + (j : Int) < (n : Int) := by have := HLEN.out; omega
                  have hi0 : (0 : Int) ≤ (i : Int) := by omega
                  have hiK : (i : Int) < (K : Int) := by omega
                  have hq0 : (0 : Int) ≤ 4 + (P : Int) + (j : Int) := by omega
                  have wq1 : IntKind.i64.wrap (4 + (P : Int)) = 4 + (P : Int) := IntWalk.i64_in _ (by omega)
                  have wq2 : IntKind.i64.wrap (4 + (P : Int) + (j : Int)) = 4 + (P : Int) + (j : Int) := IntWalk.i64_in _ (by omega)
                  have wq3 : IntKind.i64.wrap (256 * A) = 256 * A := IntWalk.i64_in _ (by omega)
                  have wq4 : IntKind.i64.wrap (256 * A + y) = 256 * A + y := IntWalk.i64_in _ (by omega)
                  have tq : (4 + (P : Int) + (j : Int)).toNat = 4 + P + j := by omega
                  clear hz hAe hye hA h256 hjm
                  go_wp2_with fail
                  go_still_tail 19, (by kernel_rfl)
                  change wpList _ _ _ _ _ Y.drew
                  have EQd : Ext Y Y.drew := (Ext.refl Y).drew
                  have c0 := cell_laterA c0 EQd
                  have f0 : Y.drew.frozen? ⟨wb, i, none⟩ = false := f0
                  have KKd := KK.ext EQd
                  replace hlb : Y.drew.heap[bl]? = some (.cells #[.int .i64 (byteF bs 2), .int .i64 (byteF bs 3), .int .i64 2, .int .i64 0, .int .i64 0, .int .i64 0] 25 (0, 0)) := hlb
                  replace EY := EY.comp EQd
                  clear KK EQd x0' hq0 wq1 wq2 wq3 wq4 tq
                  generalize Y.drew = Y2 at *
                  have K2 := KKd.put (v := .int .i64 (256 * A + y)) hlt
                  have hlb2 := blk_putR hlb (c := wb) (o := i) (v := .int .i64 (256 * A + y)) (by omega)
                  have EY2 : Ext w (Y2.setCell ⟨wb, i, none⟩ (.int .i64 (256 * A + y))) := EY.setCell (p := ⟨wb, i, none⟩) hwb0 _
                  have HI2 := Lib.hid hi
                  go_wp2
                  go_roundw
                  case rel =>
                    refine ⟨m + 1, by omega, ⟨_, by have := HZZ.out; omega, rfl⟩, K2.congr (fun q hq => ?_), hlb2, EY2⟩
                    by_cases e : q = i
                    · subst e
                      rw [if_pos rfl, if_neg (Nat.lt_irrefl _), if_pos rfl, HSN.out, Int.mul_comm]
                    · rw [if_neg e]
                      by_cases e2 : q < i
                      · rw [if_pos e2, if_pos e2]
                      · rw [if_neg e2, if_neg e2, if_neg e, if_neg e]
                  case measure => simp [Go.RowKit.intOf]
                · obtain rfl : m = S := by omega
                  obtain rfl : z = -1 := by omega
                  have KK2 : KV Y wb (fun q => if q < i + 1 then .int .i64 (wordF bs q) else .int .i64 0) K := KK.congr (fun q hq => by
                    by_cases e : q < i
                    · rw [if_pos e, if_pos (by omega)]
                    · rw [if_neg e]
                      by_cases e2 : q = i
                      · rw [if_pos e2, if_pos (by omega), accK_all, HW.out, e2]
                      · rw [if_neg e2, if_neg (by omega)])
                  go_wp2
                  go_roundw
                  case rel => exact ⟨i + 1, by omega, by go_num, KK2, hlb, EY⟩
                  case measure => simp [Go.RowKit.intOf]; omega
            · have hltz : ¬ (i : Int) < byteF bs 2 := by omega
              obtain rfl : i = K := by omega
              have hIw : IntsAt X (some ⟨wb, 0, none⟩) (wordsF bs) := .inr ⟨wb, 0, rfl, KK.lt, fun q hq => by
                have hq2 : q < i := by
                  unfold wordsF at hq
                  rw [fstN_length] at hq
                  have := HK.out
                  omega
                rw [Nat.zero_add, KK.at_ q hq2, if_pos hq2]
                unfold wordsF
                rw [fstN_get _ (by have := HK.out; omega)]
                rfl⟩
              have hwl : (wordsF bs).length = i := by unfold wordsF; rw [fstN_length]; have := HK.out; omega
              have l1 := blk_cell hlb 1 (v := .int .i64 (byteF bs 3)) rfl
              have l2 := blk_cell hlb 2 (v := .int .i64 2) rfl
              have l3 := blk_cell hlb 3 (v := .int .i64 0) rfl
              have l4 := blk_cell hlb 4 (v := .int .i64 0) rfl
              have l5 := blk_cell hlb 5 (v := .int .i64 0) rfl
              have hwd := fun W (E : Ext X W) => rwords_any (lineF bs) (some ⟨wb, 0, none⟩) i i (wordsF bs) W HOK.out hwl (by omega) (hIw.ext E)
              dsimp only [lineF] at hwd
              rw [show (⟨byteF bs 2, byteF bs 3, 2, 0, 0, 0⟩ : Ln) = lineF bs from rfl] at hwd
              clear KK
              have HBX : BytesAt X (some ⟨b, off, none⟩) bs := HI.out.ext EX
              have hcb := fun W (E : Ext X W) => (show (convert 46 9 (.slice (some ⟨b, off, none⟩) n c)).run Try.prog W = .ok (.string (strU bs)) W by rw [← HN.out]; exact conv_bytes (HBX.ext E) HBB.out)
              have h6 : ∀ w', Ext X w' → (Ext X w' ∧ w'.cell? ⟨bl, 0, none⟩ = some (.int .i64 (byteF bs 2)) ∧ w'.cell? ⟨bl, 1, none⟩ = some (.int .i64 (byteF bs 3)) ∧ w'.cell? ⟨bl, 2, none⟩ = some (.int .i64 2) ∧ w'.cell? ⟨bl, 3, none⟩ = some (.int .i64 0) ∧ w'.cell? ⟨bl, 4, none⟩ = some (.int .i64 0) ∧ w'.cell? ⟨bl, 5, none⟩ = some (.int .i64 0)) := fun w' E => ⟨E, cell_laterA l0 E, cell_laterA l1 E, cell_laterA l2 E, cell_laterA l3 E, cell_laterA l4 E, cell_laterA l5 E⟩
              by_cases hw0 : wordsE (lineF bs) (wordsF bs) = 0
              · have hfl := fun W (E : Ext X W) => rfile_any (lineF bs) (some ⟨wb, 0, none⟩) i i (wordsF bs) W HOK.out hwl (hIw.ext E) (by have := HK.out; exact this.symm) (words_bd2 HBB.out (by rw [HS.out]; exact hszb.2))
                rw [hw0] at hwd
                go_wp2_with fail
                go_region_with (first
                  | (go_at_call 61; refine (hwd _ ((Ext.refl X).drew)).mono ?_; rintro e w' ⟨rfl, E'⟩; have hbx : Ext X w' := Ext.comp (Ext.refl X).drew E')
                  | (go_at_call 80; refine (hfl _ hbx).mono ?_; rintro e w'' ⟨v, rfl, hO, E''⟩; obtain ⟨af, cf, rfl⟩ := own_form hO; have hby : Ext X w'' := Ext.comp hbx E''; have hcf := conv_own hO (file_bytes HBB.out)))
                all_goals
                  by_cases hsm : fileF (lineF bs) (wordsF bs) = bs
                  · have hsb : (!((strU (fileF (lineF bs) (wordsF bs))).toList == (strU bs).toList)) = false := by rw [hsm]; simp only [beq_self_eq_true, Bool.not_true]
                    obtain rfl : (byteF bs 2, byteF bs 3, wordsF bs, 0) = r := by rw [← HR.out]; exact (readF_good (by rw [HN.out]; exact hl) (by rw [file_right HBB.out HO.out (by rw [HN.out, HS.out, show (byteF bs 2).toNat = i by have := HK.out; omega, HZ.out]; exact HLEN.out) hw0]; exact decide_eq_true hsm)).symm
                    have m0 := cell_laterA l0 hby
                    have m1 := cell_laterA l1 hby
                    clear hfl hcb hwd hcf
                    rw [hsb]
                    go_wp2_with fail
                    first
                      | go_quiet (fail)
                      | go_region
                    go_wp2
                    exact bodyPost_ret (v := .tuple #[.int .i64 (byteF bs 2), .int .i64 (byteF bs 3), .slice (some ⟨wb, 0, none⟩) i i, .int .i64 0]) (by simp [results, Try.results52, go_sem]) rfl (by first | exact res_good hwl hIw EX hby | exact res_good hwl hIw EX hby.drew | exact res_good hwl hIw EX (below_drewN hby _))
                  · have hsb : (!((strU (fileF (lineF bs) (wordsF bs))).toList == (strU bs).toList)) = true := by simpa only [Bool.not_eq_true', beq_eq_false_iff_ne, ne_eq] using fun e => hsm (strU_inj (file_bytes HBB.out) HBB.out (toList_inj e))
                    obtain rfl : (0, 0, [], 6) = r := by rw [← HR.out]; exact (readF_bad (by rw [HN.out]; exact hl) (by rw [file_right HBB.out HO.out (by rw [HN.out, HS.out, show (byteF bs 2).toNat = i by have := HK.out; omega, HZ.out]; exact HLEN.out) hw0]; exact decide_eq_false hsm)).symm
                    rw [hsb]
                    go_wp2
                    exact bodyPost_ret (v := .tuple #[.int .i64 0, .int .i64 0, .slice none 0 0, .int .i64 6]) (by simp [results, Try.results52, go_sem]) rfl (res_bad (EX.comp hby))
              · rw [words_seven hw0 (by rw [hwl]; exact HK.out.symm)] at hwd
                obtain rfl : (0, 0, [], 6) = r := by rw [← HR.out]; exact (readF_bad (by rw [HN.out]; exact hl) (good_words hw0)).symm
                go_wp2_with fail
                first
                  | go_region_with (go_at_call 61; refine (hwd _ ((Ext.refl X).drew)).mono ?_; rintro e w' ⟨rfl, E'⟩; have hbx : Ext X w' := Ext.comp (Ext.refl X).drew E')
                  | fail
                all_goals
                  go_wp2
                  exact bodyPost_ret (v := .tuple #[.int .i64 0, .int .i64 0, .slice none 0 0, .int .i64 6]) (by simp [results, Try.results52, go_sem]) rfl (res_bad (EX.comp hbx))
        · have hlz : ((n : Int) == 5 + (Z : Int)) = false := by simp; omega
          have hlz2 : ((n : Int) != 5 + (Z : Int)) = true := by simp; omega
          obtain rfl : (0, 0, [], 6) = r := by rw [← HR.out]; exact (readF_bad (by rw [HN.out]; exact hl) (good_len (by rw [HN.out, HS.out, show (byteF bs 2).toNat = K by have := HK.out; omega, HZ.out]; exact hlen))).symm
          go_wp2
          exact bodyPost_ret (v := .tuple #[.int .i64 0, .int .i64 0, .slice none 0 0, .int .i64 6]) (by simp [results, Try.results52, go_sem]) rfl (res_bad E1)
    · have d2 : decide ((n : Int) < 4) = true := decide_eq_true (by omega)
      obtain rfl : (0, 0, [], 6) = r := by rw [← HR.out]; exact (readF_bad (by rw [HN.out]; exact hl) (goodF_head (head_len (by rw [HN.out]; omega)))).symm
      go_enter Try.func52, Try.ntmps52
      go_wp2
      exact bodyPost_ret (v := .tuple #[.int .i64 0, .int .i64 0, .slice none 0 0, .int .i64 6]) (by simp [results, Try.results52, go_sem]) rfl (res_bad (Ext.refl w))
  · have d1 : decide (400 < (n : Int)) = true := decide_eq_true (by omega)
    obtain rfl : (0, 0, [], 3) = r := by rw [← HR.out]; exact (readF_long (by rw [HN.out]; omega)).symm
    go_enter Try.func52, Try.ntmps52
    go_wp2
    exact bodyPost_ret (v := .tuple #[.int .i64 0, .int .i64 0, .slice none 0 0, .int .i64 3]) (by simp [results, Try.results52, go_sem]) rfl (res_bad (Ext.refl w))
end Go.Proofs.Ytkkchoinfdfiaaa
