import Derived.Test.YtcijneecjkpebaaU14
import Derived.Test.YtcijneecjkpebaaU7
set_option linter.unusedVariables false
set_option linter.unusedSimpArgs false
/- Layer 8: Punch. -/
namespace Go.Q
/-- the tape of the first entries, without its last word -/
def punchN (cat : List En) (j : Nat) : List Int := (cat.length : Int) :: ((cat.take j).map punchX).flatten
theorem punchN_zero (cat : List En) : punchN cat 0 = [(cat.length : Int)] := by simp [punchN]
theorem punchN_all (cat : List En) : punchN cat cat.length = punchL cat := by unfold punchN punchL; rw [List.take_length]
theorem punchN_succ {cat : List En} {j : Nat} {x : En} (h : cat[j]? = some x) : punchN cat (j + 1) = punchN cat j ++ punchX x := by
  unfold punchN
  rw [take_get h, List.map_append, List.flatten_append]
  simp
theorem punchN_len {cat : List En} (hg : ∀ x ∈ cat, Good x) : ∀ j, j ≤ cat.length → (punchN cat j).length ≤ 1 + 109 * j := by
  intro j hj
  unfold punchN
  rw [List.length_cons]
  have := flat_len (n := 109) punchX (cat.take j) fun x hx => punchX_len (hg x (List.mem_of_mem_take hx))
  rw [List.length_take, Nat.min_eq_left hj] at this
  omega
theorem punchX_parts (x : En) : punchX x = [(x.name.size : Int)] ++ bytesS x.name ++ [x.ver, (x.code.words.length : Int), x.code.entry, x.code.exit, x.code.result, (x.code.args.length : Int)] ++ x.code.args ++ pairsW x.code.words x.code.masks := by
  unfold punchX punchR
  simp
theorem flat_all {α : Type} (f : α → List Int) (p : Int → Prop) : ∀ (l : List α), (∀ x ∈ l, ∀ y ∈ f x, p y) → ∀ y ∈ (l.map f).flatten, p y
  | [], _, y, h => by simp at h
  | x :: l, hp, y, h => by
    rw [List.map_cons, List.flatten_cons, List.mem_append] at h
    rcases h with h | h
    · exact hp x (List.mem_cons_self ..) y h
    · exact flat_all f p l (fun z hz => hp z (List.mem_cons_of_mem _ hz)) y h
theorem pairs_mem : ∀ (ws ms : List Int) (y : Int), y ∈ pairsW ws ms → y ∈ ws ∨ y ∈ ms
  | [], _, y, h => by simp [pairsW] at h
  | _ :: _, [], y, h => by simp [pairsW] at h
  | w :: ws, m :: ms, y, h => by
    have h : y ∈ w :: m :: pairsW ws ms := h
    rw [List.mem_cons, List.mem_cons] at h
    rcases h with h | h | h
    · exact .inl (by rw [h]; simp)
    · exact .inr (by rw [h]; simp)
    · rcases pairs_mem ws ms y h with h | h
      · exact .inl (List.mem_cons_of_mem _ h)
      · exact .inr (List.mem_cons_of_mem _ h)
theorem punchX_bd {x : En} (h : Good x) : ∀ y ∈ punchX x, 0 ≤ y ∧ y ≤ 1099511627776 := by
  have c := check_ok h.code
  have hb := name_small h.name
  have hl := name_len h.name
  rw [bytesS_length] at hl
  intro y hy
  rw [punchX_parts] at hy
  simp only [List.mem_append, List.mem_singleton, List.mem_cons, List.not_mem_nil, or_false] at hy
  rcases hy with (((rfl | hy) | hy) | hy) | hy
  · omega
  · have := hb y hy; omega
  · have hv := h.ver
    have h1 := c.wl
    have h2 := c.al
    have p1 := c.pl x.code.entry (by simp)
    have p2 := c.pl x.code.exit (by simp)
    have p3 := c.pl x.code.result (by simp)
    rcases hy with rfl | rfl | rfl | rfl | rfl | rfl <;> omega
  · have := c.pl y (by simp [hy]); have := c.wl; omega
  · rcases pairs_mem _ _ y hy with h1 | h1
    · have := c.w y h1; omega
    · have := c.m y h1; omega
theorem punchL_bd {cat : List En} (h : soundE cat = 0) : ∀ y ∈ punchL cat, 0 ≤ y ∧ y ≤ 1099511627776 := by
  have hs := h
  unfold soundE at hs
  split at hs
  · omega
  rename_i h6
  intro y hy
  unfold punchL at hy
  rw [List.mem_cons] at hy
  rcases hy with rfl | hy
  · omega
  · exact flat_all punchX (fun y => 0 ≤ y ∧ y ≤ 1099511627776) cat (fun x hx => punchX_bd ((sound_good hs).1 x hx)) y hy
end Go.Q
namespace Go.Proofs.Ytcijneecjkpebaa
open Go.RowKit Go.Q
theorem from_lit {w : World} {zs : List Int} {t : TypeId} : From (w.alloc (.cells (iv zs).toArray t)) (some ⟨w.heap.size, 0, none⟩) (iv zs) := by
  refine .inr ⟨_, rfl, fun i u hu => ?_⟩
  have hn := Blk.nw w (iv zs).toArray t
  rw [Addr.add_lit]
  simp only [Nat.zero_add]
  exact hn.c i (by rw [← hu]; simp)
set_option maxRecDepth 100000 in
set_option maxHeartbeats 8000000 in
theorem lb_punch (a : Option Addr) (n c : Nat) (cat : List En) (L : Nat → Lo) (w : World) (hn : cat.length = n) (hcap : n ≤ c) (hbig : c ≤ 9223372036854775807) (hI : CatAt w a cat L) (hbd : ∀ x ∈ cat, EnBd x) :
    Calls Try.prog 35 #[.slice a n c] w (IntsRes (punchE cat) w) := by
  have hck := lb_sound a n c cat L w hn hcap hbig hI hbd
  by_cases h0 : soundE cat = 0
  · have hp : punchE cat = (punchL cat ++ [sumT (punchL cat)], 0) := by unfold punchE; rw [if_neg (by rw [h0]; simp)]
    rw [h0] at hck
    have hs := h0
    unfold soundE at hs
    split at hs
    · omega
    rename_i h6
    have hgood := (sound_good hs).1
    have HG := Lib.hid hgood
    have HPL := Lib.hid (punchN_len hgood)
    have HS0 := Lib.hid h0
    have HP := Lib.hid hp
    have HI := Lib.hid hI
    have HN := Lib.hid hn
    have h6n : n ≤ 6 := by omega
    have HZ := Lib.hid (punchN_zero cat)
    clear hs hgood hp h0 hI hbd h6 hn
    obtain ⟨i0, hi0, hz0, hz1, hz2⟩ := info_parts Try.infoE
    go_enter Try.func35, Try.ntmps35
    go_wp2_with fail
    refine (hck).mono ?_
    rintro e w1 ⟨rfl, E1⟩
    go_wp2_with fail
    obtain ⟨X, hX⟩ : ∃ X, w1.alloc (.cells #[.int .i64 (n : Int)] 3) = X := ⟨_, rfl⟩
    have E0 : Ext w X := by rw [← hX]; exact E1.alloc _
    obtain ⟨B, hB⟩ : ∃ B, w1.heap.size = B := ⟨_, rfl⟩
    have hwB : w.heap.size ≤ B := by rw [← hB]; exact E1.size
    have hBX : B ≤ X.heap.size := by rw [← hX, World.size_alloc]; omega
    have hrow0 : X.ownsRow B 3 1 (.slice (some ⟨B, 0, none⟩) 1 1) 1 (iv (punchN cat 0)) := by
      rw [← hX, ← hB, HZ.out, HN.out]
      exact own_lit rfl (by decide) (Ext.refl _)
    rw [hX, hB]
    clear hX hB
    have hl0 : (punchN cat 0).length = 1 := by rw [HZ.out]; rfl
    have HL0 := Lib.hid hl0
    clear hl0
    go_loopw [5, 23] (fun s5 s23 wr => ∃ j : Nat, j ≤ n ∧ s23 = .int .i64 (j : Int) ∧ Aside (wr.ownsRow B 3 1 s5 (punchN cat j).length (iv (punchN cat j))) ∧ Aside (Below B X wr)) (fun _ s _ => n - (intOf s).toNat)
    case atStart => exact ⟨0, Nat.zero_le _, rfl, (show World.ownsRow _ _ _ _ _ _ _ by rw [HL0.out]; exact hrow0), Below.refl _ _⟩
    case round =>
      obtain ⟨j, hj, rfl, HO, HE⟩ := hrel
      by_cases hlt : j < n
      · have hltz : (j : Int) < (n : Int) := by omega
        have EW : Ext w wr := E0.trans (HE.out.mono hwB)
        obtain ⟨b, off, rfl, hb, hc⟩ : ∃ b off, a = some ⟨b, off, none⟩ ∧ b < w.heap.size ∧ ∀ i x, cat[i]? = some x → (∀ j v, (ecs x (L i))[j]? = some v → w.cell? ⟨b, off + i * 8 + j, none⟩ = some v) ∧ RtAt w x.code (L i) := by
          rcases HI.out with h | h
          · have := HN.out; rw [h] at this; simp at this; omega
          · exact h
        obtain ⟨x, hx⟩ : ∃ x, cat[j]? = some x := ⟨_, List.getElem?_eq_getElem (by rw [HN.out]; exact hlt)⟩
        have hgx := HG.out x (List.mem_of_getElem? hx)
        obtain ⟨hcx, hrt⟩ := hc j x hx
        have hcj := fun i v hv => (EW.cell (p := ⟨b, off + j * 8 + i, none⟩) hb).trans (hcx i v hv)
        have q0 := hcj 0 (.string x.name) rfl
        have q1 := hcj 1 (.int .i64 x.ver) rfl
        have q2 := hcj 2 (.slice (L j).a1 x.code.words.length (L j).c1) rfl
        have q3 := hcj 3 (.slice (L j).a2 x.code.masks.length (L j).c2) rfl
        have q4 := hcj 4 (.int .i64 x.code.entry) rfl
        have q5 := hcj 5 (.int .i64 x.code.exit) rfl
        have q6 := hcj 6 (.int .i64 x.code.result) rfl
        have q7 := hcj 7 (.slice (L j).a3 x.code.args.length (L j).c3) rfl
        rw [Nat.add_zero] at q0
        have hok := check_ok hgx.code
        have hnl := name_len hgx.name
        rw [bytesS_length] at hnl
        have hns := name_small hgx.name
        have hpn := punchN_succ hx
        rw [punchX_parts] at hpn
        have hlen := HPL.out j (by rw [HN.out]; exact hj)
        have hwl := hok.wl
        have hal := hok.al
        have hml := hok.ml
        obtain ⟨hr1, hr2, hr3⟩ := hrt
        have hbl := bytesS_length x.name
        have hpt := pairs_take x.code.words x.code.masks
        have hpp := pairs_part x.code.words x.code.masks
        have kc := fun W => run_bytes_of_string (P := Try.prog) W 9 69 5 x.name Try.underlying9 Try.underlying69 Try.underlying5
        have hbn := bytes_new x.name
        obtain ⟨nm, hnm⟩ : ∃ nm, x.name = nm := ⟨_, rfl⟩
        rw [hnm] at q0 hnl hns hpn hbl kc hbn
        generalize (L j).a1 = p1 at *
        generalize (L j).c1 = k1 at *
        generalize (L j).a2 = p2 at *
        generalize (L j).c2 = k2 at *
        generalize (L j).a3 = p3 at *
        generalize (L j).c3 = k3 at *
        obtain ⟨ws, hws⟩ : ∃ ws, x.code.words = ws := ⟨_, rfl⟩
        obtain ⟨ms, hms⟩ : ∃ ms, x.code.masks = ms := ⟨_, rfl⟩
        obtain ⟨ar, har⟩ : ∃ ar, x.code.args = ar := ⟨_, rfl⟩
        rw [hws] at q2 hpn hwl hml hr1 hpt hpp
        rw [hms] at q3 hpn hml hr2 hpt hpp
        rw [har] at q7 hpn hal hr3
        generalize x.code.entry = en at *
        generalize x.code.exit = ex at *
        generalize x.code.result = re at *
        generalize x.ver = vr at *
        obtain ⟨l1, hl1⟩ : ∃ l1, ws.length = l1 := ⟨_, rfl⟩
        obtain ⟨l3, hl3⟩ : ∃ l3, ar.length = l3 := ⟨_, rfl⟩
        rw [hl1] at q2 hpn hwl hml
        rw [hml] at q3
        rw [hl3] at q7 hpn hal
        obtain ⟨ls, hls⟩ : ∃ ls, punchN cat j = ls := ⟨_, rfl⟩
        rw [hls] at hpn hlen HO
        have HPN := Lib.hid hpn
        have HPT := Lib.hid hpt
        have HPP := Lib.hid hpp
        have HL1 := Lib.hid hl1
        have HL3 := Lib.hid hl3
        have HML := Lib.hid hml
        have HBL := Lib.hid hbl
        have HNS := Lib.hid hns
        have HBN := Lib.hid hbn
        have HR1 := Lib.hid hr1
        have HR2 := Lib.hid hr2
        have HR3 := Lib.hid hr3
        have HEW := Lib.hid EW
        have hBw : B ≤ wr.heap.size := Nat.le_trans hBX HE.out.size
        have hlen2 : ls.length ≤ 655 := by omega
        clear hcj hcx hc hx hgx hok hnm hws hms har hl1 hl3 hls hpn hpt hpp hml hbl hns hbn hr1 hr2 hr3 EW hlen
        obtain ⟨wo, rfl⟩ : ∃ wo : World, wo = wr := ⟨_, rfl⟩
        go_upto_region 8 with fail
        have EY : Ext wo (wo.alloc (.cells #[.string nm, .int .i64 vr, .slice p1 l1 k1, .slice p2 l1 k2, .int .i64 en, .int .i64 ex, .int .i64 re, .slice p3 l3 k3] 63)) := (Ext.refl _).alloc _
        have hbx := Blk.nw wo #[.string nm, .int .i64 vr, .slice p1 l1 k1, .slice p2 l1 k2, .int .i64 en, .int .i64 ex, .int .i64 re, .slice p3 l3 k3] 63
        have hol : ∀ k, u5.ownBlock = some k → k < wo.heap.size := fun k hk => (HO.out.lt k hk).2
        obtain ⟨bx, hbxe⟩ : ∃ bx, wo.heap.size = bx := ⟨_, rfl⟩
        generalize wo.alloc (.cells #[.string nm, .int .i64 vr, .slice p1 l1 k1, .slice p2 l1 k2, .int .i64 en, .int .i64 ex, .int .i64 re, .slice p3 l3 k3] 63) = Y at *
        rw [hbxe] at hbx ⊢
        have G0 : Gw B (fun k => k = bx) Y Y u5 ls := Gw.start (own_extX HO.out EY) fun k hk e => by have := hol k hk; omega
        have hBY : B ≤ Y.heap.size := Nat.le_trans hBw EY.size
        have HBX := Lib.hid hbxe
        have HGY := Lib.hid EY
        clear q0 q1 q2 q3 q4 q5 q6 q7 hol hbxe EY
        have q0 := Blk.c hbx 0 (v := .string nm) rfl
        have q1 := Blk.c hbx 1 (v := .int .i64 vr) rfl
        have q2 := Blk.c hbx 2 (v := .slice p1 l1 k1) rfl
        have q3 := Blk.c hbx 3 (v := .slice p2 l1 k2) rfl
        have q4 := Blk.c hbx 4 (v := .int .i64 en) rfl
        have q5 := Blk.c hbx 5 (v := .int .i64 ex) rfl
        have q6 := Blk.c hbx 6 (v := .int .i64 re) rfl
        have q7 := Blk.c hbx 7 (v := .slice p3 l3 k3) rfl
        have hbxl := hbx.lt
        go_upto_region 9 with (at_builtin; refine wpList_app2 rfl _ _ 22 rfl 3 i0 (.int .i64 0) 1 8 Try.underlying22 hi0 hz0 hz1 hz2 rfl (by decide) u5 ls.length B (iv ls) rfl (own_extX G0.row ((Ext.refl Y).alloc _)) (by rw [World.size_alloc]; omega) (some ⟨Y.heap.size, 0, none⟩) 1 1 (iv [(nm.size : Int)]) rfl rfl (from_one Y _ _) (iv_one _) (by unfold maxLen; omega) (by omega) ?_; intro v1 W1 ho1 hg1 ha1; have G1 := Gw.app G0 ((Ext.refl Y).alloc (.cells #[.int .i64 (nm.size : Int)] 3)) (ms := [(nm.size : Int)]) rfl ho1 hg1 ha1 (fun k e => by omega))
        have hbx1 := G1.keep hbx rfl
        clear q0 q1 q2 q3 q4 q5 q6 q7 ho1 hg1 ha1
        have q0 := Blk.c hbx1 0 (v := .string nm) rfl
        have hbn := HBN.out W1
        have hB1 : B ≤ W1.heap.size := Nat.le_trans hBY G1.kp.size
        go_wp2_with fail
        clear kc q0
        obtain ⟨hEb, hcb, hbl2⟩ := hbn
        generalize World.drew _ = Y2 at hEb hcb hbl2 ⊢
        obtain ⟨bb, hbb⟩ : ∃ bb, W1.heap.size = bb := ⟨_, rfl⟩
        rw [hbb] at hcb hbl2 ⊢
        have hb1l := hbx1.lt
        have G2 : Gw B (fun k => k = bx ∨ k = bb) Y2 Y2 v1 (ls ++ [(nm.size : Int)]) := Gw.start (own_extX G1.row hEb) fun k hk e => by
          rcases e with e | e
          · exact G1.ne k hk e
          · have := (G1.row.lt k hk).2; omega
        have hbx2 := hbx1.ex hEb
        have HCB := Lib.hid hcb
        have hB2 : B ≤ Y2.heap.size := Nat.le_trans hB1 hEb.size
        have HF2 := Lib.hid (show ∀ k, (k = bx ∨ k = bb) → k < Y2.heap.size from fun k e => by have := hbx2.lt; rcases e with e | e <;> omega)
        have HB2 := Lib.hid ((G1.bel hBY).trans (hEb.mono hB1))
        have hl2 : (ls ++ [(nm.size : Int)]).length ≤ 656 := by rw [List.length_append]; simp; omega
        obtain ⟨l2, hl2e⟩ : ∃ l2, ls ++ [(nm.size : Int)] = l2 := ⟨_, rfl⟩
        rw [hl2e] at G2 hl2
        have HL2 := Lib.hid hl2e
        clear hcb hbb hb1l G1 hbx1 G0 hbx hl2e
        go_loopw [5, 37] (fun s5 s37 wz => ∃ i : Nat, i ≤ nm.size ∧ s37 = .int .i64 (i : Int) ∧ Aside (Gw B (fun k => k = bx ∨ k = bb) Y2 wz s5 (l2 ++ (bytesS nm).take i))) (fun _ s _ => nm.size - (intOf s).toNat)
        case atStart => exact ⟨0, Nat.zero_le _, rfl, (show Gw _ _ _ _ _ _ by rw [List.take_zero, List.append_nil]; exact G2)⟩
        case round =>
          obtain ⟨i, hi, rfl, HGz⟩ := hrel
          clear G2
          by_cases hlt2 : i < nm.size
          · have hltz2 : (i : Int) < (nm.size : Int) := by omega
            have hbi : i < (bytesS nm).length := by rw [HBL.out]; exact hlt2
            have hci := (HGz.out.kp.cell (b := bb) (o := i) hbl2 (fun e => e.2 (.inr rfl))).trans (HCB.out i hlt2)
            have hcb2 := HNS.out _ (List.getElem_mem hbi)
            have htk := take_get (List.getElem?_eq_getElem hbi)
            have hget : (bytesS nm)[i]?.getD 0 = (bytesS nm)[i] := by rw [List.getElem?_eq_getElem hbi]; rfl
            rw [hget] at hci
            generalize (bytesS nm)[i] = ch at *
            obtain ⟨c0, c1⟩ := hcb2
            have HTK := Lib.hid htk
            have hpl : (l2 ++ (bytesS nm).take i).length ≤ 700 := by rw [List.length_append, List.length_take]; omega
            obtain ⟨l3', hl3e⟩ : ∃ l3', l2 ++ (bytesS nm).take i = l3' := ⟨_, rfl⟩
            have hG := HGz.out
            rw [hl3e] at hG hpl
            have HL3' := Lib.hid hl3e
            have hBz : B ≤ wr.heap.size := Nat.le_trans hB2 hG.kp.size
            have HG2 := Lib.hid hG
            have hrow := own_extX hG.row ((Ext.refl wr).alloc (.cells #[.int .i64 ch] 3))
            have hwrp : IntKind.i64.wrap ch = ch := IntWalk.i64_in _ (by omega)
            clear hget htk hbi hl3e hG
            go_wp2_with (at_builtin; refine wpList_app2 rfl _ _ 22 rfl 3 i0 (.int .i64 0) 1 8 Try.underlying22 hi0 hz0 hz1 hz2 rfl (by decide) u5 l3'.length B (iv l3') rfl hrow (by rw [World.size_alloc]; omega) (some ⟨wr.heap.size, 0, none⟩) 1 1 (iv [ch]) rfl rfl (from_one wr _ _) (iv_one _) (by unfold maxLen; omega) (by omega) ?_; intro v2 W2 ho2 hg2 ha2)
            go_roundw
            case rel =>
              refine ⟨i + 1, by omega, by go_num, (show Gw _ _ _ _ _ _ from ?_)⟩
              rw [HTK.out, ← List.append_assoc, HL3'.out]
              exact HG2.out.app ((Ext.refl wr).alloc (.cells #[.int .i64 ch] 3)) rfl ho2 hg2 ha2 HF2.out
            case measure => simp [intOf]; omega
          · have hltz2 : ¬ (i : Int) < (nm.size : Int) := by omega
            have hGz := HGz.out
            rw [List.take_of_length_le (by rw [HBL.out]; omega)] at hGz
            obtain ⟨wz, rfl⟩ : ∃ wz : World, wz = wr := ⟨_, rfl⟩
            have hl3 : (l2 ++ bytesS nm).length ≤ 700 := by rw [List.length_append, HBL.out]; omega
            obtain ⟨l3', hl3e⟩ : ∃ l3', l2 ++ bytesS nm = l3' := ⟨_, rfl⟩
            rw [hl3e] at hGz hl3
            have HL3' := Lib.hid hl3e
            have hbx3 := hGz.keep hbx2 (.inl rfl)
            have HB3 := Lib.hid (HB2.out.trans (hGz.bel hB2))
            have hBz : B ≤ wz.heap.size := Nat.le_trans hB2 hGz.kp.size
            have q0 := Blk.c hbx3 0 (v := .string nm) rfl
            have q1 := Blk.c hbx3 1 (v := .int .i64 vr) rfl
            have q2 := Blk.c hbx3 2 (v := .slice p1 l1 k1) rfl
            have q3 := Blk.c hbx3 3 (v := .slice p2 l1 k2) rfl
            have q4 := Blk.c hbx3 4 (v := .int .i64 en) rfl
            have q5 := Blk.c hbx3 5 (v := .int .i64 ex) rfl
            have q6 := Blk.c hbx3 6 (v := .int .i64 re) rfl
            have q7 := Blk.c hbx3 7 (v := .slice p3 l3 k3) rfl
            clear HCB hbx2 HF2 hl3e HGz
            go_upto_region 15 with fail
            have EZ : Ext wz (wz.alloc (.cells #[.slice p1 l1 k1, .slice p2 l1 k2, .int .i64 en, .int .i64 ex, .int .i64 re, .slice p3 l3 k3] 24)) := (Ext.refl _).alloc _
            have hby := Blk.nw wz #[.slice p1 l1 k1, .slice p2 l1 k2, .int .i64 en, .int .i64 ex, .int .i64 re, .slice p3 l3 k3] 24
            have hbx4 := hbx3.al (.cells #[.slice p1 l1 k1, .slice p2 l1 k2, .int .i64 en, .int .i64 ex, .int .i64 re, .slice p3 l3 k3] 24)
            have hbxz := hbx3.lt
            obtain ⟨yb, hyb⟩ : ∃ yb, wz.heap.size = yb := ⟨_, rfl⟩
            have hgn : ∀ k, u5.ownBlock = some k → ¬ (k = bx ∨ k = yb) := fun k hk e => by
              rcases e with e | e
              · exact hGz.ne k hk (.inl e)
              · have := (hGz.row.lt k hk).2; omega
            generalize wz.alloc (.cells #[.slice p1 l1 k1, .slice p2 l1 k2, .int .i64 en, .int .i64 ex, .int .i64 re, .slice p3 l3 k3] 24) = Y3 at *
            rw [hyb] at hby ⊢
            have G3 : Gw B (fun k => k = bx ∨ k = yb) Y3 Y3 u5 l3' := Gw.start (own_extX hGz.row EZ) hgn
            have hB3 : B ≤ Y3.heap.size := Nat.le_trans hBz EZ.size
            have HF3 := Lib.hid (show ∀ k, (k = bx ∨ k = yb) → k < Y3.heap.size from fun k e => by have := hbx4.lt; have := hby.lt; rcases e with e | e <;> omega)
            have HB4 := Lib.hid (HB3.out.trans (EZ.mono hBz))
            have HW3 := Lib.hid (show Ext w Y3 from Ext.comp ((Ext.comp HEW.out HGY.out).trans (HB3.out.mono hwB)) EZ)
            have hltx := hbx4.lt
            have hlty := hby.lt
            clear q0 q1 q2 q3 q4 q5 q6 q7 hgn hyb EZ hGz hbx3
            have q0 := Blk.c hbx4 0 (v := .string nm) rfl
            have q1 := Blk.c hbx4 1 (v := .int .i64 vr) rfl
            have r0 := Blk.c hby 0 (v := .slice p1 l1 k1) rfl
            have r1 := Blk.c hby 1 (v := .slice p2 l1 k2) rfl
            have r2 := Blk.c hby 2 (v := .int .i64 en) rfl
            have r3 := Blk.c hby 3 (v := .int .i64 ex) rfl
            have r4 := Blk.c hby 4 (v := .int .i64 re) rfl
            have r5 := Blk.c hby 5 (v := .slice p3 l3 k3) rfl
            have hrow := own_extX G3.row ((Ext.refl Y3).alloc (.cells #[.int .i64 vr, .int .i64 (l1 : Int), .int .i64 en, .int .i64 ex, .int .i64 re, .int .i64 (l3 : Int)] 3))
            go_upto_region 16 with (at_builtin; refine wpList_app2 rfl _ _ 22 rfl 3 i0 (.int .i64 0) 1 8 Try.underlying22 hi0 hz0 hz1 hz2 rfl (by decide) u5 l3'.length B (iv l3') rfl hrow (by rw [World.size_alloc]; omega) (some ⟨Y3.heap.size, 0, none⟩) 6 6 (iv [vr, (l1 : Int), en, ex, re, (l3 : Int)]) rfl rfl (from_lit (zs := [vr, (l1 : Int), en, ex, re, (l3 : Int)])) (iv_one _) (by unfold maxLen; omega) (by omega) ?_; intro v3 W3 ho3 hg3 ha3)
            have G4 := Gw.app G3 ((Ext.refl Y3).alloc (.cells #[.int .i64 vr, .int .i64 (l1 : Int), .int .i64 en, .int .i64 ex, .int .i64 re, .int .i64 (l3 : Int)] 3)) (ms := [vr, (l1 : Int), en, ex, re, (l3 : Int)]) rfl ho3 hg3 ha3 HF3.out
            have hl4 : (l3' ++ [vr, (l1 : Int), en, ex, re, (l3 : Int)]).length ≤ 706 := by rw [List.length_append]; simp; omega
            obtain ⟨l4, hl4e⟩ : ∃ l4, l3' ++ [vr, (l1 : Int), en, ex, re, (l3 : Int)] = l4 := ⟨_, rfl⟩
            rw [hl4e] at G4 hl4
            have HL4 := Lib.hid hl4e
            have hby4 := G4.keep hby (.inr rfl)
            have hB4 : B ≤ W3.heap.size := Nat.le_trans hB3 G4.kp.size
            have hfr := from_ints (HR3.out.ext (G4.old HW3.out hwB))
            have hl3n : (iv ar).length = l3 * 1 := by rw [iv_length, HL3.out]; omega
            clear q0 q1 r0 r1 r2 r3 r4 r5 hrow ho3 hg3 ha3 hl4e
            have r0 := Blk.c hby4 0 (v := .slice p1 l1 k1) rfl
            have r1 := Blk.c hby4 1 (v := .slice p2 l1 k2) rfl
            have r2 := Blk.c hby4 2 (v := .int .i64 en) rfl
            have r3 := Blk.c hby4 3 (v := .int .i64 ex) rfl
            have r4 := Blk.c hby4 4 (v := .int .i64 re) rfl
            have r5 := Blk.c hby4 5 (v := .slice p3 l3 k3) rfl
            go_upto_region 17 with (at_builtin; refine wpList_app2 rfl _ _ 22 rfl 3 i0 (.int .i64 0) 1 8 Try.underlying22 hi0 hz0 hz1 hz2 rfl (by decide) v3 l4.length B (iv l4) rfl G4.row hB4 p3 l3 k3 (iv ar) rfl hl3n (hfr) (iv_one _) (by unfold maxLen; omega) (by omega) ?_; intro v4 W4 ho4 hg4 ha4)
            have G5 := Gw.app G4 (Ext.refl W3) (ms := ar) HL3.out ho4 hg4 ha4 HF3.out
            have hl5 : (l4 ++ ar).length ≤ 708 := by rw [List.length_append, HL3.out]; omega
            obtain ⟨l5, hl5e⟩ : ∃ l5, l4 ++ ar = l5 := ⟨_, rfl⟩
            rw [hl5e] at G5 hl5
            have HL5 := Lib.hid hl5e
            have hby5 := G5.keep hby (.inr rfl)
            clear r0 r1 r2 r3 r4 r5 ho4 hg4 ha4 hl5e hfr hl3n G4 hby4
            have r0 := Blk.c hby5 0 (v := .slice p1 l1 k1) rfl
            have r1 := Blk.c hby5 1 (v := .slice p2 l1 k2) rfl
            have HBY := Lib.hid hby
            clear hby
            go_wp2_with fail
            clear r0 r1 hby5
            go_loopw [5, 73] (fun s5 s73 wq => ∃ i : Nat, i ≤ l1 ∧ s73 = .int .i64 (i : Int) ∧ Aside (Gw B (fun k => k = bx ∨ k = yb) Y3 wq s5 (l5 ++ pairsW (ws.take i) (ms.take i)))) (fun _ s _ => l1 - (intOf s).toNat)
            case atStart => exact ⟨0, Nat.zero_le _, rfl, (show Gw _ _ _ _ _ _ by rw [List.take_zero, List.take_zero, show pairsW [] [] = [] from rfl, List.append_nil]; exact G5)⟩
            case round =>
              obtain ⟨i, hi, rfl, HGq⟩ := hrel
              clear G5 G3 hbx4
              by_cases hlt3 : i < l1
              · have hltz3 : (i : Int) < (l1 : Int) := by omega
                have hG := HGq.out
                have EQ := hG.old HW3.out hwB
                obtain ⟨b1, o1, rfl, hc1⟩ : ∃ b1 o1, p1 = some ⟨b1, o1, none⟩ ∧ wr.cell? ⟨b1, o1 + i, none⟩ = some (.int .i64 (ws[i]?.getD 0)) := by
                  rcases HR1.out with h | ⟨b1, o1, ha, hb1, hc⟩
                  · have := HL1.out; rw [h] at this; simp at this; omega
                  · exact ⟨b1, o1, ha, cell_later EQ (hc i (by rw [HL1.out]; exact hlt3))⟩
                obtain ⟨b2, o2, rfl, hc2⟩ : ∃ b2 o2, p2 = some ⟨b2, o2, none⟩ ∧ wr.cell? ⟨b2, o2 + i, none⟩ = some (.int .i64 (ms[i]?.getD 0)) := by
                  rcases HR2.out with h | ⟨b2, o2, ha, hb2, hc⟩
                  · have := HML.out; rw [h] at this; simp at this; omega
                  · exact ⟨b2, o2, ha, cell_later EQ (hc i (by rw [HML.out]; exact hlt3))⟩
                have hby6 := hG.keep HBY.out (.inr rfl)
                have r1 := hby6.c 1 (v := .slice (some ⟨b2, o2, none⟩) l1 k2) rfl
                have htk := HPT.out i (by rw [HML.out, HL1.out]) (by rw [HL1.out]; exact hlt3)
                have hpp := HPP.out i
                generalize ws[i]?.getD 0 = x1 at *
                generalize ms[i]?.getD 0 = x2 at *
                have HTK := Lib.hid htk
                have hpl : (l5 ++ pairsW (ws.take i) (ms.take i)).length ≤ 800 := by rw [List.length_append]; omega
                obtain ⟨l6, hl6e⟩ : ∃ l6, l5 ++ pairsW (ws.take i) (ms.take i) = l6 := ⟨_, rfl⟩
                rw [hl6e] at hG hpl
                have HL6 := Lib.hid hl6e
                have hBq : B ≤ wr.heap.size := Nat.le_trans hB3 hG.kp.size
                have HG2 := Lib.hid hG
                have hrow := own_extX hG.row ((Ext.refl wr).alloc (.cells #[.int .i64 x1, .int .i64 x2] 3))
                clear htk hl6e hG hpp EQ hby6
                go_wp2_with (at_builtin; refine wpList_app2 rfl _ _ 22 rfl 3 i0 (.int .i64 0) 1 8 Try.underlying22 hi0 hz0 hz1 hz2 rfl (by decide) u5 l6.length B (iv l6) rfl hrow (by rw [World.size_alloc]; omega) (some ⟨wr.heap.size, 0, none⟩) 2 2 (iv [x1, x2]) rfl rfl (from_lit (zs := [x1, x2])) (iv_one _) (by unfold maxLen; omega) (by omega) ?_; intro v5 W5 ho5 hg5 ha5)
                go_roundw
                case rel =>
                  refine ⟨i + 1, by omega, by go_num, (show Gw _ _ _ _ _ _ from ?_)⟩
                  rw [HTK.out, ← List.append_assoc, HL6.out]
                  exact HG2.out.app ((Ext.refl wr).alloc (.cells #[.int .i64 x1, .int .i64 x2] 3)) (ms := [x1, x2]) rfl ho5 hg5 ha5 HF3.out
                case measure => simp [intOf]; omega
              · have hltz3 : ¬ (i : Int) < (l1 : Int) := by omega
                have hGq := HGq.out
                rw [List.take_of_length_le (by rw [HL1.out]; omega), List.take_of_length_le (by rw [HML.out]; omega)] at hGq
                have hfin : l5 ++ pairsW ws ms = punchN cat (j + 1) := by
                  rw [HPN.out, ← HL5.out, ← HL4.out, ← HL3'.out, ← HL2.out]
                  simp only [List.append_assoc]
                rw [hfin] at hGq
                have HFI := Lib.hid hGq
                clear hGq hfin HGq
                go_wp2_with fail
                go_roundw
                case rel => exact ⟨j + 1, by omega, by go_num, HFI.out.row, HE.out.trans ((HGY.out.mono hBw).trans (HB4.out.trans (HFI.out.bel hB3)))⟩
                case measure => simp [intOf]; omega
      · have hltz : ¬ (j : Int) < (n : Int) := by omega
        have hO := HO.out
        rw [show j = cat.length by rw [HN.out]; omega, punchN_all] at hO
        have hE := HE.out
        obtain ⟨a', c', rfl⟩ := own_slice hO
        have hll := HPL.out cat.length (Nat.le_refl _)
        rw [punchN_all, HN.out] at hll
        have hpb := punchL_bd HS0.out
        have EW : Ext w wr := E0.trans (hE.mono hwB)
        have hBr : B ≤ wr.heap.size := Nat.le_trans hBX hE.size
        obtain ⟨P, hPe⟩ : ∃ P, punchL cat = P := ⟨_, rfl⟩
        rw [hPe] at hO hll hpb ⊢
        have htot := lb_total a' P.length c' P wr rfl (by omega) (own_intsL hO) hpb
        have HPe := Lib.hid hPe
        have hPl : P.length ≤ 655 := by omega
        have hrow := own_extX hO ((Ext.refl wr).alloc (.cells #[.int .i64 (sumT P)] 3))
        clear hPe hll hpb hE HO HE
        go_wp2_with fail
        refine htot.mono ?_
        rintro e w4 ⟨rfl, rfl⟩
        go_wp2_with (at_builtin; refine wpList_app2 rfl _ _ 22 rfl 3 i0 (.int .i64 0) 1 8 Try.underlying22 hi0 hz0 hz1 hz2 rfl (by decide) (.slice a' P.length c') P.length B (iv P) rfl hrow (by rw [World.size_alloc]; omega) (some ⟨w4.heap.size, 0, none⟩) 1 1 (iv [sumT P]) rfl rfl (from_one w4 _ _) (iv_one _) (by unfold maxLen; omega) (by omega) ?_; intro v5 W5 ho5 hg5 _)
        go_ret2
        obtain ⟨a5, c5, rfl⟩ := own_slice ho5
        have hsz : (punchL cat ++ [sumT (punchL cat)]).length = P.length + 1 := by rw [HPe.out]; simp
        refine ⟨a5, c5, ?_, ?_, ?_⟩
        · rw [HP.out]; show _ = Ending.returned (.tuple #[.slice a5 (punchL cat ++ [sumT (punchL cat)]).length c5, .int .i64 0]); rw [hsz]; rfl
        · rw [HP.out]; show World.ownsRow _ _ _ _ (.slice a5 (punchL cat ++ [sumT (punchL cat)]).length c5) (punchL cat ++ [sumT (punchL cat)]).length (iv (punchL cat ++ [sumT (punchL cat)])); rw [hsz, HPe.out]
          exact own_le (by rw [← iv_app]; exact ho5) hwB
        · exact ((KpM.of_ext ((Ext.refl w4).alloc (.cells #[.int .i64 (sumT P)] 3))).trans (KpM.grown (M := fun k => B ≤ k) hg5 fun k hk => (hrow.lt k hk).1)).below EW (Nat.le_refl _) fun k hk => Nat.le_trans hwB hk
  · have hp : punchE cat = ([], soundE cat) := by unfold punchE; rw [if_pos h0]
    obtain ⟨r, hr⟩ : ∃ r, soundE cat = r := ⟨_, rfl⟩
    rw [hr] at hck h0 hp
    have HP := Lib.hid hp
    have hr0 : ¬ (r : Int) = 0 := h0
    clear hp hr hI hbd
    go_enter Try.func35, Try.ntmps35
    go_wp2_with fail
    refine (hck).mono ?_
    rintro e w1 ⟨rfl, E1⟩
    go_wp2_with fail
    go_ret2
    exact ⟨none, 0, by rw [HP.out]; rfl, by rw [HP.out]; exact World.ownsRow_nil _ _ _ _, E1⟩
end Go.Proofs.Ytcijneecjkpebaa
