/- Promote: the section of a seat; who gets the seats of a section. -/
import Derived.Test.YtdmaephmkfmehaaGreatDoorP2
import Derived.Test.YtdmaephmkfmehaaGreatDoorGn
namespace Go.Pm
open Go.Wl Go.Ad Go.Proofs.YtdmaephmkfmehaaGreatDoor
theorem gotBy_next {s : Int} {l : List Gt} {i : Nat} {z : Gt} (h : l[i]? = some z) : gotBy s (l.take (i + 1)) = gotBy s (l.take i) ++ (if z.sec = s then [z.own] else []) := by
  rw [List.take_add_one, h, gotBy_append]
  congr 1
  by_cases e : z.sec = s
  · simp [gotBy, e]
  · simp [gotBy, e]
theorem gotBy_at {s : Int} {l : List Gt} {i : Nat} {z : Gt} {r wl : List Int} (h : l[i]? = some z) (hs : z.sec = s) (hw : gotBy s l ++ r = wl) : wl[(gotBy s (l.take i)).length]? = some z.own := by
  have h1 := gotBy_next (s := s) h
  rw [if_pos hs] at h1
  have h2 : gotBy s l = gotBy s (l.take (i + 1)) ++ gotBy s (l.drop (i + 1)) := by rw [← gotBy_append, List.take_append_drop]
  rw [← hw, h2, h1, List.append_assoc, List.append_assoc, List.getElem?_append_right (Nat.le_refl _), Nat.sub_self]
  rfl
theorem gotBy_le (s : Int) (l : List Gt) (i : Nat) : (gotBy s (l.take i)).length ≤ i := by
  unfold gotBy
  rw [List.length_map]
  refine Nat.le_trans (List.length_filter_le _ _) ?_
  rw [List.length_take]; omega
end Go.Pm
namespace Go.Proofs.YtdmaephmkfmehaaGreatDoor
open Go.RowKit Go.Gr Go.Hp Go.Ad Go.Wl Go.Pm
set_option linter.unusedVariables false
set_option linter.unusedSimpArgs false
attribute [local go_sem] rdOp rdAt rdUpon Cls forall_fr
theorem rd_dropN {w : World} {l : List Value} (h : Rd w none l) (k : Nat) : Rd w none (l.drop k) := fun i u hu => by
  rw [List.getElem?_drop] at hu
  obtain ⟨ad, e, _⟩ := h _ u hu
  cases e
set_option maxRecDepth 100000 in
set_option maxHeartbeats 4000000 in
theorem section_any (v : Vn) (A : Option Addr) (c : Nat) (x : Int) (w : World) (h : Secs w A v.secs) (hc : v.secs.length ≤ c) (hw : VnW v) (hx : plE v x = 0) :
    Calls Tryz.prog 27 #[.agg #[.int .i64 v.sh, .int .i64 v.ttl, .int .i64 v.ses, .slice A v.secs.length c], .int .i64 x] w fun e w' => e = .returned (.int .i64 (secOf v x)) ∧ Ext w w' := by
  have HPL := hide (fun (y : World) (k : Ext w y) => rplace v A c x y (h.ext k) hc hw)
  rw [hx] at HPL
  obtain ⟨sec, hsec⟩ : ∃ q, (plX v x).sec = q := ⟨_, rfl⟩
  obtain ⟨row, hrow⟩ : ∃ q, (plX v x).row = q := ⟨_, rfl⟩
  obtain ⟨st, hst⟩ : ∃ q, (plX v x).seat = q := ⟨_, rfl⟩
  have HSC : Hid (secOf v x = (sec : Nat)) := hide (by unfold secOf; rw [hsec])
  rw [hsec, hrow, hst] at HPL
  clear h hc hw hx hsec hrow hst
  have K0 := (Sep.refl No w).add 24 (vnC v A c)
  go_enter Tryz.func27, Tryz.ntmps27
  go_upto_region 1 with fail
  generalize w.alloc _ = w1 at K0 ⊢
  obtain ⟨g2, G2⟩ : ∃ g, w.heap.size = g := ⟨_, rfl⟩
  rw [G2] at K0 ⊢
  clear G2
  obtain ⟨c0, c1, c2, c3, cz⟩ := blk4 (K0.blk (g := g2) (e := 24) (List.Mem.head _))
  have K1 := hide K0
  clear K0
  go_wp2_with fail
  (with_reducible refine (HPL.out _ K1.out.toExt).mono ?_)
  rintro e w2 ⟨rfl, hx⟩
  have K2 := K1.out.ext hx
  clear K1 hx HPL c0 c1 c2 c3 cz
  have tok1 : True := trivial
  have tok2 : True := trivial
  go_upto_region 2 with (first
    | (have zz := tok1; clear zz tok1; refine wpList_alS K2 rfl 86 rfl [.int .i64 0, .int .i64 0, .int .i64 0] (by kernel_rfl) ?_; intro w3 hz3 K3; clear hz3 K2)
    | (have zz := tok2; clear zz tok2; refine wpList_stS [] K3 rfl 86 (.tmp 5) (.tmp 11) rfl rfl (cs := [.int .i64 (sec : Nat), .int .i64 (row : Nat), .int .i64 (st : Nat)]) rfl (by kernel_rfl) rfl (int3_one _ _ _) ?_; intro w4 K4; dsimp only [List.nil_append] at K4; clear K3))
  obtain ⟨g5, G5⟩ : ∃ g, w2.heap.size = g := ⟨_, rfl⟩
  rw [G5] at K4 ⊢
  clear G5
  obtain ⟨b0, b1, b2, bz⟩ := blk3 (K4.blk (g := g5) (e := 86) (List.Mem.head _))
  go_wp2_with fail
  go_ret
  rw [HSC.out]
  exact ⟨rfl, K4.toExt⟩

set_option maxRecDepth 100000 in
set_option maxHeartbeats 4000000 in
theorem pfirst_any {r : Value} {a : An} (s : Nat) (wl : List Int) (W : Option Addr) (wc : Nat) (w : World) (hr : IsRes true w r a) (hf : a.few) (hs : s < a.rows.length) (hW : Rd w W (u32s wl)) (hwc : wl.length ≤ wc) (hwl : wl.length ≤ 100000) (he : gotBy s a.gr ++ a.rows.getD s [] = wl) :
    Calls Tryz.prog 28 #[r, .int .i64 s, .slice W wl.length wc] w fun e w' => e = .returned (.bool true) ∧ Ext w w' := by
  obtain ⟨E, G, B, Fr', ce, cg, cb, cf, vs, rfl, h2, h3, h4, h5, h6, h7, h8, h9⟩ := hr
  have HG := hide (fun (y : World) (k : Ext w y) => h7.ext k)
  have HB := hide (fun (y : World) (k : Ext w y) => asRows_x h8 k)
  have HWL := hide (fun (y : World) (k : Ext w y) => hW.ext k)
  have HE := hide he
  have hcb := h4 rfl
  have hgf := hf.gr
  have hrf := hf.rows
  have HFR := hide hf.row
  obtain ⟨n, hn⟩ : ∃ n, a.gr.length = n := ⟨_, rfl⟩
  have HN := hide hn
  obtain ⟨m, hm⟩ : ∃ m, a.rows.length = m := ⟨_, rfl⟩
  have HM := hide hm
  have HGL := hide (gotBy_le (s : Int) a.gr)
  rw [hn] at h3 hgf ⊢
  rw [hm] at hs hcb hrf ⊢
  have hwli : (wl.length : Int) ≤ 100000 := by omega
  generalize a.en.length = n1 at *
  generalize a.fr.length = n3 at *
  clear hn hm h2 h4 h5 h6 h7 h8 h9 hf he hW
  have K0 := (Sep.refl No w).add 34 (rsC E G B Fr' n1 n m n3 ce cg cb cf)
  go_enter Tryz.func28, Tryz.ntmps28
  go_upto_region 1 with fail
  generalize w.alloc _ = w1 at K0 ⊢
  obtain ⟨g3, G3⟩ : ∃ g, w.heap.size = g := ⟨_, rfl⟩
  rw [G3] at K0 ⊢
  clear G3
  have K1 := hide K0
  clear K0
  go_wp2_with fail
  go_loopw [7, 8] (fun v7 v8 wr => ∃ (i k : Nat), v8 = .int .i64 i ∧ v7 = .int .i64 k ∧ i ≤ n ∧ k ≤ i ∧ Hid ((gotBy s (a.gr.take i)).length = k) ∧ Hid (Sep No w wr [As.blk g3 34 (rsC E G B Fr' n1 n m n3 ce cg cb cf)])) (fun v7 v8 _ => n - (intOf v8).toNat)
  case atStart => exact ⟨0, 0, rfl, rfl, Nat.zero_le _, Nat.le_refl _, hide rfl, K1⟩
  case round =>
    clear K1
    obtain ⟨i, k, rfl, rfl, hil, hki, HK, K2⟩ := hrel
    by_cases i1 : i < n
    · have i2 : (i : Int) < (n : Int) := by omega
      have i3 : (i : Int) < (cg : Int) := by omega
      obtain ⟨z, hz⟩ := some_of (l := a.gr) (i := i) (by rw [HN.out]; exact i1)
      obtain ⟨b, off, hA, hax⟩ := gt_at (HG.out _ K2.out.toExt) hz
      subst hA
      unfold gtC at hax
      have x1 := hax 1 _ rfl
      have xz := cell_lt x1
      have HNX := hide (gotBy_next (s := (s : Int)) hz)
      have HZ := hide hz
      have HLT := hide i1
      obtain ⟨c0, c1, c2, c3, cz⟩ := blk4 (K2.out.blk (g := g3) (e := 34) (List.Mem.head _))
      clear hz i1
      by_cases hsec : z.sec = (s : Int)
      rotate_left
      · have hb : (z.sec != (s : Int)) = true := bne_iff_ne.2 hsec
        have HK2 : Hid ((gotBy s (a.gr.take (i + 1))).length = k) := hide (by rw [HNX.out, if_neg hsec, List.append_nil]; exact HK.out)
        clear hsec
        go_wp2_with fail
        clear x1 xz hax c0 c1 c2 c3 cz
        try go_frame
        go_roundw
        case rel => exact ⟨i + 1, k, by go_num, rfl, HLT.out, by omega, HK2, K2⟩
        case measure => have := HLT.out; simp [intOf]; omega
      · have hb : (z.sec != (s : Int)) = false := by rw [hsec]; exact bne_self_eq_false _
        have HK2 : Hid ((gotBy s (a.gr.take (i + 1))).length = k + 1) := hide (by rw [HNX.out, if_pos hsec, List.length_append, HK.out]; rfl)
        have hwk := gotBy_at HZ.out hsec HE.out
        rw [HK.out] at hwk
        obtain ⟨hkl, hwo⟩ := List.getElem?_eq_some_iff.1 hwk
        have HWK := hide (fun (y : World) (q : Ext w y) => u32s_at (HWL.out y q) hkl)
        rw [hwo] at HWK
        obtain ⟨wd0, rfl, -⟩ := HWK.out w (Ext.refl w)
        have hkw : (k : Int) < (wl.length : Int) := by omega
        have hkw2 : ¬ (wl.length : Int) ≤ (k : Int) := by omega
        have hkc : (k : Int) < (wc : Int) := by omega
        clear hsec hwk hwo hkl
        go_upto_region 6 with fail
        refine wp_region_wm [0, 1, 2, 3, 4, 5, 6, 7, 8, 9, 10, 11, 12, 13, 14, 15, 16] (by kernel_rfl) (by kernel_rfl) (by kernel_rfl) (by kernel_rfl) ?_
        have K3 := hide K2.out.drew
        clear K2 c0 c1 c2 c3 cz x1 xz hax hb
        generalize World.drew _ = wd at *
        obtain ⟨b', off', hA, hax⟩ := gt_at (HG.out _ K3.out.toExt) HZ.out
        simp only [Option.some.injEq, Addr.mk.injEq, and_true] at hA
        obtain ⟨rfl, rfl⟩ := hA
        unfold gtC at hax
        have x2 := hax 2 _ rfl
        obtain ⟨c0, c1, c2, c3, cz⟩ := blk4 (K3.out.blk (g := g3) (e := 34) (List.Mem.head _))
        obtain ⟨_, e1, y0⟩ := HWK.out _ K3.out.toExt
        cases e1
        iterate 6 (refine wm_rd rfl rfl (fun K hK => ?_); go_simp; refine hK _ ?_; clear hK K)
        refine wm_ld1 rfl rfl 31 (.tmp 29) rfl rfl c1 _ Tryz.underlying31 rfl ?_
        iterate 3 (refine wm_rd rfl rfl (fun K hK => ?_); go_simp; refine hK _ ?_; clear hK K)
        refine wm_ld1 rfl rfl 41 (.tmp 33) rfl rfl x2 _ Tryz.underlying41 rfl ?_
        iterate 3 (refine wm_rd rfl rfl (fun K hK => ?_); go_simp; refine hK _ ?_; clear hK K)
        refine wm_ld1 rfl rfl 41 (.tmp 37) rfl rfl y0 _ Tryz.underlying41 rfl ?_
        clear c0 c1 c2 c3 cz x2 y0 hax
        have eo : (z.own != z.own) = false := bne_self_eq_false _
        iterate 2 (refine wm_rd rfl rfl (fun K hK => ?_); go_simp; refine hK _ ?_; clear hK K)
        refine wm_nil ?_
        go_wp2_with fail
        try go_frame
        go_roundw
        case rel => exact ⟨i + 1, k + 1, by go_num, by go_num, HLT.out, by omega, HK2, K3⟩
        case measure => have := HLT.out; simp [intOf]; omega
    · have i2 : ¬ (i : Int) < (n : Int) := by omega
      obtain rfl : i = n := by omega
      have hto : a.gr.take i = a.gr := List.take_of_length_le (by rw [HN.out]; exact Nat.le_refl _)
      have hgk := HK.out
      rw [hto] at hgk
      have hwe := HE.out
      have hdrop : a.rows.getD s [] = wl.drop k := by rw [← hwe, ← hgk, List.drop_left]
      have hkl : k ≤ wl.length := by rw [← hwe, ← hgk, List.length_append]; omega
      have hrow : ∃ rr, a.rows[s]? = some rr ∧ rr = wl.drop k := by
        have hl : s < a.rows.length := by rw [HM.out]; exact hs
        refine ⟨a.rows[s], List.getElem?_eq_getElem hl, ?_⟩
        rw [← hdrop, List.getD_eq_getElem?_getD, List.getElem?_eq_getElem hl]; rfl
      obtain ⟨rr, hrr, hrd⟩ := hrow
      have HRR := hide (And.intro hrr hrd)
      have hsi : (s : Int) < (m : Int) := by omega
      have hsc : (s : Int) < (cb : Int) := by omega
      have hk1 : (k : Int) ≤ (wl.length : Int) := by omega
      have hk2 : (wl.length : Int) ≤ (wc : Int) := by omega
      obtain ⟨c0, c1, c2, c3, cz⟩ := blk4 (K2.out.blk (g := g3) (e := 34) (List.Mem.head _))
      clear hto hgk hwe hdrop hrr hrd
      go_upto_region 9 with fail
      refine wp_region_wm [0, 1, 2, 3, 4, 5, 6, 7, 8, 9] (by kernel_rfl) (by kernel_rfl) (by kernel_rfl) (by kernel_rfl) ?_
      have K3 := hide K2.out.drew
      clear K2 c0 c1 c2 c3 cz
      generalize World.drew _ = wd at *
      obtain ⟨c0, c1, c2, c3, cz⟩ := blk4 (K3.out.blk (g := g3) (e := 34) (List.Mem.head _))
      obtain ⟨bd, C, cr, rfl, y0, hrc, hrcr⟩ := rowsL_at (HB.out _ K3.out.toExt) (s := s) (by rw [HM.out]; exact hs)
      have hrs : a.rows[s]'(by rw [HM.out]; exact hs) = rr := by
        have := HRR.out.1
        rw [List.getElem?_eq_getElem (by rw [HM.out]; exact hs), Option.some.injEq] at this
        exact this
      rw [hrs] at y0 hrc hrcr
      have HROW := hide (fun (y : World) (q : Ext wd y) => hrc.ext q)
      have hrl := HFR.out rr (List.mem_of_getElem? HRR.out.1)
      clear hrs hrc
      iterate 1 (refine wm_rd rfl rfl (fun K hK => ?_); go_simp; refine hK _ ?_; clear hK K)
      refine wm_ld1 rfl rfl 25 (.tmp 43) rfl rfl c2 _ Tryz.underlying25 rfl ?_
      iterate 2 (refine wm_rd rfl rfl (fun K hK => ?_); go_simp; refine hK _ ?_; clear hK K)
      refine wm_ld1 rfl rfl 47 (.tmp 46) rfl rfl y0 _ Tryz.underlying47 rfl ?_
      iterate 2 (refine wm_rd rfl rfl (fun K hK => ?_); go_simp; refine hK _ ?_; clear hK K)
      clear c0 c1 c2 c3 cz y0
      have HOW := hide (fun (W' : Option Addr) (hW' : Rd wd W' (u32s (wl.drop k))) => owners_any rr (wl.drop k) C W' cr (wc - k) wd (HROW.out wd (Ext.refl wd)) hW' hrl (by rw [List.length_drop]; omega))
      rw [show decide (rr = wl.drop k) = true from decide_eq_true HRR.out.2, List.length_drop] at HOW
      rcases W with _ | ad
      · have HWD := hide (show Rd wd none (u32s (wl.drop k)) from by rw [← u32s_drop]; exact rd_dropN (HWL.out _ K3.out.toExt) k)
        refine wm_rd rfl rfl (fun K hK => ?_); go_simp; refine hK _ ?_; clear hK K
        refine wm_ext rfl rfl (fun K hK => ?_)
        go_simp
        go_at_call 60
        (with_reducible refine (HOW.out none HWD.out).mono ?_)
        rintro e w4 ⟨rfl, hx⟩
        refine hK _ _ hx ?_
        clear hK K
        have HX4 := hide (K3.out.toExt.trans hx)
        clear hx
        iterate 1 (refine wm_rd rfl rfl (fun K hK => ?_); go_simp; refine hK _ ?_; clear hK K)
        refine wm_nil ?_
        go_wp2_with fail
        go_ret
        exact ⟨rfl, HX4.out⟩
      · refine wm_rd rfl rfl (fun K hK => ?_); go_simp; refine hK _ ?_; clear hK K
        obtain ⟨W', hW'⟩ : ∃ W', (if wc = k then some ad else some (ad.add k)) = W' := ⟨_, rfl⟩
        have HWD := hide (show Rd wd W' (u32s (wl.drop k)) from by
          rw [← hW']
          split
          · rw [List.drop_eq_nil_of_le (by omega)]; exact rd_nil _ _
          · rw [← u32s_drop]; exact rd_dropA (HWL.out _ K3.out.toExt) k)
        rw [hW']
        clear hW'
        refine wm_ext rfl rfl (fun K hK => ?_)
        go_simp
        go_at_call 60
        (with_reducible refine (HOW.out W' HWD.out).mono ?_)
        rintro e w4 ⟨rfl, hx⟩
        refine hK _ _ hx ?_
        clear hK K
        have HX4 := hide (K3.out.toExt.trans hx)
        clear hx
        iterate 1 (refine wm_rd rfl rfl (fun K hK => ?_); go_simp; refine hK _ ?_; clear hK K)
        refine wm_nil ?_
        go_wp2_with fail
        go_ret
        exact ⟨rfl, HX4.out⟩
end Go.Proofs.YtdmaephmkfmehaaGreatDoor
