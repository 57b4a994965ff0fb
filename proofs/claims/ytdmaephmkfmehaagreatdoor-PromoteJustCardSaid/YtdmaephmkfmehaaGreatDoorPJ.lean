/- Promote: what became of seats is as it should be (just). -/
import Derived.Test.YtdmaephmkfmehaaGreatDoorP6
namespace Go.Pm
open Go.Wl Go.Ad Go.Proofs.YtdmaephmkfmehaaGreatDoor
theorem secOf_in {v : Vn} (hz : (chk v).2 = 0) {x : Int} (h : plE v x = 0) : 0 ≤ secOf v x ∧ secOf v x < (v.secs.length : Int) := by
  have h1 := (plE_iff hz x).1 h
  obtain ⟨k, rfl⟩ : ∃ k : Nat, x = k := ⟨x.toNat, by omega⟩
  obtain ⟨p, hp⟩ : ∃ p, (places v)[k]? = some p := ⟨_, List.getElem?_eq_getElem (by rw [places_len]; omega)⟩
  have hX : plX v (k : Int) = p := by unfold plX; rw [if_pos h, Int.toNat_natCast, hp]; rfl
  obtain ⟨s, n, e1, -⟩ := place_inv hp
  have h2 := (List.getElem?_eq_some_iff.1 e1).1
  unfold secOf
  rw [hX]
  omega
/-- what an answer of seats that were offered is -/
structure JustP (v : Vn) (dl : Int) (rows : List (List Int)) (seats : List Int) (R : Rs) : Prop where
  len : (rowsS R.S).length = rows.length
  sum : R.gr.length + R.fr.length = seats.length
  sec : ∀ x ∈ seats, plE v x = 0 ∧ 0 ≤ secOf v x ∧ secOf v x < (rows.length : Int)
  at_ : ∀ (i : Nat) (x : Int), seats[i]? = some x →
    (∃ o, R.gr[(offO v dl (loadS (qs v) rows) (seats.take i)).gr.length]? = some ⟨x, secOf v x, o, dl⟩ ∧ (offO v dl (loadS (qs v) rows) (seats.take (i + 1))).gr.length = (offO v dl (loadS (qs v) rows) (seats.take i)).gr.length + 1 ∧ (offO v dl (loadS (qs v) rows) (seats.take (i + 1))).fr.length = (offO v dl (loadS (qs v) rows) (seats.take i)).fr.length) ∨
    ((∀ g, R.gr[(offO v dl (loadS (qs v) rows) (seats.take i)).gr.length]? = some g → g.seat ≠ x) ∧ R.fr[(offO v dl (loadS (qs v) rows) (seats.take i)).fr.length]? = some x ∧ wt R.S (secOf v x) = [] ∧ (offO v dl (loadS (qs v) rows) (seats.take (i + 1))).gr.length = (offO v dl (loadS (qs v) rows) (seats.take i)).gr.length ∧ (offO v dl (loadS (qs v) rows) (seats.take (i + 1))).fr.length = (offO v dl (loadS (qs v) rows) (seats.take i)).fr.length + 1)
  ws : ∀ (s : Nat) (r : List Int), rows[s]? = some r → gotBy s R.gr ++ (rowsS R.S).getD s [] = r
theorem just_p {v : Vn} {dl : Int} {rows : List (List Int)} {seats : List Int} (hz : (chk v).2 = 0) (hld : (loadE (qs v) rows).2 = 0) (hpl : ∀ x ∈ seats, plE v x = 0) (hnd : seats.Nodup) : JustP v dl rows seats (offO v dl (loadS (qs v) rows) seats) := by
  have hl := loadS_len hld
  have hq := qs_len v
  refine ⟨by rw [rowsS_len, offO_len]; omega, offO_many _ _ _ _, fun x hx => ⟨hpl x hx, (secOf_in hz (hpl x hx)).1, by have := (secOf_in hz (hpl x hx)).2; omega⟩, fun i x hx => ?_, fun s r hr => ?_⟩
  · have hxm := List.mem_of_getElem? hx
    exact seat_at hnd hx ⟨(secOf_in hz (hpl x hxm)).1, by have := (secOf_in hz (hpl x hxm)).2; omega⟩
  · have h1 := offO_ws v dl (loadS (qs v) rows) seats s
    obtain ⟨hs, rfl⟩ := List.getElem?_eq_some_iff.1 hr
    have e1 : ∀ (T : St), T.length = rows.length → wt T s = (rowsS T).getD s [] := fun T hT => by
      rw [List.getD_eq_getElem?_getD, List.getElem?_eq_getElem (by rw [rowsS_len]; omega), rowsS_get (by omega)]; rfl
    rw [e1 _ (by rw [offO_len]; omega)] at h1
    rw [h1, e1 _ (by omega), rows_load hl.2, List.getD_eq_getElem?_getD, List.getElem?_eq_getElem hs]; rfl
end Go.Pm
namespace Go.Proofs.YtdmaephmkfmehaaGreatDoor
open Go.RowKit Go.Gr Go.Hp Go.Ad Go.Wl Go.Pm
set_option linter.unusedVariables false
set_option linter.unusedSimpArgs false
attribute [local go_sem] rdOp rdAt rdUpon Cls forall_fr
theorem house_at5 {w : World} {g : Nat} {e : TypeId} {v : Vn} {A : Option Addr} {c : Nat} {B : Option Addr} {m d : Nat} {now : Int} (h : Blk w g e (hoX v A c B m d now)) : At5 w g 0 (vnC v A c) :=
  h.at5m 0 (fun j u hu => by
    rw [Nat.zero_add, show hoX v A c B m d now = vnC v A c ++ [.slice B m d, .int .i64 now] from rfl, List.getElem?_append_left (List.getElem?_eq_some_iff.1 hu).1]
    exact hu)
/-- what lies there in just -/
abbrev JuL (g3 g4 : Nat) (v : Vn) (A : Option Addr) (c : Nat) (B : Option Addr) (m d : Nat) (now : Int) (cs : List Value) : List As := [As.blk g4 34 cs, As.blk g3 27 (hoX v A c B m d now)]

set_option maxRecDepth 100000 in
set_option maxHeartbeats 8000000 in
theorem just_any (v : Vn) (A : Option Addr) (c : Nat) (rows : List (List Int)) (B : Option Addr) (vs : List Value) (d : Nat) (now dl : Int) (seats : List Int) (C : Option Addr) (cs : Nat) (en : List Ho) (R : Rs) (r : Value) (w : World) (hH : HouseIs w v A c rows B vs d now) (hr : IsRes true w r ⟨en, R.gr, rowsS R.S, R.fr⟩) (hf : (⟨en, R.gr, rowsS R.S, R.fr⟩ : An).few) (hJ : JustP v dl rows seats R) (hC : Rd w C (i64s seats)) (hcs : seats.length ≤ cs) (hl : seats.length ≤ 9000) (h10 : rows.length ≤ 10) (h80 : ∀ q ∈ rows, q.length ≤ 80) :
    Calls Tryz.prog 13 #[.agg #[.int .i64 v.sh, .int .i64 v.ttl, .int .i64 v.ses, .slice A v.secs.length c, .slice B rows.length d, .int .i64 now], r, .slice C seats.length cs] w fun e w' => e = .returned (.bool true) ∧ Ext w w' := by
  have HSEC := hide (fun (x : Int) (hx : plE v x = 0) (y : World) (k : Ext w y) => section_any v A c x y (hH.ext k).secs hH.cap hH.vw hx)
  have HSE := hide (fun (y : World) (k : Ext w y) => hC.ext k)
  have HRW := hide (fun (y : World) (k : Ext w y) => (hH.ext k).rws)
  have hd := hH.rcap
  have HJ := hide hJ
  have HF := hide hf
  have H80 := hide h80
  have hr0 := hr
  obtain ⟨E, G, B', Fr', ce, cg, cb, cf, vs', rfl, h2, h3, h4, h5, h6, h7, h8, h9⟩ := hr
  have h4' := h4 rfl
  have HG := hide (fun (y : World) (k : Ext w y) => h7.ext k)
  have HB := hide (fun (y : World) (k : Ext w y) => asRows_x h8 k)
  have HFR := hide (fun (y : World) (k : Ext w y) => h9.ext k)
  have hlen := hJ.len
  have hsum := hJ.sum
  dsimp only at h3 h4' h5 hr0 ⊢
  obtain ⟨gn, hgn⟩ : ∃ q, R.gr.length = q := ⟨_, rfl⟩
  obtain ⟨fn, hfn⟩ : ∃ q, R.fr.length = q := ⟨_, rfl⟩
  have HGN := hide hgn
  have HFN := hide hfn
  rw [hlen] at h4' hr0 ⊢
  rw [hgn] at h3 hsum hr0 ⊢
  rw [hfn] at h5 hsum hr0 ⊢
  generalize en.length = n1 at *
  have HRR := hide (fun (y : World) (k : Ext w y) => hr0.ext k)
  have hgl : gn ≤ 9000 := by omega
  have hfl : fn ≤ 9000 := by omega
  have hsi : (gn : Int) + (fn : Int) = (seats.length : Int) := by omega
  have hwr : IntKind.i64.wrap ((gn : Int) + (fn : Int)) = (seats.length : Int) := by rw [IntWalk.i64_in _ (by omega), hsi]
  have e1 : ((rows.length : Int) != (rows.length : Int)) = false := bne_self_eq_false _
  have e2 : ((seats.length : Int) != (seats.length : Int)) = false := bne_self_eq_false _
  have hl2 : (seats.length : Int) ≤ 9000 := by omega
  clear hH hr0 hf hJ hC h2 h4 h6 h7 h8 h9 hlen hgn hfn h80 hsi
  have K0 := (Sep.refl No w).add2 27 34 (hoX v A c B rows.length d now) (rsC E G B' Fr' n1 gn rows.length fn ce cg cb cf)
  go_enter Tryz.func13, Tryz.ntmps13
  go_upto_region 1 with fail
  generalize World.alloc _ _ = w1 at K0 ⊢
  obtain ⟨g3, G3⟩ : ∃ g, w.heap.size = g := ⟨_, rfl⟩
  rw [G3] at K0 ⊢
  obtain ⟨g4, G4⟩ : ∃ g, g3 + 1 = g := ⟨_, rfl⟩
  rw [G4] at K0 ⊢
  clear G3 G4
  have K1 : Hid (Sep No w w1 (JuL g3 g4 v A c B rows.length d now (rsC E G B' Fr' n1 gn rows.length fn ce cg cb cf))) := hide K0
  clear K0
  obtain ⟨c0, c1, c2, c3, cz⟩ := blk4 (K1.out.blk (g := g4) (e := 34) (List.Mem.head _))
  obtain ⟨d0, d1, d2, d3, d4, d5, dz⟩ := q6 (K1.out.blk (g := g3) (e := 27) (List.Mem.tail _ (List.Mem.head _)))
  go_wp2_with fail
  clear c0 c1 c2 c3 cz d0 d1 d2 d3 d4 d5 dz hwr e1 e2
  go_loopw [7, 8, 9] (fun v7 v8 v9 wr => ∃ (i g f : Nat), v9 = .int .i64 i ∧ v7 = .int .i64 g ∧ v8 = .int .i64 f ∧ i ≤ seats.length ∧ g + f ≤ 9000 ∧ Hid ((offO v dl (loadS (qs v) rows) (seats.take i)).gr.length = g ∧ (offO v dl (loadS (qs v) rows) (seats.take i)).fr.length = f) ∧ Hid (Sep No w wr (JuL g3 g4 v A c B rows.length d now (rsC E G B' Fr' n1 gn rows.length fn ce cg cb cf)))) (fun v7 v8 v9 _ => seats.length - (intOf v9).toNat)
  case atStart => exact ⟨0, 0, 0, rfl, rfl, rfl, Nat.zero_le _, by decide, hide ⟨rfl, rfl⟩, K1⟩
  case round =>
    clear K1
    obtain ⟨i, g, f, rfl, rfl, rfl, hil, hgf, HK, K2⟩ := hrel
    by_cases hlt : i < seats.length
    · have hli : (i : Int) < (seats.length : Int) := by omega
      have hic : (i : Int) < (cs : Int) := by omega
      obtain ⟨x, hx⟩ : ∃ x, seats[i] = x := ⟨_, rfl⟩
      have HX0 := hide (fun (y : World) (k : Ext w y) => i64s_at (HSE.out y k) hlt)
      rw [hx] at HX0
      obtain ⟨ad, rfl, -⟩ := HX0.out w (Ext.refl w)
      have HX : Hid (∀ y, Ext w y → y.cell? (ad.add i) = some (.int .i64 x)) := hide (fun y k => by
        obtain ⟨_, e1, h1⟩ := HX0.out y k
        cases e1
        exact h1)
      have hxs : seats[i]? = some x := by rw [List.getElem?_eq_getElem hlt, hx]
      have hxp := HJ.out.sec x (List.mem_of_getElem? hxs)
      have HAT := hide (HJ.out.at_ i x hxs)
      have HSC := hide (HSEC.out x hxp.1)
      obtain ⟨s, hs⟩ : ∃ s : Nat, secOf v x = s := ⟨(secOf v x).toNat, by have := hxp.2.1; omega⟩
      have hsl := hxp.2.2
      rw [hs] at HSC HAT hsl
      rw [HK.out.1, HK.out.2] at HAT
      have hs10 : (s : Int) ≤ 10 := by omega
      have HLT := hide hlt
      clear hx HX0 hxs hxp hs hlt
      go_upto_region 7 with fail
      refine wp_region_wm [0, 1, 2, 3, 4, 5, 6, 7] (by kernel_rfl) (by kernel_rfl) (by kernel_rfl) (by kernel_rfl) ?_
      have KD := K2.out.drew
      clear K2
      generalize World.drew _ = wd at *
      have hbv := house_at5 (KD.blk (g := g3) (e := 27) (List.Mem.tail _ (List.Mem.head _)))
      have x0 := HX.out _ KD.toExt
      iterate 1 (refine wm_rd rfl rfl (fun K hK => ?_); go_simp; refine hK _ ?_; clear hK K)
      refine wm_ldX rfl rfl 24 (.tmp 37) rfl hbv rfl _ Tryz.underlying24 rfl (by kernel_rfl) ?_
      iterate 3 (refine wm_rd rfl rfl (fun K hK => ?_); go_simp; refine hK _ ?_; clear hK K)
      refine wm_ld1 rfl rfl 3 (.tmp 41) rfl rfl x0 _ Tryz.underlying3 rfl ?_
      refine wm_ext rfl rfl (fun K hK => ?_)
      go_simp
      go_at_call 27
      (with_reducible refine (HSC.out _ KD.toExt).mono ?_)
      rintro e w2 ⟨rfl, hx⟩
      refine hK _ _ hx ?_
      clear hK K hbv x0
      have K3 : Hid (Sep No w w2 (JuL g3 g4 v A c B rows.length d now (rsC E G B' Fr' n1 gn rows.length fn ce cg cb cf))) := hide (KD.ext hx)
      clear hx KD HSC
      iterate 1 (refine wm_rd rfl rfl (fun K hK => ?_); go_simp; refine hK _ ?_; clear hK K)
      refine wm_nil ?_
      rcases HAT.out with ⟨o, h1, h2, h3'⟩ | ⟨h1, h2, h3', h4'', h5''⟩
      · -- granted
        have HZ := hide h1
        have HK2 : Hid ((offO v dl (loadS (qs v) rows) (seats.take (i + 1))).gr.length = g + 1 ∧ (offO v dl (loadS (qs v) rows) (seats.take (i + 1))).fr.length = f) := hide ⟨h2, h3'⟩
        have hgl2 : g < gn := by rw [← HGN.out]; exact (List.getElem?_eq_some_iff.1 h1).1
        have i1 : (g : Int) < (gn : Int) := by omega
        have i2 : (g : Int) < (cg : Int) := by omega
        have hle : g + 1 + f ≤ 9000 := by
          have := offO_many v dl (loadS (qs v) rows) (seats.take (i + 1))
          rw [HK2.out.1, HK2.out.2, List.length_take] at this
          omega
        have HLE := hide hle
        clear h1 h2 h3' hgl2 HAT hle
        go_upto_region 8 with fail
        refine wp_region_wm [0, 1, 2, 3, 4, 5, 6, 7, 8, 9, 10, 11, 12, 13, 14, 15, 16, 17] (by kernel_rfl) (by kernel_rfl) (by kernel_rfl) (by kernel_rfl) ?_
        have K4 : Hid (Sep No w w2.drew (JuL g3 g4 v A c B rows.length d now (rsC E G B' Fr' n1 gn rows.length fn ce cg cb cf))) := hide K3.out.drew
        clear K3
        generalize World.drew _ = wd2 at *
        obtain ⟨b, off, hA, hax⟩ := gt_at (HG.out _ K4.out.toExt) HZ.out
        subst hA
        unfold gtC at hax
        dsimp only at hax
        have y0 : wd2.cell? ⟨b, off + g * 4, none⟩ = some (.int .i64 x) := hax 0 _ rfl
        have y1 := hax 1 _ rfl
        have yz := cell_lt y0
        have x0 := HX.out _ K4.out.toExt
        obtain ⟨c0, c1, c2, c3, cz⟩ := blk4 (K4.out.blk (g := g4) (e := 34) (List.Mem.head _))
        have ex : (x == x) = true := beq_self_eq_true _
        have es : ((s : Int) != (s : Int)) = false := bne_self_eq_false _
        have es0 : ¬ (s : Int) < 0 := by omega
        iterate 2 (refine wm_rd rfl rfl (fun K hK => ?_); go_simp; refine hK _ ?_; clear hK K)
        refine wm_ld1 rfl rfl 31 (.tmp 45) rfl rfl c1 _ Tryz.underlying31 rfl ?_
        iterate 4 (refine wm_rd rfl rfl (fun K hK => ?_); go_simp; refine hK _ ?_; clear hK K)
        refine wm_ld1 rfl rfl 31 (.tmp 50) rfl rfl c1 _ Tryz.underlying31 rfl ?_
        iterate 3 (refine wm_rd rfl rfl (fun K hK => ?_); go_simp; refine hK _ ?_; clear hK K)
        refine wm_ld1 rfl rfl 3 (.tmp 54) rfl rfl y0 _ Tryz.underlying3 rfl ?_
        iterate 3 (refine wm_rd rfl rfl (fun K hK => ?_); go_simp; refine hK _ ?_; clear hK K)
        refine wm_ld1 rfl rfl 3 (.tmp 58) rfl rfl x0 _ Tryz.underlying3 rfl ?_
        iterate 2 (refine wm_rd rfl rfl (fun K hK => ?_); go_simp; refine hK _ ?_; clear hK K)
        refine wm_nil ?_
        clear x0 y0 hax ex
        go_wp2_with fail
        clear c0 c1 c2 c3 cz y1 yz es
        try go_frame
        go_roundw
        case rel => exact ⟨i + 1, g + 1, f, by go_num, by go_num, rfl, HLT.out, HLE.out, HK2, K4⟩
        case measure => have := HLT.out; simp [intOf]; omega
      · -- free
        have HK2 : Hid ((offO v dl (loadS (qs v) rows) (seats.take (i + 1))).gr.length = g ∧ (offO v dl (loadS (qs v) rows) (seats.take (i + 1))).fr.length = f + 1) := hide ⟨h4'', h5''⟩
        have HNE := hide h1
        have hfl2 : f < fn := by rw [← HFN.out]; exact (List.getElem?_eq_some_iff.1 h2).1
        have HFL := hide hfl2
        have HFX : Hid (R.fr[f]'(by rw [HFN.out]; exact HFL.out) = x) := hide (by
          obtain ⟨q1, q2⟩ := List.getElem?_eq_some_iff.1 h2
          exact q2)
        have HRL : Hid (s < rows.length) := hide (by omega)
        have HLEN := hide HJ.out.len
        have HRW0 : Hid ((rowsS R.S)[s]'(by rw [HLEN.out]; exact HRL.out) = []) := hide (by
          rw [rowsS_get (by have := HLEN.out; rw [rowsS_len] at this; have := HRL.out; omega)]
          exact h3')
        have k1 : ¬ (fn : Int) ≤ (f : Int) := by omega
        have k1' : (f : Int) < (fn : Int) := by omega
        have k2 : (f : Int) < (cf : Int) := by omega
        have ex : (x != x) = false := bne_self_eq_false _
        have es0 : ¬ (s : Int) < 0 := by omega
        have ess : ¬ (rows.length : Int) ≤ (s : Int) := by omega
        have ess' : (s : Int) < (cb : Int) := by omega
        have hle : g + (f + 1) ≤ 9000 := by
          have := offO_many v dl (loadS (qs v) rows) (seats.take (i + 1))
          rw [HK2.out.1, HK2.out.2, List.length_take] at this
          omega
        have HLE := hide hle
        clear h1 h2 h3' h4'' h5'' hfl2 hle HAT
        by_cases hgl2 : g < gn
        · have i1 : (g : Int) < (gn : Int) := by omega
          have i2 : (g : Int) < (cg : Int) := by omega
          obtain ⟨z, hz⟩ := some_of (l := R.gr) (i := g) (by rw [HGN.out]; exact hgl2)
          have HZ := hide hz
          have ezx : (z.seat == x) = false := beq_eq_false_iff_ne.2 (HNE.out z hz)
          clear hz hgl2
          go_upto_region 8 with fail
          refine wp_region_wm [0, 1, 2, 3, 4, 5, 6, 7, 8, 9, 10, 11, 12, 13, 14, 15, 16, 17] (by kernel_rfl) (by kernel_rfl) (by kernel_rfl) (by kernel_rfl) ?_
          have K4 : Hid (Sep No w w2.drew (JuL g3 g4 v A c B rows.length d now (rsC E G B' Fr' n1 gn rows.length fn ce cg cb cf))) := hide K3.out.drew
          clear K3
          generalize World.drew _ = wx at *
          obtain ⟨b, off, hA, hax⟩ := gt_at (HG.out _ K4.out.toExt) HZ.out
          subst hA
          unfold gtC at hax
          have y0 : wx.cell? ⟨b, off + g * 4, none⟩ = some (.int .i64 z.seat) := hax 0 _ rfl
          have yz := cell_lt y0
          have x0 := HX.out _ K4.out.toExt
          obtain ⟨c0, c1, c2, c3, cz⟩ := blk4 (K4.out.blk (g := g4) (e := 34) (List.Mem.head _))
          iterate 2 (refine wm_rd rfl rfl (fun K hK => ?_); go_simp; refine hK _ ?_; clear hK K)
          refine wm_ld1 rfl rfl 31 (.tmp 45) rfl rfl c1 _ Tryz.underlying31 rfl ?_
          iterate 4 (refine wm_rd rfl rfl (fun K hK => ?_); go_simp; refine hK _ ?_; clear hK K)
          refine wm_ld1 rfl rfl 31 (.tmp 50) rfl rfl c1 _ Tryz.underlying31 rfl ?_
          iterate 3 (refine wm_rd rfl rfl (fun K hK => ?_); go_simp; refine hK _ ?_; clear hK K)
          refine wm_ld1 rfl rfl 3 (.tmp 54) rfl rfl y0 _ Tryz.underlying3 rfl ?_
          iterate 3 (refine wm_rd rfl rfl (fun K hK => ?_); go_simp; refine hK _ ?_; clear hK K)
          refine wm_ld1 rfl rfl 3 (.tmp 58) rfl rfl x0 _ Tryz.underlying3 rfl ?_
          iterate 2 (refine wm_rd rfl rfl (fun K hK => ?_); go_simp; refine hK _ ?_; clear hK K)
          refine wm_nil ?_
          clear x0 y0 yz hax ezx c0 c1 c2 c3 cz
          go_upto_region 12 with fail
          refine wp_region_wm [0, 1, 2, 3, 4, 5, 6, 7, 8, 9, 10, 11, 12, 13, 14, 15, 16, 17, 18, 19, 20, 21, 22, 23, 24, 25, 26, 27, 28, 29, 30, 31, 32, 33, 34, 35, 36] (by kernel_rfl) (by kernel_rfl) (by kernel_rfl) (by kernel_rfl) ?_
          have K5 := hide K4.out.drew
          clear K4
          generalize World.drew _ = wd3 at *
          obtain ⟨fd, hFa, y0⟩ := i64s_at (HFR.out _ K5.out.toExt) (k := f) (by rw [HFN.out]; exact HFL.out)
          subst hFa
          rw [HFX.out] at y0
          have x0 := HX.out _ K5.out.toExt
          obtain ⟨c0, c1, c2, c3, cz⟩ := blk4 (K5.out.blk (g := g4) (e := 34) (List.Mem.head _))
          obtain ⟨bd, Cr, cr, hBa, r0, -, -⟩ := rowsL_at (HB.out _ K5.out.toExt) (s := s) (by have := HRL.out; rw [HLEN.out]; exact this)
          subst hBa
          rw [HRW0.out] at r0
          iterate 2 (refine wm_rd rfl rfl (fun K hK => ?_); go_simp; refine hK _ ?_; clear hK K)
          refine wm_ld1 rfl rfl 32 (.tmp 77) rfl rfl c3 _ Tryz.underlying32 rfl ?_
          iterate 4 (refine wm_rd rfl rfl (fun K hK => ?_); go_simp; refine hK _ ?_; clear hK K)
          refine wm_ld1 rfl rfl 32 (.tmp 82) rfl rfl c3 _ Tryz.underlying32 rfl ?_
          iterate 2 (refine wm_rd rfl rfl (fun K hK => ?_); go_simp; refine hK _ ?_; clear hK K)
          refine wm_ld1 rfl rfl 3 (.tmp 85) rfl rfl y0 _ Tryz.underlying3 rfl ?_
          iterate 3 (refine wm_rd rfl rfl (fun K hK => ?_); go_simp; refine hK _ ?_; clear hK K)
          refine wm_ld1 rfl rfl 3 (.tmp 89) rfl rfl x0 _ Tryz.underlying3 rfl ?_
          iterate 9 (refine wm_rd rfl rfl (fun K hK => ?_); go_simp; refine hK _ ?_; clear hK K)
          refine wm_ld1 rfl rfl 25 (.tmp 99) rfl rfl c2 _ Tryz.underlying25 rfl ?_
          iterate 5 (refine wm_rd rfl rfl (fun K hK => ?_); go_simp; refine hK _ ?_; clear hK K)
          refine wm_ld1 rfl rfl 25 (.tmp 105) rfl rfl c2 _ Tryz.underlying25 rfl ?_
          iterate 2 (refine wm_rd rfl rfl (fun K hK => ?_); go_simp; refine hK _ ?_; clear hK K)
          refine wm_ld1 rfl rfl 47 (.tmp 108) rfl rfl r0 _ Tryz.underlying47 rfl ?_
          clear c0 c1 c2 c3 cz y0 x0 r0
          iterate 3 (refine wm_rd rfl rfl (fun K hK => ?_); go_simp; refine hK _ ?_; clear hK K)
          refine wm_nil ?_
          go_wp2_with fail
          clear ex es0 ess k1 k2
          try go_frame
          go_roundw
          case rel => exact ⟨i + 1, g, f + 1, by go_num, rfl, by go_num, HLT.out, HLE.out, HK2, K5⟩
          case measure => have := HLT.out; simp [intOf]; omega
        · have i1 : ¬ (g : Int) < (gn : Int) := by omega
          clear hgl2
          go_upto_region 8 with fail
          refine wp_region_wm [0, 1, 2, 3, 4, 5, 6, 7, 8, 9, 10, 11, 12, 13, 14, 15, 16, 17] (by kernel_rfl) (by kernel_rfl) (by kernel_rfl) (by kernel_rfl) ?_
          have K4 : Hid (Sep No w w2.drew (JuL g3 g4 v A c B rows.length d now (rsC E G B' Fr' n1 gn rows.length fn ce cg cb cf))) := hide K3.out.drew
          clear K3
          generalize World.drew _ = wx at *
          obtain ⟨c0, c1, c2, c3, cz⟩ := blk4 (K4.out.blk (g := g4) (e := 34) (List.Mem.head _))
          iterate 2 (refine wm_rd rfl rfl (fun K hK => ?_); go_simp; refine hK _ ?_; clear hK K)
          refine wm_ld1 rfl rfl 31 (.tmp 45) rfl rfl c1 _ Tryz.underlying31 rfl ?_
          iterate 15 (refine wm_rd rfl rfl (fun K hK => ?_); go_simp; refine hK _ ?_; clear hK K)
          refine wm_nil ?_
          clear c0 c1 c2 c3 cz
          go_upto_region 12 with fail
          refine wp_region_wm [0, 1, 2, 3, 4, 5, 6, 7, 8, 9, 10, 11, 12, 13, 14, 15, 16, 17, 18, 19, 20, 21, 22, 23, 24, 25, 26, 27, 28, 29, 30, 31, 32, 33, 34, 35, 36] (by kernel_rfl) (by kernel_rfl) (by kernel_rfl) (by kernel_rfl) ?_
          have K5 := hide K4.out.drew
          clear K4
          generalize World.drew _ = wd3 at *
          obtain ⟨fd, hFa, y0⟩ := i64s_at (HFR.out _ K5.out.toExt) (k := f) (by rw [HFN.out]; exact HFL.out)
          subst hFa
          rw [HFX.out] at y0
          have x0 := HX.out _ K5.out.toExt
          obtain ⟨c0, c1, c2, c3, cz⟩ := blk4 (K5.out.blk (g := g4) (e := 34) (List.Mem.head _))
          obtain ⟨bd, Cr, cr, hBa, r0, -, -⟩ := rowsL_at (HB.out _ K5.out.toExt) (s := s) (by have := HRL.out; rw [HLEN.out]; exact this)
          subst hBa
          rw [HRW0.out] at r0
          iterate 2 (refine wm_rd rfl rfl (fun K hK => ?_); go_simp; refine hK _ ?_; clear hK K)
          refine wm_ld1 rfl rfl 32 (.tmp 77) rfl rfl c3 _ Tryz.underlying32 rfl ?_
          iterate 4 (refine wm_rd rfl rfl (fun K hK => ?_); go_simp; refine hK _ ?_; clear hK K)
          refine wm_ld1 rfl rfl 32 (.tmp 82) rfl rfl c3 _ Tryz.underlying32 rfl ?_
          iterate 2 (refine wm_rd rfl rfl (fun K hK => ?_); go_simp; refine hK _ ?_; clear hK K)
          refine wm_ld1 rfl rfl 3 (.tmp 85) rfl rfl y0 _ Tryz.underlying3 rfl ?_
          iterate 3 (refine wm_rd rfl rfl (fun K hK => ?_); go_simp; refine hK _ ?_; clear hK K)
          refine wm_ld1 rfl rfl 3 (.tmp 89) rfl rfl x0 _ Tryz.underlying3 rfl ?_
          iterate 9 (refine wm_rd rfl rfl (fun K hK => ?_); go_simp; refine hK _ ?_; clear hK K)
          refine wm_ld1 rfl rfl 25 (.tmp 99) rfl rfl c2 _ Tryz.underlying25 rfl ?_
          iterate 5 (refine wm_rd rfl rfl (fun K hK => ?_); go_simp; refine hK _ ?_; clear hK K)
          refine wm_ld1 rfl rfl 25 (.tmp 105) rfl rfl c2 _ Tryz.underlying25 rfl ?_
          iterate 2 (refine wm_rd rfl rfl (fun K hK => ?_); go_simp; refine hK _ ?_; clear hK K)
          refine wm_ld1 rfl rfl 47 (.tmp 108) rfl rfl r0 _ Tryz.underlying47 rfl ?_
          clear c0 c1 c2 c3 cz y0 x0 r0
          iterate 3 (refine wm_rd rfl rfl (fun K hK => ?_); go_simp; refine hK _ ?_; clear hK K)
          refine wm_nil ?_
          go_wp2_with fail
          clear ex es0 ess k1 k2
          try go_frame
          go_roundw
          case rel => exact ⟨i + 1, g, f + 1, by go_num, rfl, by go_num, HLT.out, HLE.out, HK2, K5⟩
          case measure => have := HLT.out; simp [intOf]; omega
    · have hli : ¬ (i : Int) < (seats.length : Int) := by omega
      clear hlt
      go_wp2_with fail
      go_loopw [11] (fun v11 wr => ∃ j : Nat, v11 = .int .i64 j ∧ j ≤ rows.length ∧ Hid (Sep No w wr (JuL g3 g4 v A c B rows.length d now (rsC E G B' Fr' n1 gn rows.length fn ce cg cb cf)))) (fun v11 _ => rows.length - (intOf v11).toNat)
      case atStart => exact ⟨0, rfl, Nat.zero_le _, K2⟩
      case round =>
        clear K2
        obtain ⟨j, rfl, hjl, K3⟩ := hrel
        obtain ⟨d0, d1, d2, d3, d4, d5, dz⟩ := q6 (K3.out.blk (g := g3) (e := 27) (List.Mem.tail _ (List.Mem.head _)))
        by_cases hj : j < rows.length
        · have j1 : (j : Int) < (rows.length : Int) := by omega
          have j2 : (j : Int) < (d : Int) := by omega
          obtain ⟨q, hq⟩ : ∃ q, rows[j] = q := ⟨_, rfl⟩
          have HQ : Hid (rows[j]? = some q) := hide (by rw [List.getElem?_eq_getElem hj, hq])
          have HJL := hide hj
          have hq80 := H80.out q (List.mem_of_getElem? HQ.out)
          have hws := HJ.out.ws j q HQ.out
          go_upto_region 18 with fail
          refine wp_region_wm [0, 1, 2, 3, 4, 5, 6, 7, 8] (by kernel_rfl) (by kernel_rfl) (by kernel_rfl) (by kernel_rfl) ?_
          have KD := K3.out.drew
          clear K3 d0 d1 d2 d3 d4 d5 dz
          generalize World.drew _ = wd at *
          obtain ⟨d0, d1, d2, d3, d4, d5, dz⟩ := q6 (KD.blk (g := g3) (e := 27) (List.Mem.tail _ (List.Mem.head _)))
          have hB4 := (KD.blk (g := g4) (e := 34) (List.Mem.head _)).at5
          obtain ⟨bd, Cq, cq, hBa, r0, hrq, hcq⟩ := rowsL_at (HRW.out _ KD.toExt) (s := j) hj
          subst hBa
          rw [hq] at r0 hrq hcq
          have HFI := hide (pfirst_any (a := ⟨en, R.gr, rowsS R.S, R.fr⟩) j q Cq cq wd (HRR.out _ KD.toExt) HF.out (by rw [HJ.out.len]; exact hj) hrq hcq (by omega) hws)
          clear hrq hcq hq hj hws hq80
          refine wm_ldX rfl rfl 34 (.tmp 4) rfl hB4 rfl _ Tryz.underlying34 rfl (by kernel_rfl) ?_
          iterate 2 (refine wm_rd rfl rfl (fun K hK => ?_); go_simp; refine hK _ ?_; clear hK K)
          refine wm_ld1 rfl rfl 25 (.tmp 124) rfl rfl d4 _ Tryz.underlying25 rfl ?_
          iterate 2 (refine wm_rd rfl rfl (fun K hK => ?_); go_simp; refine hK _ ?_; clear hK K)
          refine wm_ld1 rfl rfl 47 (.tmp 127) rfl rfl r0 _ Tryz.underlying47 rfl ?_
          refine wm_ext rfl rfl (fun K hK => ?_)
          go_simp
          go_at_call 28
          (with_reducible refine HFI.out.mono ?_)
          rintro e w2 ⟨rfl, hx⟩
          refine hK _ _ hx ?_
          clear hK K hB4 r0 d0 d1 d2 d3 d4 d5 dz
          have K4 := hide (KD.ext hx)
          clear hx KD HFI
          iterate 1 (refine wm_rd rfl rfl (fun K hK => ?_); go_simp; refine hK _ ?_; clear hK K)
          refine wm_nil ?_
          go_wp2_with fail
          try go_frame
          go_roundw
          case rel => exact ⟨j + 1, by go_num, HJL.out, K4⟩
          case measure => have := HJL.out; simp [intOf]; omega
        · have j1 : ¬ (j : Int) < (rows.length : Int) := by omega
          go_wp2_with fail
          go_ret
          exact ⟨rfl, K3.out.toExt⟩
end Go.Proofs.YtdmaephmkfmehaaGreatDoor
