/- Promote: the law PromoteTicks walked. -/
import Derived.Test.YtdmaephmkfmehaaGreatDoorP4
import Derived.Test.YtdmaephmkfmehaaGreatDoorP9a
namespace Go.Proofs.YtdmaephmkfmehaaGreatDoor
open Go.RowKit Go.Gr Go.Hp Go.Ad Go.Wl Go.Pm
set_option linter.unusedVariables false
set_option linter.unusedSimpArgs false
attribute [local go_sem] rdOp rdAt rdUpon Cls forall_fr
theorem isres_en {bb : Bool} {y : World} {E G B F : Option Addr} {ne ng nb nf ce cg cb cf : Nat} {a : An} (h : IsRes bb y (.agg (rsC E G B F ne ng nb nf ce cg cb cf).toArray) a) :
    a.en.length ≤ ce ∧ a.gr.length ≤ cg ∧ RdM y E 2 (hoV a.en) ∧ RdM y G 4 (gtV a.gr) := by
  obtain ⟨E', G', B', F', ce', cg', cb', cf', vs, h1, h2, h3, h4, h5, h6, h7, h8, h9⟩ := h
  have h10 : rsC E G B F ne ng nb nf ce cg cb cf = rsC E' G' B' F' a.en.length a.gr.length a.rows.length a.fr.length ce' cg' cb' cf' := by
    have := Value.agg.inj h1
    exact congrArg Array.toList this
  simp only [rsC, List.cons.injEq, Value.slice.injEq, and_true] at h10
  obtain ⟨⟨rfl, rfl, rfl⟩, ⟨rfl, rfl, rfl⟩, ⟨rfl, rfl, rfl⟩, ⟨rfl, rfl, rfl⟩⟩ := h10
  exact ⟨h2, h3, h6, h7⟩
/-- what lies there while ends are looked at -/
abbrev TiL (v7 : Value) (l : List Int) (g5 g2 : Nat) (cs5 : List Value) (a : An) (Fp : Nat → Prop) (h5 : List Value) : List As :=
  [As.own 3 v7 (i64s l), As.blk g5 34 cs5, As.res true (.agg cs5.toArray) a Fp, As.blk g2 27 h5]

set_option maxRecDepth 100000 in
set_option maxHeartbeats 4000000 in
theorem ticks_law (w : World) (_ : True) (v0 : Value) (h0 : ∃ cs, v0 = .agg cs ∧ Lvs Tryz.prog w [.int .i64, .int .i64, .int .i64, .slice 100, .slice 47, .int .i64] cs.toList) (v1 : Value) (h1 : LfOk Tryz.prog w (.slice 39) v1) : Calls Tryz.prog 3 #[v0, v1] w fun e w' => e = .returned (.bool true) ∧ Ext w w' := by
  obtain ⟨i0, ki, kz0, kz1, kz2⟩ := info_parts infoIq
  obtain ⟨v, A, c, rows, B, vs, d, now, rfl, hH⟩ := house_arg h0
  obtain ⟨C, held, cs, rfl, hC, hok, hls, hlm⟩ := held_arg h1
  clear h0 h1
  have HFAR := hide (fun (y : World) (k : Ext w y) => far_any v A c rows B vs d now y (hH.ext k).secs hH.cap hH.vw (hH.ext k).rws hH.rcap hH.many (fun r hr => (hH.row r hr).1))
  have HSOK := hide (fun (h : opE v rows now = 0) => loadS_ok (opE_zero h).2.1 (fun r hr => (hH.row r hr).2))
  have HFEW := hide (fun (hl : held.length ≤ 4000) (out : List Ho) (ho : endE v rows held now = 0 → IsDue now held out) => endA_few hl ho HSOK.out)
  have HOF := hide (fun (hm : rows.length ≤ 10) (hr : ∀ r ∈ rows, r.length ≤ 80) (hl : held.length ≤ 4000) (y : World) (k : Ext w y) => pends_any v A c rows B vs d held C cs now y (hH.ext k).secs hH.cap hH.vw (hH.ext k).rws (by omega) (fun r h => ⟨by have := hr r h; omega, (hH.row r h).2⟩) hH.now.2 (hC.ext k) hok hls hl)
  have HJU := hide (fun (h10 : rows.length ≤ 10) (h80 : ∀ r ∈ rows, r.length ≤ 80) (hl : held.length ≤ 4000) (hE : endE v rows held now = 0) (out : List Ho) (ho : IsDue now held out) (hf : (endA (endE v rows held now) v rows now out).few) (y : World) (k : Ext w y) (x : Value) (hr : IsRes true y x (endA (endE v rows held now) v rows now out)) (C' : Option Addr) (cs' : Nat) (hC' : Rd y C' (i64s (out.map Ho.s))) (hcs : (out.map Ho.s).length ≤ cs') => just_any v A c rows B vs d now (addT now v.ttl) (out.map Ho.s) C' cs' out (offO v (addT now v.ttl) (loadS (qs v) rows) (out.map Ho.s)) x y (hH.ext k) (endA_good hE ▸ hr) (endA_good hE ▸ hf) (just_ends hE ho) hC' hcs (by rw [List.length_map]; have := due_len ho; omega) h10 h80)
  have HTT := hide (fun (hE : endE v rows held now = 0) => (chk_zero (opE_zero (endE_zero hE).1).1).1.ttl)
  have HN0 := hide (fun (hE : endE v rows held now = 0) => (opE_zero (endE_zero hE).1).2.2)
  have HNM := hide hH.now.2
  have HSE := hide (fun (y : World) (k : Ext w y) => hC.ext k)
  have hrc := hH.rcap
  have hrm := hH.many
  clear hC hok HSOK hH
  have K0 := (Sep.refl No w).add 27 (hoX v A c B rows.length d now)
  go_enter Tryz.func3, Tryz.ntmps3
  go_upto_region 1 with fail
  generalize w.alloc _ = w1 at K0 ⊢
  obtain ⟨g2, G2⟩ : ∃ g, w.heap.size = g := ⟨_, rfl⟩
  rw [G2] at K0 ⊢
  clear G2
  have K1 := hide K0
  clear K0
  obtain ⟨c0, c1, c2, c3, c4, c5, cz⟩ := q6 (K1.out.blk (g := g2) (e := 27) (List.Mem.head _))
  go_wp2_with fail
  (with_reducible refine (HFAR.out _ K1.out.toExt).mono ?_)
  rintro e w2 ⟨b, rfl, hb, hx⟩
  have K2 := hide (K1.out.ext hx)
  clear K1 hx HFAR c0 c1 c2 c3 c4 c5 cz
  cases b
  rotate_left
  · go_wp2_with fail
    (with_reducible refine (pawake_any _).mono ?_)
    rintro e w3 ⟨rfl, hx⟩
    go_wp2_with fail
    go_ret
    exact ⟨rfl, K2.out.toExt.trans hx⟩
  obtain ⟨hr10, hr80⟩ := hb rfl
  clear hb
  by_cases hl : 100 < held.length
  · have e1 : (100 : Int) < (held.length : Int) := by omega
    clear hl
    go_wp2_with fail
    (with_reducible refine (pawake_any _).mono ?_)
    rintro e w3 ⟨rfl, hx⟩
    go_wp2_with fail
    go_ret
    exact ⟨rfl, K2.out.toExt.trans hx⟩
  have e1 : ¬ (100 : Int) < (held.length : Int) := by omega
  have HF := hide (HFEW.out (by omega))
  have HO := hide (HOF.out hr10 hr80 (by omega))
  have HJ := hide (HJU.out hr10 hr80 (by omega))
  have hl9 : held.length ≤ 100 := by omega
  clear HFEW HOF HJU hl hr80
  obtain ⟨c0, c1, c2, c3, c4, c5, cz⟩ := q6 (K2.out.blk (g := g2) (e := 27) (List.Mem.head _))
  go_wp2_with fail
  (with_reducible refine (HO.out _ K2.out.toExt).mono ?_)
  rintro e w3 ⟨out, ho1, x, Fp, rfl, hS⟩
  have HF2 := hide (HF.out out ho1)
  have HO1 := hide ho1
  clear HF ho1
  obtain ⟨E, hE⟩ : ∃ q, endE v rows held now = q := ⟨_, rfl⟩
  have HE := hide hE
  rw [hE] at hS HF2 ⊢
  obtain ⟨a, ha⟩ : ∃ q, endA E v rows now out = q := ⟨_, rfl⟩
  have HA := hide ha
  rw [ha] at hS HF2
  clear hE ha
  obtain ⟨E1, G1, B1, F1, ce1, cg1, cb1, cf1, vs1, rfl, -⟩ := res_get (hS.get (List.Mem.head _))
  have K3 := K2.out.joinW hS
  dsimp only [List.cons_append, List.nil_append] at K3
  clear hS K2 HO c0 c1 c2 c3 c4 c5 cz
  have tok1 : True := trivial
  have tok2 : True := trivial
  go_upto_region 4 with (first
    | (have zz := tok1; clear zz tok1; refine wpList_alS K3 rfl 34 rfl (rsC none none none none 0 0 0 0 0 0 0 0) (by kernel_rfl) ?_; intro w4 hz4 K4; clear hz4 K3)
    | (have zz := tok2; clear zz tok2; refine wpList_stS [] K4 rfl 34 (.tmp 5) (.tmp 31) rfl rfl (cs := rsC E1 G1 B1 F1 a.en.length a.gr.length a.rows.length a.fr.length ce1 cg1 cb1 cf1) rfl (by kernel_rfl) rfl (rsC_one rfl rfl rfl rfl) ?_; intro w5 K5; dsimp only [List.nil_append] at K5; clear K4))
  obtain ⟨g5, G5⟩ : ∃ g, w3.heap.size = g := ⟨_, rfl⟩
  rw [G5] at K5 ⊢
  clear G5
  by_cases hE : E = 0
  rotate_left
  · have eE : (E != 0) = true := bne_iff_ne.2 hE
    have K6 := hide K5
    clear K5 HE HA HF2 HO1 HJ HTT HN0 HNM HSE
    go_wp2_with fail
    (with_reducible refine (pawake_any _).mono ?_)
    rintro e w10 ⟨rfl, hx⟩
    go_wp2_with fail
    go_ret
    exact ⟨rfl, K6.out.toExt.trans hx⟩
  have h0 := HE.out.trans hE
  have HDU := hide (HO1.out h0)
  have HJ2 := hide (HJ.out h0 out HDU.out)
  have HT := hide (HTT.out h0)
  have HN := hide (HN0.out h0)
  have HA2 : Hid (endA (endE v rows held now) v rows now out = a) := hide (by rw [HE.out]; exact HA.out)
  have HA3 := hide (HA2.out.symm.trans (endA_good h0))
  clear HJ HTT HN0 HO1 HE HA h0
  subst hE
  have eE : ((0 : Int) != 0) = false := rfl
  obtain ⟨R, hR⟩ : ∃ q, offO v (addT now v.ttl) (loadS (qs v) rows) (out.map Ho.s) = q := ⟨_, rfl⟩
  have HDL := hide (hR ▸ off_dl v (addT now v.ttl) (loadS (qs v) rows) (out.map Ho.s))
  have ha := HA3.out
  rw [hR] at ha
  rw [HA2.out] at HJ2
  clear HA2 HA3 hR
  subst ha
  dsimp only at K5 HJ2 HF2 ⊢
  have HJ3 := hide (HJ2.out HF2.out)
  have hol : out.length ≤ 100 := by have := due_len HDU.out; omega
  have hgl : R.gr.length ≤ 100000 := HF2.out.gr
  clear HJ2
  have K6 : Hid (Sep No w w5 (TiL (.slice none 0 0) ((out.map Ho.s).take 0) g5 g2 (rsC E1 G1 B1 F1 out.length R.gr.length (rowsS R.S).length R.fr.length ce1 cg1 cb1 cf1) ⟨out, R.gr, rowsS R.S, R.fr⟩ Fp (hoX v A c B rows.length d now))) := hide (K5.nilO 3)
  clear K5
  go_wp2_with fail
  go_loopw [7, 8] (fun v7 v8 wr => ∃ i : Nat, v8 = .int .i64 i ∧ i ≤ out.length ∧ Hid (Sep No w wr (TiL v7 ((out.map Ho.s).take i) g5 g2 (rsC E1 G1 B1 F1 out.length R.gr.length (rowsS R.S).length R.fr.length ce1 cg1 cb1 cf1) ⟨out, R.gr, rowsS R.S, R.fr⟩ Fp (hoX v A c B rows.length d now)))) (fun v7 v8 _ => out.length - (intOf v8).toNat)
  case atStart => exact ⟨0, rfl, Nat.zero_le _, K6⟩
  case round =>
    clear K6
    obtain ⟨i, rfl, hil, K7⟩ := hrel
    obtain ⟨c0, c1, c2, c3, cz⟩ := blk4 (K7.out.blk (g := g5) (e := 34) (List.Mem.tail _ (List.Mem.head _)))
    have hre := isres_en (res_get (K7.out.get (List.Mem.tail _ (List.Mem.tail _ (List.Mem.head _)))))
    by_cases hlt : i < out.length
    · have hli : (i : Int) < (out.length : Int) := by omega
      have hic : (i : Int) < (ce1 : Int) := by have := hre.1; dsimp only at this; omega
      obtain ⟨x, hx⟩ := some_of hlt
      obtain ⟨b, off, hA, hat⟩ := ho_at hre.2.2.1 hx
      subst hA
      have HST := hide (seats_take hx)
      have HQ : Hid ((i64s ((out.map Ho.s).take i)).length < 1000000000) := hide (by rw [i64s_len, List.length_take]; omega)
      have HX := hide hx
      have HLT := hide hlt
      clear hlt hx hre
      have K7' := K7.out
      clear K7
      have tok2 : True := trivial
      have tok3 : True := trivial
      have tok4 : True := trivial
      go_upto_region 11 with (first
        | (have zz := tok2; clear zz tok2; refine wpList_ldX rfl 39 (.tmp 46) rfl hat rfl _ Tryz.underlying39 rfl (by kernel_rfl) ?_)
        | (have zz := tok3; clear zz tok3; refine wpList_alS K7' rfl 39 rfl [.int .i64 0, .int .i64 0] (by kernel_rfl) ?_; intro w5 hz5 K8; clear hz5 K7')
        | (have zz := tok4; clear zz tok4; refine wpList_stS [] K8 rfl 39 (.tmp 9) (.tmp 47) rfl rfl (cs := hoC x) rfl (by kernel_rfl) rfl (ho_one x.s x.d) ?_; intro w6 K9; dsimp only [List.nil_append] at K9; clear K8))
      obtain ⟨g9, G9⟩ : ∃ g, wr.heap.size = g := ⟨_, rfl⟩
      rw [G9] at K9 ⊢
      clear G9 hat c0 c1 c2 c3 cz
      have KX := hide K9
      clear K9
      try go_frame
      go_cut [92] (fun v92 wx => v92 = .bool false ∧ Hid (Sep No w wx (As.blk g9 39 (hoC x) :: TiL u7 ((out.map Ho.s).take i) g5 g2 (rsC (some ⟨b, off, none⟩) G1 B1 F1 out.length R.gr.length (rowsS R.S).length R.fr.length ce1 cg1 cb1 cf1) ⟨out, R.gr, rowsS R.S, R.fr⟩ Fp (hoX v A c B rows.length d now))))
      case first =>
        refine wp_region_wm [0, 1, 2, 3, 4, 5, 6, 7, 8, 9, 10, 11, 12, 13, 14, 15, 16, 17, 18, 19, 20, 21, 22, 23, 24, 25, 26, 27, 28, 29, 30, 31, 32, 33, 34, 35, 36, 37, 38, 39, 40, 41, 42, 43, 44] (by kernel_rfl) (by kernel_rfl) (by kernel_rfl) (by kernel_rfl) ?_
        have KD := hide KX.out.drew
        clear KX
        generalize World.drew _ = wd at *
        obtain ⟨c0, c1, c2, c3, cz⟩ := blk4 (KD.out.blk (g := g5) (e := 34) (List.Mem.tail _ (List.Mem.tail _ (List.Mem.head _))))
        obtain ⟨d0, d1, d2, d3, d4, d5, dz⟩ := q6 (KD.out.blk (g := g2) (e := 27) (List.Mem.tail _ (List.Mem.tail _ (List.Mem.tail _ (List.Mem.tail _ (List.Mem.head _))))))
        obtain ⟨b0, b1, bz⟩ := q2 (KD.out.blk (g := g9) (e := 39) (cs := hoC x) (List.Mem.head _))
        have hxn : ¬ now < x.d := by have := (isDue_mem HDU.out x).1 (List.mem_of_getElem? HX.out); omega
        iterate 1 (refine wm_rd rfl rfl (fun K hK => ?_); go_simp; refine hK _ ?_; clear hK K)
        refine wm_ld1 rfl rfl 2 (.tmp 48) rfl rfl b1 _ Tryz.underlying2 rfl ?_
        iterate 1 (refine wm_rd rfl rfl (fun K hK => ?_); go_simp; refine hK _ ?_; clear hK K)
        refine wm_ld1 rfl rfl 2 (.tmp 50) rfl rfl d5 _ Tryz.underlying2 rfl ?_
        rcases i with _ | j
        · have z0 : ¬ ((0 : Nat) : Int) > 0 := by decide
          iterate 41 (refine wm_rd rfl rfl (fun K hK => ?_); go_simp; refine hK _ ?_; clear hK K)
          refine wm_nil ?_
          go_wp2_with fail
          go_meet
          case rel => exact ⟨rfl, KD⟩
        · obtain ⟨y, hy⟩ := some_of (l := out) (i := j) (by have := HLT.out; omega)
          have hlt2 := due_next HDU.out hy HX.out
          have hre := isres_en (res_get (KD.out.get (List.Mem.tail _ (List.Mem.tail _ (List.Mem.tail _ (List.Mem.head _))))))
          obtain ⟨_, _, hA, hay⟩ := ho_at hre.2.2.1 hy
          cases hA
          have y0 : wd.cell? ⟨b, off + j * 2, none⟩ = some (.int .i64 y.s) := hay 0 _ rfl
          have y1 : wd.cell? ⟨b, off + j * 2 + 1, none⟩ = some (.int .i64 y.d) := hay 1 _ rfl
          have yz := cell_lt y0
          clear hay hre
          have hj0 : (0 : Int) < ((j + 1 : Nat) : Int) := by omega
          have hj0' : (0 : Int) < (j : Int) + 1 := by omega
          have hjw : IntKind.i64.wrap (((j + 1 : Nat) : Int) - 1) = (j : Int) := by rw [IntWalk.i64_in _ (by have := HLT.out; omega)]; omega
          have hjw2 : IntKind.i64.wrap ((j : Int) + 1 - 1) = (j : Int) := by rw [IntWalk.i64_in _ (by have := HLT.out; omega)]; omega
          have hjw3 : IntKind.i64.wrap (j : Int) = (j : Int) := IntWalk.i64_in _ (by have := HLT.out; omega)
          have hjl : (j : Int) < (out.length : Int) := by omega
          have hjc : (j : Int) < (ce1 : Int) := by omega
          have hxd : ¬ x.d < y.d := by unfold hoLt at hlt2; omega
          iterate 6 (refine wm_rd rfl rfl (fun K hK => ?_); go_simp; refine hK _ ?_; clear hK K)
          refine wm_ld1 rfl rfl 2 (.tmp 57) rfl rfl b1 _ Tryz.underlying2 rfl ?_
          iterate 1 (refine wm_rd rfl rfl (fun K hK => ?_); go_simp; refine hK _ ?_; clear hK K)
          refine wm_ld1 rfl rfl 28 (.tmp 59) rfl rfl c0 _ Tryz.underlying28 rfl ?_
          iterate 4 (refine wm_rd rfl rfl (fun K hK => ?_); go_simp; refine hK _ ?_; clear hK K)
          refine wm_ld1 rfl rfl 2 (.tmp 64) rfl rfl y1 _ Tryz.underlying2 rfl ?_
          iterate 3 (refine wm_rd rfl rfl (fun K hK => ?_); go_simp; refine hK _ ?_; clear hK K)
          refine wm_ld1 rfl rfl 2 (.tmp 68) rfl rfl b1 _ Tryz.underlying2 rfl ?_
          iterate 1 (refine wm_rd rfl rfl (fun K hK => ?_); go_simp; refine hK _ ?_; clear hK K)
          refine wm_ld1 rfl rfl 28 (.tmp 70) rfl rfl c0 _ Tryz.underlying28 rfl ?_
          iterate 4 (refine wm_rd rfl rfl (fun K hK => ?_); go_simp; refine hK _ ?_; clear hK K)
          refine wm_ld1 rfl rfl 2 (.tmp 75) rfl rfl y1 _ Tryz.underlying2 rfl ?_
          by_cases hde : x.d = y.d
          · have hdb : (x.d == y.d) = true := beq_iff_eq.2 hde
            have hss : ¬ x.s ≤ y.s := by unfold hoLt at hlt2; omega
            iterate 3 (refine wm_rd rfl rfl (fun K hK => ?_); go_simp; refine hK _ ?_; clear hK K)
            refine wm_ld1 rfl rfl 3 (.tmp 79) rfl rfl b0 _ Tryz.underlying3 rfl ?_
            iterate 1 (refine wm_rd rfl rfl (fun K hK => ?_); go_simp; refine hK _ ?_; clear hK K)
            refine wm_ld1 rfl rfl 28 (.tmp 81) rfl rfl c0 _ Tryz.underlying28 rfl ?_
            iterate 4 (refine wm_rd rfl rfl (fun K hK => ?_); go_simp; refine hK _ ?_; clear hK K)
            refine wm_ld1 rfl rfl 3 (.tmp 86) rfl rfl y0 _ Tryz.underlying3 rfl ?_
            iterate 5 (refine wm_rd rfl rfl (fun K hK => ?_); go_simp; refine hK _ ?_; clear hK K)
            refine wm_nil ?_
            go_wp2_with fail
            go_meet
            case rel => exact ⟨rfl, KD⟩
          · have hdb : (x.d == y.d) = false := beq_eq_false_iff_ne.2 hde
            iterate 16 (refine wm_rd rfl rfl (fun K hK => ?_); go_simp; refine hK _ ?_; clear hK K)
            refine wm_nil ?_
            go_wp2_with fail
            go_meet
            case rel => exact ⟨rfl, KD⟩
      case rest =>
        obtain ⟨rfl, K9⟩ := hcut
        clear KX
        obtain ⟨b0, b1, bz⟩ := q2 (K9.out.blk (g := g9) (e := 39) (cs := hoC x) (List.Mem.head _))
        have K9' := K9.out
        clear K9
        have tok5 : True := trivial
        go_wp2_with (have zz := tok5; clear zz tok5; refine wpList_pushS [_] K9' rfl (.tmp 93) (.tmp 96) 32 rfl i0 _ 8 Tryz.underlying32 ki kz0 kz1 kz2 rfl rfl rfl (by rfl) HQ.out (by decide) ?_; intro v7' w7 K10; dsimp only [List.nil_append, List.cons_append] at K10; clear K9' b0 b1 bz)
        rw [HST.out] at K10
        have K11 := hide K10.tail
        clear K10
        try go_frame
        go_roundw
        case rel => exact ⟨i + 1, by go_num, HLT.out, K11⟩
        case measure => have := HLT.out; simp [intOf]; omega
    · have hli : ¬ (i : Int) < (out.length : Int) := by omega
      obtain rfl : i = out.length := by omega
      have ht : (out.map Ho.s).take out.length = out.map Ho.s := List.take_of_length_le (by rw [List.length_map]; exact Nat.le_refl _)
      rw [ht] at K7
      clear hlt ht hre
      obtain ⟨As9, cs9, hv7, -, hcs9, -⟩ := (K7.out.owns (e := 3) (v := u7) (xs := i64s (out.map Ho.s)) (List.Mem.head _)).form
      subst hv7
      have hsl : (i64s (out.map Ho.s)).length = out.length := by rw [i64s_len, List.length_map]
      rw [hsl] at K7 hcs9 ⊢
      go_wp2_with fail
      clear c0 c1 c2 c3 cz hsl hli hil
      go_loopw [10, 11] (fun v10 v11 wr => ∃ (j m : Nat), v11 = .int .i64 j ∧ v10 = .int .i64 m ∧ ended now (held.take j) = m ∧ j ≤ held.length ∧ Hid (Sep No w wr (TiL (.slice As9 out.length cs9) (out.map Ho.s) g5 g2 (rsC E1 G1 B1 F1 out.length R.gr.length (rowsS R.S).length R.fr.length ce1 cg1 cb1 cf1) ⟨out, R.gr, rowsS R.S, R.fr⟩ Fp (hoX v A c B rows.length d now)))) (fun v10 v11 _ => held.length - (intOf v11).toNat)
      case atStart => exact ⟨0, 0, rfl, rfl, rfl, Nat.zero_le _, K7⟩
      case round =>
        clear K7
        obtain ⟨j, m, rfl, rfl, hm, hjl, K9⟩ := hrel
        have hml : m ≤ 100 := by have := ended_le now (held.take j); rw [hm, List.length_take] at this; omega
        by_cases hjt : j < held.length
        · have hji : (j : Int) < (held.length : Int) := by omega
          have hjc : (j : Int) < (cs : Int) := by omega
          have hj9 : j ≤ 100 := by omega
          obtain ⟨x, hx⟩ := some_of hjt
          obtain ⟨b, off, hA, -⟩ := ho_at (HSE.out w (Ext.refl w)) hx
          subst hA
          have HX := hide hx
          have HLT := hide hjt
          have hnx := ended_next (now := now) hx
          rw [hm] at hnx
          clear hx hjt hm
          by_cases hd : x.d ≤ now
          · rw [if_pos hd] at hnx
            have HM2 := hide hnx
            clear hnx
            go_upto_region 18 with fail
            refine wp_region_wm [0, 1, 2, 3, 4, 5, 6, 7] (by kernel_rfl) (by kernel_rfl) (by kernel_rfl) (by kernel_rfl) ?_
            have KD := hide K9.out.drew
            clear K9
            generalize World.drew _ = wd at *
            obtain ⟨_, _, hA, hay⟩ := ho_at (HSE.out _ KD.out.toExt) HX.out
            cases hA
            have y1 : wd.cell? ⟨b, off + j * 2 + 1, none⟩ = some (.int .i64 x.d) := hay 1 _ rfl
            obtain ⟨d0, d1, d2, d3, d4, d5, dz⟩ := q6 (KD.out.blk (g := g2) (e := 27) (List.Mem.tail _ (List.Mem.tail _ (List.Mem.tail _ (List.Mem.head _)))))
            clear hay
            iterate 4 (refine wm_rd rfl rfl (fun K hK => ?_); go_simp; refine hK _ ?_; clear hK K)
            refine wm_ld1 rfl rfl 2 (.tmp 107) rfl rfl y1 _ Tryz.underlying2 rfl ?_
            iterate 1 (refine wm_rd rfl rfl (fun K hK => ?_); go_simp; refine hK _ ?_; clear hK K)
            refine wm_ld1 rfl rfl 2 (.tmp 109) rfl rfl d5 _ Tryz.underlying2 rfl ?_
            iterate 1 (refine wm_rd rfl rfl (fun K hK => ?_); go_simp; refine hK _ ?_; clear hK K)
            refine wm_nil ?_
            clear y1 d0 d1 d2 d3 d4 d5 dz
            go_wp2_with fail
            try go_frame
            go_roundw
            case rel => exact ⟨j + 1, m + 1, by go_num, by go_num, HM2.out, HLT.out, KD⟩
            case measure => have := HLT.out; simp [intOf]; omega
          · rw [if_neg hd] at hnx
            have HM2 := hide hnx
            clear hnx
            go_upto_region 18 with fail
            refine wp_region_wm [0, 1, 2, 3, 4, 5, 6, 7] (by kernel_rfl) (by kernel_rfl) (by kernel_rfl) (by kernel_rfl) ?_
            have KD := hide K9.out.drew
            clear K9
            generalize World.drew _ = wd at *
            obtain ⟨_, _, hA, hay⟩ := ho_at (HSE.out _ KD.out.toExt) HX.out
            cases hA
            have y1 : wd.cell? ⟨b, off + j * 2 + 1, none⟩ = some (.int .i64 x.d) := hay 1 _ rfl
            obtain ⟨d0, d1, d2, d3, d4, d5, dz⟩ := q6 (KD.out.blk (g := g2) (e := 27) (List.Mem.tail _ (List.Mem.tail _ (List.Mem.tail _ (List.Mem.head _)))))
            clear hay
            iterate 4 (refine wm_rd rfl rfl (fun K hK => ?_); go_simp; refine hK _ ?_; clear hK K)
            refine wm_ld1 rfl rfl 2 (.tmp 107) rfl rfl y1 _ Tryz.underlying2 rfl ?_
            iterate 1 (refine wm_rd rfl rfl (fun K hK => ?_); go_simp; refine hK _ ?_; clear hK K)
            refine wm_ld1 rfl rfl 2 (.tmp 109) rfl rfl d5 _ Tryz.underlying2 rfl ?_
            iterate 1 (refine wm_rd rfl rfl (fun K hK => ?_); go_simp; refine hK _ ?_; clear hK K)
            refine wm_nil ?_
            clear y1 d0 d1 d2 d3 d4 d5 dz
            go_wp2_with fail
            try go_frame
            go_roundw
            case rel => exact ⟨j + 1, m, by go_num, by go_num, HM2.out, HLT.out, KD⟩
            case measure => have := HLT.out; simp [intOf]; omega
        · have hji : ¬ (j : Int) < (held.length : Int) := by omega
          obtain rfl : j = held.length := by omega
          rw [List.take_length, ended_due HDU.out] at hm
          subst hm
          have hne : ((out.length : Int) != (out.length : Int)) = false := bne_self_eq_false _
          obtain ⟨A8, c8, e8, h8, -, -⟩ := (K9.out.owns (e := 3) (v := .slice As9 out.length cs9) (xs := i64s (out.map Ho.s)) (List.Mem.head _)).form
          simp only [Value.slice.injEq] at e8
          obtain ⟨rfl, -, -⟩ := e8
          have HR := hide (HJ3.out _ K9.out.toExt _ (res_get (K9.out.get (List.Mem.tail _ (List.Mem.tail _ (List.Mem.head _))))) As9 cs9 h8 (by rw [List.length_map]; exact hcs9))
          rw [List.length_map] at HR
          obtain ⟨d0, d1, d2, d3, d4, d5, dz⟩ := q6 (K9.out.blk (g := g2) (e := 27) (List.Mem.tail _ (List.Mem.tail _ (List.Mem.tail _ (List.Mem.head _)))))
          obtain ⟨c0, c1, c2, c3, cz⟩ := blk4 (K9.out.blk (g := g5) (e := 34) (List.Mem.tail _ (List.Mem.head _)))
          have K9' := K9.out
          clear K9 HJ3 hjt h8
          have tok5 : True := trivial
          go_wp2_with (have zz := tok5; clear zz tok5; refine wpList_ldS K9' (List.Mem.tail _ (List.Mem.head _)) rfl 34 (.tmp 5) rfl rfl _ Tryz.underlying34 rfl (by kernel_rfl) ?_)
          (with_reducible refine HR.out.mono ?_)
          rintro e w9 ⟨rfl, hx⟩
          have KA := hide (K9'.ext hx)
          clear K9' hx HR d0 d1 d2 d3 d4 d5 dz c0 c1 c2 c3 cz
          go_wp2_with fail
          go_loopw [12] (fun v12 wr => ∃ i : Nat, v12 = .int .i64 i ∧ i ≤ R.gr.length ∧ Hid (Sep No w wr (TiL (.slice As9 out.length cs9) (out.map Ho.s) g5 g2 (rsC E1 G1 B1 F1 out.length R.gr.length (rowsS R.S).length R.fr.length ce1 cg1 cb1 cf1) ⟨out, R.gr, rowsS R.S, R.fr⟩ Fp (hoX v A c B rows.length d now)))) (fun v12 _ => R.gr.length - (intOf v12).toNat)
          case atStart => exact ⟨0, rfl, Nat.zero_le _, KA⟩
          case round =>
            clear KA
            obtain ⟨i, rfl, hil, KB⟩ := hrel
            obtain ⟨c0, c1, c2, c3, cz⟩ := blk4 (KB.out.blk (g := g5) (e := 34) (List.Mem.tail _ (List.Mem.head _)))
            have hre := isres_en (res_get (KB.out.get (List.Mem.tail _ (List.Mem.tail _ (List.Mem.head _)))))
            by_cases hlt : i < R.gr.length
            · have hli : (i : Int) < (R.gr.length : Int) := by omega
              have hic : (i : Int) < (cg1 : Int) := by have := hre.2.1; dsimp only at this; omega
              obtain ⟨z, hz⟩ := some_of hlt
              obtain ⟨b, off, hA, hat⟩ := gt_at hre.2.2.2 hz
              subst hA
              have y3 : wr.cell? ⟨b, off + i * 4 + 3, none⟩ = some (.int .i64 z.dl) := hat 3 _ rfl
              rw [HDL.out z (List.mem_of_getElem? hz)] at y3
              obtain ⟨d0, d1, d2, d3, d4, d5, dz⟩ := q6 (KB.out.blk (g := g2) (e := 27) (List.Mem.tail _ (List.Mem.tail _ (List.Mem.tail _ (List.Mem.head _)))))
              have HLT := hide hlt
              have ht1 := HT.out.1
              have ht2 := HT.out.2
              have hn0 := HN.out
              have hn1 := HNM.out
              clear hlt hz hat hre
              obtain ⟨tt, htt⟩ : ∃ q, v.ttl = q := ⟨_, rfl⟩
              rw [htt] at d1 ht1 ht2 y3
              clear htt
              by_cases hM : now + tt < 9223372036854775807
              · have hD : addT now tt = now + tt := by unfold addT; rw [if_pos (by omega)]
                rw [hD] at y3
                obtain ⟨D, hDD⟩ : ∃ q, now + tt = q := ⟨_, rfl⟩
                rw [hDD] at y3
                have e1 : ¬ D < now := by omega
                have e2 : (D == now) = false := beq_eq_false_iff_ne.2 (by omega)
                have e3 : (D != 9223372036854775807) = true := bne_iff_ne.2 (by omega)
                have e4 : IntKind.i64.wrap (D - now) = tt := by rw [IntWalk.i64_in _ (by omega)]; omega
                have e5 : (tt != tt) = false := bne_self_eq_false _
                have e6 : (D == 9223372036854775807) = false := beq_eq_false_iff_ne.2 (by omega)
                clear hD hDD hM
                go_wp2_with fail
                try go_frame
                go_roundw
                case rel => exact ⟨i + 1, by go_num, HLT.out, KB⟩
                case measure => have := HLT.out; simp [intOf]; omega
              · have hD : addT now tt = 9223372036854775807 := by unfold addT; split <;> omega
                rw [hD] at y3
                have e1 : ¬ (9223372036854775807 : Int) < now := by omega
                have e3 : ((9223372036854775807 : Int) != 9223372036854775807) = false := rfl
                have e6 : ((9223372036854775807 : Int) == 9223372036854775807) = true := rfl
                have e7 : IntKind.i64.wrap (9223372036854775807 - tt) = 9223372036854775807 - tt := IntWalk.i64_in _ (by omega)
                have e8 : ¬ now < 9223372036854775807 - tt := by omega
                by_cases hq : now = 9223372036854775807
                · have e2 : ((9223372036854775807 : Int) == now) = true := beq_iff_eq.2 hq.symm
                  have e9 : (now != 9223372036854775807) = false := by rw [hq]; rfl
                  clear hD hM hq
                  go_wp2_with fail
                  try go_frame
                  go_roundw
                  case rel => exact ⟨i + 1, by go_num, HLT.out, KB⟩
                  case measure => have := HLT.out; simp [intOf]; omega
                · have e2 : ((9223372036854775807 : Int) == now) = false := beq_eq_false_iff_ne.2 (fun h => hq h.symm)
                  clear hD hM hq
                  go_wp2_with fail
                  try go_frame
                  go_roundw
                  case rel => exact ⟨i + 1, by go_num, HLT.out, KB⟩
                  case measure => have := HLT.out; simp [intOf]; omega
            · have hli : ¬ (i : Int) < (R.gr.length : Int) := by omega
              go_wp2_with fail
              (with_reducible refine (pawake_any _).mono ?_)
              rintro e w10 ⟨rfl, hx⟩
              go_wp2_with fail
              go_ret
              exact ⟨rfl, KB.out.toExt.trans hx⟩
end Go.Proofs.YtdmaephmkfmehaaGreatDoor
