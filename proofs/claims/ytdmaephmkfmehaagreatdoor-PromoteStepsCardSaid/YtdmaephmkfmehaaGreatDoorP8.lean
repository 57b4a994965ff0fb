/- Promote: the law PromoteSteps walked. -/
import Derived.Test.YtdmaephmkfmehaaGreatDoorP8a
import Derived.Test.YtdmaephmkfmehaaGreatDoorGr
namespace Go.Proofs.YtdmaephmkfmehaaGreatDoor
open Go.RowKit Go.Gr Go.Hp Go.Ad Go.Wl Go.Pm
set_option linter.unusedVariables false
set_option linter.unusedSimpArgs false
attribute [local go_sem] rdOp rdAt rdUpon Cls forall_fr
theorem gtV_append (a b : List Gt) : gtV (a ++ b) = gtV a ++ gtV b := by simp [gtV]
theorem gtV_one (l : List Gt) : ∀ r ∈ gtV l, ∀ u ∈ r, u.oneCell' = true := fun r hr => by
  obtain ⟨x, _, rfl⟩ := List.mem_map.1 hr
  exact gtC_one x
theorem i64s_app2 (a b : List Int) : i64s (a ++ b) = i64s a ++ i64s b := by simp [i64s]
theorem seat_rd {y : World} {ad : Addr} {l : List Int} (h : Rd y (some ad) (i64s l)) {i : Nat} (hi : i < l.length) : Rd y (some (ad.add i)) (i64s [l[i]]) := by
  intro j u hu
  rcases j with _ | j
  · refine rd_dropA h i 0 u ?_
    rw [List.getElem?_drop, Nat.add_zero, ← hu]
    simp [i64s, hi]
  · simp [i64s] at hu
theorem one_offer (v : Vn) (A : Option Addr) (c : Nat) (rows : List (List Int)) (seats : List Int) (now : Int) (y : World) (hS : Secs y A v.secs) (hc : v.secs.length ≤ c) (hw : VnW v) (hn : now ≤ 9223372036854775807) (h : offE v rows seats now = 0) (hk : Ok (loadS (qs v) rows)) {i : Nat} (hi : i < seats.length) (hwf : ∀ x ∈ seats, (Lit.int .i64 x).wf = true) (R : Rs) (hR : offO v (addT now v.ttl) (loadS (qs v) rows) (seats.take i) = R) (B' C' : Option Addr) (vs' : List Value) (c' k : Nat) (hB : (AsRows B' vs' (rowsS R.S)).p y) (hC' : Rd y C' (i64s [seats[i]])) (hk1 : 1 ≤ k) :
    Calls Tryz.prog 14 #[.agg #[.int .i64 v.sh, .int .i64 v.ttl, .int .i64 v.ses, .slice A v.secs.length c], .slice B' rows.length c', .slice C' 1 k, .int .i64 now] y (ResQ true y 0 ⟨[], (offO v (addT now v.ttl) R.S [seats[i]]).gr, rowsS (offO v (addT now v.ttl) R.S [seats[i]]).S, (offO v (addT now v.ttl) R.S [seats[i]]).fr⟩) := by
  obtain ⟨h1, h2, -⟩ := one_next h hk hi R hR
  have hok : Ok R.S := hR ▸ offO_ok hk _
  have hl : (rowsS R.S).length = rows.length := by
    have h3 := loadS_len (opE_zero (offE_zero h).1).2.1
    rw [← hR, rowsS_len, offO_len]; omega
  have hf := rowsS_few hok
  have h4 := poffer_any v A c (rowsS R.S) B' vs' c' [seats[i]] C' k now y hS hc hw hB hf.1 (fun r hr => ⟨hf.2 r hr, by
    obtain ⟨p, hp, rfl⟩ := List.mem_map.1 hr
    exact (hok.all p hp).rng⟩) hn hC' (fun x hx => by rw [List.mem_singleton] at hx; subst hx; exact hwf _ (List.getElem_mem hi)) hk1 (by simp)
  rw [h1, h2, hl] at h4
  exact h4
theorem one_next2 {v : Vn} {rows seats : _} {now : Int} (h : offE v rows seats now = 0) (hk : Ok (loadS (qs v) rows)) {i : Nat} (hi : i < seats.length) (R : Rs) (hR : offO v (addT now v.ttl) (loadS (qs v) rows) (seats.take i) = R) :
    offO v (addT now v.ttl) (loadS (qs v) rows) (seats.take (i + 1)) = ⟨R.gr ++ (offO v (addT now v.ttl) R.S [seats[i]]).gr, (offO v (addT now v.ttl) R.S [seats[i]]).S, R.fr ++ (offO v (addT now v.ttl) R.S [seats[i]]).fr⟩ ∧ R.gr.length + R.fr.length ≤ seats.length ∧ (offO v (addT now v.ttl) R.S [seats[i]]).gr.length + (offO v (addT now v.ttl) R.S [seats[i]]).fr.length = 1 ∧ (rowsS (offO v (addT now v.ttl) R.S [seats[i]]).S).length = rows.length := by
  have h3 := loadS_len (opE_zero (offE_zero h).1).2.1
  refine ⟨(one_next h hk hi R hR).2.2, ?_, offO_many _ _ _ _, ?_⟩
  · have := offO_many v (addT now v.ttl) (loadS (qs v) rows) (seats.take i)
    rw [hR, List.length_take] at this
    omega
  · rw [rowsS_len, offO_len, ← hR, offO_len]; omega
theorem res_pt2 {y : World} {vg vf : Value} {B : Option Addr} {vs : List Value} {rows : List (List Int)} {gs : List Gt} {fs : List Int} {n c : Nat} (hA : (AsRows B vs rows).p y) (hg : OwnM y 43 4 vg (gtV gs)) (hf : Go.Gr.Own 0 y 3 vf (i64s fs)) (hn : rows.length = n) :
    IsRes false y (.agg #[.slice none 0 0, vg, .slice B n c, vf]) ⟨[], gs, rows, fs⟩ := by
  obtain ⟨G', cg, rfl, h1, h2, -⟩ := hg.form
  obtain ⟨F, cf, rfl, h3, h4, -⟩ := hf.form
  subst hn
  rw [gtV_len] at h2 ⊢
  rw [i64s_len] at h4 ⊢
  exact ⟨none, G', B, F, 0, cg, c, cf, vs, rfl, Nat.le_refl _, h2, (fun h => by cases h), h4, rdm_nil _ _ _, h1, hA, h3⟩
/-- what lies there while seats are offered one by one -/
abbrev StL (w : World) (F : Nat → Prop) (B' : Option Addr) (c' n : Nat) (R : Rs) (vg vf : Value) (g7 g5 g2 : Nat) (cs5 : List Value) (x : Value) (a : An) (Fp : Nat → Prop) (h5 : List Value) : List As :=
  [As.wts w B' (rowsS R.S) F, As.ownM 43 4 vg (gtV R.gr), As.own 3 vf (i64s R.fr), As.blk g7 34 [.slice none 0 0, vg, .slice B' n c', vf], As.blk g5 34 cs5, As.res true x a Fp, As.blk g2 27 h5]

set_option maxRecDepth 100000 in
set_option maxHeartbeats 4000000 in
theorem steps_law (w : World) (_ : True) (v0 : Value) (h0 : ∃ cs, v0 = .agg cs ∧ Lvs Tryz.prog w [.int .i64, .int .i64, .int .i64, .slice 100, .slice 47, .int .i64] cs.toList) (v1 : Value) (h1 : LfOk Tryz.prog w (.slice 3) v1) : Calls Tryz.prog 9 #[v0, v1] w fun e w' => e = .returned (.bool true) ∧ Ext w w' := by
  obtain ⟨i0, ki, kz0, kz1, kz2⟩ := info_parts infoGt
  obtain ⟨j0, mi, mz0, mz1, mz2⟩ := info_parts infoIq
  obtain ⟨v, A, c, rows, B, vs, d, now, rfl, hH⟩ := house_arg h0
  obtain ⟨C, seats, cs, rfl, hC, hwf, hls, hlm⟩ := pints_arg h1
  clear h0 h1
  have HFAR := hide (fun (y : World) (k : Ext w y) => far_any v A c rows B vs d now y (hH.ext k).secs hH.cap hH.vw (hH.ext k).rws hH.rcap hH.many (fun r hr => (hH.row r hr).1))
  have HSOK := hide (fun (h : opE v rows now = 0) => loadS_ok (opE_zero h).2.1 (fun r hr => (hH.row r hr).2))
  have HFEW := hide (fun (hl : seats.length ≤ 9000) => offA_few (now := now) hl HSOK.out)
  have HOF := hide (fun (hm : rows.length ≤ 10) (hr : ∀ r ∈ rows, r.length ≤ 80) (hl : seats.length ≤ 9000) (y : World) (k : Ext w y) => poffer_any v A c rows B vs d seats C cs now y (hH.ext k).secs hH.cap hH.vw (hH.ext k).rws (by omega) (fun r h => ⟨by have := hr r h; omega, (hH.row r h).2⟩) hH.now.2 (hC.ext k) hwf hls hl)
  have HON := hide (fun (hE : offE v rows seats now = 0) (i : Nat) (hi : i < seats.length) (R : Rs) (hR : offO v (addT now v.ttl) (loadS (qs v) rows) (seats.take i) = R) (B' C' : Option Addr) (c' k : Nat) (y : World) (kx : Ext w y) (vs' : List Value) (hB : (AsRows B' vs' (rowsS R.S)).p y) (hC' : Rd y C' (i64s [seats[i]])) (hk : 1 ≤ k) => one_offer v A c rows seats now y (hH.ext kx).secs hH.cap hH.vw hH.now.2 hE (HSOK.out (offE_zero hE).1) hi hwf R hR B' C' vs' c' k hB hC' hk)
  have HNX := hide (fun (hE : offE v rows seats now = 0) (i : Nat) (hi : i < seats.length) (R : Rs) (hR : offO v (addT now v.ttl) (loadS (qs v) rows) (seats.take i) = R) => one_next2 hE (HSOK.out (offE_zero hE).1) hi R hR)
  have HALL := hide (fun (hE : offE v rows seats now = 0) => offA_good hE)
  have HRW := hide (fun (hE : offE v rows seats now = 0) => rows_load (loadS_len (opE_zero (offE_zero hE).1).2.1).2)
  have HLW := hide (fun (hE : offE v rows seats now = 0) (l : List Int) => show (rowsS (offO v (addT now v.ttl) (loadS (qs v) rows) l).S).length = rows.length by have h1 := loadS_len (opE_zero (offE_zero hE).1).2.1; rw [rowsS_len, offO_len]; omega)
  have HBAD := hide (fun (hE : offE v rows seats now ≠ 0) => offA_bad rfl hE)
  obtain ⟨E, hE⟩ : ∃ q, offE v rows seats now = q := ⟨_, rfl⟩
  obtain ⟨a, ha⟩ : ∃ q, offA v rows seats now = q := ⟨_, rfl⟩
  rw [hE, ha] at HOF HBAD
  have hrc := hH.rcap
  have hrm := hH.many
  have HE := hide hE
  have HA := hide ha
  have HB0 := hide hH.rws
  have HSE := hide (fun (y : World) (k : Ext w y) => hC.ext k)
  clear hE ha hC hwf hH HSOK
  have K0 := (Sep.refl No w).add 27 (hoX v A c B rows.length d now)
  go_enter Tryz.func9, Tryz.ntmps9
  go_upto_region 1 with fail
  generalize w.alloc _ = w1 at K0 ⊢
  obtain ⟨g2, G2⟩ : ∃ g, w.heap.size = g := ⟨_, rfl⟩
  rw [G2] at K0 ⊢
  clear G2
  have K1 := hide K0
  clear K0
  obtain ⟨c0, c1, c2, c3, c4, c5, cz⟩ := q6 (K1.out.blk (g := g2) (e := 27) (List.Mem.head _))
  go_wp2_with fail
  (with_reducible refine (HFAR.out _ K1.out.toExt).mono ?_)
  rintro e w2 ⟨b, rfl, hb, hx⟩
  have K2 := hide (K1.out.ext hx)
  clear K1 hx HFAR c0 c1 c2 c3 c4 c5 cz
  cases b
  rotate_left
  · go_wp2_with fail
    (with_reducible refine (pawake_any _).mono ?_)
    rintro e w3 ⟨rfl, hx⟩
    go_wp2_with fail
    go_ret
    exact ⟨rfl, K2.out.toExt.trans hx⟩
  obtain ⟨hr10, hr80⟩ := hb rfl
  clear hb
  by_cases hl : 100 < seats.length
  · have e1 : (100 : Int) < (seats.length : Int) := by omega
    clear hl
    go_wp2_with fail
    (with_reducible refine (pawake_any _).mono ?_)
    rintro e w3 ⟨rfl, hx⟩
    go_wp2_with fail
    go_ret
    exact ⟨rfl, K2.out.toExt.trans hx⟩
  have e1 : ¬ (100 : Int) < (seats.length : Int) := by omega
  have HO := hide (HOF.out hr10 hr80 (by omega))
  have HFW := hide (HFEW.out (by omega))
  have hl9 : seats.length ≤ 100 := by omega
  clear HOF HFEW hl hr80
  obtain ⟨c0, c1, c2, c3, c4, c5, cz⟩ := q6 (K2.out.blk (g := g2) (e := 27) (List.Mem.head _))
  go_wp2_with fail
  (with_reducible refine (HO.out _ K2.out.toExt).mono ?_)
  rintro e w3 ⟨x, Fp, rfl, hS⟩
  obtain ⟨E1, G1, B1, F1, ce1, cg1, cb1, cf1, vs1, rfl, -⟩ := res_get (hS.get (List.Mem.head _))
  have K3 := K2.out.joinW hS
  dsimp only [List.cons_append, List.nil_append] at K3
  clear hS K2 HO c0 c1 c2 c3 c4 c5 cz
  have tok1 : True := trivial
  have tok2 : True := trivial
  go_upto_region 4 with (first
    | (have zz := tok1; clear zz tok1; refine wpList_alS K3 rfl 34 rfl (rsC none none none none 0 0 0 0 0 0 0 0) (by kernel_rfl) ?_; intro w4 hz4 K4; clear hz4 K3)
    | (have zz := tok2; clear zz tok2; refine wpList_stS [] K4 rfl 34 (.tmp 5) (.tmp 28) rfl rfl (cs := rsC E1 G1 B1 F1 a.en.length a.gr.length a.rows.length a.fr.length ce1 cg1 cb1 cf1) rfl (by kernel_rfl) rfl (rsC_one rfl rfl rfl rfl) ?_; intro w5 K5; dsimp only [List.nil_append] at K5; clear K4))
  obtain ⟨g5, G5⟩ : ∃ g, w3.heap.size = g := ⟨_, rfl⟩
  rw [G5] at K5 ⊢
  clear G5
  by_cases hE : E = 0
  rotate_left
  · have eE : (E != 0) = true := bne_iff_ne.2 hE
    have K6 := hide K5
    clear K5 HBAD HON HNX HALL HRW HLW HE HA
    go_wp2_with fail
    (with_reducible refine (pawake_any _).mono ?_)
    rintro e w10 ⟨rfl, hx⟩
    go_wp2_with fail
    go_ret
    exact ⟨rfl, K6.out.toExt.trans hx⟩
  have h0 := HE.out.trans hE
  subst hE
  have eE : ((0 : Int) != 0) = false := rfl
  have HON2 := hide (HON.out h0)
  have HNX2 := hide (HNX.out h0)
  have HA2 := hide (HA.out.symm.trans (HALL.out h0))
  have HFW2 : Hid a.few := hide (by have h1 := HFW.out; rw [HA.out] at h1; exact h1)
  have HRW2 := hide (HRW.out h0)
  have HLW2 := hide (HLW.out h0)
  clear HON HNX HALL HRW HLW HE HA HBAD h0
  obtain ⟨c0, c1, c2, c3, c4, c5, cz⟩ := q6 (K5.blk (g := g2) (e := 27) (List.Mem.tail _ (List.Mem.tail _ (List.Mem.head _))))
  have tok3 : True := trivial
  have tok4 : True := trivial
  go_upto_region 7 with (first
    | (have zz := tok3; clear zz tok3; refine wpList_alS K5 rfl 34 rfl (rsC none none none none 0 0 0 0 0 0 0 0) (by kernel_rfl) ?_; intro w6 hz6 K6; clear hz6 K5)
    | (have zz := tok4; clear zz tok4; refine wpList_stS [] K6 rfl 34 (.tmp 7) (.tmp 35) rfl rfl (cs := rsC none none B none 0 0 rows.length 0 0 0 d 0) rfl (by kernel_rfl) rfl (rsC_one rfl rfl rfl rfl) ?_; intro w7 K7; dsimp only [List.nil_append] at K7; clear K6))
  obtain ⟨g7, G7⟩ : ∃ g, w5.heap.size = g := ⟨_, rfl⟩
  rw [G7] at K7 ⊢
  clear G7 c0 c1 c2 c3 c4 c5 cz
  obtain ⟨cs5, H5⟩ : ∃ q, rsC E1 G1 B1 F1 a.en.length a.gr.length a.rows.length a.fr.length ce1 cg1 cb1 cf1 = q := ⟨_, rfl⟩
  have K8 : Hid (Sep No w w7 (StL w No B d rows.length (offO v (addT now v.ttl) (loadS (qs v) rows) (seats.take 0)) (.slice none 0 0) (.slice none 0 0) g7 g5 g2 cs5 (.agg cs5.toArray) a Fp (hoX v A c B rows.length d now))) := hide (by
    have h1 := wts_new (((K7.nilO 3)).nilM 43 4) HB0.out
    rw [H5] at h1
    have h2 : rowsS (offO v (addT now v.ttl) (loadS (qs v) rows) (seats.take 0)).S = rows := HRW2.out
    unfold StL
    rw [h2]
    exact h1)
  have H5' := hide H5
  clear K7 HRW2 H5 HB0
  go_wp2_with fail
  go_loopw [8] (fun v8 wr => ∃ (i : Nat) (R : Rs) (vg vf : Value) (B' : Option Addr) (c' : Nat) (F : Nat → Prop), v8 = .int .i64 i ∧ i ≤ seats.length ∧ Hid (offO v (addT now v.ttl) (loadS (qs v) rows) (seats.take i) = R) ∧ Hid (Sep No w wr (StL w F B' c' rows.length R vg vf g7 g5 g2 cs5 (.agg cs5.toArray) a Fp (hoX v A c B rows.length d now)))) (fun v8 _ => seats.length - (intOf v8).toNat)
  case atStart => exact ⟨0, _, _, _, _, _, _, rfl, Nat.zero_le _, hide rfl, K8⟩
  case round =>
    clear K8
    obtain ⟨i, R, vg, vf, B', c', F, rfl, hil, HR, K9⟩ := hrel
    by_cases hlt : i < seats.length
    · have hli : (i : Int) < (seats.length : Int) := by omega
      have hic : (i : Int) + 1 ≤ (cs : Int) := by omega
      obtain ⟨ad, rfl, -⟩ := i64s_at (HSE.out w (Ext.refl w)) hlt
      have HC1 := hide (fun (y : World) (k : Ext w y) => seat_rd (HSE.out y k) hlt)
      have HO1 := hide (HON2.out i hlt R HR.out)
      have HN1 := hide (HNX2.out i hlt R HR.out)
      obtain ⟨O, hO⟩ : ∃ q, offO v (addT now v.ttl) R.S [seats[i]] = q := ⟨_, rfl⟩
      rw [hO] at HO1 HN1
      obtain ⟨x, hx⟩ : ∃ x, seats[i] = x := ⟨_, rfl⟩
      rw [hx] at HO1 HC1
      have hw1 : IntKind.i64.wrap ((i : Int) + 1) = ((i + 1 : Nat) : Int) := by rw [IntWalk.i64_in _ (by omega)]; omega
      have hA : 0 ≤ ((i + 1 : Nat) : Int) ∧ ((i + 1 : Nat) : Int) ≤ (cs : Int) := by omega
      have hB : i ≤ i + 1 := by omega
      have hT : ((i + 1 : Nat) : Int).toNat = i + 1 := Int.toNat_natCast _
      have hci : ¬ cs = i := by omega
      have hS1 : i + 1 - i = 1 := by omega
      have hA0 : (0 : Int) ≤ (i : Int) + 1 := by omega
      have HCK := hide (show 1 ≤ cs - i by omega)
      have HLT := hide hlt
      clear hO hx hlt HR
      go_upto_region 10 with fail
      go_cut [9, 10] (fun v9 v10 wx => v10 = .int .i64 0 ∧ ∃ (g9 : Nat) (E2 G2 B2 F2 : Option Addr) (ce cg cb cf : Nat) (Fq : Nat → Prop), v9 = .pointer (some ⟨g9, 0, none⟩) ∧ Sep No w wx (As.blk g9 34 (rsC E2 G2 B2 F2 0 O.gr.length rows.length O.fr.length ce cg cb cf) :: As.res true (.agg (rsC E2 G2 B2 F2 0 O.gr.length rows.length O.fr.length ce cg cb cf).toArray) ⟨[], O.gr, rowsS O.S, O.fr⟩ Fq :: StL w F B' c' rows.length R vg vf g7 g5 g2 cs5 (.agg cs5.toArray) a Fp (hoX v A c B rows.length d now)))
      case first =>
        have H2 := K9.out.drew
        refine wp_region_wf (RT.up wr.drew.heap.size) 15 [0, 1, 2, 3, 4, 5, 6, 7, 8, 9, 10, 11, 12, 13, 14, 15, 16, 17] (by kernel_rfl) (by kernel_rfl) (by kernel_rfl) (by kernel_rfl) (by kernel_rfl) ?_
        clear K9
        generalize World.drew _ = wd at *
        have hb2 := H2.blk (g := g2) (e := 27) (List.Mem.tail _ (List.Mem.tail _ (List.Mem.tail _ (List.Mem.tail _ (List.Mem.tail _ (List.Mem.tail _ (List.Mem.head _)))))))
        have hb7 := H2.blk (g := g7) (e := 34) (List.Mem.tail _ (List.Mem.tail _ (List.Mem.tail _ (List.Mem.head _))))
        have hg2 := hb2.lt
        have hg7 := hb7.lt
        obtain ⟨c0, c1, c2, c3, c4, c5, cz⟩ := q6 hb2
        obtain ⟨d0, d1, d2, d3, dz⟩ := blk4 hb7
        iterate 1 (refine wf_rd rfl rfl rfl (fun K hK => ?_); go_simp; refine hK _ ?_; clear hK K)
        refine wf_ldX rfl rfl rfl 24 (.tmp 43) rfl (fun w' h' => (house_at5 hb2).fr h' (by omega)) rfl _ Tryz.underlying24 rfl (by kernel_rfl) ?_
        iterate 1 (refine wf_rd rfl rfl rfl (fun K hK => ?_); go_simp; refine hK _ ?_; clear hK K)
        refine wf_ld1 rfl rfl rfl 25 (.tmp 45) rfl rfl (fun w' h' => Fr.cell h' d2 (fun hq => absurd hq (Nat.not_le_of_lt hg7))) _ Tryz.underlying25 rfl ?_
        iterate 4 (refine wf_rd rfl rfl rfl (fun K hK => ?_); go_simp; refine hK _ ?_; clear hK K)
        refine wf_rd rfl rfl rfl (fun K hK => ?_); go_simp; refine hK _ ?_; clear hK K
        iterate 1 (refine wf_rd rfl rfl rfl (fun K hK => ?_); go_simp; refine hK _ ?_; clear hK K)
        refine wf_ld1 rfl rfl rfl 2 (.tmp 52) rfl rfl (fun w' h' => Fr.cell h' c5 (fun hq => absurd hq (Nat.not_le_of_lt hg2))) _ Tryz.underlying2 rfl ?_
        clear hb2 hb7 hg2 hg7 c0 c1 c2 c3 c4 c5 cz d0 d1 d2 d3 dz
        refine wf_ext rfl rfl rfl (fun K hK => ?_) ?_
        · go_simp
          go_at_call 14
          obtain ⟨vs', hB'⟩ := wts_get H2 (List.Mem.head _)
          (with_reducible refine (HO1.out B' (some (ad.add i)) c' (cs - i) _ H2.toExt vs' hB' (HC1.out _ H2.toExt) HCK.out).mono ?_)
          rintro e w8 ⟨xr, Fq, rfl, hS⟩
          refine hK _ _ (hS.toExt.up _) ?_
          clear hK K
          obtain ⟨E2, G2, B2, F2, ce2, cg2, cb2, cf2, vs2, rfl, -⟩ := res_get (hS.get (List.Mem.head _))
          dsimp only [List.length_nil] at hS ⊢
          rw [HN1.out.2.2.2] at hS ⊢
          have H3 := H2.joinW hS
          have hz2 := hS.toExt.size
          clear H2 hS hB'
          iterate 3 (refine wf_rd rfl rfl rfl (fun K hK => ?_); go_simp; refine hK _ ?_; clear hK K)
          refine wf_at rfl ?_
          refine wmr_ext rfl rfl (fun K hK => ?_)
          rw [if_pos (show Region.wanted _ _ = true from rfl)]
          refine wp_alS H3 34 rfl (rsC none none none none 0 0 0 0 0 0 0 0) (by kernel_rfl) (fun w9 hz3 hx3 H4 => ?_)
          refine hK _ _ (hx3.up _) ?_
          clear hK K H3 hx3
          refine wmr_ext rfl rfl (fun K hK => ?_)
          rw [if_pos (show Region.wanted _ _ = true from rfl)]
          refine wp_stS [] H4 34 (.tmp 9) (.tmp 55) rfl (cs := rsC E2 G2 B2 F2 0 O.gr.length rows.length O.fr.length ce2 cg2 cb2 cf2) rfl rfl (by kernel_rfl) rfl (rsC_one rfl rfl rfl rfl) (fun w10 H5 hu4 => ?_)
          refine hK _ _ (hu4.up (by omega)) ?_
          clear hK K H4 hu4
          iterate 1 (refine wmr_rd rfl rfl (fun K hK => ?_); go_simp; refine hK _ ?_; clear hK K)
          refine wmr_nil ?_
          go_wp2_with fail
          go_meet
          case rel => exact ⟨rfl, _, _, _, _, _, _, _, _, _, _, rfl, H5⟩
        · refine wmr_ext rfl rfl (fun K hK => ?_)
          rw [if_pos (show Region.wanted _ _ = true from rfl)]
          refine wp_alS H2 34 rfl (rsC none none none none 0 0 0 0 0 0 0 0) (by kernel_rfl) (fun w9 hz3 hx3 H4 => ?_)
          refine hK _ _ (hx3.up _) ?_
          clear hK K H2 hx3
          refine wmr_ext rfl rfl (fun K hK => ?_)
          go_simp
          go_at_call 14
          obtain ⟨vs', hB'⟩ := wts_get H4 (List.Mem.tail _ (List.Mem.head _))
          (with_reducible refine (HO1.out B' (some (ad.add i)) c' (cs - i) _ H4.toExt vs' hB' (HC1.out _ H4.toExt) HCK.out).mono ?_)
          rintro e w8 ⟨xr, Fq, rfl, hS⟩
          refine hK _ _ (hS.toExt.up _) ?_
          clear hK K
          obtain ⟨E2, G2, B2, F2, ce2, cg2, cb2, cf2, vs2, rfl, -⟩ := res_get (hS.get (List.Mem.head _))
          dsimp only [List.length_nil] at hS ⊢
          rw [HN1.out.2.2.2] at hS ⊢
          have H3 := (H4.joinW hS).perm (List.Perm.swap _ _ _)
          clear H4 hS hB'
          show WMR _ _ _ _ [12, 13, 14, 16, 17] _ _
          iterate 3 (refine wmr_rd rfl rfl (fun K hK => ?_); go_simp; refine hK _ ?_; clear hK K)
          refine wmr_ext rfl rfl (fun K hK => ?_)
          rw [if_pos (show Region.wanted _ _ = true from rfl)]
          refine wp_stS [] H3 34 (.tmp 9) (.tmp 55) rfl (cs := rsC E2 G2 B2 F2 0 O.gr.length rows.length O.fr.length ce2 cg2 cb2 cf2) rfl rfl (by kernel_rfl) rfl (rsC_one rfl rfl rfl rfl) (fun w10 H5 hu4 => ?_)
          refine hK _ _ (hu4.up (by omega)) ?_
          clear hK K H3 hu4
          iterate 1 (refine wmr_rd rfl rfl (fun K hK => ?_); go_simp; refine hK _ ?_; clear hK K)
          refine wmr_nil ?_
          go_wp2_with fail
          go_meet
          case rel => exact ⟨rfl, _, _, _, _, _, _, _, _, _, _, rfl, H5⟩
      case rest =>
        obtain ⟨rfl, g9, E2, G2, B2, F2, ce2, cg2, cb2, cf2, Fq, rfl, H⟩ := hcut
        clear K9 HO1 HC1 hw1 hA hB hT hci hS1 hA0 HCK
        have hgl := HN1.out.2.1
        have hol := HN1.out.2.2.1
        have HRG := hide (isres_inj (res_get (H.get (List.Mem.tail _ (List.Mem.head _))))).2.2.2.1
        have HLN : Hid ((gtV R.gr).length + (gtV O.gr).length ≤ 100000) := hide (by rw [gtV_len, gtV_len]; omega)
        have HLF : Hid ((i64s R.fr).length + (i64s O.fr).length ≤ 1000000000) := hide (by rw [i64s_len, i64s_len]; omega)
        have HNX3 := hide HN1.out.1
        clear hgl hol HN1
        obtain ⟨c0, c1, c2, c3, cz⟩ := blk4 (H.blk (g := g9) (e := 34) (List.Mem.head _))
        obtain ⟨d0, d1, d2, d3, dz⟩ := blk4 (H.blk (g := g7) (e := 34) (List.Mem.tail _ (List.Mem.tail _ (List.Mem.tail _ (List.Mem.tail _ (List.Mem.tail _ (List.Mem.head _)))))))
        have tok5 : True := trivial
        have tok6 : True := trivial
        go_upto_region 14 with (first
          | (have zz := tok5; clear zz tok5; refine wpList_apsM [_, _, _] H rfl (.tmp 60) (.tmp 62) 31 rfl i0 _ 32 Tryz.underlying31 ki kz0 kz1 kz2 rfl (by decide) rfl (A := G2) (m := O.gr.length) (c := cg2) (news := gtV O.gr) rfl (by rw [gtV_len]) HRG.out (gtV_l _) (gtV_one _) HLN.out (by decide) ?_; intro vg' w5' K10; dsimp only [List.nil_append, List.cons_append] at K10; clear H)
          | (have zz := tok6; clear zz tok6; refine wpList_st1S [_, _, _, _, _] K10 rfl 31 (.tmp 64) (.tmp 63) rfl (i := 1) rfl rfl (by kernel_rfl) (show 1 < 4 by decide) (by obtain ⟨A', c', hv, -⟩ := (K10.ownsM (e := 43) (k := 4) (v := vg') (rows := gtV R.gr ++ gtV O.gr) (List.Mem.tail _ (List.Mem.tail _ (List.Mem.tail _ (List.Mem.head _))))).form; rw [hv]; rfl) ?_; intro w6' K11; dsimp only [List.nil_append, List.cons_append, List.set] at K11; clear K10))
        clear HRG HLN c0 c1 c2 c3 cz d0 d1 d2 d3 dz
        have HRF := hide (isres_inj (res_get (K11.get (List.Mem.tail _ (List.Mem.head _))))).2.2.2.2.2
        obtain ⟨c0, c1, c2, c3, cz⟩ := blk4 (K11.blk (g := g9) (e := 34) (List.Mem.head _))
        obtain ⟨d0, d1, d2, d3, dz⟩ := blk4 (K11.blk (g := g7) (e := 34) (List.Mem.tail _ (List.Mem.tail _ (List.Mem.tail _ (List.Mem.tail _ (List.Mem.tail _ (List.Mem.head _)))))))
        have tok7 : True := trivial
        have tok8 : True := trivial
        go_upto_region 15 with (first
          | (have zz := tok7; clear zz tok7; refine wpList_apS [_, _, _, _] K11 rfl (.tmp 66) (.tmp 68) 32 rfl j0 _ 8 Tryz.underlying32 mi mz0 mz1 mz2 rfl rfl (A := F2) (m := O.fr.length) (c := cf2) (news := i64s O.fr) rfl (by rw [i64s_len]) HRF.out (i64s_one _) HLF.out (by decide) ?_; intro vf' w7' K12; dsimp only [List.nil_append, List.cons_append] at K12; clear K11)
          | (have zz := tok8; clear zz tok8; refine wpList_st1S [_, _, _, _, _] K12 rfl 32 (.tmp 70) (.tmp 69) rfl (i := 3) rfl rfl (by kernel_rfl) (show 3 < 4 by decide) (ownOne (K12.owns (e := 3) (v := vf') (List.Mem.tail _ (List.Mem.tail _ (List.Mem.tail _ (List.Mem.tail _ (List.Mem.head _))))))) ?_; intro w8' K13; dsimp only [List.nil_append, List.cons_append, List.set] at K13; clear K12))
        clear HRF HLF c0 c1 c2 c3 cz d0 d1 d2 d3 dz
        obtain ⟨c0, c1, c2, c3, cz⟩ := blk4 (K13.blk (g := g9) (e := 34) (List.Mem.head _))
        have tok9 : True := trivial
        go_upto_region 9 with (have zz := tok9; clear zz tok9; refine wpList_st1S [_, _, _, _, _] K13 rfl 25 (.tmp 73) (.tmp 72) rfl (i := 2) rfl rfl (by kernel_rfl) (show 2 < 4 by decide) rfl ?_; intro w9' K14; dsimp only [List.nil_append, List.cons_append, List.set] at K14; clear K13)
        clear c0 c1 c2 c3 cz
        rw [← gtV_append, ← i64s_app2] at K14
        have K15 : Hid (Sep No w w9' (StL w Fq B2 cb2 rows.length ⟨R.gr ++ O.gr, O.S, R.fr ++ O.fr⟩ vg' vf' g7 g5 g2 cs5 (.agg cs5.toArray) a Fp (hoX v A c B rows.length d now))) := hide (wts_to K14.tail)
        clear K14
        have hw1 : IntKind.i64.wrap ((i : Int) + 1) = ((i + 1 : Nat) : Int) := by rw [IntWalk.i64_in _ (by have := HLT.out; omega)]; omega
        go_wp2_with fail
        try go_frame
        go_roundw
        case rel => exact ⟨i + 1, _, vg', vf', B2, cb2, Fq, by go_num, HLT.out, HNX3, K15⟩
        case measure => have := HLT.out; simp [intOf]; omega
    · have hii : i = seats.length := by omega
      subst hii
      have hnl : ¬ (seats.length : Int) < (seats.length : Int) := by omega
      have hR := HR.out
      rw [List.take_length] at hR
      have ha : a = ⟨[], R.gr, rowsS R.S, R.fr⟩ := by rw [← hR]; exact HA2.out
      have hcs := H5'.out
      subst hcs
      have hn : (rowsS R.S).length = rows.length := by rw [← hR]; exact HLW2.out _
      obtain ⟨vs', hB'⟩ := wts_get K9.out (List.Mem.head _)
      have hy := res_pt2 (c := c') hB' (K9.out.ownsM (e := 43) (List.Mem.tail _ (List.Mem.head _))) (K9.out.owns (e := 3) (List.Mem.tail _ (List.Mem.tail _ (List.Mem.head _)))) hn
      rw [← ha] at hy
      have HSM := hide (psame_any wr (res_get (K9.out.get (List.Mem.tail _ (List.Mem.tail _ (List.Mem.tail _ (List.Mem.tail _ (List.Mem.tail _ (List.Mem.head _)))))))) hy HFW2.out)
      have K10 := K9.out
      clear K9 hy hB' hn ha hR HR HA2 HFW HFW2 H5' HON2 HNX2 HLW2 HSE hlt
      have tok5 : True := trivial
      have tok6 : True := trivial
      go_wp2_with (first
        | (have zz := tok5; clear zz tok5; refine wpList_ldS K10 (List.Mem.tail _ (List.Mem.tail _ (List.Mem.tail _ (List.Mem.tail _ (List.Mem.head _))))) rfl 34 (.tmp 5) rfl rfl _ Tryz.underlying34 rfl (by kernel_rfl) ?_)
        | (have zz := tok6; clear zz tok6; refine wpList_ldS K10 (List.Mem.tail _ (List.Mem.tail _ (List.Mem.tail _ (List.Mem.head _)))) rfl 34 (.tmp 7) rfl rfl _ Tryz.underlying34 rfl (by kernel_rfl) ?_))
      (with_reducible refine HSM.out.mono ?_)
      rintro e w9 ⟨rfl, hx⟩
      have HX9 := hide (K10.toExt.trans hx)
      clear K10 hx HSM
      go_wp2_with fail
      (with_reducible refine (pawake_any _).mono ?_)
      rintro e w10 ⟨rfl, hx⟩
      go_wp2_with fail
      go_ret
      exact ⟨rfl, HX9.out.trans hx⟩
end Go.Proofs.YtdmaephmkfmehaaGreatDoor
