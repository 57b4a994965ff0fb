/- Texts put together: Y3 Y4 Y5. -/
import Derived.Test.YtdmaephmkfmehaaGreatDoorGr
import Derived.Test.YtdmaephmkfmehaaGreatDoorGp
import Derived.Test.YtdmaephmkfmehaaGreatDoorGq
import Derived.Test.YtdmaephmkfmehaaGreatDoorGb
namespace Go.Proofs.YtdmaephmkfmehaaGreatDoor
open Go.RowKit Go.Gr Go.Hp Go.Ad Go.Wl Go.Pm
set_option linter.unusedVariables false
set_option linter.unusedSimpArgs false
attribute [local go_sem] rdOp rdAt rdUpon Cls forall_fr

set_option maxRecDepth 100000 in
set_option maxHeartbeats 4000000 in
theorem rends_any (v : Vn) (A : Option Addr) (c : Nat) (rows : List (List Int)) (B : Option Addr) (vs : List Value) (d : Nat) (held : List Ho) (C : Option Addr) (cs : Nat) (now : Int) (w : World) (h : Secs w A v.secs) (hc : v.secs.length ≤ c) (hw : VnW v) (hB : (AsRows B vs rows).p w) (hrm : rows.length ≤ 100000) (hrl : ∀ r ∈ rows, r.length ≤ 1000000 ∧ ∀ x ∈ r, 0 ≤ x ∧ x < 4294967296) (hnow : now ≤ 9223372036854775807) (hC : RdM w C 2 (hoV held)) (hok : ∀ x ∈ held, x.ok) (hls : held.length ≤ cs) (hl : held.length ≤ 4000) (hSok : opE v rows now = 0 → Ok (loadS (qs v) rows)) :
    Calls Tryz.prog 18 #[.agg #[.int .i64 v.sh, .int .i64 v.ttl, .int .i64 v.ses, .slice A v.secs.length c], .slice B rows.length d, .slice C held.length cs, .int .i64 now] w (EndR false w v rows held now) := by
  obtain ⟨i0, ki, kz0, kz1, kz2⟩ := info_parts infoIq
  have HOP := hide (fun (y : World) (k : Ext w y) => house_any v A c rows B vs d now y (h.ext k) hc hw (asRows_x hB k) hrm hrl)
  have HSEA := hide (fun (y : World) (k : Ext w y) => ref_seats v A c y (h.ext k) hc hw)
  have HLO := hide (fun (sn : Int) (y : World) (k : Ext w y) => rload_hold sn held C cs y (hC.ext k) hok hls hl)
  have HOF := hide (fun (hz : (chk v).2 = 0) (S : St) (A' B' : Option Addr) (vs' : List Value) (c' d' : Nat) (seats : List Int) (C' : Option Addr) (cs' : Nat) (y : World) (k : Ext w y) (hrf : (AsRf A' B' vs' S).p y) (hok : Ok S) (hn0 : 0 ≤ now) (hC' : Rd y C' (i64s seats)) (hls' : seats.length ≤ cs') (hl' : seats.length ≤ 9000) => offered_any v A c S A' B' vs' c' d' seats C' cs' now y (h.ext k) hc hw hz hrf hok hC' hls' hl' hn0 hnow)
  have HL := hide hl
  have HSO := hide hSok
  clear h hc hw hB hrl hC hl hls hSok hok
  have K0 := (Sep.refl No w).add 24 (vnC v A c)
  have tok1 : True := trivial
  go_enter Tryz.func18, Tryz.ntmps18
  go_upto_region 1 with (have zz := tok1; clear zz tok1; refine wpList_alS K0 rfl 34 rfl (rsC none none none none 0 0 0 0 0 0 0 0) (by kernel_rfl) ?_; intro w1 hz1 K1; clear hz1 K0)
  obtain ⟨g4, G4⟩ : ∃ g, w.heap.size = g := ⟨_, rfl⟩
  obtain ⟨g8, G8⟩ : ∃ g, (w.alloc (.cells (vnC v A c).toArray 24)).heap.size = g := ⟨_, rfl⟩
  rw [G4, G8] at K1
  try rw [show w.heap.size + 1 = g8 by rw [← G8]; simp]
  try rw [G8]
  rw [G4]
  clear G4 G8
  obtain ⟨c0, c1, c2, c3, cz⟩ := blk4 (K1.blk (g := g4) (e := 24) (List.Mem.tail _ (List.Mem.head _)))
  have K2 := hide K1
  clear K1
  go_wp2_with fail
  (with_reducible refine (HOP.out _ K2.out.toExt).mono ?_)
  rintro e w2 ⟨hx, ⟨h0, A', B', c', d', vs', rfl, hS⟩ | ⟨h0, A', B', n', c', m', d', rfl⟩⟩
  rotate_left
  · have K3 := K2.out.ext hx
    have HE : Hid (endE v rows held now = opE v rows now) := hide (endE_open h0)
    have H0 := hide h0
    have hb : (opE v rows now != 0) = true := bne_iff_ne.2 h0
    clear K2 hx c0 c1 c2 c3 cz h0
    have tok2 : True := trivial
    have tok3 : True := trivial
    have tok4 : True := trivial
    go_wp2_with (first
      | (have zz := tok3; clear zz tok3; refine wpList_alS K3 rfl 82 rfl (lsC none none 0 0 0 0) (by kernel_rfl) ?_; intro w5 hz5 K6; clear hz5 K3)
      | (have zz := tok4; clear zz tok4; refine wpList_stS [] K6 rfl 82 (.tmp 10) (.tmp 26) rfl rfl (cs := lsC A' B' n' c' m' d') rfl (by kernel_rfl) rfl (lsC_one _ _ _ _ _ _) ?_; intro w6 K7; dsimp only [List.nil_append] at K7; clear K6)
      | (have zz := tok2; clear zz tok2; refine wpList_stS [_] K7 rfl 34 (.tmp 8) (.tmp 30) rfl rfl (cs := rsC none none none none 0 0 0 0 0 0 0 0) rfl (by kernel_rfl) rfl (rsC_one rfl rfl rfl rfl) ?_; intro w4 K4; dsimp only [List.nil_append, List.cons_append] at K4; clear K7))
    refine bodyPost_ret (v := .tuple #[.agg (rsC none none none none 0 0 0 0 0 0 0 0).toArray, .int .i64 (opE v rows now)]) (results_ct rfl _ _ g8 34 (rsC none none none none 0 0 0 0 0 0 0 0) _ rfl (K4.blk (g := g8) (e := 34) (List.Mem.tail _ (List.Mem.head _))) Tryz.underlying34 rfl (by kernel_rfl) rfl) rfl ?_
    refine ⟨[], fun h => absurd (HE.out.symm.trans h) H0.out, ?_⟩
    rw [HE.out, endA_bad H0.out]
    exact (resQ_none K4.toExt).elim fun F hF => ⟨_, F, rfl, hF⟩
  have HE := hide (endE_go (held := held) h0)
  have HZ := hide (opE_zero h0)
  have HOK := hide (HSO.out h0)
  obtain ⟨S, hSS⟩ : ∃ S, loadS (qs v) rows = S := ⟨_, rfl⟩
  have HSS := hide hSS
  rw [hSS] at hS HOK ⊢
  have K3 := K2.out.joinW hS
  dsimp only [List.cons_append, List.nil_append] at K3
  have hse : seatsE v = (((sumS v.secs : Nat) : Int), 0) := by unfold seatsE; rw [if_pos HZ.out.1]
  rw [hse] at HSEA
  obtain ⟨sn, hsn⟩ : ∃ sn, sumS v.secs = sn := ⟨_, rfl⟩
  rw [hsn] at HE HSEA
  clear K2 hS h0 c0 c1 c2 c3 cz hSS hx HSO hse hsn
  have tok3 : True := trivial
  have tok4 : True := trivial
  go_upto_region 2 with (first
    | (have zz := tok3; clear zz tok3; refine wpList_alS K3 rfl 82 rfl (lsC none none 0 0 0 0) (by kernel_rfl) ?_; intro w5 hz5 K6; clear hz5 K3)
    | (have zz := tok4; clear zz tok4; refine wpList_stS [] K6 rfl 82 (.tmp 10) (.tmp 26) rfl rfl (cs := lsC A' B' S.length c' S.length d') rfl (by kernel_rfl) rfl (lsC_one _ _ _ _ _ _) ?_; intro w6 K7; dsimp only [List.nil_append] at K7; clear K6))
  obtain ⟨g10, G10⟩ : ∃ g, w2.heap.size = g := ⟨_, rfl⟩
  rw [G10] at K7 ⊢
  clear G10
  obtain ⟨c0, c1, c2, c3, cz⟩ := blk4 (K7.blk (g := g4) (e := 24) (List.Mem.tail _ (List.Mem.tail _ (List.Mem.tail _ (List.Mem.head _)))))
  have K8 := hide K7
  clear K7
  go_wp2_with fail
  (with_reducible refine (HSEA.out _ K8.out.toExt).mono ?_)
  rintro e w7 ⟨rfl, hx⟩
  have K9 := hide (K8.out.ext hx)
  clear hx K8 HSEA c0 c1 c2 c3 cz
  go_wp2_with fail
  (with_reducible refine (HLO.out _ _ K9.out.toExt).mono ?_)
  rintro e w8 (⟨h1, A9, c9, hc9, rfl, hr9, hx⟩ | ⟨h1, rfl, hx⟩)
  rotate_left
  · have K10 := K9.out.ext hx
    have H1 := hide h1
    have hb : (ldE (sn : Nat) held != 0) = true := bne_iff_ne.2 h1
    clear K9 hx h1
    have tok2 : True := trivial
    have tok3 : True := trivial
    have tok4 : True := trivial
    go_wp2_with (first
      | (have zz := tok3; clear zz tok3; refine wpList_alS K10 rfl 94 rfl (hrC 0 none 0 0) (by kernel_rfl) ?_; intro w9 hz9 K11; clear hz9 K10)
      | (have zz := tok4; clear zz tok4; refine wpList_stS [] K11 rfl 94 (.tmp 14) (.tmp 41) rfl rfl (cs := hrC 0 none 0 0) rfl (by kernel_rfl) rfl (hrC_one _ _ _ _) ?_; intro w10 K12; dsimp only [List.nil_append] at K12; clear K11)
      | (have zz := tok2; clear zz tok2; refine wpList_stS [_, _, _] K12 rfl 34 (.tmp 8) (.tmp 45) rfl rfl (cs := rsC none none none none 0 0 0 0 0 0 0 0) rfl (by kernel_rfl) rfl (rsC_one rfl rfl rfl rfl) ?_; intro w11 K13; dsimp only [List.nil_append, List.cons_append] at K13; clear K12))
    refine bodyPost_ret (v := .tuple #[.agg (rsC none none none none 0 0 0 0 0 0 0 0).toArray, .int .i64 (ldE (sn : Nat) held)]) (results_ct rfl _ _ g8 34 (rsC none none none none 0 0 0 0 0 0 0 0) _ rfl (K13.blk (g := g8) (e := 34) (List.Mem.tail _ (List.Mem.tail _ (List.Mem.tail _ (List.Mem.head _))))) Tryz.underlying34 rfl (by kernel_rfl) rfl) rfl ?_
    refine ⟨[], fun h => absurd (HE.out.symm.trans h) H1.out, ?_⟩
    rw [HE.out, endA_bad H1.out]
    exact (resQ_none K13.toExt).elim fun F hF => ⟨_, F, rfl, hF⟩
  have HH := ldE_zero h1
  rw [h1] at HE
  have K10 := hide (K9.out.ext hx)
  have HR9 := hide (fun (y : World) (k : Ext w8 y) => hr9.ext k)
  have M0 := Sep.refl No w8
  have HDU := hide (fun (y : World) (k : Ext w8 y) => rdue_any (sn : Nat) now held A9 c9 y (HR9.out y k) hc9 HL.out HZ.out.2.2 HH.nd HH.d0)
  clear K9 hx h1 hr9 HH
  have tok5 : True := trivial
  have tok6 : True := trivial
  go_upto_region 6 with (first
    | (have zz := tok5; clear zz tok5; refine wpList_alS M0 rfl 94 rfl (hrC 0 none 0 0) (by kernel_rfl) ?_; intro w9 hz9 M1; clear hz9 M0)
    | (have zz := tok6; clear zz tok6; refine wpList_stS [] M1 rfl 94 (.tmp 14) (.tmp 41) rfl rfl (cs := hrC (sn : Nat) A9 held.length c9) rfl (by kernel_rfl) rfl (hrC_one _ _ _ _) ?_; intro w10 M2; dsimp only [List.nil_append] at M2; clear M1))
  obtain ⟨g14, G14⟩ : ∃ g, w8.heap.size = g := ⟨_, rfl⟩
  rw [G14] at M2 ⊢
  clear G14
  have HM := hide M2.toExt
  have K11 := K10.out.joinW M2
  dsimp only [List.cons_append, List.nil_append] at K11
  clear M2 K10
  have tok7 : True := trivial
  have tok8 : True := trivial
  have tok9 : True := trivial
  go_wp2_with (have zz := tok7; clear zz tok7; refine wpList_ldS K11 (List.Mem.head _) rfl 94 (.tmp 14) rfl rfl _ Tryz.underlying94 rfl (by kernel_rfl) ?_)
  (with_reducible refine (HDU.out _ HM.out).mono ?_)
  rintro e w11 ⟨Ah, nh, ch, vo, out, rfl, hdue, hS⟩
  have K12 := K11.joinW hS
  dsimp only [List.cons_append, List.nil_append] at K12
  have HDUE := hide hdue
  have hol := due_len hdue
  have hol2 := HL.out
  have hol3 : out.length ≤ 4000 := by omega
  clear K11 hS hdue HDU HM HR9 hol hol2
  go_upto_region 9 with (first
    | (have zz := tok8; clear zz tok8; refine wpList_alS K12 rfl 94 rfl (hrC 0 none 0 0) (by kernel_rfl) ?_; intro w12 hz12 K13; clear hz12 K12)
    | (have zz := tok9; clear zz tok9; refine wpList_stS [] K13 rfl 94 (.tmp 15) (.tmp 51) rfl rfl (cs := hrC (sn : Nat) Ah nh ch) rfl (by kernel_rfl) rfl (hrC_one _ _ _ _) ?_; intro w13 K14; dsimp only [List.nil_append] at K14; clear K13))
  have K15 := (K14.tail.sub (L' := [As.ownM 39 2 vo (hoV out), As.blk g10 82 (lsC A' B' S.length c' S.length d'), AsRf A' B' vs' S, As.blk g8 34 (rsC none none none none 0 0 0 0 0 0 0 0), As.blk g4 24 (vnC v A c)]) (.cons_cons _ (.cons _ (List.Sublist.refl _))))
  clear K14
  obtain ⟨Ao, co, rfl, -, hco, -⟩ := (K15.ownsM (e := 39) (k := 2) (v := vo) (rows := hoV out) (List.Mem.head _)).form
  rw [hoV_len] at K15 hco ⊢
  have K6 := hide (K15.nilO 3)
  clear K15
  have hol4 : (out.length : Int) ≤ 4000 := by omega
  go_wp2_with fail
  go_loopw [18, 19] (fun v18 v19 wr => ∃ i : Nat, v19 = .int .i64 i ∧ i ≤ out.length ∧ Hid (Sep No w wr [As.own 3 v18 (i64s ((out.map Ho.s).take i)), As.ownM 39 2 (.slice Ao out.length co) (hoV out), As.blk g10 82 (lsC A' B' S.length c' S.length d'), AsRf A' B' vs' S, As.blk g8 34 (rsC none none none none 0 0 0 0 0 0 0 0), As.blk g4 24 (vnC v A c)])) (fun v18 v19 _ => out.length - (intOf v19).toNat)
  case atStart => exact ⟨0, rfl, Nat.zero_le _, K6⟩
  case round =>
    clear K6
    obtain ⟨i, rfl, hil, K7⟩ := hrel
    by_cases hlt : i < out.length
    · have hli : (i : Int) < (out.length : Int) := by omega
      have hic : (i : Int) < (co : Int) := by omega
      obtain ⟨x, hx⟩ := some_of hlt
      obtain ⟨A', c', e', hrm, -, -⟩ := (K7.out.ownsM (e := 39) (k := 2) (v := .slice Ao out.length co) (rows := hoV out) (List.Mem.tail _ (List.Mem.head _))).form
      simp only [Value.slice.injEq] at e'
      obtain ⟨rfl, -, -⟩ := e'
      obtain ⟨b, off, hA, hat⟩ := ho_at hrm hx
      subst hA
      have x0 : wr.cell? ⟨b, off + i * 2, none⟩ = some (.int .i64 x.s) := hat 0 _ rfl
      have xz := cell_lt x0
      have HST := hide (seats_take hx)
      have HQ : Hid ((i64s ((out.map Ho.s).take i)).length < 1000000000) := hide (by rw [i64s_len, List.length_take]; omega)
      have HLT := hide hlt
      clear hlt hx hrm
      have K9 := K7.out
      clear K7
      have tok5 : True := trivial
      go_wp2_with (have zz := tok5; clear zz tok5; refine wpList_pushS [] K9 rfl (.tmp 60) (.tmp 66) 32 rfl i0 _ 8 Tryz.underlying32 ki kz0 kz1 kz2 rfl rfl rfl (by rfl) HQ.out (by decide) ?_; intro v18' w7 K10; dsimp only [List.nil_append, List.cons_append] at K10; clear K9 x0 xz hat)
      rw [HST.out] at K10
      have K11 := hide K10
      clear K10
      go_roundw
      case rel => exact ⟨i + 1, by go_num, HLT.out, K11⟩
      case measure => have := HLT.out; simp [intOf]; omega
    · have hli : ¬ (i : Int) < (out.length : Int) := by omega
      obtain rfl : i = out.length := by omega
      have ht : (out.map Ho.s).take out.length = out.map Ho.s := List.take_of_length_le (by rw [List.length_map]; exact Nat.le_refl _)
      rw [ht] at K7
      clear hlt ht
      obtain ⟨As', cs', hv18, hrs, hcs', -⟩ := (K7.out.owns (e := 3) (v := u18) (xs := i64s (out.map Ho.s)) (List.Mem.head _)).form
      subst hv18
      have hsl : (i64s (out.map Ho.s)).length = (out.map Ho.s).length := i64s_len _
      rw [hsl] at hcs'
      have K8 : Sep No w wr (AsRf A' B' vs' S :: [As.own 3 (.slice As' (i64s (out.map Ho.s)).length cs') (i64s (out.map Ho.s)), As.ownM 39 2 (.slice Ao out.length co) (hoV out), As.blk g10 82 (lsC A' B' S.length c' S.length d'), As.blk g8 34 (rsC none none none none 0 0 0 0 0 0 0 0), As.blk g4 24 (vnC v A c)]) := K7.out.perm (List.perm_middle (l₁ := [_, _, _]))
      have HF := hide (HOF.out HZ.out.1 S A' B' vs' c' d' (out.map Ho.s) As' cs' wr K8.toExt (K8.get (A := AsRf A' B' vs' S) (List.Mem.head _)) HOK.out HZ.out.2.2 hrs hcs' (by rw [List.length_map]; omega))
      rw [hsl, List.length_map]
      rw [List.length_map] at HF
      obtain ⟨c0, c1, c2, c3, cz⟩ := blk4 (K8.blk (g := g4) (e := 24) (List.Mem.tail _ (List.Mem.tail _ (List.Mem.tail _ (List.Mem.tail _ (List.Mem.tail _ (List.Mem.head _)))))))
      clear K7 hsl hrs hcs'
      have tok3 : True := trivial
      go_wp2_with (have zz := tok3; clear zz tok3; refine wpList_ldS K8 (List.Mem.tail _ (List.Mem.tail _ (List.Mem.tail _ (List.Mem.head _)))) rfl 82 (.tmp 10) rfl rfl _ Tryz.underlying82 rfl (by kernel_rfl) ?_)
      (with_reducible refine HF.out.mono ?_)
      rintro e w5 ⟨vg, vf, B2, d2, vs2, rfl, hS, hfp⟩
      have K9 := over_in K8 hS hfp
      dsimp only [List.cons_append, List.nil_append] at K9
      have hvg := ownMOne (K9.ownsM (e := 43) (k := 4) (v := vg) (List.Mem.tail _ (List.Mem.head _)))
      have hvf := ownOne (K9.owns (e := 3) (v := vf) (List.Mem.tail _ (List.Mem.tail _ (List.Mem.head _))))
      have HV0 := hide (rsC_one (show (Value.slice none 0 0).oneCell' = true from rfl) hvg (show (Value.slice B2 S.length d2).oneCell' = true from rfl) hvf)
      have HV := hide (rsC_one (show (Value.slice Ao out.length co).oneCell' = true from rfl) hvg (show (Value.slice B2 S.length d2).oneCell' = true from rfl) hvf)
      clear hvg hvf HF K8 hS hfp c0 c1 c2 c3 cz
      have tok4 : True := trivial
      have tok5 : True := trivial
      have tok6 : True := trivial
      have tok7 : True := trivial
      have tok8 : True := trivial
      go_upto_region 15 with (first
        | (have zz := tok4; clear zz tok4; refine wpList_alS K9 rfl 34 rfl (rsC none none none none 0 0 0 0 0 0 0 0) (by kernel_rfl) ?_; intro w6 hz6 K10; clear hz6 K9)
        | (have zz := tok5; clear zz tok5; refine wpList_stS [] K10 rfl 34 (.tmp 20) (.tmp 72) rfl rfl (cs := [.slice none 0 0, vg, .slice B2 S.length d2, vf]) rfl (by kernel_rfl) rfl HV0.out ?_; intro w7 K11; dsimp only [List.nil_append] at K11; clear K10))
      obtain ⟨g20, G20⟩ : ∃ g, w5.heap.size = g := ⟨_, rfl⟩
      rw [G20] at K11 ⊢
      clear G20
      have hl11 := (K11.blk (g := g20) (e := 34) (List.Mem.head _)).lt
      go_wp2_with (first
        | (have zz := tok6; clear zz tok6; refine wpList_st1S [] K11 rfl 28 (.tmp 74) (.tmp 73) rfl (i := 0) (v := .slice Ao out.length co) rfl rfl (by kernel_rfl) (show 0 < 4 by decide) rfl ?_; intro w8 K12; dsimp only [List.nil_append, List.cons_append, List.set] at K12; clear K11 hl11)
        | (have zz := tok7; clear zz tok7; refine wpList_ldS K12 (List.Mem.head _) rfl 34 (.tmp 20) rfl rfl _ Tryz.underlying34 rfl (by kernel_rfl) ?_)
        | (have zz := tok8; clear zz tok8; refine wpList_stS [_, _, _, _, _, _, _] K12 rfl 34 (.tmp 8) (.tmp 75) rfl rfl (cs := [.slice Ao out.length co, vg, .slice B2 S.length d2, vf]) rfl (by kernel_rfl) rfl HV.out ?_; intro w9 K13; dsimp only [List.nil_append, List.cons_append] at K13; clear K12))
      refine bodyPost_ret (v := .tuple #[.agg #[.slice Ao out.length co, vg, .slice B2 S.length d2, vf], .int .i64 0]) (results_ct rfl _ _ g8 34 [.slice Ao out.length co, vg, .slice B2 S.length d2, vf] _ rfl (K13.blk (g := g8) (e := 34) (List.Mem.tail _ (List.Mem.tail _ (List.Mem.tail _ (List.Mem.tail _ (List.Mem.tail _ (List.Mem.tail _ (List.Mem.tail _ (List.Mem.head _))))))))) Tryz.underlying34 rfl (by kernel_rfl) rfl) rfl ?_
      refine ⟨out, fun _ => HDUE.out, ?_⟩
      rw [HE.out, show endA 0 v rows now out = _ from if_pos rfl, HSS.out]
      have K14 := K13.tail
      clear K13
      obtain ⟨F, hF⟩ := res_as (bb := false) (M := [_, _, _, _, _]) K14 (fun y hp => by
        obtain ⟨A9, c9, e9, h9, -⟩ := OwnM.form (show OwnM y 39 2 (.slice Ao out.length co) (hoV out) from hp _ (List.Mem.tail _ (List.Mem.tail _ (List.Mem.tail _ (List.Mem.tail _ (List.Mem.head _))))))
        simp only [Value.slice.injEq] at e9
        obtain ⟨rfl, -, -⟩ := e9
        exact res_pt' (R := offO v (addT now v.ttl) S (out.map Ho.s)) (n := S.length) (d := d2) (hp _ (List.Mem.head _)) (hp _ (List.Mem.tail _ (List.Mem.head _))) (hp _ (List.Mem.tail _ (List.Mem.tail _ (List.Mem.head _)))) Ao co out h9 hco (offO_len _ _ _ _))
      exact ⟨_, F, rfl, hF.sub (.cons_cons _ (List.nil_sublist _))⟩
end Go.Proofs.YtdmaephmkfmehaaGreatDoor
namespace Go.Gr
open Go.RowKit
set_option linter.unusedVariables false
theorem over_add {w0 w w' : World} {L : List As} {A B : As} (h : Sep No w0 w L) (hx : Ext w w') (hp : B.p w') (hA : A.p w0) (hf : ∀ k, B.fp k → A.fp k ∨ w.heap.size ≤ k) : Sep No w0 w' (As.over w0 B :: L) :=
  h.new (B := As.over w0 B) hx (over_of hp (fun k hk => (h.ext hx).fr.block k hk (fun h => h))) (fun i hi => (hf i hi.1).elim (fun h1 => absurd (A.lt hA i h1) (by have := hi.2; omega)) (fun h1 => h1))
end Go.Gr
namespace Go.Pm
open Go.Wl
theorem first_takeE (S : St) (i : Int) : (firstS S i).2 = (takeS S i).2.2 := by
  unfold firstS takeS
  split
  · rfl
  · split <;> rfl
theorem first_iff {S : St} {i o : Int} (h : (takeS S i).2.2 = 0) (hp : (placeS S i o).2 = 0) : (takeS S i).2.1 = o ↔ ¬ 1 < (placeS S i o).1 := by
  unfold takeS at h ⊢
  unfold placeS at hp ⊢
  split at h
  · cases h
  · rename_i h1
    rw [if_neg h1] at hp ⊢
    rw [if_neg h1]
    split at h
    · cases h
    · rename_i h2
      rw [if_neg h2]
      split at hp
      · rename_i h3
        rw [if_pos h3]
        show (wt S i).getD 0 0 = o ↔ _
        cases hw : wt S i with
        | nil => exact absurd hw h2
        | cons a t =>
          simp only [List.getD_cons_zero]
          by_cases e : a = o
          · subst e; simp
          · have : ((a :: t).idxOf o) ≠ 0 := by
              have e2 : (a == o) = false := beq_eq_false_iff_ne.2 e
              simp [List.idxOf_cons, e2]
            constructor
            · intro h; exact absurd h e
            · intro h; omega
      · cases hp
end Go.Pm
namespace Go.Proofs.YtdmaephmkfmehaaGreatDoor
open Go.RowKit Go.Gr Go.Hp Go.Ad Go.Wl Go.Pm
set_option linter.unusedVariables false
set_option linter.unusedSimpArgs false
attribute [local go_sem] rdOp rdAt rdUpon Cls forall_fr
/-- lists after a step, and what is wrong with it -/
def StepR (A B : Option Addr) (vs : List Value) (S : St) (c : Nat) (S' : St) (E : Int) (w : World) (e : Ending) (w' : World) : Prop := ∃ (B' : Option Addr) (d' : Nat) (vs' : List Value), e = .returned (.tuple #[.agg (lsC A B' S.length c S.length d').toArray, .int .i64 E]) ∧ Ext w w' ∧ (AsRf A B' vs' S').p w' ∧ ∀ k, (AsRf A B' vs' S').fp k → (AsRf A B vs S).fp k ∨ w.heap.size ≤ k
theorem joinS_len (S : St) (i o : Int) : (joinS S i o).1.length = S.length := by
  unfold joinS
  split
  · rfl
  · split
    · rfl
    · split
      · rfl
      · simp [put]
theorem leaveS_len (S : St) (i o : Int) : (leaveS S i o).1.length = S.length := by
  unfold leaveS
  split
  · rfl
  · split
    · simp [put]
    · rfl

set_option maxRecDepth 100000 in
set_option maxHeartbeats 4000000 in
theorem step_any (A B : Option Addr) (vs : List Value) (S : St) (c d : Nat) (x : Sp) (w : World) (hrf : (AsRf A B vs S).p w) (hok : Ok S) (ho : 0 ≤ x.own ∧ x.own < 4294967296) :
    Calls Tryz.prog 45 #[.agg #[.slice A S.length c, .slice B S.length d], .agg #[.int .i64 x.kind, .int .i64 x.sec, .int .u32 x.own]] w (StepR A B vs S c (doS S x).1 (doS S x).2 w) := by
  obtain ⟨kd, sec, own⟩ := x
  dsimp only at ho ⊢
  have HRF := hide (fun (y : World) (k : Ext w y) => rf_ext hrf k)
  have HRW := hide hrf
  have HOK := hide hok
  obtain ⟨n, hn⟩ : ∃ n, S.length = n := ⟨_, rfl⟩
  have HN := hide hn
  rw [hn]
  have K0 := ((Sep.refl No w).add2 82 49 (lsC A B n c n d) [.int .i64 kd, .int .i64 sec, .int .u32 own]).add 82 (lsC none none 0 0 0 0)
  simp only [World.size_alloc] at K0
  clear hrf hok hn
  by_cases kb : kd < 1 ∨ 3 < kd
  · have HE : Hid (doS S ⟨kd, sec, own⟩ = (S, 2)) := hide (by unfold doS; rw [if_neg (by show ¬ kd = 1; omega), if_neg (by show ¬ kd = 2; omega), if_neg (by show ¬ kd = 3; omega)])
    rcases kb with kb | kb
    · go_enter Tryz.func45, Tryz.ntmps45
      go_upto_region 1 with fail
      generalize World.alloc _ _ = w1 at K0 ⊢
      obtain ⟨g2, G2⟩ : ∃ g, w.heap.size = g := ⟨_, rfl⟩
      rw [G2] at K0 ⊢
      obtain ⟨g3, G3⟩ : ∃ g, g2 + 1 = g := ⟨_, rfl⟩
      rw [G3] at K0 ⊢
      obtain ⟨g4, G4⟩ : ∃ g, g3 + 1 = g := ⟨_, rfl⟩
      rw [G4] at K0 ⊢
      clear G2 G3 G4
      obtain ⟨b0, b1, b2, bz⟩ := blk3 (K0.blk (g := g3) (e := 49) (List.Mem.tail _ (List.Mem.head _)))
      have tok1 : True := trivial
      have tok2 : True := trivial
      go_wp2_with (first
        | (have zz := tok1; clear zz tok1; refine wpList_ldS K0 (List.Mem.tail _ (List.Mem.tail _ (List.Mem.head _))) rfl 82 (.tmp 2) rfl rfl _ Tryz.underlying82 rfl (by kernel_rfl) ?_)
        | (have zz := tok2; clear zz tok2; refine wpList_stS [] K0 rfl 82 (.tmp 4) (.tmp 20) rfl rfl (cs := lsC A B n c n d) rfl (by kernel_rfl) rfl (lsC_one _ _ _ _ _ _) ?_; intro w8 K8; dsimp only [List.nil_append, List.cons_append] at K8; clear K0))
      refine bodyPost_ret (v := .tuple #[.agg (lsC A B n c n d).toArray, .int .i64 2]) (results_ct rfl _ _ g4 82 (lsC A B n c n d) _ rfl (K8.blk (g := g4) (e := 82) (List.Mem.head _)) Tryz.underlying82 rfl (by kernel_rfl) rfl) rfl ?_
      rw [HE.out]
      exact ⟨B, d, vs, by rw [HN.out], K8.toExt, HRF.out _ K8.toExt, fun k hk => .inl hk⟩
    · have kc : ¬ kd < 1 := by omega
      go_enter Tryz.func45, Tryz.ntmps45
      go_upto_region 1 with fail
      generalize World.alloc _ _ = w1 at K0 ⊢
      obtain ⟨g2, G2⟩ : ∃ g, w.heap.size = g := ⟨_, rfl⟩
      rw [G2] at K0 ⊢
      obtain ⟨g3, G3⟩ : ∃ g, g2 + 1 = g := ⟨_, rfl⟩
      rw [G3] at K0 ⊢
      obtain ⟨g4, G4⟩ : ∃ g, g3 + 1 = g := ⟨_, rfl⟩
      rw [G4] at K0 ⊢
      clear G2 G3 G4
      obtain ⟨b0, b1, b2, bz⟩ := blk3 (K0.blk (g := g3) (e := 49) (List.Mem.tail _ (List.Mem.head _)))
      have tok1 : True := trivial
      have tok2 : True := trivial
      go_wp2_with (first
        | (have zz := tok1; clear zz tok1; refine wpList_ldS K0 (List.Mem.tail _ (List.Mem.tail _ (List.Mem.head _))) rfl 82 (.tmp 2) rfl rfl _ Tryz.underlying82 rfl (by kernel_rfl) ?_)
        | (have zz := tok2; clear zz tok2; refine wpList_stS [] K0 rfl 82 (.tmp 4) (.tmp 20) rfl rfl (cs := lsC A B n c n d) rfl (by kernel_rfl) rfl (lsC_one _ _ _ _ _ _) ?_; intro w8 K8; dsimp only [List.nil_append, List.cons_append] at K8; clear K0))
      refine bodyPost_ret (v := .tuple #[.agg (lsC A B n c n d).toArray, .int .i64 2]) (results_ct rfl _ _ g4 82 (lsC A B n c n d) _ rfl (K8.blk (g := g4) (e := 82) (List.Mem.head _)) Tryz.underlying82 rfl (by kernel_rfl) rfl) rfl ?_
      rw [HE.out]
      exact ⟨B, d, vs, by rw [HN.out], K8.toExt, HRF.out _ K8.toExt, fun k hk => .inl hk⟩
  by_cases k1 : kd = 1
  · subst k1
    have HE : Hid (doS S ⟨1, sec, own⟩ = ((joinS S sec own).1, (joinS S sec own).2.2)) := hide rfl
    clear kb
    go_enter Tryz.func45, Tryz.ntmps45
    go_upto_region 1 with fail
    generalize World.alloc _ _ = w1 at K0 ⊢
    obtain ⟨g2, G2⟩ : ∃ g, w.heap.size = g := ⟨_, rfl⟩
    rw [G2] at K0 ⊢
    obtain ⟨g3, G3⟩ : ∃ g, g2 + 1 = g := ⟨_, rfl⟩
    rw [G3] at K0 ⊢
    obtain ⟨g4, G4⟩ : ∃ g, g3 + 1 = g := ⟨_, rfl⟩
    rw [G4] at K0 ⊢
    clear G2 G3 G4
    obtain ⟨b0, b1, b2, bz⟩ := blk3 (K0.blk (g := g3) (e := 49) (List.Mem.tail _ (List.Mem.head _)))
    have HJ := hide (rjoin_any (c := c) (d := d) (i := sec) (o := own) (HRF.out _ K0.toExt) HOK.out ho)
    have HJL : Hid ((joinS S sec own).1.length = n) := hide ((joinS_len S sec own).trans HN.out)
    rw [HN.out] at HJ
    have tok1 : True := trivial
    go_wp2_with (have zz := tok1; clear zz tok1; refine wpList_ldS K0 (List.Mem.tail _ (List.Mem.tail _ (List.Mem.head _))) rfl 82 (.tmp 2) rfl rfl _ Tryz.underlying82 rfl (by kernel_rfl) ?_)
    (with_reducible refine HJ.out.mono ?_)
    rintro e w2 ⟨v2, rfl, B', vs', d', rfl, hp, hx, hfp⟩
    have K1 := over_add K0 hx hp HRW.out hfp
    have HFP := hide (show ∀ k, (AsRf A B' vs' (joinS S sec own).1).fp k → (AsRf A B vs S).fp k ∨ w.heap.size ≤ k from fun k hk => (hfp k hk).imp id (Nat.le_trans K0.le))
    rw [HJL.out]
    clear K0 HJ b0 b1 b2 bz hp hx hfp
    have tok2 : True := trivial
    have tok3 : True := trivial
    have tok4 : True := trivial
    have tok5 : True := trivial
    go_upto_region 5 with (first
      | (have zz := tok2; clear zz tok2; refine wpList_alS K1 rfl 82 rfl (lsC none none 0 0 0 0) (by kernel_rfl) ?_; intro w3 hz3 K2; clear hz3 K1)
      | (have zz := tok3; clear zz tok3; refine wpList_stS [] K2 rfl 82 (.tmp 6) (.tmp 31) rfl rfl (cs := lsC A B' n c n d') rfl (by kernel_rfl) rfl (lsC_one _ _ _ _ _ _) ?_; intro w4 K3; dsimp only [List.nil_append] at K3; clear K2))
    obtain ⟨g6, G6⟩ : ∃ g, w2.heap.size = g := ⟨_, rfl⟩
    rw [G6] at K3 ⊢
    clear G6
    go_wp2_with (first
      | (have zz := tok4; clear zz tok4; refine wpList_ldS K3 (List.Mem.head _) rfl 82 (.tmp 6) rfl rfl _ Tryz.underlying82 rfl (by kernel_rfl) ?_)
      | (have zz := tok5; clear zz tok5; refine wpList_stS [_, _] K3 rfl 82 (.tmp 4) (.tmp 34) rfl rfl (cs := lsC A B' n c n d') rfl (by kernel_rfl) rfl (lsC_one _ _ _ _ _ _) ?_; intro w8 K8; dsimp only [List.nil_append, List.cons_append] at K8; clear K3))
    refine bodyPost_ret (v := .tuple #[.agg (lsC A B' n c n d').toArray, .int .i64 (joinS S sec own).2.2]) (results_ct rfl _ _ g4 82 (lsC A B' n c n d') _ rfl (K8.blk (g := g4) (e := 82) (List.Mem.tail _ (List.Mem.tail _ (List.Mem.head _)))) Tryz.underlying82 rfl (by kernel_rfl) rfl) rfl ?_
    rw [HE.out]
    exact ⟨B', d', vs', by rw [HN.out], K8.toExt, over_get K8 (List.Mem.tail _ (List.Mem.head _)), HFP.out⟩
  by_cases k2 : kd = 2
  · subst k2
    have HE : Hid (doS S ⟨2, sec, own⟩ = leaveS S sec own) := hide rfl
    clear kb k1
    go_enter Tryz.func45, Tryz.ntmps45
    go_upto_region 1 with fail
    generalize World.alloc _ _ = w1 at K0 ⊢
    obtain ⟨g2, G2⟩ : ∃ g, w.heap.size = g := ⟨_, rfl⟩
    rw [G2] at K0 ⊢
    obtain ⟨g3, G3⟩ : ∃ g, g2 + 1 = g := ⟨_, rfl⟩
    rw [G3] at K0 ⊢
    obtain ⟨g4, G4⟩ : ∃ g, g3 + 1 = g := ⟨_, rfl⟩
    rw [G4] at K0 ⊢
    clear G2 G3 G4
    obtain ⟨b0, b1, b2, bz⟩ := blk3 (K0.blk (g := g3) (e := 49) (List.Mem.tail _ (List.Mem.head _)))
    have HJ := hide (rleave_any (c := c) (d := d) (i := sec) (o := own) (HRF.out _ K0.toExt) HOK.out)
    have HJL : Hid ((leaveS S sec own).1.length = n) := hide ((leaveS_len S sec own).trans HN.out)
    rw [HN.out] at HJ
    have tok1 : True := trivial
    go_wp2_with (have zz := tok1; clear zz tok1; refine wpList_ldS K0 (List.Mem.tail _ (List.Mem.tail _ (List.Mem.head _))) rfl 82 (.tmp 2) rfl rfl _ Tryz.underlying82 rfl (by kernel_rfl) ?_)
    (with_reducible refine HJ.out.mono ?_)
    rintro e w2 ⟨v2, rfl, B', vs', d', rfl, hp, hx, hfp⟩
    have K1 := over_add K0 hx hp HRW.out hfp
    have HFP := hide (show ∀ k, (AsRf A B' vs' (leaveS S sec own).1).fp k → (AsRf A B vs S).fp k ∨ w.heap.size ≤ k from fun k hk => (hfp k hk).imp id (Nat.le_trans K0.le))
    rw [HJL.out]
    clear K0 HJ b0 b1 b2 bz hp hx hfp
    have tok5 : True := trivial
    go_wp2_with (have zz := tok5; clear zz tok5; refine wpList_stS [_] K1 rfl 82 (.tmp 4) (.tmp 45) rfl rfl (cs := lsC A B' n c n d') rfl (by kernel_rfl) rfl (lsC_one _ _ _ _ _ _) ?_; intro w8 K8; dsimp only [List.nil_append, List.cons_append] at K8; clear K1)
    refine bodyPost_ret (v := .tuple #[.agg (lsC A B' n c n d').toArray, .int .i64 (leaveS S sec own).2]) (results_ct rfl _ _ g4 82 (lsC A B' n c n d') _ rfl (K8.blk (g := g4) (e := 82) (List.Mem.tail _ (List.Mem.head _))) Tryz.underlying82 rfl (by kernel_rfl) rfl) rfl ?_
    rw [HE.out]
    exact ⟨B', d', vs', by rw [HN.out], K8.toExt, over_get K8 (List.Mem.head _), HFP.out⟩
  obtain rfl : kd = 3 := by omega
  have HE : Hid (doS S ⟨3, sec, own⟩ = (if (firstS S sec).2 ≠ 0 then (S, (firstS S sec).2) else if (placeS S sec own).2 ≠ 0 then (S, 8) else if 1 < (placeS S sec own).1 then (S, 7) else ((takeS S sec).1, 0))) := hide rfl
  rw [first_takeE] at HE
  clear kb k1 k2
  go_enter Tryz.func45, Tryz.ntmps45
  go_upto_region 1 with fail
  generalize World.alloc _ _ = w1 at K0 ⊢
  obtain ⟨g2, G2⟩ : ∃ g, w.heap.size = g := ⟨_, rfl⟩
  rw [G2] at K0 ⊢
  obtain ⟨g3, G3⟩ : ∃ g, g2 + 1 = g := ⟨_, rfl⟩
  rw [G3] at K0 ⊢
  obtain ⟨g4, G4⟩ : ∃ g, g3 + 1 = g := ⟨_, rfl⟩
  rw [G4] at K0 ⊢
  clear G2 G3 G4
  obtain ⟨b0, b1, b2, bz⟩ := blk3 (K0.blk (g := g3) (e := 49) (List.Mem.tail _ (List.Mem.head _)))
  have HJ := hide (rtake_any (c := c) (d := d) (i := sec) (HRF.out _ K0.toExt) HOK.out)
  have HJL : Hid ((takeS S sec).1.length = n) := hide ((Go.Pm.take_len S sec).trans HN.out)
  have HPL := hide (fun (y : World) (k : Ext w y) => rplaceL_any (c := c) (d := d) (i := sec) (o := own) (HRF.out y k) HOK.out)
  rw [HN.out] at HJ HPL
  have tok1 : True := trivial
  go_wp2_with (have zz := tok1; clear zz tok1; refine wpList_ldS K0 (List.Mem.tail _ (List.Mem.tail _ (List.Mem.head _))) rfl 82 (.tmp 2) rfl rfl _ Tryz.underlying82 rfl (by kernel_rfl) ?_)
  (with_reducible refine HJ.out.mono ?_)
  rintro e w2 ⟨v2, rfl, B', vs', d', rfl, hp, hx, hfp⟩
  have K1 := over_add K0 hx hp HRW.out hfp
  have HFP := hide (show ∀ k, (AsRf A B' vs' (takeS S sec).1).fp k → (AsRf A B vs S).fp k ∨ w.heap.size ≤ k from fun k hk => (hfp k hk).imp id (Nat.le_trans K0.le))
  rw [HJL.out]
  clear K0 HJ b0 b1 b2 bz hp hx hfp
  have tok2 : True := trivial
  have tok3 : True := trivial
  go_upto_region 9 with (first
    | (have zz := tok2; clear zz tok2; refine wpList_alS K1 rfl 82 rfl (lsC none none 0 0 0 0) (by kernel_rfl) ?_; intro w3 hz3 K2; clear hz3 K1)
    | (have zz := tok3; clear zz tok3; refine wpList_stS [] K2 rfl 82 (.tmp 9) (.tmp 52) rfl rfl (cs := lsC A B' n c n d') rfl (by kernel_rfl) rfl (lsC_one _ _ _ _ _ _) ?_; intro w4 K3; dsimp only [List.nil_append] at K3; clear K2))
  obtain ⟨g9, G9⟩ : ∃ g, w2.heap.size = g := ⟨_, rfl⟩
  rw [G9] at K3 ⊢
  clear G9
  by_cases hc : (takeS S sec).2.2 = 0
  rotate_left
  · have HE1 : Hid (doS S ⟨3, sec, own⟩ = (S, (takeS S sec).2.2)) := hide (by rw [HE.out, if_pos hc])
    have hb : ((takeS S sec).2.2 != 0) = true := bne_iff_ne.2 hc
    clear HE hc
    have tok4 : True := trivial
    have tok5 : True := trivial
    go_wp2_with (first
      | (have zz := tok4; clear zz tok4; refine wpList_ldS K3 (List.Mem.tail _ (List.Mem.tail _ (List.Mem.tail _ (List.Mem.tail _ (List.Mem.head _))))) rfl 82 (.tmp 2) rfl rfl _ Tryz.underlying82 rfl (by kernel_rfl) ?_)
      | (have zz := tok5; clear zz tok5; refine wpList_stS [_, _] K3 rfl 82 (.tmp 4) (.tmp 57) rfl rfl (cs := lsC A B n c n d) rfl (by kernel_rfl) rfl (lsC_one _ _ _ _ _ _) ?_; intro w8 K8; dsimp only [List.nil_append, List.cons_append] at K8; clear K3))
    refine bodyPost_ret (v := .tuple #[.agg (lsC A B n c n d).toArray, .int .i64 (takeS S sec).2.2]) (results_ct rfl _ _ g4 82 (lsC A B n c n d) _ rfl (K8.blk (g := g4) (e := 82) (List.Mem.tail _ (List.Mem.tail _ (List.Mem.head _)))) Tryz.underlying82 rfl (by kernel_rfl) rfl) rfl ?_
    rw [HE1.out]
    exact ⟨B, d, vs, by rw [HN.out], K8.toExt, HRF.out _ K8.toExt, fun k hk => .inl hk⟩
  have HE1 : Hid (doS S ⟨3, sec, own⟩ = (if (placeS S sec own).2 ≠ 0 then (S, 8) else if 1 < (placeS S sec own).1 then (S, 7) else ((takeS S sec).1, 0))) := hide (by rw [HE.out, if_neg (fun e => e hc)])
  have HC := hide hc
  rw [hc]
  clear HE hc
  obtain ⟨b0, b1, b2, bz⟩ := blk3 (K3.blk (g := g3) (e := 49) (List.Mem.tail _ (List.Mem.tail _ (List.Mem.tail _ (List.Mem.head _)))))
  have tok4 : True := trivial
  go_wp2_with (have zz := tok4; clear zz tok4; refine wpList_ldS K3 (List.Mem.tail _ (List.Mem.tail _ (List.Mem.tail _ (List.Mem.tail _ (List.Mem.head _))))) rfl 82 (.tmp 2) rfl rfl _ Tryz.underlying82 rfl (by kernel_rfl) ?_)
  (with_reducible refine (HPL.out _ K3.toExt).mono ?_)
  rintro e w5 ⟨rfl, hx⟩
  have K4 := K3.ext hx
  clear K3 hx b0 b1 b2 bz
  by_cases hp : (placeS S sec own).2 = 0
  rotate_left
  · have HE2 : Hid (doS S ⟨3, sec, own⟩ = (S, 8)) := hide (by rw [HE1.out, if_pos hp])
    have hb : ((placeS S sec own).2 != 0) = true := bne_iff_ne.2 hp
    clear HE1 hp
    have tok5 : True := trivial
    have tok6 : True := trivial
    go_wp2_with (first
      | (have zz := tok6; clear zz tok6; refine wpList_ldS K4 (List.Mem.tail _ (List.Mem.tail _ (List.Mem.tail _ (List.Mem.tail _ (List.Mem.head _))))) rfl 82 (.tmp 2) rfl rfl _ Tryz.underlying82 rfl (by kernel_rfl) ?_)
      | (have zz := tok5; clear zz tok5; refine wpList_stS [_, _] K4 rfl 82 (.tmp 4) (.tmp 70) rfl rfl (cs := lsC A B n c n d) rfl (by kernel_rfl) rfl (lsC_one _ _ _ _ _ _) ?_; intro w8 K8; dsimp only [List.nil_append, List.cons_append] at K8; clear K4))
    refine bodyPost_ret (v := .tuple #[.agg (lsC A B n c n d).toArray, .int .i64 8]) (results_ct rfl _ _ g4 82 (lsC A B n c n d) _ rfl (K8.blk (g := g4) (e := 82) (List.Mem.tail _ (List.Mem.tail _ (List.Mem.head _)))) Tryz.underlying82 rfl (by kernel_rfl) rfl) rfl ?_
    rw [HE2.out]
    exact ⟨B, d, vs, by rw [HN.out], K8.toExt, HRF.out _ K8.toExt, fun k hk => .inl hk⟩
  have HE2 : Hid (doS S ⟨3, sec, own⟩ = (if 1 < (placeS S sec own).1 then (S, 7) else ((takeS S sec).1, 0))) := hide (by rw [HE1.out, if_neg (fun e => e hp)])
  have hfi := first_iff HC.out hp
  rw [hp]
  obtain ⟨b0, b1, b2, bz⟩ := blk3 (K4.blk (g := g3) (e := 49) (List.Mem.tail _ (List.Mem.tail _ (List.Mem.tail _ (List.Mem.head _)))))
  by_cases hf : 1 < (placeS S sec own).1
  · have HE3 : Hid (doS S ⟨3, sec, own⟩ = (S, 7)) := hide (by rw [HE2.out, if_pos hf])
    have hb : ((takeS S sec).2.1 != own) = true := bne_iff_ne.2 (fun e => hfi.1 e hf)
    clear HE1 HE2 hp hfi hf
    have tok5 : True := trivial
    have tok6 : True := trivial
    go_wp2_with (first
      | (have zz := tok6; clear zz tok6; refine wpList_ldS K4 (List.Mem.tail _ (List.Mem.tail _ (List.Mem.tail _ (List.Mem.tail _ (List.Mem.head _))))) rfl 82 (.tmp 2) rfl rfl _ Tryz.underlying82 rfl (by kernel_rfl) ?_)
      | (have zz := tok5; clear zz tok5; refine wpList_stS [_, _] K4 rfl 82 (.tmp 4) (.tmp 75) rfl rfl (cs := lsC A B n c n d) rfl (by kernel_rfl) rfl (lsC_one _ _ _ _ _ _) ?_; intro w8 K8; dsimp only [List.nil_append, List.cons_append] at K8; clear K4 b0 b1 b2 bz))
    refine bodyPost_ret (v := .tuple #[.agg (lsC A B n c n d).toArray, .int .i64 7]) (results_ct rfl _ _ g4 82 (lsC A B n c n d) _ rfl (K8.blk (g := g4) (e := 82) (List.Mem.tail _ (List.Mem.tail _ (List.Mem.head _)))) Tryz.underlying82 rfl (by kernel_rfl) rfl) rfl ?_
    rw [HE3.out]
    exact ⟨B, d, vs, by rw [HN.out], K8.toExt, HRF.out _ K8.toExt, fun k hk => .inl hk⟩
  · have HE3 : Hid (doS S ⟨3, sec, own⟩ = ((takeS S sec).1, 0)) := hide (by rw [HE2.out, if_neg hf])
    have hb : ((takeS S sec).2.1 != own) = false := by rw [hfi.2 hf]; exact bne_self_eq_false _
    clear HE1 HE2 hp hfi hf
    have tok5 : True := trivial
    have tok6 : True := trivial
    go_wp2_with (first
      | (have zz := tok6; clear zz tok6; refine wpList_ldS K4 (List.Mem.head _) rfl 82 (.tmp 9) rfl rfl _ Tryz.underlying82 rfl (by kernel_rfl) ?_)
      | (have zz := tok5; clear zz tok5; refine wpList_stS [_, _] K4 rfl 82 (.tmp 4) (.tmp 76) rfl rfl (cs := lsC A B' n c n d') rfl (by kernel_rfl) rfl (lsC_one _ _ _ _ _ _) ?_; intro w8 K8; dsimp only [List.nil_append, List.cons_append] at K8; clear K4 b0 b1 b2 bz))
    refine bodyPost_ret (v := .tuple #[.agg (lsC A B' n c n d').toArray, .int .i64 0]) (results_ct rfl _ _ g4 82 (lsC A B' n c n d') _ rfl (K8.blk (g := g4) (e := 82) (List.Mem.tail _ (List.Mem.tail _ (List.Mem.head _)))) Tryz.underlying82 rfl (by kernel_rfl) rfl) rfl ?_
    rw [HE3.out]
    exact ⟨B', d', vs', by rw [HN.out], K8.toExt, over_get K8 (List.Mem.tail _ (List.Mem.head _)), HFP.out⟩
end Go.Proofs.YtdmaephmkfmehaaGreatDoor
namespace Go.Pm
open Go.Wl Go.Ad
theorem doS_len (S : St) (x : Sp) : (doS S x).1.length = S.length := by
  unfold doS
  split
  · exact Go.Proofs.YtdmaephmkfmehaaGreatDoor.joinS_len _ _ _
  · split
    · exact Go.Proofs.YtdmaephmkfmehaaGreatDoor.leaveS_len _ _ _
    · split
      · split
        · rfl
        · split
          · rfl
          · split
            · rfl
            · exact take_len _ _
      · rfl
theorem doS_ok {S : St} (h : Ok S) (x : Sp) (ho : 0 ≤ x.own ∧ x.own < 4294967296) : Ok (doS S x).1 := by
  unfold doS
  split
  · exact join_ok h _ ho
  · split
    · exact leave_ok h _ _
    · split
      · split
        · exact h
        · split
          · exact h
          · split
            · exact h
            · exact take_ok h _
      · exact h
end Go.Pm
namespace Go.Proofs.YtdmaephmkfmehaaGreatDoor
open Go.RowKit Go.Gr Go.Hp Go.Ad Go.Wl Go.Pm
set_option linter.unusedVariables false
set_option linter.unusedSimpArgs false
attribute [local go_sem] rdOp rdAt rdUpon Cls forall_fr

set_option maxRecDepth 100000 in
set_option maxHeartbeats 4000000 in
theorem rfair_any (v : Vn) (A : Option Addr) (c : Nat) (l : List Sp) (C : Option Addr) (cs : Nat) (w : World) (h : Secs w A v.secs) (hc : v.secs.length ≤ c) (hw : VnW v) (hC : RdM w C 3 (spV l)) (ho : ∀ x ∈ l, 0 ≤ x.own ∧ x.own < 4294967296) (hls : l.length ≤ cs) (hl : l.length ≤ 1000000) :
    Calls Tryz.prog 20 #[.agg #[.int .i64 v.sh, .int .i64 v.ttl, .int .i64 v.ses, .slice A v.secs.length c], .slice C l.length cs] w (FairR w (fairE v l)) := by
  have HS := hide (fun (y : World) (k : Ext w y) => h.ext k)
  have HC := hide hc
  have HCC := hide (fun (y : World) (k : Ext w y) => hC.ext k)
  have HCK := hide (fun (y : World) (k : Ext w y) => ref_check v A c y (HS.out y k) hc hw)
  have HO := hide ho
  have HLS := hide hls
  have hl2 : (l.length : Int) ≤ 1000000 := by omega
  clear h hc hw hC ho hls
  have K0 := (Sep.refl No w).add 24 (vnC v A c)
  go_enter Tryz.func20, Tryz.ntmps20
  go_upto_region 1 with fail
  generalize w.alloc _ = w1 at K0 ⊢
  obtain ⟨g2, G2⟩ : ∃ g, w.heap.size = g := ⟨_, rfl⟩
  rw [G2] at K0 ⊢
  clear G2
  have K1 := hide K0
  clear K0
  obtain ⟨c0, c1, c2, c3, cz⟩ := blk4 (K1.out.blk (g := g2) (e := 24) (List.Mem.head _))
  go_wp2_with fail
  (with_reducible refine (HCK.out _ K1.out.toExt).mono ?_)
  rintro e w2 ⟨rfl, hx⟩
  have K2 := hide (K1.out.ext hx)
  clear K1 hx HCK c0 c1 c2 c3 cz
  by_cases hz : (chk v).2 = 0
  rotate_left
  · have HE : Hid (fairE v l = (-1, (chk v).2)) := hide (by unfold fairE; rw [if_pos hz])
    have hb : ((chk v).2 != 0) = true := bne_iff_ne.2 hz
    have hb2 : ((chk v).2 == 0) = false := beq_eq_false_iff_ne.2 hz
    clear hz
    go_wp2_with fail
    go_ret2
    rw [HE.out]
    exact ⟨rfl, K2.out.toExt⟩
  obtain ⟨hok, hch⟩ := chk_zero hz
  have HZ := hide hz
  have h8 := hok.few
  have HQ := hide (fun (y : World) (k : Ext w y) => limits_any v A c y (HS.out y k) HC.out (by omega))
  have HQS : Hid (limE (qs v) = 0) := hide (qs_ok hok)
  rw [hch]
  clear hok hch hz
  by_cases hm : 1000 < l.length
  · have HE : Hid (fairE v l = (-1, 3)) := hide (by unfold fairE; rw [if_neg (fun e => e HZ.out), if_pos hm])
    have hmi : (1000 : Int) < (l.length : Int) := by omega
    clear hm
    go_wp2_with fail
    go_ret2
    rw [HE.out]
    exact ⟨rfl, K2.out.toExt⟩
  have HE : Hid (fairE v l = fairG (newS (qs v)) 0 (l.drop 0)) := hide (by unfold fairE; rw [if_neg (fun e => e HZ.out), if_neg hm]; rfl)
  have hmi : ¬ (1000 : Int) < (l.length : Int) := by omega
  have HM := hide hm
  clear hm
  obtain ⟨c0, c1, c2, c3, cz⟩ := blk4 (K2.out.blk (g := g2) (e := 24) (List.Mem.head _))
  go_wp2_with fail
  (with_reducible refine (HQ.out _ K2.out.toExt).mono ?_)
  rintro e w3 ⟨x, rfl, hS⟩
  have K3 := hide (K2.out.joinW hS)
  obtain ⟨A4, c4, rfl, hr4, -, -⟩ := (hS.owns (e := 3) (v := x) (List.Mem.head _)).form
  have HNW := hide (rnew_any (qs v) A4 c4 w3 hr4 (by rw [qs_len]; omega))
  rw [i64s_len]
  clear hS hr4 K2 HQ c0 c1 c2 c3 cz
  go_wp2_with fail
  (with_reducible refine HNW.out.mono ?_)
  rintro e w4 ⟨hg, -⟩
  obtain ⟨A', B', c', d', vs', rfl, hS4⟩ := hg HQS.out
  obtain ⟨n, hn⟩ : ∃ n, (qs v).length = n := ⟨_, rfl⟩
  have HNL : Hid ((newS (qs v)).length = n ∧ Ok (newS (qs v))) := hide ⟨by rw [← hn]; simp [newS], newS_ok HQS.out⟩
  have K4 : Sep No w w4 [AsRf A' B' vs' (newS (qs v)), As.blk g2 24 (vnC v A c)] := (K3.out.joinW hS4).sub (.cons_cons _ (.cons _ (List.Sublist.refl _)))
  rw [hn]
  clear hg hS4 K3 HNW hn
  have tok1 : True := trivial
  have tok2 : True := trivial
  go_upto_region 7 with (first
    | (have zz := tok1; clear zz tok1; refine wpList_alS K4 rfl 82 rfl (lsC none none 0 0 0 0) (by kernel_rfl) ?_; intro w5 hz5 K5; clear hz5 K4)
    | (have zz := tok2; clear zz tok2; refine wpList_stS [] K5 rfl 82 (.tmp 8) (.tmp 30) rfl rfl (cs := lsC A' B' n c' n d') rfl (by kernel_rfl) rfl (lsC_one _ _ _ _ _ _) ?_; intro w6 K6; dsimp only [List.nil_append] at K6; clear K5))
  obtain ⟨g8, G8⟩ : ∃ g, w4.heap.size = g := ⟨_, rfl⟩
  rw [G8] at K6 ⊢
  clear G8
  have K7 := hide K6.swap
  clear K6
  go_wp2_with fail
  go_loopw [10] (fun v10 wr => ∃ (i : Nat) (S : St) (B : Option Addr) (vs : List Value) (d : Nat), v10 = .int .i64 i ∧ i ≤ l.length ∧ Hid (fairE v l = fairG S i (l.drop i) ∧ S.length = n ∧ Ok S) ∧ Hid (Sep No w wr [AsRf A' B vs S, As.blk g8 82 (lsC A' B n c' n d), As.blk g2 24 (vnC v A c)])) (fun v10 _ => l.length - (intOf v10).toNat)
  case atStart => exact ⟨0, newS (qs v), B', vs', d', rfl, Nat.zero_le _, hide ⟨HE.out, HNL.out.1, HNL.out.2⟩, K7⟩
  case round =>
    clear K7 HE
    obtain ⟨i, S, B, vs, d, rfl, hil, HE, K5⟩ := hrel
    have hi1000 : i ≤ 1000 := by have := HM.out; omega
    by_cases hlt : i < l.length
    · have hli : (i : Int) < (l.length : Int) := by omega
      have hic : (i : Int) < (cs : Int) := by have := HLS.out; omega
      obtain ⟨x, hx⟩ := some_of hlt
      obtain ⟨b, off, hA, hat⟩ := sp_at (HCC.out _ K5.out.toExt) hx
      subst hA
      have HAT := hide (fun (y : World) (k : Ext w y) => by
        obtain ⟨b', off', hA', hat'⟩ := sp_at (HCC.out y k) hx
        simp only [Option.some.injEq, Addr.mk.injEq, and_true] at hA'
        obtain ⟨rfl, rfl⟩ := hA'
        exact hat')
      have hxo := HO.out x (List.mem_of_getElem? hx)
      have HXO := hide hxo
      have HX := hide hx
      have HLT := hide hlt
      clear hx hlt hat hxo
      go_upto_region 10 with fail
      refine wp_region_ws (RT.fr No) 9 [0, 1, 2, 3, 4, 5, 6, 7, 8, 9, 10] (by kernel_rfl) (by kernel_rfl) (by kernel_rfl) (by kernel_rfl) ?_
      have KD := K5.out.drew
      clear K5
      generalize World.drew _ = wd at *
      have hB8 := KD.blk (g := g8) (e := 82) (cs := lsC A' B n c' n d) (List.Mem.tail _ (List.Mem.head _))
      have HST := hide (step_any A' B vs S c' d x wd (KD.get (A := AsRf A' B vs S) (List.Mem.head _)) HE.out.2.2 HXO.out)
      obtain ⟨S', hS'⟩ : ∃ q, (doS S x).1 = q := ⟨_, rfl⟩
      obtain ⟨E, hE⟩ : ∃ q, (doS S x).2 = q := ⟨_, rfl⟩
      have HSL : Hid (S'.length = n ∧ Ok S') := hide ⟨by rw [← hS', doS_len, HE.out.2.1], by rw [← hS']; exact doS_ok HE.out.2.2 x HXO.out⟩
      rw [hS', hE, HE.out.2.1] at HST
      have HSE := hide (And.intro hS' hE)
      clear hS' hE
      refine ws_ldX rfl rfl (by kernel_rfl) rfl 82 (.tmp 8) rfl (fun w' h' => hB8.at5.ext h'.ext) rfl _ Tryz.underlying82 rfl (by kernel_rfl) ?_
      iterate 3 (refine ws_pure rfl rfl rfl (fun K hK => ?_); go_simp; refine hK _ ?_; clear hK K)
      refine ws_ldX rfl rfl (by kernel_rfl) rfl 49 (.tmp 42) rfl (fun w' h' => (HAT.out _ KD.toExt).ext h'.ext) rfl _ Tryz.underlying49 rfl (by kernel_rfl) ?_
      refine ws_ext rfl rfl rfl (fun K hK => ?_)
      go_simp
      go_at_call 45
      (with_reducible refine HST.out.mono ?_)
      rintro e w7 ⟨B2, d2, vs2, rfl, hx, hp, hfp⟩
      rw [HE.out.2.1]
      refine hK _ _ (Fr.of_ext hx) ?_
      clear hK K
      have K6 := KD.upd (L1 := []) (B := AsRf A' B2 vs2 S') (S := No) (Fr.of_ext hx) (fun i h => h.elim) hp hfp
      dsimp only [List.nil_append] at K6
      clear KD hx hp hfp hB8 HST
      iterate 3 (refine ws_pure rfl rfl rfl (fun K hK => ?_); go_simp; refine hK _ ?_; clear hK K)
      refine ws_at rfl (fun K hK => ?_)
      rw [if_pos (show Region.wanted _ _ = true from rfl)]
      refine wp_stS [_] K6 82 (.tmp 8) (.tmp 45) rfl (cs := lsC A' B2 n c' n d2) rfl rfl (by kernel_rfl) rfl (lsC_one _ _ _ _ _ _) (fun w8 K7 hu => ?_)
      refine hK _ _ ?_
      clear hK K hu K6
      dsimp only [List.nil_append, List.cons_append] at K7
      have K8 := hide K7
      clear K7
      iterate 1 (refine wmr_rd rfl rfl (fun K hK => ?_); go_simp; refine hK _ ?_; clear hK K)
      refine wmr_nil ?_
      by_cases hE : E = 0
      rotate_left
      · have hb : (E != 0) = true := bne_iff_ne.2 hE
        have HE2 : Hid (fairE v l = ((i : Int), E)) := hide (by rw [HE.out.1, fairG_bad HX.out (by rw [HSE.out.2]; exact hE), HSE.out.2])
        clear hE
        go_wp2_with fail
        go_ret2
        rw [HE2.out]
        exact ⟨rfl, K8.out.toExt⟩
      subst hE
      have HE2 : Hid (fairE v l = fairG S' (i + 1) (l.drop (i + 1)) ∧ S'.length = n ∧ Ok S') := hide ⟨by rw [HE.out.1, fairG_next HX.out HSE.out.2, HSE.out.1], HSL.out.1, HSL.out.2⟩
      go_wp2_with fail
      go_roundw
      case rel => exact ⟨i + 1, S', B2, vs2, d2, by go_num, HLT.out, HE2, K8⟩
      case measure => have := HLT.out; simp [intOf]; omega
    · have hli : ¬ (i : Int) < (l.length : Int) := by omega
      obtain rfl : i = l.length := by omega
      have HE2 : Hid (fairE v l = (-1, 0)) := hide (by rw [HE.out.1]; exact fairG_end (Nat.le_refl _))
      clear hlt
      go_wp2_with fail
      go_ret2
      rw [HE2.out]
      exact ⟨rfl, K5.out.toExt⟩
end Go.Proofs.YtdmaephmkfmehaaGreatDoor
