/- Promote: the law PromoteOrder walked. -/
import Derived.Test.YtdmaephmkfmehaaGreatDoorP3
import Derived.Test.YtdmaephmkfmehaaGreatDoorPJ
namespace Go.Pm
open Go.Wl Go.Ad Go.Proofs.YtdmaephmkfmehaaGreatDoor
theorem offA_good {v : Vn} {rows : List (List Int)} {seats : List Int} {now : Int} (h : offE v rows seats now = 0) : offA v rows seats now = ⟨[], (offO v (addT now v.ttl) (loadS (qs v) rows) seats).gr, rowsS (offO v (addT now v.ttl) (loadS (qs v) rows) seats).S, (offO v (addT now v.ttl) (loadS (qs v) rows) seats).fr⟩ := by unfold offA; rw [if_pos h]
theorem offE_zero {v : Vn} {rows : List (List Int)} {seats : List Int} {now : Int} (h : offE v rows seats now = 0) : opE v rows now = 0 ∧ seatsG v [] seats = 0 := by
  unfold offE at h
  split at h
  · rename_i h1; exact absurd h h1
  · rename_i h1; exact ⟨by simpa using h1, h⟩
theorem just_offer {v : Vn} {rows : List (List Int)} {seats : List Int} {now : Int} (h : offE v rows seats now = 0) : JustP v (addT now v.ttl) rows seats (offO v (addT now v.ttl) (loadS (qs v) rows) seats) := by
  obtain ⟨h1, h2⟩ := offE_zero h
  obtain ⟨h3, h4, -⟩ := seatsG_zero h2
  exact just_p (opE_zero h1).1 (opE_zero h1).2.1 h3 h4
end Go.Pm
namespace Go.Proofs.YtdmaephmkfmehaaGreatDoor
open Go.RowKit Go.Gr Go.Hp Go.Ad Go.Wl Go.Pm
set_option linter.unusedVariables false
set_option linter.unusedSimpArgs false
attribute [local go_sem] rdOp rdAt rdUpon Cls forall_fr

set_option maxRecDepth 100000 in
set_option maxHeartbeats 4000000 in
theorem order_law (w : World) (_ : True) (v0 : Value) (h0 : ∃ cs, v0 = .agg cs ∧ Lvs Tryz.prog w [.int .i64, .int .i64, .int .i64, .slice 100, .slice 47, .int .i64] cs.toList) (v1 : Value) (h1 : LfOk Tryz.prog w (.slice 3) v1) : Calls Tryz.prog 8 #[v0, v1] w fun e w' => e = .returned (.bool true) ∧ Ext w w' := by
  obtain ⟨v, A, c, rows, B, vs, d, now, rfl, hH⟩ := house_arg h0
  obtain ⟨C, seats, cs, rfl, hC, hwf, hls, hlm⟩ := pints_arg h1
  clear h0 h1
  have HFAR := hide (fun (y : World) (k : Ext w y) => far_any v A c rows B vs d now y (hH.ext k).secs hH.cap hH.vw (hH.ext k).rws hH.rcap hH.many (fun r hr => (hH.row r hr).1))
  have HSOK := hide (fun (h : opE v rows now = 0) => loadS_ok (opE_zero h).2.1 (fun r hr => (hH.row r hr).2))
  have HFEW := hide (fun (hl : seats.length ≤ 9000) => offA_few (now := now) hl HSOK.out)
  have HOF := hide (fun (hm : rows.length ≤ 10) (hr : ∀ r ∈ rows, r.length ≤ 80) (hl : seats.length ≤ 9000) (y : World) (k : Ext w y) => poffer_any v A c rows B vs d seats C cs now y (hH.ext k).secs hH.cap hH.vw (hH.ext k).rws (by omega) (fun r h => ⟨by have := hr r h; omega, (hH.row r h).2⟩) hH.now.2 (hC.ext k) hwf hls hl)
  have HJU := hide (fun (h10 : rows.length ≤ 10) (h80 : ∀ r ∈ rows, r.length ≤ 80) (hl : seats.length ≤ 9000) (hE : offE v rows seats now = 0) (y : World) (k : Ext w y) (x : Value) (hr : IsRes true y x (offA v rows seats now)) => just_any v A c rows B vs d now (addT now v.ttl) seats C cs [] (offO v (addT now v.ttl) (loadS (qs v) rows) seats) x y (hH.ext k) (offA_good hE ▸ hr) (offA_good hE ▸ HFEW.out hl) (just_offer hE) (hC.ext k) hls hl h10 h80)
  have HEN := hide (fun (hE : offE v rows seats now = 0) => (show (offA v rows seats now).en = [] by rw [offA_good hE]))
  have HBAD := hide (fun (hE : offE v rows seats now ≠ 0) => offA_bad rfl hE)
  obtain ⟨E, hE⟩ : ∃ q, offE v rows seats now = q := ⟨_, rfl⟩
  obtain ⟨a, ha⟩ : ∃ q, offA v rows seats now = q := ⟨_, rfl⟩
  rw [hE, ha] at HOF HJU HEN HBAD
  have hrc := hH.rcap
  have hrm := hH.many
  clear hE ha hC hwf HSOK HFEW hH
  have K0 := (Sep.refl No w).add 27 (hoX v A c B rows.length d now)
  go_enter Tryz.func8, Tryz.ntmps8
  go_upto_region 1 with fail
  generalize w.alloc _ = w1 at K0 ⊢
  obtain ⟨g2, G2⟩ : ∃ g, w.heap.size = g := ⟨_, rfl⟩
  rw [G2] at K0 ⊢
  clear G2
  have K1 := hide K0
  clear K0
  obtain ⟨c0, c1, c2, c3, c4, c5, cz⟩ := q6 (K1.out.blk (g := g2) (e := 27) (List.Mem.head _))
  go_wp2_with fail
  (with_reducible refine (HFAR.out _ K1.out.toExt).mono ?_)
  rintro e w2 ⟨b, rfl, hb, hx⟩
  have K2 := hide (K1.out.ext hx)
  clear K1 hx HFAR c0 c1 c2 c3 c4 c5 cz
  cases b
  rotate_left
  · go_wp2_with fail
    (with_reducible refine (pawake_any _).mono ?_)
    rintro e w3 ⟨rfl, hx⟩
    go_wp2_with fail
    go_ret
    exact ⟨rfl, K2.out.toExt.trans hx⟩
  obtain ⟨hr10, hr80⟩ := hb rfl
  clear hb
  by_cases hl : 100 < seats.length
  · have e1 : (100 : Int) < (seats.length : Int) := by omega
    clear hl
    go_wp2_with fail
    (with_reducible refine (pawake_any _).mono ?_)
    rintro e w3 ⟨rfl, hx⟩
    go_wp2_with fail
    go_ret
    exact ⟨rfl, K2.out.toExt.trans hx⟩
  have e1 : ¬ (100 : Int) < (seats.length : Int) := by omega
  have HO := hide (HOF.out hr10 hr80 (by omega))
  have HJ := hide (HJU.out hr10 hr80 (by omega))
  clear HJU HOF hl hr80
  obtain ⟨c0, c1, c2, c3, c4, c5, cz⟩ := q6 (K2.out.blk (g := g2) (e := 27) (List.Mem.head _))
  go_wp2_with fail
  (with_reducible refine (HO.out _ K2.out.toExt).mono ?_)
  rintro e w3 ⟨x, Fp, rfl, hS⟩
  obtain ⟨E1, G1, B1, F1, ce1, cg1, cb1, cf1, vs1, rfl, -⟩ := res_get (hS.get (List.Mem.head _))
  have K3 := K2.out.joinW hS
  dsimp only [List.cons_append, List.nil_append] at K3
  clear hS K2 HO c0 c1 c2 c3 c4 c5 cz
  have tok1 : True := trivial
  have tok2 : True := trivial
  go_upto_region 4 with (first
    | (have zz := tok1; clear zz tok1; refine wpList_alS K3 rfl 34 rfl (rsC none none none none 0 0 0 0 0 0 0 0) (by kernel_rfl) ?_; intro w4 hz4 K4; clear hz4 K3)
    | (have zz := tok2; clear zz tok2; refine wpList_stS [] K4 rfl 34 (.tmp 5) (.tmp 24) rfl rfl (cs := rsC E1 G1 B1 F1 a.en.length a.gr.length a.rows.length a.fr.length ce1 cg1 cb1 cf1) rfl (by kernel_rfl) rfl (rsC_one rfl rfl rfl rfl) ?_; intro w5 K5; dsimp only [List.nil_append] at K5; clear K4))
  obtain ⟨g5, G5⟩ : ∃ g, w3.heap.size = g := ⟨_, rfl⟩
  rw [G5] at K5 ⊢
  clear G5
  by_cases hE : E = 0
  rotate_left
  · have ha := HBAD.out hE
    subst ha
    have eE : (E != 0) = true := bne_iff_ne.2 hE
    clear HBAD HEN HJ hE
    have K6 := hide K5
    clear K5
    obtain ⟨c0, c1, c2, c3, cz⟩ := blk4 (K6.out.blk (g := g5) (e := 34) (List.Mem.head _))
    dsimp only [An0, List.length_nil] at c0 c1 c2 c3 cz
    have z0 : (((0 : Nat) : Int) == 0) = true := rfl
    go_wp2_with fail
    (with_reducible refine (pawake_any _).mono ?_)
    rintro e w10 ⟨rfl, hx⟩
    go_wp2_with fail
    go_ret
    exact ⟨rfl, K6.out.toExt.trans hx⟩
  · have hen := HEN.out hE
    have HJ2 := hide (HJ.out hE)
    subst hE
    rw [hen] at K5
    have eE : ((0 : Int) != 0) = false := rfl
    clear HBAD HEN HJ
    obtain ⟨c0, c1, c2, c3, c4, c5, cz⟩ := q6 (K5.blk (g := g2) (e := 27) (List.Mem.tail _ (List.Mem.tail _ (List.Mem.head _))))
    obtain ⟨d0, d1, d2, d3, dz⟩ := blk4 (K5.blk (g := g5) (e := 34) (List.Mem.head _))
    dsimp only [List.length_nil] at d0 d1 d2 d3 dz
    have z0 : (((0 : Nat) : Int) == 0) = true := rfl
    have HR := hide (HJ2.out _ K5.toExt _ (res_get (K5.get (List.Mem.tail _ (List.Mem.head _)))))
    dsimp only [List.length_nil] at HR
    have tok3 : True := trivial
    go_wp2_with (have zz := tok3; clear zz tok3; refine wpList_ldS K5 (List.Mem.head _) rfl 34 (.tmp 5) rfl rfl _ Tryz.underlying34 rfl (by kernel_rfl) ?_)
    (with_reducible refine HR.out.mono ?_)
    rintro e w9 ⟨rfl, hx⟩
    have K6 := hide (K5.ext hx)
    clear K5 hx HR HJ2 c0 c1 c2 c3 c4 c5 cz d0 d1 d2 d3 dz
    obtain ⟨d0, d1, d2, d3, dz⟩ := blk4 (K6.out.blk (g := g5) (e := 34) (List.Mem.head _))
    dsimp only [List.length_nil] at d0 d1 d2 d3 dz
    go_wp2_with fail
    (with_reducible refine (pawake_any _).mono ?_)
    rintro e w10 ⟨rfl, hx⟩
    go_wp2_with fail
    go_ret
    exact ⟨rfl, K6.out.toExt.trans hx⟩
end Go.Proofs.YtdmaephmkfmehaaGreatDoor
