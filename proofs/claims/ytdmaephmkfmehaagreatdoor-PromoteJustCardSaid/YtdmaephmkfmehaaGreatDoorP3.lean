/- Promote: the law PromoteOffers walked. -/
import Derived.Test.YtdmaephmkfmehaaGreatDoorP1
import Derived.Test.YtdmaephmkfmehaaGreatDoorP2
namespace Go.Pm
open Go.Wl Go.Ad Go.Proofs.YtdmaephmkfmehaaGreatDoor
theorem rowsS_few {S : St} (h : Ok S) : (rowsS S).length ≤ 100000 ∧ ∀ r ∈ rowsS S, r.length ≤ 1000000 := by
  refine ⟨by rw [rowsS_len]; have := h.len; omega, fun r hr => ?_⟩
  unfold rowsS at hr
  obtain ⟨p, hp, rfl⟩ := List.mem_map.1 hr
  have h1 := (h.all p hp).len
  have h2 := (h.all p hp).lim
  omega
theorem offA_few {v : Vn} {rows : List (List Int)} {seats : List Int} {now : Int} (hl : seats.length ≤ 9000) (hok : opE v rows now = 0 → Ok (loadS (qs v) rows)) : (offA v rows seats now).few := by
  unfold offA
  split
  · rename_i h
    have h0 : opE v rows now = 0 := by
      by_cases e : opE v rows now = 0
      · exact e
      · rw [offE_open e] at h; exact absurd h e
    have h1 := offO_many v (addT now v.ttl) (loadS (qs v) rows) seats
    have h2 := rowsS_few (offO_ok (v := v) (dl := addT now v.ttl) (hok h0) seats)
    exact ⟨Nat.zero_le _, by dsimp only; omega, h2.1, by dsimp only; omega, h2.2⟩
  · exact an0_few
end Go.Pm
namespace Go.Proofs.YtdmaephmkfmehaaGreatDoor
open Go.RowKit Go.Gr Go.Hp Go.Ad Go.Wl Go.Pm
set_option linter.unusedVariables false
set_option linter.unusedSimpArgs false
attribute [local go_sem] rdOp rdAt rdUpon Cls forall_fr

set_option maxRecDepth 100000 in
set_option maxHeartbeats 4000000 in
theorem offers_law (w : World) (_ : True) (v0 : Value) (h0 : ∃ cs, v0 = .agg cs ∧ Lvs Tryz.prog w [.int .i64, .int .i64, .int .i64, .slice 100, .slice 47, .int .i64] cs.toList) (v1 : Value) (h1 : LfOk Tryz.prog w (.slice 3) v1) : Calls Tryz.prog 5 #[v0, v1] w fun e w' => e = .returned (.bool true) ∧ Ext w w' := by
  obtain ⟨v, A, c, rows, B, vs, d, now, rfl, hH⟩ := house_arg h0
  obtain ⟨C, seats, cs, rfl, hC, hwf, hls, hlm⟩ := pints_arg h1
  clear h0 h1
  have HFAR := hide (fun (y : World) (k : Ext w y) => far_any v A c rows B vs d now y (hH.ext k).secs hH.cap hH.vw (hH.ext k).rws hH.rcap hH.many (fun r hr => (hH.row r hr).1))
  have HSOK := hide (fun (h : opE v rows now = 0) => loadS_ok (opE_zero h).2.1 (fun r hr => (hH.row r hr).2))
  have HFEW := hide (fun (hl : seats.length ≤ 9000) => offA_few (now := now) hl HSOK.out)
  have HOF := hide (fun (hm : rows.length ≤ 10) (hr : ∀ r ∈ rows, r.length ≤ 80) (hl : seats.length ≤ 9000) (y : World) (k : Ext w y) => poffer_any v A c rows B vs d seats C cs now y (hH.ext k).secs hH.cap hH.vw (hH.ext k).rws (by omega) (fun r h => ⟨by have := hr r h; omega, (hH.row r h).2⟩) hH.now.2 (hC.ext k) hwf hls hl)
  have HRO := hide (fun (hm : rows.length ≤ 10) (hr : ∀ r ∈ rows, r.length ≤ 80) (hl : seats.length ≤ 9000) (y : World) (k : Ext w y) => roffer_any v A c rows B vs d seats C cs now y (hH.ext k).secs hH.cap hH.vw (hH.ext k).rws (by omega) (fun r h => ⟨by have := hr r h; omega, (hH.row r h).2⟩) hH.now.2 (hC.ext k) hls hl HSOK.out)
  obtain ⟨E, hE⟩ : ∃ q, offE v rows seats now = q := ⟨_, rfl⟩
  obtain ⟨a, ha⟩ : ∃ q, offA v rows seats now = q := ⟨_, rfl⟩
  rw [hE, ha] at HOF HRO
  rw [ha] at HFEW
  have hrc := hH.rcap
  have hrm := hH.many
  clear hE ha hC hwf HSOK hH
  have K0 := (Sep.refl No w).add 27 (hoX v A c B rows.length d now)
  go_enter Tryz.func5, Tryz.ntmps5
  go_upto_region 1 with fail
  generalize w.alloc _ = w1 at K0 ⊢
  obtain ⟨g2, G2⟩ : ∃ g, w.heap.size = g := ⟨_, rfl⟩
  rw [G2] at K0 ⊢
  clear G2
  have K1 := hide K0
  clear K0
  obtain ⟨c0, c1, c2, c3, c4, c5, cz⟩ := q6 (K1.out.blk (g := g2) (e := 27) (List.Mem.head _))
  go_wp2_with fail
  (with_reducible refine (HFAR.out _ K1.out.toExt).mono ?_)
  rintro e w2 ⟨b, rfl, hb, hx⟩
  have K2 := hide (K1.out.ext hx)
  clear K1 hx HFAR c0 c1 c2 c3 c4 c5 cz
  cases b
  rotate_left
  · go_wp2_with fail
    (with_reducible refine (pawake_any _).mono ?_)
    rintro e w3 ⟨rfl, hx⟩
    go_wp2_with fail
    go_ret
    exact ⟨rfl, K2.out.toExt.trans hx⟩
  obtain ⟨hr10, hr80⟩ := hb rfl
  clear hb
  by_cases hl : 100 < seats.length
  · have e1 : (100 : Int) < (seats.length : Int) := by omega
    clear hl
    go_wp2_with fail
    (with_reducible refine (pawake_any _).mono ?_)
    rintro e w3 ⟨rfl, hx⟩
    go_wp2_with fail
    go_ret
    exact ⟨rfl, K2.out.toExt.trans hx⟩
  have e1 : ¬ (100 : Int) < (seats.length : Int) := by omega
  have HF := hide (HFEW.out (by omega))
  have HO := hide (HOF.out hr10 hr80 (by omega))
  have HR := hide (HRO.out hr10 hr80 (by omega))
  clear HFEW HOF HRO hl hr80
  obtain ⟨c0, c1, c2, c3, c4, c5, cz⟩ := q6 (K2.out.blk (g := g2) (e := 27) (List.Mem.head _))
  go_wp2_with fail
  (with_reducible refine (HO.out _ K2.out.toExt).mono ?_)
  rintro e w3 ⟨x, Fp, rfl, hS⟩
  obtain ⟨E1, G1, B1, F1, ce1, cg1, cb1, cf1, vs1, rfl, -⟩ := res_get (hS.get (List.Mem.head _))
  have K3 := K2.out.joinW hS
  dsimp only [List.cons_append, List.nil_append] at K3
  clear hS K2 HO c0 c1 c2 c3 c4 c5 cz
  have tok1 : True := trivial
  have tok2 : True := trivial
  go_upto_region 4 with (first
    | (have zz := tok1; clear zz tok1; refine wpList_alS K3 rfl 34 rfl (rsC none none none none 0 0 0 0 0 0 0 0) (by kernel_rfl) ?_; intro w4 hz4 K4; clear hz4 K3)
    | (have zz := tok2; clear zz tok2; refine wpList_stS [] K4 rfl 34 (.tmp 5) (.tmp 26) rfl rfl (cs := rsC E1 G1 B1 F1 a.en.length a.gr.length a.rows.length a.fr.length ce1 cg1 cb1 cf1) rfl (by kernel_rfl) rfl (rsC_one rfl rfl rfl rfl) ?_; intro w5 K5; dsimp only [List.nil_append] at K5; clear K4))
  obtain ⟨g5, G5⟩ : ∃ g, w3.heap.size = g := ⟨_, rfl⟩
  rw [G5] at K5 ⊢
  clear G5
  obtain ⟨c0, c1, c2, c3, c4, c5, cz⟩ := q6 (K5.blk (g := g2) (e := 27) (List.Mem.tail _ (List.Mem.tail _ (List.Mem.head _))))
  have K6 := hide K5
  clear K5
  go_wp2_with fail
  (with_reducible refine (HR.out _ K6.out.toExt).mono ?_)
  rintro e w6 ⟨x, Fq, rfl, hS⟩
  obtain ⟨E2, G2, B2, F2, ce2, cg2, cb2, cf2, vs2, rfl, -⟩ := res_get (hS.get (List.Mem.head _))
  have K7 := K6.out.joinW hS
  dsimp only [List.cons_append, List.nil_append] at K7
  clear hS K6 HR c0 c1 c2 c3 c4 c5 cz
  have tok1 : True := trivial
  have tok2 : True := trivial
  have tok3 : True := trivial
  have tok4 : True := trivial
  go_upto_region 5 with (first
    | (have zz := tok1; clear zz tok1; refine wpList_alS K7 rfl 34 rfl (rsC none none none none 0 0 0 0 0 0 0 0) (by kernel_rfl) ?_; intro w7 hz7 K8; clear hz7 K7)
    | (have zz := tok2; clear zz tok2; refine wpList_stS [] K8 rfl 34 (.tmp 7) (.tmp 37) rfl rfl (cs := rsC E2 G2 B2 F2 a.en.length a.gr.length a.rows.length a.fr.length ce2 cg2 cb2 cf2) rfl (by kernel_rfl) rfl (rsC_one rfl rfl rfl rfl) ?_; intro w8 K9; dsimp only [List.nil_append] at K9; clear K8))
  obtain ⟨g7, G7⟩ : ∃ g, w6.heap.size = g := ⟨_, rfl⟩
  rw [G7] at K9 ⊢
  clear G7
  have HSM := hide (psame_any w8 (res_get (K9.get (List.Mem.tail _ (List.Mem.tail _ (List.Mem.tail _ (List.Mem.head _)))))) (res_get (K9.get (List.Mem.tail _ (List.Mem.head _)))) HF.out)
  go_wp2_with (first
    | (have zz := tok3; clear zz tok3; refine wpList_ldS K9 (List.Mem.tail _ (List.Mem.tail _ (List.Mem.head _))) rfl 34 (.tmp 5) rfl rfl _ Tryz.underlying34 rfl (by kernel_rfl) ?_)
    | (have zz := tok4; clear zz tok4; refine wpList_ldS K9 (List.Mem.head _) rfl 34 (.tmp 7) rfl rfl _ Tryz.underlying34 rfl (by kernel_rfl) ?_))
  (with_reducible refine HSM.out.mono ?_)
  rintro e w9 ⟨rfl, hx⟩
  have HX9 := hide (K9.toExt.trans hx)
  have eE : (E == E) = true := beq_self_eq_true _
  clear K9 hx HSM HF
  go_wp2_with fail
  (with_reducible refine (pawake_any _).mono ?_)
  rintro e w10 ⟨rfl, hx⟩
  go_wp2_with fail
  go_ret
  exact ⟨rfl, HX9.out.trans hx⟩
end Go.Proofs.YtdmaephmkfmehaaGreatDoor
