/- Promote: the law PromoteFairs walked. -/
import Derived.Test.YtdmaephmkfmehaaGreatDoorP1
import Derived.Test.YtdmaephmkfmehaaGreatDoorP2
namespace Go.Proofs.YtdmaephmkfmehaaGreatDoor
open Go.RowKit Go.Gr Go.Hp Go.Ad Go.Wl Go.Pm
set_option linter.unusedVariables false
set_option linter.unusedSimpArgs false
attribute [local go_sem] rdOp rdAt rdUpon Cls forall_fr

set_option maxRecDepth 100000 in
set_option maxHeartbeats 4000000 in
theorem fairs_law (w : World) (_ : True) (v0 : Value) (h0 : ∃ cs, v0 = .agg cs ∧ Lvs Tryz.prog w [.int .i64, .int .i64, .int .i64, .slice 100] cs.toList) (v1 : Value) (h1 : LfOk Tryz.prog w (.slice 49) v1) : Calls Tryz.prog 7 #[v0, v1] w fun e w' => e = .returned (.bool true) ∧ Ext w w' := by
  obtain ⟨v, A, c, rfl, hSe, hcap, hvw⟩ := venue_arg h0
  obtain ⟨C, l, cs, rfl, hC, hok, hls, hlm⟩ := steps_arg h1
  clear h0 h1
  have HFAR := hide (fun (y : World) (k : Ext w y) => far15 v A c y (hSe.ext k) hcap hvw)
  have HOF := hide (fun (hl : l.length ≤ 1000000) (y : World) (k : Ext w y) => pfair_any v A c l C cs y (hSe.ext k) hcap hvw (hC.ext k) hok hls hl)
  have HRO := hide (fun (hl : l.length ≤ 1000000) (y : World) (k : Ext w y) => rfair_any v A c l C cs y (hSe.ext k) hcap hvw (hC.ext k) hok hls hl)
  obtain ⟨E, hE⟩ : ∃ q, (fairE v l).2 = q := ⟨_, rfl⟩
  obtain ⟨n, hn⟩ : ∃ q, (fairE v l).1 = q := ⟨_, rfl⟩
  have hf : fairE v l = (n, E) := by rw [← hE, ← hn]
  rw [hf] at HOF HRO
  clear hE hn hf hC hok hSe hvw
  have K0 := (Sep.refl No w).add 24 (vnC v A c)
  go_enter Tryz.func7, Tryz.ntmps7
  go_upto_region 1 with fail
  generalize w.alloc _ = w1 at K0 ⊢
  obtain ⟨g2, G2⟩ : ∃ g, w.heap.size = g := ⟨_, rfl⟩
  rw [G2] at K0 ⊢
  clear G2
  have K1 := hide K0
  clear K0
  obtain ⟨c0, c1, c2, c3, cz⟩ := blk4 (K1.out.blk (g := g2) (e := 24) (List.Mem.head _))
  go_wp2_with fail
  (with_reducible refine (HFAR.out _ K1.out.toExt).mono ?_)
  rintro e w2 ⟨⟨b, rfl⟩, hx⟩
  have K2 := hide (K1.out.ext hx)
  clear K1 hx HFAR c0 c1 c2 c3 cz
  cases b
  rotate_left
  · go_wp2_with fail
    (with_reducible refine (pawake_any _).mono ?_)
    rintro e w3 ⟨rfl, hx⟩
    go_wp2_with fail
    go_ret
    exact ⟨rfl, K2.out.toExt.trans hx⟩
  have main : ∀ (hl : l.length ≤ 1000000), True := fun _ => trivial
  by_cases hl2 : 200 < l.length
  · have e1 : (200 : Int) < (l.length : Int) := by omega
    by_cases hl3 : l.length ≤ 1000
    · have e2 : (l.length : Int) ≤ 1000 := by omega
      clear hl2 hl3
      go_wp2_with fail
      (with_reducible refine (pawake_any _).mono ?_)
      rintro e w3 ⟨rfl, hx⟩
      go_wp2_with fail
      go_ret
      exact ⟨rfl, K2.out.toExt.trans hx⟩
    have e2 : ¬ (l.length : Int) ≤ 1000 := by omega
    by_cases hl4 : 1100 < l.length
    · have e3 : (1100 : Int) < (l.length : Int) := by omega
      clear hl2 hl3 hl4
      go_wp2_with fail
      (with_reducible refine (pawake_any _).mono ?_)
      rintro e w3 ⟨rfl, hx⟩
      go_wp2_with fail
      go_ret
      exact ⟨rfl, K2.out.toExt.trans hx⟩
    have e3 : ¬ (1100 : Int) < (l.length : Int) := by omega
    have HO := hide (HOF.out (by omega))
    have HR := hide (HRO.out (by omega))
    clear HOF HRO hl2 hl3 hl4 main
    obtain ⟨c0, c1, c2, c3, cz⟩ := blk4 (K2.out.blk (g := g2) (e := 24) (List.Mem.head _))
    go_wp2_with fail
    (with_reducible refine (HO.out _ K2.out.toExt).mono ?_)
    rintro e w3 ⟨rfl, hx⟩
    have K3 := hide (K2.out.ext hx)
    clear K2 hx HO c0 c1 c2 c3 cz
    obtain ⟨c0, c1, c2, c3, cz⟩ := blk4 (K3.out.blk (g := g2) (e := 24) (List.Mem.head _))
    go_wp2_with fail
    (with_reducible refine (HR.out _ K3.out.toExt).mono ?_)
    rintro e w4 ⟨rfl, hx⟩
    have HX4 := hide (K3.out.toExt.trans hx)
    have eE : (E == E) = true := beq_self_eq_true _
    have en : (n == n) = true := beq_self_eq_true _
    clear K3 hx HR c0 c1 c2 c3 cz
    go_wp2_with fail
    (with_reducible refine (pawake_any _).mono ?_)
    rintro e w10 ⟨rfl, hx⟩
    go_wp2_with fail
    go_ret
    exact ⟨rfl, HX4.out.trans hx⟩
  · have e1 : ¬ (200 : Int) < (l.length : Int) := by omega
    have e3 : ¬ (1100 : Int) < (l.length : Int) := by omega
    have HO := hide (HOF.out (by omega))
    have HR := hide (HRO.out (by omega))
    clear HOF HRO hl2 main
    obtain ⟨c0, c1, c2, c3, cz⟩ := blk4 (K2.out.blk (g := g2) (e := 24) (List.Mem.head _))
    go_wp2_with fail
    (with_reducible refine (HO.out _ K2.out.toExt).mono ?_)
    rintro e w3 ⟨rfl, hx⟩
    have K3 := hide (K2.out.ext hx)
    clear K2 hx HO c0 c1 c2 c3 cz
    obtain ⟨c0, c1, c2, c3, cz⟩ := blk4 (K3.out.blk (g := g2) (e := 24) (List.Mem.head _))
    go_wp2_with fail
    (with_reducible refine (HR.out _ K3.out.toExt).mono ?_)
    rintro e w4 ⟨rfl, hx⟩
    have HX4 := hide (K3.out.toExt.trans hx)
    have eE : (E == E) = true := beq_self_eq_true _
    have en : (n == n) = true := beq_self_eq_true _
    clear K3 hx HR c0 c1 c2 c3 cz
    go_wp2_with fail
    (with_reducible refine (pawake_any _).mono ?_)
    rintro e w10 ⟨rfl, hx⟩
    go_wp2_with fail
    go_ret
    exact ⟨rfl, HX4.out.trans hx⟩
end Go.Proofs.YtdmaephmkfmehaaGreatDoor
