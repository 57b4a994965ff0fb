/- Seats side by side: awake. -/
import Derived.Test.YtkhinagagncblaaDoorC1
namespace Go.Proofs.YtkhinagagncblaaDoor
open Go.RowKit Go.Gr Go.Ad
set_option linter.unusedVariables false
set_option linter.unusedSimpArgs false
attribute [local go_sem] rdOp rdAt rdUpon Cls forall_fr
def exR : List Run := [⟨0, 0, 3⟩, ⟨2, 5, 2⟩, ⟨2, 8, 3⟩]
def exP : List Run := [⟨0, 0, 3⟩, ⟨2, 5, 2⟩]
theorem ex_q : qE exV exF.length 0 = 0 := by kernel_rfl
theorem ex_runs : runsR exV exF 0 = exR := by kernel_rfl
theorem ex_a : aloneE exV exF 0 = 0 := by kernel_rfl
theorem ex_cE : cE exV exF.length 0 2 = 0 := by kernel_rfl
theorem ex_cR : cR exV exF 0 2 = [0, 1, 5, 8, 9] := by kernel_rfl
theorem ex_b2 : bestE exV exF 0 2 = (5, 0) := by kernel_rfl
theorem ex_b4 : bestE exV exF 0 4 = (0, 15) := by kernel_rfl
theorem ex_pE : pE exV exF 0 5 = 0 := by kernel_rfl
theorem ex_pL : pL exV exF 0 5 = exP := by kernel_rfl
theorem ex_vw : VnW exV := ⟨by decide, by
  intro s hs
  simp only [exV, List.mem_cons, List.not_mem_nil, or_false] at hs
  rcases hs with rfl | rfl <;> exact ⟨by decide, by decide⟩⟩
theorem rd_runs {w : World} {g : Nat} {e : TypeId} {l : List Run} (h : Blk w g e (runV l).flatten) : RdM w (some ⟨g, 0, none⟩) 3 (runV l) := by
  intro i r hr
  refine ⟨_, rfl, fun j u hu => ?_⟩
  have hadd : (⟨g, 0, none⟩ : Addr).add (i * 3 + j) = ⟨g, i * 3 + j, none⟩ := by unfold Addr.add; split <;> simp_all
  have hl : ∀ r ∈ runV l, r.length = 3 := by
    intro r hr
    obtain ⟨y, _, rfl⟩ := List.mem_map.1 hr
    rfl
  have hj : j < r.length := (List.getElem?_eq_some_iff.1 hu).1
  rw [hl r (List.mem_of_getElem? hr)] at hj
  rw [hadd, h.cell, flatten_get hl i j hr hu]
abbrev exVV (A : Option Addr) : Value := .agg #[.int .i64 exV.sh, .int .i64 exV.ttl, .int .i64 exV.ses, .slice A exV.secs.length 2]
set_option maxRecDepth 100000 in
set_option maxHeartbeats 8000000 in
theorem awake_any (w : World) : Calls Tryd.prog 10 #[] w fun e w' => e = .returned (.bool true) ∧ Ext w w' := by
  have K00 := Sep.refl No w
  go_enter Tryd.func10, Tryd.ntmps10
  go_wp2_with fail
  (with_reducible refine (ex19 w).mono ?_)
  rintro e w1 ⟨A, F, rfl, hx, hS, hF⟩
  have HR := hide (fun (y : World) (k : Ext w1 y) => ad_Runs exV A 2 exF F 13 0 y (hS.ext k) (by decide) ex_vw (hF.ext k) (by decide))
  have HA := hide (fun (y : World) (k : Ext w1 y) => ad_Alone exV A 2 exF F 13 0 y (hS.ext k) (by decide) ex_vw (hF.ext k) (by decide))
  have HC := hide (fun (y : World) (k : Ext w1 y) => ad_Choices exV A 2 exF F 13 0 2 y (hS.ext k) (by decide) ex_vw (hF.ext k) (by decide))
  have HB2 := hide (fun (y : World) (k : Ext w1 y) => ad_Best exV A 2 exF F 13 0 2 y (hS.ext k) (by decide) ex_vw (hF.ext k) (by decide))
  have HB4 := hide (fun (y : World) (k : Ext w1 y) => ad_Best exV A 2 exF F 13 0 4 y (hS.ext k) (by decide) ex_vw (hF.ext k) (by decide))
  have HP := hide (fun (y : World) (k : Ext w1 y) => ad_Pieces exV A 2 exF F 13 0 5 y (hS.ext k) (by decide) ex_vw (hF.ext k) (by decide))
  rw [ex_q, ex_runs] at HR
  rw [ex_q, ex_a] at HA
  rw [ex_cE, ex_cR] at HC
  rw [ex_b2] at HB2
  rw [ex_b4] at HB4
  rw [ex_pE, ex_pL] at HP
  clear hS hF
  have HX1 := hide hx
  clear hx K00
  have K1 := (Sep.refl No w1).add 24 [.int .i64 exV.sh, .int .i64 exV.ttl, .int .i64 exV.ses, .slice A exV.secs.length 2]
  go_wp2_with fail
  (with_reducible refine (HR.out _ K1.toExt).mono ?_)
  rintro e w2 ⟨v2, rfl, hS2⟩
  have K2 := hide (K1.joinW hS2)
  clear K1 hS2 HR
  obtain ⟨B2, b2, rfl, hb2⟩ := nilM_form K2.out
  obtain ⟨c0, c1, c2, c3, cz⟩ := blk4 (K2.out.blk (e := 24) (List.Mem.tail _ (List.Mem.head _)))
  go_wp2_with fail
  (with_reducible refine (HA.out _ K2.out.toExt).mono ?_)
  rintro e w3 ⟨rfl, hx⟩
  have K3 := hide (K2.out.ext hx)
  clear K2 hx HA c0 c1 c2 c3 cz
  obtain ⟨c0, c1, c2, c3, cz⟩ := blk4 (K3.out.blk (e := 24) (List.Mem.tail _ (List.Mem.head _)))
  go_wp2_with fail
  (with_reducible refine (HC.out _ K3.out.toExt).mono ?_)
  rintro e w4 ⟨v4, rfl, hS4⟩
  have K4 := hide (K3.out.joinW hS4)
  clear K3 hS4 HC c0 c1 c2 c3 cz
  obtain ⟨c0, c1, c2, c3, cz⟩ := blk4 (K4.out.blk (e := 24) (List.Mem.tail _ (List.Mem.tail _ (List.Mem.head _))))
  go_wp2_with fail
  (with_reducible refine (HB2.out _ K4.out.toExt).mono ?_)
  rintro e w5 ⟨rfl, hx⟩
  have K5 := hide (K4.out.ext hx)
  clear K4 hx HB2 c0 c1 c2 c3 cz
  obtain ⟨c0, c1, c2, c3, cz⟩ := blk4 (K5.out.blk (e := 24) (List.Mem.tail _ (List.Mem.tail _ (List.Mem.head _))))
  go_wp2_with fail
  (with_reducible refine (HB4.out _ K5.out.toExt).mono ?_)
  rintro e w6 ⟨rfl, hx⟩
  have K6 := hide (K5.out.ext hx)
  clear K5 hx HB4 c0 c1 c2 c3 cz
  obtain ⟨c0, c1, c2, c3, cz⟩ := blk4 (K6.out.blk (e := 24) (List.Mem.tail _ (List.Mem.tail _ (List.Mem.head _))))
  go_wp2_with fail
  (with_reducible refine (HP.out _ K6.out.toExt).mono ?_)
  rintro e w7 ⟨v7, rfl, hS7⟩
  have K7 := hide (K6.out.joinW hS7)
  clear K6 hS7 HP c0 c1 c2 c3 cz
  obtain ⟨B7, b7, rfl, hb7⟩ := nilM_form K7.out
  obtain ⟨B4, b4, e4, hb4, R4⟩ : ∃ B c, v4 = .slice B 5 c ∧ 5 ≤ c ∧ ∀ y, Ext w7 y → Rd y B (i64s [0, 1, 5, 8, 9]) := by
    obtain ⟨B, c, e, h1, h2, _⟩ := (K7.out.owns (e := 3) (List.Mem.tail _ (List.Mem.head _))).form
    exact ⟨B, c, e, h2, fun y k => h1.ext k⟩
  subst e4
  have K8 := hide (K7.out.add 47 (runV exR).flatten)
  have HB8 := hide (rd_runs (K8.out.blk (List.Mem.head _)))
  have HS1 : Hid (∀ y, Ext w7 y → RdM y (some ⟨w7.heap.size, 0, none⟩) 3 (runV exR) → Calls Tryd.prog 17 #[.slice B2 (runV exR).length b2, .slice (some ⟨w7.heap.size, 0, none⟩) 3 3] y fun e w' => e = .returned (.bool true) ∧ Ext y w') :=
    hide (fun y k hr => runs_same exR B2 _ b2 3 y ((K7.out.ownsM (List.Mem.tail _ (List.Mem.tail _ (List.Mem.head _)))).ext k) hr (by decide) (by decide))
  go_wp2_with fail
  have HA7 : Hid (Ext w7 (w7.alloc (.cells (runV exR).flatten.toArray 47))) := hide ((Ext.refl w7).alloc _)
  refine (HS1.out _ HA7.out HB8.out).mono ?_
  rintro e w8 ⟨rfl, hx⟩
  have K9 := hide ((K8.out.ext hx).add 3 (i64s [0, 1, 5, 8, 9]))
  have HX8 := hide (HA7.out.trans hx)
  have HI := hide (ints_same [0, 1, 5, 8, 9] B4 (some ⟨w8.heap.size, 0, none⟩) b4 5 _ (R4 _ (HX8.out.trans ((Ext.refl w8).alloc (.cells (i64s [0, 1, 5, 8, 9]).toArray 3)))) ((K9.out.blk (e := 3) (List.Mem.head _)).rd) hb4 (by decide) (by decide))
  clear hx R4 HS1 HB8
  go_wp2_with fail
  refine HI.out.mono ?_
  rintro e w9 ⟨rfl, hx⟩
  have HX9 := hide ((HX8.out.trans ((Ext.refl w8).alloc (.cells (i64s [0, 1, 5, 8, 9]).toArray 3))).trans hx)
  have K10 := hide ((K7.out.ext HX9.out).add 47 (runV exP).flatten)
  have HS2 := hide (runs_same exP B7 (some ⟨w9.heap.size, 0, none⟩) b7 2 _ (K10.out.ownsM (List.Mem.tail _ (List.Mem.head _))) (rd_runs (K10.out.blk (List.Mem.head _))) (by decide) (by decide))
  clear hx HI
  go_wp2_with fail
  refine HS2.out.mono ?_
  rintro e w10 ⟨rfl, hx⟩
  have KX := hide (HX1.out.trans (K10.out.toExt.trans hx))
  clear hx HS2
  go_wp2_with fail
  go_ret
  exact ⟨rfl, KX.out⟩
end Go.Proofs.YtkhinagagncblaaDoor
