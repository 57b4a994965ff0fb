/- Seats side by side: the law AdjacentBest walked. -/
import Derived.Test.YtkhinagagncblaaDoorC4
import Derived.Test.YtkhinagagncblaaDoorBB
namespace Go.Proofs.YtkhinagagncblaaDoor
open Go.RowKit Go.Gr Go.Ad
set_option linter.unusedVariables false
set_option linter.unusedSimpArgs false
attribute [local go_sem] rdOp rdAt rdUpon Cls forall_fr
theorem runsR_few (v : Vn) (f : List Bool) (s : Int) : (runsR v f s).length ≤ 100000000 := by
  unfold runsR
  split
  · rename_i hq
    have := runsOf_few (qE_zero hq).1 f s
    omega
  · simp
theorem pL_few (v : Vn) (f : List Bool) (s n : Int) : (pL v f s n).length ≤ 100000000 := by
  have key : ∀ (k : Nat) (l : List Run) (m : Nat), (pcsGo k l m).length ≤ k + 1 := by
    intro k
    induction k with
    | zero => intro l m; simp [pcsGo]
    | succ k ih =>
      intro l m
      unfold pcsGo
      split
      · simp
      · split
        · rw [List.length_cons]; have := ih (l.eraseIdx (lg l l.length)) (m - Run.many (by assumption)); omega
        · simp
  unfold pL
  split
  · rename_i h
    have hq : qE v f.length s = 0 := by
      unfold pE at h
      split at h
      · rename_i h1; exact absurd h h1
      · rename_i h1; simpa using h1
    have h1 := key ((runsOf v f s).length + 1) (runsOf v f s) n.toNat
    have h2 := runsOf_few (qE_zero hq).1 f s
    unfold pcs
    omega
  · simp
theorem blk2 {w : World} {g : Nat} {e : TypeId} {a b : Value} (h : Blk w g e [a, b]) : w.cell? ⟨g, 0, none⟩ = some a ∧ w.cell? ⟨g, 1, none⟩ = some b ∧ g < w.heap.size := ⟨h.cell 0, h.cell 1, h.lt⟩
/-- what a question is asked with -/
abbrev BX (w w' : World) (g g2 : Nat) (v : Vn) (A : Option Addr) (c : Nat) (s n : Int) : Prop := Sep No w w' [As.blk g2 27 [.int .i64 s, .int .i64 n], As.blk g 24 [.int .i64 v.sh, .int .i64 v.ttl, .int .i64 v.ses, .slice A v.secs.length c]]
set_option maxRecDepth 100000 in
set_option maxHeartbeats 8000000 in
theorem best_law (w : World) (_ : True) (v0 : Value) (h0 : ∃ cs, v0 = .agg cs ∧ Lvs Tryd.prog w [.int .i64, .int .i64, .int .i64, .slice 78] cs.toList) (v1 : Value) (h1 : LfOk Tryd.prog w (.slice 4) v1) (v2 : Value) (h2 : ∃ cs, v2 = .agg cs ∧ Lvs Tryd.prog w [.int .i64, .int .i64] cs.toList) : Calls Tryd.prog 4 #[v0, v1, v2] w fun e w' => e = .returned (.bool true) ∧ Ext w w' := by
  obtain ⟨v, A, c, rfl, hS, hc, hw⟩ := venue_arg h0
  obtain ⟨F, f, d, rfl, hF, hd, _⟩ := bools_arg h1
  obtain ⟨s, n, rfl⟩ := ask_arg h2
  clear h0 h1 h2
  have HFAR := hide (fun (y : World) (k : Ext w y) => far19 v A c F f.length d y (hS.ext k) hc hw)
  have HA := hide (fun (y : World) (k : Ext w y) => ad_Best v A c f F d s n y (hS.ext k) hc hw (hF.ext k) hd)
  have HRA := hide (fun (y : World) (k : Ext w y) => rad_Best v A c f F d s n y (hS.ext k) hc hw (hF.ext k) hd)
  have HR := hide (fun (y : World) (k : Ext w y) => ad_Pieces v A c f F d s n y (hS.ext k) hc hw (hF.ext k) hd)
  have HRR := hide (fun (y : World) (k : Ext w y) => rad_Pieces v A c f F d s n y (hS.ext k) hc hw (hF.ext k) hd)
  obtain ⟨l, HL⟩ : ∃ l, Hid (pL v f s n = l) := ⟨_, hide rfl⟩
  have HLF := hide (pL_few v f s n)
  rw [HL.out] at HR HRR HLF
  obtain ⟨q, hq⟩ : ∃ q, pE v f s n = q := ⟨_, rfl⟩
  obtain ⟨a, b, ha⟩ : ∃ a b, bestE v f s n = (a, b) := ⟨_, _, rfl⟩
  rw [hq] at HR HRR
  rw [ha] at HA HRA
  clear hS hF hw hc hd hq ha HL
  have K0 := ((Sep.refl No w).add2 24 27 [.int .i64 v.sh, .int .i64 v.ttl, .int .i64 v.ses, .slice A v.secs.length c] [.int .i64 s, .int .i64 n])
  go_enter Tryd.func4, Tryd.ntmps4
  go_upto_region 1 with fail
  generalize World.alloc _ _ = w1 at K0 ⊢
  obtain ⟨g, hg⟩ : ∃ g, w.heap.size = g := ⟨_, rfl⟩
  obtain ⟨g2, hg2⟩ : ∃ g2, g + 1 = g2 := ⟨_, rfl⟩
  rw [hg, hg2] at K0 ⊢
  clear hg hg2
  have K1 : Hid (BX w w1 g g2 v A c s n) := hide K0
  clear K0
  obtain ⟨c0, c1, c2, c3, cz⟩ := blk4 (K1.out.blk (e := 24) (List.Mem.tail _ (List.Mem.head _)))
  go_wp2_with fail
  (with_reducible refine (HFAR.out _ K1.out.toExt).mono ?_)
  rintro e w2 ⟨⟨bb, rfl⟩, hx⟩
  have K2 : Hid (BX w w2 g g2 v A c s n) := hide (K1.out.ext hx)
  clear K1 hx HFAR c0 c1 c2 c3 cz
  cases bb
  rotate_left
  · go_wp2_with fail
    (with_reducible refine (awake_any _).mono ?_)
    rintro e w3 ⟨rfl, hx⟩
    go_wp2_with fail
    go_ret
    exact ⟨rfl, K2.out.toExt.trans hx⟩
  obtain ⟨c0, c1, c2, c3, cz⟩ := blk4 (K2.out.blk (e := 24) (List.Mem.tail _ (List.Mem.head _)))
  obtain ⟨a0, a1, az⟩ := blk2 (K2.out.blk (e := 27) (List.Mem.head _))
  go_wp2_with fail
  (with_reducible refine (HA.out _ K2.out.toExt).mono ?_)
  rintro e w3 ⟨rfl, hx5⟩
  have K3 : Hid (BX w w3 g g2 v A c s n) := hide (K2.out.ext hx5)
  clear K2 hx5 HA c0 c1 c2 c3 cz a0 a1 az
  obtain ⟨c0, c1, c2, c3, cz⟩ := blk4 (K3.out.blk (e := 24) (List.Mem.tail _ (List.Mem.head _)))
  obtain ⟨a0, a1, az⟩ := blk2 (K3.out.blk (e := 27) (List.Mem.head _))
  go_wp2_with fail
  (with_reducible refine (HRA.out _ K3.out.toExt).mono ?_)
  rintro e w4 ⟨rfl, hx6⟩
  have K4 : Hid (BX w w4 g g2 v A c s n) := hide (K3.out.ext hx6)
  clear K3 hx6 HRA c0 c1 c2 c3 cz a0 a1 az
  obtain ⟨c0, c1, c2, c3, cz⟩ := blk4 (K4.out.blk (e := 24) (List.Mem.tail _ (List.Mem.head _)))
  obtain ⟨a0, a1, az⟩ := blk2 (K4.out.blk (e := 27) (List.Mem.head _))
  go_wp2_with fail
  (with_reducible refine (HR.out _ K4.out.toExt).mono ?_)
  rintro e w5 ⟨v5, rfl, hS5⟩
  obtain ⟨B5, b5, rfl, hb5⟩ := nilM_form' hS5
  have O5 := hide (hS5.ownsM (List.Mem.head _))
  have K5 : Hid (BX w w5 g g2 v A c s n) := hide (K4.out.ext hS5.toExt)
  clear K4 hS5 HR c0 c1 c2 c3 cz a0 a1 az
  rw [runV_len] at O5 hb5 ⊢
  obtain ⟨c0, c1, c2, c3, cz⟩ := blk4 (K5.out.blk (e := 24) (List.Mem.tail _ (List.Mem.head _)))
  obtain ⟨a0, a1, az⟩ := blk2 (K5.out.blk (e := 27) (List.Mem.head _))
  go_wp2_with fail
  (with_reducible refine (HRR.out _ K5.out.toExt).mono ?_)
  rintro e w6 ⟨v6, rfl, hS6⟩
  obtain ⟨B6, b6, rfl, hb6⟩ := nilM_form' hS6
  have O6 := hide (hS6.ownsM (List.Mem.head _))
  have P5 := hide (O5.out.ext hS6.toExt)
  have K6 : Hid (BX w w6 g g2 v A c s n) := hide (K5.out.ext hS6.toExt)
  clear K5 hS6 HRR c0 c1 c2 c3 cz a0 a1 az O5
  rw [runV_len] at O6 hb6 ⊢
  have HSM := hide (runs_same l B5 B6 b5 b6 w6 P5.out (by
    obtain ⟨Bx, cx, e, h, _⟩ := O6.out.form
    rw [runV_len] at e
    simp only [Value.slice.injEq, true_and] at e
    rw [e.1]; exact h) hb6 HLF.out)
  go_wp2_with fail
  (with_reducible refine HSM.out.mono ?_)
  rintro e w9 ⟨rfl, hx9⟩
  have X9 := hide (K6.out.toExt.trans hx9)
  clear hx9 HSM
  go_wp2_with fail
  (with_reducible refine (awake_any _).mono ?_)
  rintro e w11 ⟨rfl, hx11⟩
  go_wp2_with fail
  go_ret
  exact ⟨rfl, X9.out.trans hx11⟩
end Go.Proofs.YtkhinagagncblaaDoor
