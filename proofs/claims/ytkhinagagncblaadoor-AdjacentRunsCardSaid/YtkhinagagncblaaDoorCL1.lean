/- Seats side by side: the law AdjacentRuns walked. -/
import Derived.Test.YtkhinagagncblaaDoorC4
namespace Go.Proofs.YtkhinagagncblaaDoor
open Go.RowKit Go.Gr Go.Ad
set_option linter.unusedVariables false
set_option linter.unusedSimpArgs false
attribute [local go_sem] rdOp rdAt rdUpon Cls forall_fr
theorem runsR_few (v : Vn) (f : List Bool) (s : Int) : (runsR v f s).length ≤ 100000000 := by
  unfold runsR
  split
  · rename_i hq
    have := runsOf_few (qE_zero hq).1 f s
    omega
  · simp
theorem cR_few (v : Vn) (f : List Bool) (s n : Int) : (cR v f s n).length ≤ 100000000 := by
  unfold cR
  split
  · rename_i h
    have hq : qE v f.length s = 0 := by
      unfold cE at h
      split at h
      · rename_i h1; exact absurd h h1
      · rename_i h1; simpa using h1
    unfold cL
    rw [List.length_map]
    have := chs_few _ n.toNat (runs_small (qE_zero hq).1 (qE_zero hq).2.2.2.1 s) (runsOf_few (qE_zero hq).1 f s)
    omega
  · simp
theorem blk2 {w : World} {g : Nat} {e : TypeId} {a b : Value} (h : Blk w g e [a, b]) : w.cell? ⟨g, 0, none⟩ = some a ∧ w.cell? ⟨g, 1, none⟩ = some b ∧ g < w.heap.size := ⟨h.cell 0, h.cell 1, h.lt⟩
/-- what a question is asked with -/
abbrev BX (w w' : World) (g g2 : Nat) (v : Vn) (A : Option Addr) (c : Nat) (s n : Int) : Prop := Sep No w w' [As.blk g2 27 [.int .i64 s, .int .i64 n], As.blk g 24 [.int .i64 v.sh, .int .i64 v.ttl, .int .i64 v.ses, .slice A v.secs.length c]]
set_option maxRecDepth 100000 in
set_option maxHeartbeats 8000000 in
theorem runs_law (w : World) (_ : True) (v0 : Value) (h0 : ∃ cs, v0 = .agg cs ∧ Lvs Tryd.prog w [.int .i64, .int .i64, .int .i64, .slice 78] cs.toList) (v1 : Value) (h1 : LfOk Tryd.prog w (.slice 4) v1) (v2 : Value) (h2 : ∃ cs, v2 = .agg cs ∧ Lvs Tryd.prog w [.int .i64, .int .i64] cs.toList) : Calls Tryd.prog 3 #[v0, v1, v2] w fun e w' => e = .returned (.bool true) ∧ Ext w w' := by
  obtain ⟨v, A, c, rfl, hS, hc, hw⟩ := venue_arg h0
  obtain ⟨F, f, d, rfl, hF, hd, _⟩ := bools_arg h1
  obtain ⟨s, n, rfl⟩ := ask_arg h2
  clear h0 h1 h2
  have HFAR := hide (fun (y : World) (k : Ext w y) => far19 v A c F f.length d y (hS.ext k) hc hw)
  have HR := hide (fun (y : World) (k : Ext w y) => ad_Runs v A c f F d s y (hS.ext k) hc hw (hF.ext k) hd)
  have HRR := hide (fun (y : World) (k : Ext w y) => rad_Runs v A c f F d s y (hS.ext k) hc hw (hF.ext k) hd)
  have HA := hide (fun (y : World) (k : Ext w y) => ad_Alone v A c f F d s y (hS.ext k) hc hw (hF.ext k) hd)
  have HRA := hide (fun (y : World) (k : Ext w y) => rad_Alone v A c f F d s y (hS.ext k) hc hw (hF.ext k) hd)
  have HC := hide (fun (y : World) (k : Ext w y) => ad_Choices v A c f F d s n y (hS.ext k) hc hw (hF.ext k) hd)
  have HRC := hide (fun (y : World) (k : Ext w y) => rad_Choices v A c f F d s n y (hS.ext k) hc hw (hF.ext k) hd)
  obtain ⟨l, HL⟩ : ∃ l, Hid (runsR v f s = l) := ⟨_, hide rfl⟩
  obtain ⟨m, HM⟩ : ∃ l, Hid (cR v f s n = l) := ⟨_, hide rfl⟩
  have HLF := hide (runsR_few v f s)
  have HMF := hide (cR_few v f s n)
  rw [HL.out] at HR HRR HLF
  rw [HM.out] at HC HRC HMF
  obtain ⟨q, hq⟩ : ∃ q, qE v f.length s = q := ⟨_, rfl⟩
  obtain ⟨a, ha⟩ : ∃ a, aloneE v f s = a := ⟨_, rfl⟩
  obtain ⟨ce, hce⟩ : ∃ a, cE v f.length s n = a := ⟨_, rfl⟩
  rw [hq] at HR HRR HA HRA
  rw [ha] at HA HRA
  rw [hce] at HC HRC
  clear hS hF hw hc hd hq ha hce HL HM
  have K0 := ((Sep.refl No w).add2 24 27 [.int .i64 v.sh, .int .i64 v.ttl, .int .i64 v.ses, .slice A v.secs.length c] [.int .i64 s, .int .i64 n])
  go_enter Tryd.func3, Tryd.ntmps3
  go_upto_region 1 with fail
  generalize World.alloc _ _ = w1 at K0 ⊢
  obtain ⟨g, hg⟩ : ∃ g, w.heap.size = g := ⟨_, rfl⟩
  obtain ⟨g2, hg2⟩ : ∃ g2, g + 1 = g2 := ⟨_, rfl⟩
  rw [hg, hg2] at K0 ⊢
  clear hg hg2
  have K1 : Hid (BX w w1 g g2 v A c s n) := hide K0
  clear K0
  obtain ⟨c0, c1, c2, c3, cz⟩ := blk4 (K1.out.blk (e := 24) (List.Mem.tail _ (List.Mem.head _)))
  go_wp2_with fail
  (with_reducible refine (HFAR.out _ K1.out.toExt).mono ?_)
  rintro e w2 ⟨⟨b, rfl⟩, hx⟩
  have K2 : Hid (BX w w2 g g2 v A c s n) := hide (K1.out.ext hx)
  clear K1 hx HFAR c0 c1 c2 c3 cz
  cases b
  rotate_left
  · go_wp2_with fail
    (with_reducible refine (awake_any _).mono ?_)
    rintro e w3 ⟨rfl, hx⟩
    go_wp2_with fail
    go_ret
    exact ⟨rfl, K2.out.toExt.trans hx⟩
  obtain ⟨c0, c1, c2, c3, cz⟩ := blk4 (K2.out.blk (e := 24) (List.Mem.tail _ (List.Mem.head _)))
  obtain ⟨a0, a1, az⟩ := blk2 (K2.out.blk (e := 27) (List.Mem.head _))
  go_wp2_with fail
  (with_reducible refine (HR.out _ K2.out.toExt).mono ?_)
  rintro e w3 ⟨v3, rfl, hS3⟩
  obtain ⟨B3, b3, rfl, hb3⟩ := nilM_form' hS3
  have O3 := hide (hS3.ownsM (List.Mem.head _))
  have K3 : Hid (BX w w3 g g2 v A c s n) := hide (K2.out.ext hS3.toExt)
  clear K2 hS3 HR c0 c1 c2 c3 cz a0 a1 az
  rw [runV_len] at O3 hb3 ⊢
  obtain ⟨c0, c1, c2, c3, cz⟩ := blk4 (K3.out.blk (e := 24) (List.Mem.tail _ (List.Mem.head _)))
  obtain ⟨a0, a1, az⟩ := blk2 (K3.out.blk (e := 27) (List.Mem.head _))
  go_wp2_with fail
  (with_reducible refine (HRR.out _ K3.out.toExt).mono ?_)
  rintro e w4 ⟨v4, rfl, hS4⟩
  obtain ⟨B4, b4, rfl, hb4⟩ := nilM_form' hS4
  have O4 := hide (hS4.ownsM (List.Mem.head _))
  have P3 := hide (O3.out.ext hS4.toExt)
  have K4 : Hid (BX w w4 g g2 v A c s n) := hide (K3.out.ext hS4.toExt)
  clear K3 hS4 HRR c0 c1 c2 c3 cz a0 a1 az O3
  rw [runV_len] at O4 hb4 ⊢
  obtain ⟨c0, c1, c2, c3, cz⟩ := blk4 (K4.out.blk (e := 24) (List.Mem.tail _ (List.Mem.head _)))
  obtain ⟨a0, a1, az⟩ := blk2 (K4.out.blk (e := 27) (List.Mem.head _))
  go_wp2_with fail
  (with_reducible refine (HA.out _ K4.out.toExt).mono ?_)
  rintro e w5 ⟨rfl, hx5⟩
  have X5 := hide hx5
  have K5 : Hid (BX w w5 g g2 v A c s n) := hide (K4.out.ext hx5)
  clear K4 hx5 HA c0 c1 c2 c3 cz a0 a1 az
  obtain ⟨c0, c1, c2, c3, cz⟩ := blk4 (K5.out.blk (e := 24) (List.Mem.tail _ (List.Mem.head _)))
  obtain ⟨a0, a1, az⟩ := blk2 (K5.out.blk (e := 27) (List.Mem.head _))
  go_wp2_with fail
  (with_reducible refine (HRA.out _ K5.out.toExt).mono ?_)
  rintro e w6 ⟨rfl, hx6⟩
  have X6 := hide (X5.out.trans hx6)
  have K6 : Hid (BX w w6 g g2 v A c s n) := hide (K5.out.ext hx6)
  clear K5 hx6 HRA c0 c1 c2 c3 cz a0 a1 az
  obtain ⟨c0, c1, c2, c3, cz⟩ := blk4 (K6.out.blk (e := 24) (List.Mem.tail _ (List.Mem.head _)))
  obtain ⟨a0, a1, az⟩ := blk2 (K6.out.blk (e := 27) (List.Mem.head _))
  go_wp2_with fail
  (with_reducible refine (HC.out _ K6.out.toExt).mono ?_)
  rintro e w7 ⟨v7, rfl, hS7⟩
  obtain ⟨B7, b7, rfl, hr7, hb7, _⟩ := (hS7.owns (List.Mem.head _)).form
  have X7 := hide (X6.out.trans hS7.toExt)
  have K7 : Hid (BX w w7 g g2 v A c s n) := hide (K6.out.ext hS7.toExt)
  clear K6 hS7 HC c0 c1 c2 c3 cz a0 a1 az
  have O7 := hide hr7
  clear hr7
  rw [i64s_len] at hb7 ⊢
  obtain ⟨c0, c1, c2, c3, cz⟩ := blk4 (K7.out.blk (e := 24) (List.Mem.tail _ (List.Mem.head _)))
  obtain ⟨a0, a1, az⟩ := blk2 (K7.out.blk (e := 27) (List.Mem.head _))
  go_wp2_with fail
  (with_reducible refine (HRC.out _ K7.out.toExt).mono ?_)
  rintro e w8 ⟨v8, rfl, hS8⟩
  obtain ⟨B8, b8, rfl, hr8, hb8, _⟩ := (hS8.owns (List.Mem.head _)).form
  have X8 := hide (X7.out.trans hS8.toExt)
  have Y8 := hide hS8.toExt
  have K8 : Hid (BX w w8 g g2 v A c s n) := hide (K7.out.ext hS8.toExt)
  clear K7 hS8 HRC c0 c1 c2 c3 cz a0 a1 az
  have O8 := hide hr8
  clear hr8
  rw [i64s_len] at hb8 ⊢
  have HSM := hide (runs_same l B3 B4 b3 b4 w8 (P3.out.ext X8.out) (by
    obtain ⟨Bx, cx, e, h, _⟩ := (O4.out.ext X8.out).form
    rw [runV_len] at e
    simp only [Value.slice.injEq, true_and] at e
    rw [e.1]; exact h) hb4 HLF.out)
  go_wp2_with fail
  (with_reducible refine HSM.out.mono ?_)
  rintro e w9 ⟨rfl, hx9⟩
  have HIN := hide (ints_same m B7 B8 b7 b8 w9 (O7.out.ext (Y8.out.trans hx9)) (O8.out.ext hx9) hb7 hb8 HMF.out)
  have X9 := hide (K8.out.toExt.trans hx9)
  clear hx9 HSM
  go_wp2_with fail
  (with_reducible refine HIN.out.mono ?_)
  rintro e w10 ⟨rfl, hx10⟩
  have X10 := hide (X9.out.trans hx10)
  clear hx10 HIN
  go_wp2_with fail
  (with_reducible refine (awake_any _).mono ?_)
  rintro e w11 ⟨rfl, hx11⟩
  go_wp2_with fail
  go_ret
  exact ⟨rfl, X10.out.trans hx11⟩
end Go.Proofs.YtkhinagagncblaaDoor
