/- Seats: the law SeatsStates walked. -/
import Derived.Test.YtcmpkpldihnklaaLS
namespace Go.Proofs.Ytcmpkpldihnklaa
open Go.RowKit Go.Gr Go.Seat
set_option linter.unusedVariables false
set_option linter.unusedSimpArgs false
attribute [local go_sem] rdOp rdAt rdUpon Cls forall_fr
abbrev fromA : List Value := [.int .i64 0, .int .i64 1, .int .i64 1, .int .i64 1, .int .i64 2, .int .i64 2, .int .i64 2, .int .i64 2]
abbrev toA : List Value := [.int .i64 1, .int .i64 0, .int .i64 0, .int .i64 2, .int .i64 2, .int .i64 0, .int .i64 0, .int .i64 2]
set_option maxRecDepth 100000 in
set_option maxHeartbeats 4000000 in
theorem states_0 (w : World) (s : Se) (x : Ca) (hs : s.ok) (hx : x.ok) (hg : good s) (hd : doneS s x x.t = (⟨1, x.own, x.at_, s.ser, s.ep⟩, 0)) (hq : x.what % 8 = 0) (hst : s.st = 0)  :
    Calls Try.prog 9 #[sv s, xv x] w fun e w' => e = .returned (.bool true) ∧ Ext w w' := by
  have HG := hide (chkg hg)
  have HG2 := hide (chkg (done_good (x := x) (t := x.t) hg))
  rw [hd] at HG2
  have HD := hide hd
  have HQ := hide hq
  have hx0 : 0 ≤ x.what := hx.what.1
  have HS := hide hs
  have HX := hide hx
  obtain ⟨st, own, dl, ser, ep⟩ := s
  dsimp only at hst
  subst hst
  clear hg hd hq hs hx
  dsimp only at *
  go_enter Try.func9, Try.ntmps9
  go_wp2_with fail
  (with_reducible refine (check_any ⟨0, own, dl, ser, ep⟩ _).mono ?_)
  rintro e w0 ⟨rfl, hx0'⟩
  rw [HG.out]
  have H0 := (sep2 w 26 38 (sc ⟨0, own, dl, ser, ep⟩) (xc x)).ext hx0'
  clear hx0'
  obtain ⟨a0, a1, a2, a3, a4, a5, a6, a7, a8, a9, af, az⟩ := cells10 (H0.blk (.head _))
  obtain ⟨b0, b1, b2, b3, b4, bf, bs⟩ := cells5 (H0.blk (.tail _ (.head _)))
  have K0 := hide H0
  clear H0
  go_wp2_with fail
  (with_reducible refine (done_any ⟨0, own, dl, ser, ep⟩ x x.t _ HS.out HX.out).mono ?_)
  rintro e w1 ⟨rfl, hx1⟩
  rw [HD.out]
  have K1 := hide ((K0.out.ext hx1).add 26 (sc ⟨1, x.own, x.at_, ser, ep⟩))
  clear a0 a1 a2 a3 a4 a5 a6 a7 a8 a9 af az b0 b1 b2 b3 b4 bf bs hx1 K0
  go_wp2_with fail
  (with_reducible refine (check_any ⟨1, x.own, x.at_, ser, ep⟩ _).mono ?_)
  rintro e w2 ⟨rfl, hx2⟩
  rw [HG2.out]
  have H2 := K1.out.ext hx2
  clear hx2 K1
  obtain ⟨a0, a1, a2, a3, a4, a5, a6, a7, a8, a9, af, az⟩ := cells10 (H2.blk (.tail _ (.head _)))
  have K2 := hide (H2.add2 49 49 fromA toA)
  have hzz : w.heap.size < w2.heap.size := by omega
  clear H2
  go_wp2_with fail
  rw [HQ.out]
  refine wp_region_wm [0, 1, 2, 3, 4, 5, 6, 7, 8, 9, 10, 11, 12, 13] (by kernel_rfl) (by kernel_rfl) (by kernel_rfl) (by kernel_rfl) ?_
  have H3 := K2.out.drew
  clear K2 a0 a1 a2 a3 a4 a5 a6 a7 a8 a9 af az
  have hw2 : w2.heap.size + 1 < (World.alloc (World.alloc w2 (.cells fromA.toArray 49)) (.cells toA.toArray 49)).drew.heap.size := by simp
  generalize (World.alloc (World.alloc w2 _) _).drew = wd at *
  have hB0 := H3.blk (g := w.heap.size) (List.Mem.tail _ (List.Mem.tail _ (List.Mem.tail _ (List.Mem.tail _ (List.Mem.head _)))))
  have hB1 := H3.blk (g := w1.heap.size) (List.Mem.tail _ (List.Mem.tail _ (List.Mem.head _)))
  have hF := H3.blk (g := w2.heap.size) (List.Mem.tail _ (List.Mem.head _))
  have hT := H3.blk (g := w2.heap.size + 1) (List.Mem.head _)
  refine wm_rd rfl rfl (fun K hK => ?_); go_simp; refine hK _ ?_; clear hK K
  refine wm_ld1 rfl rfl 3 (.tmp 42) rfl rfl (hB0.cell 0) _ Try.underlying3 rfl ?_
  iterate 2 (refine wm_rd rfl rfl (fun K hK => ?_); go_simp; refine hK _ ?_; clear hK K)
  refine wm_ld1 rfl rfl 3 (.tmp 45) rfl rfl (hF.cell 0) _ Try.underlying3 rfl ?_
  iterate 3 (refine wm_rd rfl rfl (fun K hK => ?_); go_simp; refine hK _ ?_; clear hK K)
  refine wm_ld1 rfl rfl 3 (.tmp 49) rfl rfl (hB1.cell 0) _ Try.underlying3 rfl ?_
  iterate 2 (refine wm_rd rfl rfl (fun K hK => ?_); go_simp; refine hK _ ?_; clear hK K)
  refine wm_ld1 rfl rfl 3 (.tmp 52) rfl rfl (hT.cell 0) _ Try.underlying3 rfl ?_
  iterate 2 (refine wm_rd rfl rfl (fun K hK => ?_); go_simp; refine hK _ ?_; clear hK K)
  refine wm_nil ?_
  clear hB0 hB1 hF hT
  obtain ⟨a0, a1, a2, a3, a4, a5, a6, a7, a8, a9, af, az⟩ := cells10 (H3.blk (g := w.heap.size + 1) (List.Mem.tail _ (List.Mem.tail _ (List.Mem.tail _ (List.Mem.head _)))))
  obtain ⟨b0, b1, b2, b3, b4, bf, bs⟩ := cells5 (H3.blk (g := w.heap.size) (List.Mem.tail _ (List.Mem.tail _ (List.Mem.tail _ (List.Mem.tail _ (List.Mem.head _))))))
  obtain ⟨n0, n1, n2, n3, n4, nf, ns⟩ := cells5 (H3.blk (g := w1.heap.size) (List.Mem.tail _ (List.Mem.tail _ (List.Mem.head _))))
  have HX3 := hide H3.toExt
  clear H3
  go_wp2_with fail
  (with_reducible refine (awake_any _).mono ?_)
  rintro e w4 ⟨rfl, hx4⟩
  go_wp2_with fail
  go_ret
  exact ⟨rfl, HX3.out.trans hx4⟩
set_option maxRecDepth 100000 in
set_option maxHeartbeats 4000000 in
theorem states_1 (w : World) (s : Se) (x : Ca) (hs : s.ok) (hx : x.ok) (hg : good s) (hd : doneS s x x.t = (⟨0, 0, 0, s.ser, s.ep⟩, 0)) (hq : x.what % 8 = 1) (hst : s.st = 1) (f1 : (s.own == x.own) = true) :
    Calls Try.prog 9 #[sv s, xv x] w fun e w' => e = .returned (.bool true) ∧ Ext w w' := by
  have HG := hide (chkg hg)
  have HG2 := hide (chkg (done_good (x := x) (t := x.t) hg))
  rw [hd] at HG2
  have HD := hide hd
  have HQ := hide hq
  have hx0 : 0 ≤ x.what := hx.what.1
  have HS := hide hs
  have HX := hide hx
  obtain ⟨st, own, dl, ser, ep⟩ := s
  dsimp only at hst
  subst hst
  clear hg hd hq hs hx
  dsimp only at *
  go_enter Try.func9, Try.ntmps9
  go_wp2_with fail
  (with_reducible refine (check_any ⟨1, own, dl, ser, ep⟩ _).mono ?_)
  rintro e w0 ⟨rfl, hx0'⟩
  rw [HG.out]
  have H0 := (sep2 w 26 38 (sc ⟨1, own, dl, ser, ep⟩) (xc x)).ext hx0'
  clear hx0'
  obtain ⟨a0, a1, a2, a3, a4, a5, a6, a7, a8, a9, af, az⟩ := cells10 (H0.blk (.head _))
  obtain ⟨b0, b1, b2, b3, b4, bf, bs⟩ := cells5 (H0.blk (.tail _ (.head _)))
  have K0 := hide H0
  clear H0
  go_wp2_with fail
  (with_reducible refine (done_any ⟨1, own, dl, ser, ep⟩ x x.t _ HS.out HX.out).mono ?_)
  rintro e w1 ⟨rfl, hx1⟩
  rw [HD.out]
  have K1 := hide ((K0.out.ext hx1).add 26 (sc ⟨0, 0, 0, ser, ep⟩))
  clear a0 a1 a2 a3 a4 a5 a6 a7 a8 a9 af az b0 b1 b2 b3 b4 bf bs hx1 K0
  go_wp2_with fail
  (with_reducible refine (check_any ⟨0, 0, 0, ser, ep⟩ _).mono ?_)
  rintro e w2 ⟨rfl, hx2⟩
  rw [HG2.out]
  have H2 := K1.out.ext hx2
  clear hx2 K1
  obtain ⟨a0, a1, a2, a3, a4, a5, a6, a7, a8, a9, af, az⟩ := cells10 (H2.blk (.tail _ (.head _)))
  have K2 := hide (H2.add2 49 49 fromA toA)
  have hzz : w.heap.size < w2.heap.size := by omega
  clear H2
  go_wp2_with fail
  rw [HQ.out]
  refine wp_region_wm [0, 1, 2, 3, 4, 5, 6, 7, 8, 9, 10, 11, 12, 13] (by kernel_rfl) (by kernel_rfl) (by kernel_rfl) (by kernel_rfl) ?_
  have H3 := K2.out.drew
  clear K2 a0 a1 a2 a3 a4 a5 a6 a7 a8 a9 af az
  have hw2 : w2.heap.size + 1 < (World.alloc (World.alloc w2 (.cells fromA.toArray 49)) (.cells toA.toArray 49)).drew.heap.size := by simp
  generalize (World.alloc (World.alloc w2 _) _).drew = wd at *
  have hB0 := H3.blk (g := w.heap.size) (List.Mem.tail _ (List.Mem.tail _ (List.Mem.tail _ (List.Mem.tail _ (List.Mem.head _)))))
  have hB1 := H3.blk (g := w1.heap.size) (List.Mem.tail _ (List.Mem.tail _ (List.Mem.head _)))
  have hF := H3.blk (g := w2.heap.size) (List.Mem.tail _ (List.Mem.head _))
  have hT := H3.blk (g := w2.heap.size + 1) (List.Mem.head _)
  refine wm_rd rfl rfl (fun K hK => ?_); go_simp; refine hK _ ?_; clear hK K
  refine wm_ld1 rfl rfl 3 (.tmp 42) rfl rfl (hB0.cell 0) _ Try.underlying3 rfl ?_
  iterate 2 (refine wm_rd rfl rfl (fun K hK => ?_); go_simp; refine hK _ ?_; clear hK K)
  refine wm_ld1 rfl rfl 3 (.tmp 45) rfl rfl (hF.cell 1) _ Try.underlying3 rfl ?_
  iterate 3 (refine wm_rd rfl rfl (fun K hK => ?_); go_simp; refine hK _ ?_; clear hK K)
  refine wm_ld1 rfl rfl 3 (.tmp 49) rfl rfl (hB1.cell 0) _ Try.underlying3 rfl ?_
  iterate 2 (refine wm_rd rfl rfl (fun K hK => ?_); go_simp; refine hK _ ?_; clear hK K)
  refine wm_ld1 rfl rfl 3 (.tmp 52) rfl rfl (hT.cell 1) _ Try.underlying3 rfl ?_
  iterate 2 (refine wm_rd rfl rfl (fun K hK => ?_); go_simp; refine hK _ ?_; clear hK K)
  refine wm_nil ?_
  clear hB0 hB1 hF hT
  obtain ⟨a0, a1, a2, a3, a4, a5, a6, a7, a8, a9, af, az⟩ := cells10 (H3.blk (g := w.heap.size + 1) (List.Mem.tail _ (List.Mem.tail _ (List.Mem.tail _ (List.Mem.head _)))))
  obtain ⟨b0, b1, b2, b3, b4, bf, bs⟩ := cells5 (H3.blk (g := w.heap.size) (List.Mem.tail _ (List.Mem.tail _ (List.Mem.tail _ (List.Mem.tail _ (List.Mem.head _))))))
  obtain ⟨n0, n1, n2, n3, n4, nf, ns⟩ := cells5 (H3.blk (g := w1.heap.size) (List.Mem.tail _ (List.Mem.tail _ (List.Mem.head _))))
  have HX3 := hide H3.toExt
  clear H3
  go_wp2_with fail
  (with_reducible refine (awake_any _).mono ?_)
  rintro e w4 ⟨rfl, hx4⟩
  go_wp2_with fail
  go_ret
  exact ⟨rfl, HX3.out.trans hx4⟩
set_option maxRecDepth 100000 in
set_option maxHeartbeats 4000000 in
theorem states_2 (w : World) (s : Se) (x : Ca) (hs : s.ok) (hx : x.ok) (hg : good s) (hd : doneS s x x.t = (⟨0, 0, 0, s.ser, s.ep⟩, 0)) (hq : x.what % 8 = 2) (hst : s.st = 1) (f1 : decide (s.dl ≤ x.at_) = true) :
    Calls Try.prog 9 #[sv s, xv x] w fun e w' => e = .returned (.bool true) ∧ Ext w w' := by
  have HG := hide (chkg hg)
  have HG2 := hide (chkg (done_good (x := x) (t := x.t) hg))
  rw [hd] at HG2
  have HD := hide hd
  have HQ := hide hq
  have hx0 : 0 ≤ x.what := hx.what.1
  have HS := hide hs
  have HX := hide hx
  obtain ⟨st, own, dl, ser, ep⟩ := s
  dsimp only at hst
  subst hst
  clear hg hd hq hs hx
  dsimp only at *
  go_enter Try.func9, Try.ntmps9
  go_wp2_with fail
  (with_reducible refine (check_any ⟨1, own, dl, ser, ep⟩ _).mono ?_)
  rintro e w0 ⟨rfl, hx0'⟩
  rw [HG.out]
  have H0 := (sep2 w 26 38 (sc ⟨1, own, dl, ser, ep⟩) (xc x)).ext hx0'
  clear hx0'
  obtain ⟨a0, a1, a2, a3, a4, a5, a6, a7, a8, a9, af, az⟩ := cells10 (H0.blk (.head _))
  obtain ⟨b0, b1, b2, b3, b4, bf, bs⟩ := cells5 (H0.blk (.tail _ (.head _)))
  have K0 := hide H0
  clear H0
  go_wp2_with fail
  (with_reducible refine (done_any ⟨1, own, dl, ser, ep⟩ x x.t _ HS.out HX.out).mono ?_)
  rintro e w1 ⟨rfl, hx1⟩
  rw [HD.out]
  have K1 := hide ((K0.out.ext hx1).add 26 (sc ⟨0, 0, 0, ser, ep⟩))
  clear a0 a1 a2 a3 a4 a5 a6 a7 a8 a9 af az b0 b1 b2 b3 b4 bf bs hx1 K0
  go_wp2_with fail
  (with_reducible refine (check_any ⟨0, 0, 0, ser, ep⟩ _).mono ?_)
  rintro e w2 ⟨rfl, hx2⟩
  rw [HG2.out]
  have H2 := K1.out.ext hx2
  clear hx2 K1
  obtain ⟨a0, a1, a2, a3, a4, a5, a6, a7, a8, a9, af, az⟩ := cells10 (H2.blk (.tail _ (.head _)))
  have K2 := hide (H2.add2 49 49 fromA toA)
  have hzz : w.heap.size < w2.heap.size := by omega
  clear H2
  go_wp2_with fail
  rw [HQ.out]
  refine wp_region_wm [0, 1, 2, 3, 4, 5, 6, 7, 8, 9, 10, 11, 12, 13] (by kernel_rfl) (by kernel_rfl) (by kernel_rfl) (by kernel_rfl) ?_
  have H3 := K2.out.drew
  clear K2 a0 a1 a2 a3 a4 a5 a6 a7 a8 a9 af az
  have hw2 : w2.heap.size + 1 < (World.alloc (World.alloc w2 (.cells fromA.toArray 49)) (.cells toA.toArray 49)).drew.heap.size := by simp
  generalize (World.alloc (World.alloc w2 _) _).drew = wd at *
  have hB0 := H3.blk (g := w.heap.size) (List.Mem.tail _ (List.Mem.tail _ (List.Mem.tail _ (List.Mem.tail _ (List.Mem.head _)))))
  have hB1 := H3.blk (g := w1.heap.size) (List.Mem.tail _ (List.Mem.tail _ (List.Mem.head _)))
  have hF := H3.blk (g := w2.heap.size) (List.Mem.tail _ (List.Mem.head _))
  have hT := H3.blk (g := w2.heap.size + 1) (List.Mem.head _)
  refine wm_rd rfl rfl (fun K hK => ?_); go_simp; refine hK _ ?_; clear hK K
  refine wm_ld1 rfl rfl 3 (.tmp 42) rfl rfl (hB0.cell 0) _ Try.underlying3 rfl ?_
  iterate 2 (refine wm_rd rfl rfl (fun K hK => ?_); go_simp; refine hK _ ?_; clear hK K)
  refine wm_ld1 rfl rfl 3 (.tmp 45) rfl rfl (hF.cell 2) _ Try.underlying3 rfl ?_
  iterate 3 (refine wm_rd rfl rfl (fun K hK => ?_); go_simp; refine hK _ ?_; clear hK K)
  refine wm_ld1 rfl rfl 3 (.tmp 49) rfl rfl (hB1.cell 0) _ Try.underlying3 rfl ?_
  iterate 2 (refine wm_rd rfl rfl (fun K hK => ?_); go_simp; refine hK _ ?_; clear hK K)
  refine wm_ld1 rfl rfl 3 (.tmp 52) rfl rfl (hT.cell 2) _ Try.underlying3 rfl ?_
  iterate 2 (refine wm_rd rfl rfl (fun K hK => ?_); go_simp; refine hK _ ?_; clear hK K)
  refine wm_nil ?_
  clear hB0 hB1 hF hT
  obtain ⟨a0, a1, a2, a3, a4, a5, a6, a7, a8, a9, af, az⟩ := cells10 (H3.blk (g := w.heap.size + 1) (List.Mem.tail _ (List.Mem.tail _ (List.Mem.tail _ (List.Mem.head _)))))
  obtain ⟨b0, b1, b2, b3, b4, bf, bs⟩ := cells5 (H3.blk (g := w.heap.size) (List.Mem.tail _ (List.Mem.tail _ (List.Mem.tail _ (List.Mem.tail _ (List.Mem.head _))))))
  obtain ⟨n0, n1, n2, n3, n4, nf, ns⟩ := cells5 (H3.blk (g := w1.heap.size) (List.Mem.tail _ (List.Mem.tail _ (List.Mem.head _))))
  have HX3 := hide H3.toExt
  clear H3
  go_wp2_with fail
  (with_reducible refine (awake_any _).mono ?_)
  rintro e w4 ⟨rfl, hx4⟩
  go_wp2_with fail
  go_ret
  exact ⟨rfl, HX3.out.trans hx4⟩
set_option maxRecDepth 100000 in
set_option maxHeartbeats 4000000 in
theorem states_3 (w : World) (s : Se) (x : Ca) (hs : s.ok) (hx : x.ok) (hg : good s) (hd : doneS s x x.t = (⟨2, x.own, 0, s.ser + 1, s.ep⟩, 0)) (hq : x.what % 8 = 3) (hst : s.st = 1) (f1 : (s.own == x.own) = true) :
    Calls Try.prog 9 #[sv s, xv x] w fun e w' => e = .returned (.bool true) ∧ Ext w w' := by
  have HG := hide (chkg hg)
  have HG2 := hide (chkg (done_good (x := x) (t := x.t) hg))
  rw [hd] at HG2
  have HD := hide hd
  have HQ := hide hq
  have hx0 : 0 ≤ x.what := hx.what.1
  have HS := hide hs
  have HX := hide hx
  obtain ⟨st, own, dl, ser, ep⟩ := s
  dsimp only at hst
  subst hst
  clear hg hd hq hs hx
  dsimp only at *
  go_enter Try.func9, Try.ntmps9
  go_wp2_with fail
  (with_reducible refine (check_any ⟨1, own, dl, ser, ep⟩ _).mono ?_)
  rintro e w0 ⟨rfl, hx0'⟩
  rw [HG.out]
  have H0 := (sep2 w 26 38 (sc ⟨1, own, dl, ser, ep⟩) (xc x)).ext hx0'
  clear hx0'
  obtain ⟨a0, a1, a2, a3, a4, a5, a6, a7, a8, a9, af, az⟩ := cells10 (H0.blk (.head _))
  obtain ⟨b0, b1, b2, b3, b4, bf, bs⟩ := cells5 (H0.blk (.tail _ (.head _)))
  have K0 := hide H0
  clear H0
  go_wp2_with fail
  (with_reducible refine (done_any ⟨1, own, dl, ser, ep⟩ x x.t _ HS.out HX.out).mono ?_)
  rintro e w1 ⟨rfl, hx1⟩
  rw [HD.out]
  have K1 := hide ((K0.out.ext hx1).add 26 (sc ⟨2, x.own, 0, ser + 1, ep⟩))
  clear a0 a1 a2 a3 a4 a5 a6 a7 a8 a9 af az b0 b1 b2 b3 b4 bf bs hx1 K0
  go_wp2_with fail
  (with_reducible refine (check_any ⟨2, x.own, 0, ser + 1, ep⟩ _).mono ?_)
  rintro e w2 ⟨rfl, hx2⟩
  rw [HG2.out]
  have H2 := K1.out.ext hx2
  clear hx2 K1
  obtain ⟨a0, a1, a2, a3, a4, a5, a6, a7, a8, a9, af, az⟩ := cells10 (H2.blk (.tail _ (.head _)))
  have K2 := hide (H2.add2 49 49 fromA toA)
  have hzz : w.heap.size < w2.heap.size := by omega
  clear H2
  go_wp2_with fail
  rw [HQ.out]
  refine wp_region_wm [0, 1, 2, 3, 4, 5, 6, 7, 8, 9, 10, 11, 12, 13] (by kernel_rfl) (by kernel_rfl) (by kernel_rfl) (by kernel_rfl) ?_
  have H3 := K2.out.drew
  clear K2 a0 a1 a2 a3 a4 a5 a6 a7 a8 a9 af az
  have hw2 : w2.heap.size + 1 < (World.alloc (World.alloc w2 (.cells fromA.toArray 49)) (.cells toA.toArray 49)).drew.heap.size := by simp
  generalize (World.alloc (World.alloc w2 _) _).drew = wd at *
  have hB0 := H3.blk (g := w.heap.size) (List.Mem.tail _ (List.Mem.tail _ (List.Mem.tail _ (List.Mem.tail _ (List.Mem.head _)))))
  have hB1 := H3.blk (g := w1.heap.size) (List.Mem.tail _ (List.Mem.tail _ (List.Mem.head _)))
  have hF := H3.blk (g := w2.heap.size) (List.Mem.tail _ (List.Mem.head _))
  have hT := H3.blk (g := w2.heap.size + 1) (List.Mem.head _)
  refine wm_rd rfl rfl (fun K hK => ?_); go_simp; refine hK _ ?_; clear hK K
  refine wm_ld1 rfl rfl 3 (.tmp 42) rfl rfl (hB0.cell 0) _ Try.underlying3 rfl ?_
  iterate 2 (refine wm_rd rfl rfl (fun K hK => ?_); go_simp; refine hK _ ?_; clear hK K)
  refine wm_ld1 rfl rfl 3 (.tmp 45) rfl rfl (hF.cell 3) _ Try.underlying3 rfl ?_
  iterate 3 (refine wm_rd rfl rfl (fun K hK => ?_); go_simp; refine hK _ ?_; clear hK K)
  refine wm_ld1 rfl rfl 3 (.tmp 49) rfl rfl (hB1.cell 0) _ Try.underlying3 rfl ?_
  iterate 2 (refine wm_rd rfl rfl (fun K hK => ?_); go_simp; refine hK _ ?_; clear hK K)
  refine wm_ld1 rfl rfl 3 (.tmp 52) rfl rfl (hT.cell 3) _ Try.underlying3 rfl ?_
  iterate 2 (refine wm_rd rfl rfl (fun K hK => ?_); go_simp; refine hK _ ?_; clear hK K)
  refine wm_nil ?_
  clear hB0 hB1 hF hT
  obtain ⟨a0, a1, a2, a3, a4, a5, a6, a7, a8, a9, af, az⟩ := cells10 (H3.blk (g := w.heap.size + 1) (List.Mem.tail _ (List.Mem.tail _ (List.Mem.tail _ (List.Mem.head _)))))
  obtain ⟨b0, b1, b2, b3, b4, bf, bs⟩ := cells5 (H3.blk (g := w.heap.size) (List.Mem.tail _ (List.Mem.tail _ (List.Mem.tail _ (List.Mem.tail _ (List.Mem.head _))))))
  obtain ⟨n0, n1, n2, n3, n4, nf, ns⟩ := cells5 (H3.blk (g := w1.heap.size) (List.Mem.tail _ (List.Mem.tail _ (List.Mem.head _))))
  have HX3 := hide H3.toExt
  clear H3
  go_wp2_with fail
  (with_reducible refine (awake_any _).mono ?_)
  rintro e w4 ⟨rfl, hx4⟩
  go_wp2_with fail
  go_ret
  exact ⟨rfl, HX3.out.trans hx4⟩
set_option maxRecDepth 100000 in
set_option maxHeartbeats 4000000 in
theorem states_4 (w : World) (s : Se) (x : Ca) (hs : s.ok) (hx : x.ok) (hg : good s) (hd : doneS s x x.t = (⟨2, x.to, 0, s.ser + 1, s.ep⟩, 0)) (hq : x.what % 8 = 4) (hst : s.st = 2) (f1 : (x.t.own == s.own) = true) :
    Calls Try.prog 9 #[sv s, xv x] w fun e w' => e = .returned (.bool true) ∧ Ext w w' := by
  have HG := hide (chkg hg)
  have HG2 := hide (chkg (done_good (x := x) (t := x.t) hg))
  rw [hd] at HG2
  have HD := hide hd
  have HQ := hide hq
  have hx0 : 0 ≤ x.what := hx.what.1
  have HS := hide hs
  have HX := hide hx
  obtain ⟨st, own, dl, ser, ep⟩ := s
  dsimp only at hst
  subst hst
  clear hg hd hq hs hx
  dsimp only at *
  go_enter Try.func9, Try.ntmps9
  go_wp2_with fail
  (with_reducible refine (check_any ⟨2, own, dl, ser, ep⟩ _).mono ?_)
  rintro e w0 ⟨rfl, hx0'⟩
  rw [HG.out]
  have H0 := (sep2 w 26 38 (sc ⟨2, own, dl, ser, ep⟩) (xc x)).ext hx0'
  clear hx0'
  obtain ⟨a0, a1, a2, a3, a4, a5, a6, a7, a8, a9, af, az⟩ := cells10 (H0.blk (.head _))
  obtain ⟨b0, b1, b2, b3, b4, bf, bs⟩ := cells5 (H0.blk (.tail _ (.head _)))
  have K0 := hide H0
  clear H0
  go_wp2_with fail
  (with_reducible refine (done_any ⟨2, own, dl, ser, ep⟩ x x.t _ HS.out HX.out).mono ?_)
  rintro e w1 ⟨rfl, hx1⟩
  rw [HD.out]
  have K1 := hide ((K0.out.ext hx1).add 26 (sc ⟨2, x.to, 0, ser + 1, ep⟩))
  clear a0 a1 a2 a3 a4 a5 a6 a7 a8 a9 af az b0 b1 b2 b3 b4 bf bs hx1 K0
  go_wp2_with fail
  (with_reducible refine (check_any ⟨2, x.to, 0, ser + 1, ep⟩ _).mono ?_)
  rintro e w2 ⟨rfl, hx2⟩
  rw [HG2.out]
  have H2 := K1.out.ext hx2
  clear hx2 K1
  obtain ⟨a0, a1, a2, a3, a4, a5, a6, a7, a8, a9, af, az⟩ := cells10 (H2.blk (.tail _ (.head _)))
  have K2 := hide (H2.add2 49 49 fromA toA)
  have hzz : w.heap.size < w2.heap.size := by omega
  clear H2
  go_wp2_with fail
  rw [HQ.out]
  refine wp_region_wm [0, 1, 2, 3, 4, 5, 6, 7, 8, 9, 10, 11, 12, 13] (by kernel_rfl) (by kernel_rfl) (by kernel_rfl) (by kernel_rfl) ?_
  have H3 := K2.out.drew
  clear K2 a0 a1 a2 a3 a4 a5 a6 a7 a8 a9 af az
  have hw2 : w2.heap.size + 1 < (World.alloc (World.alloc w2 (.cells fromA.toArray 49)) (.cells toA.toArray 49)).drew.heap.size := by simp
  generalize (World.alloc (World.alloc w2 _) _).drew = wd at *
  have hB0 := H3.blk (g := w.heap.size) (List.Mem.tail _ (List.Mem.tail _ (List.Mem.tail _ (List.Mem.tail _ (List.Mem.head _)))))
  have hB1 := H3.blk (g := w1.heap.size) (List.Mem.tail _ (List.Mem.tail _ (List.Mem.head _)))
  have hF := H3.blk (g := w2.heap.size) (List.Mem.tail _ (List.Mem.head _))
  have hT := H3.blk (g := w2.heap.size + 1) (List.Mem.head _)
  refine wm_rd rfl rfl (fun K hK => ?_); go_simp; refine hK _ ?_; clear hK K
  refine wm_ld1 rfl rfl 3 (.tmp 42) rfl rfl (hB0.cell 0) _ Try.underlying3 rfl ?_
  iterate 2 (refine wm_rd rfl rfl (fun K hK => ?_); go_simp; refine hK _ ?_; clear hK K)
  refine wm_ld1 rfl rfl 3 (.tmp 45) rfl rfl (hF.cell 4) _ Try.underlying3 rfl ?_
  iterate 3 (refine wm_rd rfl rfl (fun K hK => ?_); go_simp; refine hK _ ?_; clear hK K)
  refine wm_ld1 rfl rfl 3 (.tmp 49) rfl rfl (hB1.cell 0) _ Try.underlying3 rfl ?_
  iterate 2 (refine wm_rd rfl rfl (fun K hK => ?_); go_simp; refine hK _ ?_; clear hK K)
  refine wm_ld1 rfl rfl 3 (.tmp 52) rfl rfl (hT.cell 4) _ Try.underlying3 rfl ?_
  iterate 2 (refine wm_rd rfl rfl (fun K hK => ?_); go_simp; refine hK _ ?_; clear hK K)
  refine wm_nil ?_
  clear hB0 hB1 hF hT
  obtain ⟨a0, a1, a2, a3, a4, a5, a6, a7, a8, a9, af, az⟩ := cells10 (H3.blk (g := w.heap.size + 1) (List.Mem.tail _ (List.Mem.tail _ (List.Mem.tail _ (List.Mem.head _)))))
  obtain ⟨b0, b1, b2, b3, b4, bf, bs⟩ := cells5 (H3.blk (g := w.heap.size) (List.Mem.tail _ (List.Mem.tail _ (List.Mem.tail _ (List.Mem.tail _ (List.Mem.head _))))))
  obtain ⟨n0, n1, n2, n3, n4, nf, ns⟩ := cells5 (H3.blk (g := w1.heap.size) (List.Mem.tail _ (List.Mem.tail _ (List.Mem.head _))))
  have HX3 := hide H3.toExt
  clear H3
  go_wp2_with fail
  (with_reducible refine (awake_any _).mono ?_)
  rintro e w4 ⟨rfl, hx4⟩
  go_wp2_with fail
  go_ret
  exact ⟨rfl, HX3.out.trans hx4⟩
set_option maxRecDepth 100000 in
set_option maxHeartbeats 4000000 in
theorem states_5 (w : World) (s : Se) (x : Ca) (hs : s.ok) (hx : x.ok) (hg : good s) (hd : doneS s x x.t = (⟨0, 0, 0, s.ser, s.ep⟩, 0)) (hq : x.what % 8 = 5) (hst : s.st = 2) (f1 : (x.t.own == s.own) = true) (f2 : (x.t.ser == s.ser) = true) (f3 : (x.t.ep == s.ep) = true) :
    Calls Try.prog 9 #[sv s, xv x] w fun e w' => e = .returned (.bool true) ∧ Ext w w' := by
  have HG := hide (chkg hg)
  have HG2 := hide (chkg (done_good (x := x) (t := x.t) hg))
  rw [hd] at HG2
  have HD := hide hd
  have HQ := hide hq
  have hx0 : 0 ≤ x.what := hx.what.1
  have HS := hide hs
  have HX := hide hx
  obtain ⟨st, own, dl, ser, ep⟩ := s
  dsimp only at hst
  subst hst
  clear hg hd hq hs hx
  dsimp only at *
  go_enter Try.func9, Try.ntmps9
  go_wp2_with fail
  (with_reducible refine (check_any ⟨2, own, dl, ser, ep⟩ _).mono ?_)
  rintro e w0 ⟨rfl, hx0'⟩
  rw [HG.out]
  have H0 := (sep2 w 26 38 (sc ⟨2, own, dl, ser, ep⟩) (xc x)).ext hx0'
  clear hx0'
  obtain ⟨a0, a1, a2, a3, a4, a5, a6, a7, a8, a9, af, az⟩ := cells10 (H0.blk (.head _))
  obtain ⟨b0, b1, b2, b3, b4, bf, bs⟩ := cells5 (H0.blk (.tail _ (.head _)))
  have K0 := hide H0
  clear H0
  go_wp2_with fail
  (with_reducible refine (done_any ⟨2, own, dl, ser, ep⟩ x x.t _ HS.out HX.out).mono ?_)
  rintro e w1 ⟨rfl, hx1⟩
  rw [HD.out]
  have K1 := hide ((K0.out.ext hx1).add 26 (sc ⟨0, 0, 0, ser, ep⟩))
  clear a0 a1 a2 a3 a4 a5 a6 a7 a8 a9 af az b0 b1 b2 b3 b4 bf bs hx1 K0
  go_wp2_with fail
  (with_reducible refine (check_any ⟨0, 0, 0, ser, ep⟩ _).mono ?_)
  rintro e w2 ⟨rfl, hx2⟩
  rw [HG2.out]
  have H2 := K1.out.ext hx2
  clear hx2 K1
  obtain ⟨a0, a1, a2, a3, a4, a5, a6, a7, a8, a9, af, az⟩ := cells10 (H2.blk (.tail _ (.head _)))
  have K2 := hide (H2.add2 49 49 fromA toA)
  have hzz : w.heap.size < w2.heap.size := by omega
  clear H2
  go_wp2_with fail
  rw [HQ.out]
  refine wp_region_wm [0, 1, 2, 3, 4, 5, 6, 7, 8, 9, 10, 11, 12, 13] (by kernel_rfl) (by kernel_rfl) (by kernel_rfl) (by kernel_rfl) ?_
  have H3 := K2.out.drew
  clear K2 a0 a1 a2 a3 a4 a5 a6 a7 a8 a9 af az
  have hw2 : w2.heap.size + 1 < (World.alloc (World.alloc w2 (.cells fromA.toArray 49)) (.cells toA.toArray 49)).drew.heap.size := by simp
  generalize (World.alloc (World.alloc w2 _) _).drew = wd at *
  have hB0 := H3.blk (g := w.heap.size) (List.Mem.tail _ (List.Mem.tail _ (List.Mem.tail _ (List.Mem.tail _ (List.Mem.head _)))))
  have hB1 := H3.blk (g := w1.heap.size) (List.Mem.tail _ (List.Mem.tail _ (List.Mem.head _)))
  have hF := H3.blk (g := w2.heap.size) (List.Mem.tail _ (List.Mem.head _))
  have hT := H3.blk (g := w2.heap.size + 1) (List.Mem.head _)
  refine wm_rd rfl rfl (fun K hK => ?_); go_simp; refine hK _ ?_; clear hK K
  refine wm_ld1 rfl rfl 3 (.tmp 42) rfl rfl (hB0.cell 0) _ Try.underlying3 rfl ?_
  iterate 2 (refine wm_rd rfl rfl (fun K hK => ?_); go_simp; refine hK _ ?_; clear hK K)
  refine wm_ld1 rfl rfl 3 (.tmp 45) rfl rfl (hF.cell 5) _ Try.underlying3 rfl ?_
  iterate 3 (refine wm_rd rfl rfl (fun K hK => ?_); go_simp; refine hK _ ?_; clear hK K)
  refine wm_ld1 rfl rfl 3 (.tmp 49) rfl rfl (hB1.cell 0) _ Try.underlying3 rfl ?_
  iterate 2 (refine wm_rd rfl rfl (fun K hK => ?_); go_simp; refine hK _ ?_; clear hK K)
  refine wm_ld1 rfl rfl 3 (.tmp 52) rfl rfl (hT.cell 5) _ Try.underlying3 rfl ?_
  iterate 2 (refine wm_rd rfl rfl (fun K hK => ?_); go_simp; refine hK _ ?_; clear hK K)
  refine wm_nil ?_
  clear hB0 hB1 hF hT
  obtain ⟨a0, a1, a2, a3, a4, a5, a6, a7, a8, a9, af, az⟩ := cells10 (H3.blk (g := w.heap.size + 1) (List.Mem.tail _ (List.Mem.tail _ (List.Mem.tail _ (List.Mem.head _)))))
  obtain ⟨b0, b1, b2, b3, b4, bf, bs⟩ := cells5 (H3.blk (g := w.heap.size) (List.Mem.tail _ (List.Mem.tail _ (List.Mem.tail _ (List.Mem.tail _ (List.Mem.head _))))))
  obtain ⟨n0, n1, n2, n3, n4, nf, ns⟩ := cells5 (H3.blk (g := w1.heap.size) (List.Mem.tail _ (List.Mem.tail _ (List.Mem.head _))))
  have HX3 := hide H3.toExt
  clear H3
  go_wp2_with fail
  (with_reducible refine (awake_any _).mono ?_)
  rintro e w4 ⟨rfl, hx4⟩
  go_wp2_with fail
  go_ret
  exact ⟨rfl, HX3.out.trans hx4⟩
set_option maxRecDepth 100000 in
set_option maxHeartbeats 4000000 in
theorem states_6 (w : World) (s : Se) (x : Ca) (hs : s.ok) (hx : x.ok) (hg : good s) (hd : doneS s x x.t = (⟨0, 0, 0, s.ser, s.ep + 1⟩, 0)) (hq : x.what % 8 = 6) (hst : s.st = 2)  :
    Calls Try.prog 9 #[sv s, xv x] w fun e w' => e = .returned (.bool true) ∧ Ext w w' := by
  have HG := hide (chkg hg)
  have HG2 := hide (chkg (done_good (x := x) (t := x.t) hg))
  rw [hd] at HG2
  have HD := hide hd
  have HQ := hide hq
  have hx0 : 0 ≤ x.what := hx.what.1
  have HS := hide hs
  have HX := hide hx
  obtain ⟨st, own, dl, ser, ep⟩ := s
  dsimp only at hst
  subst hst
  clear hg hd hq hs hx
  dsimp only at *
  go_enter Try.func9, Try.ntmps9
  go_wp2_with fail
  (with_reducible refine (check_any ⟨2, own, dl, ser, ep⟩ _).mono ?_)
  rintro e w0 ⟨rfl, hx0'⟩
  rw [HG.out]
  have H0 := (sep2 w 26 38 (sc ⟨2, own, dl, ser, ep⟩) (xc x)).ext hx0'
  clear hx0'
  obtain ⟨a0, a1, a2, a3, a4, a5, a6, a7, a8, a9, af, az⟩ := cells10 (H0.blk (.head _))
  obtain ⟨b0, b1, b2, b3, b4, bf, bs⟩ := cells5 (H0.blk (.tail _ (.head _)))
  have K0 := hide H0
  clear H0
  go_wp2_with fail
  (with_reducible refine (done_any ⟨2, own, dl, ser, ep⟩ x x.t _ HS.out HX.out).mono ?_)
  rintro e w1 ⟨rfl, hx1⟩
  rw [HD.out]
  have K1 := hide ((K0.out.ext hx1).add 26 (sc ⟨0, 0, 0, ser, ep + 1⟩))
  clear a0 a1 a2 a3 a4 a5 a6 a7 a8 a9 af az b0 b1 b2 b3 b4 bf bs hx1 K0
  go_wp2_with fail
  (with_reducible refine (check_any ⟨0, 0, 0, ser, ep + 1⟩ _).mono ?_)
  rintro e w2 ⟨rfl, hx2⟩
  rw [HG2.out]
  have H2 := K1.out.ext hx2
  clear hx2 K1
  obtain ⟨a0, a1, a2, a3, a4, a5, a6, a7, a8, a9, af, az⟩ := cells10 (H2.blk (.tail _ (.head _)))
  have K2 := hide (H2.add2 49 49 fromA toA)
  have hzz : w.heap.size < w2.heap.size := by omega
  clear H2
  go_wp2_with fail
  rw [HQ.out]
  refine wp_region_wm [0, 1, 2, 3, 4, 5, 6, 7, 8, 9, 10, 11, 12, 13] (by kernel_rfl) (by kernel_rfl) (by kernel_rfl) (by kernel_rfl) ?_
  have H3 := K2.out.drew
  clear K2 a0 a1 a2 a3 a4 a5 a6 a7 a8 a9 af az
  have hw2 : w2.heap.size + 1 < (World.alloc (World.alloc w2 (.cells fromA.toArray 49)) (.cells toA.toArray 49)).drew.heap.size := by simp
  generalize (World.alloc (World.alloc w2 _) _).drew = wd at *
  have hB0 := H3.blk (g := w.heap.size) (List.Mem.tail _ (List.Mem.tail _ (List.Mem.tail _ (List.Mem.tail _ (List.Mem.head _)))))
  have hB1 := H3.blk (g := w1.heap.size) (List.Mem.tail _ (List.Mem.tail _ (List.Mem.head _)))
  have hF := H3.blk (g := w2.heap.size) (List.Mem.tail _ (List.Mem.head _))
  have hT := H3.blk (g := w2.heap.size + 1) (List.Mem.head _)
  refine wm_rd rfl rfl (fun K hK => ?_); go_simp; refine hK _ ?_; clear hK K
  refine wm_ld1 rfl rfl 3 (.tmp 42) rfl rfl (hB0.cell 0) _ Try.underlying3 rfl ?_
  iterate 2 (refine wm_rd rfl rfl (fun K hK => ?_); go_simp; refine hK _ ?_; clear hK K)
  refine wm_ld1 rfl rfl 3 (.tmp 45) rfl rfl (hF.cell 6) _ Try.underlying3 rfl ?_
  iterate 3 (refine wm_rd rfl rfl (fun K hK => ?_); go_simp; refine hK _ ?_; clear hK K)
  refine wm_ld1 rfl rfl 3 (.tmp 49) rfl rfl (hB1.cell 0) _ Try.underlying3 rfl ?_
  iterate 2 (refine wm_rd rfl rfl (fun K hK => ?_); go_simp; refine hK _ ?_; clear hK K)
  refine wm_ld1 rfl rfl 3 (.tmp 52) rfl rfl (hT.cell 6) _ Try.underlying3 rfl ?_
  iterate 2 (refine wm_rd rfl rfl (fun K hK => ?_); go_simp; refine hK _ ?_; clear hK K)
  refine wm_nil ?_
  clear hB0 hB1 hF hT
  obtain ⟨a0, a1, a2, a3, a4, a5, a6, a7, a8, a9, af, az⟩ := cells10 (H3.blk (g := w.heap.size + 1) (List.Mem.tail _ (List.Mem.tail _ (List.Mem.tail _ (List.Mem.head _)))))
  obtain ⟨b0, b1, b2, b3, b4, bf, bs⟩ := cells5 (H3.blk (g := w.heap.size) (List.Mem.tail _ (List.Mem.tail _ (List.Mem.tail _ (List.Mem.tail _ (List.Mem.head _))))))
  obtain ⟨n0, n1, n2, n3, n4, nf, ns⟩ := cells5 (H3.blk (g := w1.heap.size) (List.Mem.tail _ (List.Mem.tail _ (List.Mem.head _))))
  have HX3 := hide H3.toExt
  clear H3
  go_wp2_with fail
  (with_reducible refine (awake_any _).mono ?_)
  rintro e w4 ⟨rfl, hx4⟩
  go_wp2_with fail
  go_ret
  exact ⟨rfl, HX3.out.trans hx4⟩
set_option maxRecDepth 100000 in
set_option maxHeartbeats 4000000 in
theorem states_7 (w : World) (s : Se) (x : Ca) (hs : s.ok) (hx : x.ok) (hg : good s) (hd : doneS s x x.t = (⟨s.st, s.own, s.dl, s.ser, s.ep⟩, 0)) (hq : x.what % 8 = 7) (hst : s.st = 2) (f1 : (x.t.own == s.own) = true) (f2 : (x.t.ser == s.ser) = true) (f3 : (x.t.ep == s.ep) = true) :
    Calls Try.prog 9 #[sv s, xv x] w fun e w' => e = .returned (.bool true) ∧ Ext w w' := by
  have HG := hide (chkg hg)
  have HG2 := hide (chkg (done_good (x := x) (t := x.t) hg))
  rw [hd] at HG2
  have HD := hide hd
  have HQ := hide hq
  have hx0 : 0 ≤ x.what := hx.what.1
  have HS := hide hs
  have HX := hide hx
  obtain ⟨st, own, dl, ser, ep⟩ := s
  dsimp only at hst
  subst hst
  clear hg hd hq hs hx
  dsimp only at *
  go_enter Try.func9, Try.ntmps9
  go_wp2_with fail
  (with_reducible refine (check_any ⟨2, own, dl, ser, ep⟩ _).mono ?_)
  rintro e w0 ⟨rfl, hx0'⟩
  rw [HG.out]
  have H0 := (sep2 w 26 38 (sc ⟨2, own, dl, ser, ep⟩) (xc x)).ext hx0'
  clear hx0'
  obtain ⟨a0, a1, a2, a3, a4, a5, a6, a7, a8, a9, af, az⟩ := cells10 (H0.blk (.head _))
  obtain ⟨b0, b1, b2, b3, b4, bf, bs⟩ := cells5 (H0.blk (.tail _ (.head _)))
  have K0 := hide H0
  clear H0
  go_wp2_with fail
  (with_reducible refine (done_any ⟨2, own, dl, ser, ep⟩ x x.t _ HS.out HX.out).mono ?_)
  rintro e w1 ⟨rfl, hx1⟩
  rw [HD.out]
  have K1 := hide ((K0.out.ext hx1).add 26 (sc ⟨2, own, dl, ser, ep⟩))
  clear a0 a1 a2 a3 a4 a5 a6 a7 a8 a9 af az b0 b1 b2 b3 b4 bf bs hx1 K0
  go_wp2_with fail
  (with_reducible refine (check_any ⟨2, own, dl, ser, ep⟩ _).mono ?_)
  rintro e w2 ⟨rfl, hx2⟩
  rw [HG2.out]
  have H2 := K1.out.ext hx2
  clear hx2 K1
  obtain ⟨a0, a1, a2, a3, a4, a5, a6, a7, a8, a9, af, az⟩ := cells10 (H2.blk (.tail _ (.head _)))
  have K2 := hide (H2.add2 49 49 fromA toA)
  have hzz : w.heap.size < w2.heap.size := by omega
  clear H2
  go_wp2_with fail
  rw [HQ.out]
  refine wp_region_wm [0, 1, 2, 3, 4, 5, 6, 7, 8, 9, 10, 11, 12, 13] (by kernel_rfl) (by kernel_rfl) (by kernel_rfl) (by kernel_rfl) ?_
  have H3 := K2.out.drew
  clear K2 a0 a1 a2 a3 a4 a5 a6 a7 a8 a9 af az
  have hw2 : w2.heap.size + 1 < (World.alloc (World.alloc w2 (.cells fromA.toArray 49)) (.cells toA.toArray 49)).drew.heap.size := by simp
  generalize (World.alloc (World.alloc w2 _) _).drew = wd at *
  have hB0 := H3.blk (g := w.heap.size) (List.Mem.tail _ (List.Mem.tail _ (List.Mem.tail _ (List.Mem.tail _ (List.Mem.head _)))))
  have hB1 := H3.blk (g := w1.heap.size) (List.Mem.tail _ (List.Mem.tail _ (List.Mem.head _)))
  have hF := H3.blk (g := w2.heap.size) (List.Mem.tail _ (List.Mem.head _))
  have hT := H3.blk (g := w2.heap.size + 1) (List.Mem.head _)
  refine wm_rd rfl rfl (fun K hK => ?_); go_simp; refine hK _ ?_; clear hK K
  refine wm_ld1 rfl rfl 3 (.tmp 42) rfl rfl (hB0.cell 0) _ Try.underlying3 rfl ?_
  iterate 2 (refine wm_rd rfl rfl (fun K hK => ?_); go_simp; refine hK _ ?_; clear hK K)
  refine wm_ld1 rfl rfl 3 (.tmp 45) rfl rfl (hF.cell 7) _ Try.underlying3 rfl ?_
  iterate 3 (refine wm_rd rfl rfl (fun K hK => ?_); go_simp; refine hK _ ?_; clear hK K)
  refine wm_ld1 rfl rfl 3 (.tmp 49) rfl rfl (hB1.cell 0) _ Try.underlying3 rfl ?_
  iterate 2 (refine wm_rd rfl rfl (fun K hK => ?_); go_simp; refine hK _ ?_; clear hK K)
  refine wm_ld1 rfl rfl 3 (.tmp 52) rfl rfl (hT.cell 7) _ Try.underlying3 rfl ?_
  iterate 2 (refine wm_rd rfl rfl (fun K hK => ?_); go_simp; refine hK _ ?_; clear hK K)
  refine wm_nil ?_
  clear hB0 hB1 hF hT
  obtain ⟨a0, a1, a2, a3, a4, a5, a6, a7, a8, a9, af, az⟩ := cells10 (H3.blk (g := w.heap.size + 1) (List.Mem.tail _ (List.Mem.tail _ (List.Mem.tail _ (List.Mem.head _)))))
  obtain ⟨b0, b1, b2, b3, b4, bf, bs⟩ := cells5 (H3.blk (g := w.heap.size) (List.Mem.tail _ (List.Mem.tail _ (List.Mem.tail _ (List.Mem.tail _ (List.Mem.head _))))))
  obtain ⟨n0, n1, n2, n3, n4, nf, ns⟩ := cells5 (H3.blk (g := w1.heap.size) (List.Mem.tail _ (List.Mem.tail _ (List.Mem.head _))))
  have HX3 := hide H3.toExt
  clear H3
  go_wp2_with fail
  (with_reducible refine (awake_any _).mono ?_)
  rintro e w4 ⟨rfl, hx4⟩
  go_wp2_with fail
  go_ret
  exact ⟨rfl, HX3.out.trans hx4⟩
set_option maxRecDepth 100000 in
set_option maxHeartbeats 4000000 in
theorem states_err (w : World) (s : Se) (x : Ca) (m : Int) (hs : s.ok) (hx : x.ok) (hg : good s) (hd : doneS s x x.t = (s, m)) (hm : m ≠ 0) :
    Calls Try.prog 9 #[sv s, xv x] w fun e w' => e = .returned (.bool true) ∧ Ext w w' := by
  have HG := hide (chkg hg)
  have HD := hide hd
  have HS := hide hs
  have HX := hide hx
  have m1 : (m != 0) = true := by simpa using hm
  clear hg hd hs hx hm
  go_enter Try.func9, Try.ntmps9
  go_wp2_with fail
  (with_reducible refine (check_any s _).mono ?_)
  rintro e w0 ⟨rfl, hx0'⟩
  rw [HG.out]
  have H0 := (sep2 w 26 38 (sc s) (xc x)).ext hx0'
  clear hx0'
  obtain ⟨a0, a1, a2, a3, a4, a5, a6, a7, a8, a9, af, az⟩ := cells10 (H0.blk (.head _))
  obtain ⟨b0, b1, b2, b3, b4, bf, bs⟩ := cells5 (H0.blk (.tail _ (.head _)))
  have K0 := hide H0
  clear H0
  go_wp2_with fail
  (with_reducible refine (done_any s x x.t _ HS.out HX.out).mono ?_)
  rintro e w1 ⟨rfl, hx1⟩
  rw [HD.out]
  have K1 := hide ((K0.out.ext hx1).add 26 (sc s))
  clear a0 a1 a2 a3 a4 a5 a6 a7 a8 a9 af az b0 b1 b2 b3 b4 bf bs hx1 K0
  go_wp2_with fail
  (with_reducible refine (check_any s _).mono ?_)
  rintro e w2 ⟨rfl, hx2⟩
  rw [HG.out]
  have H2 := K1.out.ext hx2
  clear hx2 K1
  obtain ⟨b0, b1, b2, b3, b4, bf, bs⟩ := cells5 (H2.blk (g := w.heap.size) (List.Mem.tail _ (List.Mem.tail _ (List.Mem.head _))))
  obtain ⟨n0, n1, n2, n3, n4, nf, ns⟩ := cells5 (H2.blk (g := w1.heap.size) (List.Mem.head _))
  have HX3 := hide H2.toExt
  clear H2
  go_wp2_with fail
  (with_reducible refine (awake_any _).mono ?_)
  rintro e w4 ⟨rfl, hx4⟩
  go_wp2_with fail
  go_ret
  exact ⟨rfl, HX3.out.trans hx4⟩
set_option maxHeartbeats 4000000 in
theorem states_law (w : World) (v0 : Value) (h0 : ∃ cs, v0 = .agg cs ∧ Lvs Try.prog w [.int .i64, .int .u32, .int .i64, .int .u64, .int .u64] cs.toList)
    (v1 : Value) (h1 : ∃ cs, v1 = .agg cs ∧ Lvs Try.prog w [.int .u8, .int .u32, .int .u32, .int .i64, .bool, .int .u8, .int .u32, .int .u32, .int .u64, .int .u64] cs.toList) :
    Calls Try.prog 9 #[v0, v1] w fun e w' => e = .returned (.bool true) ∧ Ext w w' := by
  obtain ⟨s, rfl, hs⟩ := seatA h0
  obtain ⟨x, rfl, hx⟩ := callA h1
  by_cases hg : good s
  · rcases done_way s x x.t with ⟨hm, hn⟩ | ⟨hm, _, h | h | h | h | h | h | h | h⟩
    · exact states_err w s x _ hs hx hg (Prod.ext hn rfl) hm
    · exact states_0 w s x hs hx hg (Prod.ext h.2.2.2 hm) h.1 h.2.1
    · exact states_1 w s x hs hx hg (Prod.ext h.2.2.2 hm) h.1 h.2.1 (by simpa using h.2.2.1)
    · exact states_2 w s x hs hx hg (Prod.ext h.2.2.2 hm) h.1 h.2.1 (by simpa using h.2.2.1)
    · exact states_3 w s x hs hx hg (Prod.ext h.2.2.2.2 hm) h.1 h.2.1 (by simpa using h.2.2.1)
    · exact states_4 w s x hs hx hg (Prod.ext h.2.2.2.2 hm) h.1 h.2.1 (by simpa using h.2.2.1.1)
    · exact states_5 w s x hs hx hg (Prod.ext h.2.2.2 hm) h.1 h.2.1 (by simpa using h.2.2.1.1) (by simpa using h.2.2.1.2.1) (by simpa using h.2.2.1.2.2)
    · exact states_6 w s x hs hx hg (Prod.ext h.2.2.2 hm) h.1 h.2.1
    · exact states_7 w s x hs hx hg (Prod.ext h.2.2.2 hm) h.1 h.2.1 (by simpa using h.2.2.1.1) (by simpa using h.2.2.1.2.1) (by simpa using h.2.2.1.2.2)
  · have HG := hide (chkb hg)
    clear h0 h1 hs hx hg
    go_enter Try.func9, Try.ntmps9
    go_wp2_with fail
    (with_reducible refine (check_any s _).mono ?_)
    rintro e w0 ⟨rfl, hx0⟩
    rw [HG.out]
    go_wp2_with fail
    (with_reducible refine (awake_any _).mono ?_)
    rintro e w4 ⟨rfl, hx4⟩
    go_wp2_with fail
    go_ret
    exact ⟨rfl, ((((Ext.refl w).alloc _).alloc _).trans hx0).trans hx4⟩
end Go.Proofs.Ytcmpkpldihnklaa
