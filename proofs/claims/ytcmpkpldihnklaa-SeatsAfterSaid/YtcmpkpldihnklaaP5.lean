/- Seats: walks of the program's Hold and Expire. -/
import Derived.Test.YtcmpkpldihnklaaP3
import Derived.Test.YtcmpkpldihnklaaP4
import Derived.Test.YtcmpkpldihnklaaArms

namespace Go.Proofs.Ytcmpkpldihnklaa
open Go.RowKit Go.Gr Go.Seat
set_option linter.unusedVariables false
set_option linter.unusedSimpArgs false
attribute [local go_sem] rdOp rdAt rdUpon Cls
abbrev sc (s : Se) : List Value := [.int .i64 s.st, .int .u32 s.own, .int .i64 s.dl, .int .u64 s.ser, .int .u64 s.ep]
abbrev tc (t : Ti) : List Value := [.int .u32 t.seat, .int .u32 t.own, .int .u64 t.ser, .int .u64 t.ep]
theorem cells5 {w : World} {g : Nat} {e : TypeId} {a b c d f : Value} (h : Blk w g e [a, b, c, d, f]) :
    w.cell? ⟨g, 0, none⟩ = some a ∧ w.cell? ⟨g, 1, none⟩ = some b ∧ w.cell? ⟨g, 2, none⟩ = some c ∧ w.cell? ⟨g, 3, none⟩ = some d ∧ w.cell? ⟨g, 4, none⟩ = some f ∧ (∀ i, w.frozen? ⟨g, i, none⟩ = false) ∧ g < w.heap.size :=
  ⟨h.cell 0, h.cell 1, h.cell 2, h.cell 3, h.cell 4, h.free, h.lt⟩
theorem cells4 {w : World} {g : Nat} {e : TypeId} {a b c d : Value} (h : Blk w g e [a, b, c, d]) :
    w.cell? ⟨g, 0, none⟩ = some a ∧ w.cell? ⟨g, 1, none⟩ = some b ∧ w.cell? ⟨g, 2, none⟩ = some c ∧ w.cell? ⟨g, 3, none⟩ = some d ∧ (∀ i, w.frozen? ⟨g, i, none⟩ = false) ∧ g < w.heap.size :=
  ⟨h.cell 0, h.cell 1, h.cell 2, h.cell 3, h.free, h.lt⟩
def holdE (s : Se) (d : Int) : Int := orE (timeE s d) (inE s 0)
theorem hold_1 {s : Se} {o d : Int} (h : ¬ holdE s d = 0) : holdS s o d = (s, holdE s d) := by
  unfold holdE orE timeE inE at *; unfold holdS
  by_cases hg : good s
  · rw [if_neg (not_not_intro hg)]
    simp only [if_neg (not_not_intro hg)] at h ⊢
    by_cases h1 : d < 0
    · simp [h1] at h ⊢
    · simp only [h1, if_false, if_true] at h ⊢
      by_cases h2 : s.st = 0
      · simp [h2] at h
      · simp [h2] at h ⊢
  · simp [hg] at h ⊢
theorem hold_2 {s : Se} {o d : Int} (h : holdE s d = 0) : holdS s o d = (⟨1, o, d, s.ser, s.ep⟩, 0) := by
  unfold holdE orE timeE inE at *; unfold holdS
  by_cases hg : good s
  · rw [if_neg (not_not_intro hg)]
    simp only [if_neg (not_not_intro hg)] at h ⊢
    by_cases h1 : d < 0
    · simp [h1] at h ⊢
    · simp only [h1, if_false, if_true] at h ⊢
      by_cases h2 : s.st = 0
      · simp [h2] at h ⊢
      · simp [h2] at h ⊢
  · simp [hg] at h ⊢
set_option maxHeartbeats 1000000 in
theorem hold_any (s : Se) (o d : Int) (w : World) : Calls Try.prog 23 #[sv s, .int .u32 o, .int .i64 d] w (RetS w (holdS s o d)) := by
  go_enter Try.func23, Try.ntmps23
  go_wp2_with fail
  refine wp_region_wm [0, 1, 3, 2, 4, 5, 6, 7] (by kernel_rfl) (by kernel_rfl) (by kernel_rfl) (by kernel_rfl) ?_
  have H1 := (Sep.refl No w).newB ((Ext.refl w).alloc (.cells (sc s).toArray 26)) (Blk.new w 26 (sc s)) (Nat.le_refl _)
  have H2 := H1.newB ((Ext.refl _).alloc (.cells (sc ⟨0, 0, 0, 0, 0⟩).toArray 26)) (Blk.new _ 26 (sc ⟨0, 0, 0, 0, 0⟩)) (Nat.le_refl _)
  have H3 := H2.drew
  clear H1 H2
  rw [show (w.alloc (.cells (sc s).toArray 26)).heap.size = w.heap.size + 1 by simp] at H3
  generalize (World.alloc _ _).drew = wd at *
  refine wm_ldS H3 (.tail _ (.head _)) rfl rfl 26 (.tmp 3) rfl rfl _ Try.underlying26 rfl (by kernel_rfl) ?_
  refine wm_rd rfl rfl (fun K hK => ?_); go_simp; refine hK _ ?_; clear hK K
  refine wm_ldS H3 (.tail _ (.head _)) rfl rfl 26 (.tmp 3) rfl rfl _ Try.underlying26 rfl (by kernel_rfl) ?_
  refine wm_ext rfl rfl (fun K hK => ?_)
  go_simp
  go_at_call 41
  (with_reducible refine (time_any _ _ _).mono ?_)
  rintro e w1 ⟨rfl, hx1⟩
  refine hK _ _ hx1 ?_
  clear hK K
  have H4 := H3.ext hx1
  clear H3 hx1
  refine wm_ext rfl rfl (fun K hK => ?_)
  go_simp
  go_at_call 26
  (with_reducible refine (state_any _ _ _).mono ?_)
  rintro e w2 ⟨rfl, hx2⟩
  refine hK _ _ hx2 ?_
  clear hK K
  have H5 := H4.ext hx2
  clear H4 hx2
  refine wm_ext rfl rfl (fun K hK => ?_)
  go_simp
  refine hK _ _ ((Ext.refl _).alloc _) ?_
  clear hK K
  refine wm_ext rfl rfl (fun K hK => ?_)
  go_simp
  go_at_call 40
  (with_reducible refine (or_any _ _ (timeE s d) (inE s 0) _ (by go_simp) (by go_simp)).mono ?_)
  rintro e w3 ⟨rfl, rfl⟩
  refine hK _ _ (Ext.refl _) ?_
  clear hK K
  have H6 := H5.ext ((Ext.refl w2).alloc (.cells #[.int .i64 (timeE s d), .int .i64 (inE s 0)] 29))
  clear H5
  generalize World.alloc _ _ = w4 at *
  refine wm_rd rfl rfl (fun K hK => ?_); go_simp; refine hK _ ?_; clear hK K
  refine wm_nil ?_
  rw [show orE (timeE s d) (inE s 0) = holdE s d from rfl]
  obtain ⟨c0, c1, c2, c3, c4, cf, cs⟩ := cells5 (H6.blk (.tail _ (.head _)))
  obtain ⟨r0, r1, r2, r3, r4, rf, rs⟩ := cells5 (H6.blk (.head _))
  have HX := hide H6.toExt
  clear H6
  go_wp2_with fail
  · rw [hold_1 (by simpa using ‹(holdE s d != 0) = true›)]
    refine bodyPost_ret (v := .tuple #[sv s, .int .i64 (holdE s d)]) (by simp [results, Try.results23, go_sem, r0, r1, r2, r3, r4]) rfl ⟨rfl, ?_⟩
    exact ext_set5 HX.out _ (by omega) _ _ _ _ _
  · rw [hold_2 (by simpa using ‹(holdE s d != 0) = false›)]
    refine bodyPost_ret (v := .tuple #[sv ⟨1, o, d, s.ser, s.ep⟩, .int .i64 0]) (by simp [results, Try.results23, go_sem, r0, r1, r2, r3, r4]) rfl ⟨rfl, ?_⟩
    exact ext_set5 (ext_set (ext_set (ext_set HX.out _ _ (by simp)) _ _ (by simp)) _ _ (by simp)) _ (by omega) _ _ _ _ _
def expireE (s : Se) (d : Int) : Int := orE (timeE s d) (inE s 1)
theorem expire_1 {s : Se} {d : Int} (h : ¬ expireE s d = 0) : expireS s d = (s, expireE s d) := by
  unfold expireE orE timeE inE at *; unfold expireS
  by_cases hg : good s
  · rw [if_neg (not_not_intro hg)]
    simp only [if_neg (not_not_intro hg)] at h ⊢
    by_cases h1 : d < 0
    · simp [h1] at h ⊢
    · simp only [h1, if_false, if_true] at h ⊢
      by_cases h2 : s.st = 1
      · simp [h2] at h
      · simp [h2] at h ⊢
  · simp [hg] at h ⊢
theorem expire_2 {s : Se} {d : Int} (h : expireE s d = 0) : passE s.dl d = (decide (s.dl ≤ d), 0) ∧ expireS s d = if s.dl ≤ d then (openS s, 0) else (s, 9) := by
  unfold expireE orE timeE inE at *; unfold expireS passE
  by_cases hg : good s
  · rw [if_neg (not_not_intro hg)]
    simp only [if_neg (not_not_intro hg)] at h ⊢
    by_cases h1 : d < 0
    · simp [h1] at h
    · simp only [h1, if_false, if_true] at h ⊢
      by_cases h2 : s.st = 1
      · have h3 : ¬ (s.dl < 0) := by unfold good at hg; omega
        simp [h2, h3]
      · simp [h2] at h
  · simp [hg] at h
set_option maxHeartbeats 1000000 in
theorem expire_any (s : Se) (d : Int) (w : World) : Calls Try.prog 25 #[sv s, .int .i64 d] w (RetS w (expireS s d)) := by
  go_enter Try.func25, Try.ntmps25
  go_wp2_with fail
  refine wp_region_wm [0, 1, 3, 2, 4, 5, 6, 7] (by kernel_rfl) (by kernel_rfl) (by kernel_rfl) (by kernel_rfl) ?_
  have H1 := (Sep.refl No w).newB ((Ext.refl w).alloc (.cells (sc s).toArray 26)) (Blk.new w 26 (sc s)) (Nat.le_refl _)
  have H2 := H1.newB ((Ext.refl _).alloc (.cells (sc ⟨0, 0, 0, 0, 0⟩).toArray 26)) (Blk.new _ 26 (sc ⟨0, 0, 0, 0, 0⟩)) (Nat.le_refl _)
  have H3 := H2.drew
  clear H1 H2
  rw [show (w.alloc (.cells (sc s).toArray 26)).heap.size = w.heap.size + 1 by simp] at H3
  generalize (World.alloc _ _).drew = wd at *
  refine wm_ldS H3 (.tail _ (.head _)) rfl rfl 26 (.tmp 2) rfl rfl _ Try.underlying26 rfl (by kernel_rfl) ?_
  refine wm_rd rfl rfl (fun K hK => ?_); go_simp; refine hK _ ?_; clear hK K
  refine wm_ldS H3 (.tail _ (.head _)) rfl rfl 26 (.tmp 2) rfl rfl _ Try.underlying26 rfl (by kernel_rfl) ?_
  refine wm_ext rfl rfl (fun K hK => ?_)
  go_simp
  go_at_call 41
  (with_reducible refine (time_any _ _ _).mono ?_)
  rintro e w1 ⟨rfl, hx1⟩
  refine hK _ _ hx1 ?_
  clear hK K
  have H4 := H3.ext hx1
  clear H3 hx1
  refine wm_ext rfl rfl (fun K hK => ?_)
  go_simp
  go_at_call 26
  (with_reducible refine (state_any _ _ _).mono ?_)
  rintro e w2 ⟨rfl, hx2⟩
  refine hK _ _ hx2 ?_
  clear hK K
  have H5 := H4.ext hx2
  clear H4 hx2
  refine wm_ext rfl rfl (fun K hK => ?_)
  go_simp
  refine hK _ _ ((Ext.refl _).alloc _) ?_
  clear hK K
  refine wm_ext rfl rfl (fun K hK => ?_)
  go_simp
  go_at_call 40
  (with_reducible refine (or_any _ _ (timeE s d) (inE s 1) _ (by go_simp) (by go_simp)).mono ?_)
  rintro e w3 ⟨rfl, rfl⟩
  refine hK _ _ (Ext.refl _) ?_
  clear hK K
  have H6 := H5.ext ((Ext.refl w2).alloc (.cells #[.int .i64 (timeE s d), .int .i64 (inE s 1)] 29))
  clear H5
  generalize World.alloc _ _ = w4 at *
  refine wm_rd rfl rfl (fun K hK => ?_); go_simp; refine hK _ ?_; clear hK K
  refine wm_nil ?_
  rw [show orE (timeE s d) (inE s 1) = expireE s d from rfl]
  obtain ⟨c0, c1, c2, c3, c4, cf, cs⟩ := cells5 (H6.blk (.tail _ (.head _)))
  obtain ⟨r0, r1, r2, r3, r4, rf, rs⟩ := cells5 (H6.blk (.head _))
  have HX := hide H6.toExt
  clear H6
  go_wp2_with fail
  · rw [expire_1 (by simpa using ‹(expireE s d != 0) = true›)]
    refine bodyPost_ret (v := .tuple #[sv s, .int .i64 (expireE s d)]) (by simp [results, Try.results25, go_sem, r0, r1, r2, r3, r4]) rfl ⟨rfl, ?_⟩
    exact ext_set5 HX.out _ (by omega) _ _ _ _ _
  · obtain ⟨he1, he2⟩ := expire_2 (by simpa using ‹(expireE s d != 0) = false›)
    (with_reducible refine (passed_any _ _ _).mono ?_)
    rintro e w5 ⟨rfl, hx5⟩
    rw [he1]
    have HX5 := hide hx5
    obtain ⟨hc5, hf5⟩ := ecell hx5
    have hz5 := hx5.size
    have hz6 : w.heap.size < w5.heap.size := by omega
    have hz7 : w.heap.size + 1 < w5.heap.size := by omega
    have HE2 := hide he2
    clear he1 he2 hx5
    by_cases hd : s.dl ≤ d
    · rw [show decide (s.dl ≤ d) = true by simpa using hd]
      have HD := hide hd
      clear hd
      go_wp2_with fail
      (with_reducible refine (open_any _ _).mono ?_)
      rintro e w6 ⟨rfl, hx6⟩
      have HX6 := hide hx6
      obtain ⟨hc6, hf6⟩ := ecell hx6
      have hz8 := hx6.size
      clear hx6
      obtain ⟨r, HR⟩ : ∃ r, Hid (openS s = r) := ⟨_, hide rfl⟩
      rw [HR.out]
      go_wp2_with fail
      refine bodyPost_ret (v := .tuple #[sv r, .int .i64 0]) (by simp [results, Try.results25, go_sem, hc5, hf5, hc6, hf6, hz6, hz7, cs, rs, r0, r1, r2, r3, r4]) rfl ?_
      rw [HE2.out, if_pos HD.out, HR.out]
      refine ⟨rfl, ?_⟩
      exact ext_set5 ((HX.out.trans HX5.out).trans HX6.out) _ (by omega) _ _ _ _ _
    · rw [show decide (s.dl ≤ d) = false by simpa using hd]
      have HD := hide hd
      clear hd
      go_wp2_with fail
      refine bodyPost_ret (v := .tuple #[sv s, .int .i64 9]) (by simp [results, Try.results25, go_sem, hc5, hf5, hz6, hz7, cs, rs, r0, r1, r2, r3, r4]) rfl ?_
      rw [HE2.out, if_neg (by have := HD.out; omega)]
      refine ⟨rfl, ?_⟩
      exact ext_set5 (HX.out.trans HX5.out) _ (by omega) _ _ _ _ _
end Go.Proofs.Ytcmpkpldihnklaa
