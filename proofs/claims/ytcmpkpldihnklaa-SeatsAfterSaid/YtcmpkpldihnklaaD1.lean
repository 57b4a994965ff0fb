/- Seats: the law's own calls, of the program and of the reference. -/
import Derived.Test.YtcmpkpldihnklaaR2
import Derived.Outline
namespace Go.Proofs.Ytcmpkpldihnklaa
open Go.RowKit Go.Gr Go.Seat
set_option linter.unusedVariables false
set_option linter.unusedSimpArgs false
attribute [local go_sem] rdOp rdAt rdUpon Cls
abbrev xc (x : Ca) : List Value := [.int .u8 x.what, .int .u32 x.own, .int .u32 x.to, .int .i64 x.at_, .bool x.old, .int .u8 x.which, .int .u32 x.t.seat, .int .u32 x.t.own, .int .u64 x.t.ser, .int .u64 x.t.ep]
abbrev xv (x : Ca) : Value := .agg #[.int .u8 x.what, .int .u32 x.own, .int .u32 x.to, .int .i64 x.at_, .bool x.old, .int .u8 x.which, .int .u32 x.t.seat, .int .u32 x.t.own, .int .u64 x.t.ser, .int .u64 x.t.ep]
theorem sep4 (w : World) (e1 e2 e3 e4 : TypeId) (c1 c2 c3 c4 : List Value) : Sep No w ((((w.alloc (.cells c1.toArray e1)).alloc (.cells c2.toArray e2)).alloc (.cells c3.toArray e3)).alloc (.cells c4.toArray e4)) [As.blk (w.heap.size + 3) e4 c4, As.blk (w.heap.size + 2) e3 c3, As.blk (w.heap.size + 1) e2 c2, As.blk w.heap.size e1 c1] := by
  have H3 := (sep3 w e1 e2 e3 c1 c2 c3).newB ((Ext.refl _).alloc (.cells c4.toArray e4)) (Blk.new _ e4 c4) (Nat.le_refl _)
  rwa [show (((w.alloc (.cells c1.toArray e1)).alloc (.cells c2.toArray e2)).alloc (.cells c3.toArray e3)).heap.size = w.heap.size + 3 by simp] at H3
theorem doneS_0 {s : Se} {x : Ca} {t : Ti} (h : x.what % 8 = 0) : doneS s x t = holdS s x.own x.at_ := by
  unfold doneS; rw [if_pos h]
theorem doneS_1 {s : Se} {x : Ca} {t : Ti} (h : x.what % 8 = 1) : doneS s x t = releaseS s x.own := by
  unfold doneS; rw [if_neg (show ¬ x.what % 8 = 0 by omega), if_pos h]
theorem doneS_2 {s : Se} {x : Ca} {t : Ti} (h : x.what % 8 = 2) : doneS s x t = expireS s x.at_ := by
  unfold doneS; rw [if_neg (show ¬ x.what % 8 = 0 by omega), if_neg (show ¬ x.what % 8 = 1 by omega), if_pos h]
theorem doneS_3 {s : Se} {x : Ca} {t : Ti} (h : x.what % 8 = 3) : doneS s x t = buyS s x.own := by
  unfold doneS; rw [if_neg (show ¬ x.what % 8 = 0 by omega), if_neg (show ¬ x.what % 8 = 1 by omega), if_neg (show ¬ x.what % 8 = 2 by omega), if_pos h]
theorem doneS_4 {s : Se} {x : Ca} {t : Ti} (h : x.what % 8 = 4) : doneS s x t = transferS s t x.to := by
  unfold doneS; rw [if_neg (show ¬ x.what % 8 = 0 by omega), if_neg (show ¬ x.what % 8 = 1 by omega), if_neg (show ¬ x.what % 8 = 2 by omega), if_neg (show ¬ x.what % 8 = 3 by omega), if_pos h]
theorem doneS_5 {s : Se} {x : Ca} {t : Ti} (h : x.what % 8 = 5) : doneS s x t = refundS s t := by
  unfold doneS; rw [if_neg (show ¬ x.what % 8 = 0 by omega), if_neg (show ¬ x.what % 8 = 1 by omega), if_neg (show ¬ x.what % 8 = 2 by omega), if_neg (show ¬ x.what % 8 = 3 by omega), if_neg (show ¬ x.what % 8 = 4 by omega), if_pos h]
theorem doneS_6 {s : Se} {x : Ca} {t : Ti} (h : x.what % 8 = 6) : doneS s x t = revokeS s := by
  unfold doneS; rw [if_neg (show ¬ x.what % 8 = 0 by omega), if_neg (show ¬ x.what % 8 = 1 by omega), if_neg (show ¬ x.what % 8 = 2 by omega), if_neg (show ¬ x.what % 8 = 3 by omega), if_neg (show ¬ x.what % 8 = 4 by omega), if_neg (show ¬ x.what % 8 = 5 by omega), if_pos h]
theorem doneS_7 {s : Se} {x : Ca} {t : Ti} (h : x.what % 8 = 7) : doneS s x t = (s, validE s t) := by
  unfold doneS; rw [if_neg (show ¬ x.what % 8 = 0 by omega), if_neg (show ¬ x.what % 8 = 1 by omega), if_neg (show ¬ x.what % 8 = 2 by omega), if_neg (show ¬ x.what % 8 = 3 by omega), if_neg (show ¬ x.what % 8 = 4 by omega), if_neg (show ¬ x.what % 8 = 5 by omega), if_neg (show ¬ x.what % 8 = 6 by omega)]
set_option maxHeartbeats 1000000 in
theorem done_0 (s : Se) (x : Ca) (t : Ti) (w : World) (hs : s.ok) (h0 : 0 ≤ x.what) (h : x.what % 8 = 0) : Calls Try.prog 15 #[sv s, xv x, tv t] w (RetS w (doneS s x t)) := by
  have E := hide (doneS_0 (s := s) (t := t) h)
  have t0 : (x.what % 8 == 0) = true := by rw [h]; rfl
  have HS := hide hs
  clear h hs
  go_enter Try.func15, Try.ntmps15
  go_wp2_with fail
  (with_reducible refine (hold_any _ _ _ _).mono ?_)
  rintro e w1 ⟨rfl, hx1⟩
  have H := (sep4 w 26 38 28 26 (sc s) (xc x) (tc t) z5).ext hx1
  obtain ⟨r0, r1, r2, r3, r4, rf, rs⟩ := cells5 (H.blk (.head _))
  have HX := hide H.toExt
  clear H hx1
  obtain ⟨r, HR⟩ : ∃ r, Hid (holdS s x.own x.at_ = r) := ⟨_, hide rfl⟩
  rw [HR.out]
  go_wp2_with fail
  refine bodyPost_ret (v := .tuple #[sv r.1, .int .i64 r.2]) (by simp [results, Try.results15, go_sem, r0, r1, r2, r3, r4, rf, rs]) rfl ?_
  rw [E.out, HR.out]
  refine ⟨rfl, ?_⟩
  repeat (first | with_reducible exact HX.out | refine ext_set ?_ _ _ (by first | exact Nat.le_refl _ | exact Nat.le_add_right _ _ | (dsimp only; omega)))
set_option maxHeartbeats 1000000 in
theorem done_1 (s : Se) (x : Ca) (t : Ti) (w : World) (hs : s.ok) (h0 : 0 ≤ x.what) (h : x.what % 8 = 1) : Calls Try.prog 15 #[sv s, xv x, tv t] w (RetS w (doneS s x t)) := by
  have E := hide (doneS_1 (s := s) (t := t) h)
  have t0 : (x.what % 8 == 0) = false := by rw [h]; rfl
  have t1 : (x.what % 8 == 1) = true := by rw [h]; rfl
  have HS := hide hs
  clear h hs
  go_enter Try.func15, Try.ntmps15
  go_wp2_with fail
  (with_reducible refine (release_any _ _ _).mono ?_)
  rintro e w1 ⟨rfl, hx1⟩
  have H := (sep4 w 26 38 28 26 (sc s) (xc x) (tc t) z5).ext hx1
  obtain ⟨r0, r1, r2, r3, r4, rf, rs⟩ := cells5 (H.blk (.head _))
  have HX := hide H.toExt
  clear H hx1
  obtain ⟨r, HR⟩ : ∃ r, Hid (releaseS s x.own = r) := ⟨_, hide rfl⟩
  rw [HR.out]
  go_wp2_with fail
  refine bodyPost_ret (v := .tuple #[sv r.1, .int .i64 r.2]) (by simp [results, Try.results15, go_sem, r0, r1, r2, r3, r4, rf, rs]) rfl ?_
  rw [E.out, HR.out]
  refine ⟨rfl, ?_⟩
  repeat (first | with_reducible exact HX.out | refine ext_set ?_ _ _ (by first | exact Nat.le_refl _ | exact Nat.le_add_right _ _ | (dsimp only; omega)))
set_option maxHeartbeats 1000000 in
theorem done_2 (s : Se) (x : Ca) (t : Ti) (w : World) (hs : s.ok) (h0 : 0 ≤ x.what) (h : x.what % 8 = 2) : Calls Try.prog 15 #[sv s, xv x, tv t] w (RetS w (doneS s x t)) := by
  have E := hide (doneS_2 (s := s) (t := t) h)
  have t0 : (x.what % 8 == 0) = false := by rw [h]; rfl
  have t1 : (x.what % 8 == 1) = false := by rw [h]; rfl
  have t2 : (x.what % 8 == 2) = true := by rw [h]; rfl
  have HS := hide hs
  clear h hs
  go_enter Try.func15, Try.ntmps15
  go_wp2_with fail
  (with_reducible refine (expire_any _ _ _).mono ?_)
  rintro e w1 ⟨rfl, hx1⟩
  have H := (sep4 w 26 38 28 26 (sc s) (xc x) (tc t) z5).ext hx1
  obtain ⟨r0, r1, r2, r3, r4, rf, rs⟩ := cells5 (H.blk (.head _))
  have HX := hide H.toExt
  clear H hx1
  obtain ⟨r, HR⟩ : ∃ r, Hid (expireS s x.at_ = r) := ⟨_, hide rfl⟩
  rw [HR.out]
  go_wp2_with fail
  refine bodyPost_ret (v := .tuple #[sv r.1, .int .i64 r.2]) (by simp [results, Try.results15, go_sem, r0, r1, r2, r3, r4, rf, rs]) rfl ?_
  rw [E.out, HR.out]
  refine ⟨rfl, ?_⟩
  repeat (first | with_reducible exact HX.out | refine ext_set ?_ _ _ (by first | exact Nat.le_refl _ | exact Nat.le_add_right _ _ | (dsimp only; omega)))
set_option maxHeartbeats 1000000 in
theorem done_3 (s : Se) (x : Ca) (t : Ti) (w : World) (hs : s.ok) (h0 : 0 ≤ x.what) (h : x.what % 8 = 3) : Calls Try.prog 15 #[sv s, xv x, tv t] w (RetS w (doneS s x t)) := by
  have E := hide (doneS_3 (s := s) (t := t) h)
  have t0 : (x.what % 8 == 0) = false := by rw [h]; rfl
  have t1 : (x.what % 8 == 1) = false := by rw [h]; rfl
  have t2 : (x.what % 8 == 2) = false := by rw [h]; rfl
  have t3 : (x.what % 8 == 3) = true := by rw [h]; rfl
  have HS := hide hs
  clear h hs
  go_enter Try.func15, Try.ntmps15
  go_wp2_with fail
  (with_reducible refine (buy_any _ _ _ HS.out).mono ?_)
  rintro e w1 ⟨rfl, hx1⟩
  have H := (sep4 w 26 38 28 26 (sc s) (xc x) (tc t) z5).ext hx1
  obtain ⟨r0, r1, r2, r3, r4, rf, rs⟩ := cells5 (H.blk (.head _))
  have HX := hide H.toExt
  clear H hx1
  obtain ⟨r, HR⟩ : ∃ r, Hid (buyS s x.own = r) := ⟨_, hide rfl⟩
  rw [HR.out]
  go_wp2_with fail
  refine bodyPost_ret (v := .tuple #[sv r.1, .int .i64 r.2]) (by simp [results, Try.results15, go_sem, r0, r1, r2, r3, r4, rf, rs]) rfl ?_
  rw [E.out, HR.out]
  refine ⟨rfl, ?_⟩
  repeat (first | with_reducible exact HX.out | refine ext_set ?_ _ _ (by first | exact Nat.le_refl _ | exact Nat.le_add_right _ _ | (dsimp only; omega)))
set_option maxHeartbeats 1000000 in
theorem done_4 (s : Se) (x : Ca) (t : Ti) (w : World) (hs : s.ok) (h0 : 0 ≤ x.what) (h : x.what % 8 = 4) : Calls Try.prog 15 #[sv s, xv x, tv t] w (RetS w (doneS s x t)) := by
  have E := hide (doneS_4 (s := s) (t := t) h)
  have t0 : (x.what % 8 == 0) = false := by rw [h]; rfl
  have t1 : (x.what % 8 == 1) = false := by rw [h]; rfl
  have t2 : (x.what % 8 == 2) = false := by rw [h]; rfl
  have t3 : (x.what % 8 == 3) = false := by rw [h]; rfl
  have t4 : (x.what % 8 == 4) = true := by rw [h]; rfl
  have HS := hide hs
  clear h hs
  go_enter Try.func15, Try.ntmps15
  go_wp2_with fail
  (with_reducible refine (transfer_any _ _ _ _ HS.out).mono ?_)
  rintro e w1 ⟨rfl, hx1⟩
  have H := (sep4 w 26 38 28 26 (sc s) (xc x) (tc t) z5).ext hx1
  obtain ⟨r0, r1, r2, r3, r4, rf, rs⟩ := cells5 (H.blk (.head _))
  have HX := hide H.toExt
  clear H hx1
  obtain ⟨r, HR⟩ : ∃ r, Hid (transferS s t x.to = r) := ⟨_, hide rfl⟩
  rw [HR.out]
  go_wp2_with fail
  refine bodyPost_ret (v := .tuple #[sv r.1, .int .i64 r.2]) (by simp [results, Try.results15, go_sem, r0, r1, r2, r3, r4, rf, rs]) rfl ?_
  rw [E.out, HR.out]
  refine ⟨rfl, ?_⟩
  repeat (first | with_reducible exact HX.out | refine ext_set ?_ _ _ (by first | exact Nat.le_refl _ | exact Nat.le_add_right _ _ | (dsimp only; omega)))
set_option maxHeartbeats 1000000 in
theorem done_5 (s : Se) (x : Ca) (t : Ti) (w : World) (hs : s.ok) (h0 : 0 ≤ x.what) (h : x.what % 8 = 5) : Calls Try.prog 15 #[sv s, xv x, tv t] w (RetS w (doneS s x t)) := by
  have E := hide (doneS_5 (s := s) (t := t) h)
  have t0 : (x.what % 8 == 0) = false := by rw [h]; rfl
  have t1 : (x.what % 8 == 1) = false := by rw [h]; rfl
  have t2 : (x.what % 8 == 2) = false := by rw [h]; rfl
  have t3 : (x.what % 8 == 3) = false := by rw [h]; rfl
  have t4 : (x.what % 8 == 4) = false := by rw [h]; rfl
  have t5 : (x.what % 8 == 5) = true := by rw [h]; rfl
  have HS := hide hs
  clear h hs
  go_enter Try.func15, Try.ntmps15
  go_wp2_with fail
  (with_reducible refine (refund_any _ _ _).mono ?_)
  rintro e w1 ⟨rfl, hx1⟩
  have H := (sep4 w 26 38 28 26 (sc s) (xc x) (tc t) z5).ext hx1
  obtain ⟨r0, r1, r2, r3, r4, rf, rs⟩ := cells5 (H.blk (.head _))
  have HX := hide H.toExt
  clear H hx1
  obtain ⟨r, HR⟩ : ∃ r, Hid (refundS s t = r) := ⟨_, hide rfl⟩
  rw [HR.out]
  go_wp2_with fail
  refine bodyPost_ret (v := .tuple #[sv r.1, .int .i64 r.2]) (by simp [results, Try.results15, go_sem, r0, r1, r2, r3, r4, rf, rs]) rfl ?_
  rw [E.out, HR.out]
  refine ⟨rfl, ?_⟩
  repeat (first | with_reducible exact HX.out | refine ext_set ?_ _ _ (by first | exact Nat.le_refl _ | exact Nat.le_add_right _ _ | (dsimp only; omega)))
set_option maxHeartbeats 1000000 in
theorem done_6 (s : Se) (x : Ca) (t : Ti) (w : World) (hs : s.ok) (h0 : 0 ≤ x.what) (h : x.what % 8 = 6) : Calls Try.prog 15 #[sv s, xv x, tv t] w (RetS w (doneS s x t)) := by
  have E := hide (doneS_6 (s := s) (t := t) h)
  have t0 : (x.what % 8 == 0) = false := by rw [h]; rfl
  have t1 : (x.what % 8 == 1) = false := by rw [h]; rfl
  have t2 : (x.what % 8 == 2) = false := by rw [h]; rfl
  have t3 : (x.what % 8 == 3) = false := by rw [h]; rfl
  have t4 : (x.what % 8 == 4) = false := by rw [h]; rfl
  have t5 : (x.what % 8 == 5) = false := by rw [h]; rfl
  have t6 : (x.what % 8 == 6) = true := by rw [h]; rfl
  have HS := hide hs
  clear h hs
  go_enter Try.func15, Try.ntmps15
  go_wp2_with fail
  (with_reducible refine (revoke_any _ _ HS.out).mono ?_)
  rintro e w1 ⟨rfl, hx1⟩
  have H := (sep4 w 26 38 28 26 (sc s) (xc x) (tc t) z5).ext hx1
  obtain ⟨r0, r1, r2, r3, r4, rf, rs⟩ := cells5 (H.blk (.head _))
  have HX := hide H.toExt
  clear H hx1
  obtain ⟨r, HR⟩ : ∃ r, Hid (revokeS s = r) := ⟨_, hide rfl⟩
  rw [HR.out]
  go_wp2_with fail
  refine bodyPost_ret (v := .tuple #[sv r.1, .int .i64 r.2]) (by simp [results, Try.results15, go_sem, r0, r1, r2, r3, r4, rf, rs]) rfl ?_
  rw [E.out, HR.out]
  refine ⟨rfl, ?_⟩
  repeat (first | with_reducible exact HX.out | refine ext_set ?_ _ _ (by first | exact Nat.le_refl _ | exact Nat.le_add_right _ _ | (dsimp only; omega)))
set_option maxHeartbeats 1000000 in
theorem done_7 (s : Se) (x : Ca) (t : Ti) (w : World) (hs : s.ok) (h0 : 0 ≤ x.what) (h : x.what % 8 = 7) : Calls Try.prog 15 #[sv s, xv x, tv t] w (RetS w (doneS s x t)) := by
  have E := hide (doneS_7 (s := s) (t := t) h)
  have t0 : (x.what % 8 == 0) = false := by rw [h]; rfl
  have t1 : (x.what % 8 == 1) = false := by rw [h]; rfl
  have t2 : (x.what % 8 == 2) = false := by rw [h]; rfl
  have t3 : (x.what % 8 == 3) = false := by rw [h]; rfl
  have t4 : (x.what % 8 == 4) = false := by rw [h]; rfl
  have t5 : (x.what % 8 == 5) = false := by rw [h]; rfl
  have t6 : (x.what % 8 == 6) = false := by rw [h]; rfl
  have HS := hide hs
  clear h hs
  go_enter Try.func15, Try.ntmps15
  go_wp2_with fail
  refine wp_region_tail 4 [0, 1, 2, 3] (by kernel_rfl) (by kernel_rfl) (by kernel_rfl) ?_
  have H := (sep4 w 26 38 28 26 (sc s) (xc x) (tc t) z5).drew
  generalize (World.alloc _ _).drew = wd at *
  refine wt_loadB rfl rfl 26 (.tmp 3) rfl (H.blk (.tail _ (.tail _ (.tail _ (.head _))))) rfl _ Try.underlying26 rfl (by kernel_rfl) ?_
  refine wt_loadB rfl rfl 26 (.tmp 3) rfl (H.blk (.tail _ (.tail _ (.tail _ (.head _))))) rfl _ Try.underlying26 rfl (by kernel_rfl) ?_
  refine wt_loadB rfl rfl 28 (.tmp 5) rfl (H.blk (.tail _ (.head _))) rfl _ Try.underlying28 rfl (by kernel_rfl) ?_
  refine wt_ext rfl rfl (fun K hK => ?_)
  go_simp
  go_at_call 22
  (with_reducible refine (valid_any _ _ _).mono ?_)
  rintro e w1 ⟨rfl, hx1⟩
  refine hK _ _ hx1 ?_
  clear hK K
  have H1 := H.ext hx1
  clear H hx1
  refine wt_nil ?_
  obtain ⟨r0, r1, r2, r3, r4, rf, rs⟩ := cells5 (H1.blk (.head _))
  have HX := hide H1.toExt
  clear H1
  go_wp2_with fail
  refine NoPanic.normal ?_
  go_wp2_with fail
  refine bodyPost_ret (v := .tuple #[sv s, .int .i64 (validE s t)]) (by simp [results, Try.results15, go_sem, r0, r1, r2, r3, r4, rf, rs]) rfl ?_
  rw [E.out]
  refine ⟨rfl, ?_⟩
  repeat (first | with_reducible exact HX.out | refine ext_set ?_ _ _ (by first | exact Nat.le_refl _ | exact Nat.le_add_right _ _ | (dsimp only; omega)))
theorem done_any (s : Se) (x : Ca) (t : Ti) (w : World) (hs : s.ok) (hx : x.ok) : Calls Try.prog 15 #[sv s, xv x, tv t] w (RetS w (doneS s x t)) := by
  have h0 := hx.what.1
  have : x.what % 8 = 0 ∨ x.what % 8 = 1 ∨ x.what % 8 = 2 ∨ x.what % 8 = 3 ∨ x.what % 8 = 4 ∨ x.what % 8 = 5 ∨ x.what % 8 = 6 ∨ x.what % 8 = 7 := by omega
  rcases this with h | h | h | h | h | h | h | h
  · exact done_0 s x t w hs h0 h
  · exact done_1 s x t w hs h0 h
  · exact done_2 s x t w hs h0 h
  · exact done_3 s x t w hs h0 h
  · exact done_4 s x t w hs h0 h
  · exact done_5 s x t w hs h0 h
  · exact done_6 s x t w hs h0 h
  · exact done_7 s x t w hs h0 h
set_option maxHeartbeats 1000000 in
theorem told_0 (s : Se) (x : Ca) (t : Ti) (w : World) (hs : s.ok) (h0 : 0 ≤ x.what) (h : x.what % 8 = 0) : Calls Try.prog 16 #[sv s, xv x, tv t] w (RetS w (doneS s x t)) := by
  have E := hide (doneS_0 (s := s) (t := t) h)
  have t0 : (x.what % 8 == 0) = true := by rw [h]; rfl
  have HS := hide hs
  clear h hs
  go_enter Try.func16, Try.ntmps16
  go_wp2_with fail
  (with_reducible refine (rhold_any _ _ _ _).mono ?_)
  rintro e w1 ⟨rfl, hx1⟩
  have H := (sep4 w 26 38 28 26 (sc s) (xc x) (tc t) z5).ext hx1
  obtain ⟨r0, r1, r2, r3, r4, rf, rs⟩ := cells5 (H.blk (.head _))
  have HX := hide H.toExt
  clear H hx1
  obtain ⟨r, HR⟩ : ∃ r, Hid (holdS s x.own x.at_ = r) := ⟨_, hide rfl⟩
  rw [HR.out]
  go_wp2_with fail
  refine bodyPost_ret (v := .tuple #[sv r.1, .int .i64 r.2]) (by simp [results, Try.results16, go_sem, r0, r1, r2, r3, r4, rf, rs]) rfl ?_
  rw [E.out, HR.out]
  refine ⟨rfl, ?_⟩
  repeat (first | with_reducible exact HX.out | refine ext_set ?_ _ _ (by first | exact Nat.le_refl _ | exact Nat.le_add_right _ _ | (dsimp only; omega)))
set_option maxHeartbeats 1000000 in
theorem told_1 (s : Se) (x : Ca) (t : Ti) (w : World) (hs : s.ok) (h0 : 0 ≤ x.what) (h : x.what % 8 = 1) : Calls Try.prog 16 #[sv s, xv x, tv t] w (RetS w (doneS s x t)) := by
  have E := hide (doneS_1 (s := s) (t := t) h)
  have t0 : (x.what % 8 == 0) = false := by rw [h]; rfl
  have t1 : (x.what % 8 == 1) = true := by rw [h]; rfl
  have HS := hide hs
  clear h hs
  go_enter Try.func16, Try.ntmps16
  go_wp2_with fail
  (with_reducible refine (rrelease_any _ _ _).mono ?_)
  rintro e w1 ⟨rfl, hx1⟩
  have H := (sep4 w 26 38 28 26 (sc s) (xc x) (tc t) z5).ext hx1
  obtain ⟨r0, r1, r2, r3, r4, rf, rs⟩ := cells5 (H.blk (.head _))
  have HX := hide H.toExt
  clear H hx1
  obtain ⟨r, HR⟩ : ∃ r, Hid (releaseS s x.own = r) := ⟨_, hide rfl⟩
  rw [HR.out]
  go_wp2_with fail
  refine bodyPost_ret (v := .tuple #[sv r.1, .int .i64 r.2]) (by simp [results, Try.results16, go_sem, r0, r1, r2, r3, r4, rf, rs]) rfl ?_
  rw [E.out, HR.out]
  refine ⟨rfl, ?_⟩
  repeat (first | with_reducible exact HX.out | refine ext_set ?_ _ _ (by first | exact Nat.le_refl _ | exact Nat.le_add_right _ _ | (dsimp only; omega)))
set_option maxHeartbeats 1000000 in
theorem told_2 (s : Se) (x : Ca) (t : Ti) (w : World) (hs : s.ok) (h0 : 0 ≤ x.what) (h : x.what % 8 = 2) : Calls Try.prog 16 #[sv s, xv x, tv t] w (RetS w (doneS s x t)) := by
  have E := hide (doneS_2 (s := s) (t := t) h)
  have t0 : (x.what % 8 == 0) = false := by rw [h]; rfl
  have t1 : (x.what % 8 == 1) = false := by rw [h]; rfl
  have t2 : (x.what % 8 == 2) = true := by rw [h]; rfl
  have HS := hide hs
  clear h hs
  go_enter Try.func16, Try.ntmps16
  go_wp2_with fail
  (with_reducible refine (rexpire_any _ _ _).mono ?_)
  rintro e w1 ⟨rfl, hx1⟩
  have H := (sep4 w 26 38 28 26 (sc s) (xc x) (tc t) z5).ext hx1
  obtain ⟨r0, r1, r2, r3, r4, rf, rs⟩ := cells5 (H.blk (.head _))
  have HX := hide H.toExt
  clear H hx1
  obtain ⟨r, HR⟩ : ∃ r, Hid (expireS s x.at_ = r) := ⟨_, hide rfl⟩
  rw [HR.out]
  go_wp2_with fail
  refine bodyPost_ret (v := .tuple #[sv r.1, .int .i64 r.2]) (by simp [results, Try.results16, go_sem, r0, r1, r2, r3, r4, rf, rs]) rfl ?_
  rw [E.out, HR.out]
  refine ⟨rfl, ?_⟩
  repeat (first | with_reducible exact HX.out | refine ext_set ?_ _ _ (by first | exact Nat.le_refl _ | exact Nat.le_add_right _ _ | (dsimp only; omega)))
set_option maxHeartbeats 1000000 in
theorem told_3 (s : Se) (x : Ca) (t : Ti) (w : World) (hs : s.ok) (h0 : 0 ≤ x.what) (h : x.what % 8 = 3) : Calls Try.prog 16 #[sv s, xv x, tv t] w (RetS w (doneS s x t)) := by
  have E := hide (doneS_3 (s := s) (t := t) h)
  have t0 : (x.what % 8 == 0) = false := by rw [h]; rfl
  have t1 : (x.what % 8 == 1) = false := by rw [h]; rfl
  have t2 : (x.what % 8 == 2) = false := by rw [h]; rfl
  have t3 : (x.what % 8 == 3) = true := by rw [h]; rfl
  have HS := hide hs
  clear h hs
  go_enter Try.func16, Try.ntmps16
  go_wp2_with fail
  (with_reducible refine (rbuy_any _ _ _ HS.out).mono ?_)
  rintro e w1 ⟨rfl, hx1⟩
  have H := (sep4 w 26 38 28 26 (sc s) (xc x) (tc t) z5).ext hx1
  obtain ⟨r0, r1, r2, r3, r4, rf, rs⟩ := cells5 (H.blk (.head _))
  have HX := hide H.toExt
  clear H hx1
  obtain ⟨r, HR⟩ : ∃ r, Hid (buyS s x.own = r) := ⟨_, hide rfl⟩
  rw [HR.out]
  go_wp2_with fail
  refine bodyPost_ret (v := .tuple #[sv r.1, .int .i64 r.2]) (by simp [results, Try.results16, go_sem, r0, r1, r2, r3, r4, rf, rs]) rfl ?_
  rw [E.out, HR.out]
  refine ⟨rfl, ?_⟩
  repeat (first | with_reducible exact HX.out | refine ext_set ?_ _ _ (by first | exact Nat.le_refl _ | exact Nat.le_add_right _ _ | (dsimp only; omega)))
set_option maxHeartbeats 1000000 in
theorem told_4 (s : Se) (x : Ca) (t : Ti) (w : World) (hs : s.ok) (h0 : 0 ≤ x.what) (h : x.what % 8 = 4) : Calls Try.prog 16 #[sv s, xv x, tv t] w (RetS w (doneS s x t)) := by
  have E := hide (doneS_4 (s := s) (t := t) h)
  have t0 : (x.what % 8 == 0) = false := by rw [h]; rfl
  have t1 : (x.what % 8 == 1) = false := by rw [h]; rfl
  have t2 : (x.what % 8 == 2) = false := by rw [h]; rfl
  have t3 : (x.what % 8 == 3) = false := by rw [h]; rfl
  have t4 : (x.what % 8 == 4) = true := by rw [h]; rfl
  have HS := hide hs
  clear h hs
  go_enter Try.func16, Try.ntmps16
  go_wp2_with fail
  (with_reducible refine (rtransfer_any _ _ _ _ HS.out).mono ?_)
  rintro e w1 ⟨rfl, hx1⟩
  have H := (sep4 w 26 38 28 26 (sc s) (xc x) (tc t) z5).ext hx1
  obtain ⟨r0, r1, r2, r3, r4, rf, rs⟩ := cells5 (H.blk (.head _))
  have HX := hide H.toExt
  clear H hx1
  obtain ⟨r, HR⟩ : ∃ r, Hid (transferS s t x.to = r) := ⟨_, hide rfl⟩
  rw [HR.out]
  go_wp2_with fail
  refine bodyPost_ret (v := .tuple #[sv r.1, .int .i64 r.2]) (by simp [results, Try.results16, go_sem, r0, r1, r2, r3, r4, rf, rs]) rfl ?_
  rw [E.out, HR.out]
  refine ⟨rfl, ?_⟩
  repeat (first | with_reducible exact HX.out | refine ext_set ?_ _ _ (by first | exact Nat.le_refl _ | exact Nat.le_add_right _ _ | (dsimp only; omega)))
set_option maxHeartbeats 1000000 in
theorem told_5 (s : Se) (x : Ca) (t : Ti) (w : World) (hs : s.ok) (h0 : 0 ≤ x.what) (h : x.what % 8 = 5) : Calls Try.prog 16 #[sv s, xv x, tv t] w (RetS w (doneS s x t)) := by
  have E := hide (doneS_5 (s := s) (t := t) h)
  have t0 : (x.what % 8 == 0) = false := by rw [h]; rfl
  have t1 : (x.what % 8 == 1) = false := by rw [h]; rfl
  have t2 : (x.what % 8 == 2) = false := by rw [h]; rfl
  have t3 : (x.what % 8 == 3) = false := by rw [h]; rfl
  have t4 : (x.what % 8 == 4) = false := by rw [h]; rfl
  have t5 : (x.what % 8 == 5) = true := by rw [h]; rfl
  have HS := hide hs
  clear h hs
  go_enter Try.func16, Try.ntmps16
  go_wp2_with fail
  (with_reducible refine (rrefund_any _ _ _).mono ?_)
  rintro e w1 ⟨rfl, hx1⟩
  have H := (sep4 w 26 38 28 26 (sc s) (xc x) (tc t) z5).ext hx1
  obtain ⟨r0, r1, r2, r3, r4, rf, rs⟩ := cells5 (H.blk (.head _))
  have HX := hide H.toExt
  clear H hx1
  obtain ⟨r, HR⟩ : ∃ r, Hid (refundS s t = r) := ⟨_, hide rfl⟩
  rw [HR.out]
  go_wp2_with fail
  refine bodyPost_ret (v := .tuple #[sv r.1, .int .i64 r.2]) (by simp [results, Try.results16, go_sem, r0, r1, r2, r3, r4, rf, rs]) rfl ?_
  rw [E.out, HR.out]
  refine ⟨rfl, ?_⟩
  repeat (first | with_reducible exact HX.out | refine ext_set ?_ _ _ (by first | exact Nat.le_refl _ | exact Nat.le_add_right _ _ | (dsimp only; omega)))
set_option maxHeartbeats 1000000 in
theorem told_6 (s : Se) (x : Ca) (t : Ti) (w : World) (hs : s.ok) (h0 : 0 ≤ x.what) (h : x.what % 8 = 6) : Calls Try.prog 16 #[sv s, xv x, tv t] w (RetS w (doneS s x t)) := by
  have E := hide (doneS_6 (s := s) (t := t) h)
  have t0 : (x.what % 8 == 0) = false := by rw [h]; rfl
  have t1 : (x.what % 8 == 1) = false := by rw [h]; rfl
  have t2 : (x.what % 8 == 2) = false := by rw [h]; rfl
  have t3 : (x.what % 8 == 3) = false := by rw [h]; rfl
  have t4 : (x.what % 8 == 4) = false := by rw [h]; rfl
  have t5 : (x.what % 8 == 5) = false := by rw [h]; rfl
  have t6 : (x.what % 8 == 6) = true := by rw [h]; rfl
  have HS := hide hs
  clear h hs
  go_enter Try.func16, Try.ntmps16
  go_wp2_with fail
  (with_reducible refine (rrevoke_any _ _ HS.out).mono ?_)
  rintro e w1 ⟨rfl, hx1⟩
  have H := (sep4 w 26 38 28 26 (sc s) (xc x) (tc t) z5).ext hx1
  obtain ⟨r0, r1, r2, r3, r4, rf, rs⟩ := cells5 (H.blk (.head _))
  have HX := hide H.toExt
  clear H hx1
  obtain ⟨r, HR⟩ : ∃ r, Hid (revokeS s = r) := ⟨_, hide rfl⟩
  rw [HR.out]
  go_wp2_with fail
  refine bodyPost_ret (v := .tuple #[sv r.1, .int .i64 r.2]) (by simp [results, Try.results16, go_sem, r0, r1, r2, r3, r4, rf, rs]) rfl ?_
  rw [E.out, HR.out]
  refine ⟨rfl, ?_⟩
  repeat (first | with_reducible exact HX.out | refine ext_set ?_ _ _ (by first | exact Nat.le_refl _ | exact Nat.le_add_right _ _ | (dsimp only; omega)))
set_option maxHeartbeats 1000000 in
theorem told_7 (s : Se) (x : Ca) (t : Ti) (w : World) (hs : s.ok) (h0 : 0 ≤ x.what) (h : x.what % 8 = 7) : Calls Try.prog 16 #[sv s, xv x, tv t] w (RetS w (doneS s x t)) := by
  have E := hide (doneS_7 (s := s) (t := t) h)
  have t0 : (x.what % 8 == 0) = false := by rw [h]; rfl
  have t1 : (x.what % 8 == 1) = false := by rw [h]; rfl
  have t2 : (x.what % 8 == 2) = false := by rw [h]; rfl
  have t3 : (x.what % 8 == 3) = false := by rw [h]; rfl
  have t4 : (x.what % 8 == 4) = false := by rw [h]; rfl
  have t5 : (x.what % 8 == 5) = false := by rw [h]; rfl
  have t6 : (x.what % 8 == 6) = false := by rw [h]; rfl
  have HS := hide hs
  clear h hs
  go_enter Try.func16, Try.ntmps16
  go_wp2_with fail
  refine wp_region_tail 4 [0, 1, 2, 3] (by kernel_rfl) (by kernel_rfl) (by kernel_rfl) ?_
  have H := (sep4 w 26 38 28 26 (sc s) (xc x) (tc t) z5).drew
  generalize (World.alloc _ _).drew = wd at *
  refine wt_loadB rfl rfl 26 (.tmp 3) rfl (H.blk (.tail _ (.tail _ (.tail _ (.head _))))) rfl _ Try.underlying26 rfl (by kernel_rfl) ?_
  refine wt_loadB rfl rfl 26 (.tmp 3) rfl (H.blk (.tail _ (.tail _ (.tail _ (.head _))))) rfl _ Try.underlying26 rfl (by kernel_rfl) ?_
  refine wt_loadB rfl rfl 28 (.tmp 5) rfl (H.blk (.tail _ (.head _))) rfl _ Try.underlying28 rfl (by kernel_rfl) ?_
  refine wt_ext rfl rfl (fun K hK => ?_)
  go_simp
  go_at_call 38
  (with_reducible refine (rvalid_any _ _ _).mono ?_)
  rintro e w1 ⟨rfl, hx1⟩
  refine hK _ _ hx1 ?_
  clear hK K
  have H1 := H.ext hx1
  clear H hx1
  refine wt_nil ?_
  obtain ⟨r0, r1, r2, r3, r4, rf, rs⟩ := cells5 (H1.blk (.head _))
  have HX := hide H1.toExt
  clear H1
  go_wp2_with fail
  refine NoPanic.normal ?_
  go_wp2_with fail
  refine bodyPost_ret (v := .tuple #[sv s, .int .i64 (validE s t)]) (by simp [results, Try.results16, go_sem, r0, r1, r2, r3, r4, rf, rs]) rfl ?_
  rw [E.out]
  refine ⟨rfl, ?_⟩
  repeat (first | with_reducible exact HX.out | refine ext_set ?_ _ _ (by first | exact Nat.le_refl _ | exact Nat.le_add_right _ _ | (dsimp only; omega)))
theorem told_any (s : Se) (x : Ca) (t : Ti) (w : World) (hs : s.ok) (hx : x.ok) : Calls Try.prog 16 #[sv s, xv x, tv t] w (RetS w (doneS s x t)) := by
  have h0 := hx.what.1
  have : x.what % 8 = 0 ∨ x.what % 8 = 1 ∨ x.what % 8 = 2 ∨ x.what % 8 = 3 ∨ x.what % 8 = 4 ∨ x.what % 8 = 5 ∨ x.what % 8 = 6 ∨ x.what % 8 = 7 := by omega
  rcases this with h | h | h | h | h | h | h | h
  · exact told_0 s x t w hs h0 h
  · exact told_1 s x t w hs h0 h
  · exact told_2 s x t w hs h0 h
  · exact told_3 s x t w hs h0 h
  · exact told_4 s x t w hs h0 h
  · exact told_5 s x t w hs h0 h
  · exact told_6 s x t w hs h0 h
  · exact told_7 s x t w hs h0 h
end Go.Proofs.Ytcmpkpldihnklaa
