/- Seats: the law's own look at known values answers true. -/
import Derived.Test.YtcmpkpldihnklaaR2
namespace Go.Proofs.Ytcmpkpldihnklaa
open Go.RowKit Go.Gr Go.Seat
set_option linter.unusedVariables false
set_option linter.unusedSimpArgs false
theorem aw0 (w : World) : Calls Try.prog 23 #[.agg #[.int .i64 0, .int .u32 0, .int .i64 0, .int .u64 4, .int .u64 0], .int .u32 7, .int .i64 10] w fun e w' => e = .returned (.tuple #[.agg #[.int .i64 1, .int .u32 7, .int .i64 10, .int .u64 4, .int .u64 0], .int .i64 0]) ∧ Ext w w' := by
  have h := hold_any ⟨0, 0, 0, 4, 0⟩ 7 10 w
  rw [show holdS ⟨0, 0, 0, 4, 0⟩ 7 10 = (⟨1, 7, 10, 4, 0⟩, 0) by decide] at h
  exact h
theorem aw1 (w : World) : Calls Try.prog 23 #[.agg #[.int .i64 1, .int .u32 7, .int .i64 10, .int .u64 4, .int .u64 0], .int .u32 8, .int .i64 10] w fun e w' => e = .returned (.tuple #[.agg #[.int .i64 1, .int .u32 7, .int .i64 10, .int .u64 4, .int .u64 0], .int .i64 15]) ∧ Ext w w' := by
  have h := hold_any ⟨1, 7, 10, 4, 0⟩ 8 10 w
  rw [show holdS ⟨1, 7, 10, 4, 0⟩ 8 10 = (⟨1, 7, 10, 4, 0⟩, 15) by decide] at h
  exact h
theorem aw2 (w : World) : Calls Try.prog 24 #[.agg #[.int .i64 1, .int .u32 7, .int .i64 10, .int .u64 4, .int .u64 0], .int .u32 8] w fun e w' => e = .returned (.tuple #[.agg #[.int .i64 1, .int .u32 7, .int .i64 10, .int .u64 4, .int .u64 0], .int .i64 14]) ∧ Ext w w' := by
  have h := release_any ⟨1, 7, 10, 4, 0⟩ 8 w
  rw [show releaseS ⟨1, 7, 10, 4, 0⟩ 8 = (⟨1, 7, 10, 4, 0⟩, 14) by decide] at h
  exact h
theorem aw3 (w : World) : Calls Try.prog 25 #[.agg #[.int .i64 1, .int .u32 7, .int .i64 10, .int .u64 4, .int .u64 0], .int .i64 9] w fun e w' => e = .returned (.tuple #[.agg #[.int .i64 1, .int .u32 7, .int .i64 10, .int .u64 4, .int .u64 0], .int .i64 9]) ∧ Ext w w' := by
  have h := expire_any ⟨1, 7, 10, 4, 0⟩ 9 w
  rw [show expireS ⟨1, 7, 10, 4, 0⟩ 9 = (⟨1, 7, 10, 4, 0⟩, 9) by decide] at h
  exact h
theorem aw4 (w : World) : Calls Try.prog 25 #[.agg #[.int .i64 1, .int .u32 7, .int .i64 10, .int .u64 4, .int .u64 0], .int .i64 10] w fun e w' => e = .returned (.tuple #[.agg #[.int .i64 0, .int .u32 0, .int .i64 0, .int .u64 4, .int .u64 0], .int .i64 0]) ∧ Ext w w' := by
  have h := expire_any ⟨1, 7, 10, 4, 0⟩ 10 w
  rw [show expireS ⟨1, 7, 10, 4, 0⟩ 10 = (⟨0, 0, 0, 4, 0⟩, 0) by decide] at h
  exact h
theorem aw5 (w : World) : Calls Try.prog 12 #[.agg #[.int .i64 1, .int .u32 7, .int .i64 10, .int .u64 4, .int .u64 0], .int .u32 7] w fun e w' => e = .returned (.tuple #[.agg #[.int .i64 2, .int .u32 7, .int .i64 0, .int .u64 5, .int .u64 0], .int .i64 0]) ∧ Ext w w' := by
  have h := buy_any ⟨1, 7, 10, 4, 0⟩ 7 w (by refine ⟨?_, ?_, ?_, ?_, ?_⟩ <;> simp [most])
  rw [show buyS ⟨1, 7, 10, 4, 0⟩ 7 = (⟨2, 7, 0, 5, 0⟩, 0) by decide] at h
  exact h
theorem aw6 (w : World) : Calls Try.prog 11 #[.agg #[.int .i64 2, .int .u32 7, .int .i64 0, .int .u64 5, .int .u64 0], .int .u32 3] w fun e w' => e = .returned (.tuple #[.agg #[.int .u32 3, .int .u32 7, .int .u64 5, .int .u64 0], .int .i64 0]) ∧ Ext w w' := by
  have h := ticket_any ⟨2, 7, 0, 5, 0⟩ 3 w
  rw [show ticketS ⟨2, 7, 0, 5, 0⟩ 3 = (⟨3, 7, 5, 0⟩, 0) by decide] at h
  exact h
theorem aw7 (w : World) : Calls Try.prog 13 #[.agg #[.int .i64 2, .int .u32 7, .int .i64 0, .int .u64 5, .int .u64 0], .agg #[.int .u32 3, .int .u32 7, .int .u64 5, .int .u64 0], .int .u32 9] w fun e w' => e = .returned (.tuple #[.agg #[.int .i64 2, .int .u32 9, .int .i64 0, .int .u64 6, .int .u64 0], .int .i64 0]) ∧ Ext w w' := by
  have h := transfer_any ⟨2, 7, 0, 5, 0⟩ ⟨3, 7, 5, 0⟩ 9 w (by refine ⟨?_, ?_, ?_, ?_, ?_⟩ <;> simp [most])
  rw [show transferS ⟨2, 7, 0, 5, 0⟩ ⟨3, 7, 5, 0⟩ 9 = (⟨2, 9, 0, 6, 0⟩, 0) by decide] at h
  exact h
theorem aw8 (w : World) : Calls Try.prog 13 #[.agg #[.int .i64 2, .int .u32 9, .int .i64 0, .int .u64 6, .int .u64 0], .agg #[.int .u32 3, .int .u32 7, .int .u64 5, .int .u64 0], .int .u32 9] w fun e w' => e = .returned (.tuple #[.agg #[.int .i64 2, .int .u32 9, .int .i64 0, .int .u64 6, .int .u64 0], .int .i64 16]) ∧ Ext w w' := by
  have h := transfer_any ⟨2, 9, 0, 6, 0⟩ ⟨3, 7, 5, 0⟩ 9 w (by refine ⟨?_, ?_, ?_, ?_, ?_⟩ <;> simp [most])
  rw [show transferS ⟨2, 9, 0, 6, 0⟩ ⟨3, 7, 5, 0⟩ 9 = (⟨2, 9, 0, 6, 0⟩, 16) by decide] at h
  exact h
theorem aw9 (w : World) : Calls Try.prog 14 #[.agg #[.int .i64 2, .int .u32 9, .int .i64 0, .int .u64 6, .int .u64 0]] w fun e w' => e = .returned (.tuple #[.agg #[.int .i64 0, .int .u32 0, .int .i64 0, .int .u64 6, .int .u64 1], .int .i64 0]) ∧ Ext w w' := by
  have h := revoke_any ⟨2, 9, 0, 6, 0⟩ w (by refine ⟨?_, ?_, ?_, ?_, ?_⟩ <;> simp [most])
  rw [show revokeS ⟨2, 9, 0, 6, 0⟩ = (⟨0, 0, 0, 6, 1⟩, 0) by decide] at h
  exact h
theorem aw10 (w : World) : Calls Try.prog 14 #[.agg #[.int .i64 0, .int .u32 0, .int .i64 0, .int .u64 6, .int .u64 1]] w fun e w' => e = .returned (.tuple #[.agg #[.int .i64 0, .int .u32 0, .int .i64 0, .int .u64 6, .int .u64 1], .int .i64 15]) ∧ Ext w w' := by
  have h := revoke_any ⟨0, 0, 0, 6, 1⟩ w (by refine ⟨?_, ?_, ?_, ?_, ?_⟩ <;> simp [most])
  rw [show revokeS ⟨0, 0, 0, 6, 1⟩ = (⟨0, 0, 0, 6, 1⟩, 15) by decide] at h
  exact h
set_option maxRecDepth 100000 in
set_option maxHeartbeats 4000000 in
theorem awake_any (w : World) : Calls Try.prog 10 #[] w fun e w' => e = .returned (.bool true) ∧ Ext w w' := by
  go_enter Try.func10, Try.ntmps10
  go_wp2_with fail
  have H0 := (Sep.refl No w).newB ((Ext.refl w).alloc (.cells ([.int .i64 0, .int .u32 0, .int .i64 0, .int .u64 4, .int .u64 0] : List Value).toArray 26)) (Blk.new w 26 [.int .i64 0, .int .u32 0, .int .i64 0, .int .u64 4, .int .u64 0]) (Nat.le_refl _)
  (with_reducible refine (aw0 _).mono ?_)
  rintro e w1 ⟨rfl, hx⟩
  have G0 := H0.ext hx
  clear H0 hx
  have hs0 : w.heap.size ≤ w1.heap.size := G0.le
  have H1 := G0.newB ((Ext.refl w1).alloc (.cells ([.int .i64 1, .int .u32 7, .int .i64 10, .int .u64 4, .int .u64 0] : List Value).toArray 26)) (Blk.new w1 26 [.int .i64 1, .int .u32 7, .int .i64 10, .int .u64 4, .int .u64 0]) (Nat.le_refl _)
  have F : True := trivial
  clear G0
  go_wp2_with fail
  (with_reducible refine (aw1 _).mono ?_)
  rintro e w2 ⟨rfl, hx⟩
  have G1 := H1.ext hx
  clear H1 hx
  have hs1 : w.heap.size ≤ w2.heap.size := G1.le
  clear F
  have H2 := G1.newB ((Ext.refl w2).alloc (.cells ([.int .i64 1, .int .u32 7, .int .i64 10, .int .u64 4, .int .u64 0] : List Value).toArray 26)) (Blk.new w2 26 [.int .i64 1, .int .u32 7, .int .i64 10, .int .u64 4, .int .u64 0]) (Nat.le_refl _)
  have F : True := trivial
  obtain ⟨x1_0_0, x1_0_1, x1_0_2, x1_0_3, x1_0_4, x1_0_5, x1_0_6⟩ := (cells5 (G1.blk (.head _)))
  clear G1
  go_wp2_with fail
  clear x1_0_0 x1_0_1 x1_0_2 x1_0_3 x1_0_4 x1_0_5 x1_0_6
  (with_reducible refine (aw2 _).mono ?_)
  rintro e w3 ⟨rfl, hx⟩
  have G2 := H2.ext hx
  clear H2 hx
  have hs2 : w.heap.size ≤ w3.heap.size := G2.le
  clear F
  have H3 := G2.newB ((Ext.refl w3).alloc (.cells ([.int .i64 1, .int .u32 7, .int .i64 10, .int .u64 4, .int .u64 0] : List Value).toArray 26)) (Blk.new w3 26 [.int .i64 1, .int .u32 7, .int .i64 10, .int .u64 4, .int .u64 0]) (Nat.le_refl _)
  have F : True := trivial
  obtain ⟨x2_0_0, x2_0_1, x2_0_2, x2_0_3, x2_0_4, x2_0_5, x2_0_6⟩ := (cells5 (G2.blk (.tail _ (.head _))))
  clear G2
  go_wp2_with fail
  clear x2_0_0 x2_0_1 x2_0_2 x2_0_3 x2_0_4 x2_0_5 x2_0_6
  (with_reducible refine (aw3 _).mono ?_)
  rintro e w4 ⟨rfl, hx⟩
  have G3 := H3.ext hx
  clear H3 hx
  have hs3 : w.heap.size ≤ w4.heap.size := G3.le
  clear F
  have H4 := G3.newB ((Ext.refl w4).alloc (.cells ([.int .i64 1, .int .u32 7, .int .i64 10, .int .u64 4, .int .u64 0] : List Value).toArray 26)) (Blk.new w4 26 [.int .i64 1, .int .u32 7, .int .i64 10, .int .u64 4, .int .u64 0]) (Nat.le_refl _)
  have F : True := trivial
  obtain ⟨x3_0_0, x3_0_1, x3_0_2, x3_0_3, x3_0_4, x3_0_5, x3_0_6⟩ := (cells5 (G3.blk (.tail _ (.tail _ (.head _)))))
  clear G3
  go_wp2_with fail
  clear x3_0_0 x3_0_1 x3_0_2 x3_0_3 x3_0_4 x3_0_5 x3_0_6
  (with_reducible refine (aw4 _).mono ?_)
  rintro e w5 ⟨rfl, hx⟩
  have G4 := H4.ext hx
  clear H4 hx
  have hs4 : w.heap.size ≤ w5.heap.size := G4.le
  clear F
  have H5 := G4.newB ((Ext.refl w5).alloc (.cells ([.int .i64 0, .int .u32 0, .int .i64 0, .int .u64 4, .int .u64 0] : List Value).toArray 26)) (Blk.new w5 26 [.int .i64 0, .int .u32 0, .int .i64 0, .int .u64 4, .int .u64 0]) (Nat.le_refl _)
  have F : True := trivial
  obtain ⟨x4_0_0, x4_0_1, x4_0_2, x4_0_3, x4_0_4, x4_0_5, x4_0_6⟩ := (cells5 (G4.blk (.tail _ (.tail _ (.tail _ (.head _))))))
  clear G4
  go_wp2_with fail
  clear x4_0_0 x4_0_1 x4_0_2 x4_0_3 x4_0_4 x4_0_5 x4_0_6
  (with_reducible refine (aw5 _).mono ?_)
  rintro e w6 ⟨rfl, hx⟩
  have G5 := H5.ext hx
  clear H5 hx
  have hs5 : w.heap.size ≤ w6.heap.size := G5.le
  clear F
  have H6 := G5.newB ((Ext.refl w6).alloc (.cells ([.int .i64 2, .int .u32 7, .int .i64 0, .int .u64 5, .int .u64 0] : List Value).toArray 26)) (Blk.new w6 26 [.int .i64 2, .int .u32 7, .int .i64 0, .int .u64 5, .int .u64 0]) (Nat.le_refl _)
  have F : True := trivial
  clear G5
  go_wp2_with fail
  (with_reducible refine (aw6 _).mono ?_)
  rintro e w7 ⟨rfl, hx⟩
  have G6 := H6.ext hx
  clear H6 hx
  have hs6 : w.heap.size ≤ w7.heap.size := G6.le
  clear F
  have H7 := G6.newB ((Ext.refl w7).alloc (.cells ([.int .u32 3, .int .u32 7, .int .u64 5, .int .u64 0] : List Value).toArray 28)) (Blk.new w7 28 [.int .u32 3, .int .u32 7, .int .u64 5, .int .u64 0]) (Nat.le_refl _)
  have F : True := trivial
  obtain ⟨x6_0_0, x6_0_1, x6_0_2, x6_0_3, x6_0_4, x6_0_5, x6_0_6⟩ := (cells5 (G6.blk (.head _)))
  clear G6
  go_wp2_with fail
  clear x6_0_0 x6_0_1 x6_0_2 x6_0_3 x6_0_4 x6_0_5 x6_0_6
  (with_reducible refine (aw7 _).mono ?_)
  rintro e w8 ⟨rfl, hx⟩
  have G7 := H7.ext hx
  clear H7 hx
  have hs7 : w.heap.size ≤ w8.heap.size := G7.le
  clear F
  have H8 := G7.newB ((Ext.refl w8).alloc (.cells ([.int .i64 2, .int .u32 9, .int .i64 0, .int .u64 6, .int .u64 0] : List Value).toArray 26)) (Blk.new w8 26 [.int .i64 2, .int .u32 9, .int .i64 0, .int .u64 6, .int .u64 0]) (Nat.le_refl _)
  have F : True := trivial
  obtain ⟨x7_0_0, x7_0_1, x7_0_2, x7_0_3, x7_0_4, x7_0_5⟩ := (cells4 (G7.blk (.head _)))
  clear G7
  go_wp2_with fail
  clear x7_0_0 x7_0_1 x7_0_2 x7_0_3 x7_0_4 x7_0_5
  (with_reducible refine (aw8 _).mono ?_)
  rintro e w9 ⟨rfl, hx⟩
  have G8 := H8.ext hx
  clear H8 hx
  have hs8 : w.heap.size ≤ w9.heap.size := G8.le
  clear F
  have H9 := G8.newB ((Ext.refl w9).alloc (.cells ([.int .i64 2, .int .u32 9, .int .i64 0, .int .u64 6, .int .u64 0] : List Value).toArray 26)) (Blk.new w9 26 [.int .i64 2, .int .u32 9, .int .i64 0, .int .u64 6, .int .u64 0]) (Nat.le_refl _)
  have F : True := trivial
  obtain ⟨x8_0_0, x8_0_1, x8_0_2, x8_0_3, x8_0_4, x8_0_5, x8_0_6⟩ := (cells5 (G8.blk (.head _)))
  clear G8
  go_wp2_with fail
  clear x8_0_0 x8_0_1 x8_0_2 x8_0_3 x8_0_4 x8_0_5 x8_0_6
  (with_reducible refine (aw9 _).mono ?_)
  rintro e w10 ⟨rfl, hx⟩
  have G9 := H9.ext hx
  clear H9 hx
  have hs9 : w.heap.size ≤ w10.heap.size := G9.le
  clear F
  have H10 := G9.newB ((Ext.refl w10).alloc (.cells ([.int .i64 0, .int .u32 0, .int .i64 0, .int .u64 6, .int .u64 1] : List Value).toArray 26)) (Blk.new w10 26 [.int .i64 0, .int .u32 0, .int .i64 0, .int .u64 6, .int .u64 1]) (Nat.le_refl _)
  have F : True := trivial
  clear G9
  go_wp2_with fail
  (with_reducible refine (aw10 _).mono ?_)
  rintro e w11 ⟨rfl, hx⟩
  have G10 := H10.ext hx
  clear H10 hx
  have hs10 : w.heap.size ≤ w11.heap.size := G10.le
  clear F
  have H11 := G10.newB ((Ext.refl w11).alloc (.cells ([.int .i64 0, .int .u32 0, .int .i64 0, .int .u64 6, .int .u64 1] : List Value).toArray 26)) (Blk.new w11 26 [.int .i64 0, .int .u32 0, .int .i64 0, .int .u64 6, .int .u64 1]) (Nat.le_refl _)
  have F : True := trivial
  obtain ⟨x10_0_0, x10_0_1, x10_0_2, x10_0_3, x10_0_4, x10_0_5, x10_0_6⟩ := (cells5 (G10.blk (.head _)))
  obtain ⟨x10_1_0, x10_1_1, x10_1_2, x10_1_3, x10_1_4, x10_1_5, x10_1_6⟩ := (cells5 (G10.blk (.tail _ (.tail _ (.head _)))))
  obtain ⟨x10_2_0, x10_2_1, x10_2_2, x10_2_3, x10_2_4, x10_2_5⟩ := (cells4 (G10.blk (.tail _ (.tail _ (.tail _ (.head _))))))
  obtain ⟨x10_3_0, x10_3_1, x10_3_2, x10_3_3, x10_3_4, x10_3_5, x10_3_6⟩ := (cells5 (G10.blk (.tail _ (.tail _ (.tail _ (.tail _ (.tail _ (.head _))))))))
  obtain ⟨x10_4_0, x10_4_1, x10_4_2, x10_4_3, x10_4_4, x10_4_5, x10_4_6⟩ := (cells5 (G10.blk (.tail _ (.tail _ (.tail _ (.tail _ (.tail _ (.tail _ (.tail _ (.tail _ (.tail _ (.tail _ (.head _)))))))))))))
  clear G10
  go_wp2_with fail
  go_ret
  exact ⟨rfl, H11.toExt⟩
end Go.Proofs.Ytcmpkpldihnklaa
