/- The walk of the law IntsKnown: the examples of the document hold, and nothing that was there has changed. -/
import Derived.Test.YteebnoegeoenbaaL1
namespace Go.Proofs.Yteebnoegeoenbaa
open Go.RowKit Go.Gr
set_option linter.unusedVariables false
set_option maxRecDepth 20000 in
set_option maxHeartbeats 1600000 in
theorem known_law (w : World) : Calls Try.prog 11 #[] w fun e w' => e = .returned (.bool true) ∧ Ext w w' := by
  go_enter Try.func11, Try.ntmps11
  go_wp2_with fail
  refine (put_any none 0 [] 258 1 _ (Rd.nil _ _) (by decide) (by decide) (by decide)).mono ?_
  rintro e w1 ⟨v1, rfl, ho1, hx1⟩
  rw [show putE 258 1 = 7 by decide]
  have HX1 := hide hx1
  clear hx1 ho1
  go_wp2_with fail
  refine (get_any (some ⟨w1.heap.size, 0, none⟩) 3 [1, 2, 3] 4 _ (Blk.new w1 5 (byt [1, 2, 3])).rd (by unfold isB; decide) (by decide) (by decide)).mono ?_
  rintro e w2 ⟨A2, c2, rfl, hr2, hx2⟩
  rw [show getE [1, 2, 3] 4 = 10 by decide, show getN [1, 2, 3] 4 = 0 by decide]
  have HX2 := hide (((Ext.refl w1).alloc _).trans hx2)
  clear hx2 hr2
  go_wp2_with fail
  refine (get_any (some ⟨w2.heap.size, 0, none⟩) 3 [1, 2, 3] 9 _ (Blk.new w2 5 (byt [1, 2, 3])).rd (by unfold isB; decide) (by decide) (by decide)).mono ?_
  rintro e w3 ⟨A3, c3, rfl, hr3, hx3⟩
  rw [show getE [1, 2, 3] 9 = 7 by decide, show getN [1, 2, 3] 9 = 0 by decide]
  have HX3 := hide (((Ext.refl w2).alloc _).trans hx3)
  clear hx3 hr3
  go_wp2_with fail
  refine (getvar_any (some ⟨w3.heap.size, 0, none⟩) 2 [128, 0] _ (Blk.new w3 5 (byt [128, 0])).rd (by unfold isB; decide) (by decide) (by decide)).mono ?_
  rintro e w4 ⟨A4, c4, rfl, hr4, hx4⟩
  rw [show gvE [128, 0] = 6 by decide, show gvN [128, 0] = 0 by decide]
  have HX4 := hide (((Ext.refl w3).alloc _).trans hx4)
  clear hx4 hr4
  go_wp2_with fail
  refine (getvar_any (some ⟨w4.heap.size, 0, none⟩) 1 [172] _ (Blk.new w4 5 (byt [172])).rd (by unfold isB; decide) (by decide) (by decide)).mono ?_
  rintro e w5 ⟨A5, c5, rfl, hr5, hx5⟩
  rw [show gvE [172] = 10 by decide, show gvN [172] = 0 by decide]
  have HX5 := hide (((Ext.refl w4).alloc _).trans hx5)
  clear hx5 hr5
  go_wp2_with fail
  refine (getvar_any (some ⟨w5.heap.size, 0, none⟩) 10 [255, 255, 255, 255, 255, 255, 255, 255, 255, 1] _ (Blk.new w5 5 (byt [255, 255, 255, 255, 255, 255, 255, 255, 255, 1])).rd (by unfold isB; decide) (by decide) (by decide)).mono ?_
  rintro e w6 ⟨A6, c6, rfl, hr6, hx6⟩
  rw [show gvE [255, 255, 255, 255, 255, 255, 255, 255, 255, 1] = 0 by decide, show gvN [255, 255, 255, 255, 255, 255, 255, 255, 255, 1] = 18446744073709551615 by decide]
  have hlt : w5.heap.size < w6.heap.size := by have := hx6.size; simp at this; omega
  have HB6 := hide ((Blk.new w5 5 (byt [255, 255, 255, 255, 255, 255, 255, 255, 255, 1])).ext hx6)
  have HX6 := hide (((Ext.refl w5).alloc _).trans hx6)
  clear hx6 hr6
  have hc9 := HB6.out.cell 9
  have hf9 := HB6.out.free 9
  simp only [byt, List.map_cons, List.map_nil] at hc9
  have HB7 := hide (HB6.out.set 9 (.int .u8 2))
  go_wp2_with fail
  refine (getvar_any (some ⟨w5.heap.size, 0, none⟩) 10 [255, 255, 255, 255, 255, 255, 255, 255, 255, 2] _ HB7.out.rd (by unfold isB; decide) (by decide) (by decide)).mono ?_
  rintro e w7 ⟨A7, c7, rfl, hr7, hx7⟩
  rw [show gvE [255, 255, 255, 255, 255, 255, 255, 255, 255, 2] = 7 by decide, show gvN [255, 255, 255, 255, 255, 255, 255, 255, 255, 2] = 0 by decide]
  have HX7 := hide hx7
  clear hx7 hr7 hc9 hf9
  go_wp2_with fail
  refine (putvar_any none 0 [] 300 _ (Rd.nil _ _) (by decide) (by decide) (by decide)).mono ?_
  rintro e w8 ⟨v8, rfl, ho8, hx8⟩
  obtain ⟨A8, c8, rfl, hr8⟩ := ho8.bytes
  have e8 : [] ++ vb 300 = [172, 2] := by decide
  rw [e8] at hr8 ⊢
  have k8 := conv23 hr8 2 c8 rfl (s := ⟨#[172, 2]⟩) rfl
  have HX8 := hide hx8
  clear ho8 hx8 hr8 e8
  go_wp2_with fail
  refine (fit_any 128 8 true _ (by decide) (by decide)).mono ?_
  rintro e w9 ⟨rfl, rfl⟩
  rw [show fitE 128 8 true = 7 by decide, show fitV 128 8 true = 0 by decide]
  go_wp2_with fail
  refine (fit_any (-1) 8 false _ (by decide) (by decide)).mono ?_
  rintro e wa ⟨rfl, rfl⟩
  rw [show fitE (-1) 8 false = 7 by decide, show fitV (-1) 8 false = 0 by decide]
  go_wp2_with fail
  refine (widen_any 255 8 true _ (by decide) (by decide)).mono ?_
  rintro e wa ⟨rfl, rfl⟩
  rw [show widE 255 8 true = 0 by decide, show widV 255 8 true = -1 by decide]
  go_wp2_with fail
  refine (widen_any 255 8 false _ (by decide) (by decide)).mono ?_
  rintro e wa ⟨rfl, rfl⟩
  rw [show widE 255 8 false = 0 by decide, show widV 255 8 false = 255 by decide]
  go_wp2_with fail
  refine (widen_any 256 8 true _ (by decide) (by decide)).mono ?_
  rintro e wa ⟨rfl, rfl⟩
  rw [show widE 256 8 true = 7 by decide, show widV 256 8 true = 0 by decide]
  go_wp2_with fail
  refine (field_any 180 2 4 _ (by decide) (by decide)).mono ?_
  rintro e wa ⟨rfl, r1, rfl⟩
  rw [show fldV 180 2 4 = 13 by decide, show fieldE 2 4 = 0 by decide]
  go_wp2_with fail
  refine (with_any 180 2 4 1 _ (by decide) (by decide) (by decide) (by decide)).mono ?_
  rintro e wa ⟨rfl, r2, rfl⟩
  rw [show withV 180 2 4 1 = 132 by decide, show withE 180 2 4 1 = 0 by decide]
  go_wp2_with fail
  refine (shift_any 3 61 _ (by decide) (by decide) (by decide) (by decide)).mono ?_
  rintro e wa ⟨rfl, r3, rfl⟩
  rw [show shiftV 3 61 = 6917529027641081856 by decide]
  go_wp2_with fail
  refine (shift_any 3 62 _ (by decide) (by decide) (by decide) (by decide)).mono ?_
  rintro e wa ⟨rfl, r4, rfl⟩
  rw [show shiftV 3 62 = 9223372036854775807 by decide]
  go_wp2_with fail
  refine (shift_any (-3) 64 _ (by decide) (by decide) (by decide) (by decide)).mono ?_
  rintro e wa ⟨rfl, r5, rfl⟩
  rw [show shiftV (-3) 64 = -9223372036854775808 by decide]
  go_wp2_with fail
  refine (zig_any (-1) _ (by decide) (by decide)).mono ?_
  rintro e wa ⟨rfl, rfl⟩
  rw [show zig (-1) = 1 by decide]
  go_wp2_with fail
  refine (zig_any 2 _ (by decide) (by decide)).mono ?_
  rintro e wa ⟨rfl, rfl⟩
  rw [show zig 2 = 4 by decide]
  go_wp2_with fail
  refine (zag_any 3 _ (by decide) (by decide)).mono ?_
  rintro e wa ⟨rfl, rfl⟩
  rw [show zag 3 = -2 by decide]
  go_wp2_with fail
  refine (awake_any _).mono ?_
  rintro e wz ⟨rfl, hxz⟩
  have HXZ := hide hxz
  clear hxz
  go_wp2_with fail
  go_ret
  have E6 := HX1.out.trans (HX2.out.trans (HX3.out.trans (HX4.out.trans (HX5.out.trans HX6.out))))
  have hsz : w.heap.size ≤ w5.heap.size := Nat.le_trans HX1.out.size (Nat.le_trans HX2.out.size (Nat.le_trans HX3.out.size (Nat.le_trans HX4.out.size HX5.out.size)))
  refine ⟨rfl, ?_⟩
  have E7 : Ext w (w6.setCell ⟨w5.heap.size, 9, none⟩ (.int .u8 2)) := Below.setCell E6 hsz _
  exact E7.trans (HX7.out.trans (HX8.out.trans (((Ext.refl _).drewN _).trans HXZ.out)))
end Go.Proofs.Yteebnoegeoenbaa
