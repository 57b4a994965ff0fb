/- The law ShaNone walked. -/
import Derived.Test.YtmflanhcddehlaaDoorS16
import Derived.Test.YtmflanhcddehlaaDoorEqs
import Derived.Test.YtmflanhcddehlaaDoorFlat
import Derived.Deep.MidRow
namespace Go.Proofs.YtmflanhcddehlaaDoor
open Go.RowKit Go.Gr
set_option linter.unusedVariables false
theorem neqZ (w : World) : (binOp .neq 32 (.agg (Z8 32).toArray) (.agg (Z8 32).toArray)).run Tryd.prog w = .ok (.bool false) w := by
  have := run_neq_ints (P := Tryd.prog) Tryd.underlying32 Tryd.underlying5 (by kernel_rfl) (by kernel_rfl) (List.replicate 32 0) (List.replicate 32 0) (by rw [List.length_replicate]) (by rw [List.length_replicate]) w
  rw [beq_self_eq_true] at this
  exact this
theorem eqZ (w : World) : (Op.equalIn 10000 32 (.agg (Z8 32).toArray) (.agg #[.int .u8 0, .int .u8 0, .int .u8 0, .int .u8 0, .int .u8 0, .int .u8 0, .int .u8 0, .int .u8 0, .int .u8 0, .int .u8 0, .int .u8 0, .int .u8 0, .int .u8 0, .int .u8 0, .int .u8 0, .int .u8 0, .int .u8 0, .int .u8 0, .int .u8 0, .int .u8 0, .int .u8 0, .int .u8 0, .int .u8 0, .int .u8 0, .int .u8 0, .int .u8 0, .int .u8 0, .int .u8 0, .int .u8 0, .int .u8 0, .int .u8 0, .int .u8 0])).run Tryd.prog w = .ok true w := by
  have := run_equalIn_ints (P := Tryd.prog) Tryd.underlying32 Tryd.underlying5 (by kernel_rfl) (by kernel_rfl) (List.replicate 32 0) (List.replicate 32 0) (by rw [List.length_replicate]) (by rw [List.length_replicate]) 9998 w
  rw [beq_self_eq_true] at this
  exact this
set_option maxHeartbeats 2000000 in
theorem none_law (w : World) (hl : Laid w) (b : Value) (hb : LfOk Tryd.prog w (.slice 5) b) : Calls Tryd.prog 10 #[b] w fun e w' => e = .returned (.bool true) ∧ Ext w w' := by
  have HL := hide hl
  have hq := eqZ
  clear hl hb
  go_enter Tryd.func10, Tryd.ntmps10
  go_wp2_with fail
  go_loopw [3] (fun i wr => ∃ k : Nat, i = .int .i64 k ∧ k ≤ 2 ∧ Hid (Ext w wr)) (fun i _ => 2 - (intOf i).toNat)
  case atStart => exact ⟨0, rfl, by omega, hide (Ext.refl _)⟩
  case round =>
    obtain ⟨k, rfl, hk, HX⟩ := hrel
    rcases (show k = 2 ∨ k = 0 ∨ k = 1 by omega) with rfl | rfl | rfl
    · rw [show ((2 : Nat) : Int) = 2 from rfl]
      have HS := hide (shown_any wr (HL.out.ext HX.out))
      go_wp2_with fail
      (with_reducible refine HS.out.mono ?_)
      rintro e w1 ⟨rfl, hx⟩
      go_wp2_with fail
      go_ret
      exact ⟨rfl, HX.out.trans hx⟩
    · rw [show ((0 : Nat) : Int) = 0 from rfl]
      have HN : Hid (NoHash wr (.pointer none)) := hide (.inl rfl)
      go_wp2_with fail
      (with_reducible refine (hsum_no _ _ HN.out).mono ?_)
      rintro e w1 ⟨rfl, hx1⟩
      have HN1 : Hid (NoHash w1 (.pointer none)) := hide (.inl rfl)
      have HX1 : Hid (Ext w w1) := hide (HX.out.trans hx1)
      have HBn : Hid (Blk (w1.alloc (.cells (Z8 32).toArray 32)) w1.heap.size 32 (Z8 32)) := hide (Blk.new _ _ _)
      have hone : ∀ u ∈ Z8 32, u.oneCell' = true := by decide
      clear hx1
      go_wp2_with (refine wpList_storeB rfl 32 (.tmp 5) (.tmp 22) rfl HBn.out rfl rfl (by kernel_rfl) rfl hone ?_)
      obtain ⟨w2, hw2⟩ : ∃ w2, (w1.alloc (.cells (Z8 32).toArray 32)).setRow w1.heap.size (Z8 32).toArray = w2 := ⟨_, rfl⟩
      have HB2 : Hid (Blk w2 w1.heap.size 32 (Z8 32)) := by rw [← hw2]; exact hide (HBn.out.setRow _)
      have HX2 : Hid (Ext w w2) := by rw [← hw2]; exact hide (Below.setRow (HX1.out.alloc _) HX1.out.size _)
      have HY2 : Hid (Ext w1 w2) := by rw [← hw2]; exact hide (Below.setRow ((Ext.refl w1).alloc _) (Nat.le_refl _) _)
      have HN2 : Hid (NoHash w2 (.pointer none)) := hide (HN1.out.ext HY2.out)
      rw [show (w1.alloc (.cells #[Value.int .u8 0, Value.int .u8 0, Value.int .u8 0, Value.int .u8 0, Value.int .u8 0, Value.int .u8 0, Value.int .u8 0, Value.int .u8 0, Value.int .u8 0, Value.int .u8 0, Value.int .u8 0, Value.int .u8 0, Value.int .u8 0, Value.int .u8 0, Value.int .u8 0, Value.int .u8 0, Value.int .u8 0, Value.int .u8 0, Value.int .u8 0, Value.int .u8 0, Value.int .u8 0, Value.int .u8 0, Value.int .u8 0, Value.int .u8 0, Value.int .u8 0, Value.int .u8 0, Value.int .u8 0, Value.int .u8 0, Value.int .u8 0, Value.int .u8 0, Value.int .u8 0, Value.int .u8 0] 32)).setRow w1.heap.size (Z8 32).toArray = w2 from hw2]
      clear hw2 HBn
      (with_reducible refine (len_no _ _ HN2.out).mono ?_)
      rintro e w3 ⟨rfl, rfl⟩
      go_wp2_with fail
      (with_reducible refine (copy_no _ _ HN2.out).mono ?_)
      rintro e w3 ⟨rfl, rfl⟩
      go_wp2_with fail
      (with_reducible refine (write_no _ _ _ HN2.out).mono ?_)
      rintro e w3 ⟨rfl, rfl⟩
      go_wp2_with fail
      (with_reducible refine (reset_no _ _ HN2.out).mono ?_)
      rintro e w3 ⟨rfl, rfl⟩
      go_wp2_with (first
        | (refine wpList_loadBG rfl 32 (.tmp 5) rfl HB2.out rfl _ Tryd.underlying32 rfl (by kernel_rfl) ?_)
        | (refine wpList_buildTo rfl 32 _ rfl (some 57) rfl (Z8 32).toArray (by kernel_rfl) ?_))
      go_roundw
      case rel => exact ⟨1, by go_num, by omega, HX2⟩
      case measure => simp [intOf]
    · rw [show ((1 : Nat) : Int) = 1 from rfl]
      have HBz : Hid (Blk (wr.alloc (.cells zh.toArray 67)) wr.heap.size 67 zh) := hide (Blk.new _ _ _)
      have HXz : Hid (Ext w (wr.alloc (.cells zh.toArray 67))) := hide (HX.out.alloc _)
      have HN : Hid (NoHash (wr.alloc (.cells zh.toArray 67)) (.pointer (some ⟨wr.heap.size, 0, none⟩))) := hide (.inr ⟨_, rfl, (HBz.out.cell 73).trans rfl⟩)
      go_wp2_with (refine wpList_buildTo rfl 67 _ rfl (some 17) rfl zh.toArray (by kernel_rfl) ?_)
      (with_reducible refine (hsum_no _ _ HN.out).mono ?_)
      rintro e w1 ⟨rfl, hx1⟩
      have HN1 : Hid (NoHash w1 (.pointer (some ⟨wr.heap.size, 0, none⟩))) := hide (HN.out.ext hx1)
      have HX1 : Hid (Ext w w1) := hide (HXz.out.trans hx1)
      have HBn : Hid (Blk (w1.alloc (.cells (Z8 32).toArray 32)) w1.heap.size 32 (Z8 32)) := hide (Blk.new _ _ _)
      have hone : ∀ u ∈ Z8 32, u.oneCell' = true := by decide
      clear hx1
      go_wp2_with (refine wpList_storeB rfl 32 (.tmp 5) (.tmp 22) rfl HBn.out rfl rfl (by kernel_rfl) rfl hone ?_)
      obtain ⟨w2, hw2⟩ : ∃ w2, (w1.alloc (.cells (Z8 32).toArray 32)).setRow w1.heap.size (Z8 32).toArray = w2 := ⟨_, rfl⟩
      have HB2 : Hid (Blk w2 w1.heap.size 32 (Z8 32)) := by rw [← hw2]; exact hide (HBn.out.setRow _)
      have HX2 : Hid (Ext w w2) := by rw [← hw2]; exact hide (Below.setRow (HX1.out.alloc _) HX1.out.size _)
      have HY2 : Hid (Ext w1 w2) := by rw [← hw2]; exact hide (Below.setRow ((Ext.refl w1).alloc _) (Nat.le_refl _) _)
      have HN2 : Hid (NoHash w2 (.pointer (some ⟨wr.heap.size, 0, none⟩))) := hide (HN1.out.ext HY2.out)
      rw [show (w1.alloc (.cells #[Value.int .u8 0, Value.int .u8 0, Value.int .u8 0, Value.int .u8 0, Value.int .u8 0, Value.int .u8 0, Value.int .u8 0, Value.int .u8 0, Value.int .u8 0, Value.int .u8 0, Value.int .u8 0, Value.int .u8 0, Value.int .u8 0, Value.int .u8 0, Value.int .u8 0, Value.int .u8 0, Value.int .u8 0, Value.int .u8 0, Value.int .u8 0, Value.int .u8 0, Value.int .u8 0, Value.int .u8 0, Value.int .u8 0, Value.int .u8 0, Value.int .u8 0, Value.int .u8 0, Value.int .u8 0, Value.int .u8 0, Value.int .u8 0, Value.int .u8 0, Value.int .u8 0, Value.int .u8 0] 32)).setRow w1.heap.size (Z8 32).toArray = w2 from hw2]
      clear hw2 HBn
      (with_reducible refine (len_no _ _ HN2.out).mono ?_)
      rintro e w3 ⟨rfl, rfl⟩
      go_wp2_with fail
      (with_reducible refine (copy_no _ _ HN2.out).mono ?_)
      rintro e w3 ⟨rfl, rfl⟩
      go_wp2_with fail
      (with_reducible refine (write_no _ _ _ HN2.out).mono ?_)
      rintro e w3 ⟨rfl, rfl⟩
      go_wp2_with fail
      (with_reducible refine (reset_no _ _ HN2.out).mono ?_)
      rintro e w3 ⟨rfl, rfl⟩
      go_wp2_with (first
        | (refine wpList_loadBG rfl 32 (.tmp 5) rfl HB2.out rfl _ Tryd.underlying32 rfl (by kernel_rfl) ?_)
        | (refine wpList_buildTo rfl 32 _ rfl (some 57) rfl (Z8 32).toArray (by kernel_rfl) ?_))
      go_roundw
      case rel => exact ⟨2, by go_num, by omega, HX2⟩
      case measure => simp [intOf]
end Go.Proofs.YtmflanhcddehlaaDoor
