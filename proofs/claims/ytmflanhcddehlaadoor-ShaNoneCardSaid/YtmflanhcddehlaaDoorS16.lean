/- No hash: nil, or one that New did not make: each method says so. -/
import Derived.Test.YtmflanhcddehlaaDoorS15
namespace Go.Proofs.YtmflanhcddehlaaDoor
open Go.RowKit Go.Gr
set_option linter.unusedVariables false
def NoHash (w : World) (v : Value) : Prop := v = .pointer none ∨ ∃ g, v = .pointer (some ⟨g, 0, none⟩) ∧ w.cell? ⟨g, 73, none⟩ = some (.bool false)
theorem NoHash.ext {w w' : World} {v : Value} (h : NoHash w v) (k : Ext w w') : NoHash w' v := by
  rcases h with h | ⟨g, h, hc⟩
  · exact .inl h
  · exact .inr ⟨g, h, (Below.cell k (cell_lt hc)).trans hc⟩
theorem there_no (v : Value) (w : World) (h : NoHash w v) : Calls Tryd.prog 41 #[v] w fun e w' => e = .returned (.bool false) ∧ w = w' := by
  rcases h with rfl | ⟨g, rfl, c⟩
  all_goals
    go_enter Tryd.func41, Tryd.ntmps41
    go_wp2_with fail
    go_ret
    exact ⟨rfl, rfl⟩
theorem len_no (v : Value) (w : World) (h : NoHash w v) : Calls Tryd.prog 29 #[v] w fun e w' => e = .returned (.tuple #[.int .i64 0, .int .i64 1]) ∧ w = w' := by
  have HH := hide (there_no v w h)
  clear h
  go_enter Tryd.func29, Tryd.ntmps29
  go_wp2_with fail
  (with_reducible refine HH.out.mono ?_)
  rintro e w1 ⟨rfl, rfl⟩
  go_wp2_with fail
  go_ret2
  exact ⟨rfl, rfl⟩
theorem copy_no (v : Value) (w : World) (h : NoHash w v) : Calls Tryd.prog 31 #[v] w fun e w' => e = .returned (.tuple #[.pointer none, .int .i64 1]) ∧ w = w' := by
  have HH := hide (there_no v w h)
  clear h
  go_enter Tryd.func31, Tryd.ntmps31
  go_wp2_with fail
  (with_reducible refine HH.out.mono ?_)
  rintro e w1 ⟨rfl, rfl⟩
  go_wp2_with fail
  go_ret2
  exact ⟨rfl, rfl⟩
theorem write_no (v b : Value) (w : World) (h : NoHash w v) : Calls Tryd.prog 27 #[v, b] w fun e w' => e = .returned (.int .i64 1) ∧ w = w' := by
  have HH := hide (there_no v w h)
  clear h
  go_enter Tryd.func27, Tryd.ntmps27
  go_wp2_with fail
  (with_reducible refine HH.out.mono ?_)
  rintro e w1 ⟨rfl, rfl⟩
  go_wp2_with fail
  go_ret
  exact ⟨rfl, rfl⟩
theorem reset_no (v : Value) (w : World) (h : NoHash w v) : Calls Tryd.prog 30 #[v] w fun e w' => e = .returned (.int .i64 1) ∧ w = w' := by
  have HH := hide (there_no v w h)
  clear h
  go_enter Tryd.func30, Tryd.ntmps30
  go_wp2_with fail
  (with_reducible refine HH.out.mono ?_)
  rintro e w1 ⟨rfl, rfl⟩
  go_wp2_with fail
  go_ret
  exact ⟨rfl, rfl⟩
theorem hsum_no (v : Value) (w : World) (h : NoHash w v) : Calls Tryd.prog 28 #[v] w fun e w' => e = .returned (.tuple #[.agg (Z8 32).toArray, .int .i64 1]) ∧ Ext w w' := by
  have HX0 : Hid (Ext w ((w.alloc (.cells (Z8 32).toArray 32)).alloc (.cells (Z8 32).toArray 32))) := hide (((Ext.refl w).alloc _).alloc _)
  have HB0 : Hid (Blk ((w.alloc (.cells (Z8 32).toArray 32)).alloc (.cells (Z8 32).toArray 32)) w.heap.size 32 (Z8 32)) := hide ((Blk.new _ _ _).alloc _)
  have HB1 : Hid (Blk ((w.alloc (.cells (Z8 32).toArray 32)).alloc (.cells (Z8 32).toArray 32)) (w.heap.size + 1) 32 (Z8 32)) := hide (Blk.new' _ _ (by simp))
  have HH := hide (copy_no v _ (h.ext HX0.out))
  clear h
  go_enter Tryd.func28, Tryd.ntmps28
  go_wp2_with fail
  refine HH.out.mono ?_
  rintro e w1 ⟨rfl, rfl⟩
  have hone : ∀ u ∈ Z8 32, u.oneCell' = true := by decide
  go_wp2_with (first
    | (refine wpList_loadB rfl 32 (.tmp 4) rfl HB1.out rfl _ Tryd.underlying32 rfl (by kernel_rfl) ?_)
    | (refine wpList_storeB rfl 32 (.tmp 2) (.tmp 16) rfl HB0.out rfl rfl (by kernel_rfl) rfl hone ?_))
  refine bodyPost_ret (v := .tuple #[.agg (Z8 32).toArray, .int .i64 1]) (results_row_tmp rfl _ _ w.heap.size 32 (Z8 32).toArray (0, 0) _ rfl (HB0.out.setRow _) Tryd.underlying32 rfl (by kernel_rfl) rfl) rfl ⟨rfl, Below.setRow HX0.out (Nat.le_refl _) _⟩
end Go.Proofs.YtmflanhcddehlaaDoor
