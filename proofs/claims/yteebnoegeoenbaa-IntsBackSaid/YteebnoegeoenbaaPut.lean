/- The walk of ints.Put where the number fits: the bytes of the number stand behind those that came in (at most 1000 of them). -/
import Derived.Test.YteebnoegeoenbaaPut2
namespace Go.Proofs.Yteebnoegeoenbaa
open Go.RowKit Go.Gr
set_option linter.unusedVariables false
set_option maxHeartbeats 2000000 in
theorem put_ok (A : Option Addr) (c : Nat) (l : List Int) (n : Int) (k : Nat) (w : World) (hr : Rd w A (byt l)) (hl : l.length ≤ 1000) (h0 : 0 ≤ n) (hk1 : 1 ≤ k) (hk : k ≤ 8) (h1 : n < 256 ^ k) :
    Calls Try.prog 12 #[.slice A l.length c, .int .u64 n, .int .i64 k] w fun e w' => ∃ v, e = .returned (.tuple #[v, .int .i64 0]) ∧ Own w.heap.size w' 5 v (byt (l ++ be k n)) ∧ Ext w w' := by
  obtain ⟨i0, hi, hz0, hz1, hz2⟩ := info_parts info5
  have HR := hide hr
  clear hr
  rcases (show k = 1 ∨ k = 2 ∨ k = 3 ∨ k = 4 ∨ k = 5 ∨ k = 6 ∨ k = 7 ∨ k = 8 by omega) with rfl | rfl | rfl | rfl | rfl | rfl | rfl | rfl
  all_goals
    simp only [Int.reducePow] at h1
    clear hk1 hk
    go_enter Try.func12, Try.ntmps12
    go_wp2_with (first
      | (go_at_call 41; refine (top_any _ _ (by omega) (by omega)).mono ?_; rintro e w1 ⟨rfl, rfl⟩)
      | (at_make; refine wpList_make0 rfl _ _ 23 rfl 5 i0 (.int .u8 0) 1 Try.underlying23 hi hz0 hz1 hz2 rfl rfl (by omega) (by omega) (by omega) ?_; intro v1 w1 ho hb; have HO := hide ho; have HX := hide hb; clear ho hb)
      | (at_builtin; refine wpList_app rfl (.tmp 26) (.tmp 27) 23 rfl 5 i0 (.int .u8 0) 1 Try.underlying23 hi hz0 hz1 hz2 rfl rfl HO.out rfl (byt_length l).symm (HR.out.ext HX.out) (byt_one l) (by simp; omega) (by omega) HX.out.size ?_; intro v1 w1 ho hb _; have HO := hide ho; have HX := hide (HX.out.trans hb); clear ho hb)
      | (at_builtin; refine wpList_push rfl _ _ 23 rfl 5 i0 (.int .u8 0) 1 Try.underlying23 hi hz0 hz1 hz2 rfl rfl HO.out rfl rfl (by simp; omega) (by omega) HX.out.size ?_; intro v1 w1 ho hb _; have HO := hide ho; have HX := hide (HX.out.trans hb); clear ho hb))
    go_ret2
    refine ⟨_, rfl, Eq.mp (congrArg (Own w.heap.size _ 5 v1) ?_) HO.out, HX.out⟩
    clear HO HX HR
    simp [byt, be]
    try omega
end Go.Proofs.Yteebnoegeoenbaa
