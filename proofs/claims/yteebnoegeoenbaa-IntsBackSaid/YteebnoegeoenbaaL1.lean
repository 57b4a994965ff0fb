/- The walks of the laws IntsPuts and IntsSums: true for every input, and nothing that was there has changed. -/
import Derived.Test.YteebnoegeoenbaaAw
import Derived.Test.YteebnoegeoenbaaFlat
namespace Go.Proofs.Yteebnoegeoenbaa
open Go.RowKit Go.Gr
set_option linter.unusedVariables false
theorem bytes_arg {w : World} {v : Value} (h : LfOk Try.prog w (.slice 5) v) : ∃ A l c, v = .slice A l.length c ∧ Rd w A (byt l) ∧ isB l ∧ l.length ≤ c := by
  obtain ⟨A, l, c, rfl, hr, hw, hlc, _⟩ := slice_ints Try.underlying5 (by kernel_rfl) h
  exact ⟨A, l, c, rfl, hr, fun x hx => wf_u8 (hw x hx), hlc⟩
set_option maxHeartbeats 800000 in
theorem puts_law (w : World) (v : Value) (hv : LfOk Try.prog w (.slice 5) v) (n : Int) (hn : 0 ≤ n ∧ n < 18446744073709551616) (wd : Int) (hwd : -9223372036854775808 ≤ wd ∧ wd ≤ 9223372036854775807) :
    Calls Try.prog 6 #[v, .int .u64 n, .int .i64 wd] w fun e w' => e = .returned (.bool true) ∧ Ext w w' := by
  obtain ⟨A, l, c, rfl, hr, hb, hlc⟩ := bytes_arg hv
  have HR := hide hr
  have HB := hide hb
  clear hr hb hv
  by_cases hl : l.length ≤ 100
  · go_enter Try.func6, Try.ntmps6
    go_wp2_with (first
      | (go_at_call 12; refine (put_any _ _ _ _ _ _ HR.out (by omega) hn.1 hn.2).mono ?_; rintro e w1 ⟨v1, rfl, ho1, hx1⟩; obtain ⟨A1, c1, rfl, hr1⟩ := ho1.bytes; have HR1 := hide hr1; have HX1 := hide hx1; clear ho1 hx1 hr1)
      | (go_at_call 26; refine (rput_any _ _ _ _ _ _ (HR.out.ext HX1.out) (by omega) hn.1 hn.2).mono ?_; rintro e w2 ⟨v2, rfl, ho2, hx2⟩; obtain ⟨A2, c2, rfl, hr2⟩ := ho2.bytes; have HR2 := hide hr2; have HX2 := hide hx2; clear ho2 hx2 hr2)
      | (go_at_call 27; refine (get_any _ _ _ _ _ (HR.out.ext (HX1.out.trans HX2.out)) HB.out (by omega) hlc).mono ?_; rintro e w3 ⟨A3, c3, rfl, hr3, hx3⟩; have HR3 := hide hr3; have HX3 := hide hx3; clear hr3 hx3)
      | (go_at_call 28; refine (rget_any _ _ _ _ _ (HR.out.ext (HX1.out.trans (HX2.out.trans HX3.out))) HB.out (by omega) hlc).mono ?_; rintro e w4 ⟨A4, c4, rfl, hr4, hx4⟩; have HX4 := hide hx4; have k1 := conv23 (HR1.out.ext (HX2.out.trans (HX3.out.trans HX4.out))) _ c1 rfl rfl; have k2 := conv23 (HR2.out.ext (HX3.out.trans HX4.out)) _ c2 rfl rfl; have k3 := conv23 (HR3.out.ext (HX4.out)) _ c3 rfl rfl; have k4 := conv23 hr4 _ c4 rfl rfl; clear hr4 hx4)
      | (go_at_call 14; refine (awake_any _).mono ?_; rintro e w5 ⟨rfl, hx5⟩; have HX5 := hide hx5; clear hx5))
    go_ret
    exact ⟨rfl, HX1.out.trans (HX2.out.trans (HX3.out.trans (HX4.out.trans HX5.out)))⟩
  · go_enter Try.func6, Try.ntmps6
    go_wp2_with (go_at_call 14; refine (awake_any _).mono ?_; rintro e w1 ⟨rfl, hx1⟩; have HX1 := hide hx1; clear hx1)
    go_ret
    exact ⟨rfl, HX1.out⟩
theorem sums_law (w : World) (a : Int) (ha : -9223372036854775808 ≤ a ∧ a ≤ 9223372036854775807) (b : Int) (hb : -9223372036854775808 ≤ b ∧ b ≤ 9223372036854775807) (k : Int) (hk : -9223372036854775808 ≤ k ∧ k ≤ 9223372036854775807) :
    Calls Try.prog 10 #[.int .i64 a, .int .i64 b, .int .i64 k] w fun e w' => e = .returned (.bool true) ∧ Ext w w' := by
  obtain ⟨a1, a2⟩ := ha
  obtain ⟨b1, b2⟩ := hb
  obtain ⟨k1, k2⟩ := hk
  go_enter Try.func10, Try.ntmps10
  go_wp2_with (first
    | (go_at_call 35; refine (add_any _ _ _ a1 a2 b1 b2).mono ?_; rintro e w1 ⟨rfl, rfl⟩)
    | (go_at_call 36; refine (radd_any _ _ _ a1 a2 b1 b2).mono ?_; rintro e w1 ⟨rfl, rfl⟩)
    | (go_at_call 37; refine (mul_any _ _ _ a1 a2 b1 b2).mono ?_; rintro e w1 ⟨rfl, rfl⟩)
    | (go_at_call 38; refine (rmul_any _ _ _ a1 a2 b1 b2).mono ?_; rintro e w1 ⟨rfl, rfl⟩)
    | (go_at_call 39; refine (shift_any _ _ _ a1 a2 k1 k2).mono ?_; rintro e w1 ⟨rfl, n1, rfl⟩)
    | (go_at_call 40; refine (rshift_any _ _ _ a1 a2 k1 k2).mono ?_; rintro e w1 ⟨rfl, rfl⟩)
    | (go_at_call 14; refine (awake_any _).mono ?_; rintro e w5 ⟨rfl, hx5⟩; have HX5 := hide hx5; clear hx5))
  go_ret
  exact ⟨rfl, ((Ext.refl _).drewN _).trans HX5.out⟩
end Go.Proofs.Yteebnoegeoenbaa
