/- The walk of the law IntsBack, of whatever arguments. -/
import Derived.Test.YteebnoegeoenbaaB2
namespace Go.Proofs.Yteebnoegeoenbaa
open Go.RowKit Go.Gr
set_option linter.unusedVariables false
set_option maxRecDepth 20000 in
theorem back_law (w : World) (v : Value) (hv : LfOk Try.prog w (.slice 5) v) (x : Value) (hx : ∃ cs, x = .agg cs ∧ Lvs Try.prog w [.int .i64, .int .u64, .int .i64, .bool] cs.toList) :
    Calls Try.prog 9 #[v, x] w fun e w' => e = .returned (.bool true) ∧ Ext w w' := by
  obtain ⟨⟨cs⟩, rfl, hL0⟩ := hx
  obtain ⟨v1, U, hU, ⟨n, rfl, hn⟩, hL1⟩ := hL0.cons
  obtain ⟨v2, U2, rfl, ⟨u, rfl, hu⟩, hL2⟩ := hL1.cons
  obtain ⟨v3, U3, rfl, ⟨b, rfl, hb⟩, hL3⟩ := hL2.cons
  obtain ⟨v4, U4, rfl, ⟨s, rfl⟩, hL4⟩ := hL3.cons
  obtain rfl := hL4.nil_
  simp only at hU
  subst hU
  obtain ⟨n1, n2⟩ := wf_i64 hn
  obtain ⟨u1, u2⟩ := wf_u64 hu
  obtain ⟨b1, b2⟩ := wf_i64 hb
  obtain ⟨A, l, c, rfl, hr, hbb, hlc⟩ := bytes_arg hv
  by_cases hl : l.length ≤ 100
  · exact back_small w A l c hr hbb hlc hl n u b s n1 n2 u1 u2 b1 b2
  · clear hn hu hb hr hbb hv hL0 hL1 hL2 hL3 hL4
    go_enter Try.func9, Try.ntmps9
    go_wp2_with (go_at_call 14; refine (awake_any _).mono ?_; rintro e w1 ⟨rfl, hx1⟩; have HX1 := hide hx1; clear hx1)
    go_ret
    exact ⟨rfl, ((Ext.refl _).alloc _).trans HX1.out⟩
end Go.Proofs.Yteebnoegeoenbaa
