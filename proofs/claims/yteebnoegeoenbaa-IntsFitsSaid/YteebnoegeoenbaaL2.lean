/- The walks of the laws IntsFits and IntsBits: true for every input, and nothing that was there has changed. -/
import Derived.Test.YteebnoegeoenbaaAw
import Derived.Test.YteebnoegeoenbaaFlat
namespace Go.Proofs.Yteebnoegeoenbaa
open Go.RowKit Go.Gr
set_option linter.unusedVariables false
set_option maxHeartbeats 800000 in
theorem fits_law (w : World) (v : Value) (hv : ∃ cs, v = .agg cs ∧ Lvs Try.prog w [.int .i64, .int .u64, .int .i64, .bool] cs.toList) :
    Calls Try.prog 5 #[v] w fun e w' => e = .returned (.bool true) ∧ Ext w w' := by
  obtain ⟨⟨cs⟩, rfl, hL0⟩ := hv
  obtain ⟨v1, U, hU, ⟨n, rfl, hn⟩, hL1⟩ := hL0.cons
  obtain ⟨v2, U2, rfl, ⟨u, rfl, hu⟩, hL2⟩ := hL1.cons
  obtain ⟨v3, U3, rfl, ⟨b, rfl, hb⟩, hL3⟩ := hL2.cons
  obtain ⟨v4, U4, rfl, ⟨s, rfl⟩, hL4⟩ := hL3.cons
  obtain rfl := hL4.nil_
  simp only at hU
  subst hU
  obtain ⟨n1, n2⟩ := wf_i64 hn
  obtain ⟨u1, u2⟩ := wf_u64 hu
  obtain ⟨b1, b2⟩ := wf_i64 hb
  clear hn hu hb
  go_enter Try.func5, Try.ntmps5
  go_wp2_with (first
    | (go_at_call 22; refine (fit_any _ _ _ _ n1 n2).mono ?_; rintro e w1 ⟨rfl, rfl⟩)
    | (go_at_call 23; refine (rfit_any _ _ _ _ n1 n2).mono ?_; rintro e w1 ⟨rfl, rfl⟩)
    | (go_at_call 24; refine (widen_any _ _ _ _ u1 u2).mono ?_; rintro e w1 ⟨rfl, rfl⟩)
    | (go_at_call 25; refine (rwiden_any _ _ _ _ u1 u2).mono ?_; rintro e w1 ⟨rfl, rfl⟩)
    | (go_at_call 14; refine (awake_any _).mono ?_; rintro e w5 ⟨rfl, hx5⟩; have HX5 := hide hx5; clear hx5))
  go_ret
  exact ⟨rfl, ((Ext.refl _).alloc _).trans HX5.out⟩
set_option maxHeartbeats 800000 in
theorem bits_law (w : World) (v : Value) (hv : ∃ cs, v = .agg cs ∧ Lvs Try.prog w [.int .u64, .int .u64, .int .i64, .int .i64, .int .i64] cs.toList) :
    Calls Try.prog 7 #[v] w fun e w' => e = .returned (.bool true) ∧ Ext w w' := by
  obtain ⟨⟨cs⟩, rfl, hL0⟩ := hv
  obtain ⟨v1, U, hU, ⟨n, rfl, hn⟩, hL1⟩ := hL0.cons
  obtain ⟨v2, U2, rfl, ⟨x, rfl, hx⟩, hL2⟩ := hL1.cons
  obtain ⟨v3, U3, rfl, ⟨a, rfl, ha⟩, hL3⟩ := hL2.cons
  obtain ⟨v4, U4, rfl, ⟨m, rfl, hm⟩, hL4⟩ := hL3.cons
  obtain ⟨v5, U5, rfl, ⟨k, rfl, hk⟩, hL5⟩ := hL4.cons
  obtain rfl := hL5.nil_
  simp only at hU
  subst hU
  obtain ⟨n1, n2⟩ := wf_u64 hn
  obtain ⟨x1, x2⟩ := wf_u64 hx
  obtain ⟨a1, a2⟩ := wf_i64 ha
  obtain ⟨m1, m2⟩ := wf_i64 hm
  obtain ⟨k1, k2⟩ := wf_i64 hk
  clear hn hx ha hm hk
  go_enter Try.func7, Try.ntmps7
  go_wp2_with (first
    | (go_at_call 29; refine (turn_any _ _ _ _ n1 n2 k1 k2).mono ?_; rintro e w1 ⟨rfl, j1, rfl⟩)
    | (go_at_call 30; refine (rturn_any _ _ _ _ n1 n2 k1 k2).mono ?_; rintro e w1 ⟨rfl, rfl⟩)
    | (go_at_call 31; refine (field_any _ _ _ _ n1 n2).mono ?_; rintro e w1 ⟨rfl, j2, rfl⟩)
    | (go_at_call 32; refine (rfield_any _ _ _ _ n1 n2).mono ?_; rintro e w1 ⟨rfl, rfl⟩)
    | (go_at_call 33; refine (with_any _ _ _ _ _ n1 n2 x1 x2).mono ?_; rintro e w1 ⟨rfl, j3, rfl⟩)
    | (go_at_call 34; refine (rwith_any _ _ _ _ _ n1 n2 x1 x2).mono ?_; rintro e w1 ⟨rfl, rfl⟩)
    | (go_at_call 14; refine (awake_any _).mono ?_; rintro e w5 ⟨rfl, hx5⟩; have HX5 := hide hx5; clear hx5))
  go_ret
  exact ⟨rfl, (((Ext.refl _).alloc _).drewN _).trans HX5.out⟩
end Go.Proofs.Yteebnoegeoenbaa
