/- The walk of the law IntsVars: true for every input, and nothing that was there has changed. -/
import Derived.Test.YteebnoegeoenbaaL1
import Derived.Test.YteebnoegeoenbaaMono
namespace Go.Proofs.Yteebnoegeoenbaa
open Go.RowKit Go.Gr
set_option linter.unusedVariables false
attribute [local go_sem] rdOp rdAt rdUpon Cls
theorem Rd.drew {w : World} {A : Option Addr} {xs : List Value} (h : Rd w A xs) : Rd w.drew A xs := h
set_option maxHeartbeats 1600000 in
theorem vars_law (w : World) (v : Value) (hv : LfOk Try.prog w (.slice 5) v) (n : Int) (hn : 0 ≤ n ∧ n < 18446744073709551616) (m : Int) (hm : -9223372036854775808 ≤ m ∧ m ≤ 9223372036854775807) :
    Calls Try.prog 4 #[v, .int .u64 n, .int .i64 m] w fun e w' => e = .returned (.bool true) ∧ Ext w w' := by
  obtain ⟨A, l, c, rfl, hr, hb, hlc⟩ := bytes_arg hv
  obtain ⟨n1, n2⟩ := hn
  obtain ⟨m1, m2⟩ := hm
  have HR := hide hr
  have HB := hide hb
  clear hr hb hv
  by_cases hl : l.length ≤ 100
  · go_enter Try.func4, Try.ntmps4
    go_wp2_with (first
      | (go_at_call 15; refine (getvar_any _ _ _ _ HR.out HB.out (by omega) hlc).mono ?_; rintro e w1 ⟨A1, c1, rfl, hr1, hx1⟩; have HR1 := hide hr1; have HX1 := hide hx1; clear hr1 hx1)
      | (go_at_call 16; refine (rgetvar_any _ _ _ _ (HR.out.ext HX1.out) HB.out (by omega) hlc).mono ?_; rintro e w2 ⟨A2, c2, rfl, hr2, hx2⟩; have HR2 := hide hr2; have HX2 := hide hx2; clear hr2 hx2))
    have HC := hide (fun (x : World) (A : Option Addr) (l : List Int) (n c : Nat) (hr : Rd x A (byt l)) (hn : n = l.length) (p : Regrown) => conv23 (w := Sort.grow (redrawn x p.d) p.os) (hr.ext (below_regrown x p.d p.os)) n c hn (s := strOfNums l) rfl)
    have HR1' := hide (Rd.drew (HR1.out.ext HX2.out))
    have HR2' := hide (Rd.drew HR2.out)
    have k1 := HC.out _ _ _ (gvR l).length c1 HR1'.out rfl
    have k2 := HC.out _ _ _ (gvR l).length c2 HR2'.out rfl
    refine wp_region_mono [0, 1, 4, 5, 2, 3, 6, 7, 8, 9, 10, 11, 12, 13, 14, 15, 16, 17, 18, 19, 20, 21, 22, 23, 24, 25, 26, 27, 29, 28, 30, 31, 32, 33, 34, 36, 35, 37, 38, 39, 40, 41, 42, 43] (by kernel_rfl) (by kernel_rfl) (by kernel_rfl) (by kernel_rfl) ?_
    repeat (first
      | (refine wpM_rd rfl rfl (fun K hK => ?_); go_simp; refine hK _ ?_; clear hK K)
      | (refine wpM_ext rfl rfl (fun K hK => ?_); go_simp; go_at_call 13; refine (putvar_any _ _ _ _ _ (Rd.drew ((HR.out.ext HX1.out).ext HX2.out)) (by omega) n1 n2).mono ?_; rintro e w3 ⟨v3, rfl, ho3, hx3⟩; obtain ⟨A3, c3, rfl, hr3⟩ := ho3.bytes; have HR3 := hide hr3; have HX3 := hide hx3; have HR1 := hide (HR1'.out.ext hx3); have HR2 := hide (HR2'.out.ext hx3); have k3 := HC.out _ _ _ (l.length + (vb n).length) c3 hr3 (by simp); refine hK _ _ hx3 ?_; clear hK K ho3 hx3 hr3 k1 k2)
      | (refine wpM_ext rfl rfl (fun K hK => ?_); go_simp; go_at_call 17; refine (rputvar_any _ _ _ _ _ ((Rd.drew ((HR.out.ext HX1.out).ext HX2.out)).ext HX3.out) (by omega) n1 n2).mono ?_; rintro e w4 ⟨v4, rfl, ho4, hx4⟩; obtain ⟨A4, c4, rfl, hr4⟩ := ho4.bytes; have HR4 := hide hr4; have HX4 := hide hx4; have k4 := HC.out _ _ _ (l.length + (vb n).length) c4 hr4 (by simp); have k1 := HC.out _ _ _ (gvR l).length c1 (HR1.out.ext hx4) rfl; have k2 := HC.out _ _ _ (gvR l).length c2 (HR2.out.ext hx4) rfl; refine hK _ _ hx4 ?_; clear hK K ho4 hx4 hr4 k3)
      | (refine wpM_ext rfl rfl (fun K hK => ?_); go_simp; first | (go_at_call 18; refine (zig_any _ _ m1 m2).mono ?_; rintro e w5 ⟨rfl, rfl⟩; refine hK _ _ (Ext.refl _) ?_; clear hK K) | (go_at_call 19; refine (rzig_any _ _ m1 m2).mono ?_; rintro e w5 ⟨rfl, rfl⟩; refine hK _ _ (Ext.refl _) ?_; clear hK K) | (go_at_call 20; refine (zag_any _ _ n1 n2).mono ?_; rintro e w5 ⟨rfl, rfl⟩; refine hK _ _ (Ext.refl _) ?_; clear hK K) | (go_at_call 21; refine (rzag_any _ _ n1 n2).mono ?_; rintro e w5 ⟨rfl, rfl⟩; refine hK _ _ (Ext.refl _) ?_; clear hK K) | (go_at_call 14; refine (awake_any _).mono ?_; rintro e w5 ⟨rfl, hx5⟩; have HX5 := hide hx5; refine hK _ _ hx5 ?_; clear hK K hx5)))
    refine wpM_nil ?_
    go_wp2
    go_ret
    exact ⟨rfl, HX1.out.trans (HX2.out.trans ((Ext.refl _).drew.trans (HX3.out.trans (HX4.out.trans HX5.out))))⟩
  · go_enter Try.func4, Try.ntmps4
    go_wp2_with (go_at_call 14; refine (awake_any _).mono ?_; rintro e w1 ⟨rfl, hx1⟩; have HX1 := hide hx1; clear hx1)
    go_ret
    exact ⟨rfl, HX1.out⟩
end Go.Proofs.Yteebnoegeoenbaa
