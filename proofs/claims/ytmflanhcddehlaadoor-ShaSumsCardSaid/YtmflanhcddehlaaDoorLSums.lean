/- The law ShaSums walked. -/
import Derived.Test.YtmflanhcddehlaaDoorS15
import Derived.Test.YtmflanhcddehlaaDoorS17
import Derived.Test.YtmflanhcddehlaaDoorEqs
import Derived.Test.YtmflanhcddehlaaDoorFlat
namespace Go.Proofs.YtmflanhcddehlaaDoor
open Go.RowKit Go.Gr
set_option linter.unusedVariables false
theorem bytes_arg {w : World} {v : Value} (h : LfOk Tryd.prog w (.slice 5) v) : ∃ A l c, v = .slice A l.length c ∧ Rd w A (byt l) ∧ isB l ∧ l.length ≤ c ∧ c ≤ maxLen := by
  obtain ⟨A, l, c, rfl, h1, h2, h3, h4⟩ := slice_ints Tryd.underlying5 (by kernel_rfl) h
  exact ⟨A, l, c, rfl, h1, fun x hx => wf_u8 (h2 x hx), h3, h4⟩
theorem eql32 (l l' : List Int) (h : l.length = 32) (h' : l'.length = 32) (w : World) : (binOp .eql 32 (.agg (byt l).toArray) (.agg (byt l').toArray)).run Tryd.prog w = .ok (.bool (l == l')) w :=
  run_eql_ints (P := Tryd.prog) Tryd.underlying32 Tryd.underlying5 (by kernel_rfl) (by kernel_rfl) l l' h h' w
set_option maxHeartbeats 2000000 in
theorem sums_law (w : World) (hl : Laid w) (v0 : Value) (h0 : LfOk Tryd.prog w (.slice 5) v0) : Calls Tryd.prog 4 #[v0] w fun e w' => e = .returned (.bool true) ∧ Ext w w' := by
  obtain ⟨A, l, c, rfl, hr, hb, hc, hm⟩ := bytes_arg h0
  have HL := hide hl
  have HR := hide hr
  have HBy := hide hb
  have heq := fun (x : World) => eql32 (digest l) (digest l) (digest_len l) (digest_len l) x
  simp only [beq_self_eq_true] at heq
  clear hl hr hb h0
  by_cases hlt : 1000 < l.length
  · have HS := hide (shown_any w HL.out)
    have hlt' : (1000 : Int) < (l.length : Int) := by omega
    go_enter Tryd.func4, Tryd.ntmps4
    go_wp2_with fail
    (with_reducible refine HS.out.mono ?_)
    rintro e w1 ⟨rfl, hx⟩
    go_wp2_with fail
    go_ret
    exact ⟨rfl, hx⟩
  · have HS1 := hide (sum_any l A c w HL.out HR.out HBy.out hc (by omega))
    have hlt' : ¬ (1000 : Int) < (l.length : Int) := by omega
    have hcap : l.length ≤ 900000000 := by omega
    have HR2 : Hid (∀ w1, Ext w w1 → Calls Tryd.prog 20 #[.slice A l.length c] w1 fun e w' => e = .returned (.agg (byt (digest l)).toArray) ∧ Ext w1 w') := hide fun w1 h => rsum_any l A c w1 (HR.out.ext h) HBy.out hc hcap
    go_enter Tryd.func4, Tryd.ntmps4
    go_wp2_with fail
    (with_reducible refine HS1.out.mono ?_)
    rintro e w1 ⟨rfl, hx1⟩
    have HX1 := hide hx1
    clear hx1
    go_wp2_with fail
    (with_reducible refine (HR2.out w1 HX1.out).mono ?_)
    rintro e w2 ⟨rfl, hx2⟩
    have HX2 : Hid (Ext w w2) := hide (HX1.out.trans hx2)
    clear hx2
    go_wp2_with fail
    (with_reducible refine (shown_any w2 (HL.out.ext HX2.out)).mono ?_)
    rintro e w3 ⟨rfl, hx3⟩
    go_wp2_with fail
    go_ret
    exact ⟨rfl, HX2.out.trans hx3⟩
end Go.Proofs.YtmflanhcddehlaaDoor
