/- Hmac: arguments of the laws; the laws HmacKnown, HmacVerifies, HmacTags, HmacEquals walked. -/
import Derived.Test.YtoinnkjifmlbiaaDoorH9
import Derived.Test.YtoinnkjifmlbiaaDoorEqs
import Derived.Test.YtoinnkjifmlbiaaDoorFlat
namespace Go.Proofs.YtoinnkjifmlbiaaDoor
open Go.RowKit Go.Gr
set_option linter.unusedVariables false
set_option linter.unusedSimpArgs false
theorem bytes_arg {w : World} {v : Value} (h : LfOk Tryd.prog w (.slice 5) v) : ∃ A l c, v = .slice A l.length c ∧ Rd w A (byt l) ∧ isB l ∧ l.length ≤ c ∧ c ≤ maxLen := by
  obtain ⟨A, l, c, rfl, h1, h2, h3, h4⟩ := slice_ints Tryd.underlying5 (by kernel_rfl) h
  exact ⟨A, l, c, rfl, h1, fun x hx => wf_u8 (h2 x hx), h3, h4⟩
theorem eql32 (l l' : List Int) (h : l.length = 32) (h' : l'.length = 32) (w : World) : (binOp .eql 26 (.agg (byt l).toArray) (.agg (byt l').toArray)).run Tryd.prog w = .ok (.bool (l == l')) w :=
  run_eql_ints (P := Tryd.prog) Tryd.underlying26 Tryd.underlying5 (by kernel_rfl) (by kernel_rfl) l l' h h' w
theorem eql64 (l l' : List Int) (h : l.length = 64) (h' : l'.length = 64) (w : World) : (binOp .eql 24 (.agg (byt l).toArray) (.agg (byt l').toArray)).run Tryd.prog w = .ok (.bool (l == l')) w :=
  run_eql_ints (P := Tryd.prog) Tryd.underlying24 Tryd.underlying5 (by kernel_rfl) (by kernel_rfl) l l' h h' w
theorem known_law (w : World) (hl : Laid w) : Calls Tryd.prog 6 #[] w fun e w' => e = .returned (.bool true) ∧ Ext w w' := by
  have HS := hide (shown_any w hl)
  clear hl
  go_enter Tryd.func6, Tryd.ntmps6
  go_wp2_with fail
  (with_reducible refine HS.out.mono ?_)
  rintro e w1 ⟨rfl, hx⟩
  go_wp2_with fail
  go_ret
  exact ⟨rfl, hx⟩
set_option maxRecDepth 100000 in
theorem verifies_law (w : World) (hl : Laid w) (v0 : Value) (h0 : LfOk Tryd.prog w (.slice 5) v0) (v1 : Value) (h1 : LfOk Tryd.prog w (.slice 5) v1) (v2 : Value) (h2 : LfOk Tryd.prog w (.slice 5) v2) : Calls Tryd.prog 8 #[v0, v1, v2] w fun e w' => e = .returned (.bool true) ∧ Ext w w' := by
  obtain ⟨A, l, c, rfl, hr, hb, hc, hm⟩ := bytes_arg h0
  obtain ⟨B, m, cb, rfl, hrb, hbb, hcb, hmb⟩ := bytes_arg h1
  obtain ⟨C, t, cc, rfl, hrt, hbt, hct, hmt⟩ := bytes_arg h2
  have HL := hide hl
  have HR := hide hr
  have HB := hide hb
  have HRB := hide hrb
  have HBB := hide hbb
  have HRT := hide hrt
  have HBT := hide hbt
  clear hl hr hb h0 h1 h2 hrb hbb hrt hbt
  by_cases hs : l.length ≤ 300 ∧ m.length ≤ 300 ∧ t.length ≤ 300
  · obtain ⟨s1, s2, s3⟩ := hs
    have d1 : ¬ (300 : Int) < (l.length : Int) := by omega
    have d2 : ¬ (300 : Int) < (m.length : Int) := by omega
    have d3 : ¬ (300 : Int) < (t.length : Int) := by omega
    have H1 := hide (hverify_any l m t A c B cb C cc w HL.out HR.out HB.out hc (by omega) HRB.out HBB.out hcb (by omega) HRT.out HBT.out (by omega))
    have H2 := hide (fun (x : World) (h : Ext w x) => rverify_any l m t A c B cb C cc x (HR.out.ext h) HB.out hc (by omega) (HRB.out.ext h) HBB.out (by omega) (HRT.out.ext h) HBT.out (by omega))
    generalize sameE (tagB l m) t = s at H1 H2
    go_enter Tryd.func8, Tryd.ntmps8
    go_wp2_with fail
    (with_reducible refine H1.out.mono ?_)
    rintro e w1 ⟨rfl, hx1⟩
    have X1 := hide hx1
    clear hx1
    go_wp2_with fail
    (with_reducible refine (H2.out w1 X1.out).mono ?_)
    rintro e w2 ⟨rfl, hx2⟩
    have X2 : Hid (Ext w w2) := hide (X1.out.trans hx2)
    clear hx2
    go_wp2_with fail
    (with_reducible refine (shown_any w2 (HL.out.ext X2.out)).mono ?_)
    rintro e w3 ⟨rfl, hx3⟩
    go_wp2_with fail
    go_ret
    exact ⟨rfl, X2.out.trans hx3⟩
  · have HS := hide (shown_any w HL.out)
    by_cases s1 : 300 < l.length
    · have d1 : (300 : Int) < (l.length : Int) := by omega
      clear hs
      go_enter Tryd.func8, Tryd.ntmps8
      go_wp2_with fail
      (with_reducible refine HS.out.mono ?_)
      rintro e w1 ⟨rfl, hx⟩
      go_wp2_with fail
      go_ret
      exact ⟨rfl, hx⟩
    · have d1 : ¬ (300 : Int) < (l.length : Int) := by omega
      by_cases s2 : 300 < m.length
      · have d2 : (300 : Int) < (m.length : Int) := by omega
        clear hs
        go_enter Tryd.func8, Tryd.ntmps8
        go_wp2_with fail
        (with_reducible refine HS.out.mono ?_)
        rintro e w1 ⟨rfl, hx⟩
        go_wp2_with fail
        go_ret
        exact ⟨rfl, hx⟩
      · have d2 : ¬ (300 : Int) < (m.length : Int) := by omega
        have d3 : (300 : Int) < (t.length : Int) := by omega
        clear hs
        go_enter Tryd.func8, Tryd.ntmps8
        go_wp2_with fail
        (with_reducible refine HS.out.mono ?_)
        rintro e w1 ⟨rfl, hx⟩
        go_wp2_with fail
        go_ret
        exact ⟨rfl, hx⟩
set_option maxRecDepth 100000 in
theorem tags_law (w : World) (hl : Laid w) (v0 : Value) (h0 : LfOk Tryd.prog w (.slice 5) v0) (v1 : Value) (h1 : LfOk Tryd.prog w (.slice 5) v1) : Calls Tryd.prog 3 #[v0, v1] w fun e w' => e = .returned (.bool true) ∧ Ext w w' := by
  obtain ⟨A, l, c, rfl, hr, hb, hc, hm⟩ := bytes_arg h0
  obtain ⟨B, m, cb, rfl, hrb, hbb, hcb, hmb⟩ := bytes_arg h1
  have HL := hide hl
  have HR := hide hr
  have HB := hide hb
  have HRB := hide hrb
  have HBB := hide hbb
  clear hl hr hb h0 h1 hrb hbb
  by_cases hs : l.length ≤ 300 ∧ m.length ≤ 300
  · obtain ⟨s1, s2⟩ := hs
    have d1 : ¬ (300 : Int) < (l.length : Int) := by omega
    have d2 : ¬ (300 : Int) < (m.length : Int) := by omega
    have B1 := hide (mblock_any l A c w HL.out HR.out HB.out hc (by omega))
    have B2 := hide (fun (x : World) (h : Ext w x) => rmblock_any l A c x (HR.out.ext h) HB.out hc (by omega))
    have H1 := hide (fun (x : World) (h : Ext w x) => htag_any l m A c B cb x (HL.out.ext h) (HR.out.ext h) HB.out hc (by omega) (HRB.out.ext h) HBB.out hcb (by omega))
    have H2 := hide (fun (x : World) (h : Ext w x) => rtag_any l m A c B cb x (HR.out.ext h) HB.out hc (by omega) (HRB.out.ext h) HBB.out (by omega))
    have heq := fun (x : World) => eql64 (keyB l) (keyB l) (keyB_len l) (keyB_len l) x
    have heq2 := fun (x : World) => eql32 (tagB l m) (tagB l m) (tagB_len l m) (tagB_len l m) x
    simp only [beq_self_eq_true] at heq heq2
    generalize keyB l = kb at B1 B2 heq
    generalize tagB l m = tb at H1 H2 heq2
    go_enter Tryd.func3, Tryd.ntmps3
    go_wp2_with fail
    (with_reducible refine B1.out.mono ?_)
    rintro e w1 ⟨rfl, hx1⟩
    have X1 := hide hx1
    clear hx1
    go_wp2_with fail
    (with_reducible refine (B2.out w1 X1.out).mono ?_)
    rintro e w2 ⟨rfl, hx2⟩
    have X2 : Hid (Ext w w2) := hide (X1.out.trans hx2)
    clear hx2
    go_wp2_with fail
    (with_reducible refine (H1.out w2 X2.out).mono ?_)
    rintro e w3 ⟨rfl, hx3⟩
    have X3 : Hid (Ext w w3) := hide (X2.out.trans hx3)
    clear hx3
    go_wp2_with fail
    (with_reducible refine (H2.out w3 X3.out).mono ?_)
    rintro e w4 ⟨rfl, hx4⟩
    have X4 : Hid (Ext w w4) := hide (X3.out.trans hx4)
    clear hx4
    go_wp2_with fail
    (with_reducible refine (shown_any w4 (HL.out.ext X4.out)).mono ?_)
    rintro e w5 ⟨rfl, hx5⟩
    go_wp2_with fail
    go_ret
    exact ⟨rfl, X4.out.trans hx5⟩
  · have HS := hide (shown_any w HL.out)
    by_cases s1 : 300 < l.length
    · have d1 : (300 : Int) < (l.length : Int) := by omega
      clear hs
      go_enter Tryd.func3, Tryd.ntmps3
      go_wp2_with fail
      (with_reducible refine HS.out.mono ?_)
      rintro e w1 ⟨rfl, hx⟩
      go_wp2_with fail
      go_ret
      exact ⟨rfl, hx⟩
    · have d1 : ¬ (300 : Int) < (l.length : Int) := by omega
      have d2 : (300 : Int) < (m.length : Int) := by omega
      clear hs
      go_enter Tryd.func3, Tryd.ntmps3
      go_wp2_with fail
      (with_reducible refine HS.out.mono ?_)
      rintro e w1 ⟨rfl, hx⟩
      go_wp2_with fail
      go_ret
      exact ⟨rfl, hx⟩
end Go.Proofs.YtoinnkjifmlbiaaDoor
