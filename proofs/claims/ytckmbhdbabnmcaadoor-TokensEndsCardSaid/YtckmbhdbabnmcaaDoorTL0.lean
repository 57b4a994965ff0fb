/- Tokens: the laws TokensKnown and TokensIssues walked. -/
import Derived.Test.YtckmbhdbabnmcaaDoorTkC
import Derived.Test.YtckmbhdbabnmcaaDoorFlat
namespace Go.Proofs.YtckmbhdbabnmcaaDoor
open Go.RowKit Go.Gr
set_option linter.unusedVariables false
set_option linter.unusedSimpArgs false
theorem bytes_arg {w : World} {v : Value} (h : LfOk Tryd.prog w (.slice 5) v) : ∃ A l c, v = .slice A l.length c ∧ Rd w A (byt l) ∧ isB l ∧ l.length ≤ c ∧ c ≤ maxLen := by
  obtain ⟨A, l, c, rfl, h1, h2, h3, h4⟩ := slice_ints Tryd.underlying5 (by kernel_rfl) h
  exact ⟨A, l, c, rfl, h1, fun x hx => wf_u8 (h2 x hx), h3, h4⟩
theorem sesA {w : World} {v : Value} (h : ∃ cs, v = .agg cs ∧ Lvs Tryd.prog w [.int .u32, .int .i64] cs.toList) : ∃ o u : Int, v = ses o u ∧ (0 ≤ o ∧ o < 4294967296) ∧ (-9223372036854775808 ≤ u ∧ u ≤ 9223372036854775807) := by
  obtain ⟨⟨cs⟩, rfl, h0⟩ := h
  obtain ⟨_, _, hc, ⟨a, rfl, ha⟩, h1⟩ := h0.cons
  obtain ⟨_, _, rfl, ⟨b, rfl, hb⟩, h2⟩ := h1.cons
  obtain rfl := h2.nil_
  simp only at hc
  exact ⟨a, b, by rw [hc], wf_u32 ha, wf_i64 hb⟩
theorem known_law (w : World) (hl : Laid w) : Calls Tryd.prog 9 #[] w fun e w' => e = .returned (.bool true) ∧ Ext w w' := by
  have HS := hide (shown_any w hl)
  clear hl
  go_enter Tryd.func9, Tryd.ntmps9
  go_wp2_with fail
  (with_reducible refine HS.out.mono ?_)
  rintro e w1 ⟨rfl, hx⟩
  go_wp2_with fail
  go_ret
  exact ⟨rfl, hx⟩
set_option maxRecDepth 100000 in
set_option maxHeartbeats 1000000 in
theorem issues_law (w : World) (hl : Laid w) (v0 : Value) (h0 : LfOk Tryd.prog w (.slice 5) v0) (v1 : Value) (h1 : ∃ cs, v1 = .agg cs ∧ Lvs Tryd.prog w [.int .u32, .int .i64] cs.toList) : Calls Tryd.prog 4 #[v0, v1] w fun e w' => e = .returned (.bool true) ∧ Ext w w' := by
  obtain ⟨A, l, c, rfl, hr, hb, hc, hm⟩ := bytes_arg h0
  obtain ⟨o, u, rfl, ho, hu⟩ := sesA h1
  have HL := hide hl
  have HR := hide hr
  have H0 := (Sep.refl No w).newB ((Ext.refl w).alloc (.cells #[.int .u32 o, .int .i64 u] 24)) (Blk.new w 24 [.int .u32 o, .int .i64 u]) (Nat.le_refl _)
  by_cases hs : 200 < l.length
  · have d1 : (200 : Int) < (l.length : Int) := by omega
    have HX := hide H0.toExt
    clear hl hr hb h0 h1 H0 hs
    go_enter Tryd.func4, Tryd.ntmps4
    go_wp2_with fail
    (with_reducible refine (shown_any _ (HL.out.ext HX.out)).mono ?_)
    rintro e w1 ⟨rfl, hx⟩
    go_wp2_with fail
    go_ret
    exact ⟨rfl, HX.out.trans hx⟩
  · have d1 : ¬ (200 : Int) < (l.length : Int) := by omega
    have HI := hide (fun (x : World) (h : Ext w x) => issue_any l A c o u x (hl.ext h) (hr.ext h) hb hc (by omega) ho hu)
    have HRI := hide (fun (x : World) (h : Ext w x) => rissue_any l A c o u x (hr.ext h) hb hc (by omega) ho hu)
    obtain ⟨B, HB⟩ : ∃ B, Hid (issueB l o u = B) := ⟨_, hide rfl⟩
    obtain ⟨E, HE⟩ : ∃ E, Hid (issueE l u = E) := ⟨_, hide rfl⟩
    rw [HB.out, HE.out] at HI HRI
    clear hl hr hb h0 h1 hs HB HE
    have tok1 : True := trivial
    have tok2 : True := trivial
    go_enter Tryd.func4, Tryd.ntmps4
    obtain ⟨c0, c1, hg0⟩ := cells2 (H0.blk (g := w.heap.size) (e := 24) (cs := [.int .u32 o, .int .i64 u]) (List.Mem.head _))
    go_wp2_with fail
    (with_reducible refine (HI.out _ H0.toExt).mono ?_)
    rintro e w2 ⟨A2, c2, rfl, hc2, hS⟩
    have K2 := H0.join hS
    dsimp only [List.nil_append, List.cons_append] at K2
    clear H0 hS c0 c1 hg0
    obtain ⟨c0, c1, hg0⟩ := cells2 (K2.blk (g := w.heap.size) (e := 24) (cs := [.int .u32 o, .int .i64 u]) (List.Mem.tail _ (List.Mem.head _)))
    have KK := hide K2
    clear K2
    go_wp2_with fail
    (with_reducible refine (HRI.out _ KK.out.toExt).mono ?_)
    rintro e w3 ⟨v3, rfl, hS⟩
    have K3 := KK.out.join hS
    dsimp only [List.nil_append, List.cons_append] at K3
    clear KK hS c0 c1 hg0
    obtain ⟨A3, c3, rfl, hr3, hc3⟩ := own_form (K3.owns (List.Mem.head _))
    have hcv1 := str_of c2 (K3.get (A := As.rd A2 (byt B)) (List.Mem.tail _ (List.Mem.head _)))
    have hcv2 := str_of c3 hr3
    generalize strOfNums B = sB at hcv1 hcv2
    have KK := hide K3.toExt
    clear K3 hr3
    go_wp2_with fail
    (with_reducible refine (shown_any _ (HL.out.ext KK.out)).mono ?_)
    rintro e w4 ⟨rfl, hx4⟩
    go_wp2_with fail
    go_ret
    exact ⟨rfl, KK.out.trans hx4⟩
end Go.Proofs.YtckmbhdbabnmcaaDoor
