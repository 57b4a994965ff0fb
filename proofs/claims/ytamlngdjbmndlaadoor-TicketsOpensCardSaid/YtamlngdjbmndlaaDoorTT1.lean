/- Tickets: the law TicketsOpens walked. -/
import Derived.Test.YtamlngdjbmndlaaDoorGe
namespace Go.Proofs.YtamlngdjbmndlaaDoor
open Go.RowKit Go.Gr
set_option linter.unusedVariables false
set_option linter.unusedSimpArgs false
theorem parT_len (b : List Int) : (parTT b).length = 32 := by
  unfold parTT
  split
  · rename_i h
    rw [List.length_drop, (parTE_zero h).1]
  · simp
theorem eql_t (l : List Int) (h : l.length = 32) (w : World) : (binOp .eql 36 (.agg (byt l).toArray) (.agg (byt l).toArray)).run Tryd.prog w = .ok (.bool true) w := by
  have := run_eql_ints (P := Tryd.prog) Tryd.underlying36 Tryd.underlying5 (by kernel_rfl) (by kernel_rfl) l l h h w
  rwa [beq_self_eq_true] at this
set_option maxRecDepth 100000 in
set_option maxHeartbeats 2000000 in
theorem opens_law (w : World) (hl : Laid w) (v0 : Value) (h0 : LfOk Tryd.prog w (.slice 5) v0) (v1 : Value) (h1 : LfOk Tryd.prog w (.slice 5) v1) : Calls Tryd.prog 5 #[v0, v1] w fun e w' => e = .returned (.bool true) ∧ Ext w w' := by
  obtain ⟨A, k, c, rfl, hr, hb, hc, hm⟩ := bytes_arg h0
  obtain ⟨B, l, cb, rfl, hrb, hbb, hcb, hmb⟩ := bytes_arg h1
  clear h0 h1
  have HL := hide hl
  by_cases hs : 200 < k.length
  · have d1 : (200 : Int) < (k.length : Int) := by omega
    clear hl hr hb hrb hbb hs
    go_enter Tryd.func5, Tryd.ntmps5
    go_wp2_with fail
    (with_reducible refine (tshown_any _ HL.out).mono ?_)
    rintro e w1 ⟨rfl, hx⟩
    go_wp2_with fail
    go_ret
    exact ⟨rfl, hx⟩
  · have d1 : ¬ (200 : Int) < (k.length : Int) := by omega
    by_cases hs2 : 200 < l.length
    · have d2 : (200 : Int) < (l.length : Int) := by omega
      clear hl hr hb hrb hbb hs hs2
      go_enter Tryd.func5, Tryd.ntmps5
      go_wp2_with fail
      (with_reducible refine (tshown_any _ HL.out).mono ?_)
      rintro e w1 ⟨rfl, hx⟩
      go_wp2_with fail
      go_ret
      exact ⟨rfl, hx⟩
    · have d2 : ¬ (200 : Int) < (l.length : Int) := by omega
      have HPA := hide (fun (x : World) (h : Ext w x) => tparse_any l B cb x (hrb.ext h) hbb (by omega) hcb)
      have HRPA := hide (fun (x : World) (h : Ext w x) => rtparse_any l B cb x (hrb.ext h) hbb (by omega) hcb)
      have HOP := hide (fun (x : World) (h : Ext w x) => topen_any k l A c B cb x (hl.ext h) (hr.ext h) hb hc (by omega) (hrb.ext h) hbb hcb (by omega))
      have HROP := hide (fun (x : World) (h : Ext w x) => rtopen_any k l A c B cb x (hr.ext h) hb hc (by omega) (hrb.ext h) hbb hcb (by omega))
      obtain ⟨p, q, r, s, HV⟩ : ∃ p q r s, Hid (parTV l = (p, q, r, s)) := ⟨_, _, _, _, hide rfl⟩
      obtain ⟨T, HT⟩ : ∃ T, Hid (parTT l = T) := ⟨_, hide rfl⟩
      obtain ⟨E, HE⟩ : ∃ E, Hid (parTE l = E) := ⟨_, hide rfl⟩
      obtain ⟨p2, q2, r2, s2, HV2⟩ : ∃ p q r s, Hid (opTV k l = (p, q, r, s)) := ⟨_, _, _, _, hide rfl⟩
      obtain ⟨E2, HE2⟩ : ∃ E, Hid (opTE k l = E) := ⟨_, hide rfl⟩
      have HTN := hide (parT_len l)
      rw [HT.out] at HTN
      have HTL : Hid ((byt T).length = 32) := hide (by rw [byt_length, HTN.out])
      rw [HV.out, HT.out, HE.out] at HPA HRPA
      rw [HV2.out, HE2.out] at HOP HROP
      have heq := eql_t T HTN.out
      clear hl hr hb hrb hbb hs hs2 HV HT HE HV2 HE2
      have K0 := Sep.refl No w
      have tok1 : True := trivial
      have tok2 : True := trivial
      have tok3 : True := trivial
      have tok4 : True := trivial
      go_enter Tryd.func5, Tryd.ntmps5
      go_wp2_with fail
      (with_reducible refine (HPA.out _ K0.toExt).mono ?_)
      rintro e w1 ⟨rfl, hx⟩
      have K1 := K0.ext hx
      clear K0 hx HPA
      go_wp2_with (first
        | (have zz := tok1; clear zz tok1; refine wpList_alS K1 rfl 25 rfl (tkc 0 0 0 0) (by kernel_rfl) ?_; intro w2 hz2 K2; clear hz2 K1)
        | (have zz := tok2; clear zz tok2; refine wpList_alS K2 rfl 36 rfl (Z8 32) (by kernel_rfl) ?_; intro w3 hz3 K3; clear hz3 K2)
        | (have zz := tok3; clear zz tok3; refine wpList_stS [_] K3 rfl 25 (.tmp 5) (.tmp 27) rfl rfl (cs := tkc p q r s) rfl (by kernel_rfl) rfl (tkc_one p q r s) ?_; intro w4 K4; dsimp only [List.nil_append, List.cons_append] at K4; clear K3)
        | (have zz := tok4; clear zz tok4; refine wpList_stS [] K4 rfl 36 (.tmp 6) (.tmp 28) rfl rfl (cs := byt T) rfl (by rw [HTL.out]; kernel_rfl) (by rw [HTL.out]; rfl) (byt_one _) ?_; intro w5 K5; dsimp only [List.nil_append, List.cons_append] at K5; clear K4))
      obtain ⟨g5, G5⟩ : ∃ g, w1.heap.size = g := ⟨_, rfl⟩
      obtain ⟨g6, G6⟩ : ∃ g, w2.heap.size = g := ⟨_, rfl⟩
      rw [G5, G6] at K5
      rw [G5, G6]
      clear G5 G6
      (with_reducible refine (HRPA.out _ K5.toExt).mono ?_)
      rintro e v1 ⟨rfl, hx⟩
      have K1 := K5.ext hx
      clear K5 hx HRPA
      have tok1 : True := trivial
      have tok2 : True := trivial
      have tok3 : True := trivial
      have tok4 : True := trivial
      go_wp2_with (first
        | (have zz := tok1; clear zz tok1; refine wpList_alS K1 rfl 25 rfl (tkc 0 0 0 0) (by kernel_rfl) ?_; intro v2 hz2 K2; clear hz2 K1)
        | (have zz := tok2; clear zz tok2; refine wpList_alS K2 rfl 36 rfl (Z8 32) (by kernel_rfl) ?_; intro v3 hz3 K3; clear hz3 K2)
        | (have zz := tok3; clear zz tok3; refine wpList_stS [_] K3 rfl 25 (.tmp 8) (.tmp 33) rfl rfl (cs := tkc p q r s) rfl (by kernel_rfl) rfl (tkc_one p q r s) ?_; intro v4 K4; dsimp only [List.nil_append, List.cons_append] at K4; clear K3)
        | (have zz := tok4; clear zz tok4; refine wpList_stS [] K4 rfl 36 (.tmp 9) (.tmp 34) rfl rfl (cs := byt T) rfl (by rw [HTL.out]; kernel_rfl) (by rw [HTL.out]; rfl) (byt_one _) ?_; intro v5 K5; dsimp only [List.nil_append, List.cons_append] at K5; clear K4))
      obtain ⟨g8, G8⟩ : ∃ g, v1.heap.size = g := ⟨_, rfl⟩
      obtain ⟨g9, G9⟩ : ∃ g, v2.heap.size = g := ⟨_, rfl⟩
      rw [G8, G9] at K5
      rw [G8, G9]
      clear G8 G9
      (with_reducible refine (HOP.out _ K5.toExt).mono ?_)
      rintro e u1 ⟨rfl, hx⟩
      have K1 := K5.ext hx
      clear K5 hx HOP
      have tok1 : True := trivial
      have tok2 : True := trivial
      go_wp2_with (first
        | (have zz := tok1; clear zz tok1; refine wpList_alS K1 rfl 25 rfl (tkc 0 0 0 0) (by kernel_rfl) ?_; intro u2 hz2 K2; clear hz2 K1)
        | (have zz := tok2; clear zz tok2; refine wpList_stS [] K2 rfl 25 (.tmp 11) (.tmp 40) rfl rfl (cs := tkc p2 q2 r2 s2) rfl (by kernel_rfl) rfl (tkc_one p2 q2 r2 s2) ?_; intro u3 K3; dsimp only [List.nil_append, List.cons_append] at K3; clear K2))
      obtain ⟨g11, G11⟩ : ∃ g, u1.heap.size = g := ⟨_, rfl⟩
      rw [G11] at K3 ⊢
      clear G11
      (with_reducible refine (HROP.out _ K3.toExt).mono ?_)
      rintro e t1 ⟨rfl, hx⟩
      have K1 := K3.ext hx
      clear K3 hx HROP
      have tok1 : True := trivial
      have tok2 : True := trivial
      go_upto_region 7 with (first
        | (have zz := tok1; clear zz tok1; refine wpList_alS K1 rfl 25 rfl (tkc 0 0 0 0) (by kernel_rfl) ?_; intro t2 hz2 K2; clear hz2 K1)
        | (have zz := tok2; clear zz tok2; refine wpList_stS [] K2 rfl 25 (.tmp 13) (.tmp 46) rfl rfl (cs := tkc p2 q2 r2 s2) rfl (by kernel_rfl) rfl (tkc_one p2 q2 r2 s2) ?_; intro t3 K3; dsimp only [List.nil_append, List.cons_append] at K3; clear K2))
      obtain ⟨g13, G13⟩ : ∃ g, t1.heap.size = g := ⟨_, rfl⟩
      rw [G13] at K3 ⊢
      clear G13
      obtain ⟨c0, c1, c2, c3, hg0⟩ := tk4 (K3.blk (g := g13) (e := 25) (cs := tkc p2 q2 r2 s2) (List.Mem.head _))
      obtain ⟨e0, e1, e2, e3, hg1⟩ := tk4 (K3.blk (g := g11) (e := 25) (cs := tkc p2 q2 r2 s2) (List.Mem.tail _ (List.Mem.head _)))
      obtain ⟨f0, f1, f2, f3, hg2⟩ := tk4 (K3.blk (g := g8) (e := 25) (cs := tkc p q r s) (List.Mem.tail _ (List.Mem.tail _ (List.Mem.tail _ (List.Mem.head _)))))
      obtain ⟨i0, i1, i2, i3, hg3⟩ := tk4 (K3.blk (g := g5) (e := 25) (cs := tkc p q r s) (List.Mem.tail _ (List.Mem.tail _ (List.Mem.tail _ (List.Mem.tail _ (List.Mem.tail _ (List.Mem.head _)))))))
      have tok1 : True := trivial
      have tok2 : True := trivial
      go_wp2_with (first
        | (have zz := tok1; clear zz tok1; refine wpList_ldS K3 (List.Mem.tail _ (List.Mem.tail _ (List.Mem.tail _ (List.Mem.tail _ (List.Mem.head _))))) rfl 36 (.tmp 6) rfl rfl _ Tryd.underlying36 rfl (by rw [HTL.out]; kernel_rfl) ?_)
        | (have zz := tok2; clear zz tok2; refine wpList_ldS K3 (List.Mem.tail _ (List.Mem.tail _ (List.Mem.head _))) rfl 36 (.tmp 9) rfl rfl _ Tryd.underlying36 rfl (by rw [HTL.out]; kernel_rfl) ?_))
      (with_reducible refine (tshown_any _ (HL.out.ext K3.toExt)).mono ?_)
      rintro e we ⟨rfl, hxe⟩
      have HX := hide (K3.toExt.trans hxe)
      clear K3 hxe c0 c1 c2 c3 hg0 e0 e1 e2 e3 hg1 f0 f1 f2 f3 hg2 i0 i1 i2 i3 hg3
      go_wp2_with fail
      go_ret
      exact ⟨rfl, HX.out⟩
end Go.Proofs.YtamlngdjbmndlaaDoor
