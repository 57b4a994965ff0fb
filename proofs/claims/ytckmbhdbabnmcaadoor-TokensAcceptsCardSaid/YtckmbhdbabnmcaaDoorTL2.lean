/- Tokens: the laws TokensOpens and TokensAccepts walked. -/
import Derived.Test.YtckmbhdbabnmcaaDoorTL0
import Derived.Test.YtckmbhdbabnmcaaDoorTkD
namespace Go.Proofs.YtckmbhdbabnmcaaDoor
open Go.RowKit Go.Gr
set_option linter.unusedVariables false
set_option linter.unusedSimpArgs false
theorem parseT_len (b : List Int) : (parseT b).length = 32 := by
  unfold parseT
  split
  · rename_i h
    rw [List.length_drop, (parseE_zero h).1]
  · simp
theorem eql_t (l : List Int) (h : l.length = 32) (w : World) : (binOp .eql 35 (.agg (byt l).toArray) (.agg (byt l).toArray)).run Tryd.prog w = .ok (.bool true) w := by
  have := run_eql_ints (P := Tryd.prog) Tryd.underlying35 Tryd.underlying5 (by kernel_rfl) (by kernel_rfl) l l h h w
  rwa [beq_self_eq_true] at this
set_option maxRecDepth 100000 in
set_option maxHeartbeats 2000000 in
theorem opens_law (w : World) (hl : Laid w) (v0 : Value) (h0 : LfOk Tryd.prog w (.slice 5) v0) (v1 : Value) (h1 : LfOk Tryd.prog w (.slice 5) v1) : Calls Tryd.prog 5 #[v0, v1] w fun e w' => e = .returned (.bool true) ∧ Ext w w' := by
  obtain ⟨A, k, c, rfl, hr, hb, hc, hm⟩ := bytes_arg h0
  obtain ⟨B, l, cb, rfl, hrb, hbb, hcb, hmb⟩ := bytes_arg h1
  clear h0 h1
  have HL := hide hl
  by_cases hs : 200 < k.length
  · have d1 : (200 : Int) < (k.length : Int) := by omega
    clear hl hr hb hrb hbb hs
    go_enter Tryd.func5, Tryd.ntmps5
    go_wp2_with fail
    (with_reducible refine (shown_any _ HL.out).mono ?_)
    rintro e w1 ⟨rfl, hx⟩
    go_wp2_with fail
    go_ret
    exact ⟨rfl, hx⟩
  · have d1 : ¬ (200 : Int) < (k.length : Int) := by omega
    by_cases hs2 : 200 < l.length
    · have d2 : (200 : Int) < (l.length : Int) := by omega
      clear hl hr hb hrb hbb hs hs2
      go_enter Tryd.func5, Tryd.ntmps5
      go_wp2_with fail
      (with_reducible refine (shown_any _ HL.out).mono ?_)
      rintro e w1 ⟨rfl, hx⟩
      go_wp2_with fail
      go_ret
      exact ⟨rfl, hx⟩
    · have d2 : ¬ (200 : Int) < (l.length : Int) := by omega
      have HPA := hide (fun (x : World) (h : Ext w x) => parse_any l B cb x (hrb.ext h) hbb (by omega) hcb)
      have HRPA := hide (fun (x : World) (h : Ext w x) => rparse11_any l B cb x (hrb.ext h) hbb (by omega) hcb)
      have HOP := hide (fun (x : World) (h : Ext w x) => open_any k l A c B cb x (hl.ext h) (hr.ext h) hb hc (by omega) (hrb.ext h) hbb hcb (by omega))
      have HROP := hide (fun (x : World) (h : Ext w x) => ropen_any k l A c B cb x (hr.ext h) hb hc (by omega) (hrb.ext h) hbb hcb (by omega))
      obtain ⟨p, q, HV⟩ : ∃ p q, Hid (parseV l = (p, q)) := ⟨_, _, hide rfl⟩
      obtain ⟨T, HT⟩ : ∃ T, Hid (parseT l = T) := ⟨_, hide rfl⟩
      obtain ⟨E, HE⟩ : ∃ E, Hid (parseE l = E) := ⟨_, hide rfl⟩
      obtain ⟨p2, q2, HV2⟩ : ∃ p q, Hid (openV k l = (p, q)) := ⟨_, _, hide rfl⟩
      obtain ⟨E2, HE2⟩ : ∃ E, Hid (openE k l = E) := ⟨_, hide rfl⟩
      have HTN := hide (parseT_len l)
      rw [HT.out] at HTN
      have HTL : Hid ((byt T).length = 32) := hide (by rw [byt_length, HTN.out])
      rw [HV.out, HT.out, HE.out] at HPA HRPA
      rw [HV2.out, HE2.out] at HOP HROP
      have heq := eql_t T HTN.out
      clear hl hr hb hrb hbb hs hs2 HV HT HE HV2 HE2
      have K0 := Sep.refl No w
      have tok1 : True := trivial
      have tok2 : True := trivial
      have tok3 : True := trivial
      have tok4 : True := trivial
      go_enter Tryd.func5, Tryd.ntmps5
      go_wp2_with fail
      (with_reducible refine (HPA.out _ K0.toExt).mono ?_)
      rintro e w1 ⟨rfl, hx⟩
      have K1 := K0.ext hx
      clear K0 hx HPA
      go_wp2_with (first
        | (have zz := tok1; clear zz tok1; refine wpList_alS K1 rfl 24 rfl [.int .u32 0, .int .i64 0] (by kernel_rfl) ?_; intro w2 hz2 K2; clear hz2 K1)
        | (have zz := tok2; clear zz tok2; refine wpList_alS K2 rfl 35 rfl (Z8 32) (by kernel_rfl) ?_; intro w3 hz3 K3; clear hz3 K2)
        | (have zz := tok3; clear zz tok3; refine wpList_stS [_] K3 rfl 24 (.tmp 5) (.tmp 27) rfl rfl (cs := [.int .u32 p, .int .i64 q]) rfl (by kernel_rfl) rfl (ses_one p q) ?_; intro w4 K4; dsimp only [List.nil_append, List.cons_append] at K4; clear K3)
        | (have zz := tok4; clear zz tok4; refine wpList_stS [] K4 rfl 35 (.tmp 6) (.tmp 28) rfl rfl (cs := byt T) rfl (by rw [HTL.out]; kernel_rfl) (by rw [HTL.out]; rfl) (byt_one _) ?_; intro w5 K5; dsimp only [List.nil_append, List.cons_append] at K5; clear K4))
      obtain ⟨g5, G5⟩ : ∃ g, w1.heap.size = g := ⟨_, rfl⟩
      obtain ⟨g6, G6⟩ : ∃ g, w2.heap.size = g := ⟨_, rfl⟩
      rw [G5, G6] at K5
      rw [G5, G6]
      clear G5 G6
      (with_reducible refine (HRPA.out _ K5.toExt).mono ?_)
      rintro e v1 ⟨rfl, hx⟩
      have K1 := K5.ext hx
      clear K5 hx HRPA
      have tok1 : True := trivial
      have tok2 : True := trivial
      have tok3 : True := trivial
      have tok4 : True := trivial
      go_wp2_with (first
        | (have zz := tok1; clear zz tok1; refine wpList_alS K1 rfl 24 rfl [.int .u32 0, .int .i64 0] (by kernel_rfl) ?_; intro v2 hz2 K2; clear hz2 K1)
        | (have zz := tok2; clear zz tok2; refine wpList_alS K2 rfl 35 rfl (Z8 32) (by kernel_rfl) ?_; intro v3 hz3 K3; clear hz3 K2)
        | (have zz := tok3; clear zz tok3; refine wpList_stS [_] K3 rfl 24 (.tmp 8) (.tmp 33) rfl rfl (cs := [.int .u32 p, .int .i64 q]) rfl (by kernel_rfl) rfl (ses_one p q) ?_; intro v4 K4; dsimp only [List.nil_append, List.cons_append] at K4; clear K3)
        | (have zz := tok4; clear zz tok4; refine wpList_stS [] K4 rfl 35 (.tmp 9) (.tmp 34) rfl rfl (cs := byt T) rfl (by rw [HTL.out]; kernel_rfl) (by rw [HTL.out]; rfl) (byt_one _) ?_; intro v5 K5; dsimp only [List.nil_append, List.cons_append] at K5; clear K4))
      obtain ⟨g8, G8⟩ : ∃ g, v1.heap.size = g := ⟨_, rfl⟩
      obtain ⟨g9, G9⟩ : ∃ g, v2.heap.size = g := ⟨_, rfl⟩
      rw [G8, G9] at K5
      rw [G8, G9]
      clear G8 G9
      (with_reducible refine (HOP.out _ K5.toExt).mono ?_)
      rintro e u1 ⟨rfl, hx⟩
      have K1 := K5.ext hx
      clear K5 hx HOP
      have tok1 : True := trivial
      have tok2 : True := trivial
      go_wp2_with (first
        | (have zz := tok1; clear zz tok1; refine wpList_alS K1 rfl 24 rfl [.int .u32 0, .int .i64 0] (by kernel_rfl) ?_; intro u2 hz2 K2; clear hz2 K1)
        | (have zz := tok2; clear zz tok2; refine wpList_stS [] K2 rfl 24 (.tmp 11) (.tmp 40) rfl rfl (cs := [.int .u32 p2, .int .i64 q2]) rfl (by kernel_rfl) rfl (ses_one p2 q2) ?_; intro u3 K3; dsimp only [List.nil_append, List.cons_append] at K3; clear K2))
      obtain ⟨g11, G11⟩ : ∃ g, u1.heap.size = g := ⟨_, rfl⟩
      rw [G11] at K3 ⊢
      clear G11
      (with_reducible refine (HROP.out _ K3.toExt).mono ?_)
      rintro e t1 ⟨rfl, hx⟩
      have K1 := K3.ext hx
      clear K3 hx HROP
      have tok1 : True := trivial
      have tok2 : True := trivial
      go_upto_region 7 with (first
        | (have zz := tok1; clear zz tok1; refine wpList_alS K1 rfl 24 rfl [.int .u32 0, .int .i64 0] (by kernel_rfl) ?_; intro t2 hz2 K2; clear hz2 K1)
        | (have zz := tok2; clear zz tok2; refine wpList_stS [] K2 rfl 24 (.tmp 13) (.tmp 46) rfl rfl (cs := [.int .u32 p2, .int .i64 q2]) rfl (by kernel_rfl) rfl (ses_one p2 q2) ?_; intro t3 K3; dsimp only [List.nil_append, List.cons_append] at K3; clear K2))
      obtain ⟨g13, G13⟩ : ∃ g, t1.heap.size = g := ⟨_, rfl⟩
      rw [G13] at K3 ⊢
      clear G13
      obtain ⟨c0, c1, hg0⟩ := cells2 (K3.blk (g := g13) (e := 24) (cs := [.int .u32 p2, .int .i64 q2]) (List.Mem.head _))
      obtain ⟨e0, e1, hg1⟩ := cells2 (K3.blk (g := g11) (e := 24) (cs := [.int .u32 p2, .int .i64 q2]) (List.Mem.tail _ (List.Mem.head _)))
      obtain ⟨f0, f1, hg2⟩ := cells2 (K3.blk (g := g8) (e := 24) (cs := [.int .u32 p, .int .i64 q]) (List.Mem.tail _ (List.Mem.tail _ (List.Mem.tail _ (List.Mem.head _)))))
      obtain ⟨i0, i1, hg3⟩ := cells2 (K3.blk (g := g5) (e := 24) (cs := [.int .u32 p, .int .i64 q]) (List.Mem.tail _ (List.Mem.tail _ (List.Mem.tail _ (List.Mem.tail _ (List.Mem.tail _ (List.Mem.head _)))))))
      have tok1 : True := trivial
      have tok2 : True := trivial
      go_wp2_with (first
        | (have zz := tok1; clear zz tok1; refine wpList_ldS K3 (List.Mem.tail _ (List.Mem.tail _ (List.Mem.tail _ (List.Mem.tail _ (List.Mem.head _))))) rfl 35 (.tmp 6) rfl rfl _ Tryd.underlying35 rfl (by rw [HTL.out]; kernel_rfl) ?_)
        | (have zz := tok2; clear zz tok2; refine wpList_ldS K3 (List.Mem.tail _ (List.Mem.tail _ (List.Mem.head _))) rfl 35 (.tmp 9) rfl rfl _ Tryd.underlying35 rfl (by rw [HTL.out]; kernel_rfl) ?_))
      (with_reducible refine (shown_any _ (HL.out.ext K3.toExt)).mono ?_)
      rintro e we ⟨rfl, hxe⟩
      have HX := hide (K3.toExt.trans hxe)
      clear K3 hxe c0 c1 hg0 e0 e1 hg1 f0 f1 hg2 i0 i1 hg3
      go_wp2_with fail
      go_ret
      exact ⟨rfl, HX.out⟩
set_option maxRecDepth 100000 in
set_option maxHeartbeats 2000000 in
theorem accepts_law (w : World) (hl : Laid w) (v0 : Value) (h0 : LfOk Tryd.prog w (.slice 5) v0) (v1 : Value) (h1 : LfOk Tryd.prog w (.slice 5) v1) (n : Int) (hn : -9223372036854775808 ≤ n ∧ n ≤ 9223372036854775807) : Calls Tryd.prog 6 #[v0, v1, .int .i64 n] w fun e w' => e = .returned (.bool true) ∧ Ext w w' := by
  obtain ⟨A, k, c, rfl, hr, hb, hc, hm⟩ := bytes_arg h0
  obtain ⟨B, l, cb, rfl, hrb, hbb, hcb, hmb⟩ := bytes_arg h1
  clear h0 h1
  have HL := hide hl
  by_cases hs : 200 < k.length
  · have d1 : (200 : Int) < (k.length : Int) := by omega
    clear hl hr hb hrb hbb hs
    go_enter Tryd.func6, Tryd.ntmps6
    go_wp2_with fail
    (with_reducible refine (shown_any _ HL.out).mono ?_)
    rintro e w1 ⟨rfl, hx⟩
    go_wp2_with fail
    go_ret
    exact ⟨rfl, hx⟩
  · have d1 : ¬ (200 : Int) < (k.length : Int) := by omega
    by_cases hs2 : 200 < l.length
    · have d2 : (200 : Int) < (l.length : Int) := by omega
      clear hl hr hb hrb hbb hs hs2
      go_enter Tryd.func6, Tryd.ntmps6
      go_wp2_with fail
      (with_reducible refine (shown_any _ HL.out).mono ?_)
      rintro e w1 ⟨rfl, hx⟩
      go_wp2_with fail
      go_ret
      exact ⟨rfl, hx⟩
    · have d2 : ¬ (200 : Int) < (l.length : Int) := by omega
      have HRPA := hide (fun (x : World) (h : Ext w x) => rparse11_any l B cb x (hrb.ext h) hbb (by omega) hcb)
      have HOP := hide (fun (x : World) (h : Ext w x) => accept_any k l n A c B cb x (hl.ext h) (hr.ext h) hb hc (by omega) (hrb.ext h) hbb hcb (by omega) hn)
      have HROP := hide (fun (x : World) (h : Ext w x) => raccept_any k l n A c B cb x (hr.ext h) hb hc (by omega) (hrb.ext h) hbb hcb (by omega) hn)
      have hq : -9223372036854775808 ≤ (parseV l).2 ∧ (parseV l).2 ≤ 9223372036854775807 := by
        unfold parseV
        split
        · rename_i h
          obtain ⟨h44, hd⟩ := parseE_zero h
          obtain ⟨h12, hlt⟩ := decE_zero hd
          have := (decU_range (isB_take hbb 12) h12).1
          constructor <;> (simp only; omega)
        · decide
      obtain ⟨p, q, HV⟩ : ∃ p q, Hid (parseV l = (p, q)) := ⟨_, _, hide rfl⟩
      obtain ⟨T, HT⟩ : ∃ T, Hid (parseT l = T) := ⟨_, hide rfl⟩
      obtain ⟨E, HE⟩ : ∃ E, Hid (parseE l = E) := ⟨_, hide rfl⟩
      obtain ⟨p2, q2, HV2⟩ : ∃ p q, Hid (acceptV k l n = (p, q)) := ⟨_, _, hide rfl⟩
      obtain ⟨E2, HE2⟩ : ∃ E, Hid (acceptE k l n = E) := ⟨_, hide rfl⟩
      have HTN := hide (parseT_len l)
      rw [HT.out] at HTN
      have HTL : Hid ((byt T).length = 32) := hide (by rw [byt_length, HTN.out])
      rw [HV.out] at hq
      rw [HV.out, HT.out, HE.out] at HRPA
      rw [HV2.out, HE2.out] at HOP HROP
      have HOV := hide (fun (x : World) => over_any p q n x hq hn)
      have HROV := hide (fun (x : World) => rover_any p q n x hq hn)
      obtain ⟨ov, HOV1⟩ : ∃ ov, Hid (overV q n = ov) := ⟨_, hide rfl⟩
      obtain ⟨oe, HOV2⟩ : ∃ oe, Hid (overE q n = oe) := ⟨_, hide rfl⟩
      rw [HOV1.out, HOV2.out] at HOV HROV
      clear hl hr hb hrb hbb hs hs2 HV HT HE HV2 HE2 hq HOV1 HOV2
      have K0 := Sep.refl No w
      go_enter Tryd.func6, Tryd.ntmps6
      go_wp2_with fail
      (with_reducible refine (HOP.out _ K0.toExt).mono ?_)
      rintro e u1 ⟨rfl, hx⟩
      have K1 := K0.ext hx
      clear K0 hx HOP
      have tok1 : True := trivial
      have tok2 : True := trivial
      go_wp2_with (first
        | (have zz := tok1; clear zz tok1; refine wpList_alS K1 rfl 24 rfl [.int .u32 0, .int .i64 0] (by kernel_rfl) ?_; intro u2 hz2 K2; clear hz2 K1)
        | (have zz := tok2; clear zz tok2; refine wpList_stS [] K2 rfl 24 (.tmp 7) (.tmp 32) rfl rfl (cs := [.int .u32 p2, .int .i64 q2]) rfl (by kernel_rfl) rfl (ses_one p2 q2) ?_; intro u3 K3; dsimp only [List.nil_append, List.cons_append] at K3; clear K2))
      obtain ⟨g7, G7⟩ : ∃ g, u1.heap.size = g := ⟨_, rfl⟩
      rw [G7] at K3 ⊢
      clear G7
      (with_reducible refine (HROP.out _ K3.toExt).mono ?_)
      rintro e t1 ⟨rfl, hx⟩
      have K1 := K3.ext hx
      clear K3 hx HROP
      have tok1 : True := trivial
      have tok2 : True := trivial
      go_wp2_with (first
        | (have zz := tok1; clear zz tok1; refine wpList_alS K1 rfl 24 rfl [.int .u32 0, .int .i64 0] (by kernel_rfl) ?_; intro t2 hz2 K2; clear hz2 K1)
        | (have zz := tok2; clear zz tok2; refine wpList_stS [] K2 rfl 24 (.tmp 9) (.tmp 39) rfl rfl (cs := [.int .u32 p2, .int .i64 q2]) rfl (by kernel_rfl) rfl (ses_one p2 q2) ?_; intro t3 K3; dsimp only [List.nil_append, List.cons_append] at K3; clear K2))
      obtain ⟨g9, G9⟩ : ∃ g, t1.heap.size = g := ⟨_, rfl⟩
      rw [G9] at K3 ⊢
      clear G9
      (with_reducible refine (HRPA.out _ K3.toExt).mono ?_)
      rintro e v1 ⟨rfl, hx⟩
      have K1 := K3.ext hx
      clear K3 hx HRPA
      have tok1 : True := trivial
      have tok2 : True := trivial
      have tok3 : True := trivial
      have tok4 : True := trivial
      go_upto_region 6 with (first
        | (have zz := tok1; clear zz tok1; refine wpList_alS K1 rfl 24 rfl [.int .u32 0, .int .i64 0] (by kernel_rfl) ?_; intro v2 hz2 K2; clear hz2 K1)
        | (have zz := tok2; clear zz tok2; refine wpList_alS K2 rfl 35 rfl (Z8 32) (by kernel_rfl) ?_; intro v3 hz3 K3; clear hz3 K2)
        | (have zz := tok3; clear zz tok3; refine wpList_stS [_] K3 rfl 24 (.tmp 11) (.tmp 44) rfl rfl (cs := [.int .u32 p, .int .i64 q]) rfl (by kernel_rfl) rfl (ses_one p q) ?_; intro v4 K4; dsimp only [List.nil_append, List.cons_append] at K4; clear K3)
        | (have zz := tok4; clear zz tok4; refine wpList_stS [] K4 rfl 35 (.tmp 12) (.tmp 45) rfl rfl (cs := byt T) rfl (by rw [HTL.out]; kernel_rfl) (by rw [HTL.out]; rfl) (byt_one _) ?_; intro v5 K5; dsimp only [List.nil_append, List.cons_append] at K5; clear K4))
      obtain ⟨g11, G11⟩ : ∃ g, v1.heap.size = g := ⟨_, rfl⟩
      obtain ⟨g12, G12⟩ : ∃ g, v2.heap.size = g := ⟨_, rfl⟩
      rw [G11, G12] at K5
      rw [G11, G12]
      clear G11 G12
      obtain ⟨c0, c1, hg0⟩ := cells2 (K5.blk (g := g11) (e := 24) (cs := [.int .u32 p, .int .i64 q]) (List.Mem.tail _ (List.Mem.head _)))
      have KK := hide K5
      clear K5
      go_wp2_with fail
      (with_reducible refine (HOV.out _).mono ?_)
      rintro e v6 ⟨rfl, hx⟩
      have K6 := KK.out.ext hx
      clear KK hx HOV c0 c1 hg0
      obtain ⟨c0, c1, hg0⟩ := cells2 (K6.blk (g := g11) (e := 24) (cs := [.int .u32 p, .int .i64 q]) (List.Mem.tail _ (List.Mem.head _)))
      have KK := hide K6
      clear K6
      go_wp2_with fail
      (with_reducible refine (HROV.out _).mono ?_)
      rintro e v7 ⟨rfl, hx⟩
      have K7 := KK.out.ext hx
      clear KK hx HROV c0 c1 hg0
      obtain ⟨c0, c1, hg0⟩ := cells2 (K7.blk (g := g7) (e := 24) (cs := [.int .u32 p2, .int .i64 q2]) (List.Mem.tail _ (List.Mem.tail _ (List.Mem.tail _ (List.Mem.head _)))))
      obtain ⟨e0, e1, hg1⟩ := cells2 (K7.blk (g := g9) (e := 24) (cs := [.int .u32 p2, .int .i64 q2]) (List.Mem.tail _ (List.Mem.tail _ (List.Mem.head _))))
      have KK := hide K7.toExt
      clear K7
      go_wp2_with fail
      (with_reducible refine (shown_any _ (HL.out.ext KK.out)).mono ?_)
      rintro e we ⟨rfl, hxe⟩
      have HX := hide (KK.out.trans hxe)
      clear KK hxe c0 c1 hg0 e0 e1 hg1
      go_wp2_with fail
      go_ret
      exact ⟨rfl, HX.out⟩
end Go.Proofs.YtckmbhdbabnmcaaDoor
