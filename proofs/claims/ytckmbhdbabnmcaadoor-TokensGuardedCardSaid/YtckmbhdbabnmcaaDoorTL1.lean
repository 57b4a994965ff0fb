/- Tokens: the law TokensRecords walked. -/
import Derived.Test.YtckmbhdbabnmcaaDoorTL0
namespace Go.Proofs.YtckmbhdbabnmcaaDoor
open Go.RowKit Go.Gr
set_option linter.unusedVariables false
set_option linter.unusedSimpArgs false
theorem enc_of {o u : Int} (hu : 0 ≤ u) : encB o u = recB o u ∧ encE u = 0 := ⟨by unfold encB; rw [if_neg (by omega)], by unfold encE; rw [if_neg (by omega)]⟩
theorem dec_of {o u : Int} (ho : 0 ≤ o ∧ o < 4294967296) (hu : 0 ≤ u ∧ u < 9223372036854775808) : decV (recB o u) = (o, u) ∧ decE (recB o u) = 0 := by
  have h := decE_rec ho hu
  exact ⟨by unfold decV; rw [if_pos h, (dec_rec ho hu).1, (dec_rec ho hu).2], h⟩
theorem rec_of {l : List Int} (hb : isB l) (h : decE l = 0) : ∃ p q, decV l = (p, q) ∧ (0 ≤ p ∧ p < 4294967296) ∧ (0 ≤ q ∧ q < 9223372036854775808) ∧ recB p q = l := by
  obtain ⟨h12, hlt⟩ := decE_zero h
  exact ⟨decO l, decU l, by unfold decV; rw [if_pos h], decO_range hb h12, ⟨(decU_range hb h12).1, hlt⟩, rec_dec hb h12⟩
set_option maxRecDepth 100000 in
set_option maxHeartbeats 2000000 in
theorem records_a (l B : List Int) (A : Option Addr) (c : Nat) (o u p q : Int) (w : World) (hl : Laid w) (hr : Rd w A (byt l)) (hb : isB l) (hc : l.length ≤ c) (hs : l.length ≤ 100) (hBl : isB B ∧ B.length ≤ 100000)
    (hen : ∀ x, Calls Tryd.prog 11 #[ses o u] x (RetS x B 0)) (hren : ∀ x, Calls Tryd.prog 12 #[ses o u] x (RetO x B 0))
    (hdc : ∀ x, Ext w x → Calls Tryd.prog 13 #[.slice A l.length c] x fun e w' => e = .returned (.tuple #[ses p q, .int .i64 0]) ∧ Ext x w') (hrdc : ∀ x, Ext w x → Calls Tryd.prog 14 #[.slice A l.length c] x fun e w' => e = .returned (.tuple #[ses p q, .int .i64 0]) ∧ Ext x w')
    (hd2 : ∀ A2 c2 x, Rd x A2 (byt B) → Calls Tryd.prog 13 #[.slice A2 B.length c2] x fun e w' => e = .returned (.tuple #[ses o u, .int .i64 0]) ∧ Ext x w')
    (hen2 : ∀ x, Calls Tryd.prog 11 #[ses p q] x (RetS x l 0)) :
    Calls Tryd.prog 3 #[ses o u, .slice A l.length c] w fun e w' => e = .returned (.bool true) ∧ Ext w w' := by
  have HL := hide hl
  have HR := hide hr
  have HEN := hide hen
  have HREN := hide hren
  have HDC := hide hdc
  have HRDC := hide hrdc
  have H0 := (Sep.refl No w).newB ((Ext.refl w).alloc (.cells #[.int .u32 o, .int .i64 u] 24)) (Blk.new w 24 [.int .u32 o, .int .i64 u]) (Nat.le_refl _)
  have d1 : ¬ (100 : Int) < (l.length : Int) := by omega
  have HD2 := hide hd2
  have HEN2 := hide hen2
  clear hl hr hen hren hdc hrdc hd2 hen2
  have tok1 : True := trivial
  have tok2 : True := trivial
  have tok3 : True := trivial
  have tok4 : True := trivial
  have tok5 : True := trivial
  have tok6 : True := trivial
  go_enter Tryd.func3, Tryd.ntmps3
  obtain ⟨c0, c1, hg0⟩ := cells2 (H0.blk (g := w.heap.size) (e := 24) (cs := [.int .u32 o, .int .i64 u]) (List.Mem.head _))
  go_wp2_with fail
  (with_reducible refine (HEN.out _).mono ?_)
  rintro e w2 ⟨A2, c2, rfl, hc2, hS⟩
  have K2 := H0.join hS
  dsimp only [List.nil_append, List.cons_append] at K2
  clear H0 hS c0 c1 hg0
  obtain ⟨g2, G2⟩ : ∃ g, w.heap.size = g := ⟨_, rfl⟩
  rw [G2] at K2 ⊢
  clear G2
  obtain ⟨c0, c1, hg0⟩ := cells2 (K2.blk (g := g2) (e := 24) (cs := [.int .u32 o, .int .i64 u]) (List.Mem.tail _ (List.Mem.head _)))
  have KK := hide K2
  clear K2
  go_wp2_with fail
  (with_reducible refine (HREN.out _).mono ?_)
  rintro e w3 ⟨v3, rfl, hS⟩
  have K3 := KK.out.join hS
  dsimp only [List.nil_append, List.cons_append] at K3
  clear KK hS c0 c1 hg0
  obtain ⟨A3, c3, rfl, hr3, hc3⟩ := own_form (K3.owns (List.Mem.head _))
  clear hr3
  have KK := hide K3
  clear K3
  go_wp2_with fail
  (with_reducible refine (HDC.out _ KK.out.toExt).mono ?_)
  rintro e w4 ⟨rfl, hx4⟩
  have K4 := KK.out.ext hx4
  clear KK hx4 HDC
  go_wp2_with (first
    | (have zz := tok1; clear zz tok1; refine wpList_alS K4 rfl 24 rfl [.int .u32 0, .int .i64 0] (by kernel_rfl) ?_; intro w5 hz5 K5; clear hz5 K4)
    | (have zz := tok2; clear zz tok2; refine wpList_stS [] K5 rfl 24 (.tmp 9) (.tmp 34) rfl rfl (cs := [.int .u32 p, .int .i64 q]) rfl (by kernel_rfl) rfl (ses_one p q) ?_; intro w6 K6; dsimp only [List.nil_append] at K6; clear K5))
  obtain ⟨g9, G9⟩ : ∃ g, w4.heap.size = g := ⟨_, rfl⟩
  rw [G9] at K6 ⊢
  clear G9
  (with_reducible refine (HRDC.out _ K6.toExt).mono ?_)
  rintro e w7 ⟨rfl, hx7⟩
  have K7 := K6.ext hx7
  clear K6 hx7 HRDC
  go_upto_region 7 with (first
    | (have zz := tok3; clear zz tok3; refine wpList_alS K7 rfl 24 rfl [.int .u32 0, .int .i64 0] (by kernel_rfl) ?_; intro w8 hz8 K8; clear hz8 K7)
    | (have zz := tok4; clear zz tok4; refine wpList_stS [] K8 rfl 24 (.tmp 11) (.tmp 39) rfl rfl (cs := [.int .u32 p, .int .i64 q]) rfl (by kernel_rfl) rfl (ses_one p q) ?_; intro w9 K9; dsimp only [List.nil_append] at K9; clear K8))
  obtain ⟨g11, G11⟩ : ∃ g, w7.heap.size = g := ⟨_, rfl⟩
  rw [G11] at K9 ⊢
  clear G11
  obtain ⟨c0, c1, hg0⟩ := cells2 (K9.blk (g := g11) (e := 24) (cs := [.int .u32 p, .int .i64 q]) (List.Mem.head _))
  obtain ⟨e0, e1, hg1⟩ := cells2 (K9.blk (g := g9) (e := 24) (cs := [.int .u32 p, .int .i64 q]) (List.Mem.tail _ (List.Mem.head _)))
  have hrx : Rd w9 A2 (byt B) := K9.get (A := As.rd A2 (byt B)) (List.Mem.tail _ (List.Mem.tail _ (List.Mem.tail _ (List.Mem.head _))))
  obtain ⟨_, _, hev, hr3, _⟩ := own_form (K9.owns (e := 5) (xs := byt B) (List.Mem.tail _ (List.Mem.tail _ (List.Mem.head _))))
  cases hev
  have hcv1 := str_of c2 hrx
  have hcv2 := str_of c3 hr3
  generalize strOfNums B = sB at hcv1 hcv2
  have KK := hide K9
  have HRX := hide hrx
  clear K9 hr3 hrx
  go_wp2_with fail
  (with_reducible refine (HD2.out _ _ _ HRX.out).mono ?_)
  rintro e wa ⟨rfl, hxa⟩
  have Ka := KK.out.ext hxa
  clear KK hxa HD2 HRX hcv1 hcv2 c0 c1 hg0 e0 e1 hg1
  go_upto_region 11 with (first
    | (have zz := tok5; clear zz tok5; refine wpList_alS Ka rfl 24 rfl [.int .u32 0, .int .i64 0] (by kernel_rfl) ?_; intro wb hzb Kb; clear hzb Ka)
    | (have zz := tok6; clear zz tok6; refine wpList_stS [] Kb rfl 24 (.tmp 13) (.tmp 66) rfl rfl (cs := [.int .u32 o, .int .i64 u]) rfl (by kernel_rfl) rfl (ses_one o u) ?_; intro wc Kc; dsimp only [List.nil_append] at Kc; clear Kb))
  obtain ⟨g13, G13⟩ : ∃ g, wa.heap.size = g := ⟨_, rfl⟩
  rw [G13] at Kc ⊢
  clear G13
  obtain ⟨c0, c1, hg0⟩ := cells2 (Kc.blk (g := g13) (e := 24) (cs := [.int .u32 o, .int .i64 u]) (List.Mem.head _))
  obtain ⟨e0, e1, hg1⟩ := cells2 (Kc.blk (g := g9) (e := 24) (cs := [.int .u32 p, .int .i64 q]) (List.Mem.tail _ (List.Mem.tail _ (List.Mem.head _))))
  obtain ⟨f0, f1, hg2⟩ := cells2 (Kc.blk (g := g2) (e := 24) (cs := [.int .u32 o, .int .i64 u]) (List.Mem.tail _ (List.Mem.tail _ (List.Mem.tail _ (List.Mem.tail _ (List.Mem.tail _ (List.Mem.head _)))))))
  have KK := hide Kc
  clear Kc
  go_wp2_with fail
  (with_reducible refine (HEN2.out _).mono ?_)
  rintro e wd ⟨Ad, cd, rfl, hcd, hS⟩
  have Kd := KK.out.join hS
  dsimp only [List.nil_append, List.cons_append] at Kd
  clear KK hS c0 c1 hg0 e0 e1 hg1 f0 f1 hg2
  have hcv3 := str_of cd (Kd.get (A := As.rd Ad (byt l)) (List.Mem.head _))
  have hcv4 := str_of c (Kd.rdN HR.out)
  generalize strOfNums l = sl at hcv3 hcv4
  have KK := hide Kd.toExt
  clear Kd
  go_wp2_with fail
  (with_reducible refine (shown_any _ (HL.out.ext KK.out)).mono ?_)
  rintro e we ⟨rfl, hxe⟩
  go_wp2_with fail
  go_ret
  exact ⟨rfl, KK.out.trans hxe⟩
set_option maxRecDepth 100000 in
set_option maxHeartbeats 2000000 in
theorem records_b (l B : List Int) (A : Option Addr) (c : Nat) (o u p q : Int) (w : World) (hl : Laid w) (hr : Rd w A (byt l)) (hb : isB l) (hc : l.length ≤ c) (hs : l.length ≤ 100) (hBl : isB B ∧ B.length ≤ 100000)
    (hen : ∀ x, Calls Tryd.prog 11 #[ses o u] x (RetS x B 7)) (hren : ∀ x, Calls Tryd.prog 12 #[ses o u] x (RetO x B 7))
    (hdc : ∀ x, Ext w x → Calls Tryd.prog 13 #[.slice A l.length c] x fun e w' => e = .returned (.tuple #[ses p q, .int .i64 0]) ∧ Ext x w') (hrdc : ∀ x, Ext w x → Calls Tryd.prog 14 #[.slice A l.length c] x fun e w' => e = .returned (.tuple #[ses p q, .int .i64 0]) ∧ Ext x w')
    (hen2 : ∀ x, Calls Tryd.prog 11 #[ses p q] x (RetS x l 0)) :
    Calls Tryd.prog 3 #[ses o u, .slice A l.length c] w fun e w' => e = .returned (.bool true) ∧ Ext w w' := by
  have HL := hide hl
  have HR := hide hr
  have HEN := hide hen
  have HREN := hide hren
  have HDC := hide hdc
  have HRDC := hide hrdc
  have H0 := (Sep.refl No w).newB ((Ext.refl w).alloc (.cells #[.int .u32 o, .int .i64 u] 24)) (Blk.new w 24 [.int .u32 o, .int .i64 u]) (Nat.le_refl _)
  have d1 : ¬ (100 : Int) < (l.length : Int) := by omega
  have HEN2 := hide hen2
  clear hl hr hen hren hdc hrdc hen2
  have tok1 : True := trivial
  have tok2 : True := trivial
  have tok3 : True := trivial
  have tok4 : True := trivial
  have tok5 : True := trivial
  have tok6 : True := trivial
  go_enter Tryd.func3, Tryd.ntmps3
  obtain ⟨c0, c1, hg0⟩ := cells2 (H0.blk (g := w.heap.size) (e := 24) (cs := [.int .u32 o, .int .i64 u]) (List.Mem.head _))
  go_wp2_with fail
  (with_reducible refine (HEN.out _).mono ?_)
  rintro e w2 ⟨A2, c2, rfl, hc2, hS⟩
  have K2 := H0.join hS
  dsimp only [List.nil_append, List.cons_append] at K2
  clear H0 hS c0 c1 hg0
  obtain ⟨g2, G2⟩ : ∃ g, w.heap.size = g := ⟨_, rfl⟩
  rw [G2] at K2 ⊢
  clear G2
  obtain ⟨c0, c1, hg0⟩ := cells2 (K2.blk (g := g2) (e := 24) (cs := [.int .u32 o, .int .i64 u]) (List.Mem.tail _ (List.Mem.head _)))
  have KK := hide K2
  clear K2
  go_wp2_with fail
  (with_reducible refine (HREN.out _).mono ?_)
  rintro e w3 ⟨v3, rfl, hS⟩
  have K3 := KK.out.join hS
  dsimp only [List.nil_append, List.cons_append] at K3
  clear KK hS c0 c1 hg0
  obtain ⟨A3, c3, rfl, hr3, hc3⟩ := own_form (K3.owns (List.Mem.head _))
  clear hr3
  have KK := hide K3
  clear K3
  go_wp2_with fail
  (with_reducible refine (HDC.out _ KK.out.toExt).mono ?_)
  rintro e w4 ⟨rfl, hx4⟩
  have K4 := KK.out.ext hx4
  clear KK hx4 HDC
  go_wp2_with (first
    | (have zz := tok1; clear zz tok1; refine wpList_alS K4 rfl 24 rfl [.int .u32 0, .int .i64 0] (by kernel_rfl) ?_; intro w5 hz5 K5; clear hz5 K4)
    | (have zz := tok2; clear zz tok2; refine wpList_stS [] K5 rfl 24 (.tmp 9) (.tmp 34) rfl rfl (cs := [.int .u32 p, .int .i64 q]) rfl (by kernel_rfl) rfl (ses_one p q) ?_; intro w6 K6; dsimp only [List.nil_append] at K6; clear K5))
  obtain ⟨g9, G9⟩ : ∃ g, w4.heap.size = g := ⟨_, rfl⟩
  rw [G9] at K6 ⊢
  clear G9
  (with_reducible refine (HRDC.out _ K6.toExt).mono ?_)
  rintro e w7 ⟨rfl, hx7⟩
  have K7 := K6.ext hx7
  clear K6 hx7 HRDC
  go_upto_region 7 with (first
    | (have zz := tok3; clear zz tok3; refine wpList_alS K7 rfl 24 rfl [.int .u32 0, .int .i64 0] (by kernel_rfl) ?_; intro w8 hz8 K8; clear hz8 K7)
    | (have zz := tok4; clear zz tok4; refine wpList_stS [] K8 rfl 24 (.tmp 11) (.tmp 39) rfl rfl (cs := [.int .u32 p, .int .i64 q]) rfl (by kernel_rfl) rfl (ses_one p q) ?_; intro w9 K9; dsimp only [List.nil_append] at K9; clear K8))
  obtain ⟨g11, G11⟩ : ∃ g, w7.heap.size = g := ⟨_, rfl⟩
  rw [G11] at K9 ⊢
  clear G11
  obtain ⟨c0, c1, hg0⟩ := cells2 (K9.blk (g := g11) (e := 24) (cs := [.int .u32 p, .int .i64 q]) (List.Mem.head _))
  obtain ⟨e0, e1, hg1⟩ := cells2 (K9.blk (g := g9) (e := 24) (cs := [.int .u32 p, .int .i64 q]) (List.Mem.tail _ (List.Mem.head _)))
  have hrx : Rd w9 A2 (byt B) := K9.get (A := As.rd A2 (byt B)) (List.Mem.tail _ (List.Mem.tail _ (List.Mem.tail _ (List.Mem.head _))))
  obtain ⟨_, _, hev, hr3, _⟩ := own_form (K9.owns (e := 5) (xs := byt B) (List.Mem.tail _ (List.Mem.tail _ (List.Mem.head _))))
  cases hev
  have hcv1 := str_of c2 hrx
  have hcv2 := str_of c3 hr3
  generalize strOfNums B = sB at hcv1 hcv2
  have KK := hide K9
  have HRX := hide hrx
  clear K9 hr3 hrx
  go_wp2_with fail
  (with_reducible refine (HEN2.out _).mono ?_)
  rintro e wd ⟨Ad, cd, rfl, hcd, hS⟩
  have Kd := KK.out.join hS
  dsimp only [List.nil_append, List.cons_append] at Kd
  clear KK hS c0 c1 hg0 e0 e1 hg1 hcv1 hcv2 HRX
  have hcv3 := str_of cd (Kd.get (A := As.rd Ad (byt l)) (List.Mem.head _))
  have hcv4 := str_of c (Kd.rdN HR.out)
  generalize strOfNums l = sl at hcv3 hcv4
  have KK := hide Kd.toExt
  clear Kd
  go_wp2_with fail
  (with_reducible refine (shown_any _ (HL.out.ext KK.out)).mono ?_)
  rintro e we ⟨rfl, hxe⟩
  go_wp2_with fail
  go_ret
  exact ⟨rfl, KK.out.trans hxe⟩
set_option maxRecDepth 100000 in
set_option maxHeartbeats 2000000 in
theorem records_c (l B : List Int) (A : Option Addr) (c : Nat) (o u p q : Int) (w : World) (hl : Laid w) (hr : Rd w A (byt l)) (hb : isB l) (hc : l.length ≤ c) (hs : l.length ≤ 100) (hBl : isB B ∧ B.length ≤ 100000)
    (hen : ∀ x, Calls Tryd.prog 11 #[ses o u] x (RetS x B 0)) (hren : ∀ x, Calls Tryd.prog 12 #[ses o u] x (RetO x B 0))
    (hdc : ∀ x, Ext w x → Calls Tryd.prog 13 #[.slice A l.length c] x fun e w' => e = .returned (.tuple #[ses p q, .int .i64 11]) ∧ Ext x w') (hrdc : ∀ x, Ext w x → Calls Tryd.prog 14 #[.slice A l.length c] x fun e w' => e = .returned (.tuple #[ses p q, .int .i64 11]) ∧ Ext x w')
    (hd2 : ∀ A2 c2 x, Rd x A2 (byt B) → Calls Tryd.prog 13 #[.slice A2 B.length c2] x fun e w' => e = .returned (.tuple #[ses o u, .int .i64 0]) ∧ Ext x w') :
    Calls Tryd.prog 3 #[ses o u, .slice A l.length c] w fun e w' => e = .returned (.bool true) ∧ Ext w w' := by
  have HL := hide hl
  have HR := hide hr
  have HEN := hide hen
  have HREN := hide hren
  have HDC := hide hdc
  have HRDC := hide hrdc
  have H0 := (Sep.refl No w).newB ((Ext.refl w).alloc (.cells #[.int .u32 o, .int .i64 u] 24)) (Blk.new w 24 [.int .u32 o, .int .i64 u]) (Nat.le_refl _)
  have d1 : ¬ (100 : Int) < (l.length : Int) := by omega
  have HD2 := hide hd2
  clear hl hr hen hren hdc hrdc hd2
  have tok1 : True := trivial
  have tok2 : True := trivial
  have tok3 : True := trivial
  have tok4 : True := trivial
  have tok5 : True := trivial
  have tok6 : True := trivial
  go_enter Tryd.func3, Tryd.ntmps3
  obtain ⟨c0, c1, hg0⟩ := cells2 (H0.blk (g := w.heap.size) (e := 24) (cs := [.int .u32 o, .int .i64 u]) (List.Mem.head _))
  go_wp2_with fail
  (with_reducible refine (HEN.out _).mono ?_)
  rintro e w2 ⟨A2, c2, rfl, hc2, hS⟩
  have K2 := H0.join hS
  dsimp only [List.nil_append, List.cons_append] at K2
  clear H0 hS c0 c1 hg0
  obtain ⟨g2, G2⟩ : ∃ g, w.heap.size = g := ⟨_, rfl⟩
  rw [G2] at K2 ⊢
  clear G2
  obtain ⟨c0, c1, hg0⟩ := cells2 (K2.blk (g := g2) (e := 24) (cs := [.int .u32 o, .int .i64 u]) (List.Mem.tail _ (List.Mem.head _)))
  have KK := hide K2
  clear K2
  go_wp2_with fail
  (with_reducible refine (HREN.out _).mono ?_)
  rintro e w3 ⟨v3, rfl, hS⟩
  have K3 := KK.out.join hS
  dsimp only [List.nil_append, List.cons_append] at K3
  clear KK hS c0 c1 hg0
  obtain ⟨A3, c3, rfl, hr3, hc3⟩ := own_form (K3.owns (List.Mem.head _))
  clear hr3
  have KK := hide K3
  clear K3
  go_wp2_with fail
  (with_reducible refine (HDC.out _ KK.out.toExt).mono ?_)
  rintro e w4 ⟨rfl, hx4⟩
  have K4 := KK.out.ext hx4
  clear KK hx4 HDC
  go_wp2_with (first
    | (have zz := tok1; clear zz tok1; refine wpList_alS K4 rfl 24 rfl [.int .u32 0, .int .i64 0] (by kernel_rfl) ?_; intro w5 hz5 K5; clear hz5 K4)
    | (have zz := tok2; clear zz tok2; refine wpList_stS [] K5 rfl 24 (.tmp 9) (.tmp 34) rfl rfl (cs := [.int .u32 p, .int .i64 q]) rfl (by kernel_rfl) rfl (ses_one p q) ?_; intro w6 K6; dsimp only [List.nil_append] at K6; clear K5))
  obtain ⟨g9, G9⟩ : ∃ g, w4.heap.size = g := ⟨_, rfl⟩
  rw [G9] at K6 ⊢
  clear G9
  (with_reducible refine (HRDC.out _ K6.toExt).mono ?_)
  rintro e w7 ⟨rfl, hx7⟩
  have K7 := K6.ext hx7
  clear K6 hx7 HRDC
  go_upto_region 7 with (first
    | (have zz := tok3; clear zz tok3; refine wpList_alS K7 rfl 24 rfl [.int .u32 0, .int .i64 0] (by kernel_rfl) ?_; intro w8 hz8 K8; clear hz8 K7)
    | (have zz := tok4; clear zz tok4; refine wpList_stS [] K8 rfl 24 (.tmp 11) (.tmp 39) rfl rfl (cs := [.int .u32 p, .int .i64 q]) rfl (by kernel_rfl) rfl (ses_one p q) ?_; intro w9 K9; dsimp only [List.nil_append] at K9; clear K8))
  obtain ⟨g11, G11⟩ : ∃ g, w7.heap.size = g := ⟨_, rfl⟩
  rw [G11] at K9 ⊢
  clear G11
  obtain ⟨c0, c1, hg0⟩ := cells2 (K9.blk (g := g11) (e := 24) (cs := [.int .u32 p, .int .i64 q]) (List.Mem.head _))
  obtain ⟨e0, e1, hg1⟩ := cells2 (K9.blk (g := g9) (e := 24) (cs := [.int .u32 p, .int .i64 q]) (List.Mem.tail _ (List.Mem.head _)))
  have hrx : Rd w9 A2 (byt B) := K9.get (A := As.rd A2 (byt B)) (List.Mem.tail _ (List.Mem.tail _ (List.Mem.tail _ (List.Mem.head _))))
  obtain ⟨_, _, hev, hr3, _⟩ := own_form (K9.owns (e := 5) (xs := byt B) (List.Mem.tail _ (List.Mem.tail _ (List.Mem.head _))))
  cases hev
  have hcv1 := str_of c2 hrx
  have hcv2 := str_of c3 hr3
  generalize strOfNums B = sB at hcv1 hcv2
  have KK := hide K9
  have HRX := hide hrx
  clear K9 hr3 hrx
  go_wp2_with fail
  (with_reducible refine (HD2.out _ _ _ HRX.out).mono ?_)
  rintro e wa ⟨rfl, hxa⟩
  have Ka := KK.out.ext hxa
  clear KK hxa HD2 HRX hcv1 hcv2 c0 c1 hg0 e0 e1 hg1
  go_upto_region 11 with (first
    | (have zz := tok5; clear zz tok5; refine wpList_alS Ka rfl 24 rfl [.int .u32 0, .int .i64 0] (by kernel_rfl) ?_; intro wb hzb Kb; clear hzb Ka)
    | (have zz := tok6; clear zz tok6; refine wpList_stS [] Kb rfl 24 (.tmp 13) (.tmp 66) rfl rfl (cs := [.int .u32 o, .int .i64 u]) rfl (by kernel_rfl) rfl (ses_one o u) ?_; intro wc Kc; dsimp only [List.nil_append] at Kc; clear Kb))
  obtain ⟨g13, G13⟩ : ∃ g, wa.heap.size = g := ⟨_, rfl⟩
  rw [G13] at Kc ⊢
  clear G13
  obtain ⟨c0, c1, hg0⟩ := cells2 (Kc.blk (g := g13) (e := 24) (cs := [.int .u32 o, .int .i64 u]) (List.Mem.head _))
  obtain ⟨e0, e1, hg1⟩ := cells2 (Kc.blk (g := g9) (e := 24) (cs := [.int .u32 p, .int .i64 q]) (List.Mem.tail _ (List.Mem.tail _ (List.Mem.head _))))
  obtain ⟨f0, f1, hg2⟩ := cells2 (Kc.blk (g := g2) (e := 24) (cs := [.int .u32 o, .int .i64 u]) (List.Mem.tail _ (List.Mem.tail _ (List.Mem.tail _ (List.Mem.tail _ (List.Mem.tail _ (List.Mem.head _)))))))
  have KK := hide Kc
  clear Kc
  go_wp2_with fail
  (with_reducible refine (shown_any _ (HL.out.ext KK.out.toExt)).mono ?_)
  rintro e we ⟨rfl, hxe⟩
  go_wp2_with fail
  go_ret
  exact ⟨rfl, KK.out.toExt.trans hxe⟩
set_option maxRecDepth 100000 in
set_option maxHeartbeats 2000000 in
theorem records_d (l B : List Int) (A : Option Addr) (c : Nat) (o u p q : Int) (w : World) (hl : Laid w) (hr : Rd w A (byt l)) (hb : isB l) (hc : l.length ≤ c) (hs : l.length ≤ 100) (hBl : isB B ∧ B.length ≤ 100000)
    (hen : ∀ x, Calls Tryd.prog 11 #[ses o u] x (RetS x B 7)) (hren : ∀ x, Calls Tryd.prog 12 #[ses o u] x (RetO x B 7))
    (hdc : ∀ x, Ext w x → Calls Tryd.prog 13 #[.slice A l.length c] x fun e w' => e = .returned (.tuple #[ses p q, .int .i64 11]) ∧ Ext x w') (hrdc : ∀ x, Ext w x → Calls Tryd.prog 14 #[.slice A l.length c] x fun e w' => e = .returned (.tuple #[ses p q, .int .i64 11]) ∧ Ext x w') :
    Calls Tryd.prog 3 #[ses o u, .slice A l.length c] w fun e w' => e = .returned (.bool true) ∧ Ext w w' := by
  have HL := hide hl
  have HR := hide hr
  have HEN := hide hen
  have HREN := hide hren
  have HDC := hide hdc
  have HRDC := hide hrdc
  have H0 := (Sep.refl No w).newB ((Ext.refl w).alloc (.cells #[.int .u32 o, .int .i64 u] 24)) (Blk.new w 24 [.int .u32 o, .int .i64 u]) (Nat.le_refl _)
  have d1 : ¬ (100 : Int) < (l.length : Int) := by omega
  clear hl hr hen hren hdc hrdc
  have tok1 : True := trivial
  have tok2 : True := trivial
  have tok3 : True := trivial
  have tok4 : True := trivial
  have tok5 : True := trivial
  have tok6 : True := trivial
  go_enter Tryd.func3, Tryd.ntmps3
  obtain ⟨c0, c1, hg0⟩ := cells2 (H0.blk (g := w.heap.size) (e := 24) (cs := [.int .u32 o, .int .i64 u]) (List.Mem.head _))
  go_wp2_with fail
  (with_reducible refine (HEN.out _).mono ?_)
  rintro e w2 ⟨A2, c2, rfl, hc2, hS⟩
  have K2 := H0.join hS
  dsimp only [List.nil_append, List.cons_append] at K2
  clear H0 hS c0 c1 hg0
  obtain ⟨g2, G2⟩ : ∃ g, w.heap.size = g := ⟨_, rfl⟩
  rw [G2] at K2 ⊢
  clear G2
  obtain ⟨c0, c1, hg0⟩ := cells2 (K2.blk (g := g2) (e := 24) (cs := [.int .u32 o, .int .i64 u]) (List.Mem.tail _ (List.Mem.head _)))
  have KK := hide K2
  clear K2
  go_wp2_with fail
  (with_reducible refine (HREN.out _).mono ?_)
  rintro e w3 ⟨v3, rfl, hS⟩
  have K3 := KK.out.join hS
  dsimp only [List.nil_append, List.cons_append] at K3
  clear KK hS c0 c1 hg0
  obtain ⟨A3, c3, rfl, hr3, hc3⟩ := own_form (K3.owns (List.Mem.head _))
  clear hr3
  have KK := hide K3
  clear K3
  go_wp2_with fail
  (with_reducible refine (HDC.out _ KK.out.toExt).mono ?_)
  rintro e w4 ⟨rfl, hx4⟩
  have K4 := KK.out.ext hx4
  clear KK hx4 HDC
  go_wp2_with (first
    | (have zz := tok1; clear zz tok1; refine wpList_alS K4 rfl 24 rfl [.int .u32 0, .int .i64 0] (by kernel_rfl) ?_; intro w5 hz5 K5; clear hz5 K4)
    | (have zz := tok2; clear zz tok2; refine wpList_stS [] K5 rfl 24 (.tmp 9) (.tmp 34) rfl rfl (cs := [.int .u32 p, .int .i64 q]) rfl (by kernel_rfl) rfl (ses_one p q) ?_; intro w6 K6; dsimp only [List.nil_append] at K6; clear K5))
  obtain ⟨g9, G9⟩ : ∃ g, w4.heap.size = g := ⟨_, rfl⟩
  rw [G9] at K6 ⊢
  clear G9
  (with_reducible refine (HRDC.out _ K6.toExt).mono ?_)
  rintro e w7 ⟨rfl, hx7⟩
  have K7 := K6.ext hx7
  clear K6 hx7 HRDC
  go_upto_region 7 with (first
    | (have zz := tok3; clear zz tok3; refine wpList_alS K7 rfl 24 rfl [.int .u32 0, .int .i64 0] (by kernel_rfl) ?_; intro w8 hz8 K8; clear hz8 K7)
    | (have zz := tok4; clear zz tok4; refine wpList_stS [] K8 rfl 24 (.tmp 11) (.tmp 39) rfl rfl (cs := [.int .u32 p, .int .i64 q]) rfl (by kernel_rfl) rfl (ses_one p q) ?_; intro w9 K9; dsimp only [List.nil_append] at K9; clear K8))
  obtain ⟨g11, G11⟩ : ∃ g, w7.heap.size = g := ⟨_, rfl⟩
  rw [G11] at K9 ⊢
  clear G11
  obtain ⟨c0, c1, hg0⟩ := cells2 (K9.blk (g := g11) (e := 24) (cs := [.int .u32 p, .int .i64 q]) (List.Mem.head _))
  obtain ⟨e0, e1, hg1⟩ := cells2 (K9.blk (g := g9) (e := 24) (cs := [.int .u32 p, .int .i64 q]) (List.Mem.tail _ (List.Mem.head _)))
  have hrx : Rd w9 A2 (byt B) := K9.get (A := As.rd A2 (byt B)) (List.Mem.tail _ (List.Mem.tail _ (List.Mem.tail _ (List.Mem.head _))))
  obtain ⟨_, _, hev, hr3, _⟩ := own_form (K9.owns (e := 5) (xs := byt B) (List.Mem.tail _ (List.Mem.tail _ (List.Mem.head _))))
  cases hev
  have hcv1 := str_of c2 hrx
  have hcv2 := str_of c3 hr3
  generalize strOfNums B = sB at hcv1 hcv2
  have KK := hide K9
  have HRX := hide hrx
  clear K9 hr3 hrx
  go_wp2_with fail
  (with_reducible refine (shown_any _ (HL.out.ext KK.out.toExt)).mono ?_)
  rintro e we ⟨rfl, hxe⟩
  go_wp2_with fail
  go_ret
  exact ⟨rfl, KK.out.toExt.trans hxe⟩
theorem records_law (w : World) (hl : Laid w) (v0 : Value) (h0 : ∃ cs, v0 = .agg cs ∧ Lvs Tryd.prog w [.int .u32, .int .i64] cs.toList) (v1 : Value) (h1 : LfOk Tryd.prog w (.slice 5) v1) : Calls Tryd.prog 3 #[v0, v1] w fun e w' => e = .returned (.bool true) ∧ Ext w w' := by
  obtain ⟨A, l, c, rfl, hr, hb, hc, hm⟩ := bytes_arg h1
  obtain ⟨o, u, rfl, ho, hu⟩ := sesA h0
  clear h0 h1
  by_cases hs : 100 < l.length
  · have d1 : (100 : Int) < (l.length : Int) := by omega
    have HL := hide hl
    have HX := hide ((Ext.refl w).alloc (.cells #[.int .u32 o, .int .i64 u] 24))
    clear hl hr hb hs
    go_enter Tryd.func3, Tryd.ntmps3
    go_wp2_with fail
    (with_reducible refine (shown_any _ (HL.out.ext HX.out)).mono ?_)
    rintro e w1 ⟨rfl, hx⟩
    go_wp2_with fail
    go_ret
    exact ⟨rfl, HX.out.trans hx⟩
  · have hen := fun (x : World) => enc_any o u x ho hu
    have hren := fun (x : World) => renc_any o u x ho hu
    have hdc := fun (x : World) (h : Ext w x) => dec_any l A c x (hr.ext h) hb (by omega)
    have hrdc := fun (x : World) (h : Ext w x) => rdec_any l A c x (hr.ext h) hb (by omega) hc
    rcases decE_two l with hd | hd
    · obtain ⟨p, q, hV, hp, hq, hrec⟩ := rec_of hb hd
      have hen2 := fun (x : World) => enc_any p q x hp ⟨by omega, by omega⟩
      rw [(enc_of (o := p) hq.1).1, (enc_of (o := p) hq.1).2, hrec] at hen2
      rw [hV, hd] at hdc hrdc
      by_cases hneg : u < 0
      · rw [show encB o u = [] by unfold encB; rw [if_pos hneg], show encE u = 7 by unfold encE; rw [if_pos hneg]] at hen hren
        exact records_b l [] A c o u p q w hl hr hb hc (by omega) ⟨(by intro x hx; cases hx), by decide⟩ hen hren hdc hrdc hen2
      · have hu0 : 0 ≤ u ∧ u < 9223372036854775808 := by omega
        rw [(enc_of (o := o) hu0.1).1, (enc_of (o := o) hu0.1).2] at hen hren
        have hd2 := fun A2 c2 (x : World) (h : Rd x A2 (byt (recB o u))) => dec_any (recB o u) A2 c2 x h (recB_isB o u) (by rw [recB_len]; decide)
        rw [(dec_of ho hu0).1, (dec_of ho hu0).2] at hd2
        exact records_a l (recB o u) A c o u p q w hl hr hb hc (by omega) ⟨recB_isB o u, by rw [recB_len]; decide⟩ hen hren hdc hrdc hd2 hen2
    · rw [show decV l = (0, 0) by unfold decV; rw [if_neg (by rw [hd]; decide)], hd] at hdc hrdc
      by_cases hneg : u < 0
      · rw [show encB o u = [] by unfold encB; rw [if_pos hneg], show encE u = 7 by unfold encE; rw [if_pos hneg]] at hen hren
        exact records_d l [] A c o u 0 0 w hl hr hb hc (by omega) ⟨(by intro x hx; cases hx), by decide⟩ hen hren hdc hrdc
      · have hu0 : 0 ≤ u ∧ u < 9223372036854775808 := by omega
        rw [(enc_of (o := o) hu0.1).1, (enc_of (o := o) hu0.1).2] at hen hren
        have hd2 := fun A2 c2 (x : World) (h : Rd x A2 (byt (recB o u))) => dec_any (recB o u) A2 c2 x h (recB_isB o u) (by rw [recB_len]; decide)
        rw [(dec_of ho hu0).1, (dec_of ho hu0).2] at hd2
        exact records_c l (recB o u) A c o u 0 0 w hl hr hb hc (by omega) ⟨recB_isB o u, by rw [recB_len]; decide⟩ hen hren hdc hrdc hd2
end Go.Proofs.YtckmbhdbabnmcaaDoor
