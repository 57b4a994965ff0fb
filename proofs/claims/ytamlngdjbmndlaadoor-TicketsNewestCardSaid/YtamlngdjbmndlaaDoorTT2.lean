/- Tickets: the law TicketsRecords walked. -/
import Derived.Test.YtamlngdjbmndlaaDoorGe
namespace Go.Proofs.YtamlngdjbmndlaaDoor
open Go.RowKit Go.Gr
set_option linter.unusedVariables false
set_option linter.unusedSimpArgs false
theorem encT_of {s o n e : Int} (h : s < 4096 ∧ n ≠ 0) : encTB s o n e = recT s o n e ∧ encTE s n = 0 := ⟨by unfold encTB; rw [if_pos h], by unfold encTE; rw [if_pos h]⟩
theorem encT_no {s o n e : Int} (h : ¬ (s < 4096 ∧ n ≠ 0)) : encTB s o n e = [] ∧ encTE s n = 7 := ⟨by unfold encTB; rw [if_neg h], by unfold encTE; rw [if_neg h]⟩
theorem recT_of {l : List Int} (hb : isB l) (h : decTE l = 0) : ∃ p q r s, decTV l = (p, q, r, s) ∧ TiB p q r s ∧ (p < 4096 ∧ r ≠ 0) ∧ recT p q r s = l := by
  obtain ⟨h24, hs, hn⟩ := decTE_zero h
  exact ⟨tS l, tO l, tN l, tE l, by unfold decTV; rw [if_pos h], dec_TiB hb h24, ⟨hs, hn⟩, dec_recT hb h24⟩
set_option maxRecDepth 100000 in
set_option maxHeartbeats 2000000 in
theorem records_a (l B : List Int) (A : Option Addr) (c : Nat) (s1 o1 n1 e1 p q r s : Int) (w : World) (hl : Laid w) (hr : Rd w A (byt l)) (hb : isB l) (hc : l.length ≤ c) (hs : l.length ≤ 100) (hBl : isB B ∧ B.length ≤ 100000)
    (hen : ∀ x, Calls Tryd.prog 11 #[tkv s1 o1 n1 e1] x (RetS x B 0)) (hren : ∀ x, Calls Tryd.prog 12 #[tkv s1 o1 n1 e1] x (RetO x B 0))
    (hdc : ∀ x, Ext w x → Calls Tryd.prog 13 #[.slice A l.length c] x fun e w' => e = .returned (.tuple #[tkv p q r s, .int .i64 0]) ∧ Ext x w') (hrdc : ∀ x, Ext w x → Calls Tryd.prog 14 #[.slice A l.length c] x fun e w' => e = .returned (.tuple #[tkv p q r s, .int .i64 0]) ∧ Ext x w')
    (hd2 : ∀ A2 c2 x, B.length ≤ c2 → Rd x A2 (byt B) → Calls Tryd.prog 13 #[.slice A2 B.length c2] x fun e w' => e = .returned (.tuple #[tkv s1 o1 n1 e1, .int .i64 0]) ∧ Ext x w')
    (hen2 : ∀ x, Calls Tryd.prog 11 #[tkv p q r s] x (RetS x l 0)) :
    Calls Tryd.prog 3 #[tkv s1 o1 n1 e1, .slice A l.length c] w fun e w' => e = .returned (.bool true) ∧ Ext w w' := by
  have HL := hide hl
  have HR := hide hr
  have HEN := hide hen
  have HREN := hide hren
  have HDC := hide hdc
  have HRDC := hide hrdc
  have H0 := box_tk w s1 o1 n1 e1
  have d1 : ¬ (100 : Int) < (l.length : Int) := by omega
  have HD2 := hide hd2
  have HEN2 := hide hen2
  clear hl hr hen hren hdc hrdc hd2 hen2
  have tok1 : True := trivial
  have tok2 : True := trivial
  have tok3 : True := trivial
  have tok4 : True := trivial
  have tok5 : True := trivial
  have tok6 : True := trivial
  go_enter Tryd.func3, Tryd.ntmps3
  obtain ⟨yc0, yc1, yc2, yc3, hg0⟩ := tk4 (H0.blk (g := w.heap.size) (e := 25) (cs := tkc s1 o1 n1 e1) (List.Mem.head _))
  go_wp2_with fail
  (with_reducible refine (HEN.out _).mono ?_)
  rintro e w2 ⟨A2, c2, rfl, hc2, hS⟩
  have HC2 := hide hc2
  have K2 := H0.join hS
  dsimp only [List.nil_append, List.cons_append] at K2
  clear H0 hS yc0 yc1 yc2 yc3 hg0
  obtain ⟨g2, G2⟩ : ∃ g, w.heap.size = g := ⟨_, rfl⟩
  rw [G2] at K2 ⊢
  clear G2
  obtain ⟨yc0, yc1, yc2, yc3, hg0⟩ := tk4 (K2.blk (g := g2) (e := 25) (cs := tkc s1 o1 n1 e1) (List.Mem.tail _ (List.Mem.head _)))
  have KK := hide K2
  clear K2
  go_wp2_with fail
  (with_reducible refine (HREN.out _).mono ?_)
  rintro e w3 ⟨v3, rfl, hS⟩
  have K3 := KK.out.join hS
  dsimp only [List.nil_append, List.cons_append] at K3
  clear KK hS yc0 yc1 yc2 yc3 hg0
  obtain ⟨A3, c3, rfl, hr3, hc3⟩ := own_form (K3.owns (List.Mem.head _))
  clear hr3
  have KK := hide K3
  clear K3
  go_wp2_with fail
  (with_reducible refine (HDC.out _ KK.out.toExt).mono ?_)
  rintro e w4 ⟨rfl, hx4⟩
  have K4 := KK.out.ext hx4
  clear KK hx4 HDC
  go_wp2_with (first
    | (have zz := tok1; clear zz tok1; refine wpList_alS K4 rfl 25 rfl (tkc 0 0 0 0) (by kernel_rfl) ?_; intro w5 hz5 K5; clear hz5 K4)
    | (have zz := tok2; clear zz tok2; refine wpList_stS [] K5 rfl 25 (.tmp 9) (.tmp 34) rfl rfl (cs := tkc p q r s) rfl (by kernel_rfl) rfl (tkc_one p q r s) ?_; intro w6 K6; dsimp only [List.nil_append] at K6; clear K5))
  obtain ⟨g9, G9⟩ : ∃ g, w4.heap.size = g := ⟨_, rfl⟩
  rw [G9] at K6 ⊢
  clear G9
  (with_reducible refine (HRDC.out _ K6.toExt).mono ?_)
  rintro e w7 ⟨rfl, hx7⟩
  have K7 := K6.ext hx7
  clear K6 hx7 HRDC
  go_upto_region 7 with (first
    | (have zz := tok3; clear zz tok3; refine wpList_alS K7 rfl 25 rfl (tkc 0 0 0 0) (by kernel_rfl) ?_; intro w8 hz8 K8; clear hz8 K7)
    | (have zz := tok4; clear zz tok4; refine wpList_stS [] K8 rfl 25 (.tmp 11) (.tmp 39) rfl rfl (cs := tkc p q r s) rfl (by kernel_rfl) rfl (tkc_one p q r s) ?_; intro w9 K9; dsimp only [List.nil_append] at K9; clear K8))
  obtain ⟨g11, G11⟩ : ∃ g, w7.heap.size = g := ⟨_, rfl⟩
  rw [G11] at K9 ⊢
  clear G11
  obtain ⟨yc0, yc1, yc2, yc3, hg0⟩ := tk4 (K9.blk (g := g11) (e := 25) (cs := tkc p q r s) (List.Mem.head _))
  obtain ⟨ye0, ye1, ye2, ye3, hg1⟩ := tk4 (K9.blk (g := g9) (e := 25) (cs := tkc p q r s) (List.Mem.tail _ (List.Mem.head _)))
  have hrx : Rd w9 A2 (byt B) := K9.get (A := As.rd A2 (byt B)) (List.Mem.tail _ (List.Mem.tail _ (List.Mem.tail _ (List.Mem.head _))))
  obtain ⟨_, _, hev, hr3, _⟩ := own_form (K9.owns (e := 5) (xs := byt B) (List.Mem.tail _ (List.Mem.tail _ (List.Mem.head _))))
  cases hev
  have hcv1 := str_of c2 hrx
  have hcv2 := str_of c3 hr3
  generalize strOfNums B = sB at hcv1 hcv2
  have KK := hide K9
  have HRX := hide hrx
  clear K9 hr3 hrx
  go_wp2_with fail
  (with_reducible refine (HD2.out _ _ _ HC2.out HRX.out).mono ?_)
  rintro e wa ⟨rfl, hxa⟩
  have Ka := KK.out.ext hxa
  clear KK hxa HD2 HRX hcv1 hcv2 yc0 yc1 yc2 yc3 hg0 ye0 ye1 ye2 ye3 hg1
  go_upto_region 11 with (first
    | (have zz := tok5; clear zz tok5; refine wpList_alS Ka rfl 25 rfl (tkc 0 0 0 0) (by kernel_rfl) ?_; intro wb hzb Kb; clear hzb Ka)
    | (have zz := tok6; clear zz tok6; refine wpList_stS [] Kb rfl 25 (.tmp 13) (.tmp 66) rfl rfl (cs := tkc s1 o1 n1 e1) rfl (by kernel_rfl) rfl (tkc_one s1 o1 n1 e1) ?_; intro wc Kc; dsimp only [List.nil_append] at Kc; clear Kb))
  obtain ⟨g13, G13⟩ : ∃ g, wa.heap.size = g := ⟨_, rfl⟩
  rw [G13] at Kc ⊢
  clear G13
  obtain ⟨yc0, yc1, yc2, yc3, hg0⟩ := tk4 (Kc.blk (g := g13) (e := 25) (cs := tkc s1 o1 n1 e1) (List.Mem.head _))
  obtain ⟨ye0, ye1, ye2, ye3, hg1⟩ := tk4 (Kc.blk (g := g9) (e := 25) (cs := tkc p q r s) (List.Mem.tail _ (List.Mem.tail _ (List.Mem.head _))))
  obtain ⟨yf0, yf1, yf2, yf3, hg2⟩ := tk4 (Kc.blk (g := g2) (e := 25) (cs := tkc s1 o1 n1 e1) (List.Mem.tail _ (List.Mem.tail _ (List.Mem.tail _ (List.Mem.tail _ (List.Mem.tail _ (List.Mem.head _)))))))
  have KK := hide Kc
  clear Kc
  go_wp2_with fail
  (with_reducible refine (HEN2.out _).mono ?_)
  rintro e wd ⟨Ad, cd, rfl, hcd, hS⟩
  have Kd := KK.out.join hS
  dsimp only [List.nil_append, List.cons_append] at Kd
  clear KK hS yc0 yc1 yc2 yc3 hg0 ye0 ye1 ye2 ye3 hg1 yf0 yf1 yf2 yf3 hg2
  have hcv3 := str_of cd (Kd.get (A := As.rd Ad (byt l)) (List.Mem.head _))
  have hcv4 := str_of c (Kd.rdN HR.out)
  generalize strOfNums l = sl at hcv3 hcv4
  have KK := hide Kd.toExt
  clear Kd
  go_wp2_with fail
  (with_reducible refine (tshown_any _ (HL.out.ext KK.out)).mono ?_)
  rintro e we ⟨rfl, hxe⟩
  go_wp2_with fail
  go_ret
  exact ⟨rfl, KK.out.trans hxe⟩
set_option maxRecDepth 100000 in
set_option maxHeartbeats 2000000 in
theorem records_b (l B : List Int) (A : Option Addr) (c : Nat) (s1 o1 n1 e1 p q r s : Int) (w : World) (hl : Laid w) (hr : Rd w A (byt l)) (hb : isB l) (hc : l.length ≤ c) (hs : l.length ≤ 100) (hBl : isB B ∧ B.length ≤ 100000)
    (hen : ∀ x, Calls Tryd.prog 11 #[tkv s1 o1 n1 e1] x (RetS x B 7)) (hren : ∀ x, Calls Tryd.prog 12 #[tkv s1 o1 n1 e1] x (RetO x B 7))
    (hdc : ∀ x, Ext w x → Calls Tryd.prog 13 #[.slice A l.length c] x fun e w' => e = .returned (.tuple #[tkv p q r s, .int .i64 0]) ∧ Ext x w') (hrdc : ∀ x, Ext w x → Calls Tryd.prog 14 #[.slice A l.length c] x fun e w' => e = .returned (.tuple #[tkv p q r s, .int .i64 0]) ∧ Ext x w')
    (hen2 : ∀ x, Calls Tryd.prog 11 #[tkv p q r s] x (RetS x l 0)) :
    Calls Tryd.prog 3 #[tkv s1 o1 n1 e1, .slice A l.length c] w fun e w' => e = .returned (.bool true) ∧ Ext w w' := by
  have HL := hide hl
  have HR := hide hr
  have HEN := hide hen
  have HREN := hide hren
  have HDC := hide hdc
  have HRDC := hide hrdc
  have H0 := box_tk w s1 o1 n1 e1
  have d1 : ¬ (100 : Int) < (l.length : Int) := by omega
  have HEN2 := hide hen2
  clear hl hr hen hren hdc hrdc hen2
  have tok1 : True := trivial
  have tok2 : True := trivial
  have tok3 : True := trivial
  have tok4 : True := trivial
  have tok5 : True := trivial
  have tok6 : True := trivial
  go_enter Tryd.func3, Tryd.ntmps3
  obtain ⟨yc0, yc1, yc2, yc3, hg0⟩ := tk4 (H0.blk (g := w.heap.size) (e := 25) (cs := tkc s1 o1 n1 e1) (List.Mem.head _))
  go_wp2_with fail
  (with_reducible refine (HEN.out _).mono ?_)
  rintro e w2 ⟨A2, c2, rfl, hc2, hS⟩
  have HC2 := hide hc2
  have K2 := H0.join hS
  dsimp only [List.nil_append, List.cons_append] at K2
  clear H0 hS yc0 yc1 yc2 yc3 hg0
  obtain ⟨g2, G2⟩ : ∃ g, w.heap.size = g := ⟨_, rfl⟩
  rw [G2] at K2 ⊢
  clear G2
  obtain ⟨yc0, yc1, yc2, yc3, hg0⟩ := tk4 (K2.blk (g := g2) (e := 25) (cs := tkc s1 o1 n1 e1) (List.Mem.tail _ (List.Mem.head _)))
  have KK := hide K2
  clear K2
  go_wp2_with fail
  (with_reducible refine (HREN.out _).mono ?_)
  rintro e w3 ⟨v3, rfl, hS⟩
  have K3 := KK.out.join hS
  dsimp only [List.nil_append, List.cons_append] at K3
  clear KK hS yc0 yc1 yc2 yc3 hg0
  obtain ⟨A3, c3, rfl, hr3, hc3⟩ := own_form (K3.owns (List.Mem.head _))
  clear hr3
  have KK := hide K3
  clear K3
  go_wp2_with fail
  (with_reducible refine (HDC.out _ KK.out.toExt).mono ?_)
  rintro e w4 ⟨rfl, hx4⟩
  have K4 := KK.out.ext hx4
  clear KK hx4 HDC
  go_wp2_with (first
    | (have zz := tok1; clear zz tok1; refine wpList_alS K4 rfl 25 rfl (tkc 0 0 0 0) (by kernel_rfl) ?_; intro w5 hz5 K5; clear hz5 K4)
    | (have zz := tok2; clear zz tok2; refine wpList_stS [] K5 rfl 25 (.tmp 9) (.tmp 34) rfl rfl (cs := tkc p q r s) rfl (by kernel_rfl) rfl (tkc_one p q r s) ?_; intro w6 K6; dsimp only [List.nil_append] at K6; clear K5))
  obtain ⟨g9, G9⟩ : ∃ g, w4.heap.size = g := ⟨_, rfl⟩
  rw [G9] at K6 ⊢
  clear G9
  (with_reducible refine (HRDC.out _ K6.toExt).mono ?_)
  rintro e w7 ⟨rfl, hx7⟩
  have K7 := K6.ext hx7
  clear K6 hx7 HRDC
  go_upto_region 7 with (first
    | (have zz := tok3; clear zz tok3; refine wpList_alS K7 rfl 25 rfl (tkc 0 0 0 0) (by kernel_rfl) ?_; intro w8 hz8 K8; clear hz8 K7)
    | (have zz := tok4; clear zz tok4; refine wpList_stS [] K8 rfl 25 (.tmp 11) (.tmp 39) rfl rfl (cs := tkc p q r s) rfl (by kernel_rfl) rfl (tkc_one p q r s) ?_; intro w9 K9; dsimp only [List.nil_append] at K9; clear K8))
  obtain ⟨g11, G11⟩ : ∃ g, w7.heap.size = g := ⟨_, rfl⟩
  rw [G11] at K9 ⊢
  clear G11
  obtain ⟨yc0, yc1, yc2, yc3, hg0⟩ := tk4 (K9.blk (g := g11) (e := 25) (cs := tkc p q r s) (List.Mem.head _))
  obtain ⟨ye0, ye1, ye2, ye3, hg1⟩ := tk4 (K9.blk (g := g9) (e := 25) (cs := tkc p q r s) (List.Mem.tail _ (List.Mem.head _)))
  have hrx : Rd w9 A2 (byt B) := K9.get (A := As.rd A2 (byt B)) (List.Mem.tail _ (List.Mem.tail _ (List.Mem.tail _ (List.Mem.head _))))
  obtain ⟨_, _, hev, hr3, _⟩ := own_form (K9.owns (e := 5) (xs := byt B) (List.Mem.tail _ (List.Mem.tail _ (List.Mem.head _))))
  cases hev
  have hcv1 := str_of c2 hrx
  have hcv2 := str_of c3 hr3
  generalize strOfNums B = sB at hcv1 hcv2
  have KK := hide K9
  have HRX := hide hrx
  clear K9 hr3 hrx
  go_wp2_with fail
  (with_reducible refine (HEN2.out _).mono ?_)
  rintro e wd ⟨Ad, cd, rfl, hcd, hS⟩
  have Kd := KK.out.join hS
  dsimp only [List.nil_append, List.cons_append] at Kd
  clear KK hS yc0 yc1 yc2 yc3 hg0 ye0 ye1 ye2 ye3 hg1 hcv1 hcv2 HRX
  have hcv3 := str_of cd (Kd.get (A := As.rd Ad (byt l)) (List.Mem.head _))
  have hcv4 := str_of c (Kd.rdN HR.out)
  generalize strOfNums l = sl at hcv3 hcv4
  have KK := hide Kd.toExt
  clear Kd
  go_wp2_with fail
  (with_reducible refine (tshown_any _ (HL.out.ext KK.out)).mono ?_)
  rintro e we ⟨rfl, hxe⟩
  go_wp2_with fail
  go_ret
  exact ⟨rfl, KK.out.trans hxe⟩
set_option maxRecDepth 100000 in
set_option maxHeartbeats 2000000 in
theorem records_c (l B : List Int) (A : Option Addr) (c : Nat) (s1 o1 n1 e1 p q r s : Int) (w : World) (hl : Laid w) (hr : Rd w A (byt l)) (hb : isB l) (hc : l.length ≤ c) (hs : l.length ≤ 100) (hBl : isB B ∧ B.length ≤ 100000)
    (hen : ∀ x, Calls Tryd.prog 11 #[tkv s1 o1 n1 e1] x (RetS x B 0)) (hren : ∀ x, Calls Tryd.prog 12 #[tkv s1 o1 n1 e1] x (RetO x B 0))
    (hdc : ∀ x, Ext w x → Calls Tryd.prog 13 #[.slice A l.length c] x fun e w' => e = .returned (.tuple #[tkv p q r s, .int .i64 11]) ∧ Ext x w') (hrdc : ∀ x, Ext w x → Calls Tryd.prog 14 #[.slice A l.length c] x fun e w' => e = .returned (.tuple #[tkv p q r s, .int .i64 11]) ∧ Ext x w')
    (hd2 : ∀ A2 c2 x, B.length ≤ c2 → Rd x A2 (byt B) → Calls Tryd.prog 13 #[.slice A2 B.length c2] x fun e w' => e = .returned (.tuple #[tkv s1 o1 n1 e1, .int .i64 0]) ∧ Ext x w') :
    Calls Tryd.prog 3 #[tkv s1 o1 n1 e1, .slice A l.length c] w fun e w' => e = .returned (.bool true) ∧ Ext w w' := by
  have HL := hide hl
  have HR := hide hr
  have HEN := hide hen
  have HREN := hide hren
  have HDC := hide hdc
  have HRDC := hide hrdc
  have H0 := box_tk w s1 o1 n1 e1
  have d1 : ¬ (100 : Int) < (l.length : Int) := by omega
  have HD2 := hide hd2
  clear hl hr hen hren hdc hrdc hd2
  have tok1 : True := trivial
  have tok2 : True := trivial
  have tok3 : True := trivial
  have tok4 : True := trivial
  have tok5 : True := trivial
  have tok6 : True := trivial
  go_enter Tryd.func3, Tryd.ntmps3
  obtain ⟨yc0, yc1, yc2, yc3, hg0⟩ := tk4 (H0.blk (g := w.heap.size) (e := 25) (cs := tkc s1 o1 n1 e1) (List.Mem.head _))
  go_wp2_with fail
  (with_reducible refine (HEN.out _).mono ?_)
  rintro e w2 ⟨A2, c2, rfl, hc2, hS⟩
  have HC2 := hide hc2
  have K2 := H0.join hS
  dsimp only [List.nil_append, List.cons_append] at K2
  clear H0 hS yc0 yc1 yc2 yc3 hg0
  obtain ⟨g2, G2⟩ : ∃ g, w.heap.size = g := ⟨_, rfl⟩
  rw [G2] at K2 ⊢
  clear G2
  obtain ⟨yc0, yc1, yc2, yc3, hg0⟩ := tk4 (K2.blk (g := g2) (e := 25) (cs := tkc s1 o1 n1 e1) (List.Mem.tail _ (List.Mem.head _)))
  have KK := hide K2
  clear K2
  go_wp2_with fail
  (with_reducible refine (HREN.out _).mono ?_)
  rintro e w3 ⟨v3, rfl, hS⟩
  have K3 := KK.out.join hS
  dsimp only [List.nil_append, List.cons_append] at K3
  clear KK hS yc0 yc1 yc2 yc3 hg0
  obtain ⟨A3, c3, rfl, hr3, hc3⟩ := own_form (K3.owns (List.Mem.head _))
  clear hr3
  have KK := hide K3
  clear K3
  go_wp2_with fail
  (with_reducible refine (HDC.out _ KK.out.toExt).mono ?_)
  rintro e w4 ⟨rfl, hx4⟩
  have K4 := KK.out.ext hx4
  clear KK hx4 HDC
  go_wp2_with (first
    | (have zz := tok1; clear zz tok1; refine wpList_alS K4 rfl 25 rfl (tkc 0 0 0 0) (by kernel_rfl) ?_; intro w5 hz5 K5; clear hz5 K4)
    | (have zz := tok2; clear zz tok2; refine wpList_stS [] K5 rfl 25 (.tmp 9) (.tmp 34) rfl rfl (cs := tkc p q r s) rfl (by kernel_rfl) rfl (tkc_one p q r s) ?_; intro w6 K6; dsimp only [List.nil_append] at K6; clear K5))
  obtain ⟨g9, G9⟩ : ∃ g, w4.heap.size = g := ⟨_, rfl⟩
  rw [G9] at K6 ⊢
  clear G9
  (with_reducible refine (HRDC.out _ K6.toExt).mono ?_)
  rintro e w7 ⟨rfl, hx7⟩
  have K7 := K6.ext hx7
  clear K6 hx7 HRDC
  go_upto_region 7 with (first
    | (have zz := tok3; clear zz tok3; refine wpList_alS K7 rfl 25 rfl (tkc 0 0 0 0) (by kernel_rfl) ?_; intro w8 hz8 K8; clear hz8 K7)
    | (have zz := tok4; clear zz tok4; refine wpList_stS [] K8 rfl 25 (.tmp 11) (.tmp 39) rfl rfl (cs := tkc p q r s) rfl (by kernel_rfl) rfl (tkc_one p q r s) ?_; intro w9 K9; dsimp only [List.nil_append] at K9; clear K8))
  obtain ⟨g11, G11⟩ : ∃ g, w7.heap.size = g := ⟨_, rfl⟩
  rw [G11] at K9 ⊢
  clear G11
  obtain ⟨yc0, yc1, yc2, yc3, hg0⟩ := tk4 (K9.blk (g := g11) (e := 25) (cs := tkc p q r s) (List.Mem.head _))
  obtain ⟨ye0, ye1, ye2, ye3, hg1⟩ := tk4 (K9.blk (g := g9) (e := 25) (cs := tkc p q r s) (List.Mem.tail _ (List.Mem.head _)))
  have hrx : Rd w9 A2 (byt B) := K9.get (A := As.rd A2 (byt B)) (List.Mem.tail _ (List.Mem.tail _ (List.Mem.tail _ (List.Mem.head _))))
  obtain ⟨_, _, hev, hr3, _⟩ := own_form (K9.owns (e := 5) (xs := byt B) (List.Mem.tail _ (List.Mem.tail _ (List.Mem.head _))))
  cases hev
  have hcv1 := str_of c2 hrx
  have hcv2 := str_of c3 hr3
  generalize strOfNums B = sB at hcv1 hcv2
  have KK := hide K9
  have HRX := hide hrx
  clear K9 hr3 hrx
  go_wp2_with fail
  (with_reducible refine (HD2.out _ _ _ HC2.out HRX.out).mono ?_)
  rintro e wa ⟨rfl, hxa⟩
  have Ka := KK.out.ext hxa
  clear KK hxa HD2 HRX hcv1 hcv2 yc0 yc1 yc2 yc3 hg0 ye0 ye1 ye2 ye3 hg1
  go_upto_region 11 with (first
    | (have zz := tok5; clear zz tok5; refine wpList_alS Ka rfl 25 rfl (tkc 0 0 0 0) (by kernel_rfl) ?_; intro wb hzb Kb; clear hzb Ka)
    | (have zz := tok6; clear zz tok6; refine wpList_stS [] Kb rfl 25 (.tmp 13) (.tmp 66) rfl rfl (cs := tkc s1 o1 n1 e1) rfl (by kernel_rfl) rfl (tkc_one s1 o1 n1 e1) ?_; intro wc Kc; dsimp only [List.nil_append] at Kc; clear Kb))
  obtain ⟨g13, G13⟩ : ∃ g, wa.heap.size = g := ⟨_, rfl⟩
  rw [G13] at Kc ⊢
  clear G13
  obtain ⟨yc0, yc1, yc2, yc3, hg0⟩ := tk4 (Kc.blk (g := g13) (e := 25) (cs := tkc s1 o1 n1 e1) (List.Mem.head _))
  obtain ⟨ye0, ye1, ye2, ye3, hg1⟩ := tk4 (Kc.blk (g := g9) (e := 25) (cs := tkc p q r s) (List.Mem.tail _ (List.Mem.tail _ (List.Mem.head _))))
  obtain ⟨yf0, yf1, yf2, yf3, hg2⟩ := tk4 (Kc.blk (g := g2) (e := 25) (cs := tkc s1 o1 n1 e1) (List.Mem.tail _ (List.Mem.tail _ (List.Mem.tail _ (List.Mem.tail _ (List.Mem.tail _ (List.Mem.head _)))))))
  have KK := hide Kc
  clear Kc
  go_wp2_with fail
  (with_reducible refine (tshown_any _ (HL.out.ext KK.out.toExt)).mono ?_)
  rintro e we ⟨rfl, hxe⟩
  go_wp2_with fail
  go_ret
  exact ⟨rfl, KK.out.toExt.trans hxe⟩
set_option maxRecDepth 100000 in
set_option maxHeartbeats 2000000 in
theorem records_d (l B : List Int) (A : Option Addr) (c : Nat) (s1 o1 n1 e1 p q r s : Int) (w : World) (hl : Laid w) (hr : Rd w A (byt l)) (hb : isB l) (hc : l.length ≤ c) (hs : l.length ≤ 100) (hBl : isB B ∧ B.length ≤ 100000)
    (hen : ∀ x, Calls Tryd.prog 11 #[tkv s1 o1 n1 e1] x (RetS x B 7)) (hren : ∀ x, Calls Tryd.prog 12 #[tkv s1 o1 n1 e1] x (RetO x B 7))
    (hdc : ∀ x, Ext w x → Calls Tryd.prog 13 #[.slice A l.length c] x fun e w' => e = .returned (.tuple #[tkv p q r s, .int .i64 11]) ∧ Ext x w') (hrdc : ∀ x, Ext w x → Calls Tryd.prog 14 #[.slice A l.length c] x fun e w' => e = .returned (.tuple #[tkv p q r s, .int .i64 11]) ∧ Ext x w') :
    Calls Tryd.prog 3 #[tkv s1 o1 n1 e1, .slice A l.length c] w fun e w' => e = .returned (.bool true) ∧ Ext w w' := by
  have HL := hide hl
  have HR := hide hr
  have HEN := hide hen
  have HREN := hide hren
  have HDC := hide hdc
  have HRDC := hide hrdc
  have H0 := box_tk w s1 o1 n1 e1
  have d1 : ¬ (100 : Int) < (l.length : Int) := by omega
  clear hl hr hen hren hdc hrdc
  have tok1 : True := trivial
  have tok2 : True := trivial
  have tok3 : True := trivial
  have tok4 : True := trivial
  have tok5 : True := trivial
  have tok6 : True := trivial
  go_enter Tryd.func3, Tryd.ntmps3
  obtain ⟨yc0, yc1, yc2, yc3, hg0⟩ := tk4 (H0.blk (g := w.heap.size) (e := 25) (cs := tkc s1 o1 n1 e1) (List.Mem.head _))
  go_wp2_with fail
  (with_reducible refine (HEN.out _).mono ?_)
  rintro e w2 ⟨A2, c2, rfl, hc2, hS⟩
  have HC2 := hide hc2
  have K2 := H0.join hS
  dsimp only [List.nil_append, List.cons_append] at K2
  clear H0 hS yc0 yc1 yc2 yc3 hg0
  obtain ⟨g2, G2⟩ : ∃ g, w.heap.size = g := ⟨_, rfl⟩
  rw [G2] at K2 ⊢
  clear G2
  obtain ⟨yc0, yc1, yc2, yc3, hg0⟩ := tk4 (K2.blk (g := g2) (e := 25) (cs := tkc s1 o1 n1 e1) (List.Mem.tail _ (List.Mem.head _)))
  have KK := hide K2
  clear K2
  go_wp2_with fail
  (with_reducible refine (HREN.out _).mono ?_)
  rintro e w3 ⟨v3, rfl, hS⟩
  have K3 := KK.out.join hS
  dsimp only [List.nil_append, List.cons_append] at K3
  clear KK hS yc0 yc1 yc2 yc3 hg0
  obtain ⟨A3, c3, rfl, hr3, hc3⟩ := own_form (K3.owns (List.Mem.head _))
  clear hr3
  have KK := hide K3
  clear K3
  go_wp2_with fail
  (with_reducible refine (HDC.out _ KK.out.toExt).mono ?_)
  rintro e w4 ⟨rfl, hx4⟩
  have K4 := KK.out.ext hx4
  clear KK hx4 HDC
  go_wp2_with (first
    | (have zz := tok1; clear zz tok1; refine wpList_alS K4 rfl 25 rfl (tkc 0 0 0 0) (by kernel_rfl) ?_; intro w5 hz5 K5; clear hz5 K4)
    | (have zz := tok2; clear zz tok2; refine wpList_stS [] K5 rfl 25 (.tmp 9) (.tmp 34) rfl rfl (cs := tkc p q r s) rfl (by kernel_rfl) rfl (tkc_one p q r s) ?_; intro w6 K6; dsimp only [List.nil_append] at K6; clear K5))
  obtain ⟨g9, G9⟩ : ∃ g, w4.heap.size = g := ⟨_, rfl⟩
  rw [G9] at K6 ⊢
  clear G9
  (with_reducible refine (HRDC.out _ K6.toExt).mono ?_)
  rintro e w7 ⟨rfl, hx7⟩
  have K7 := K6.ext hx7
  clear K6 hx7 HRDC
  go_upto_region 7 with (first
    | (have zz := tok3; clear zz tok3; refine wpList_alS K7 rfl 25 rfl (tkc 0 0 0 0) (by kernel_rfl) ?_; intro w8 hz8 K8; clear hz8 K7)
    | (have zz := tok4; clear zz tok4; refine wpList_stS [] K8 rfl 25 (.tmp 11) (.tmp 39) rfl rfl (cs := tkc p q r s) rfl (by kernel_rfl) rfl (tkc_one p q r s) ?_; intro w9 K9; dsimp only [List.nil_append] at K9; clear K8))
  obtain ⟨g11, G11⟩ : ∃ g, w7.heap.size = g := ⟨_, rfl⟩
  rw [G11] at K9 ⊢
  clear G11
  obtain ⟨yc0, yc1, yc2, yc3, hg0⟩ := tk4 (K9.blk (g := g11) (e := 25) (cs := tkc p q r s) (List.Mem.head _))
  obtain ⟨ye0, ye1, ye2, ye3, hg1⟩ := tk4 (K9.blk (g := g9) (e := 25) (cs := tkc p q r s) (List.Mem.tail _ (List.Mem.head _)))
  have hrx : Rd w9 A2 (byt B) := K9.get (A := As.rd A2 (byt B)) (List.Mem.tail _ (List.Mem.tail _ (List.Mem.tail _ (List.Mem.head _))))
  obtain ⟨_, _, hev, hr3, _⟩ := own_form (K9.owns (e := 5) (xs := byt B) (List.Mem.tail _ (List.Mem.tail _ (List.Mem.head _))))
  cases hev
  have hcv1 := str_of c2 hrx
  have hcv2 := str_of c3 hr3
  generalize strOfNums B = sB at hcv1 hcv2
  have KK := hide K9
  have HRX := hide hrx
  clear K9 hr3 hrx
  go_wp2_with fail
  (with_reducible refine (tshown_any _ (HL.out.ext KK.out.toExt)).mono ?_)
  rintro e we ⟨rfl, hxe⟩
  go_wp2_with fail
  go_ret
  exact ⟨rfl, KK.out.toExt.trans hxe⟩
theorem records_law (w : World) (hl : Laid w) (v0 : Value) (h0 : ∃ cs, v0 = .agg cs ∧ Lvs Tryd.prog w [.int .u32, .int .u32, .int .u64, .int .u64] cs.toList) (v1 : Value) (h1 : LfOk Tryd.prog w (.slice 5) v1) : Calls Tryd.prog 3 #[v0, v1] w fun e w' => e = .returned (.bool true) ∧ Ext w w' := by
  obtain ⟨A, l, c, rfl, hr, hb, hc, hm⟩ := bytes_arg h1
  obtain ⟨s1, o1, n1, e1, rfl, ht⟩ := tickA h0
  clear h0 h1
  by_cases hs : 100 < l.length
  · have d1 : (100 : Int) < (l.length : Int) := by omega
    have HL := hide hl
    have HX := hide (box_tk w s1 o1 n1 e1).toExt
    clear hl hr hb hs
    go_enter Tryd.func3, Tryd.ntmps3
    go_wp2_with fail
    (with_reducible refine (tshown_any _ (HL.out.ext HX.out)).mono ?_)
    rintro e w1 ⟨rfl, hx⟩
    go_wp2_with fail
    go_ret
    exact ⟨rfl, HX.out.trans hx⟩
  · have hen := fun (x : World) => tenc_any s1 o1 n1 e1 x ht
    have hren := fun (x : World) => rtenc_any s1 o1 n1 e1 x ht
    have hdc := fun (x : World) (h : Ext w x) => tdec_any l A c x (hr.ext h) hb (by omega) hc
    have hrdc := fun (x : World) (h : Ext w x) => rtdec_any l A c x (hr.ext h) hb (by omega) hc
    have hd2 := fun (hz : s1 < 4096 ∧ n1 ≠ 0) A2 c2 (h24 : 24 ≤ c2) (x : World) (h : Rd x A2 (byt (recT s1 o1 n1 e1))) => tdec_any (recT s1 o1 n1 e1) A2 c2 x h (recT_isB s1 o1 n1 e1) (by rw [recT_len]; decide) (by rw [recT_len]; exact h24)
    rcases decTE_two l with hd | hd
    · obtain ⟨p, q, r, s, hV, hp, hq, hrec⟩ := recT_of hb hd
      have hen2 := fun (x : World) => tenc_any p q r s x hp
      rw [(encT_of (o := q) (e := s) hq).1, (encT_of (o := q) (e := s) hq).2, hrec] at hen2
      rw [hV, hd] at hdc hrdc
      by_cases hz : s1 < 4096 ∧ n1 ≠ 0
      rotate_left
      · rw [(encT_no (o := o1) (e := e1) hz).1, (encT_no (o := o1) (e := e1) hz).2] at hen hren
        exact records_b l [] A c s1 o1 n1 e1 p q r s w hl hr hb hc (by omega) ⟨(by intro x hx; cases hx), by decide⟩ hen hren hdc hrdc hen2
      · rw [(encT_of (o := o1) (e := e1) hz).1, (encT_of (o := o1) (e := e1) hz).2] at hen hren
        replace hd2 := hd2 hz
        rw [(decT_rec ht hz.1 hz.2).1, (decT_rec ht hz.1 hz.2).2] at hd2
        exact records_a l (recT s1 o1 n1 e1) A c s1 o1 n1 e1 p q r s w hl hr hb hc (by omega) ⟨recT_isB _ _ _ _, by rw [recT_len]; decide⟩ hen hren hdc hrdc (fun A2 c2 x h24 h => hd2 A2 c2 (by rw [recT_len] at h24; exact h24) x h) hen2
    · rw [show decTV l = (0, 0, 0, 0) by unfold decTV; rw [if_neg (by rw [hd]; decide)], hd] at hdc hrdc
      by_cases hz : s1 < 4096 ∧ n1 ≠ 0
      rotate_left
      · rw [(encT_no (o := o1) (e := e1) hz).1, (encT_no (o := o1) (e := e1) hz).2] at hen hren
        exact records_d l [] A c s1 o1 n1 e1 0 0 0 0 w hl hr hb hc (by omega) ⟨(by intro x hx; cases hx), by decide⟩ hen hren hdc hrdc
      · rw [(encT_of (o := o1) (e := e1) hz).1, (encT_of (o := o1) (e := e1) hz).2] at hen hren
        replace hd2 := hd2 hz
        rw [(decT_rec ht hz.1 hz.2).1, (decT_rec ht hz.1 hz.2).2] at hd2
        exact records_c l (recT s1 o1 n1 e1) A c s1 o1 n1 e1 0 0 0 0 w hl hr hb hc (by omega) ⟨recT_isB _ _ _ _, by rw [recT_len]; decide⟩ hen hren hdc hrdc (fun A2 c2 x h24 h => hd2 A2 c2 (by rw [recT_len] at h24; exact h24) x h)
end Go.Proofs.YtamlngdjbmndlaaDoor
