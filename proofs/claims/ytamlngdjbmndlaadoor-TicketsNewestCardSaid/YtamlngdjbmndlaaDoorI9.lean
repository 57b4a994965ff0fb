/- Tickets: Open, by the reference and by the program. -/
import Derived.Test.YtamlngdjbmndlaaDoorI8
import Derived.Test.YtamlngdjbmndlaaDoorH2
namespace Go.Proofs.YtamlngdjbmndlaaDoor
open Go.RowKit Go.Gr
set_option linter.unusedVariables false
set_option linter.unusedSimpArgs false
attribute [local go_sem] rdOp rdAt rdUpon Cls forall_fr
theorem neq_lt (l t : List Int) (h : l.length = 32) (h2 : t.length = 32) (w : World) : (binOp .neq 36 (.agg (byt l).toArray) (.agg (byt t).toArray)).run Tryd.prog w = .ok (.bool (!(l == t))) w :=
  run_neq_ints (P := Tryd.prog) Tryd.underlying36 Tryd.underlying5 (by kernel_rfl) (by kernel_rfl) l t h h2 w
set_option maxRecDepth 100000 in
set_option maxHeartbeats 2000000 in
theorem rtopen_any (key b : List Int) (A : Option Addr) (c : Nat) (B : Option Addr) (cb : Nat) (w : World) (hr : Rd w A (byt key)) (hb : isB key) (hc : key.length ≤ c) (hlen : key.length ≤ 100000)
    (hrb : Rd w B (byt b)) (hbb : isB b) (hcb : b.length ≤ cb) (hlb : b.length ≤ 100000) :
    Calls Tryd.prog 20 #[.slice A key.length c, .slice B b.length cb] w fun e w' => e = .returned (.tuple #[tkt (opTV key b), .int .i64 (opTE key b)]) ∧ Ext w w' := by
  have HR := hide hr
  have HB := hide hb
  have HRB := hide hrb
  have HBB := hide hbb
  have HKY := hide (fun (x : World) => tkey_any key A c x)
  clear hr hb hrb hbb
  have tok1 : True := trivial
  have tok2 : True := trivial
  by_cases hk : keyOk key
  · rw [if_pos hk] at HKY
    have HP := hide (fun (x : World) (h : Ext w x) => rtparse_any b B cb x (HRB.out.ext h) HBB.out hlb hcb)
    rcases parTE_two b with h0 | h11
    · obtain ⟨s1, o1, n1, e1, hV⟩ : ∃ s1 o1 n1 e1, parTV b = (s1, o1, n1, e1) := ⟨_, _, _, _, rfl⟩
      have hT : parTT b = b.drop 24 := by unfold parTT; rw [if_pos h0]
      have h56 := (parTE_zero h0).1
      have hov : decTV (b.take 24) = (s1, o1, n1, e1) := by
        unfold parTV at hV
        rw [if_pos h0] at hV
        exact hV
      have hd32 : (b.drop 24).length = 32 := by rw [List.length_drop, h56]
      have ht24 : (b.take 24).length = 24 := by rw [List.length_take, h56]; rfl
      have HTAG := hide (fun (x : World) (h : Ext w x) => rttag_any key (b.take 24) A c B cb x (HR.out.ext h) HB.out hc hlen (rd_take (HRB.out.ext h) 24) (isB_take HBB.out 24) (by omega) (by omega))
      obtain ⟨t, HT⟩ : ∃ t, Hid (tagTi key (b.take 24) = t) := ⟨_, hide rfl⟩
      obtain ⟨l, HLd⟩ : ∃ l, Hid (b.drop 24 = l) := ⟨_, hide rfl⟩
      have HS : Hid ((l = t ∧ opTE key b = 0 ∧ opTV key b = (s1, o1, n1, e1)) ∨ (l ≠ t ∧ opTE key b = 12 ∧ opTV key b = (0, 0, 0, 0))) := hide (by
        rw [← HT.out, ← HLd.out]
        by_cases ht : tagTi key (b.take 24) = b.drop 24
        · have he : opTE key b = 0 := by unfold opTE; rw [if_pos hk, if_pos h0, if_pos ht]
          exact .inl ⟨ht.symm, he, by unfold opTV; rw [if_pos he, hov]⟩
        · have he : opTE key b = 12 := by unfold opTE; rw [if_pos hk, if_pos h0, if_neg ht]
          exact .inr ⟨fun e => ht e.symm, he, by unfold opTV; rw [if_neg (by rw [he]; decide)]⟩)
      have HTL : Hid (t.length = 32) := hide (by rw [← HT.out, tagTi_len])
      have HLL : Hid (l.length = 32) := hide (by rw [← HLd.out]; exact hd32)
      rw [hV, h0, hT, h56, HLd.out] at HP
      rw [ht24, HT.out] at HTAG
      have hcc : (24 : Int) ≤ (cb : Int) := by omega
      have HBL := hide (show (byt l).length = 32 by rw [byt_length, HLL.out])
      rw [h56]
      clear hV hT hov h0 hk h56 hd32 ht24 HT HLd
      go_enter Tryd.func20, Tryd.ntmps20
      go_wp2_with (have zz := tok1; clear zz tok1; refine wpList_alS (Sep.refl No w) rfl 25 rfl (tkc 0 0 0 0) (by kernel_rfl) ?_; intro w1 hz1 K1; clear hz1)
      (with_reducible refine (HKY.out _).mono ?_)
      rintro e w2 ⟨rfl, rfl⟩
      go_wp2_with fail
      (with_reducible refine (HP.out _ K1.toExt).mono ?_)
      rintro e w2 ⟨rfl, hx2⟩
      have K2 := K1.ext hx2
      clear K1 hx2 HP
      have tok3 : True := trivial
      have tok4 : True := trivial
      have tok5 : True := trivial
      have tok6 : True := trivial
      go_upto_region 5 with (first
        | (have zz := tok3; clear zz tok3; refine wpList_alS K2 rfl 25 rfl (tkc 0 0 0 0) (by kernel_rfl) ?_; intro w3 hz3 K3; clear hz3 K2)
        | (have zz := tok4; clear zz tok4; refine wpList_alS K3 rfl 36 rfl (Z8 32) (by kernel_rfl) ?_; intro w4 hz4 K4; clear hz4 K3)
        | (have zz := tok5; clear zz tok5; refine wpList_stS [_] K4 rfl 25 (.tmp 7) (.tmp 18) rfl rfl (cs := (tkc s1 o1 n1 e1)) rfl (by kernel_rfl) rfl (tkc_one s1 o1 n1 e1) ?_; intro w5 K5; dsimp only [List.nil_append, List.cons_append] at K5; clear K4)
        | (have zz := tok6; clear zz tok6; refine wpList_stS [] K5 rfl 36 (.tmp 8) (.tmp 19) rfl rfl (cs := byt l) rfl (by rw [HBL.out]; kernel_rfl) (by rw [HBL.out]; rfl) (byt_one _) ?_; intro w6 K6; dsimp only [List.nil_append, List.cons_append] at K6; clear K5))
      obtain ⟨g4, G4⟩ : ∃ g, w.heap.size = g := ⟨_, rfl⟩
      obtain ⟨g7, G7⟩ : ∃ g, w2.heap.size = g := ⟨_, rfl⟩
      obtain ⟨g8, G8⟩ : ∃ g, w3.heap.size = g := ⟨_, rfl⟩
      rw [G4, G7, G8] at K6
      rw [G4, G7, G8]
      clear G4 G7 G8
      refine wp_region_wm [0, 1, 2, 3, 4, 5, 6, 7, 8, 9] (by kernel_rfl) (by kernel_rfl) (by kernel_rfl) (by kernel_rfl) ?_
      have K7 := K6.drew
      clear K6
      generalize w6.drew = wd at *
      have B7 := K7.blk (g := g7) (e := 25) (cs := (tkc s1 o1 n1 e1)) (List.Mem.tail _ (List.Mem.head _))
      have HNE := hide (fun (x : World) => neq_lt l t HLL.out HTL.out x)
      have tok7 : True := trivial
      have tok8 : True := trivial
      rcases HS.out with ⟨hlt, he, hv⟩ | ⟨hlt, he, hv⟩
      · have HE := hide (And.intro he hv)
        rw [show (!(l == t)) = false by rw [hlt]; simp] at HNE
        have hne := fun x => HNE.out x
        clear he hv hlt HS HNE
        iterate 3 (refine wm_rd rfl rfl (fun K hK => ?_); go_simp; refine hK _ ?_; clear hK K)
        refine wm_ldS K7 (List.Mem.head _) rfl rfl 36 (.tmp 8) rfl rfl _ Tryd.underlying36 rfl (by rw [HBL.out]; kernel_rfl) ?_
        iterate 3 (refine wm_rd rfl rfl (fun K hK => ?_); go_simp; refine hK _ ?_; clear hK K)
        refine wm_ext rfl rfl (fun K hK => ?_)
        go_simp
        go_at_call 32
        (with_reducible refine (HTAG.out wd K7.toExt).mono ?_)
        rintro e w8 ⟨rfl, hx8⟩
        refine hK _ _ hx8 ?_
        clear hK K
        have K8 := K7.ext hx8
        clear K7 hx8 HTAG B7
        iterate 2 (refine wm_rd rfl rfl (fun K hK => ?_); go_simp; refine hK _ ?_; clear hK K)
        refine wm_nil ?_
        go_wp2_with (first
          | (have zz := tok7; clear zz tok7; refine wpList_ldS K8 (List.Mem.tail _ (List.Mem.head _)) rfl 25 (.tmp 7) rfl rfl _ Tryd.underlying25 rfl (by kernel_rfl) ?_)
          | (have zz := tok8; clear zz tok8; refine wpList_stS [_, _] K8 rfl 25 (.tmp 4) (.tmp 35) rfl rfl (cs := (tkc s1 o1 n1 e1)) rfl (by kernel_rfl) rfl (tkc_one s1 o1 n1 e1) ?_; intro wa Ka; dsimp only [List.nil_append, List.cons_append] at Ka))
        refine bodyPost_ret (v := .tuple #[tkv s1 o1 n1 e1, .int .i64 0]) (results_row_tmp rfl _ _ g4 25 (tkc s1 o1 n1 e1).toArray (0, 0) _ rfl (Ka.blk (g := g4) (e := 25) (cs := (tkc s1 o1 n1 e1)) (List.Mem.tail _ (List.Mem.tail _ (List.Mem.head _)))) Tryd.underlying25 rfl (by kernel_rfl) rfl) rfl ⟨by rw [HE.out.1, HE.out.2], Ka.toExt⟩
      · have HE := hide (And.intro he hv)
        rw [show (!(l == t)) = true by simpa using hlt] at HNE
        have hne := fun x => HNE.out x
        clear he hv hlt HS HNE
        iterate 3 (refine wm_rd rfl rfl (fun K hK => ?_); go_simp; refine hK _ ?_; clear hK K)
        refine wm_ldS K7 (List.Mem.head _) rfl rfl 36 (.tmp 8) rfl rfl _ Tryd.underlying36 rfl (by rw [HBL.out]; kernel_rfl) ?_
        iterate 3 (refine wm_rd rfl rfl (fun K hK => ?_); go_simp; refine hK _ ?_; clear hK K)
        refine wm_ext rfl rfl (fun K hK => ?_)
        go_simp
        go_at_call 32
        (with_reducible refine (HTAG.out wd K7.toExt).mono ?_)
        rintro e w8 ⟨rfl, hx8⟩
        refine hK _ _ hx8 ?_
        clear hK K
        have K8 := K7.ext hx8
        clear K7 hx8 HTAG B7
        iterate 2 (refine wm_rd rfl rfl (fun K hK => ?_); go_simp; refine hK _ ?_; clear hK K)
        refine wm_nil ?_
        go_wp2_with (have zz := tok8; clear zz tok8; refine wpList_stS [_, _] K8 rfl 25 (.tmp 4) (.tmp 33) rfl rfl (cs := (tkc 0 0 0 0)) rfl (by kernel_rfl) rfl (tkc_one 0 0 0 0) ?_; intro wa Ka; dsimp only [List.nil_append, List.cons_append] at Ka)
        refine bodyPost_ret (v := .tuple #[tkv 0 0 0 0, .int .i64 12]) (results_row_tmp rfl _ _ g4 25 (tkc 0 0 0 0).toArray (0, 0) _ rfl (Ka.blk (g := g4) (e := 25) (cs := (tkc 0 0 0 0)) (List.Mem.tail _ (List.Mem.tail _ (List.Mem.head _)))) Tryd.underlying25 rfl (by kernel_rfl) rfl) rfl ⟨by rw [HE.out.1, HE.out.2], Ka.toExt⟩
    · have hV : parTV b = (0, 0, 0, 0) := by unfold parTV; rw [if_neg (by rw [h11]; decide)]
      have hT : byt (parTT b) = Z8 32 := by unfold parTT; rw [if_neg (by rw [h11]; decide)]; exact byt_zeros 32
      have HE : Hid (opTE key b = 11 ∧ opTV key b = (0, 0, 0, 0)) := hide (by
        have he : opTE key b = 11 := by unfold opTE; rw [if_pos hk, if_neg (by rw [h11]; decide)]
        exact ⟨he, by unfold opTV; rw [if_neg (by rw [he]; decide)]⟩)
      rw [hV, h11, hT] at HP
      clear hV hT h11 hk
      go_enter Tryd.func20, Tryd.ntmps20
      go_wp2_with (have zz := tok1; clear zz tok1; refine wpList_alS (Sep.refl No w) rfl 25 rfl (tkc 0 0 0 0) (by kernel_rfl) ?_; intro w1 hz1 K1; clear hz1)
      (with_reducible refine (HKY.out _).mono ?_)
      rintro e w2 ⟨rfl, rfl⟩
      go_wp2_with fail
      (with_reducible refine (HP.out _ K1.toExt).mono ?_)
      rintro e w2 ⟨rfl, hx2⟩
      have K2 := K1.ext hx2
      clear K1 hx2 HP
      obtain ⟨g4, G4⟩ : ∃ g, w.heap.size = g := ⟨_, rfl⟩
      rw [G4] at K2 ⊢
      have tok3 : True := trivial
      have tok4 : True := trivial
      have tok5 : True := trivial
      have tok6 : True := trivial
      go_upto_region 5 with (first
        | (have zz := tok3; clear zz tok3; refine wpList_alS K2 rfl 25 rfl (tkc 0 0 0 0) (by kernel_rfl) ?_; intro w3 hz3 K3; clear hz3 K2)
        | (have zz := tok4; clear zz tok4; refine wpList_alS K3 rfl 36 rfl (Z8 32) (by kernel_rfl) ?_; intro w4 hz4 K4; clear hz4 K3)
        | (have zz := tok5; clear zz tok5; refine wpList_stS [_] K4 rfl 25 (.tmp 7) (.tmp 18) rfl rfl (cs := (tkc 0 0 0 0)) rfl (by kernel_rfl) rfl (tkc_one 0 0 0 0) ?_; intro w5 K5; dsimp only [List.nil_append, List.cons_append] at K5; clear K4)
        | (have zz := tok6; clear zz tok6; refine wpList_stS [] K5 rfl 36 (.tmp 8) (.tmp 19) rfl rfl (cs := Z8 32) rfl (by kernel_rfl) rfl (by decide) ?_; intro w6 K6; dsimp only [List.nil_append, List.cons_append] at K6; clear K5))
      clear G4
      refine wp_region_wm [0, 1, 2, 3, 4, 5, 6, 7, 8, 9] (by kernel_rfl) (by kernel_rfl) (by kernel_rfl) (by kernel_rfl) ?_
      have K7 := K6.drew
      clear K6
      generalize w6.drew = wd at *
      iterate 7 (refine wm_rd rfl rfl (fun K hK => ?_); go_simp; refine hK _ ?_; clear hK K)
      refine wm_ext rfl rfl (fun K hK => ?_)
      go_simp
      refine hK _ _ (Ext.refl _) ?_
      clear hK K
      iterate 2 (refine wm_rd rfl rfl (fun K hK => ?_); go_simp; refine hK _ ?_; clear hK K)
      refine wm_nil ?_
      go_wp2_with (have zz := tok2; clear zz tok2; refine wpList_stS [_, _] K7 rfl 25 (.tmp 4) (.tmp 33) rfl rfl (cs := (tkc 0 0 0 0)) rfl (by kernel_rfl) rfl (tkc_one 0 0 0 0) ?_; intro wa Ka; dsimp only [List.nil_append, List.cons_append] at Ka; clear K7)
      refine bodyPost_ret (v := .tuple #[tkv 0 0 0 0, .int .i64 11]) (results_row_tmp rfl _ _ g4 25 (tkc 0 0 0 0).toArray (0, 0) _ rfl (Ka.blk (g := g4) (e := 25) (cs := (tkc 0 0 0 0)) (List.Mem.tail _ (List.Mem.tail _ (List.Mem.head _)))) Tryd.underlying25 rfl (by kernel_rfl) rfl) rfl ⟨by rw [HE.out.1, HE.out.2], Ka.toExt⟩
  · rw [if_neg hk] at HKY
    have HE : Hid (opTE key b = 2 ∧ opTV key b = (0, 0, 0, 0)) := hide (by
      have he : opTE key b = 2 := by unfold opTE; rw [if_neg hk]
      exact ⟨he, by unfold opTV; rw [if_neg (by rw [he]; decide)]⟩)
    clear hk
    go_enter Tryd.func20, Tryd.ntmps20
    go_wp2_with (have zz := tok1; clear zz tok1; refine wpList_alS (Sep.refl No w) rfl 25 rfl (tkc 0 0 0 0) (by kernel_rfl) ?_; intro w1 hz1 K1; clear hz1)
    (with_reducible refine (HKY.out _).mono ?_)
    rintro e w2 ⟨rfl, rfl⟩
    obtain ⟨g4, G4⟩ : ∃ g, w.heap.size = g := ⟨_, rfl⟩
    rw [G4] at K1 ⊢
    go_wp2_with (have zz := tok2; clear zz tok2; refine wpList_stS [] K1 rfl 25 (.tmp 4) (.tmp 13) rfl rfl (cs := (tkc 0 0 0 0)) rfl (by kernel_rfl) rfl (tkc_one 0 0 0 0) ?_; intro wa Ka; dsimp only [List.nil_append, List.cons_append] at Ka; clear K1)
    refine bodyPost_ret (v := .tuple #[tkv 0 0 0 0, .int .i64 2]) (results_row_tmp rfl _ _ g4 25 (tkc 0 0 0 0).toArray (0, 0) _ rfl (Ka.blk (g := g4) (e := 25) (cs := (tkc 0 0 0 0)) (List.Mem.head _)) Tryd.underlying25 rfl (by kernel_rfl) rfl) rfl ⟨by rw [HE.out.1, HE.out.2], Ka.toExt⟩
set_option maxRecDepth 100000 in
set_option maxHeartbeats 2000000 in
theorem topen_any (key b : List Int) (A : Option Addr) (c : Nat) (B : Option Addr) (cb : Nat) (w : World) (hl : Laid w) (hr : Rd w A (byt key)) (hb : isB key) (hc : key.length ≤ c) (hlen : key.length ≤ 100000)
    (hrb : Rd w B (byt b)) (hbb : isB b) (hcb : b.length ≤ cb) (hlb : b.length ≤ 100000) :
    Calls Tryd.prog 19 #[.slice A key.length c, .slice B b.length cb] w fun e w' => e = .returned (.tuple #[tkt (opTV key b), .int .i64 (opTE key b)]) ∧ Ext w w' := by
  have HR := hide hr
  have HB := hide hb
  have HRB := hide hrb
  have HBB := hide hbb
  have HL := hide hl
  have HGD := hide (fun (x : World) => tgood_any key A c x)
  have HP := hide (fun (x : World) (h : Ext w x) => tparse_any b B cb x (HRB.out.ext h) HBB.out hlb hcb)
  clear hr hb hrb hbb hl
  have tok1 : True := trivial
  have tok2 : True := trivial
  by_cases hk : keyOk key
  rotate_left
  · rw [decide_eq_false hk] at HGD
    have HE : Hid (opTE key b = 2 ∧ opTV key b = (0, 0, 0, 0)) := hide (by
      have he : opTE key b = 2 := by unfold opTE; rw [if_neg hk]
      exact ⟨he, by unfold opTV; rw [if_neg (by rw [he]; decide)]⟩)
    clear hk
    go_enter Tryd.func19, Tryd.ntmps19
    go_wp2_with (have zz := tok1; clear zz tok1; refine wpList_alS (Sep.refl No w) rfl 25 rfl (tkc 0 0 0 0) (by kernel_rfl) ?_; intro w1 hz1 K1; clear hz1)
    (with_reducible refine (HGD.out _).mono ?_)
    rintro e w2 ⟨rfl, rfl⟩
    obtain ⟨g4, G4⟩ : ∃ g, w.heap.size = g := ⟨_, rfl⟩
    rw [G4] at K1 ⊢
    go_wp2_with (have zz := tok2; clear zz tok2; refine wpList_stS [] K1 rfl 25 (.tmp 4) (.tmp 15) rfl rfl (cs := tkc 0 0 0 0) rfl (by kernel_rfl) rfl (tkc_one 0 0 0 0) ?_; intro wa Ka; dsimp only [List.nil_append, List.cons_append] at Ka; clear K1)
    refine bodyPost_ret (v := .tuple #[tkv 0 0 0 0, .int .i64 2]) (results_row_tmp rfl _ _ g4 25 (tkc 0 0 0 0).toArray (0, 0) _ rfl (Ka.blk (g := g4) (e := 25) (cs := tkc 0 0 0 0) (List.Mem.head _)) Tryd.underlying25 rfl (by kernel_rfl) rfl) rfl ⟨by rw [HE.out.1, HE.out.2], Ka.toExt⟩
  rw [decide_eq_true hk] at HGD
  have tok3 : True := trivial
  have tok4 : True := trivial
  have tok5 : True := trivial
  have tok6 : True := trivial
  rcases parTE_two b with h0 | h11
  rotate_left
  · have hV : parTV b = (0, 0, 0, 0) := by unfold parTV; rw [if_neg (by rw [h11]; decide)]
    have hT : byt (parTT b) = Z8 32 := by unfold parTT; rw [if_neg (by rw [h11]; decide)]; exact byt_zeros 32
    have HE : Hid (opTE key b = 11 ∧ opTV key b = (0, 0, 0, 0)) := hide (by
      have he : opTE key b = 11 := by unfold opTE; rw [if_pos hk, if_neg (by rw [h11]; decide)]
      exact ⟨he, by unfold opTV; rw [if_neg (by rw [he]; decide)]⟩)
    rw [hV, h11, hT] at HP
    clear hV hT h11 hk
    go_enter Tryd.func19, Tryd.ntmps19
    go_wp2_with (have zz := tok1; clear zz tok1; refine wpList_alS (Sep.refl No w) rfl 25 rfl (tkc 0 0 0 0) (by kernel_rfl) ?_; intro w1 hz1 K1; clear hz1)
    (with_reducible refine (HGD.out _).mono ?_)
    rintro e w2 ⟨rfl, rfl⟩
    go_wp2_with fail
    (with_reducible refine (HP.out _ K1.toExt).mono ?_)
    rintro e w2 ⟨rfl, hx2⟩
    have K2 := K1.ext hx2
    clear K1 hx2 HP
    obtain ⟨g4, G4⟩ : ∃ g, w.heap.size = g := ⟨_, rfl⟩
    rw [G4] at K2 ⊢
    clear G4
    go_wp2_with (first
      | (have zz := tok3; clear zz tok3; refine wpList_alS K2 rfl 25 rfl (tkc 0 0 0 0) (by kernel_rfl) ?_; intro w3 hz3 K3; clear hz3 K2)
      | (have zz := tok4; clear zz tok4; refine wpList_alS K3 rfl 36 rfl (Z8 32) (by kernel_rfl) ?_; intro w4 hz4 K4; clear hz4 K3)
      | (have zz := tok5; clear zz tok5; refine wpList_stS [_] K4 rfl 25 (.tmp 6) (.tmp 19) rfl rfl (cs := tkc 0 0 0 0) rfl (by kernel_rfl) rfl (tkc_one 0 0 0 0) ?_; intro w5 K5; dsimp only [List.nil_append, List.cons_append] at K5; clear K4)
      | (have zz := tok6; clear zz tok6; refine wpList_stS [] K5 rfl 36 (.tmp 7) (.tmp 20) rfl rfl (cs := Z8 32) rfl (by kernel_rfl) rfl (by decide) ?_; intro w6 K6; dsimp only [List.nil_append, List.cons_append] at K6; clear K5)
      | (have zz := tok2; clear zz tok2; refine wpList_stS [_, _] K6 rfl 25 (.tmp 4) (.tmp 24) rfl rfl (cs := tkc 0 0 0 0) rfl (by kernel_rfl) rfl (tkc_one 0 0 0 0) ?_; intro wa Ka; dsimp only [List.nil_append, List.cons_append] at Ka; clear K6))
    refine bodyPost_ret (v := .tuple #[tkv 0 0 0 0, .int .i64 11]) (results_row_tmp rfl _ _ g4 25 (tkc 0 0 0 0).toArray (0, 0) _ rfl (Ka.blk (g := g4) (e := 25) (cs := tkc 0 0 0 0) (List.Mem.tail _ (List.Mem.tail _ (List.Mem.head _)))) Tryd.underlying25 rfl (by kernel_rfl) rfl) rfl ⟨by rw [HE.out.1, HE.out.2], Ka.toExt⟩
  obtain ⟨s1, o1, n1, e1, hV⟩ : ∃ s1 o1 n1 e1, parTV b = (s1, o1, n1, e1) := ⟨_, _, _, _, rfl⟩
  have hT : parTT b = b.drop 24 := by unfold parTT; rw [if_pos h0]
  have h56 := (parTE_zero h0).1
  have hov : decTV (b.take 24) = (s1, o1, n1, e1) := by
    unfold parTV at hV
    rw [if_pos h0] at hV
    exact hV
  have hd32 : (b.drop 24).length = 32 := by rw [List.length_drop, h56]
  have ht24 : (b.take 24).length = 24 := by rw [List.length_take, h56]; rfl
  have HTAG := hide (fun (x : World) (h : Ext w x) => ttag_any key (b.take 24) A c B cb x (HL.out.ext h) (HR.out.ext h) HB.out hc hlen (rd_take (HRB.out.ext h) 24) (isB_take HBB.out 24) (by omega))
  obtain ⟨t, HT⟩ : ∃ t, Hid (tagTi key (b.take 24) = t) := ⟨_, hide rfl⟩
  obtain ⟨l, HLd⟩ : ∃ l, Hid (b.drop 24 = l) := ⟨_, hide rfl⟩
  have HTL : Hid (t.length = 32) := hide (by rw [← HT.out, tagTi_len])
  have HTB : Hid (isB t) := hide (by rw [← HT.out]; exact tagTi_isB _ _)
  have HLL : Hid (l.length = 32) := hide (by rw [← HLd.out]; exact hd32)
  have HLB : Hid (isB l) := hide (by rw [← HLd.out]; exact isB_drop HBB.out 24)
  have HS : Hid (decide (t = l) = true ∧ opTE key b = 0 ∧ opTV key b = (s1, o1, n1, e1) ∨ decide (t = l) = false ∧ opTE key b = 12 ∧ opTV key b = (0, 0, 0, 0)) := hide (by
    rw [← HT.out, ← HLd.out]
    by_cases ht : tagTi key (b.take 24) = b.drop 24
    · have he : opTE key b = 0 := by unfold opTE; rw [if_pos hk, if_pos h0, if_pos ht]
      exact .inl ⟨decide_eq_true ht, he, by unfold opTV; rw [if_pos he, hov]⟩
    · have he : opTE key b = 12 := by unfold opTE; rw [if_pos hk, if_pos h0, if_neg ht]
      exact .inr ⟨decide_eq_false ht, he, by unfold opTV; rw [if_neg (by rw [he]; decide)]⟩)
  rw [hV, h0, hT, h56, HLd.out] at HP
  rw [ht24, HT.out] at HTAG
  have hcc : (24 : Int) ≤ (cb : Int) := by omega
  have HBL := hide (show (byt l).length = 32 by rw [byt_length, HLL.out])
  have HBT := hide (show (byt t).length = 32 by rw [byt_length, HTL.out])
  have HEQ := hide (fun (x : World) (g9 g7 : Nat) (h1 : Rd x (some ⟨g9, 0, none⟩) (byt t)) (h2 : Rd x (some ⟨g7, 0, none⟩) (byt l)) => equal_any t l (some ⟨g9, 0, none⟩) (some ⟨g7, 0, none⟩) 32 32 x h1 h2 HTB.out HLB.out (by have := HTL.out; omega) (by have := HLL.out; omega))
  rw [HTL.out, HLL.out] at HEQ
  rw [h56]
  clear hV hT hov h0 hk h56 hd32 ht24 HT HLd
  go_enter Tryd.func19, Tryd.ntmps19
  go_wp2_with (have zz := tok1; clear zz tok1; refine wpList_alS (Sep.refl No w) rfl 25 rfl (tkc 0 0 0 0) (by kernel_rfl) ?_; intro w1 hz1 K1; clear hz1)
  (with_reducible refine (HGD.out _).mono ?_)
  rintro e w2 ⟨rfl, rfl⟩
  go_wp2_with fail
  (with_reducible refine (HP.out _ K1.toExt).mono ?_)
  rintro e w2 ⟨rfl, hx2⟩
  have K2 := K1.ext hx2
  clear K1 hx2 HP
  go_wp2_with (first
    | (have zz := tok3; clear zz tok3; refine wpList_alS K2 rfl 25 rfl (tkc 0 0 0 0) (by kernel_rfl) ?_; intro w3 hz3 K3; clear hz3 K2)
    | (have zz := tok4; clear zz tok4; refine wpList_alS K3 rfl 36 rfl (Z8 32) (by kernel_rfl) ?_; intro w4 hz4 K4; clear hz4 K3)
    | (have zz := tok5; clear zz tok5; refine wpList_stS [_] K4 rfl 25 (.tmp 6) (.tmp 19) rfl rfl (cs := tkc s1 o1 n1 e1) rfl (by kernel_rfl) rfl (tkc_one s1 o1 n1 e1) ?_; intro w5 K5; dsimp only [List.nil_append, List.cons_append] at K5; clear K4)
    | (have zz := tok6; clear zz tok6; refine wpList_stS [] K5 rfl 36 (.tmp 7) (.tmp 20) rfl rfl (cs := byt l) rfl (by rw [HBL.out]; kernel_rfl) (by rw [HBL.out]; rfl) (byt_one _) ?_; intro w6 K6; dsimp only [List.nil_append, List.cons_append] at K6; clear K5))
  (with_reducible refine (HTAG.out _ K6.toExt).mono ?_)
  rintro e w7 ⟨rfl, hx7⟩
  have K7 := K6.ext hx7
  clear K6 hx7 HTAG
  have tok7 : True := trivial
  have tok8 : True := trivial
  go_upto_region 7 with (first
    | (have zz := tok7; clear zz tok7; refine wpList_alS K7 rfl 36 rfl (Z8 32) (by kernel_rfl) ?_; intro w8 hz8 K8; clear hz8 K7)
    | (have zz := tok8; clear zz tok8; refine wpList_stS [] K8 rfl 36 (.tmp 9) (.tmp 29) rfl rfl (cs := byt t) rfl (by rw [HBT.out]; kernel_rfl) (by rw [HBT.out]; rfl) (byt_one _) ?_; intro w9 K9; dsimp only [List.nil_append, List.cons_append] at K9; clear K8))
  obtain ⟨g4, G4⟩ : ∃ g, w.heap.size = g := ⟨_, rfl⟩
  obtain ⟨g6, G6⟩ : ∃ g, w2.heap.size = g := ⟨_, rfl⟩
  obtain ⟨g7, G7⟩ : ∃ g, w3.heap.size = g := ⟨_, rfl⟩
  obtain ⟨g9, G9⟩ : ∃ g, w7.heap.size = g := ⟨_, rfl⟩
  rw [G4, G6, G7, G9] at K9
  rw [G4, G6, G7, G9]
  clear G4 G6 G7 G9
  refine wp_region_wm [0, 1, 2, 3, 4, 5, 6, 7] (by kernel_rfl) (by kernel_rfl) (by kernel_rfl) (by kernel_rfl) ?_
  have KA := K9.drew
  clear K9
  generalize w9.drew = wd at *
  have hb9 := KA.blk (g := g9) (e := 36) (cs := byt t) (List.Mem.head _)
  have hb7 := KA.blk (g := g7) (e := 36) (cs := byt l) (List.Mem.tail _ (List.Mem.head _))
  have hg9 := hb9.lt
  have hg7 := hb7.lt
  iterate 2 (refine wm_rd rfl rfl (fun K hK => ?_); go_simp; refine hK _ ?_; clear hK K)
  refine wm_ext rfl rfl (fun K hK => ?_)
  go_simp
  go_at_call 33
  (with_reducible refine (HEQ.out wd g9 g7 hb9.rd hb7.rd).mono ?_)
  rintro e wb ⟨rfl, hxb⟩
  refine hK _ _ hxb ?_
  clear hK K hb9 hb7 HEQ
  have KB := KA.ext hxb
  clear KA hxb
  obtain ⟨dd, hdd⟩ : ∃ x, decide (t = l) = x := ⟨_, rfl⟩
  rw [hdd] at HS
  rw [hdd]
  clear hdd
  iterate 5 (refine wm_rd rfl rfl (fun K hK => ?_); go_simp; refine hK _ ?_; clear hK K)
  refine wm_nil ?_
  have tok9 : True := trivial
  have toka : True := trivial
  rcases HS.out with ⟨rfl, he, hv⟩ | ⟨rfl, he, hv⟩
  · have HE := hide (And.intro he hv)
    clear he hv HS
    go_wp2_with (first
      | (have zz := tok9; clear zz tok9; refine wpList_ldS KB (List.Mem.tail _ (List.Mem.tail _ (List.Mem.head _))) rfl 25 (.tmp 6) rfl rfl _ Tryd.underlying25 rfl (by kernel_rfl) ?_)
      | (have zz := toka; clear zz toka; refine wpList_stS [_, _, _] KB rfl 25 (.tmp 4) (.tmp 39) rfl rfl (cs := tkc s1 o1 n1 e1) rfl (by kernel_rfl) rfl (tkc_one s1 o1 n1 e1) ?_; intro wc Kc; dsimp only [List.nil_append, List.cons_append] at Kc))
    refine bodyPost_ret (v := .tuple #[tkv s1 o1 n1 e1, .int .i64 0]) (results_row_tmp rfl _ _ g4 25 (tkc s1 o1 n1 e1).toArray (0, 0) _ rfl (Kc.blk (g := g4) (e := 25) (cs := tkc s1 o1 n1 e1) (List.Mem.tail _ (List.Mem.tail _ (List.Mem.tail _ (List.Mem.head _))))) Tryd.underlying25 rfl (by kernel_rfl) rfl) rfl ⟨by rw [HE.out.1, HE.out.2], Kc.toExt⟩
  · have HE := hide (And.intro he hv)
    clear he hv HS
    go_wp2_with (have zz := toka; clear zz toka; refine wpList_stS [_, _, _] KB rfl 25 (.tmp 4) (.tmp 38) rfl rfl (cs := tkc 0 0 0 0) rfl (by kernel_rfl) rfl (tkc_one 0 0 0 0) ?_; intro wc Kc; dsimp only [List.nil_append, List.cons_append] at Kc)
    refine bodyPost_ret (v := .tuple #[tkv 0 0 0 0, .int .i64 12]) (results_row_tmp rfl _ _ g4 25 (tkc 0 0 0 0).toArray (0, 0) _ rfl (Kc.blk (g := g4) (e := 25) (cs := tkc 0 0 0 0) (List.Mem.tail _ (List.Mem.tail _ (List.Mem.tail _ (List.Mem.head _))))) Tryd.underlying25 rfl (by kernel_rfl) rfl) rfl ⟨by rw [HE.out.1, HE.out.2], Kc.toExt⟩
end Go.Proofs.YtamlngdjbmndlaaDoor
