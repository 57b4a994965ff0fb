/- Tickets: Parse, by the program and by the reference. -/
import Derived.Test.YtamlngdjbmndlaaDoorGc
namespace Go.Proofs.YtamlngdjbmndlaaDoor
open Go.RowKit Go.Gr
set_option linter.unusedVariables false
set_option linter.unusedSimpArgs false
attribute [local go_sem] rdOp rdAt rdUpon Cls forall_fr
set_option maxRecDepth 100000 in
set_option maxHeartbeats 1000000 in
theorem tparse_any (b : List Int) (A : Option Addr) (c : Nat) (w : World) (hr : Rd w A (byt b)) (hb : isB b) (hlb : b.length ≤ 100000) (hc : b.length ≤ c) :
    Calls Tryd.prog 17 #[.slice A b.length c] w fun e w' => e = .returned (.tuple #[tkt (parTV b), .agg (byt (parTT b)).toArray, .int .i64 (parTE b)]) ∧ Ext w w' := by
  have HR := hide hr
  have HB := hide hb
  clear hr hb
  have tok1 : True := trivial
  have tok2 : True := trivial
  by_cases h56 : b.length = 56
  · have HL := hide h56
    have hli : (b.length : Int) = 56 := by omega
    have hc56 : 56 ≤ c := by omega
    have hc24 : ¬ c = 24 := by omega
    have e24 : (b.take 24).length = 24 := by rw [List.length_take, h56]; rfl
    have HD := hide (fun (x : World) (h : Ext w x) => tdec_any (b.take 24) A c x (rd_take (HR.out.ext h) 24) (isB_take HB.out 24) (by omega) (by omega))
    rw [e24] at HD
    have hPE : parTE b = decTE (b.take 24) := by unfold parTE; rw [if_pos h56]
    have hcc : (24 : Int) ≤ (c : Int) := by omega
    have hlb32 : (b.drop 24).length = 32 := by rw [List.length_drop, h56]
    rcases decTE_two (b.take 24) with h0 | h11
    · obtain ⟨s1, o1, n1, e1, hV⟩ : ∃ s1 o1 n1 e1, decTV (b.take 24) = (s1, o1, n1, e1) := ⟨_, _, _, _, rfl⟩
      have HE : Hid (parTE b = 0 ∧ parTV b = (s1, o1, n1, e1) ∧ parTT b = b.drop 24) := hide (by
        have h : parTE b = 0 := by rw [hPE, h0]
        refine ⟨h, ?_, by unfold parTT; rw [if_pos h]⟩
        unfold parTV
        rw [if_pos h, hV])
      rw [hV, h0] at HD
      have HB32 := hide (show (byt (b.drop 24)).length = 32 by rw [byt_length, hlb32])
      have HC32 := hide (copy32 hlb32)
      rw [h56]
      clear hPE hV h0 e24 h56 hlb32
      go_enter Tryd.func17, Tryd.ntmps17
      go_wp2_with (first
        | (have zz := tok1; clear zz tok1; refine wpList_alS (Sep.refl No w) rfl 25 rfl (tkc 0 0 0 0) (by kernel_rfl) ?_; intro w1 hz1 K1; clear hz1)
        | (have zz := tok2; clear zz tok2; refine wpList_alS K1 rfl 36 rfl (Z8 32) (by kernel_rfl) ?_; intro w2 hz2 K2; clear K1 hz2))
      (with_reducible refine (HD.out _ K2.toExt).mono ?_)
      rintro e w3 ⟨rfl, hx3⟩
      have K3 := K2.ext hx3
      clear K2 hx3 HD
      obtain ⟨g2, G2⟩ : ∃ g, w.heap.size = g := ⟨_, rfl⟩
      obtain ⟨g3, G3⟩ : ∃ g, w1.heap.size = g := ⟨_, rfl⟩
      rw [G2, G3] at K3 ⊢
      clear G2 G3
      have tok3 : True := trivial
      go_upto_region 6 with (have zz := tok3; clear zz tok3; refine wpList_stS [_] K3 rfl 25 (.tmp 2) (.tmp 14) rfl rfl (cs := (tkc s1 o1 n1 e1)) rfl (by kernel_rfl) rfl (tkc_one s1 o1 n1 e1) ?_; intro w4 K4; dsimp only [List.nil_append, List.cons_append] at K4; clear K3)
      refine wp_region_wtR (RT.fr No) 3 [0, 1, 2] (by kernel_rfl) (by kernel_rfl) (by kernel_rfl) ?_
      have K5 := K4.drew
      clear K4
      generalize w4.drew = wd at *
      have hg3 := (K5.blk (g := g3) (e := 36) (cs := Z8 32) (List.Mem.head _)).lt
      iterate 3 (refine wr_rd rfl rfl (fun K hK => ?_); go_simp; refine hK _ ?_; clear hK K)
      refine wr_nil ?_
      simp only [List.drop_succ_cons, List.drop_zero]
      refine wpList_cpS [] K5 rfl (.tmp 21) (.tmp 23) 26 26 rfl 5 Tryd.underlying26 (by kernel_rfl) rfl rfl (rd_dropK (K5.rdN HR.out) 24 (by decide)) HB32.out 32 rfl (by decide) (byt_one _) ?_
      intro w6 K6
      dsimp only [List.nil_append] at K6
      rw [HC32.out] at K6
      clear K5
      refine NoPanic.normal ?_
      go_upto_region 7 with fail
      refine wp_region_wmr (RT.fr No) [0, 1, 2, 3, 4] (by kernel_rfl) (by kernel_rfl) (by kernel_rfl) (by kernel_rfl) ?_
      have K7 := K6.drew
      clear K6
      generalize w6.drew = we at *
      have B3 := K7.blk (g := g3) (e := 36) (cs := byt (b.drop 24)) (List.Mem.head _)
      have B2 := K7.blk (g := g2) (e := 25) (cs := (tkc s1 o1 n1 e1)) (List.Mem.tail _ (List.Mem.head _))
      refine wmr_ldR rfl rfl 25 (.tmp 2) rfl (g := g2) (off := 0) (cs := (tkc s1 o1 n1 e1)) (fun w' h => Fr.blk h B2 (fun h => h)) (fun j v h => by rw [Nat.zero_add]; exact h) rfl _ Tryd.underlying25 rfl (by kernel_rfl) ?_
      refine wmr_ldR rfl rfl 36 (.tmp 3) rfl (g := g3) (off := 0) (cs := byt (b.drop 24)) (fun w' h => Fr.blk h B3 (fun h => h)) (fun j v h => by rw [Nat.zero_add]; exact h) rfl _ Tryd.underlying36 rfl (by rw [HB32.out]; kernel_rfl) ?_
      refine wmr_ext rfl rfl (fun K hK => ?_)
      rw [if_pos (show Region.wanted _ _ = true from rfl)]
      refine wp_stSame B2 25 (.tmp 2) (.tmp 25) rfl rfl rfl (by kernel_rfl) (tkc_one s1 o1 n1 e1) (hK _ _ (Fr.refl _ _) ?_)
      clear hK K
      refine wmr_ext rfl rfl (fun K hK => ?_)
      rw [if_pos (show Region.wanted _ _ = true from rfl)]
      refine wp_stSame B3 36 (.tmp 3) (.tmp 26) rfl rfl rfl (by rw [HB32.out]; kernel_rfl) (byt_one _) (hK _ _ (Fr.refl _ _) ?_)
      clear hK K
      iterate 1 (refine wmr_rd rfl rfl (fun K hK => ?_); go_simp; refine hK _ ?_; clear hK K)
      refine wmr_nil ?_
      go_wp2_with fail
      refine bodyPost_ret (v := .tuple #[tkv s1 o1 n1 e1, .agg (byt (b.drop 24)).toArray, .int .i64 0]) (results_cct rfl _ _ g2 g3 25 36 (tkc s1 o1 n1 e1) (byt (b.drop 24)) _ _ rfl rfl B2 B3 Tryd.underlying25 rfl (by kernel_rfl) Tryd.underlying36 rfl (by rw [HB32.out]; kernel_rfl) rfl) rfl ⟨by rw [HE.out.1, HE.out.2.1, HE.out.2.2], K7.toExt⟩
    · have hV : decTV (b.take 24) = (0, 0, 0, 0) := by unfold decTV; rw [if_neg (by rw [h11]; decide)]
      have HE : Hid (parTE b = 11 ∧ parTV b = (0, 0, 0, 0) ∧ byt (parTT b) = Z8 32) := hide (by
        have h : parTE b = 11 := by rw [hPE, h11]
        exact ⟨h, by unfold parTV; rw [if_neg (by rw [h]; decide)], by unfold parTT; rw [if_neg (by rw [h]; decide)]; exact byt_zeros 32⟩)
      rw [hV, h11] at HD
      rw [h56]
      clear hPE hV h11 e24 h56 hlb32
      go_enter Tryd.func17, Tryd.ntmps17
      go_wp2_with (first
        | (have zz := tok1; clear zz tok1; refine wpList_alS (Sep.refl No w) rfl 25 rfl (tkc 0 0 0 0) (by kernel_rfl) ?_; intro w1 hz1 K1; clear hz1)
        | (have zz := tok2; clear zz tok2; refine wpList_alS K1 rfl 36 rfl (Z8 32) (by kernel_rfl) ?_; intro w2 hz2 K2; clear K1 hz2))
      (with_reducible refine (HD.out _ K2.toExt).mono ?_)
      rintro e w3 ⟨rfl, hx3⟩
      have K3 := K2.ext hx3
      clear K2 hx3 HD
      obtain ⟨g2, G2⟩ : ∃ g, w.heap.size = g := ⟨_, rfl⟩
      obtain ⟨g3, G3⟩ : ∃ g, w1.heap.size = g := ⟨_, rfl⟩
      rw [G2, G3] at K3 ⊢
      clear G2 G3
      have tok3 : True := trivial
      go_upto_region 5 with (have zz := tok3; clear zz tok3; refine wpList_stS [_] K3 rfl 25 (.tmp 2) (.tmp 14) rfl rfl (cs := (tkc 0 0 0 0)) rfl (by kernel_rfl) rfl (tkc_one 0 0 0 0) ?_; intro w4 K4; dsimp only [List.nil_append, List.cons_append] at K4; clear K3)
      refine wp_region_wmr (RT.fr No) [0, 1, 2, 3, 4, 5] (by kernel_rfl) (by kernel_rfl) (by kernel_rfl) (by kernel_rfl) ?_
      have K7 := K4.drew
      clear K4
      generalize w4.drew = we at *
      have B3 := K7.blk (g := g3) (e := 36) (cs := Z8 32) (List.Mem.head _)
      have B2 := K7.blk (g := g2) (e := 25) (cs := (tkc 0 0 0 0)) (List.Mem.tail _ (List.Mem.head _))
      iterate 1 (refine wmr_rd rfl rfl (fun K hK => ?_); go_simp; refine hK _ ?_; clear hK K)
      refine wmr_ldR rfl rfl 36 (.tmp 3) rfl (g := g3) (off := 0) (cs := Z8 32) (fun w' h => Fr.blk h B3 (fun h => h)) (fun j v h => by rw [Nat.zero_add]; exact h) rfl _ Tryd.underlying36 rfl (by kernel_rfl) ?_
      iterate 1 (refine wmr_rd rfl rfl (fun K hK => ?_); go_simp; refine hK _ ?_; clear hK K)
      refine wmr_ext rfl rfl (fun K hK => ?_)
      rw [if_pos (show Region.wanted _ _ = true from rfl)]
      refine wp_stSame B2 25 (.tmp 2) (.tmp 18) rfl rfl rfl (by kernel_rfl) (tkc_one 0 0 0 0) (hK _ _ (Fr.refl _ _) ?_)
      clear hK K
      refine wmr_ext rfl rfl (fun K hK => ?_)
      rw [if_pos (show Region.wanted _ _ = true from rfl)]
      refine wp_stSame B3 36 (.tmp 3) (.tmp 19) rfl rfl rfl (by kernel_rfl) (by decide) (hK _ _ (Fr.refl _ _) ?_)
      clear hK K
      iterate 1 (refine wmr_rd rfl rfl (fun K hK => ?_); go_simp; refine hK _ ?_; clear hK K)
      refine wmr_nil ?_
      go_wp2_with fail
      refine bodyPost_ret (v := .tuple #[tkv 0 0 0 0, .agg (Z8 32).toArray, .int .i64 11]) (results_cct rfl _ _ g2 g3 25 36 (tkc 0 0 0 0) (Z8 32) _ _ rfl rfl B2 B3 Tryd.underlying25 rfl (by kernel_rfl) Tryd.underlying36 rfl (by kernel_rfl) rfl) rfl ⟨by rw [HE.out.1, HE.out.2.1, HE.out.2.2], K7.toExt⟩
  · have HE : Hid (parTE b = 11 ∧ parTV b = (0, 0, 0, 0) ∧ byt (parTT b) = Z8 32) := hide (by
      have h : parTE b = 11 := by unfold parTE; rw [if_neg h56]
      exact ⟨h, by unfold parTV; rw [if_neg (by rw [h]; decide)], by unfold parTT; rw [if_neg (by rw [h]; decide)]; exact byt_zeros 32⟩)
    have hne : ¬ (b.length : Int) = 56 := by omega
    have hne2 : ((b.length : Int) != 56) = true := bne_iff_ne.2 hne
    go_enter Tryd.func17, Tryd.ntmps17
    go_upto_region 2 with (first
      | (have zz := tok1; clear zz tok1; refine wpList_alS (Sep.refl No w) rfl 25 rfl (tkc 0 0 0 0) (by kernel_rfl) ?_; intro w1 hz1 K1; clear hz1)
      | (have zz := tok2; clear zz tok2; refine wpList_alS K1 rfl 36 rfl (Z8 32) (by kernel_rfl) ?_; intro w2 hz2 K2; clear K1 hz2))
    obtain ⟨g2, G2⟩ : ∃ g, w.heap.size = g := ⟨_, rfl⟩
    obtain ⟨g3, G3⟩ : ∃ g, w1.heap.size = g := ⟨_, rfl⟩
    rw [G2, G3] at K2 ⊢
    clear G2 G3
    refine wp_region_wmr (RT.fr No) [0, 1, 2, 3, 4] (by kernel_rfl) (by kernel_rfl) (by kernel_rfl) (by kernel_rfl) ?_
    have K3 := K2.drew
    clear K2
    generalize w2.drew = wd at *
    have B3 := K3.blk (g := g3) (e := 36) (cs := Z8 32) (List.Mem.head _)
    have B2 := K3.blk (g := g2) (e := 25) (cs := (tkc 0 0 0 0)) (List.Mem.tail _ (List.Mem.head _))
    refine wmr_ldR rfl rfl 25 (.tmp 2) rfl (g := g2) (off := 0) (cs := (tkc 0 0 0 0)) (fun w' h => Fr.blk h B2 (fun h => h)) (fun j v h => by rw [Nat.zero_add]; exact h) rfl _ Tryd.underlying25 rfl (by kernel_rfl) ?_
    refine wmr_ldR rfl rfl 36 (.tmp 3) rfl (g := g3) (off := 0) (cs := Z8 32) (fun w' h => Fr.blk h B3 (fun h => h)) (fun j v h => by rw [Nat.zero_add]; exact h) rfl _ Tryd.underlying36 rfl (by kernel_rfl) ?_
    refine wmr_ext rfl rfl (fun K hK => ?_)
    rw [if_pos (show Region.wanted _ _ = true from rfl)]
    refine wp_stSame B2 25 (.tmp 2) (.tmp 8) rfl rfl rfl (by kernel_rfl) (tkc_one 0 0 0 0) (hK _ _ (Fr.refl _ _) ?_)
    clear hK K
    refine wmr_ext rfl rfl (fun K hK => ?_)
    rw [if_pos (show Region.wanted _ _ = true from rfl)]
    refine wp_stSame B3 36 (.tmp 3) (.tmp 9) rfl rfl rfl (by kernel_rfl) (by decide) (hK _ _ (Fr.refl _ _) ?_)
    clear hK K
    iterate 1 (refine wmr_rd rfl rfl (fun K hK => ?_); go_simp; refine hK _ ?_; clear hK K)
    refine wmr_nil ?_
    go_wp2_with fail
    refine bodyPost_ret (v := .tuple #[tkv 0 0 0 0, .agg (Z8 32).toArray, .int .i64 11]) (results_cct rfl _ _ g2 g3 25 36 (tkc 0 0 0 0) (Z8 32) _ _ rfl rfl B2 B3 Tryd.underlying25 rfl (by kernel_rfl) Tryd.underlying36 rfl (by kernel_rfl) rfl) rfl ⟨by rw [HE.out.1, HE.out.2.1, HE.out.2.2], K3.toExt⟩
theorem ttag_step {w : World} {g : Nat} {l : List Int} {k : Nat} (hl : l.length = 32) (hB : Blk w g 36 (byt (l.take k) ++ Z8 (32 - k))) (hk : k < 32) :
    ∃ u, w.cell? ⟨g, k, none⟩ = some u ∧ (byt (l.take k) ++ Z8 (32 - k)).set k (.int .u8 (l.getD k 0)) = byt (l.take (k + 1)) ++ Z8 (32 - (k + 1)) := by
  have hlen : (byt (l.take k)).length = k := by rw [byt_length, List.length_take, hl]; omega
  have hkl : k < l.length := by omega
  refine ⟨_, (hB.cell k).trans (List.getElem?_eq_getElem (by rw [List.length_append, hlen]; simp [Z8]; omega)), ?_⟩
  have hz : Z8 (32 - k) = .int .u8 0 :: Z8 (32 - (k + 1)) := by
    unfold Z8
    rw [show 32 - k = (32 - (k + 1)) + 1 by omega, List.replicate_succ]
  rw [List.set_append_right _ _ (by omega), hlen, Nat.sub_self, hz, List.set_cons_zero, List.take_succ_eq_append_getElem hkl, byt_append, List.append_assoc]
  rw [List.getD_eq_getElem?_getD, List.getElem?_eq_getElem hkl]
  rfl
set_option maxRecDepth 100000 in
set_option maxHeartbeats 2000000 in
theorem rtparse_any (b : List Int) (A : Option Addr) (c : Nat) (w : World) (hr : Rd w A (byt b)) (hb : isB b) (hlb : b.length ≤ 100000) (hc : b.length ≤ c) :
    Calls Tryd.prog 18 #[.slice A b.length c] w fun e w' => e = .returned (.tuple #[tkt (parTV b), .agg (byt (parTT b)).toArray, .int .i64 (parTE b)]) ∧ Ext w w' := by
  have HR := hide hr
  have HB := hide hb
  clear hr hb
  have tok1 : True := trivial
  have tok2 : True := trivial
  have tok3 : True := trivial
  by_cases h56 : b.length = 56
  · have HL := hide h56
    have hli : (b.length : Int) = 56 := by omega
    have hc56 : 56 ≤ c := by omega
    have hc24 : ¬ c = 24 := by omega
    have e24 : (b.take 24).length = 24 := by rw [List.length_take, h56]; rfl
    have HD := hide (fun (x : World) (h : Ext w x) => rtdec_any (b.take 24) A c x (rd_take (HR.out.ext h) 24) (isB_take HB.out 24) (by omega) (by omega))
    rw [e24] at HD
    have hPE : parTE b = decTE (b.take 24) := by unfold parTE; rw [if_pos h56]
    have hcc : (24 : Int) ≤ (c : Int) := by omega
    have hlb32 : (b.drop 24).length = 32 := by rw [List.length_drop, h56]
    rcases decTE_two (b.take 24) with h0 | h11
    · obtain ⟨s1, o1, n1, e1, hV⟩ : ∃ s1 o1 n1 e1, decTV (b.take 24) = (s1, o1, n1, e1) := ⟨_, _, _, _, rfl⟩
      have HE : Hid (parTE b = 0 ∧ parTV b = (s1, o1, n1, e1) ∧ parTT b = b.drop 24) := hide (by
        have h : parTE b = 0 := by rw [hPE, h0]
        refine ⟨h, ?_, by unfold parTT; rw [if_pos h]⟩
        unfold parTV
        rw [if_pos h, hV])
      rw [hV, h0] at HD
      obtain ⟨l, HLd⟩ : ∃ l, Hid (b.drop 24 = l) := ⟨_, hide rfl⟩
      have HLL : Hid (l.length = 32) := hide (by rw [← HLd.out]; exact hlb32)
      have HBL := hide (show (byt l).length = 32 by rw [byt_length, HLL.out])
      rw [h56]
      clear hPE hV h0 e24 h56 hlb32
      go_enter Tryd.func18, Tryd.ntmps18
      go_wp2_with (first
        | (have zz := tok1; clear zz tok1; refine wpList_alS (Sep.refl No w) rfl 25 rfl (tkc 0 0 0 0) (by kernel_rfl) ?_; intro w1 hz1 K1; clear hz1)
        | (have zz := tok2; clear zz tok2; refine wpList_alS K1 rfl 36 rfl (Z8 32) (by kernel_rfl) ?_; intro w2 hz2 K2; clear hz2)
        | (have zz := tok3; clear zz tok3; refine wpList_alS K2 rfl 36 rfl (Z8 32) (by kernel_rfl) ?_; intro w3 hz3 K3; clear hz3))
      obtain ⟨g2, G2⟩ : ∃ g, w.heap.size = g := ⟨_, rfl⟩
      obtain ⟨g3, G3⟩ : ∃ g, w1.heap.size = g := ⟨_, rfl⟩
      obtain ⟨g5, G5⟩ : ∃ g, w2.heap.size = g := ⟨_, rfl⟩
      have h23 : g2 < g3 := by rw [← G2, ← G3]; exact (K1.blk (g := w.heap.size) (List.Mem.head _)).lt
      have h35 : g3 < g5 := by rw [← G3, ← G5]; exact (K2.blk (g := w1.heap.size) (List.Mem.head _)).lt
      rw [G2, G3, G5] at K3
      rw [G2, G3, G5]
      clear K1 K2 G2 G3 G5
      (with_reducible refine (HD.out _ K3.toExt).mono ?_)
      rintro e w4 ⟨rfl, hx4⟩
      have K4 := K3.ext hx4
      clear K3 hx4 HD
      have tok4 : True := trivial
      have tok5 : True := trivial
      go_upto_region 7 with (first
        | (have zz := tok4; clear zz tok4; refine wpList_alS K4 rfl 25 rfl (tkc 0 0 0 0) (by kernel_rfl) ?_; intro w5 hz5 K5; clear hz5)
        | (have zz := tok5; clear zz tok5; refine wpList_stS [] K5 rfl 25 (.tmp 6) (.tmp 18) rfl rfl (cs := (tkc s1 o1 n1 e1)) rfl (by kernel_rfl) rfl (tkc_one s1 o1 n1 e1) ?_; intro w6 K6; dsimp only [List.nil_append] at K6; clear K5))
      obtain ⟨g6, G6⟩ : ∃ g, w4.heap.size = g := ⟨_, rfl⟩
      have h56 : g5 < g6 := by rw [← G6]; exact (K4.blk (g := g5) (List.Mem.head _)).lt
      rw [G6] at K6 ⊢
      clear K4 G6
      have K7 : Hid (Sep No w w6 [As.blk g6 25 (tkc s1 o1 n1 e1), As.blk g5 36 (byt (l.take 0) ++ Z8 (32 - 0)), As.blk g3 36 (Z8 32), As.blk g2 25 (tkc 0 0 0 0)]) := hide K6
      clear K6
      go_wp2_with fail
      go_loopw [8] (fun i wr => ∃ k : Nat, i = .int .i64 k ∧ k ≤ 32 ∧ Hid (Sep No w wr [As.blk g6 25 (tkc s1 o1 n1 e1), As.blk g5 36 (byt (l.take k) ++ Z8 (32 - k)), As.blk g3 36 (Z8 32), As.blk g2 25 (tkc 0 0 0 0)])) (fun i _ => 32 - (intOf i).toNat)
      case atStart => exact ⟨0, rfl, by omega, K7⟩
      case round =>
        obtain ⟨k, rfl, hk, HS⟩ := hrel
        clear K7
        by_cases hlt : k < 32
        · have hk32 : (k : Int) < 32 := by omega
          have hk56 : 24 + (k : Int) < 56 := by omega
          have hB5 := HS.out.blk (g := g5) (e := 36) (cs := byt (l.take k) ++ Z8 (32 - k)) (List.Mem.tail _ (List.Mem.head _))
          obtain ⟨u0, c5, hset⟩ := ttag_step HLL.out hB5 hlt
          have f5 := hB5.free k
          have hg5 := hB5.lt
          obtain ⟨ad, hA, cb⟩ := (HS.out.rdN HR.out).at_ (k := 24 + k) (by rw [byt_length, HL.out]; omega)
          subst hA
          have hbl : 24 + k < b.length := by rw [HL.out]; omega
          have hbk : b[24 + k] = l.getD k 0 := by
            rw [← HLd.out, List.getD_eq_getElem?_getD, List.getElem?_drop, List.getElem?_eq_getElem hbl]
            rfl
          rw [byt_get hbl] at cb
          obtain ⟨y, HY⟩ : ∃ y, Hid (l.getD k 0 = y) := ⟨_, hide rfl⟩
          rw [HY.out] at hset hbk
          rw [hbk] at cb
          have H2 := Sep.cell (L1 := [_]) HS.out k (.int .u8 y)
          dsimp only [List.nil_append, List.cons_append] at H2
          rw [hset] at H2
          have K8 := hide H2
          clear H2 HS hB5 hset hbk
          go_wp2_with fail
          go_roundw
          case rel => exact ⟨k + 1, by go_num, by omega, K8⟩
          case measure => simp [intOf]; omega
        · obtain rfl : k = 32 := by omega
          have H6 := HS.out
          rw [List.take_of_length_le (Nat.le_of_eq HLL.out), show Z8 (32 - 32) = [] from rfl, List.append_nil] at H6
          clear HS
          go_upto_region 11 with fail
          refine wp_region_wmr (RT.fr (fun i => i = g2 ∨ i = g3)) [0, 1, 2, 3, 4] (by kernel_rfl) (by kernel_rfl) (by kernel_rfl) (by kernel_rfl) ?_
          have H7 := H6.drew
          clear H6
          generalize wr.drew = we at *
          have B6 := H7.blk (g := g6) (e := 25) (cs := (tkc s1 o1 n1 e1)) (List.Mem.head _)
          have B5 := H7.blk (g := g5) (e := 36) (cs := byt l) (List.Mem.tail _ (List.Mem.head _))
          refine wmr_ldR rfl rfl 25 (.tmp 6) rfl (g := g6) (off := 0) (cs := (tkc s1 o1 n1 e1)) (fun w' h => Fr.blk h B6 (fun h => by omega)) (fun j v h => by rw [Nat.zero_add]; exact h) rfl _ Tryd.underlying25 rfl (by kernel_rfl) ?_
          refine wmr_ldR rfl rfl 36 (.tmp 5) rfl (g := g5) (off := 0) (cs := byt l) (fun w' h => Fr.blk h B5 (fun h => by omega)) (fun j v h => by rw [Nat.zero_add]; exact h) rfl _ Tryd.underlying36 rfl (by rw [HBL.out]; kernel_rfl) ?_
          refine wmr_ext rfl rfl (fun K hK => ?_)
          rw [if_pos (show Region.wanted _ _ = true from rfl)]
          refine wp_stS [_, _, _] H7 25 (.tmp 2) (.tmp 36) rfl (cs := (tkc s1 o1 n1 e1)) rfl rfl (by kernel_rfl) rfl (tkc_one s1 o1 n1 e1) (fun wf H8 hu8 => hK _ _ ((Fr.of_upd hu8).mono fun i h => .inl h) ?_)
          dsimp only [List.nil_append, List.cons_append] at H8
          clear hK K H7 B6 B5
          refine wmr_ext rfl rfl (fun K hK => ?_)
          rw [if_pos (show Region.wanted _ _ = true from rfl)]
          refine wp_stS [_, _] H8 36 (.tmp 3) (.tmp 37) rfl (cs := byt l) rfl rfl (by rw [HBL.out]; kernel_rfl) (by rw [HBL.out]; rfl) (byt_one _) (fun wg H9 hu9 => hK _ _ ((Fr.of_upd hu9).mono fun i h => .inr h) ?_)
          dsimp only [List.nil_append, List.cons_append] at H9
          clear hK K H8
          iterate 1 (refine wmr_rd rfl rfl (fun K hK => ?_); go_simp; refine hK _ ?_; clear hK K)
          refine wmr_nil ?_
          have B3 := H9.blk (g := g3) (e := 36) (cs := byt l) (List.Mem.tail _ (List.Mem.tail _ (List.Mem.head _)))
          have B2 := H9.blk (g := g2) (e := 25) (cs := (tkc s1 o1 n1 e1)) (List.Mem.tail _ (List.Mem.tail _ (List.Mem.tail _ (List.Mem.head _))))
          go_wp2_with fail
          refine bodyPost_ret (v := .tuple #[tkv s1 o1 n1 e1, .agg (byt l).toArray, .int .i64 0]) (results_cct rfl _ _ g2 g3 25 36 (tkc s1 o1 n1 e1) (byt l) _ _ rfl rfl B2 B3 Tryd.underlying25 rfl (by kernel_rfl) Tryd.underlying36 rfl (by rw [HBL.out]; kernel_rfl) rfl) rfl ⟨by rw [HE.out.1, HE.out.2.1, HE.out.2.2, HLd.out], H9.toExt⟩
    · have hV : decTV (b.take 24) = (0, 0, 0, 0) := by unfold decTV; rw [if_neg (by rw [h11]; decide)]
      have HE : Hid (parTE b = 11 ∧ parTV b = (0, 0, 0, 0) ∧ byt (parTT b) = Z8 32) := hide (by
        have h : parTE b = 11 := by rw [hPE, h11]
        exact ⟨h, by unfold parTV; rw [if_neg (by rw [h]; decide)], by unfold parTT; rw [if_neg (by rw [h]; decide)]; exact byt_zeros 32⟩)
      rw [hV, h11] at HD
      rw [h56]
      clear hPE hV h11 e24 h56 hlb32
      go_enter Tryd.func18, Tryd.ntmps18
      go_wp2_with (first
        | (have zz := tok1; clear zz tok1; refine wpList_alS (Sep.refl No w) rfl 25 rfl (tkc 0 0 0 0) (by kernel_rfl) ?_; intro w1 hz1 K1; clear hz1)
        | (have zz := tok2; clear zz tok2; refine wpList_alS K1 rfl 36 rfl (Z8 32) (by kernel_rfl) ?_; intro w2 hz2 K2; clear K1 hz2)
        | (have zz := tok3; clear zz tok3; refine wpList_alS K2 rfl 36 rfl (Z8 32) (by kernel_rfl) ?_; intro w3 hz3 K3; clear K2 hz3))
      obtain ⟨g2, G2⟩ : ∃ g, w.heap.size = g := ⟨_, rfl⟩
      obtain ⟨g3, G3⟩ : ∃ g, w1.heap.size = g := ⟨_, rfl⟩
      obtain ⟨g5, G5⟩ : ∃ g, w2.heap.size = g := ⟨_, rfl⟩
      rw [G2, G3, G5] at K3
      rw [G2, G3, G5]
      clear G2 G3 G5
      (with_reducible refine (HD.out _ K3.toExt).mono ?_)
      rintro e w4 ⟨rfl, hx4⟩
      have K4 := K3.ext hx4
      clear K3 hx4 HD
      have tok4 : True := trivial
      have tok5 : True := trivial
      go_upto_region 6 with (first
        | (have zz := tok4; clear zz tok4; refine wpList_alS K4 rfl 25 rfl (tkc 0 0 0 0) (by kernel_rfl) ?_; intro w5 hz5 K5; clear hz5 K4)
        | (have zz := tok5; clear zz tok5; refine wpList_stS [] K5 rfl 25 (.tmp 6) (.tmp 18) rfl rfl (cs := (tkc 0 0 0 0)) rfl (by kernel_rfl) rfl (tkc_one 0 0 0 0) ?_; intro w6 K6; dsimp only [List.nil_append] at K6; clear K5))
      refine wp_region_wmr (RT.fr No) [0, 1, 2, 3, 4, 5] (by kernel_rfl) (by kernel_rfl) (by kernel_rfl) (by kernel_rfl) ?_
      have K7 := K6.drew
      clear K6
      generalize w6.drew = we at *
      have B5 := K7.blk (g := g5) (e := 36) (cs := Z8 32) (List.Mem.tail _ (List.Mem.head _))
      have B3 := K7.blk (g := g3) (e := 36) (cs := Z8 32) (List.Mem.tail _ (List.Mem.tail _ (List.Mem.head _)))
      have B2 := K7.blk (g := g2) (e := 25) (cs := (tkc 0 0 0 0)) (List.Mem.tail _ (List.Mem.tail _ (List.Mem.tail _ (List.Mem.head _))))
      iterate 1 (refine wmr_rd rfl rfl (fun K hK => ?_); go_simp; refine hK _ ?_; clear hK K)
      refine wmr_ldR rfl rfl 36 (.tmp 5) rfl (g := g5) (off := 0) (cs := Z8 32) (fun w' h => Fr.blk h B5 (fun h => h)) (fun j v h => by rw [Nat.zero_add]; exact h) rfl _ Tryd.underlying36 rfl (by kernel_rfl) ?_
      iterate 1 (refine wmr_rd rfl rfl (fun K hK => ?_); go_simp; refine hK _ ?_; clear hK K)
      refine wmr_ext rfl rfl (fun K hK => ?_)
      rw [if_pos (show Region.wanted _ _ = true from rfl)]
      refine wp_stSame B2 25 (.tmp 2) (.tmp 22) rfl rfl rfl (by kernel_rfl) (tkc_one 0 0 0 0) (hK _ _ (Fr.refl _ _) ?_)
      clear hK K
      refine wmr_ext rfl rfl (fun K hK => ?_)
      rw [if_pos (show Region.wanted _ _ = true from rfl)]
      refine wp_stSame B3 36 (.tmp 3) (.tmp 23) rfl rfl rfl (by kernel_rfl) (by decide) (hK _ _ (Fr.refl _ _) ?_)
      clear hK K
      iterate 1 (refine wmr_rd rfl rfl (fun K hK => ?_); go_simp; refine hK _ ?_; clear hK K)
      refine wmr_nil ?_
      go_wp2_with fail
      refine bodyPost_ret (v := .tuple #[tkv 0 0 0 0, .agg (Z8 32).toArray, .int .i64 11]) (results_cct rfl _ _ g2 g3 25 36 (tkc 0 0 0 0) (Z8 32) _ _ rfl rfl B2 B3 Tryd.underlying25 rfl (by kernel_rfl) Tryd.underlying36 rfl (by kernel_rfl) rfl) rfl ⟨by rw [HE.out.1, HE.out.2.1, HE.out.2.2], K7.toExt⟩
  · have HE : Hid (parTE b = 11 ∧ parTV b = (0, 0, 0, 0) ∧ byt (parTT b) = Z8 32) := hide (by
      have h : parTE b = 11 := by unfold parTE; rw [if_neg h56]
      exact ⟨h, by unfold parTV; rw [if_neg (by rw [h]; decide)], by unfold parTT; rw [if_neg (by rw [h]; decide)]; exact byt_zeros 32⟩)
    have hne : ¬ (b.length : Int) = 56 := by omega
    have hne2 : ((b.length : Int) != 56) = true := bne_iff_ne.2 hne
    go_enter Tryd.func18, Tryd.ntmps18
    go_upto_region 3 with (first
      | (have zz := tok1; clear zz tok1; refine wpList_alS (Sep.refl No w) rfl 25 rfl (tkc 0 0 0 0) (by kernel_rfl) ?_; intro w1 hz1 K1; clear hz1)
      | (have zz := tok2; clear zz tok2; refine wpList_alS K1 rfl 36 rfl (Z8 32) (by kernel_rfl) ?_; intro w2 hz2 K2; clear K1 hz2)
      | (have zz := tok3; clear zz tok3; refine wpList_alS K2 rfl 36 rfl (Z8 32) (by kernel_rfl) ?_; intro w3 hz3 K3; clear K2 hz3))
    obtain ⟨g2, G2⟩ : ∃ g, w.heap.size = g := ⟨_, rfl⟩
    obtain ⟨g3, G3⟩ : ∃ g, w1.heap.size = g := ⟨_, rfl⟩
    obtain ⟨g5, G5⟩ : ∃ g, w2.heap.size = g := ⟨_, rfl⟩
    rw [G2, G3, G5] at K3
    rw [G2, G3, G5]
    clear G2 G3 G5
    refine wp_region_wmr (RT.fr No) [0, 1, 2, 3, 4] (by kernel_rfl) (by kernel_rfl) (by kernel_rfl) (by kernel_rfl) ?_
    have K4 := K3.drew
    clear K3
    generalize w3.drew = wd at *
    have B5 := K4.blk (g := g5) (e := 36) (cs := Z8 32) (List.Mem.head _)
    have B3 := K4.blk (g := g3) (e := 36) (cs := Z8 32) (List.Mem.tail _ (List.Mem.head _))
    have B2 := K4.blk (g := g2) (e := 25) (cs := (tkc 0 0 0 0)) (List.Mem.tail _ (List.Mem.tail _ (List.Mem.head _)))
    iterate 1 (refine wmr_rd rfl rfl (fun K hK => ?_); go_simp; refine hK _ ?_; clear hK K)
    refine wmr_ldR rfl rfl 36 (.tmp 5) rfl (g := g5) (off := 0) (cs := Z8 32) (fun w' h => Fr.blk h B5 (fun h => h)) (fun j v h => by rw [Nat.zero_add]; exact h) rfl _ Tryd.underlying36 rfl (by kernel_rfl) ?_
    refine wmr_ext rfl rfl (fun K hK => ?_)
    rw [if_pos (show Region.wanted _ _ = true from rfl)]
    refine wp_stSame B2 25 (.tmp 2) (.tmp 12) rfl rfl rfl (by kernel_rfl) (tkc_one 0 0 0 0) (hK _ _ (Fr.refl _ _) ?_)
    clear hK K
    refine wmr_ext rfl rfl (fun K hK => ?_)
    rw [if_pos (show Region.wanted _ _ = true from rfl)]
    refine wp_stSame B3 36 (.tmp 3) (.tmp 13) rfl rfl rfl (by kernel_rfl) (by decide) (hK _ _ (Fr.refl _ _) ?_)
    clear hK K
    iterate 1 (refine wmr_rd rfl rfl (fun K hK => ?_); go_simp; refine hK _ ?_; clear hK K)
    refine wmr_nil ?_
    go_wp2_with fail
    refine bodyPost_ret (v := .tuple #[tkv 0 0 0 0, .agg (Z8 32).toArray, .int .i64 11]) (results_cct rfl _ _ g2 g3 25 36 (tkc 0 0 0 0) (Z8 32) _ _ rfl rfl B2 B3 Tryd.underlying25 rfl (by kernel_rfl) Tryd.underlying36 rfl (by kernel_rfl) rfl) rfl ⟨by rw [HE.out.1, HE.out.2.1, HE.out.2.2], K4.toExt⟩
end Go.Proofs.YtamlngdjbmndlaaDoor
