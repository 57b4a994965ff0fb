/- Tokens: the reference's Parse, Open, Accept; Issue into a block of its own. -/
import Derived.Test.YtckmbhdbabnmcaaDoorTkC
namespace Go.Proofs.YtckmbhdbabnmcaaDoor
open Go.RowKit Go.Gr
set_option linter.unusedVariables false
set_option linter.unusedSimpArgs false
attribute [local go_sem] rdOp rdAt rdUpon Cls forall_fr
theorem tag_step {w : World} {g : Nat} {l : List Int} {k : Nat} (hl : l.length = 32) (hB : Blk w g 35 (byt (l.take k) ++ Z8 (32 - k))) (hk : k < 32) :
    ∃ u, w.cell? ⟨g, k, none⟩ = some u ∧ (byt (l.take k) ++ Z8 (32 - k)).set k (.int .u8 (l.getD k 0)) = byt (l.take (k + 1)) ++ Z8 (32 - (k + 1)) := by
  have hlen : (byt (l.take k)).length = k := by rw [byt_length, List.length_take, hl]; omega
  have hkl : k < l.length := by omega
  refine ⟨_, (hB.cell k).trans (List.getElem?_eq_getElem (by rw [List.length_append, hlen]; simp [Z8]; omega)), ?_⟩
  have hz : Z8 (32 - k) = .int .u8 0 :: Z8 (32 - (k + 1)) := by
    unfold Z8
    rw [show 32 - k = (32 - (k + 1)) + 1 by omega, List.replicate_succ]
  rw [List.set_append_right _ _ (by omega), hlen, Nat.sub_self, hz, List.set_cons_zero, List.take_succ_eq_append_getElem hkl, byt_append, List.append_assoc]
  rw [List.getD_eq_getElem?_getD, List.getElem?_eq_getElem hkl]
  rfl
set_option maxRecDepth 100000 in
set_option maxHeartbeats 2000000 in
theorem rparse11_any (b : List Int) (A : Option Addr) (c : Nat) (w : World) (hr : Rd w A (byt b)) (hb : isB b) (hlb : b.length ≤ 100000) (hc : b.length ≤ c) :
    Calls Tryd.prog 18 #[.slice A b.length c] w fun e w' => e = .returned (.tuple #[ses (parseV b).1 (parseV b).2, .agg (byt (parseT b)).toArray, .int .i64 (parseE b)]) ∧ Ext w w' := by
  have HR := hide hr
  have HB := hide hb
  clear hr hb
  have tok1 : True := trivial
  have tok2 : True := trivial
  have tok3 : True := trivial
  by_cases h44 : b.length = 44
  · have HL := hide h44
    have hli : (b.length : Int) = 44 := by omega
    have hc44 : 44 ≤ c := by omega
    have hc12 : ¬ c = 12 := by omega
    have e12 : (b.take 12).length = 12 := by rw [List.length_take, h44]; rfl
    have HD := hide (fun (x : World) (h : Ext w x) => rdec_any (b.take 12) A c x (rd_take (HR.out.ext h) 12) (isB_take HB.out 12) (by omega) (by omega))
    rw [e12] at HD
    have hPE : parseE b = decE (b.take 12) := by unfold parseE; rw [if_pos h44]
    have hcc : (12 : Int) ≤ (c : Int) := by omega
    have hlb32 : (b.drop 12).length = 32 := by rw [List.length_drop, h44]
    rcases decE_two (b.take 12) with h0 | h11
    · obtain ⟨o, u, hV⟩ : ∃ o u, decV (b.take 12) = (o, u) := ⟨_, _, rfl⟩
      have HE : Hid (parseE b = 0 ∧ parseV b = (o, u) ∧ parseT b = b.drop 12) := hide (by
        have h : parseE b = 0 := by rw [hPE, h0]
        refine ⟨h, ?_, by unfold parseT; rw [if_pos h]⟩
        unfold parseV
        rw [if_pos h, ← hV]
        unfold decV
        rw [if_pos h0])
      rw [hV, h0] at HD
      obtain ⟨l, HLd⟩ : ∃ l, Hid (b.drop 12 = l) := ⟨_, hide rfl⟩
      have HLL : Hid (l.length = 32) := hide (by rw [← HLd.out]; exact hlb32)
      have HBL := hide (show (byt l).length = 32 by rw [byt_length, HLL.out])
      rw [h44]
      clear hPE hV h0 e12 h44 hlb32
      go_enter Tryd.func18, Tryd.ntmps18
      go_wp2_with (first
        | (have zz := tok1; clear zz tok1; refine wpList_alS (Sep.refl No w) rfl 24 rfl [.int .u32 0, .int .i64 0] (by kernel_rfl) ?_; intro w1 hz1 K1; clear hz1)
        | (have zz := tok2; clear zz tok2; refine wpList_alS K1 rfl 35 rfl (Z8 32) (by kernel_rfl) ?_; intro w2 hz2 K2; clear hz2)
        | (have zz := tok3; clear zz tok3; refine wpList_alS K2 rfl 35 rfl (Z8 32) (by kernel_rfl) ?_; intro w3 hz3 K3; clear hz3))
      obtain ⟨g2, G2⟩ : ∃ g, w.heap.size = g := ⟨_, rfl⟩
      obtain ⟨g3, G3⟩ : ∃ g, w1.heap.size = g := ⟨_, rfl⟩
      obtain ⟨g5, G5⟩ : ∃ g, w2.heap.size = g := ⟨_, rfl⟩
      have h23 : g2 < g3 := by rw [← G2, ← G3]; exact (K1.blk (g := w.heap.size) (List.Mem.head _)).lt
      have h35 : g3 < g5 := by rw [← G3, ← G5]; exact (K2.blk (g := w1.heap.size) (List.Mem.head _)).lt
      rw [G2, G3, G5] at K3
      rw [G2, G3, G5]
      clear K1 K2 G2 G3 G5
      (with_reducible refine (HD.out _ K3.toExt).mono ?_)
      rintro e w4 ⟨rfl, hx4⟩
      have K4 := K3.ext hx4
      clear K3 hx4 HD
      have tok4 : True := trivial
      have tok5 : True := trivial
      go_upto_region 7 with (first
        | (have zz := tok4; clear zz tok4; refine wpList_alS K4 rfl 24 rfl [.int .u32 0, .int .i64 0] (by kernel_rfl) ?_; intro w5 hz5 K5; clear hz5)
        | (have zz := tok5; clear zz tok5; refine wpList_stS [] K5 rfl 24 (.tmp 6) (.tmp 18) rfl rfl (cs := [.int .u32 o, .int .i64 u]) rfl (by kernel_rfl) rfl (ses_one o u) ?_; intro w6 K6; dsimp only [List.nil_append] at K6; clear K5))
      obtain ⟨g6, G6⟩ : ∃ g, w4.heap.size = g := ⟨_, rfl⟩
      have h56 : g5 < g6 := by rw [← G6]; exact (K4.blk (g := g5) (List.Mem.head _)).lt
      rw [G6] at K6 ⊢
      clear K4 G6
      have K7 : Hid (Sep No w w6 [As.blk g6 24 [.int .u32 o, .int .i64 u], As.blk g5 35 (byt (l.take 0) ++ Z8 (32 - 0)), As.blk g3 35 (Z8 32), As.blk g2 24 [.int .u32 0, .int .i64 0]]) := hide K6
      clear K6
      go_wp2_with fail
      go_loopw [8] (fun i wr => ∃ k : Nat, i = .int .i64 k ∧ k ≤ 32 ∧ Hid (Sep No w wr [As.blk g6 24 [.int .u32 o, .int .i64 u], As.blk g5 35 (byt (l.take k) ++ Z8 (32 - k)), As.blk g3 35 (Z8 32), As.blk g2 24 [.int .u32 0, .int .i64 0]])) (fun i _ => 32 - (intOf i).toNat)
      case atStart => exact ⟨0, rfl, by omega, K7⟩
      case round =>
        obtain ⟨k, rfl, hk, HS⟩ := hrel
        clear K7
        by_cases hlt : k < 32
        · have hk32 : (k : Int) < 32 := by omega
          have hk44 : 12 + (k : Int) < 44 := by omega
          have hB5 := HS.out.blk (g := g5) (e := 35) (cs := byt (l.take k) ++ Z8 (32 - k)) (List.Mem.tail _ (List.Mem.head _))
          obtain ⟨u0, c5, hset⟩ := tag_step HLL.out hB5 hlt
          have f5 := hB5.free k
          have hg5 := hB5.lt
          obtain ⟨ad, hA, cb⟩ := (HS.out.rdN HR.out).at_ (k := 12 + k) (by rw [byt_length, HL.out]; omega)
          subst hA
          have hbl : 12 + k < b.length := by rw [HL.out]; omega
          have hbk : b[12 + k] = l.getD k 0 := by
            rw [← HLd.out, List.getD_eq_getElem?_getD, List.getElem?_drop, List.getElem?_eq_getElem hbl]
            rfl
          rw [byt_get hbl] at cb
          obtain ⟨y, HY⟩ : ∃ y, Hid (l.getD k 0 = y) := ⟨_, hide rfl⟩
          rw [HY.out] at hset hbk
          rw [hbk] at cb
          have H2 := Sep.cell (L1 := [_]) HS.out k (.int .u8 y)
          dsimp only [List.nil_append, List.cons_append] at H2
          rw [hset] at H2
          have K8 := hide H2
          clear H2 HS hB5 hset hbk
          go_wp2_with fail
          go_roundw
          case rel => exact ⟨k + 1, by go_num, by omega, K8⟩
          case measure => simp [intOf]; omega
        · obtain rfl : k = 32 := by omega
          have H6 := HS.out
          rw [List.take_of_length_le (Nat.le_of_eq HLL.out), show Z8 (32 - 32) = [] from rfl, List.append_nil] at H6
          clear HS
          go_upto_region 11 with fail
          refine wp_region_wmr (RT.fr (fun i => i = g2 ∨ i = g3)) [0, 1, 2, 3, 4] (by kernel_rfl) (by kernel_rfl) (by kernel_rfl) (by kernel_rfl) ?_
          have H7 := H6.drew
          clear H6
          generalize wr.drew = we at *
          have B6 := H7.blk (g := g6) (e := 24) (cs := [.int .u32 o, .int .i64 u]) (List.Mem.head _)
          have B5 := H7.blk (g := g5) (e := 35) (cs := byt l) (List.Mem.tail _ (List.Mem.head _))
          refine wmr_ldR rfl rfl 24 (.tmp 6) rfl (g := g6) (off := 0) (cs := [.int .u32 o, .int .i64 u]) (fun w' h => Fr.blk h B6 (fun h => by omega)) (fun j v h => by rw [Nat.zero_add]; exact h) rfl _ Tryd.underlying24 rfl (by kernel_rfl) ?_
          refine wmr_ldR rfl rfl 35 (.tmp 5) rfl (g := g5) (off := 0) (cs := byt l) (fun w' h => Fr.blk h B5 (fun h => by omega)) (fun j v h => by rw [Nat.zero_add]; exact h) rfl _ Tryd.underlying35 rfl (by rw [HBL.out]; kernel_rfl) ?_
          refine wmr_ext rfl rfl (fun K hK => ?_)
          rw [if_pos (show Region.wanted _ _ = true from rfl)]
          refine wp_stS [_, _, _] H7 24 (.tmp 2) (.tmp 36) rfl (cs := [.int .u32 o, .int .i64 u]) rfl rfl (by kernel_rfl) rfl (ses_one o u) (fun wf H8 hu8 => hK _ _ ((Fr.of_upd hu8).mono fun i h => .inl h) ?_)
          dsimp only [List.nil_append, List.cons_append] at H8
          clear hK K H7 B6 B5
          refine wmr_ext rfl rfl (fun K hK => ?_)
          rw [if_pos (show Region.wanted _ _ = true from rfl)]
          refine wp_stS [_, _] H8 35 (.tmp 3) (.tmp 37) rfl (cs := byt l) rfl rfl (by rw [HBL.out]; kernel_rfl) (by rw [HBL.out]; rfl) (byt_one _) (fun wg H9 hu9 => hK _ _ ((Fr.of_upd hu9).mono fun i h => .inr h) ?_)
          dsimp only [List.nil_append, List.cons_append] at H9
          clear hK K H8
          iterate 1 (refine wmr_rd rfl rfl (fun K hK => ?_); go_simp; refine hK _ ?_; clear hK K)
          refine wmr_nil ?_
          have B3 := H9.blk (g := g3) (e := 35) (cs := byt l) (List.Mem.tail _ (List.Mem.tail _ (List.Mem.head _)))
          have B2 := H9.blk (g := g2) (e := 24) (cs := [.int .u32 o, .int .i64 u]) (List.Mem.tail _ (List.Mem.tail _ (List.Mem.tail _ (List.Mem.head _))))
          go_wp2_with fail
          refine bodyPost_ret (v := .tuple #[ses o u, .agg (byt l).toArray, .int .i64 0]) (results_cct rfl _ _ g2 g3 24 35 [.int .u32 o, .int .i64 u] (byt l) _ _ rfl rfl B2 B3 Tryd.underlying24 rfl (by kernel_rfl) Tryd.underlying35 rfl (by rw [HBL.out]; kernel_rfl) rfl) rfl ⟨by rw [HE.out.1, HE.out.2.1, HE.out.2.2, HLd.out], H9.toExt⟩
    · have hV : decV (b.take 12) = (0, 0) := by unfold decV; rw [if_neg (by rw [h11]; decide)]
      have HE : Hid (parseE b = 11 ∧ parseV b = (0, 0) ∧ byt (parseT b) = Z8 32) := hide (by
        have h : parseE b = 11 := by rw [hPE, h11]
        exact ⟨h, by unfold parseV; rw [if_neg (by rw [h]; decide)], by unfold parseT; rw [if_neg (by rw [h]; decide)]; exact byt_zeros 32⟩)
      rw [hV, h11] at HD
      rw [h44]
      clear hPE hV h11 e12 h44 hlb32
      go_enter Tryd.func18, Tryd.ntmps18
      go_wp2_with (first
        | (have zz := tok1; clear zz tok1; refine wpList_alS (Sep.refl No w) rfl 24 rfl [.int .u32 0, .int .i64 0] (by kernel_rfl) ?_; intro w1 hz1 K1; clear hz1)
        | (have zz := tok2; clear zz tok2; refine wpList_alS K1 rfl 35 rfl (Z8 32) (by kernel_rfl) ?_; intro w2 hz2 K2; clear K1 hz2)
        | (have zz := tok3; clear zz tok3; refine wpList_alS K2 rfl 35 rfl (Z8 32) (by kernel_rfl) ?_; intro w3 hz3 K3; clear K2 hz3))
      obtain ⟨g2, G2⟩ : ∃ g, w.heap.size = g := ⟨_, rfl⟩
      obtain ⟨g3, G3⟩ : ∃ g, w1.heap.size = g := ⟨_, rfl⟩
      obtain ⟨g5, G5⟩ : ∃ g, w2.heap.size = g := ⟨_, rfl⟩
      rw [G2, G3, G5] at K3
      rw [G2, G3, G5]
      clear G2 G3 G5
      (with_reducible refine (HD.out _ K3.toExt).mono ?_)
      rintro e w4 ⟨rfl, hx4⟩
      have K4 := K3.ext hx4
      clear K3 hx4 HD
      have tok4 : True := trivial
      have tok5 : True := trivial
      go_upto_region 6 with (first
        | (have zz := tok4; clear zz tok4; refine wpList_alS K4 rfl 24 rfl [.int .u32 0, .int .i64 0] (by kernel_rfl) ?_; intro w5 hz5 K5; clear hz5 K4)
        | (have zz := tok5; clear zz tok5; refine wpList_stS [] K5 rfl 24 (.tmp 6) (.tmp 18) rfl rfl (cs := [.int .u32 0, .int .i64 0]) rfl (by kernel_rfl) rfl (ses_one 0 0) ?_; intro w6 K6; dsimp only [List.nil_append] at K6; clear K5))
      refine wp_region_wmr (RT.fr No) [0, 1, 2, 3, 4, 5] (by kernel_rfl) (by kernel_rfl) (by kernel_rfl) (by kernel_rfl) ?_
      have K7 := K6.drew
      clear K6
      generalize w6.drew = we at *
      have B5 := K7.blk (g := g5) (e := 35) (cs := Z8 32) (List.Mem.tail _ (List.Mem.head _))
      have B3 := K7.blk (g := g3) (e := 35) (cs := Z8 32) (List.Mem.tail _ (List.Mem.tail _ (List.Mem.head _)))
      have B2 := K7.blk (g := g2) (e := 24) (cs := [.int .u32 0, .int .i64 0]) (List.Mem.tail _ (List.Mem.tail _ (List.Mem.tail _ (List.Mem.head _))))
      iterate 1 (refine wmr_rd rfl rfl (fun K hK => ?_); go_simp; refine hK _ ?_; clear hK K)
      refine wmr_ldR rfl rfl 35 (.tmp 5) rfl (g := g5) (off := 0) (cs := Z8 32) (fun w' h => Fr.blk h B5 (fun h => h)) (fun j v h => by rw [Nat.zero_add]; exact h) rfl _ Tryd.underlying35 rfl (by kernel_rfl) ?_
      iterate 1 (refine wmr_rd rfl rfl (fun K hK => ?_); go_simp; refine hK _ ?_; clear hK K)
      refine wmr_ext rfl rfl (fun K hK => ?_)
      rw [if_pos (show Region.wanted _ _ = true from rfl)]
      refine wp_stSame B2 24 (.tmp 2) (.tmp 22) rfl rfl rfl (by kernel_rfl) (ses_one 0 0) (hK _ _ (Fr.refl _ _) ?_)
      clear hK K
      refine wmr_ext rfl rfl (fun K hK => ?_)
      rw [if_pos (show Region.wanted _ _ = true from rfl)]
      refine wp_stSame B3 35 (.tmp 3) (.tmp 23) rfl rfl rfl (by kernel_rfl) (by decide) (hK _ _ (Fr.refl _ _) ?_)
      clear hK K
      iterate 1 (refine wmr_rd rfl rfl (fun K hK => ?_); go_simp; refine hK _ ?_; clear hK K)
      refine wmr_nil ?_
      go_wp2_with fail
      refine bodyPost_ret (v := .tuple #[ses 0 0, .agg (Z8 32).toArray, .int .i64 11]) (results_cct rfl _ _ g2 g3 24 35 [.int .u32 0, .int .i64 0] (Z8 32) _ _ rfl rfl B2 B3 Tryd.underlying24 rfl (by kernel_rfl) Tryd.underlying35 rfl (by kernel_rfl) rfl) rfl ⟨by rw [HE.out.1, HE.out.2.1, HE.out.2.2], K7.toExt⟩
  · have HE : Hid (parseE b = 11 ∧ parseV b = (0, 0) ∧ byt (parseT b) = Z8 32) := hide (by
      have h : parseE b = 11 := by unfold parseE; rw [if_neg h44]
      exact ⟨h, by unfold parseV; rw [if_neg (by rw [h]; decide)], by unfold parseT; rw [if_neg (by rw [h]; decide)]; exact byt_zeros 32⟩)
    have hne : ¬ (b.length : Int) = 44 := by omega
    have hne2 : ((b.length : Int) != 44) = true := bne_iff_ne.2 hne
    go_enter Tryd.func18, Tryd.ntmps18
    go_upto_region 3 with (first
      | (have zz := tok1; clear zz tok1; refine wpList_alS (Sep.refl No w) rfl 24 rfl [.int .u32 0, .int .i64 0] (by kernel_rfl) ?_; intro w1 hz1 K1; clear hz1)
      | (have zz := tok2; clear zz tok2; refine wpList_alS K1 rfl 35 rfl (Z8 32) (by kernel_rfl) ?_; intro w2 hz2 K2; clear K1 hz2)
      | (have zz := tok3; clear zz tok3; refine wpList_alS K2 rfl 35 rfl (Z8 32) (by kernel_rfl) ?_; intro w3 hz3 K3; clear K2 hz3))
    obtain ⟨g2, G2⟩ : ∃ g, w.heap.size = g := ⟨_, rfl⟩
    obtain ⟨g3, G3⟩ : ∃ g, w1.heap.size = g := ⟨_, rfl⟩
    obtain ⟨g5, G5⟩ : ∃ g, w2.heap.size = g := ⟨_, rfl⟩
    rw [G2, G3, G5] at K3
    rw [G2, G3, G5]
    clear G2 G3 G5
    refine wp_region_wmr (RT.fr No) [0, 1, 2, 3, 4] (by kernel_rfl) (by kernel_rfl) (by kernel_rfl) (by kernel_rfl) ?_
    have K4 := K3.drew
    clear K3
    generalize w3.drew = wd at *
    have B5 := K4.blk (g := g5) (e := 35) (cs := Z8 32) (List.Mem.head _)
    have B3 := K4.blk (g := g3) (e := 35) (cs := Z8 32) (List.Mem.tail _ (List.Mem.head _))
    have B2 := K4.blk (g := g2) (e := 24) (cs := [.int .u32 0, .int .i64 0]) (List.Mem.tail _ (List.Mem.tail _ (List.Mem.head _)))
    iterate 1 (refine wmr_rd rfl rfl (fun K hK => ?_); go_simp; refine hK _ ?_; clear hK K)
    refine wmr_ldR rfl rfl 35 (.tmp 5) rfl (g := g5) (off := 0) (cs := Z8 32) (fun w' h => Fr.blk h B5 (fun h => h)) (fun j v h => by rw [Nat.zero_add]; exact h) rfl _ Tryd.underlying35 rfl (by kernel_rfl) ?_
    refine wmr_ext rfl rfl (fun K hK => ?_)
    rw [if_pos (show Region.wanted _ _ = true from rfl)]
    refine wp_stSame B2 24 (.tmp 2) (.tmp 12) rfl rfl rfl (by kernel_rfl) (ses_one 0 0) (hK _ _ (Fr.refl _ _) ?_)
    clear hK K
    refine wmr_ext rfl rfl (fun K hK => ?_)
    rw [if_pos (show Region.wanted _ _ = true from rfl)]
    refine wp_stSame B3 35 (.tmp 3) (.tmp 13) rfl rfl rfl (by kernel_rfl) (by decide) (hK _ _ (Fr.refl _ _) ?_)
    clear hK K
    iterate 1 (refine wmr_rd rfl rfl (fun K hK => ?_); go_simp; refine hK _ ?_; clear hK K)
    refine wmr_nil ?_
    go_wp2_with fail
    refine bodyPost_ret (v := .tuple #[ses 0 0, .agg (Z8 32).toArray, .int .i64 11]) (results_cct rfl _ _ g2 g3 24 35 [.int .u32 0, .int .i64 0] (Z8 32) _ _ rfl rfl B2 B3 Tryd.underlying24 rfl (by kernel_rfl) Tryd.underlying35 rfl (by kernel_rfl) rfl) rfl ⟨by rw [HE.out.1, HE.out.2.1, HE.out.2.2], K4.toExt⟩
end Go.Proofs.YtckmbhdbabnmcaaDoor
namespace Go.Proofs.YtckmbhdbabnmcaaDoor
open Go.RowKit Go.Gr
set_option linter.unusedVariables false
set_option linter.unusedSimpArgs false
attribute [local go_sem] rdOp rdAt rdUpon Cls forall_fr
theorem neq_lt (l t : List Int) (h : l.length = 32) (h2 : t.length = 32) (w : World) : (binOp .neq 35 (.agg (byt l).toArray) (.agg (byt t).toArray)).run Tryd.prog w = .ok (.bool (!(l == t))) w :=
  run_neq_ints (P := Tryd.prog) Tryd.underlying35 Tryd.underlying5 (by kernel_rfl) (by kernel_rfl) l t h h2 w
set_option maxRecDepth 100000 in
set_option maxHeartbeats 2000000 in
theorem ropen_any (key b : List Int) (A : Option Addr) (c : Nat) (B : Option Addr) (cb : Nat) (w : World) (hr : Rd w A (byt key)) (hb : isB key) (hc : key.length ≤ c) (hlen : key.length ≤ 100000)
    (hrb : Rd w B (byt b)) (hbb : isB b) (hcb : b.length ≤ cb) (hlb : b.length ≤ 100000) :
    Calls Tryd.prog 20 #[.slice A key.length c, .slice B b.length cb] w fun e w' => e = .returned (.tuple #[ses (openV key b).1 (openV key b).2, .int .i64 (openE key b)]) ∧ Ext w w' := by
  have HR := hide hr
  have HB := hide hb
  have HRB := hide hrb
  have HBB := hide hbb
  have HKY := hide (fun (x : World) => rkey_any key A c x)
  clear hr hb hrb hbb
  have tok1 : True := trivial
  have tok2 : True := trivial
  by_cases hk : keyOk key
  · rw [if_pos hk] at HKY
    have HP := hide (fun (x : World) (h : Ext w x) => rparse11_any b B cb x (HRB.out.ext h) HBB.out hlb hcb)
    rcases parseE_two b with h0 | h11
    · obtain ⟨o, u, hV⟩ : ∃ o u, parseV b = (o, u) := ⟨_, _, rfl⟩
      have hT : parseT b = b.drop 12 := by unfold parseT; rw [if_pos h0]
      have h44 := (parseE_zero h0).1
      have hov : decO (b.take 12) = o ∧ decU (b.take 12) = u := by
        unfold parseV at hV
        rw [if_pos h0] at hV
        exact ⟨congrArg Prod.fst hV, congrArg Prod.snd hV⟩
      have hd32 : (b.drop 12).length = 32 := by rw [List.length_drop, h44]
      have ht12 : (b.take 12).length = 12 := by rw [List.length_take, h44]; rfl
      have HTAG := hide (fun (x : World) (h : Ext w x) => rtok_any key (b.take 12) A c B cb x (HR.out.ext h) HB.out hc hlen (rd_take (HRB.out.ext h) 12) (isB_take HBB.out 12) (by omega) (by omega))
      obtain ⟨t, HT⟩ : ∃ t, Hid (tokT key (b.take 12) = t) := ⟨_, hide rfl⟩
      obtain ⟨l, HLd⟩ : ∃ l, Hid (b.drop 12 = l) := ⟨_, hide rfl⟩
      have HS : Hid ((l = t ∧ openE key b = 0 ∧ openV key b = (o, u)) ∨ (l ≠ t ∧ openE key b = 12 ∧ openV key b = (0, 0))) := hide (by
        rw [← HT.out, ← HLd.out]
        by_cases ht : tokT key (b.take 12) = b.drop 12
        · have he : openE key b = 0 := by unfold openE; rw [if_pos hk, if_pos h0, if_pos ht]
          exact .inl ⟨ht.symm, he, by unfold openV; rw [if_pos he, hov.1, hov.2]⟩
        · have he : openE key b = 12 := by unfold openE; rw [if_pos hk, if_pos h0, if_neg ht]
          exact .inr ⟨fun e => ht e.symm, he, by unfold openV; rw [if_neg (by rw [he]; decide)]⟩)
      have HTL : Hid (t.length = 32) := hide (by rw [← HT.out, tokT_len])
      have HLL : Hid (l.length = 32) := hide (by rw [← HLd.out]; exact hd32)
      rw [hV, h0, hT, h44, HLd.out] at HP
      rw [ht12, HT.out] at HTAG
      have hcc : (12 : Int) ≤ (cb : Int) := by omega
      have HBL := hide (show (byt l).length = 32 by rw [byt_length, HLL.out])
      rw [h44]
      clear hV hT hov h0 hk h44 hd32 ht12 HT HLd
      go_enter Tryd.func20, Tryd.ntmps20
      go_wp2_with (have zz := tok1; clear zz tok1; refine wpList_alS (Sep.refl No w) rfl 24 rfl [.int .u32 0, .int .i64 0] (by kernel_rfl) ?_; intro w1 hz1 K1; clear hz1)
      (with_reducible refine (HKY.out _).mono ?_)
      rintro e w2 ⟨rfl, rfl⟩
      go_wp2_with fail
      (with_reducible refine (HP.out _ K1.toExt).mono ?_)
      rintro e w2 ⟨rfl, hx2⟩
      have K2 := K1.ext hx2
      clear K1 hx2 HP
      have tok3 : True := trivial
      have tok4 : True := trivial
      have tok5 : True := trivial
      have tok6 : True := trivial
      go_upto_region 5 with (first
        | (have zz := tok3; clear zz tok3; refine wpList_alS K2 rfl 24 rfl [.int .u32 0, .int .i64 0] (by kernel_rfl) ?_; intro w3 hz3 K3; clear hz3 K2)
        | (have zz := tok4; clear zz tok4; refine wpList_alS K3 rfl 35 rfl (Z8 32) (by kernel_rfl) ?_; intro w4 hz4 K4; clear hz4 K3)
        | (have zz := tok5; clear zz tok5; refine wpList_stS [_] K4 rfl 24 (.tmp 7) (.tmp 18) rfl rfl (cs := [.int .u32 o, .int .i64 u]) rfl (by kernel_rfl) rfl (ses_one o u) ?_; intro w5 K5; dsimp only [List.nil_append, List.cons_append] at K5; clear K4)
        | (have zz := tok6; clear zz tok6; refine wpList_stS [] K5 rfl 35 (.tmp 8) (.tmp 19) rfl rfl (cs := byt l) rfl (by rw [HBL.out]; kernel_rfl) (by rw [HBL.out]; rfl) (byt_one _) ?_; intro w6 K6; dsimp only [List.nil_append, List.cons_append] at K6; clear K5))
      obtain ⟨g4, G4⟩ : ∃ g, w.heap.size = g := ⟨_, rfl⟩
      obtain ⟨g7, G7⟩ : ∃ g, w2.heap.size = g := ⟨_, rfl⟩
      obtain ⟨g8, G8⟩ : ∃ g, w3.heap.size = g := ⟨_, rfl⟩
      rw [G4, G7, G8] at K6
      rw [G4, G7, G8]
      clear G4 G7 G8
      refine wp_region_wm [0, 1, 2, 3, 4, 5, 6, 7, 8, 9] (by kernel_rfl) (by kernel_rfl) (by kernel_rfl) (by kernel_rfl) ?_
      have K7 := K6.drew
      clear K6
      generalize w6.drew = wd at *
      have B7 := K7.blk (g := g7) (e := 24) (cs := [.int .u32 o, .int .i64 u]) (List.Mem.tail _ (List.Mem.head _))
      have HNE := hide (fun (x : World) => neq_lt l t HLL.out HTL.out x)
      have tok7 : True := trivial
      have tok8 : True := trivial
      rcases HS.out with ⟨hlt, he, hv⟩ | ⟨hlt, he, hv⟩
      · have HE := hide (And.intro he hv)
        rw [show (!(l == t)) = false by rw [hlt]; simp] at HNE
        have hne := fun x => HNE.out x
        clear he hv hlt HS HNE
        iterate 3 (refine wm_rd rfl rfl (fun K hK => ?_); go_simp; refine hK _ ?_; clear hK K)
        refine wm_ldS K7 (List.Mem.head _) rfl rfl 35 (.tmp 8) rfl rfl _ Tryd.underlying35 rfl (by rw [HBL.out]; kernel_rfl) ?_
        iterate 3 (refine wm_rd rfl rfl (fun K hK => ?_); go_simp; refine hK _ ?_; clear hK K)
        refine wm_ext rfl rfl (fun K hK => ?_)
        go_simp
        go_at_call 35
        (with_reducible refine (HTAG.out wd K7.toExt).mono ?_)
        rintro e w8 ⟨rfl, hx8⟩
        refine hK _ _ hx8 ?_
        clear hK K
        have K8 := K7.ext hx8
        clear K7 hx8 HTAG B7
        iterate 2 (refine wm_rd rfl rfl (fun K hK => ?_); go_simp; refine hK _ ?_; clear hK K)
        refine wm_nil ?_
        go_wp2_with (first
          | (have zz := tok7; clear zz tok7; refine wpList_ldS K8 (List.Mem.tail _ (List.Mem.head _)) rfl 24 (.tmp 7) rfl rfl _ Tryd.underlying24 rfl (by kernel_rfl) ?_)
          | (have zz := tok8; clear zz tok8; refine wpList_stS [_, _] K8 rfl 24 (.tmp 4) (.tmp 35) rfl rfl (cs := [.int .u32 o, .int .i64 u]) rfl (by kernel_rfl) rfl (ses_one o u) ?_; intro wa Ka; dsimp only [List.nil_append, List.cons_append] at Ka))
        refine bodyPost_ret (v := .tuple #[ses o u, .int .i64 0]) (results_row_tmp rfl _ _ g4 24 #[.int .u32 o, .int .i64 u] (0, 0) _ rfl (Ka.blk (g := g4) (e := 24) (cs := [.int .u32 o, .int .i64 u]) (List.Mem.tail _ (List.Mem.tail _ (List.Mem.head _)))) Tryd.underlying24 rfl (by kernel_rfl) rfl) rfl ⟨by rw [HE.out.1, HE.out.2], Ka.toExt⟩
      · have HE := hide (And.intro he hv)
        rw [show (!(l == t)) = true by simpa using hlt] at HNE
        have hne := fun x => HNE.out x
        clear he hv hlt HS HNE
        iterate 3 (refine wm_rd rfl rfl (fun K hK => ?_); go_simp; refine hK _ ?_; clear hK K)
        refine wm_ldS K7 (List.Mem.head _) rfl rfl 35 (.tmp 8) rfl rfl _ Tryd.underlying35 rfl (by rw [HBL.out]; kernel_rfl) ?_
        iterate 3 (refine wm_rd rfl rfl (fun K hK => ?_); go_simp; refine hK _ ?_; clear hK K)
        refine wm_ext rfl rfl (fun K hK => ?_)
        go_simp
        go_at_call 35
        (with_reducible refine (HTAG.out wd K7.toExt).mono ?_)
        rintro e w8 ⟨rfl, hx8⟩
        refine hK _ _ hx8 ?_
        clear hK K
        have K8 := K7.ext hx8
        clear K7 hx8 HTAG B7
        iterate 2 (refine wm_rd rfl rfl (fun K hK => ?_); go_simp; refine hK _ ?_; clear hK K)
        refine wm_nil ?_
        go_wp2_with (have zz := tok8; clear zz tok8; refine wpList_stS [_, _] K8 rfl 24 (.tmp 4) (.tmp 33) rfl rfl (cs := [.int .u32 0, .int .i64 0]) rfl (by kernel_rfl) rfl (ses_one 0 0) ?_; intro wa Ka; dsimp only [List.nil_append, List.cons_append] at Ka)
        refine bodyPost_ret (v := .tuple #[ses 0 0, .int .i64 12]) (results_row_tmp rfl _ _ g4 24 #[.int .u32 0, .int .i64 0] (0, 0) _ rfl (Ka.blk (g := g4) (e := 24) (cs := [.int .u32 0, .int .i64 0]) (List.Mem.tail _ (List.Mem.tail _ (List.Mem.head _)))) Tryd.underlying24 rfl (by kernel_rfl) rfl) rfl ⟨by rw [HE.out.1, HE.out.2], Ka.toExt⟩
    · have hV : parseV b = (0, 0) := by unfold parseV; rw [if_neg (by rw [h11]; decide)]
      have hT : byt (parseT b) = Z8 32 := by unfold parseT; rw [if_neg (by rw [h11]; decide)]; exact byt_zeros 32
      have HE : Hid (openE key b = 11 ∧ openV key b = (0, 0)) := hide (by
        have he : openE key b = 11 := by unfold openE; rw [if_pos hk, if_neg (by rw [h11]; decide)]
        exact ⟨he, by unfold openV; rw [if_neg (by rw [he]; decide)]⟩)
      rw [hV, h11, hT] at HP
      clear hV hT h11 hk
      go_enter Tryd.func20, Tryd.ntmps20
      go_wp2_with (have zz := tok1; clear zz tok1; refine wpList_alS (Sep.refl No w) rfl 24 rfl [.int .u32 0, .int .i64 0] (by kernel_rfl) ?_; intro w1 hz1 K1; clear hz1)
      (with_reducible refine (HKY.out _).mono ?_)
      rintro e w2 ⟨rfl, rfl⟩
      go_wp2_with fail
      (with_reducible refine (HP.out _ K1.toExt).mono ?_)
      rintro e w2 ⟨rfl, hx2⟩
      have K2 := K1.ext hx2
      clear K1 hx2 HP
      obtain ⟨g4, G4⟩ : ∃ g, w.heap.size = g := ⟨_, rfl⟩
      rw [G4] at K2 ⊢
      have tok3 : True := trivial
      have tok4 : True := trivial
      have tok5 : True := trivial
      have tok6 : True := trivial
      go_upto_region 5 with (first
        | (have zz := tok3; clear zz tok3; refine wpList_alS K2 rfl 24 rfl [.int .u32 0, .int .i64 0] (by kernel_rfl) ?_; intro w3 hz3 K3; clear hz3 K2)
        | (have zz := tok4; clear zz tok4; refine wpList_alS K3 rfl 35 rfl (Z8 32) (by kernel_rfl) ?_; intro w4 hz4 K4; clear hz4 K3)
        | (have zz := tok5; clear zz tok5; refine wpList_stS [_] K4 rfl 24 (.tmp 7) (.tmp 18) rfl rfl (cs := [.int .u32 0, .int .i64 0]) rfl (by kernel_rfl) rfl (ses_one 0 0) ?_; intro w5 K5; dsimp only [List.nil_append, List.cons_append] at K5; clear K4)
        | (have zz := tok6; clear zz tok6; refine wpList_stS [] K5 rfl 35 (.tmp 8) (.tmp 19) rfl rfl (cs := Z8 32) rfl (by kernel_rfl) rfl (by decide) ?_; intro w6 K6; dsimp only [List.nil_append, List.cons_append] at K6; clear K5))
      clear G4
      refine wp_region_wm [0, 1, 2, 3, 4, 5, 6, 7, 8, 9] (by kernel_rfl) (by kernel_rfl) (by kernel_rfl) (by kernel_rfl) ?_
      have K7 := K6.drew
      clear K6
      generalize w6.drew = wd at *
      iterate 7 (refine wm_rd rfl rfl (fun K hK => ?_); go_simp; refine hK _ ?_; clear hK K)
      refine wm_ext rfl rfl (fun K hK => ?_)
      go_simp
      refine hK _ _ (Ext.refl _) ?_
      clear hK K
      iterate 2 (refine wm_rd rfl rfl (fun K hK => ?_); go_simp; refine hK _ ?_; clear hK K)
      refine wm_nil ?_
      go_wp2_with (have zz := tok2; clear zz tok2; refine wpList_stS [_, _] K7 rfl 24 (.tmp 4) (.tmp 33) rfl rfl (cs := [.int .u32 0, .int .i64 0]) rfl (by kernel_rfl) rfl (ses_one 0 0) ?_; intro wa Ka; dsimp only [List.nil_append, List.cons_append] at Ka; clear K7)
      refine bodyPost_ret (v := .tuple #[ses 0 0, .int .i64 11]) (results_row_tmp rfl _ _ g4 24 #[.int .u32 0, .int .i64 0] (0, 0) _ rfl (Ka.blk (g := g4) (e := 24) (cs := [.int .u32 0, .int .i64 0]) (List.Mem.tail _ (List.Mem.tail _ (List.Mem.head _)))) Tryd.underlying24 rfl (by kernel_rfl) rfl) rfl ⟨by rw [HE.out.1, HE.out.2], Ka.toExt⟩
  · rw [if_neg hk] at HKY
    have HE : Hid (openE key b = 2 ∧ openV key b = (0, 0)) := hide (by
      have he : openE key b = 2 := by unfold openE; rw [if_neg hk]
      exact ⟨he, by unfold openV; rw [if_neg (by rw [he]; decide)]⟩)
    clear hk
    go_enter Tryd.func20, Tryd.ntmps20
    go_wp2_with (have zz := tok1; clear zz tok1; refine wpList_alS (Sep.refl No w) rfl 24 rfl [.int .u32 0, .int .i64 0] (by kernel_rfl) ?_; intro w1 hz1 K1; clear hz1)
    (with_reducible refine (HKY.out _).mono ?_)
    rintro e w2 ⟨rfl, rfl⟩
    obtain ⟨g4, G4⟩ : ∃ g, w.heap.size = g := ⟨_, rfl⟩
    rw [G4] at K1 ⊢
    go_wp2_with (have zz := tok2; clear zz tok2; refine wpList_stS [] K1 rfl 24 (.tmp 4) (.tmp 13) rfl rfl (cs := [.int .u32 0, .int .i64 0]) rfl (by kernel_rfl) rfl (ses_one 0 0) ?_; intro wa Ka; dsimp only [List.nil_append, List.cons_append] at Ka; clear K1)
    refine bodyPost_ret (v := .tuple #[ses 0 0, .int .i64 2]) (results_row_tmp rfl _ _ g4 24 #[.int .u32 0, .int .i64 0] (0, 0) _ rfl (Ka.blk (g := g4) (e := 24) (cs := [.int .u32 0, .int .i64 0]) (List.Mem.head _)) Tryd.underlying24 rfl (by kernel_rfl) rfl) rfl ⟨by rw [HE.out.1, HE.out.2], Ka.toExt⟩
end Go.Proofs.YtckmbhdbabnmcaaDoor
namespace Go.Proofs.YtckmbhdbabnmcaaDoor
open Go.RowKit Go.Gr
set_option linter.unusedVariables false
set_option linter.unusedSimpArgs false
set_option maxRecDepth 100000 in
set_option maxHeartbeats 2000000 in
theorem raccept_any (key b : List Int) (now : Int) (A : Option Addr) (c : Nat) (B : Option Addr) (cb : Nat) (w : World) (hr : Rd w A (byt key)) (hb : isB key) (hc : key.length ≤ c) (hlen : key.length ≤ 100000)
    (hrb : Rd w B (byt b)) (hbb : isB b) (hcb : b.length ≤ cb) (hlb : b.length ≤ 100000) (hnow : -9223372036854775808 ≤ now ∧ now ≤ 9223372036854775807) :
    Calls Tryd.prog 22 #[.slice A key.length c, .slice B b.length cb, .int .i64 now] w fun e w' => e = .returned (.tuple #[ses (acceptV key b now).1 (acceptV key b now).2, .int .i64 (acceptE key b now)]) ∧ Ext w w' := by
  have HO := hide (fun (x : World) (h : Ext w x) => ropen_any key b A c B cb x (hr.ext h) hb hc hlen (hrb.ext h) hbb hcb hlb)
  clear hr hb hrb
  have tok1 : True := trivial
  have tok2 : True := trivial
  have tok3 : True := trivial
  have tok4 : True := trivial
  have tok5 : True := trivial
  by_cases h0 : openE key b = 0
  · obtain ⟨hv, ⟨hu0, hu1⟩, ho0, ho1⟩ := open_zero hbb h0
    obtain ⟨o, hO⟩ : ∃ o, decO (b.take 12) = o := ⟨_, rfl⟩
    obtain ⟨u, hU⟩ : ∃ u, decU (b.take 12) = u := ⟨_, rfl⟩
    rw [hO, hU] at hv
    rw [hO] at ho0 ho1
    rw [hU] at hu0 hu1
    have HE : Hid (acceptE key b now = (if now < 0 then 7 else if u ≤ now then 13 else 0) ∧ acceptV key b now = if acceptE key b now = 0 then (o, u) else (0, 0)) := hide ⟨by unfold acceptE; rw [if_pos h0, hU], by unfold acceptV; rw [hO, hU]⟩
    rw [hv, h0] at HO
    have HOV := hide (fun (x : World) => rover_any o u now x ⟨by omega, by omega⟩ hnow)
    clear hv hO hU h0
    go_enter Tryd.func22, Tryd.ntmps22
    go_wp2_with (have zz := tok1; clear zz tok1; refine wpList_alS (Sep.refl No w) rfl 24 rfl [.int .u32 0, .int .i64 0] (by kernel_rfl) ?_; intro w1 hz1 K1; clear hz1)
    (with_reducible refine (HO.out _ K1.toExt).mono ?_)
    rintro e w2 ⟨rfl, hx2⟩
    have K2 := K1.ext hx2
    clear K1 hx2 HO
    obtain ⟨g6, G6⟩ : ∃ g, w.heap.size = g := ⟨_, rfl⟩
    rw [G6] at K2 ⊢
    clear G6
    go_upto_region 4 with (first
      | (have zz := tok2; clear zz tok2; refine wpList_alS K2 rfl 24 rfl [.int .u32 0, .int .i64 0] (by kernel_rfl) ?_; intro w3 hz3 K3; clear hz3 K2)
      | (have zz := tok3; clear zz tok3; refine wpList_stS [] K3 rfl 24 (.tmp 8) (.tmp 15) rfl rfl (cs := [.int .u32 o, .int .i64 u]) rfl (by kernel_rfl) rfl (ses_one o u) ?_; intro w4 K4; dsimp only [List.nil_append, List.cons_append] at K4; clear K3))
    obtain ⟨g8, G8⟩ : ∃ g, w2.heap.size = g := ⟨_, rfl⟩
    rw [G8] at K4 ⊢
    clear G8
    go_wp2_with (have zz := tok4; clear zz tok4; refine wpList_ldS K4 (List.Mem.head _) rfl 24 (.tmp 8) rfl rfl _ Tryd.underlying24 rfl (by kernel_rfl) ?_)
    (with_reducible refine (HOV.out _).mono ?_)
    rintro e w5 ⟨rfl, hx5⟩
    have K5 := K4.ext hx5
    clear K4 hx5 HOV
    by_cases hn0 : now < 0
    · have hov : overV u now = false ∧ overE u now = 7 := by unfold overV overE; rw [if_pos (.inr hn0), if_pos (.inr hn0)]; exact ⟨rfl, rfl⟩
      rw [hov.1, hov.2]
      have HE2 := hide (show acceptE key b now = 7 ∧ acceptV key b now = (0, 0) by
        have h : acceptE key b now = 7 := by rw [HE.out.1, if_pos hn0]
        exact ⟨h, by rw [HE.out.2, if_neg (by rw [h]; decide)]⟩)
      clear hov HE
      go_wp2_with (have zz := tok5; clear zz tok5; refine wpList_stS [_] K5 rfl 24 (.tmp 6) (.tmp 34) rfl rfl (cs := [.int .u32 0, .int .i64 0]) rfl (by kernel_rfl) rfl (ses_one 0 0) ?_; intro wa Ka; dsimp only [List.nil_append, List.cons_append] at Ka)
      refine bodyPost_ret (v := .tuple #[ses 0 0, .int .i64 7]) (results_row_tmp rfl _ _ g6 24 #[.int .u32 0, .int .i64 0] (0, 0) _ rfl (Ka.blk (g := g6) (e := 24) (cs := [.int .u32 0, .int .i64 0]) (List.Mem.tail _ (List.Mem.head _))) Tryd.underlying24 rfl (by kernel_rfl) rfl) rfl ⟨by rw [HE2.out.1, HE2.out.2], Ka.toExt⟩
    · by_cases hun : u ≤ now
      · have hov : overV u now = true ∧ overE u now = 0 := by unfold overV overE; rw [if_neg (by omega), if_neg (by omega), decide_eq_true hun]; exact ⟨rfl, rfl⟩
        rw [hov.1, hov.2]
        have HE2 := hide (show acceptE key b now = 13 ∧ acceptV key b now = (0, 0) by
          have h : acceptE key b now = 13 := by rw [HE.out.1, if_neg hn0, if_pos hun]
          exact ⟨h, by rw [HE.out.2, if_neg (by rw [h]; decide)]⟩)
        clear hov HE
        go_wp2_with (have zz := tok5; clear zz tok5; refine wpList_stS [_] K5 rfl 24 (.tmp 6) (.tmp 34) rfl rfl (cs := [.int .u32 0, .int .i64 0]) rfl (by kernel_rfl) rfl (ses_one 0 0) ?_; intro wa Ka; dsimp only [List.nil_append, List.cons_append] at Ka)
        refine bodyPost_ret (v := .tuple #[ses 0 0, .int .i64 13]) (results_row_tmp rfl _ _ g6 24 #[.int .u32 0, .int .i64 0] (0, 0) _ rfl (Ka.blk (g := g6) (e := 24) (cs := [.int .u32 0, .int .i64 0]) (List.Mem.tail _ (List.Mem.head _))) Tryd.underlying24 rfl (by kernel_rfl) rfl) rfl ⟨by rw [HE2.out.1, HE2.out.2], Ka.toExt⟩
      · have hov : overV u now = false ∧ overE u now = 0 := by unfold overV overE; rw [if_neg (by omega), if_neg (by omega), decide_eq_false hun]; exact ⟨rfl, rfl⟩
        rw [hov.1, hov.2]
        have HE2 := hide (show acceptE key b now = 0 ∧ acceptV key b now = (o, u) by
          have h : acceptE key b now = 0 := by rw [HE.out.1, if_neg hn0, if_neg hun]
          exact ⟨h, by rw [HE.out.2, if_pos h]⟩)
        clear hov HE
        have tok6 : True := trivial
        go_wp2_with (first
          | (have zz := tok6; clear zz tok6; refine wpList_ldS K5 (List.Mem.head _) rfl 24 (.tmp 8) rfl rfl _ Tryd.underlying24 rfl (by kernel_rfl) ?_)
          | (have zz := tok5; clear zz tok5; refine wpList_stS [_] K5 rfl 24 (.tmp 6) (.tmp 36) rfl rfl (cs := [.int .u32 o, .int .i64 u]) rfl (by kernel_rfl) rfl (ses_one o u) ?_; intro wa Ka; dsimp only [List.nil_append, List.cons_append] at Ka))
        refine bodyPost_ret (v := .tuple #[ses o u, .int .i64 0]) (results_row_tmp rfl _ _ g6 24 #[.int .u32 o, .int .i64 u] (0, 0) _ rfl (Ka.blk (g := g6) (e := 24) (cs := [.int .u32 o, .int .i64 u]) (List.Mem.tail _ (List.Mem.head _))) Tryd.underlying24 rfl (by kernel_rfl) rfl) rfl ⟨by rw [HE2.out.1, HE2.out.2], Ka.toExt⟩
  · rw [open_bad h0] at HO
    obtain ⟨e0, hE0⟩ : ∃ e0, openE key b = e0 := ⟨_, rfl⟩
    have HE2 := hide (show acceptE key b now = e0 ∧ acceptV key b now = (0, 0) by
      have h : acceptE key b now = e0 := by unfold acceptE; rw [if_neg h0, hE0]
      exact ⟨h, by unfold acceptV; rw [if_neg (by rw [h, ← hE0]; exact h0)]⟩)
    have hc := openE_cases key b
    rw [hE0] at HO hc h0
    clear hE0
    go_enter Tryd.func22, Tryd.ntmps22
    go_wp2_with (have zz := tok1; clear zz tok1; refine wpList_alS (Sep.refl No w) rfl 24 rfl [.int .u32 0, .int .i64 0] (by kernel_rfl) ?_; intro w1 hz1 K1; clear hz1)
    (with_reducible refine (HO.out _ K1.toExt).mono ?_)
    rintro e w2 ⟨rfl, hx2⟩
    have K2 := K1.ext hx2
    clear K1 hx2 HO
    obtain ⟨g6, G6⟩ : ∃ g, w.heap.size = g := ⟨_, rfl⟩
    rw [G6] at K2 ⊢
    clear G6
    have hne : (e0 != 0) = true := bne_iff_ne.2 h0
    have hne2 : (e0 == 0) = false := beq_eq_false_iff_ne.2 h0
    go_wp2_with (first
      | (have zz := tok2; clear zz tok2; refine wpList_alS K2 rfl 24 rfl [.int .u32 0, .int .i64 0] (by kernel_rfl) ?_; intro w3 hz3 K3; clear hz3 K2)
      | (have zz := tok3; clear zz tok3; refine wpList_stS [] K3 rfl 24 (.tmp 8) (.tmp 15) rfl rfl (cs := [.int .u32 0, .int .i64 0]) rfl (by kernel_rfl) rfl (ses_one 0 0) ?_; intro w4 K4; dsimp only [List.nil_append, List.cons_append] at K4; clear K3)
      | (have zz := tok4; clear zz tok4; refine wpList_stS [_] K4 rfl 24 (.tmp 6) (.tmp 19) rfl rfl (cs := [.int .u32 0, .int .i64 0]) rfl (by kernel_rfl) rfl (ses_one 0 0) ?_; intro wa Ka; dsimp only [List.nil_append, List.cons_append] at Ka; clear K4))
    refine bodyPost_ret (v := .tuple #[ses 0 0, .int .i64 e0]) (results_row_tmp rfl _ _ g6 24 #[.int .u32 0, .int .i64 0] (0, 0) _ rfl (Ka.blk (g := g6) (e := 24) (cs := [.int .u32 0, .int .i64 0]) (List.Mem.tail _ (List.Mem.head _))) Tryd.underlying24 rfl (by kernel_rfl) rfl) rfl ⟨by rw [HE2.out.1, HE2.out.2], Ka.toExt⟩
end Go.Proofs.YtckmbhdbabnmcaaDoor
namespace Go.Proofs.YtckmbhdbabnmcaaDoor
open Go.RowKit Go.Gr
set_option linter.unusedVariables false
set_option linter.unusedSimpArgs false
attribute [local go_sem] rdOp rdAt rdUpon Cls forall_fr
set_option maxRecDepth 100000 in
set_option maxHeartbeats 2000000 in
theorem issue_ok (key : List Int) (A : Option Addr) (c : Nat) (o u : Int) (w : World) (hl : Laid w) (hr : Rd w A (byt key)) (hb : isB key) (hc : key.length ≤ c) (hlen : key.length ≤ 100000) (ho : 0 ≤ o ∧ o < 4294967296) (hu : -9223372036854775808 ≤ u ∧ u ≤ 9223372036854775807) (hk : keyOk key) (hneg : ¬ u < 0) :
    Calls Tryd.prog 15 #[.slice A key.length c, ses o u] w fun e w' => ∃ g, e = .returned (.tuple #[.slice (some ⟨g, 0, none⟩) 44 44, .int .i64 0]) ∧ Sep No w w' [As.blk g 64 (byt (tokB key (recB o u)))] := by
  have H0 := (Sep.refl No w).newB ((Ext.refl w).alloc (.cells #[.int .u32 o, .int .i64 u] 24)) (Blk.new w 24 [.int .u32 o, .int .i64 u]) (Nat.le_refl _)
  have HL := hide hl
  have HR := hide hr
  have HB := hide hb
  clear hl hr hb
  have dk : decide (keyOk key) = true := decide_eq_true hk
  have HEN := hide (fun (x : World) => enc_any o u x ho hu)
  have HE : Hid (issueB key o u = tokB key (recB o u) ∧ issueE key u = 0) := hide ⟨by unfold issueB; rw [if_pos hk, if_neg hneg], by unfold issueE encE; rw [if_pos hk, if_neg hneg]⟩
  rw [show encB o u = recB o u by unfold encB; rw [if_neg hneg], show encE u = 0 by unfold encE; rw [if_neg hneg]] at HEN
  obtain ⟨r, HRr⟩ : ∃ r, Hid (recB o u = r) := ⟨_, hide rfl⟩
  have HRL : Hid (r.length = 12) := hide (by rw [← HRr.out, recB_len])
  have HRB : Hid (isB r) := hide (by rw [← HRr.out]; exact recB_isB o u)
  obtain ⟨t, HT⟩ : ∃ t, Hid (tokT key r = t) := ⟨_, hide rfl⟩
  have HTL : Hid ((byt t).length = 32) := hide (by rw [byt_length, ← HT.out, tokT_len])
  have HTN : Hid (t.length = 32) := hide (by rw [← HT.out, tokT_len])
  have HE2 : Hid (tokB key (recB o u) = r ++ t) := hide (by rw [HRr.out]; unfold tokB; rw [HT.out])
  have HTAG := hide (fun (g gh : Nat) (Av : Option Addr) (cv : Nat) (x : World) (h : Ext w x) (hm : Blk x g 70 [ptr gh, .slice Av key.length cv]) (hh : HashAt x gh (xorB 54 (keyB key) ++ (sessB ++ r))) (hv : Rd x Av (byt key)) (hc' : key.length ≤ cv) =>
    mtag_any g gh key (xorB 54 (keyB key) ++ (sessB ++ r)) Av cv x (HL.out.ext h) hm hh hv HB.out hc' hlen (by rw [List.length_append, List.length_append, xorB_len, keyB_len, HRL.out]; decide))
  rw [show outB key (xorB 54 (keyB key) ++ (sessB ++ r)) = t from HT.out] at HTAG
  rw [HRr.out] at HEN
  clear HE HT HRr
  go_enter Tryd.func15, Tryd.ntmps15
  go_wp2_with fail
  (with_reducible refine (good_any key A c _).mono ?_)
  rintro e w1 ⟨rfl, rfl⟩
  rw [dk]
  have hb0 := H0.blk (g := w.heap.size) (e := 24) (cs := [.int .u32 o, .int .i64 u]) (List.Mem.head _)
  obtain ⟨c0, c1, hg0⟩ := cells2 hb0
  clear hb0
  go_wp2_with fail
  (with_reducible refine (HEN.out _).mono ?_)
  rintro e w2 ⟨A2, c2, rfl, hc2, hS⟩
  have H2 := H0.join hS
  dsimp only [List.nil_append, List.cons_append] at H2
  have K2 := hide H2
  clear H0 hS c0 c1 H2
  go_wp2_with fail
  (with_reducible refine (mac_any key r A c A2 c2 _ (HL.out.ext K2.out.toExt) (K2.out.rdN HR.out) HB.out hc hlen (K2.out.get (List.Mem.head _)) HRB.out hc2 (by have := HRL.out; omega)).mono ?_)
  rintro e w3 ⟨g, gh, v, rfl, hS⟩
  have H3 := K2.out.join hS
  dsimp only [List.nil_append, List.cons_append] at H3
  obtain ⟨Av, cv, ev, hrv, hlv, hmv, hhv, hgv⟩ := mac_parts H3
  have HTG := hide (HTAG.out g gh Av cv w3 H3.toExt hmv hhv hrv hlv)
  have K3 := hide H3
  clear H3 hS K2 HTAG hrv hmv hhv hlv
  go_wp2_with fail
  (with_reducible refine HTG.out.mono ?_)
  rintro e w4 ⟨rfl, hx4⟩
  have H4 := ((((K3.out.ext hx4).tail).tail).tail).sub (List.cons_sublist_cons.2 (List.nil_sublist _))
  clear K3 hx4 HTG
  have tok1 : True := trivial
  have tok2 : True := trivial
  have tok3 : True := trivial
  go_upto_region 10 with (first
    | (have zz := tok1; clear zz tok1; refine wpList_alS H4 rfl 35 rfl (Z8 32) (by kernel_rfl) ?_; intro w5 _ H5; clear H4)
    | (have zz := tok2; clear zz tok2; refine wpList_stS [] H5 rfl 35 (.tmp 8) (.tmp 26) rfl rfl (cs := byt t) rfl (by rw [HTL.out]; kernel_rfl) (by rw [HTL.out]; rfl) (byt_one _) ?_; intro w6 H6; dsimp only [List.nil_append] at H6; clear H5)
    | (have zz := tok3; clear zz tok3; refine wpList_alS H6 rfl 64 rfl (Z8 44) (by kernel_rfl) ?_; intro w7 _ H7; clear H6))
  obtain ⟨g8, G8⟩ : ∃ g, w4.heap.size = g := ⟨_, rfl⟩
  obtain ⟨g9, G9⟩ : ∃ g, w6.heap.size = g := ⟨_, rfl⟩
  rw [G8, G9] at H7 ⊢
  clear G8 G9
  obtain ⟨ad2, rfl⟩ := rd_some (H7.get (A := As.rd A2 (byt r)) (List.Mem.tail _ (List.Mem.tail _ (List.Mem.head _)))) (by have := HRL.out; omega)
  rw [HRL.out] at hc2 ⊢
  refine wp_region_wtR (RT.fr (At g9)) 5 [0, 1, 4, 2, 3] (by kernel_rfl) (by kernel_rfl) (by kernel_rfl) ?_
  have H8 := H7.drew
  clear H7
  generalize w7.drew = wd at *
  have hg9 := (H8.blk (g := g9) (e := 64) (cs := Z8 44) (List.Mem.head _)).lt
  have hg8 := (H8.blk (g := g8) (e := 35) (cs := byt t) (List.Mem.tail _ (List.Mem.head _))).lt
  iterate 3 (refine wr_rd rfl rfl (fun K hK => ?_); go_simp; refine hK _ ?_; clear hK K)
  refine wr_ext rfl rfl (fun K hK => ?_)
  rw [if_pos (show Region.wanted _ _ = true from rfl)]
  refine wp_cpS [] H8 (.tmp 31) (.tmp 32) 25 25 rfl 5 Tryd.underlying25 (by kernel_rfl) rfl rfl (H8.get (A := As.rd (some ad2) (byt r)) (List.Mem.tail _ (List.Mem.tail _ (List.Mem.head _)))) (by rw [byt_length, HRL.out]) rfl (by decide) (byt_one _) ?_
  intro w9 H9 hf9
  dsimp only [List.nil_append] at H9
  refine hK _ _ hf9 ?_
  clear hK K hf9 H8
  iterate 1 (refine wr_rd rfl rfl (fun K hK => ?_); go_simp; refine hK _ ?_; clear hK K)
  refine wr_nil ?_
  simp only [List.drop_succ_cons, List.drop_zero]
  refine wpList_cpS [] H9 rfl (.tmp 34) (.tmp 35) 25 25 rfl 5 Tryd.underlying25 (by kernel_rfl) rfl rfl ((H9.blk (g := g8) (e := 35) (cs := byt t) (List.Mem.tail _ (List.Mem.head _))).rd) HTL.out 32 rfl (by rw [show (splice (Z8 44) 0 (byt r)).length = 44 by rw [splice_len _ _ _ (by rw [byt_length, HRL.out]; decide)]; rfl]; decide) (byt_one _) ?_
  intro wa Ha
  dsimp only [List.nil_append] at Ha
  rw [List.take_of_length_le (Nat.le_of_eq HTL.out), tok_cells r t HRL.out HTN.out] at Ha
  have hg9' := (Ha.blk (g := g9) (e := 64) (List.Mem.head _)).lt
  have Ka := hide Ha
  clear Ha H9
  refine NoPanic.normal ?_
  go_wp2_with fail
  go_ret2
  exact ⟨g9, rfl, by rw [HE2.out]; exact Ka.out.sub (List.cons_sublist_cons.2 (List.nil_sublist _))⟩
end Go.Proofs.YtckmbhdbabnmcaaDoor
