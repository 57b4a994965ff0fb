/- Tokens: Parse, Open, Over, Accept; the law's own look at the examples. -/
import Derived.Test.YtamlngdjbmndlaaDoorGa
import Derived.Test.YtamlngdjbmndlaaDoorS11
import Derived.Test.YtamlngdjbmndlaaDoorTkB
import Derived.Laws.BytesArg
import Derived.Lib.SlicesS
namespace Go.Gr
open Go.RowKit Go.Sort
set_option linter.unusedVariables false
section
variable {P : Program} {w w0 : World} {G : Nat → Prop} {L : List As} {o : Oper} {a : Act} {Q : Exit → Act → World → Prop} {K : Act → World → Prop}
theorem wp_stSame {g : Nat} {t : TypeId} {cs : List Value} (hB : Blk w g t cs) (ty : TypeId) (x y : Operand) (ho : o.op = .store ty x y)
    (hx : a.eval x = .pointer (some ⟨g, 0, none⟩)) (hy : a.eval y = .agg cs.toArray)
    (hi : (P.info? ty).map (·.size) = some cs.length) (h1 : ∀ v ∈ cs, v.oneCell' = true)
    (h : K (a.put o.dst undef) w) : o.wp P a w K Q :=
  wp_store_row ty x y ho g cs.toArray hx hy t cs.toArray hB (by simpa using hi) rfl (Array.all_eq_true_iff_forall_mem.2 (fun v hv => h1 v (by simpa using hv))) (by rw [setRow_self w g cs.toArray t (0, 0) hB]; exact h)
theorem results_cct {fn : Func} {p q u : Tmp} {t1 t2 : TypeId} (h : fn.results = #[.cell p t1, .cell q t2, .tmp u]) (tmps : Array Value) (w : World) (g1 g2 : Nat) (e1 e2 : TypeId) (c1 c2 : List Value) (d1 d2 : TypeDesc)
    (hp : tmps.getD p undef = .pointer (some ⟨g1, 0, none⟩)) (hq : tmps.getD q undef = .pointer (some ⟨g2, 0, none⟩)) (hB1 : Blk w g1 e1 c1) (hB2 : Blk w g2 e2 c2)
    (hu1 : P.underlying t1 = some d1) (hd1 : (match d1 with | .struct _ | .array _ _ => true | _ => false) = true) (hi1 : (P.info? t1).map (·.size) = some c1.length)
    (hu2 : P.underlying t2 = some d2) (hd2 : (match d2 with | .struct _ | .array _ _ => true | _ => false) = true) (hi2 : (P.info? t2).map (·.size) = some c2.length) {x : Value} (hx : tmps.getD u undef = x) :
    (results fn tmps).run P w = .ok (.tuple #[.agg c1.toArray, .agg c2.toArray, x]) w := by
  subst hx
  have r1 := run_loadVar_row (P := P) w g1 e1 t1 c1.toArray (0, 0) d1 hB1 hu1 hd1 (by simpa using hi1)
  have r2 := run_loadVar_row (P := P) w g2 e2 t2 c2.toArray (0, 0) d2 hB2 hu2 hd2 (by simpa using hi2)
  rw [Array.getD_eq_getD_getElem?] at hp hq
  simp only [results, h]
  simp [Sem.run_bind, Result.andThen, hp, hq, asAddr, r1, r2]
end
end Go.Gr
namespace Go.Proofs.YtamlngdjbmndlaaDoor
open Go.RowKit Go.Gr
set_option linter.unusedVariables false
set_option linter.unusedSimpArgs false
attribute [local go_sem] rdOp rdAt rdUpon Cls forall_fr
theorem ses_one (o u : Int) : ∀ v ∈ [Value.int .u32 o, Value.int .i64 u], v.oneCell' = true := by
  intro v hv; simp at hv; rcases hv with rfl | rfl <;> rfl
theorem byt_zeros (n : Nat) : byt (List.replicate n 0) = Z8 n := by simp [byt, Z8]
theorem copy32 {l : List Int} (h : l.length = 32) : splice (Z8 32) 0 ((byt l).take 32) = byt l := by
  have h1 : (byt l).take 32 = byt l := List.take_of_length_le (by rw [byt_length, h]; exact Nat.le_refl _)
  rw [h1]
  unfold splice
  rw [byt_length, h, List.drop_eq_nil_of_le (by simp [Z8]), List.append_nil]
  rfl
set_option maxRecDepth 100000 in
set_option maxHeartbeats 1000000 in
theorem parse_any (b : List Int) (A : Option Addr) (c : Nat) (w : World) (hr : Rd w A (byt b)) (hb : isB b) (hlb : b.length ≤ 100000) (hc : b.length ≤ c) :
    Calls Tryd.prog 41 #[.slice A b.length c] w fun e w' => e = .returned (.tuple #[ses (parseV b).1 (parseV b).2, .agg (byt (parseT b)).toArray, .int .i64 (parseE b)]) ∧ Ext w w' := by
  have HR := hide hr
  have HB := hide hb
  clear hr hb
  have tok1 : True := trivial
  have tok2 : True := trivial
  by_cases h44 : b.length = 44
  · have HL := hide h44
    have hli : (b.length : Int) = 44 := by omega
    have hc44 : 44 ≤ c := by omega
    have hc12 : ¬ c = 12 := by omega
    have e12 : (b.take 12).length = 12 := by rw [List.length_take, h44]; rfl
    have HD := hide (fun (x : World) (h : Ext w x) => dec_any (b.take 12) A c x (rd_take (HR.out.ext h) 12) (isB_take HB.out 12) (by omega))
    rw [e12] at HD
    have hPE : parseE b = decE (b.take 12) := by unfold parseE; rw [if_pos h44]
    have hcc : (12 : Int) ≤ (c : Int) := by omega
    have hlb32 : (b.drop 12).length = 32 := by rw [List.length_drop, h44]
    rcases decE_two (b.take 12) with h0 | h11
    · obtain ⟨o, u, hV⟩ : ∃ o u, decV (b.take 12) = (o, u) := ⟨_, _, rfl⟩
      have HE : Hid (parseE b = 0 ∧ parseV b = (o, u) ∧ parseT b = b.drop 12) := hide (by
        have h : parseE b = 0 := by rw [hPE, h0]
        refine ⟨h, ?_, by unfold parseT; rw [if_pos h]⟩
        unfold parseV
        rw [if_pos h, ← hV]
        unfold decV
        rw [if_pos h0])
      rw [hV, h0] at HD
      have HB32 := hide (show (byt (b.drop 12)).length = 32 by rw [byt_length, hlb32])
      have HC32 := hide (copy32 hlb32)
      rw [h44]
      clear hPE hV h0 e12 h44 hlb32
      go_enter Tryd.func41, Tryd.ntmps41
      go_wp2_with (first
        | (have zz := tok1; clear zz tok1; refine wpList_alS (Sep.refl No w) rfl 53 rfl [.int .u32 0, .int .i64 0] (by kernel_rfl) ?_; intro w1 hz1 K1; clear hz1)
        | (have zz := tok2; clear zz tok2; refine wpList_alS K1 rfl 36 rfl (Z8 32) (by kernel_rfl) ?_; intro w2 hz2 K2; clear K1 hz2))
      (with_reducible refine (HD.out _ K2.toExt).mono ?_)
      rintro e w3 ⟨rfl, hx3⟩
      have K3 := K2.ext hx3
      clear K2 hx3 HD
      obtain ⟨g2, G2⟩ : ∃ g, w.heap.size = g := ⟨_, rfl⟩
      obtain ⟨g3, G3⟩ : ∃ g, w1.heap.size = g := ⟨_, rfl⟩
      rw [G2, G3] at K3 ⊢
      clear G2 G3
      have tok3 : True := trivial
      go_upto_region 6 with (have zz := tok3; clear zz tok3; refine wpList_stS [_] K3 rfl 53 (.tmp 2) (.tmp 14) rfl rfl (cs := [.int .u32 o, .int .i64 u]) rfl (by kernel_rfl) rfl (ses_one o u) ?_; intro w4 K4; dsimp only [List.nil_append, List.cons_append] at K4; clear K3)
      refine wp_region_wtR (RT.fr No) 3 [0, 1, 2] (by kernel_rfl) (by kernel_rfl) (by kernel_rfl) ?_
      have K5 := K4.drew
      clear K4
      generalize w4.drew = wd at *
      have hg3 := (K5.blk (g := g3) (e := 36) (cs := Z8 32) (List.Mem.head _)).lt
      iterate 3 (refine wr_rd rfl rfl (fun K hK => ?_); go_simp; refine hK _ ?_; clear hK K)
      refine wr_nil ?_
      simp only [List.drop_succ_cons, List.drop_zero]
      refine wpList_cpS [] K5 rfl (.tmp 21) (.tmp 23) 26 26 rfl 5 Tryd.underlying26 (by kernel_rfl) rfl rfl (rd_dropK (K5.rdN HR.out) 12 (by decide)) HB32.out 32 rfl (by decide) (byt_one _) ?_
      intro w6 K6
      dsimp only [List.nil_append] at K6
      rw [HC32.out] at K6
      clear K5
      refine NoPanic.normal ?_
      go_upto_region 7 with fail
      refine wp_region_wmr (RT.fr No) [0, 1, 2, 3, 4] (by kernel_rfl) (by kernel_rfl) (by kernel_rfl) (by kernel_rfl) ?_
      have K7 := K6.drew
      clear K6
      generalize w6.drew = we at *
      have B3 := K7.blk (g := g3) (e := 36) (cs := byt (b.drop 12)) (List.Mem.head _)
      have B2 := K7.blk (g := g2) (e := 53) (cs := [.int .u32 o, .int .i64 u]) (List.Mem.tail _ (List.Mem.head _))
      refine wmr_ldR rfl rfl 53 (.tmp 2) rfl (g := g2) (off := 0) (cs := [.int .u32 o, .int .i64 u]) (fun w' h => Fr.blk h B2 (fun h => h)) (fun j v h => by rw [Nat.zero_add]; exact h) rfl _ Tryd.underlying53 rfl (by kernel_rfl) ?_
      refine wmr_ldR rfl rfl 36 (.tmp 3) rfl (g := g3) (off := 0) (cs := byt (b.drop 12)) (fun w' h => Fr.blk h B3 (fun h => h)) (fun j v h => by rw [Nat.zero_add]; exact h) rfl _ Tryd.underlying36 rfl (by rw [HB32.out]; kernel_rfl) ?_
      refine wmr_ext rfl rfl (fun K hK => ?_)
      rw [if_pos (show Region.wanted _ _ = true from rfl)]
      refine wp_stSame B2 53 (.tmp 2) (.tmp 25) rfl rfl rfl (by kernel_rfl) (ses_one o u) (hK _ _ (Fr.refl _ _) ?_)
      clear hK K
      refine wmr_ext rfl rfl (fun K hK => ?_)
      rw [if_pos (show Region.wanted _ _ = true from rfl)]
      refine wp_stSame B3 36 (.tmp 3) (.tmp 26) rfl rfl rfl (by rw [HB32.out]; kernel_rfl) (byt_one _) (hK _ _ (Fr.refl _ _) ?_)
      clear hK K
      iterate 1 (refine wmr_rd rfl rfl (fun K hK => ?_); go_simp; refine hK _ ?_; clear hK K)
      refine wmr_nil ?_
      go_wp2_with fail
      refine bodyPost_ret (v := .tuple #[ses o u, .agg (byt (b.drop 12)).toArray, .int .i64 0]) (results_cct rfl _ _ g2 g3 53 36 [.int .u32 o, .int .i64 u] (byt (b.drop 12)) _ _ rfl rfl B2 B3 Tryd.underlying53 rfl (by kernel_rfl) Tryd.underlying36 rfl (by rw [HB32.out]; kernel_rfl) rfl) rfl ⟨by rw [HE.out.1, HE.out.2.1, HE.out.2.2], K7.toExt⟩
    · have hV : decV (b.take 12) = (0, 0) := by unfold decV; rw [if_neg (by rw [h11]; decide)]
      have HE : Hid (parseE b = 11 ∧ parseV b = (0, 0) ∧ byt (parseT b) = Z8 32) := hide (by
        have h : parseE b = 11 := by rw [hPE, h11]
        exact ⟨h, by unfold parseV; rw [if_neg (by rw [h]; decide)], by unfold parseT; rw [if_neg (by rw [h]; decide)]; exact byt_zeros 32⟩)
      rw [hV, h11] at HD
      rw [h44]
      clear hPE hV h11 e12 h44 hlb32
      go_enter Tryd.func41, Tryd.ntmps41
      go_wp2_with (first
        | (have zz := tok1; clear zz tok1; refine wpList_alS (Sep.refl No w) rfl 53 rfl [.int .u32 0, .int .i64 0] (by kernel_rfl) ?_; intro w1 hz1 K1; clear hz1)
        | (have zz := tok2; clear zz tok2; refine wpList_alS K1 rfl 36 rfl (Z8 32) (by kernel_rfl) ?_; intro w2 hz2 K2; clear K1 hz2))
      (with_reducible refine (HD.out _ K2.toExt).mono ?_)
      rintro e w3 ⟨rfl, hx3⟩
      have K3 := K2.ext hx3
      clear K2 hx3 HD
      obtain ⟨g2, G2⟩ : ∃ g, w.heap.size = g := ⟨_, rfl⟩
      obtain ⟨g3, G3⟩ : ∃ g, w1.heap.size = g := ⟨_, rfl⟩
      rw [G2, G3] at K3 ⊢
      clear G2 G3
      have tok3 : True := trivial
      go_upto_region 5 with (have zz := tok3; clear zz tok3; refine wpList_stS [_] K3 rfl 53 (.tmp 2) (.tmp 14) rfl rfl (cs := [.int .u32 0, .int .i64 0]) rfl (by kernel_rfl) rfl (ses_one 0 0) ?_; intro w4 K4; dsimp only [List.nil_append, List.cons_append] at K4; clear K3)
      refine wp_region_wmr (RT.fr No) [0, 1, 2, 3, 4, 5] (by kernel_rfl) (by kernel_rfl) (by kernel_rfl) (by kernel_rfl) ?_
      have K7 := K4.drew
      clear K4
      generalize w4.drew = we at *
      have B3 := K7.blk (g := g3) (e := 36) (cs := Z8 32) (List.Mem.head _)
      have B2 := K7.blk (g := g2) (e := 53) (cs := [.int .u32 0, .int .i64 0]) (List.Mem.tail _ (List.Mem.head _))
      iterate 1 (refine wmr_rd rfl rfl (fun K hK => ?_); go_simp; refine hK _ ?_; clear hK K)
      refine wmr_ldR rfl rfl 36 (.tmp 3) rfl (g := g3) (off := 0) (cs := Z8 32) (fun w' h => Fr.blk h B3 (fun h => h)) (fun j v h => by rw [Nat.zero_add]; exact h) rfl _ Tryd.underlying36 rfl (by kernel_rfl) ?_
      iterate 1 (refine wmr_rd rfl rfl (fun K hK => ?_); go_simp; refine hK _ ?_; clear hK K)
      refine wmr_ext rfl rfl (fun K hK => ?_)
      rw [if_pos (show Region.wanted _ _ = true from rfl)]
      refine wp_stSame B2 53 (.tmp 2) (.tmp 18) rfl rfl rfl (by kernel_rfl) (ses_one 0 0) (hK _ _ (Fr.refl _ _) ?_)
      clear hK K
      refine wmr_ext rfl rfl (fun K hK => ?_)
      rw [if_pos (show Region.wanted _ _ = true from rfl)]
      refine wp_stSame B3 36 (.tmp 3) (.tmp 19) rfl rfl rfl (by kernel_rfl) (by decide) (hK _ _ (Fr.refl _ _) ?_)
      clear hK K
      iterate 1 (refine wmr_rd rfl rfl (fun K hK => ?_); go_simp; refine hK _ ?_; clear hK K)
      refine wmr_nil ?_
      go_wp2_with fail
      refine bodyPost_ret (v := .tuple #[ses 0 0, .agg (Z8 32).toArray, .int .i64 11]) (results_cct rfl _ _ g2 g3 53 36 [.int .u32 0, .int .i64 0] (Z8 32) _ _ rfl rfl B2 B3 Tryd.underlying53 rfl (by kernel_rfl) Tryd.underlying36 rfl (by kernel_rfl) rfl) rfl ⟨by rw [HE.out.1, HE.out.2.1, HE.out.2.2], K7.toExt⟩
  · have HE : Hid (parseE b = 11 ∧ parseV b = (0, 0) ∧ byt (parseT b) = Z8 32) := hide (by
      have h : parseE b = 11 := by unfold parseE; rw [if_neg h44]
      exact ⟨h, by unfold parseV; rw [if_neg (by rw [h]; decide)], by unfold parseT; rw [if_neg (by rw [h]; decide)]; exact byt_zeros 32⟩)
    have hne : ¬ (b.length : Int) = 44 := by omega
    have hne2 : ((b.length : Int) != 44) = true := bne_iff_ne.2 hne
    go_enter Tryd.func41, Tryd.ntmps41
    go_upto_region 2 with (first
      | (have zz := tok1; clear zz tok1; refine wpList_alS (Sep.refl No w) rfl 53 rfl [.int .u32 0, .int .i64 0] (by kernel_rfl) ?_; intro w1 hz1 K1; clear hz1)
      | (have zz := tok2; clear zz tok2; refine wpList_alS K1 rfl 36 rfl (Z8 32) (by kernel_rfl) ?_; intro w2 hz2 K2; clear K1 hz2))
    obtain ⟨g2, G2⟩ : ∃ g, w.heap.size = g := ⟨_, rfl⟩
    obtain ⟨g3, G3⟩ : ∃ g, w1.heap.size = g := ⟨_, rfl⟩
    rw [G2, G3] at K2 ⊢
    clear G2 G3
    refine wp_region_wmr (RT.fr No) [0, 1, 2, 3, 4] (by kernel_rfl) (by kernel_rfl) (by kernel_rfl) (by kernel_rfl) ?_
    have K3 := K2.drew
    clear K2
    generalize w2.drew = wd at *
    have B3 := K3.blk (g := g3) (e := 36) (cs := Z8 32) (List.Mem.head _)
    have B2 := K3.blk (g := g2) (e := 53) (cs := [.int .u32 0, .int .i64 0]) (List.Mem.tail _ (List.Mem.head _))
    refine wmr_ldR rfl rfl 53 (.tmp 2) rfl (g := g2) (off := 0) (cs := [.int .u32 0, .int .i64 0]) (fun w' h => Fr.blk h B2 (fun h => h)) (fun j v h => by rw [Nat.zero_add]; exact h) rfl _ Tryd.underlying53 rfl (by kernel_rfl) ?_
    refine wmr_ldR rfl rfl 36 (.tmp 3) rfl (g := g3) (off := 0) (cs := Z8 32) (fun w' h => Fr.blk h B3 (fun h => h)) (fun j v h => by rw [Nat.zero_add]; exact h) rfl _ Tryd.underlying36 rfl (by kernel_rfl) ?_
    refine wmr_ext rfl rfl (fun K hK => ?_)
    rw [if_pos (show Region.wanted _ _ = true from rfl)]
    refine wp_stSame B2 53 (.tmp 2) (.tmp 8) rfl rfl rfl (by kernel_rfl) (ses_one 0 0) (hK _ _ (Fr.refl _ _) ?_)
    clear hK K
    refine wmr_ext rfl rfl (fun K hK => ?_)
    rw [if_pos (show Region.wanted _ _ = true from rfl)]
    refine wp_stSame B3 36 (.tmp 3) (.tmp 9) rfl rfl rfl (by kernel_rfl) (by decide) (hK _ _ (Fr.refl _ _) ?_)
    clear hK K
    iterate 1 (refine wmr_rd rfl rfl (fun K hK => ?_); go_simp; refine hK _ ?_; clear hK K)
    refine wmr_nil ?_
    go_wp2_with fail
    refine bodyPost_ret (v := .tuple #[ses 0 0, .agg (Z8 32).toArray, .int .i64 11]) (results_cct rfl _ _ g2 g3 53 36 [.int .u32 0, .int .i64 0] (Z8 32) _ _ rfl rfl B2 B3 Tryd.underlying53 rfl (by kernel_rfl) Tryd.underlying36 rfl (by kernel_rfl) rfl) rfl ⟨by rw [HE.out.1, HE.out.2.1, HE.out.2.2], K3.toExt⟩
end Go.Proofs.YtamlngdjbmndlaaDoor
namespace Go.Proofs.YtamlngdjbmndlaaDoor
open Go.RowKit Go.Gr
set_option linter.unusedVariables false
set_option linter.unusedSimpArgs false
attribute [local go_sem] rdOp rdAt rdUpon Cls forall_fr
set_option maxRecDepth 100000 in
set_option maxHeartbeats 2000000 in
theorem open_any (key b : List Int) (A : Option Addr) (c : Nat) (B : Option Addr) (cb : Nat) (w : World) (hl : Laid w) (hr : Rd w A (byt key)) (hb : isB key) (hc : key.length ≤ c) (hlen : key.length ≤ 100000)
    (hrb : Rd w B (byt b)) (hbb : isB b) (hcb : b.length ≤ cb) (hlb : b.length ≤ 100000) :
    Calls Tryd.prog 24 #[.slice A key.length c, .slice B b.length cb] w fun e w' => e = .returned (.tuple #[ses (openV key b).1 (openV key b).2, .int .i64 (openE key b)]) ∧ Ext w w' := by
  have HL := hide hl
  have HR := hide hr
  have HB := hide hb
  have HRB := hide hrb
  have HBB := hide hbb
  clear hl hr hb hrb hbb
  have tok1 : True := trivial
  have tok2 : True := trivial
  by_cases hk : keyOk key
  · have dk : decide (keyOk key) = true := decide_eq_true hk
    have HP := hide (fun (x : World) (h : Ext w x) => parse_any b B cb x (HRB.out.ext h) HBB.out hlb hcb)
    rcases parseE_two b with h0 | h11
    · obtain ⟨o, u, hV⟩ : ∃ o u, parseV b = (o, u) := ⟨_, _, rfl⟩
      have hT : parseT b = b.drop 12 := by unfold parseT; rw [if_pos h0]
      have h44 := (parseE_zero h0).1
      have hov : decO (b.take 12) = o ∧ decU (b.take 12) = u := by
        unfold parseV at hV
        rw [if_pos h0] at hV
        exact ⟨congrArg Prod.fst hV, congrArg Prod.snd hV⟩
      obtain ⟨s, hs⟩ : ∃ s, sameE (tokT key (b.take 12)) (b.drop 12) = s := ⟨_, rfl⟩
      have HS : Hid ((s = 0 ∧ openE key b = 0 ∧ openV key b = (o, u)) ∨ (s = 12 ∧ openE key b = 12 ∧ openV key b = (0, 0))) := hide (by
        unfold sameE at hs
        by_cases ht : tokT key (b.take 12) = b.drop 12
        · rw [if_pos ht] at hs
          have he : openE key b = 0 := by unfold openE; rw [if_pos hk, if_pos h0, if_pos ht]
          exact .inl ⟨hs.symm, he, by unfold openV; rw [if_pos he, hov.1, hov.2]⟩
        · rw [if_neg ht] at hs
          have he : openE key b = 12 := by unfold openE; rw [if_pos hk, if_pos h0, if_neg ht]
          exact .inr ⟨hs.symm, he, by unfold openV; rw [if_neg (by rw [he]; decide)]⟩)
      rw [hV, h0, hT, h44] at HP
      have hd32 : (b.drop 12).length = 32 := by rw [List.length_drop, h44]
      have ht12 : (b.take 12).length = 12 := by rw [List.length_take, h44]; rfl
      have HD32 := hide (show (byt (b.drop 12)).length = 32 by rw [byt_length, hd32])
      have HMAC := hide (fun (x : World) (h : Ext w x) => mac_any key (b.take 12) A c B cb x (HL.out.ext h) (HR.out.ext h) HB.out hc hlen (rd_take (HRB.out.ext h) 12) (isB_take HBB.out 12) (by omega) (by omega))
      rw [ht12] at HMAC
      have HVER := hide (fun (g gh : Nat) (Av : Option Addr) (cv g7 : Nat) (x : World) (h : Ext w x) (hm : Blk x g 99 [ptr gh, .slice Av key.length cv]) (hh : HashAt x gh (xorB 54 (keyB key) ++ (sessB ++ b.take 12))) (hv : Rd x Av (byt key)) (hc' : key.length ≤ cv) (ht : Rd x (some ⟨g7, 0, none⟩) (byt (b.drop 12))) =>
        mverify_any g gh key (xorB 54 (keyB key) ++ (sessB ++ b.take 12)) (b.drop 12) Av cv (some ⟨g7, 0, none⟩) 32 x (HL.out.ext h) hm hh hv HB.out hc' hlen (by rw [List.length_append, List.length_append, xorB_len, keyB_len, ht12]; decide) ht (isB_drop HBB.out 12) (by omega))
      rw [show sameE (outB key (xorB 54 (keyB key) ++ (sessB ++ b.take 12))) (b.drop 12) = s from hs, hd32] at HVER
      have hcc : (12 : Int) ≤ (cb : Int) := by omega
      have hcn : ¬ cb = 12 := by omega
      rw [h44]
      clear hV hT hov hs h0 hk h44 hd32 ht12
      go_enter Tryd.func24, Tryd.ntmps24
      go_wp2_with (have zz := tok1; clear zz tok1; refine wpList_alS (Sep.refl No w) rfl 53 rfl [.int .u32 0, .int .i64 0] (by kernel_rfl) ?_; intro w1 hz1 K1; clear hz1)
      (with_reducible refine (good_any key A c _).mono ?_)
      rintro e w2 ⟨rfl, rfl⟩
      rw [dk]
      go_wp2_with fail
      (with_reducible refine (HP.out _ K1.toExt).mono ?_)
      rintro e w2 ⟨rfl, hx2⟩
      have K2 := K1.ext hx2
      clear K1 hx2 HP
      have tok3 : True := trivial
      have tok4 : True := trivial
      have tok5 : True := trivial
      have tok6 : True := trivial
      go_upto_region 6 with (first
        | (have zz := tok3; clear zz tok3; refine wpList_alS K2 rfl 53 rfl [.int .u32 0, .int .i64 0] (by kernel_rfl) ?_; intro w3 hz3 K3; clear hz3 K2)
        | (have zz := tok4; clear zz tok4; refine wpList_alS K3 rfl 36 rfl (Z8 32) (by kernel_rfl) ?_; intro w4 hz4 K4; clear hz4 K3)
        | (have zz := tok5; clear zz tok5; refine wpList_stS [_] K4 rfl 53 (.tmp 6) (.tmp 17) rfl rfl (cs := [.int .u32 o, .int .i64 u]) rfl (by kernel_rfl) rfl (ses_one o u) ?_; intro w5 K5; dsimp only [List.nil_append, List.cons_append] at K5; clear K4)
        | (have zz := tok6; clear zz tok6; refine wpList_stS [] K5 rfl 36 (.tmp 7) (.tmp 18) rfl rfl (cs := byt (b.drop 12)) rfl (by rw [HD32.out]; kernel_rfl) (by rw [HD32.out]; rfl) (byt_one _) ?_; intro w6 K6; dsimp only [List.nil_append, List.cons_append] at K6; clear K5))
      obtain ⟨g4, G4⟩ : ∃ g, w.heap.size = g := ⟨_, rfl⟩
      obtain ⟨g6, G6⟩ : ∃ g, w2.heap.size = g := ⟨_, rfl⟩
      obtain ⟨g7, G7⟩ : ∃ g, w3.heap.size = g := ⟨_, rfl⟩
      rw [G4, G6, G7] at K6
      rw [G4, G6, G7]
      clear G4 G6 G7
      refine wp_region_wmr (RT.fr No) [0, 1, 2, 4, 3, 5, 6] (by kernel_rfl) (by kernel_rfl) (by kernel_rfl) (by kernel_rfl) ?_
      have K7 := K6.drew
      clear K6
      generalize w6.drew = wd at *
      have hg7 := (K7.blk (g := g7) (e := 36) (cs := byt (b.drop 12)) (List.Mem.head _)).lt
      iterate 4 (refine wmr_rd rfl rfl (fun K hK => ?_); go_simp; refine hK _ ?_; clear hK K)
      refine wmr_ext rfl rfl (fun K hK => ?_)
      go_simp
      go_at_call 39
      (with_reducible refine (HMAC.out wd K7.toExt).mono ?_)
      rintro e w8 ⟨g, gh, v, rfl, hS⟩
      refine hK _ _ (Fr.of_ext hS.toExt) ?_
      clear hK K
      have K8 := K7.join hS
      dsimp only [List.nil_append, List.cons_append] at K8
      clear K7 hS HMAC
      obtain ⟨Av, cv, ev, hrv, hlv, hmv, hhv, hgv⟩ := mac_parts K8
      have HV1 := hide (HVER.out g gh Av cv g7 w8 K8.toExt hmv hhv hrv hlv (K8.blk (g := g7) (e := 36) (cs := byt (b.drop 12)) (List.Mem.tail _ (List.Mem.tail _ (List.Mem.tail _ (List.Mem.head _))))).rd)
      clear hrv hlv hmv hhv HVER
      refine wmr_ext rfl rfl (fun K hK => ?_)
      go_simp
      go_at_call 42
      (with_reducible refine HV1.out.mono ?_)
      rintro e w9 ⟨rfl, hx9⟩
      refine hK _ _ (Fr.of_ext hx9) ?_
      clear hK K
      have K9 := (((K8.ext hx9).tail).tail).tail
      clear K8 hx9 HV1
      iterate 1 (refine wmr_rd rfl rfl (fun K hK => ?_); go_simp; refine hK _ ?_; clear hK K)
      refine wmr_nil ?_
      have hg6 := (K9.blk (g := g6) (e := 53) (cs := [.int .u32 o, .int .i64 u]) (List.Mem.tail _ (List.Mem.head _))).lt
      have tok7 : True := trivial
      have tok8 : True := trivial
      rcases HS.out with ⟨rfl, he, hv⟩ | ⟨rfl, he, hv⟩
      · have HE := hide (And.intro he hv)
        clear he hv
        go_wp2_with (first
          | (have zz := tok7; clear zz tok7; refine wpList_ldS K9 (List.Mem.tail _ (List.Mem.head _)) rfl 53 (.tmp 6) rfl rfl _ Tryd.underlying53 rfl (by kernel_rfl) ?_)
          | (have zz := tok8; clear zz tok8; refine wpList_stS [_, _] K9 rfl 53 (.tmp 4) (.tmp 34) rfl rfl (cs := [.int .u32 o, .int .i64 u]) rfl (by kernel_rfl) rfl (ses_one o u) ?_; intro wa Ka; dsimp only [List.nil_append, List.cons_append] at Ka))
        refine bodyPost_ret (v := .tuple #[ses o u, .int .i64 0]) (results_row_tmp rfl _ _ g4 53 #[.int .u32 o, .int .i64 u] (0, 0) _ rfl (Ka.blk (g := g4) (e := 53) (cs := [.int .u32 o, .int .i64 u]) (List.Mem.tail _ (List.Mem.tail _ (List.Mem.head _)))) Tryd.underlying53 rfl (by kernel_rfl) rfl) rfl ⟨by rw [HE.out.1, HE.out.2], Ka.toExt⟩
      · have HE := hide (And.intro he hv)
        clear he hv
        go_wp2_with (have zz := tok8; clear zz tok8; refine wpList_stS [_, _] K9 rfl 53 (.tmp 4) (.tmp 32) rfl rfl (cs := [.int .u32 0, .int .i64 0]) rfl (by kernel_rfl) rfl (ses_one 0 0) ?_; intro wa Ka; dsimp only [List.nil_append, List.cons_append] at Ka)
        refine bodyPost_ret (v := .tuple #[ses 0 0, .int .i64 12]) (results_row_tmp rfl _ _ g4 53 #[.int .u32 0, .int .i64 0] (0, 0) _ rfl (Ka.blk (g := g4) (e := 53) (cs := [.int .u32 0, .int .i64 0]) (List.Mem.tail _ (List.Mem.tail _ (List.Mem.head _)))) Tryd.underlying53 rfl (by kernel_rfl) rfl) rfl ⟨by rw [HE.out.1, HE.out.2], Ka.toExt⟩
    · have hV : parseV b = (0, 0) := by unfold parseV; rw [if_neg (by rw [h11]; decide)]
      have hT : byt (parseT b) = Z8 32 := by unfold parseT; rw [if_neg (by rw [h11]; decide)]; exact byt_zeros 32
      have HE : Hid (openE key b = 11 ∧ openV key b = (0, 0)) := hide (by
        have he : openE key b = 11 := by unfold openE; rw [if_pos hk, if_neg (by rw [h11]; decide)]
        exact ⟨he, by unfold openV; rw [if_neg (by rw [he]; decide)]⟩)
      rw [hV, h11, hT] at HP
      clear hV hT h11 hk
      go_enter Tryd.func24, Tryd.ntmps24
      go_wp2_with (have zz := tok1; clear zz tok1; refine wpList_alS (Sep.refl No w) rfl 53 rfl [.int .u32 0, .int .i64 0] (by kernel_rfl) ?_; intro w1 hz1 K1; clear hz1)
      (with_reducible refine (good_any key A c _).mono ?_)
      rintro e w2 ⟨rfl, rfl⟩
      rw [dk]
      go_wp2_with fail
      (with_reducible refine (HP.out _ K1.toExt).mono ?_)
      rintro e w2 ⟨rfl, hx2⟩
      have K2 := K1.ext hx2
      clear K1 hx2 HP
      obtain ⟨g4, G4⟩ : ∃ g, w.heap.size = g := ⟨_, rfl⟩
      rw [G4] at K2 ⊢
      have tok3 : True := trivial
      have tok4 : True := trivial
      have tok5 : True := trivial
      have tok6 : True := trivial
      go_wp2_with (first
        | (have zz := tok3; clear zz tok3; refine wpList_alS K2 rfl 53 rfl [.int .u32 0, .int .i64 0] (by kernel_rfl) ?_; intro w3 hz3 K3; clear hz3 K2)
        | (have zz := tok4; clear zz tok4; refine wpList_alS K3 rfl 36 rfl (Z8 32) (by kernel_rfl) ?_; intro w4 hz4 K4; clear hz4 K3)
        | (have zz := tok5; clear zz tok5; refine wpList_stS [_] K4 rfl 53 (.tmp 6) (.tmp 17) rfl rfl (cs := [.int .u32 0, .int .i64 0]) rfl (by kernel_rfl) rfl (ses_one 0 0) ?_; intro w5 K5; dsimp only [List.nil_append, List.cons_append] at K5; clear K4)
        | (have zz := tok6; clear zz tok6; refine wpList_stS [] K5 rfl 36 (.tmp 7) (.tmp 18) rfl rfl (cs := Z8 32) rfl (by kernel_rfl) rfl (by decide) ?_; intro w6 K6; dsimp only [List.nil_append, List.cons_append] at K6; clear K5)
        | (have zz := tok2; clear zz tok2; refine wpList_stS [_, _] K6 rfl 53 (.tmp 4) (.tmp 22) rfl rfl (cs := [.int .u32 0, .int .i64 0]) rfl (by kernel_rfl) rfl (ses_one 0 0) ?_; intro wa Ka; dsimp only [List.nil_append, List.cons_append] at Ka; clear K6))
      refine bodyPost_ret (v := .tuple #[ses 0 0, .int .i64 11]) (results_row_tmp rfl _ _ g4 53 #[.int .u32 0, .int .i64 0] (0, 0) _ rfl (Ka.blk (g := g4) (e := 53) (cs := [.int .u32 0, .int .i64 0]) (List.Mem.tail _ (List.Mem.tail _ (List.Mem.head _)))) Tryd.underlying53 rfl (by kernel_rfl) rfl) rfl ⟨by rw [HE.out.1, HE.out.2], Ka.toExt⟩
  · have dk : decide (keyOk key) = false := decide_eq_false hk
    have HE : Hid (openE key b = 2 ∧ openV key b = (0, 0)) := hide (by
      have he : openE key b = 2 := by unfold openE; rw [if_neg hk]
      exact ⟨he, by unfold openV; rw [if_neg (by rw [he]; decide)]⟩)
    clear hk
    go_enter Tryd.func24, Tryd.ntmps24
    go_wp2_with (have zz := tok1; clear zz tok1; refine wpList_alS (Sep.refl No w) rfl 53 rfl [.int .u32 0, .int .i64 0] (by kernel_rfl) ?_; intro w1 hz1 K1; clear hz1)
    (with_reducible refine (good_any key A c _).mono ?_)
    rintro e w2 ⟨rfl, rfl⟩
    rw [dk]
    obtain ⟨g4, G4⟩ : ∃ g, w.heap.size = g := ⟨_, rfl⟩
    rw [G4] at K1 ⊢
    go_wp2_with (have zz := tok2; clear zz tok2; refine wpList_stS [] K1 rfl 53 (.tmp 4) (.tmp 13) rfl rfl (cs := [.int .u32 0, .int .i64 0]) rfl (by kernel_rfl) rfl (ses_one 0 0) ?_; intro wa Ka; dsimp only [List.nil_append, List.cons_append] at Ka; clear K1)
    refine bodyPost_ret (v := .tuple #[ses 0 0, .int .i64 2]) (results_row_tmp rfl _ _ g4 53 #[.int .u32 0, .int .i64 0] (0, 0) _ rfl (Ka.blk (g := g4) (e := 53) (cs := [.int .u32 0, .int .i64 0]) (List.Mem.head _)) Tryd.underlying53 rfl (by kernel_rfl) rfl) rfl ⟨by rw [HE.out.1, HE.out.2], Ka.toExt⟩
end Go.Proofs.YtamlngdjbmndlaaDoor
namespace Go.Proofs.YtamlngdjbmndlaaDoor
open Go.RowKit Go.Gr
set_option linter.unusedVariables false
set_option linter.unusedSimpArgs false
end Go.Proofs.YtamlngdjbmndlaaDoor
namespace Go.Proofs.YtamlngdjbmndlaaDoor
open Go.RowKit Go.Gr
set_option linter.unusedVariables false
set_option linter.unusedSimpArgs false
theorem open_zero {key b : List Int} (hb : isB b) (h : openE key b = 0) : openV key b = (decO (b.take 12), decU (b.take 12)) ∧ (0 ≤ decU (b.take 12) ∧ decU (b.take 12) < 9223372036854775808) ∧ (0 ≤ decO (b.take 12) ∧ decO (b.take 12) < 4294967296) := by
  refine ⟨by unfold openV; rw [if_pos h], ?_⟩
  have hp : parseE b = 0 := by
    unfold openE at h
    split at h
    · split at h
      · rename_i h1; exact h1
      · cases h
    · cases h
  obtain ⟨h44, hd⟩ := parseE_zero hp
  obtain ⟨h12, hlt⟩ := decE_zero hd
  exact ⟨⟨(decU_range (isB_take hb 12) h12).1, hlt⟩, decO_range (isB_take hb 12) h12⟩
theorem openE_cases (key b : List Int) : openE key b = 0 ∨ openE key b = 2 ∨ openE key b = 11 ∨ openE key b = 12 := by
  unfold openE
  split
  · split
    · split <;> simp
    · simp
  · simp
theorem open_bad {key b : List Int} (h : openE key b ≠ 0) : openV key b = (0, 0) := by unfold openV; rw [if_neg h]
end Go.Proofs.YtamlngdjbmndlaaDoor
namespace Go.Proofs.YtamlngdjbmndlaaDoor
open Go.RowKit Go.Gr
set_option linter.unusedVariables false
set_option linter.unusedSimpArgs false
theorem str_of {w : World} {A : Option Addr} {l : List Int} (c : Nat) (h : Rd w A (byt l)) : (convert 26 9 (.slice A l.length c)).run Tryd.prog w = .ok (.string (strOfNums l)) w := by
  cases A with
  | none =>
    cases l with
    | nil => exact run_convert_bytes_nil w 26 5 Tryd.underlying26 Tryd.underlying5 0 c 9 Tryd.underlying9
    | cons x t =>
      obtain ⟨ad, e, _⟩ := h.at_ (k := 0) (by simp)
      cases e
  | some ad =>
    have hl : (loadCells ad l.length).run Tryd.prog w = .ok (l.map (Value.int .u8)).toArray w := by
      have := run_loadCells_list (P := Tryd.prog) w ad (l.map (Value.int .u8)) (fun j v hj => by
        obtain ⟨ad', e, hc⟩ := h j v hj
        cases e; exact hc)
      simpa using this
    rw [run_convert_bytes_string w 26 9 5 _ l.length c Tryd.underlying26 Tryd.underlying5 Tryd.underlying9, run_bytesToString w _ _ c l hl, foldl_push_bytes]
    simp [strOfNums, ByteArray.empty, ByteArray.emptyWithCapacity]
    rfl
def tokX : List Int := tokB [107] (recB 7 300)
theorem tokX_len : tokX.length = 44 := tokB_len (recB_len _ _)
theorem tokX_isB : isB tokX := tokB_isB (recB_isB _ _)
theorem k107 : keyOk [107] := by unfold keyOk; decide
theorem tokX_open : openE [107] tokX = 0 ∧ openV [107] tokX = (7, 300) := open_issue k107 (by decide) (by decide)
theorem tokX_dec : decO (tokX.take 12) = 7 ∧ decU (tokX.take 12) = 300 := by
  unfold tokX
  rw [tokB_take (recB_len _ _)]
  exact dec_rec (by decide) (by decide)
theorem tokX_parse : parseE tokX = 0 := by
  have h := tokX_open.1
  rcases parseE_two tokX with h0 | h0
  · exact h0
  · unfold openE at h
    rw [if_pos k107, if_neg (by rw [h0]; decide)] at h
    cases h
theorem tokX_a299 : acceptE [107] tokX 299 = 0 ∧ acceptV [107] tokX 299 = (7, 300) := by
  have h : acceptE [107] tokX 299 = 0 := by unfold acceptE; rw [if_pos tokX_open.1, tokX_dec.2]; decide
  exact ⟨h, by unfold acceptV; rw [if_pos h, tokX_dec.1, tokX_dec.2]⟩
theorem tokX_a300 : acceptE [107] tokX 300 = 13 ∧ acceptV [107] tokX 300 = (0, 0) := by
  have h : acceptE [107] tokX 300 = 13 := by unfold acceptE; rw [if_pos tokX_open.1, tokX_dec.2]; decide
  exact ⟨h, by unfold acceptV; rw [if_neg (by rw [h]; decide)]⟩
theorem tok_differ : tokT [106] (recB 7 300) ≠ tokT [107] (recB 7 300) := by decide +kernel
theorem tokX_j : openE [106] tokX = 12 ∧ openV [106] tokX = (0, 0) := by
  have h : openE [106] tokX = 12 := by
    unfold openE
    rw [if_pos (show keyOk [106] by unfold keyOk; decide), if_pos tokX_parse, if_neg]
    unfold tokX
    rw [tokB_take (recB_len _ _), tokB_drop (recB_len _ _)]
    exact tok_differ
  exact ⟨h, open_bad (by rw [h]; decide)⟩
theorem tokX_43 : openE [107] (tokX.take 43) = 11 ∧ openV [107] (tokX.take 43) = (0, 0) := by
  have h : openE [107] (tokX.take 43) = 11 := by
    have hp : parseE (tokX.take 43) = 11 := by unfold parseE; rw [if_neg (by rw [List.length_take, tokX_len]; decide)]
    unfold openE
    rw [if_pos k107, if_neg (by rw [hp]; decide)]
  exact ⟨h, open_bad (by rw [h]; decide)⟩
theorem tokX_nil : openE [] tokX = 2 ∧ openV [] tokX = (0, 0) := by
  have h : openE [] tokX = 2 := by unfold openE; rw [if_neg (by unfold keyOk; decide)]
  exact ⟨h, open_bad (by rw [h]; decide)⟩
theorem s_enc (x : World) : Calls Tryd.prog 38 #[ses 7 300] x (RetS x [0, 0, 0, 7, 0, 0, 0, 0, 0, 0, 1, 44] 0) := by
  have h := enc_any 7 300 x (by decide) (by decide)
  rw [show encB 7 300 = [0, 0, 0, 7, 0, 0, 0, 0, 0, 0, 1, 44] by decide, show encE 300 = 0 from rfl] at h
  exact h
theorem s_issue (g : Nat) (x : World) (hl : Laid x) (hr : Rd x (some ⟨g, 0, none⟩) (byt [107])) : Calls Tryd.prog 23 #[.slice (some ⟨g, 0, none⟩) 1 1, ses 7 300] x (RetS x tokX 0) := by
  have h := issue_any [107] (some ⟨g, 0, none⟩) 1 7 300 x hl hr (by unfold isB; decide) (by decide) (by decide) (by decide) (by decide)
  rw [show issueB [107] 7 300 = tokX by unfold issueB; rw [if_pos k107, if_neg (by decide)]; rfl, show issueE [107] 300 = 0 by unfold issueE; rw [if_pos k107]; rfl] at h
  exact h
theorem s_open (g : Nat) (A : Option Addr) (c : Nat) (x : World) (hl : Laid x) (hr : Rd x (some ⟨g, 0, none⟩) (byt [107])) (hb : Rd x A (byt tokX)) (hc : 44 ≤ c) : Calls Tryd.prog 24 #[.slice (some ⟨g, 0, none⟩) 1 1, .slice A 44 c] x fun e w' => e = .returned (.tuple #[ses 7 300, .int .i64 0]) ∧ Ext x w' := by
  have h := open_any [107] tokX (some ⟨g, 0, none⟩) 1 A c x hl hr (by unfold isB; decide) (by decide) (by decide) hb tokX_isB (by rw [tokX_len]; exact hc) (by rw [tokX_len]; decide)
  rw [tokX_open.1, tokX_open.2, tokX_len] at h
  exact h
theorem s_openj (g : Nat) (A : Option Addr) (c : Nat) (x : World) (hl : Laid x) (hr : Rd x (some ⟨g, 0, none⟩) (byt [106])) (hb : Rd x A (byt tokX)) (hc : 44 ≤ c) : Calls Tryd.prog 24 #[.slice (some ⟨g, 0, none⟩) 1 1, .slice A 44 c] x fun e w' => e = .returned (.tuple #[ses 0 0, .int .i64 12]) ∧ Ext x w' := by
  have h := open_any [106] tokX (some ⟨g, 0, none⟩) 1 A c x hl hr (by unfold isB; decide) (by decide) (by decide) hb tokX_isB (by rw [tokX_len]; exact hc) (by rw [tokX_len]; decide)
  rw [tokX_j.1, tokX_j.2, tokX_len] at h
  exact h
theorem s_open43 (g : Nat) (A : Option Addr) (c : Nat) (x : World) (hl : Laid x) (hr : Rd x (some ⟨g, 0, none⟩) (byt [107])) (hb : Rd x A (byt tokX)) (hc : 44 ≤ c) : Calls Tryd.prog 24 #[.slice (some ⟨g, 0, none⟩) 1 1, .slice A 43 c] x fun e w' => e = .returned (.tuple #[ses 0 0, .int .i64 11]) ∧ Ext x w' := by
  have hl43 : (tokX.take 43).length = 43 := by rw [List.length_take, tokX_len]; rfl
  have h := open_any [107] (tokX.take 43) (some ⟨g, 0, none⟩) 1 A c x hl hr (by unfold isB; decide) (by decide) (by decide) (rd_take hb 43) (isB_take tokX_isB 43) (by omega) (by omega)
  rw [tokX_43.1, tokX_43.2, hl43] at h
  exact h
theorem s_opennil (A : Option Addr) (c : Nat) (x : World) (hl : Laid x) (hb : Rd x A (byt tokX)) (hc : 44 ≤ c) : Calls Tryd.prog 24 #[.slice none 0 0, .slice A 44 c] x fun e w' => e = .returned (.tuple #[ses 0 0, .int .i64 2]) ∧ Ext x w' := by
  have h := open_any [] tokX none 0 A c x hl (Rd.nil _ _) (by unfold isB; simp) (by decide) (by decide) hb tokX_isB (by rw [tokX_len]; exact hc) (by rw [tokX_len]; decide)
  rw [tokX_nil.1, tokX_nil.2, tokX_len] at h
  exact h
end Go.Proofs.YtamlngdjbmndlaaDoor
namespace Go.Proofs.YtamlngdjbmndlaaDoor
open Go.RowKit Go.Gr
set_option linter.unusedVariables false
set_option linter.unusedSimpArgs false
end Go.Proofs.YtamlngdjbmndlaaDoor
