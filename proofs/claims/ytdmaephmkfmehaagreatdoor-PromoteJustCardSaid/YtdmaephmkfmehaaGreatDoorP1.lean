/- Promote: awake. -/
import Derived.Test.YtdmaephmkfmehaaGreatDoorP0
import Derived.Deep.CutBlock
import Derived.Deep.DeepCutAuto
namespace Go.Proofs.YtdmaephmkfmehaaGreatDoor
open Go.RowKit Go.Gr Go.Hp Go.Ad Go.Wl Go.Pm
set_option linter.unusedVariables false
set_option linter.unusedSimpArgs false
attribute [local go_sem] rdOp rdAt rdUpon Cls forall_fr
def exW : List (List Int) := [[7, 8], []]
def exS : List Int := [5, 3, 0, 1]
def exHe : List Ho := [⟨1, 9⟩, ⟨2, 21⟩, ⟨4, 20⟩]
def exOut : List Ho := [⟨1, 9⟩, ⟨4, 20⟩]
def exF : List Sp := [⟨1, 0, 7⟩, ⟨1, 0, 8⟩, ⟨3, 0, 8⟩]
def exA1 : An := ⟨[], [⟨3, 0, 7, 30⟩, ⟨0, 0, 8, 30⟩], [[], []], [5, 1]⟩
def exA2 : An := ⟨exOut, [⟨1, 0, 7, 30⟩, ⟨4, 0, 8, 30⟩], [[], []], []⟩
theorem ex_offE : offE exH exW exS 20 = 0 := by kernel_rfl
theorem ex_offA : offA exH exW exS 20 = exA1 := by kernel_rfl
theorem ex_opE : opE exH exW 20 = 0 := by kernel_rfl
theorem ex_endA : endA 0 exH exW 20 exOut = exA2 := by kernel_rfl
theorem ex_fair : fairE exH exF = (2, 7) := by kernel_rfl
theorem ex_ld : ldE (sumS exH.secs : Nat) exHe = 0 := by
  unfold ldE
  rw [if_neg (by decide), if_neg (by decide), if_neg (by decide), if_neg]
  intro h
  apply h
  intro i x y hx hy
  rcases i with _ | _ | _ | i
  · cases hx; cases hy; decide
  · cases hx; cases hy; decide
  · cases hy
  · cases hx
theorem ex_endE : endE exH exW exHe 20 = 0 := by rw [endE_go ex_opE, ex_ld]
theorem ex_due {out : List Ho} (h : IsDue 20 exHe out) : out = exOut := by
  refine isDue_one h ⟨[⟨2, 21⟩], ?_, ?_, ?_, ?_⟩
  · exact List.Perm.cons _ (List.Perm.swap _ _ _)
  · intro x hx
    simp only [exOut, List.mem_cons, List.not_mem_nil, or_false] at hx
    rcases hx with rfl | rfl <;> decide
  · intro x hx
    simp only [List.mem_cons, List.not_mem_nil, or_false] at hx
    subst hx; decide
  · refine List.pairwise_cons.2 ⟨fun x hx => ?_, List.pairwise_singleton _ _⟩
    rw [List.mem_singleton] at hx
    subst hx
    exact .inl (by decide)
theorem ex_rows : ∀ r ∈ exW, r.length ≤ 1000000 ∧ ∀ x ∈ r, 0 ≤ x ∧ x < 4294967296 := by decide
theorem ex_few1 : exA1.few := ⟨by decide, by decide, by decide, by decide, by decide⟩
theorem ex_few2 : exA2.few := ⟨by decide, by decide, by decide, by decide, by decide⟩
theorem rd_flat {w : World} {g : Nat} {e : TypeId} {k : Nat} {rows : List (List Value)} (hl : ∀ r ∈ rows, r.length = k) (h : Blk w g e rows.flatten) : RdM w (some ⟨g, 0, none⟩) k rows := by
  intro i r hr
  refine ⟨_, rfl, fun j u hu => ?_⟩
  have hadd : (⟨g, 0, none⟩ : Addr).add (i * k + j) = ⟨g, i * k + j, none⟩ := by unfold Addr.add; split <;> simp_all
  rw [hadd, h.cell, flatten_get hl i j hr hu]
theorem hoV_l (l : List Ho) : ∀ r ∈ hoV l, r.length = 2 := fun r hr => by
  obtain ⟨x, _, rfl⟩ := List.mem_map.1 hr
  rfl
theorem spV_l (l : List Sp) : ∀ r ∈ spV l, r.length = 3 := fun r hr => by
  obtain ⟨x, _, rfl⟩ := List.mem_map.1 hr
  rfl
theorem nil_rows {w : World} {gw : Nat} (h0 : Blk w gw 47 [.slice none 0 0, .slice none 0 0]) : (AsRows (some ⟨gw, 0, none⟩) [.slice none 0 0, .slice none 0 0] [[], []]).p w := by
  refine ⟨Blk.rd h0, rfl, fun j v r hv hr => ?_⟩
  rcases j with _ | _ | j
  · simp only [List.getElem?_cons_zero, Option.some.injEq] at hv hr
    subst hv hr
    exact ⟨none, 0, rfl, Nat.le_refl _, rd_nil _ _⟩
  · simp only [List.getElem?_cons_succ, List.getElem?_cons_zero, Option.some.injEq] at hv hr
    subst hv hr
    exact ⟨none, 0, rfl, Nat.le_refl _, rd_nil _ _⟩
  · simp at hr
/-- a result that is kept: where, and what it says -/
def Kept (w1 : World) (gv : Nat) (csv : List Value) (gr : Nat) (a : An) (L : List As) (wx : World) : Prop := ∃ (E G B F : Option Addr) (ce cg cb cf : Nat) (Fp : Nat → Prop), Sep No w1 wx L ∧ As.blk gr 34 (rsC E G B F a.en.length a.gr.length a.rows.length a.fr.length ce cg cb cf) ∈ L ∧ As.res true (.agg (rsC E G B F a.en.length a.gr.length a.rows.length a.fr.length ce cg cb cf).toArray) a Fp ∈ L ∧ As.blk gv 24 csv ∈ L

set_option maxRecDepth 100000 in
set_option maxHeartbeats 16000000 in
theorem pawake_any (w : World) : Calls Tryz.prog 11 #[] w fun e w' => e = .returned (.bool true) ∧ Ext w w' := by
  go_enter Tryz.func11, Tryz.ntmps11
  go_wp2_with fail
  (with_reducible refine (ex15p w).mono ?_)
  rintro e w1 ⟨g, ga1, gb1, rfl, hS⟩
  have HX1 := hide hS.toExt
  have HSEC := hide (fun (y : World) (k : Ext w1 y) => (exH_secs ((hS.ext k).blk (List.Mem.head _)) ((hS.ext k).blk (List.Mem.tail _ (List.Mem.tail _ (List.Mem.head _)))) ((hS.ext k).blk (List.Mem.tail _ (List.Mem.head _)))))
  have HOF := hide (fun (gw g1 gb : Nat) (y : World) (k : Ext w1 y) (h0 : Blk y gw 47 (wtC g1)) (h1 : Blk y g1 41 [.int .u32 7, .int .u32 8]) (h2 : Blk y gb 3 (i64s exS)) => poffer_any exH (some ⟨g, 0, none⟩) 2 exW (some ⟨gw, 0, none⟩) (wtC g1) 2 exS (some ⟨gb, 0, none⟩) 4 20 y (HSEC.out y k) (by decide) exH_w (wt_rows h0 h1) (by decide) ex_rows (by decide) (Blk.rd h2) (by decide) (by decide) (by decide))
  have HEN := hide (fun (gw g1 gb : Nat) (y : World) (k : Ext w1 y) (h0 : Blk y gw 47 (wtC g1)) (h1 : Blk y g1 41 [.int .u32 7, .int .u32 8]) (h2 : Blk y gb 39 (hoV exHe).flatten) => pends_any exH (some ⟨g, 0, none⟩) 2 exW (some ⟨gw, 0, none⟩) (wtC g1) 2 exHe (some ⟨gb, 0, none⟩) 3 20 y (HSEC.out y k) (by decide) exH_w (wt_rows h0 h1) (by decide) ex_rows (by decide) (rd_flat (hoV_l _) h2) (by intro x hx; simp only [exHe, List.mem_cons, List.not_mem_nil, or_false] at hx; rcases hx with rfl | rfl | rfl <;> exact ⟨by decide, by decide, by decide, by decide⟩) (by decide) (by decide))
  have HFA := hide (fun (gb : Nat) (y : World) (k : Ext w1 y) (h2 : Blk y gb 49 (spV exF).flatten) => pfair_any exH (some ⟨g, 0, none⟩) 2 exF (some ⟨gb, 0, none⟩) 3 y (HSEC.out y k) (by decide) exH_w (rd_flat (spV_l _) h2) (by decide) (by decide) (by decide))
  rw [ex_offE, ex_offA, show exW.length = 2 from rfl, show exS.length = 4 from rfl] at HOF
  rw [show exW.length = 2 from rfl, show exHe.length = 3 from rfl] at HEN
  rw [ex_fair, show exF.length = 3 from rfl] at HFA
  have K0 := Sep.refl No w1
  clear hS
  have tok1 : True := trivial
  have tok2 : True := trivial
  go_upto_region 2 with (first
    | (have zz := tok1; clear zz tok1; refine wpList_alS K0 rfl 24 rfl [.int .i64 0, .int .i64 0, .int .i64 0, .slice none 0 0] (by kernel_rfl) ?_; intro w2 hz2 K1; clear hz2 K0)
    | (have zz := tok2; clear zz tok2; refine wpList_stS [] K1 rfl 24 (.tmp 1) (.tmp 10) rfl rfl (cs := vnC exH (some ⟨g, 0, none⟩) 2) rfl (by kernel_rfl) rfl (rsC_one rfl rfl rfl rfl) ?_; intro w3 K2; dsimp only [List.nil_append] at K2; clear K1))
  obtain ⟨gv, GV⟩ : ∃ g, w1.heap.size = g := ⟨_, rfl⟩
  rw [GV] at K2 ⊢
  clear GV
  have K3 := hide K2
  clear K2
  try go_frame
  go_cut [2, 3] (fun v2 v3 wx => v3 = .int .i64 0 ∧ ∃ (gr : Nat) (L : List As), v2 = .pointer (some ⟨gr, 0, none⟩) ∧ Kept w1 gv (vnC exH (some ⟨g, 0, none⟩) 2) gr exA1 L wx)
  case first =>
    have KD := K3.out.drew
    refine wp_region_wb (RT.up w3.drew.heap.size) (by kernel_rfl) ?_
    clear K3
    generalize World.drew _ = wd at *
    obtain ⟨SBa, hSB⟩ : ∃ s, wd.heap.size = s := ⟨_, rfl⟩
    have hlwd : SBa ≤ wd.heap.size := Nat.le_of_eq hSB.symm
    have hbv := KD.blk (g := gv) (e := 24) (List.Mem.head _)
    have hgv : gv < SBa := by rw [← hSB]; exact hbv.lt
    rw [hSB]
    refine wb_rd (i := 0) rfl rfl (by kernel_rfl) (by kernel_rfl) (fun K hK => ?_)
    rw [if_pos (show Region.wanted _ _ = true from rfl)]
    refine rdOp_ldX 24 (.tmp 1) rfl (fun w' h' => hbv.at5.fr h' (by show ¬ SBa ≤ gv; omega)) rfl _ Tryz.underlying24 rfl (by kernel_rfl) ?_
    go_simp
    refine hK _ ?_
    clear hK K hbv hgv hSB
    refine wb_3 1 2 7 (by kernel_rfl) ?_ ?_ ?_
    · skip
      refine wbi rfl (fun K hK => ?_)
      go_simp
      go_at_call 22
      (with_reducible refine (waiting_any _).mono ?_)
      rintro e wa_1 ⟨gw, g1, rfl, hS⟩
      refine hK _ _ (hS.toExt.up _) ?_
      clear hK K
      have Ka_1 := KD.joinW hS
      dsimp only [List.cons_append, List.nil_append] at Ka_1
      have hlwa_1 := Nat.le_trans hlwd hS.toExt.size
      clear KD hS
      refine wb_2 2 7 (by kernel_rfl) ?_ ?_
      · skip
        refine wbi rfl (fun K hK => ?_)
        go_simp
        refine hK _ _ (((Ext.refl wa_1).alloc _).up _) ?_
        clear hK K
        generalize hwb : World.alloc wa_1 _ = wa_2
        have Ka_2 := Ka_1.add 3 (i64s exS)
        have hlwa_2 := Nat.le_trans hlwa_1 ((Ext.refl wa_1).alloc (.cells (i64s exS).toArray 3)).size
        rw [show World.alloc wa_1 (.cells (i64s exS).toArray 3) = wa_2 from hwb] at Ka_2 hlwa_2
        obtain ⟨gb, hgb⟩ : ∃ g, wa_1.heap.size = g := ⟨_, rfl⟩
        rw [hgb] at Ka_2 ⊢
        clear hgb hwb Ka_1
        refine wb_2 3 7 (by kernel_rfl) ?_ ?_
        · skip
          refine wbi rfl (fun K hK => ?_)
          go_simp
          go_at_call 14
          (with_reducible refine (HOF.out gw g1 gb _ Ka_2.toExt (Ka_2.blk (List.Mem.tail _ (List.Mem.head _))) (Ka_2.blk (List.Mem.tail _ (List.Mem.tail _ (List.Mem.head _)))) (Ka_2.blk (List.Mem.head _))).mono ?_)
          rintro e wa_3 ⟨x, F, rfl, hS⟩
          obtain ⟨E, G, B, Fr', ce, cg, cb, cf, vs, rfl, -⟩ := res_get (hS.get (List.Mem.head _))
          refine hK _ _ (hS.toExt.up _) ?_
          clear hK K
          have Ka_3 := Ka_2.joinW hS
          dsimp only [List.cons_append, List.nil_append] at Ka_3
          have hlwa_3 := Nat.le_trans hlwa_2 hS.toExt.size
          clear Ka_2 hS
          refine wb_rd (i := 4) rfl rfl (by kernel_rfl) (by kernel_rfl) (fun K hK => ?_); go_simp; refine hK _ ?_; clear hK K
          refine wb_rd (i := 5) rfl rfl (by kernel_rfl) (by kernel_rfl) (fun K hK => ?_); go_simp; refine hK _ ?_; clear hK K
          refine wb_rd (i := 6) rfl rfl (by kernel_rfl) (by kernel_rfl) (fun K hK => ?_); go_simp; refine hK _ ?_; clear hK K
          refine wb_1 7 (by kernel_rfl) ?_
          refine wbi rfl (fun K hK => ?_)
          rw [if_pos (show Region.wanted _ _ = true from rfl)]
          refine wp_alS Ka_3 34 rfl (rsC none none none none 0 0 0 0 0 0 0 0) (by kernel_rfl) (fun wa_4 hz hx Ka_4 => ?_)
          refine hK _ _ (hx.up _) ?_
          have hlwa_4 := Nat.le_trans hlwa_3 hx.size
          obtain ⟨ga, hga⟩ : ∃ g, wa_3.heap.size = g := ⟨_, rfl⟩
          have hgb : SBa ≤ ga := by rw [← hga]; exact hlwa_3
          rw [hga] at Ka_4 ⊢
          clear hK K hx hz hga Ka_3
          refine wb_1 8 (by kernel_rfl) (wbi rfl (fun K hK => ?_))
          rw [if_pos (show Region.wanted _ _ = true from rfl)]
          refine wp_stS [] Ka_4 34 (.tmp 2) (.tmp 16) rfl (cs := rsC E G B Fr' exA1.en.length exA1.gr.length exA1.rows.length exA1.fr.length ce cg cb cf) rfl rfl (by kernel_rfl) rfl (rsC_one rfl rfl rfl rfl) (fun wa_5 Ka_5 hu => ?_)
          refine hK _ _ (hu.up hgb) ?_
          clear hK K hu Ka_4
          dsimp only [List.cons_append, List.nil_append] at Ka_5
          refine wb_rd (i := 9) rfl rfl (by kernel_rfl) (by kernel_rfl) (fun K hK => ?_); go_simp; refine hK _ ?_; clear hK K
          refine wb_nil (by kernel_rfl) ?_
          go_wp2_with fail
          go_meet
          case rel => exact ⟨rfl, ga, _, rfl, E, G, B, Fr', ce, cg, cb, cf, _, Ka_5, (List.Mem.head _), (List.Mem.tail _ (List.Mem.head _)), (List.Mem.tail _ (List.Mem.tail _ (List.Mem.tail _ (List.Mem.tail _ (List.Mem.tail _ (List.Mem.head _))))))⟩
        · skip
          refine wbi rfl (fun K hK => ?_)
          rw [if_pos (show Region.wanted _ _ = true from rfl)]
          refine wp_alS Ka_2 34 rfl (rsC none none none none 0 0 0 0 0 0 0 0) (by kernel_rfl) (fun wa_6 hz hx Ka_6 => ?_)
          refine hK _ _ (hx.up _) ?_
          have hlwa_6 := Nat.le_trans hlwa_2 hx.size
          obtain ⟨ga, hga⟩ : ∃ g, wa_2.heap.size = g := ⟨_, rfl⟩
          have hgb : SBa ≤ ga := by rw [← hga]; exact hlwa_2
          rw [hga] at Ka_6 ⊢
          clear hK K hx hz hga Ka_2
          refine wb_1 3 (by kernel_rfl) ?_
          refine wbi rfl (fun K hK => ?_)
          go_simp
          go_at_call 14
          (with_reducible refine (HOF.out gw g1 gb _ Ka_6.toExt (Ka_6.blk (List.Mem.tail _ (List.Mem.tail _ (List.Mem.head _)))) (Ka_6.blk (List.Mem.tail _ (List.Mem.tail _ (List.Mem.tail _ (List.Mem.head _))))) (Ka_6.blk (List.Mem.tail _ (List.Mem.head _)))).mono ?_)
          rintro e wa_7 ⟨x, F, rfl, hS⟩
          obtain ⟨E, G, B, Fr', ce, cg, cb, cf, vs, rfl, -⟩ := res_get (hS.get (List.Mem.head _))
          refine hK _ _ (hS.toExt.up _) ?_
          clear hK K
          have Ka_7 := Ka_6.joinW hS
          dsimp only [List.cons_append, List.nil_append] at Ka_7
          have hlwa_7 := Nat.le_trans hlwa_6 hS.toExt.size
          clear Ka_6 hS
          refine wb_rd (i := 4) rfl rfl (by kernel_rfl) (by kernel_rfl) (fun K hK => ?_); go_simp; refine hK _ ?_; clear hK K
          refine wb_rd (i := 5) rfl rfl (by kernel_rfl) (by kernel_rfl) (fun K hK => ?_); go_simp; refine hK _ ?_; clear hK K
          refine wb_rd (i := 6) rfl rfl (by kernel_rfl) (by kernel_rfl) (fun K hK => ?_); go_simp; refine hK _ ?_; clear hK K
          refine wb_1 8 (by kernel_rfl) (wbi rfl (fun K hK => ?_))
          rw [if_pos (show Region.wanted _ _ = true from rfl)]
          refine wp_stS [_] Ka_7 34 (.tmp 2) (.tmp 16) rfl (cs := rsC E G B Fr' exA1.en.length exA1.gr.length exA1.rows.length exA1.fr.length ce cg cb cf) rfl rfl (by kernel_rfl) rfl (rsC_one rfl rfl rfl rfl) (fun wa_8 Ka_8 hu => ?_)
          refine hK _ _ (hu.up hgb) ?_
          clear hK K hu Ka_7
          dsimp only [List.cons_append, List.nil_append] at Ka_8
          refine wb_rd (i := 9) rfl rfl (by kernel_rfl) (by kernel_rfl) (fun K hK => ?_); go_simp; refine hK _ ?_; clear hK K
          refine wb_nil (by kernel_rfl) ?_
          go_wp2_with fail
          go_meet
          case rel => exact ⟨rfl, ga, _, rfl, E, G, B, Fr', ce, cg, cb, cf, _, Ka_8, (List.Mem.tail _ (List.Mem.head _)), (List.Mem.head _), (List.Mem.tail _ (List.Mem.tail _ (List.Mem.tail _ (List.Mem.tail _ (List.Mem.tail _ (List.Mem.head _))))))⟩
      · skip
        refine wbi rfl (fun K hK => ?_)
        rw [if_pos (show Region.wanted _ _ = true from rfl)]
        refine wp_alS Ka_1 34 rfl (rsC none none none none 0 0 0 0 0 0 0 0) (by kernel_rfl) (fun wa_9 hz hx Ka_9 => ?_)
        refine hK _ _ (hx.up _) ?_
        have hlwa_9 := Nat.le_trans hlwa_1 hx.size
        obtain ⟨ga, hga⟩ : ∃ g, wa_1.heap.size = g := ⟨_, rfl⟩
        have hgb : SBa ≤ ga := by rw [← hga]; exact hlwa_1
        rw [hga] at Ka_9 ⊢
        clear hK K hx hz hga Ka_1
        refine wb_1 2 (by kernel_rfl) ?_
        refine wbi rfl (fun K hK => ?_)
        go_simp
        refine hK _ _ (((Ext.refl wa_9).alloc _).up _) ?_
        clear hK K
        generalize hwb : World.alloc wa_9 _ = wa_10
        have Ka_10 := Ka_9.add 3 (i64s exS)
        have hlwa_10 := Nat.le_trans hlwa_9 ((Ext.refl wa_9).alloc (.cells (i64s exS).toArray 3)).size
        rw [show World.alloc wa_9 (.cells (i64s exS).toArray 3) = wa_10 from hwb] at Ka_10 hlwa_10
        obtain ⟨gb, hgb⟩ : ∃ g, wa_9.heap.size = g := ⟨_, rfl⟩
        rw [hgb] at Ka_10 ⊢
        clear hgb hwb Ka_9
        refine wb_1 3 (by kernel_rfl) ?_
        refine wbi rfl (fun K hK => ?_)
        go_simp
        go_at_call 14
        (with_reducible refine (HOF.out gw g1 gb _ Ka_10.toExt (Ka_10.blk (List.Mem.tail _ (List.Mem.tail _ (List.Mem.head _)))) (Ka_10.blk (List.Mem.tail _ (List.Mem.tail _ (List.Mem.tail _ (List.Mem.head _))))) (Ka_10.blk (List.Mem.head _))).mono ?_)
        rintro e wa_11 ⟨x, F, rfl, hS⟩
        obtain ⟨E, G, B, Fr', ce, cg, cb, cf, vs, rfl, -⟩ := res_get (hS.get (List.Mem.head _))
        refine hK _ _ (hS.toExt.up _) ?_
        clear hK K
        have Ka_11 := Ka_10.joinW hS
        dsimp only [List.cons_append, List.nil_append] at Ka_11
        have hlwa_11 := Nat.le_trans hlwa_10 hS.toExt.size
        clear Ka_10 hS
        refine wb_rd (i := 4) rfl rfl (by kernel_rfl) (by kernel_rfl) (fun K hK => ?_); go_simp; refine hK _ ?_; clear hK K
        refine wb_rd (i := 5) rfl rfl (by kernel_rfl) (by kernel_rfl) (fun K hK => ?_); go_simp; refine hK _ ?_; clear hK K
        refine wb_rd (i := 6) rfl rfl (by kernel_rfl) (by kernel_rfl) (fun K hK => ?_); go_simp; refine hK _ ?_; clear hK K
        refine wb_1 8 (by kernel_rfl) (wbi rfl (fun K hK => ?_))
        rw [if_pos (show Region.wanted _ _ = true from rfl)]
        refine wp_stS [_, _] Ka_11 34 (.tmp 2) (.tmp 16) rfl (cs := rsC E G B Fr' exA1.en.length exA1.gr.length exA1.rows.length exA1.fr.length ce cg cb cf) rfl rfl (by kernel_rfl) rfl (rsC_one rfl rfl rfl rfl) (fun wa_12 Ka_12 hu => ?_)
        refine hK _ _ (hu.up hgb) ?_
        clear hK K hu Ka_11
        dsimp only [List.cons_append, List.nil_append] at Ka_12
        refine wb_rd (i := 9) rfl rfl (by kernel_rfl) (by kernel_rfl) (fun K hK => ?_); go_simp; refine hK _ ?_; clear hK K
        refine wb_nil (by kernel_rfl) ?_
        go_wp2_with fail
        go_meet
        case rel => exact ⟨rfl, ga, _, rfl, E, G, B, Fr', ce, cg, cb, cf, _, Ka_12, (List.Mem.tail _ (List.Mem.tail _ (List.Mem.head _))), (List.Mem.head _), (List.Mem.tail _ (List.Mem.tail _ (List.Mem.tail _ (List.Mem.tail _ (List.Mem.tail _ (List.Mem.head _))))))⟩
    · skip
      refine wbi rfl (fun K hK => ?_)
      go_simp
      refine hK _ _ (((Ext.refl wd).alloc _).up _) ?_
      clear hK K
      generalize hwb : World.alloc wd _ = wa_13
      have Ka_13 := KD.add 3 (i64s exS)
      have hlwa_13 := Nat.le_trans hlwd ((Ext.refl wd).alloc (.cells (i64s exS).toArray 3)).size
      rw [show World.alloc wd (.cells (i64s exS).toArray 3) = wa_13 from hwb] at Ka_13 hlwa_13
      obtain ⟨gb, hgb⟩ : ∃ g, wd.heap.size = g := ⟨_, rfl⟩
      rw [hgb] at Ka_13 ⊢
      clear hgb hwb KD
      refine wb_2 1 7 (by kernel_rfl) ?_ ?_
      · skip
        refine wbi rfl (fun K hK => ?_)
        go_simp
        go_at_call 22
        (with_reducible refine (waiting_any _).mono ?_)
        rintro e wa_14 ⟨gw, g1, rfl, hS⟩
        refine hK _ _ (hS.toExt.up _) ?_
        clear hK K
        have Ka_14 := Ka_13.joinW hS
        dsimp only [List.cons_append, List.nil_append] at Ka_14
        have hlwa_14 := Nat.le_trans hlwa_13 hS.toExt.size
        clear Ka_13 hS
        refine wb_2 3 7 (by kernel_rfl) ?_ ?_
        · skip
          refine wbi rfl (fun K hK => ?_)
          go_simp
          go_at_call 14
          (with_reducible refine (HOF.out gw g1 gb _ Ka_14.toExt (Ka_14.blk (List.Mem.head _)) (Ka_14.blk (List.Mem.tail _ (List.Mem.head _))) (Ka_14.blk (List.Mem.tail _ (List.Mem.tail _ (List.Mem.head _))))).mono ?_)
          rintro e wa_15 ⟨x, F, rfl, hS⟩
          obtain ⟨E, G, B, Fr', ce, cg, cb, cf, vs, rfl, -⟩ := res_get (hS.get (List.Mem.head _))
          refine hK _ _ (hS.toExt.up _) ?_
          clear hK K
          have Ka_15 := Ka_14.joinW hS
          dsimp only [List.cons_append, List.nil_append] at Ka_15
          have hlwa_15 := Nat.le_trans hlwa_14 hS.toExt.size
          clear Ka_14 hS
          refine wb_rd (i := 4) rfl rfl (by kernel_rfl) (by kernel_rfl) (fun K hK => ?_); go_simp; refine hK _ ?_; clear hK K
          refine wb_rd (i := 5) rfl rfl (by kernel_rfl) (by kernel_rfl) (fun K hK => ?_); go_simp; refine hK _ ?_; clear hK K
          refine wb_rd (i := 6) rfl rfl (by kernel_rfl) (by kernel_rfl) (fun K hK => ?_); go_simp; refine hK _ ?_; clear hK K
          refine wb_1 7 (by kernel_rfl) ?_
          refine wbi rfl (fun K hK => ?_)
          rw [if_pos (show Region.wanted _ _ = true from rfl)]
          refine wp_alS Ka_15 34 rfl (rsC none none none none 0 0 0 0 0 0 0 0) (by kernel_rfl) (fun wa_16 hz hx Ka_16 => ?_)
          refine hK _ _ (hx.up _) ?_
          have hlwa_16 := Nat.le_trans hlwa_15 hx.size
          obtain ⟨ga, hga⟩ : ∃ g, wa_15.heap.size = g := ⟨_, rfl⟩
          have hgb : SBa ≤ ga := by rw [← hga]; exact hlwa_15
          rw [hga] at Ka_16 ⊢
          clear hK K hx hz hga Ka_15
          refine wb_1 8 (by kernel_rfl) (wbi rfl (fun K hK => ?_))
          rw [if_pos (show Region.wanted _ _ = true from rfl)]
          refine wp_stS [] Ka_16 34 (.tmp 2) (.tmp 16) rfl (cs := rsC E G B Fr' exA1.en.length exA1.gr.length exA1.rows.length exA1.fr.length ce cg cb cf) rfl rfl (by kernel_rfl) rfl (rsC_one rfl rfl rfl rfl) (fun wa_17 Ka_17 hu => ?_)
          refine hK _ _ (hu.up hgb) ?_
          clear hK K hu Ka_16
          dsimp only [List.cons_append, List.nil_append] at Ka_17
          refine wb_rd (i := 9) rfl rfl (by kernel_rfl) (by kernel_rfl) (fun K hK => ?_); go_simp; refine hK _ ?_; clear hK K
          refine wb_nil (by kernel_rfl) ?_
          go_wp2_with fail
          go_meet
          case rel => exact ⟨rfl, ga, _, rfl, E, G, B, Fr', ce, cg, cb, cf, _, Ka_17, (List.Mem.head _), (List.Mem.tail _ (List.Mem.head _)), (List.Mem.tail _ (List.Mem.tail _ (List.Mem.tail _ (List.Mem.tail _ (List.Mem.tail _ (List.Mem.head _))))))⟩
        · skip
          refine wbi rfl (fun K hK => ?_)
          rw [if_pos (show Region.wanted _ _ = true from rfl)]
          refine wp_alS Ka_14 34 rfl (rsC none none none none 0 0 0 0 0 0 0 0) (by kernel_rfl) (fun wa_18 hz hx Ka_18 => ?_)
          refine hK _ _ (hx.up _) ?_
          have hlwa_18 := Nat.le_trans hlwa_14 hx.size
          obtain ⟨ga, hga⟩ : ∃ g, wa_14.heap.size = g := ⟨_, rfl⟩
          have hgb : SBa ≤ ga := by rw [← hga]; exact hlwa_14
          rw [hga] at Ka_18 ⊢
          clear hK K hx hz hga Ka_14
          refine wb_1 3 (by kernel_rfl) ?_
          refine wbi rfl (fun K hK => ?_)
          go_simp
          go_at_call 14
          (with_reducible refine (HOF.out gw g1 gb _ Ka_18.toExt (Ka_18.blk (List.Mem.tail _ (List.Mem.head _))) (Ka_18.blk (List.Mem.tail _ (List.Mem.tail _ (List.Mem.head _)))) (Ka_18.blk (List.Mem.tail _ (List.Mem.tail _ (List.Mem.tail _ (List.Mem.head _)))))).mono ?_)
          rintro e wa_19 ⟨x, F, rfl, hS⟩
          obtain ⟨E, G, B, Fr', ce, cg, cb, cf, vs, rfl, -⟩ := res_get (hS.get (List.Mem.head _))
          refine hK _ _ (hS.toExt.up _) ?_
          clear hK K
          have Ka_19 := Ka_18.joinW hS
          dsimp only [List.cons_append, List.nil_append] at Ka_19
          have hlwa_19 := Nat.le_trans hlwa_18 hS.toExt.size
          clear Ka_18 hS
          refine wb_rd (i := 4) rfl rfl (by kernel_rfl) (by kernel_rfl) (fun K hK => ?_); go_simp; refine hK _ ?_; clear hK K
          refine wb_rd (i := 5) rfl rfl (by kernel_rfl) (by kernel_rfl) (fun K hK => ?_); go_simp; refine hK _ ?_; clear hK K
          refine wb_rd (i := 6) rfl rfl (by kernel_rfl) (by kernel_rfl) (fun K hK => ?_); go_simp; refine hK _ ?_; clear hK K
          refine wb_1 8 (by kernel_rfl) (wbi rfl (fun K hK => ?_))
          rw [if_pos (show Region.wanted _ _ = true from rfl)]
          refine wp_stS [_] Ka_19 34 (.tmp 2) (.tmp 16) rfl (cs := rsC E G B Fr' exA1.en.length exA1.gr.length exA1.rows.length exA1.fr.length ce cg cb cf) rfl rfl (by kernel_rfl) rfl (rsC_one rfl rfl rfl rfl) (fun wa_20 Ka_20 hu => ?_)
          refine hK _ _ (hu.up hgb) ?_
          clear hK K hu Ka_19
          dsimp only [List.cons_append, List.nil_append] at Ka_20
          refine wb_rd (i := 9) rfl rfl (by kernel_rfl) (by kernel_rfl) (fun K hK => ?_); go_simp; refine hK _ ?_; clear hK K
          refine wb_nil (by kernel_rfl) ?_
          go_wp2_with fail
          go_meet
          case rel => exact ⟨rfl, ga, _, rfl, E, G, B, Fr', ce, cg, cb, cf, _, Ka_20, (List.Mem.tail _ (List.Mem.head _)), (List.Mem.head _), (List.Mem.tail _ (List.Mem.tail _ (List.Mem.tail _ (List.Mem.tail _ (List.Mem.tail _ (List.Mem.head _))))))⟩
      · skip
        refine wbi rfl (fun K hK => ?_)
        rw [if_pos (show Region.wanted _ _ = true from rfl)]
        refine wp_alS Ka_13 34 rfl (rsC none none none none 0 0 0 0 0 0 0 0) (by kernel_rfl) (fun wa_21 hz hx Ka_21 => ?_)
        refine hK _ _ (hx.up _) ?_
        have hlwa_21 := Nat.le_trans hlwa_13 hx.size
        obtain ⟨ga, hga⟩ : ∃ g, wa_13.heap.size = g := ⟨_, rfl⟩
        have hgb : SBa ≤ ga := by rw [← hga]; exact hlwa_13
        rw [hga] at Ka_21 ⊢
        clear hK K hx hz hga Ka_13
        refine wb_1 1 (by kernel_rfl) ?_
        refine wbi rfl (fun K hK => ?_)
        go_simp
        go_at_call 22
        (with_reducible refine (waiting_any _).mono ?_)
        rintro e wa_22 ⟨gw, g1, rfl, hS⟩
        refine hK _ _ (hS.toExt.up _) ?_
        clear hK K
        have Ka_22 := Ka_21.joinW hS
        dsimp only [List.cons_append, List.nil_append] at Ka_22
        have hlwa_22 := Nat.le_trans hlwa_21 hS.toExt.size
        clear Ka_21 hS
        refine wb_1 3 (by kernel_rfl) ?_
        refine wbi rfl (fun K hK => ?_)
        go_simp
        go_at_call 14
        (with_reducible refine (HOF.out gw g1 gb _ Ka_22.toExt (Ka_22.blk (List.Mem.head _)) (Ka_22.blk (List.Mem.tail _ (List.Mem.head _))) (Ka_22.blk (List.Mem.tail _ (List.Mem.tail _ (List.Mem.tail _ (List.Mem.head _)))))).mono ?_)
        rintro e wa_23 ⟨x, F, rfl, hS⟩
        obtain ⟨E, G, B, Fr', ce, cg, cb, cf, vs, rfl, -⟩ := res_get (hS.get (List.Mem.head _))
        refine hK _ _ (hS.toExt.up _) ?_
        clear hK K
        have Ka_23 := Ka_22.joinW hS
        dsimp only [List.cons_append, List.nil_append] at Ka_23
        have hlwa_23 := Nat.le_trans hlwa_22 hS.toExt.size
        clear Ka_22 hS
        refine wb_rd (i := 4) rfl rfl (by kernel_rfl) (by kernel_rfl) (fun K hK => ?_); go_simp; refine hK _ ?_; clear hK K
        refine wb_rd (i := 5) rfl rfl (by kernel_rfl) (by kernel_rfl) (fun K hK => ?_); go_simp; refine hK _ ?_; clear hK K
        refine wb_rd (i := 6) rfl rfl (by kernel_rfl) (by kernel_rfl) (fun K hK => ?_); go_simp; refine hK _ ?_; clear hK K
        refine wb_1 8 (by kernel_rfl) (wbi rfl (fun K hK => ?_))
        rw [if_pos (show Region.wanted _ _ = true from rfl)]
        refine wp_stS [_, _, _] Ka_23 34 (.tmp 2) (.tmp 16) rfl (cs := rsC E G B Fr' exA1.en.length exA1.gr.length exA1.rows.length exA1.fr.length ce cg cb cf) rfl rfl (by kernel_rfl) rfl (rsC_one rfl rfl rfl rfl) (fun wa_24 Ka_24 hu => ?_)
        refine hK _ _ (hu.up hgb) ?_
        clear hK K hu Ka_23
        dsimp only [List.cons_append, List.nil_append] at Ka_24
        refine wb_rd (i := 9) rfl rfl (by kernel_rfl) (by kernel_rfl) (fun K hK => ?_); go_simp; refine hK _ ?_; clear hK K
        refine wb_nil (by kernel_rfl) ?_
        go_wp2_with fail
        go_meet
        case rel => exact ⟨rfl, ga, _, rfl, E, G, B, Fr', ce, cg, cb, cf, _, Ka_24, (List.Mem.tail _ (List.Mem.tail _ (List.Mem.tail _ (List.Mem.head _)))), (List.Mem.head _), (List.Mem.tail _ (List.Mem.tail _ (List.Mem.tail _ (List.Mem.tail _ (List.Mem.tail _ (List.Mem.head _))))))⟩
    · skip
      refine wbi rfl (fun K hK => ?_)
      rw [if_pos (show Region.wanted _ _ = true from rfl)]
      refine wp_alS KD 34 rfl (rsC none none none none 0 0 0 0 0 0 0 0) (by kernel_rfl) (fun wa_25 hz hx Ka_25 => ?_)
      refine hK _ _ (hx.up _) ?_
      have hlwa_25 := Nat.le_trans hlwd hx.size
      obtain ⟨ga, hga⟩ : ∃ g, wd.heap.size = g := ⟨_, rfl⟩
      have hgb : SBa ≤ ga := by rw [← hga]; exact hlwd
      rw [hga] at Ka_25 ⊢
      clear hK K hx hz hga KD
      refine wb_2 1 2 (by kernel_rfl) ?_ ?_
      · skip
        refine wbi rfl (fun K hK => ?_)
        go_simp
        go_at_call 22
        (with_reducible refine (waiting_any _).mono ?_)
        rintro e wa_26 ⟨gw, g1, rfl, hS⟩
        refine hK _ _ (hS.toExt.up _) ?_
        clear hK K
        have Ka_26 := Ka_25.joinW hS
        dsimp only [List.cons_append, List.nil_append] at Ka_26
        have hlwa_26 := Nat.le_trans hlwa_25 hS.toExt.size
        clear Ka_25 hS
        refine wb_1 2 (by kernel_rfl) ?_
        refine wbi rfl (fun K hK => ?_)
        go_simp
        refine hK _ _ (((Ext.refl wa_26).alloc _).up _) ?_
        clear hK K
        generalize hwb : World.alloc wa_26 _ = wa_27
        have Ka_27 := Ka_26.add 3 (i64s exS)
        have hlwa_27 := Nat.le_trans hlwa_26 ((Ext.refl wa_26).alloc (.cells (i64s exS).toArray 3)).size
        rw [show World.alloc wa_26 (.cells (i64s exS).toArray 3) = wa_27 from hwb] at Ka_27 hlwa_27
        obtain ⟨gb, hgb⟩ : ∃ g, wa_26.heap.size = g := ⟨_, rfl⟩
        rw [hgb] at Ka_27 ⊢
        clear hgb hwb Ka_26
        refine wb_1 3 (by kernel_rfl) ?_
        refine wbi rfl (fun K hK => ?_)
        go_simp
        go_at_call 14
        (with_reducible refine (HOF.out gw g1 gb _ Ka_27.toExt (Ka_27.blk (List.Mem.tail _ (List.Mem.head _))) (Ka_27.blk (List.Mem.tail _ (List.Mem.tail _ (List.Mem.head _)))) (Ka_27.blk (List.Mem.head _))).mono ?_)
        rintro e wa_28 ⟨x, F, rfl, hS⟩
        obtain ⟨E, G, B, Fr', ce, cg, cb, cf, vs, rfl, -⟩ := res_get (hS.get (List.Mem.head _))
        refine hK _ _ (hS.toExt.up _) ?_
        clear hK K
        have Ka_28 := Ka_27.joinW hS
        dsimp only [List.cons_append, List.nil_append] at Ka_28
        have hlwa_28 := Nat.le_trans hlwa_27 hS.toExt.size
        clear Ka_27 hS
        refine wb_rd (i := 4) rfl rfl (by kernel_rfl) (by kernel_rfl) (fun K hK => ?_); go_simp; refine hK _ ?_; clear hK K
        refine wb_rd (i := 5) rfl rfl (by kernel_rfl) (by kernel_rfl) (fun K hK => ?_); go_simp; refine hK _ ?_; clear hK K
        refine wb_rd (i := 6) rfl rfl (by kernel_rfl) (by kernel_rfl) (fun K hK => ?_); go_simp; refine hK _ ?_; clear hK K
        refine wb_1 8 (by kernel_rfl) (wbi rfl (fun K hK => ?_))
        rw [if_pos (show Region.wanted _ _ = true from rfl)]
        refine wp_stS [_, _, _, _] Ka_28 34 (.tmp 2) (.tmp 16) rfl (cs := rsC E G B Fr' exA1.en.length exA1.gr.length exA1.rows.length exA1.fr.length ce cg cb cf) rfl rfl (by kernel_rfl) rfl (rsC_one rfl rfl rfl rfl) (fun wa_29 Ka_29 hu => ?_)
        refine hK _ _ (hu.up hgb) ?_
        clear hK K hu Ka_28
        dsimp only [List.cons_append, List.nil_append] at Ka_29
        refine wb_rd (i := 9) rfl rfl (by kernel_rfl) (by kernel_rfl) (fun K hK => ?_); go_simp; refine hK _ ?_; clear hK K
        refine wb_nil (by kernel_rfl) ?_
        go_wp2_with fail
        go_meet
        case rel => exact ⟨rfl, ga, _, rfl, E, G, B, Fr', ce, cg, cb, cf, _, Ka_29, (List.Mem.tail _ (List.Mem.tail _ (List.Mem.tail _ (List.Mem.tail _ (List.Mem.head _))))), (List.Mem.head _), (List.Mem.tail _ (List.Mem.tail _ (List.Mem.tail _ (List.Mem.tail _ (List.Mem.tail _ (List.Mem.head _))))))⟩
      · skip
        refine wbi rfl (fun K hK => ?_)
        go_simp
        refine hK _ _ (((Ext.refl wa_25).alloc _).up _) ?_
        clear hK K
        generalize hwb : World.alloc wa_25 _ = wa_30
        have Ka_30 := Ka_25.add 3 (i64s exS)
        have hlwa_30 := Nat.le_trans hlwa_25 ((Ext.refl wa_25).alloc (.cells (i64s exS).toArray 3)).size
        rw [show World.alloc wa_25 (.cells (i64s exS).toArray 3) = wa_30 from hwb] at Ka_30 hlwa_30
        obtain ⟨gb, hgb⟩ : ∃ g, wa_25.heap.size = g := ⟨_, rfl⟩
        rw [hgb] at Ka_30 ⊢
        clear hgb hwb Ka_25
        refine wb_1 1 (by kernel_rfl) ?_
        refine wbi rfl (fun K hK => ?_)
        go_simp
        go_at_call 22
        (with_reducible refine (waiting_any _).mono ?_)
        rintro e wa_31 ⟨gw, g1, rfl, hS⟩
        refine hK _ _ (hS.toExt.up _) ?_
        clear hK K
        have Ka_31 := Ka_30.joinW hS
        dsimp only [List.cons_append, List.nil_append] at Ka_31
        have hlwa_31 := Nat.le_trans hlwa_30 hS.toExt.size
        clear Ka_30 hS
        refine wb_1 3 (by kernel_rfl) ?_
        refine wbi rfl (fun K hK => ?_)
        go_simp
        go_at_call 14
        (with_reducible refine (HOF.out gw g1 gb _ Ka_31.toExt (Ka_31.blk (List.Mem.head _)) (Ka_31.blk (List.Mem.tail _ (List.Mem.head _))) (Ka_31.blk (List.Mem.tail _ (List.Mem.tail _ (List.Mem.head _))))).mono ?_)
        rintro e wa_32 ⟨x, F, rfl, hS⟩
        obtain ⟨E, G, B, Fr', ce, cg, cb, cf, vs, rfl, -⟩ := res_get (hS.get (List.Mem.head _))
        refine hK _ _ (hS.toExt.up _) ?_
        clear hK K
        have Ka_32 := Ka_31.joinW hS
        dsimp only [List.cons_append, List.nil_append] at Ka_32
        have hlwa_32 := Nat.le_trans hlwa_31 hS.toExt.size
        clear Ka_31 hS
        refine wb_rd (i := 4) rfl rfl (by kernel_rfl) (by kernel_rfl) (fun K hK => ?_); go_simp; refine hK _ ?_; clear hK K
        refine wb_rd (i := 5) rfl rfl (by kernel_rfl) (by kernel_rfl) (fun K hK => ?_); go_simp; refine hK _ ?_; clear hK K
        refine wb_rd (i := 6) rfl rfl (by kernel_rfl) (by kernel_rfl) (fun K hK => ?_); go_simp; refine hK _ ?_; clear hK K
        refine wb_1 8 (by kernel_rfl) (wbi rfl (fun K hK => ?_))
        rw [if_pos (show Region.wanted _ _ = true from rfl)]
        refine wp_stS [_, _, _, _] Ka_32 34 (.tmp 2) (.tmp 16) rfl (cs := rsC E G B Fr' exA1.en.length exA1.gr.length exA1.rows.length exA1.fr.length ce cg cb cf) rfl rfl (by kernel_rfl) rfl (rsC_one rfl rfl rfl rfl) (fun wa_33 Ka_33 hu => ?_)
        refine hK _ _ (hu.up hgb) ?_
        clear hK K hu Ka_32
        dsimp only [List.cons_append, List.nil_append] at Ka_33
        refine wb_rd (i := 9) rfl rfl (by kernel_rfl) (by kernel_rfl) (fun K hK => ?_); go_simp; refine hK _ ?_; clear hK K
        refine wb_nil (by kernel_rfl) ?_
        go_wp2_with fail
        go_meet
        case rel => exact ⟨rfl, ga, _, rfl, E, G, B, Fr', ce, cg, cb, cf, _, Ka_33, (List.Mem.tail _ (List.Mem.tail _ (List.Mem.tail _ (List.Mem.tail _ (List.Mem.head _))))), (List.Mem.head _), (List.Mem.tail _ (List.Mem.tail _ (List.Mem.tail _ (List.Mem.tail _ (List.Mem.tail _ (List.Mem.head _))))))⟩
  case rest =>
    obtain ⟨rfl, gr1, L1, rfl, E1, G1, B1, F1, ce1, cg1, cb1, cf1, Fp1, k4, hA1, hR1, hV1⟩ := hcut
    clear K3 HOF
    have K4 := hide k4
    clear k4
    generalize World.drew _ = wd at *
    go_upto_region 3 with fail
    try go_frame
    go_cut [4, 5] (fun v4 v5 wx => v5 = .int .i64 0 ∧ ∃ (gr : Nat) (L : List As), v4 = .pointer (some ⟨gr, 0, none⟩) ∧ As.blk gr1 34 (rsC E1 G1 B1 F1 exA1.en.length exA1.gr.length exA1.rows.length exA1.fr.length ce1 cg1 cb1 cf1) ∈ L ∧ As.res true (.agg (rsC E1 G1 B1 F1 exA1.en.length exA1.gr.length exA1.rows.length exA1.fr.length ce1 cg1 cb1 cf1).toArray) exA1 Fp1 ∈ L ∧ Kept w1 gv (vnC exH (some ⟨g, 0, none⟩) 2) gr exA2 L wx)
    case first =>
      have KD := K4.out.drew
      refine wp_region_wb (RT.up wc.drew.heap.size) (by kernel_rfl) ?_
      clear K4
      generalize World.drew _ = wd at *
      obtain ⟨SBc, hSB⟩ : ∃ s, wd.heap.size = s := ⟨_, rfl⟩
      have hlwd : SBc ≤ wd.heap.size := Nat.le_of_eq hSB.symm
      have hbv := KD.blk (g := gv) (e := 24) hV1
      have hgv : gv < SBc := by rw [← hSB]; exact hbv.lt
      rw [hSB]
      refine wb_rd (i := 0) rfl rfl (by kernel_rfl) (by kernel_rfl) (fun K hK => ?_)
      rw [if_pos (show Region.wanted _ _ = true from rfl)]
      refine rdOp_ldX 24 (.tmp 1) rfl (fun w' h' => hbv.at5.fr h' (by show ¬ SBc ≤ gv; omega)) rfl _ Tryz.underlying24 rfl (by kernel_rfl) ?_
      go_simp
      refine hK _ ?_
      clear hK K hbv hgv hSB
      refine wb_rd (i := 2) rfl rfl (by kernel_rfl) (by kernel_rfl) (fun K hK => ?_); go_simp; refine hK _ ?_; clear hK K
      refine wb_rd (i := 3) rfl rfl (by kernel_rfl) (by kernel_rfl) (fun K hK => ?_); go_simp; refine hK _ ?_; clear hK K
      refine wb_rd (i := 4) rfl rfl (by kernel_rfl) (by kernel_rfl) (fun K hK => ?_); go_simp; refine hK _ ?_; clear hK K
      refine wb_3 1 5 10 (by kernel_rfl) ?_ ?_ ?_
      · skip
        refine wbi rfl (fun K hK => ?_)
        go_simp
        go_at_call 22
        (with_reducible refine (waiting_any _).mono ?_)
        rintro e wc_1 ⟨gw, g1, rfl, hS⟩
        refine hK _ _ (hS.toExt.up _) ?_
        clear hK K
        have Kc_1 := KD.joinW hS
        dsimp only [List.cons_append, List.nil_append] at Kc_1
        have hlwc_1 := Nat.le_trans hlwd hS.toExt.size
        clear KD hS
        refine wb_2 5 10 (by kernel_rfl) ?_ ?_
        · skip
          refine wbi rfl (fun K hK => ?_)
          go_simp
          refine hK _ _ (((Ext.refl wc_1).alloc _).up _) ?_
          clear hK K
          generalize hwb : World.alloc wc_1 _ = wc_2
          have Kc_2 := Kc_1.add 39 (hoV exHe).flatten
          have hlwc_2 := Nat.le_trans hlwc_1 ((Ext.refl wc_1).alloc (.cells ((hoV exHe).flatten).toArray 39)).size
          rw [show World.alloc wc_1 (.cells ((hoV exHe).flatten).toArray 39) = wc_2 from hwb] at Kc_2 hlwc_2
          obtain ⟨gb, hgb⟩ : ∃ g, wc_1.heap.size = g := ⟨_, rfl⟩
          rw [hgb] at Kc_2 ⊢
          clear hgb hwb Kc_1
          refine wb_2 6 10 (by kernel_rfl) ?_ ?_
          · skip
            refine wbi rfl (fun K hK => ?_)
            go_simp
            go_at_call 12
            (with_reducible refine (HEN.out gw g1 gb _ Kc_2.toExt (Kc_2.blk (List.Mem.tail _ (List.Mem.head _))) (Kc_2.blk (List.Mem.tail _ (List.Mem.tail _ (List.Mem.head _)))) (Kc_2.blk (List.Mem.head _))).mono ?_)
            rintro e wc_3 ⟨out, hdue, x, F, rfl, hS⟩
            obtain rfl := ex_due (hdue ex_endE)
            rw [ex_endE] at hS ⊢
            rw [ex_endA] at hS
            clear hdue
            obtain ⟨E, G, B, Fr', ce, cg, cb, cf, vs, rfl, -⟩ := res_get (hS.get (List.Mem.head _))
            refine hK _ _ (hS.toExt.up _) ?_
            clear hK K
            have Kc_3 := Kc_2.joinW hS
            dsimp only [List.cons_append, List.nil_append] at Kc_3
            have hlwc_3 := Nat.le_trans hlwc_2 hS.toExt.size
            clear Kc_2 hS
            refine wb_rd (i := 7) rfl rfl (by kernel_rfl) (by kernel_rfl) (fun K hK => ?_); go_simp; refine hK _ ?_; clear hK K
            refine wb_rd (i := 8) rfl rfl (by kernel_rfl) (by kernel_rfl) (fun K hK => ?_); go_simp; refine hK _ ?_; clear hK K
            refine wb_rd (i := 9) rfl rfl (by kernel_rfl) (by kernel_rfl) (fun K hK => ?_); go_simp; refine hK _ ?_; clear hK K
            refine wb_1 10 (by kernel_rfl) ?_
            refine wbi rfl (fun K hK => ?_)
            rw [if_pos (show Region.wanted _ _ = true from rfl)]
            refine wp_alS Kc_3 34 rfl (rsC none none none none 0 0 0 0 0 0 0 0) (by kernel_rfl) (fun wc_4 hz hx Kc_4 => ?_)
            refine hK _ _ (hx.up _) ?_
            have hlwc_4 := Nat.le_trans hlwc_3 hx.size
            obtain ⟨ga, hga⟩ : ∃ g, wc_3.heap.size = g := ⟨_, rfl⟩
            have hgb : SBc ≤ ga := by rw [← hga]; exact hlwc_3
            rw [hga] at Kc_4 ⊢
            clear hK K hx hz hga Kc_3
            refine wb_1 11 (by kernel_rfl) (wbi rfl (fun K hK => ?_))
            rw [if_pos (show Region.wanted _ _ = true from rfl)]
            refine wp_stS [] Kc_4 34 (.tmp 4) (.tmp 26) rfl (cs := rsC E G B Fr' exA2.en.length exA2.gr.length exA2.rows.length exA2.fr.length ce cg cb cf) rfl rfl (by kernel_rfl) rfl (rsC_one rfl rfl rfl rfl) (fun wc_5 Kc_5 hu => ?_)
            refine hK _ _ (hu.up hgb) ?_
            clear hK K hu Kc_4
            dsimp only [List.cons_append, List.nil_append] at Kc_5
            refine wb_rd (i := 12) rfl rfl (by kernel_rfl) (by kernel_rfl) (fun K hK => ?_); go_simp; refine hK _ ?_; clear hK K
            refine wb_nil (by kernel_rfl) ?_
            go_wp2_with fail
            go_meet
            case rel => exact ⟨rfl, ga, _, rfl, (List.Mem.tail _ (List.Mem.tail _ (List.Mem.tail _ (List.Mem.tail _ (List.Mem.tail _ hA1))))), (List.Mem.tail _ (List.Mem.tail _ (List.Mem.tail _ (List.Mem.tail _ (List.Mem.tail _ hR1))))), E, G, B, Fr', ce, cg, cb, cf, _, Kc_5, (List.Mem.head _), (List.Mem.tail _ (List.Mem.head _)), (List.Mem.tail _ (List.Mem.tail _ (List.Mem.tail _ (List.Mem.tail _ (List.Mem.tail _ hV1)))))⟩
          · skip
            refine wbi rfl (fun K hK => ?_)
            rw [if_pos (show Region.wanted _ _ = true from rfl)]
            refine wp_alS Kc_2 34 rfl (rsC none none none none 0 0 0 0 0 0 0 0) (by kernel_rfl) (fun wc_6 hz hx Kc_6 => ?_)
            refine hK _ _ (hx.up _) ?_
            have hlwc_6 := Nat.le_trans hlwc_2 hx.size
            obtain ⟨ga, hga⟩ : ∃ g, wc_2.heap.size = g := ⟨_, rfl⟩
            have hgb : SBc ≤ ga := by rw [← hga]; exact hlwc_2
            rw [hga] at Kc_6 ⊢
            clear hK K hx hz hga Kc_2
            refine wb_1 6 (by kernel_rfl) ?_
            refine wbi rfl (fun K hK => ?_)
            go_simp
            go_at_call 12
            (with_reducible refine (HEN.out gw g1 gb _ Kc_6.toExt (Kc_6.blk (List.Mem.tail _ (List.Mem.tail _ (List.Mem.head _)))) (Kc_6.blk (List.Mem.tail _ (List.Mem.tail _ (List.Mem.tail _ (List.Mem.head _))))) (Kc_6.blk (List.Mem.tail _ (List.Mem.head _)))).mono ?_)
            rintro e wc_7 ⟨out, hdue, x, F, rfl, hS⟩
            obtain rfl := ex_due (hdue ex_endE)
            rw [ex_endE] at hS ⊢
            rw [ex_endA] at hS
            clear hdue
            obtain ⟨E, G, B, Fr', ce, cg, cb, cf, vs, rfl, -⟩ := res_get (hS.get (List.Mem.head _))
            refine hK _ _ (hS.toExt.up _) ?_
            clear hK K
            have Kc_7 := Kc_6.joinW hS
            dsimp only [List.cons_append, List.nil_append] at Kc_7
            have hlwc_7 := Nat.le_trans hlwc_6 hS.toExt.size
            clear Kc_6 hS
            refine wb_rd (i := 7) rfl rfl (by kernel_rfl) (by kernel_rfl) (fun K hK => ?_); go_simp; refine hK _ ?_; clear hK K
            refine wb_rd (i := 8) rfl rfl (by kernel_rfl) (by kernel_rfl) (fun K hK => ?_); go_simp; refine hK _ ?_; clear hK K
            refine wb_rd (i := 9) rfl rfl (by kernel_rfl) (by kernel_rfl) (fun K hK => ?_); go_simp; refine hK _ ?_; clear hK K
            refine wb_1 11 (by kernel_rfl) (wbi rfl (fun K hK => ?_))
            rw [if_pos (show Region.wanted _ _ = true from rfl)]
            refine wp_stS [_] Kc_7 34 (.tmp 4) (.tmp 26) rfl (cs := rsC E G B Fr' exA2.en.length exA2.gr.length exA2.rows.length exA2.fr.length ce cg cb cf) rfl rfl (by kernel_rfl) rfl (rsC_one rfl rfl rfl rfl) (fun wc_8 Kc_8 hu => ?_)
            refine hK _ _ (hu.up hgb) ?_
            clear hK K hu Kc_7
            dsimp only [List.cons_append, List.nil_append] at Kc_8
            refine wb_rd (i := 12) rfl rfl (by kernel_rfl) (by kernel_rfl) (fun K hK => ?_); go_simp; refine hK _ ?_; clear hK K
            refine wb_nil (by kernel_rfl) ?_
            go_wp2_with fail
            go_meet
            case rel => exact ⟨rfl, ga, _, rfl, (List.Mem.tail _ (List.Mem.tail _ (List.Mem.tail _ (List.Mem.tail _ (List.Mem.tail _ hA1))))), (List.Mem.tail _ (List.Mem.tail _ (List.Mem.tail _ (List.Mem.tail _ (List.Mem.tail _ hR1))))), E, G, B, Fr', ce, cg, cb, cf, _, Kc_8, (List.Mem.tail _ (List.Mem.head _)), (List.Mem.head _), (List.Mem.tail _ (List.Mem.tail _ (List.Mem.tail _ (List.Mem.tail _ (List.Mem.tail _ hV1)))))⟩
        · skip
          refine wbi rfl (fun K hK => ?_)
          rw [if_pos (show Region.wanted _ _ = true from rfl)]
          refine wp_alS Kc_1 34 rfl (rsC none none none none 0 0 0 0 0 0 0 0) (by kernel_rfl) (fun wc_9 hz hx Kc_9 => ?_)
          refine hK _ _ (hx.up _) ?_
          have hlwc_9 := Nat.le_trans hlwc_1 hx.size
          obtain ⟨ga, hga⟩ : ∃ g, wc_1.heap.size = g := ⟨_, rfl⟩
          have hgb : SBc ≤ ga := by rw [← hga]; exact hlwc_1
          rw [hga] at Kc_9 ⊢
          clear hK K hx hz hga Kc_1
          refine wb_1 5 (by kernel_rfl) ?_
          refine wbi rfl (fun K hK => ?_)
          go_simp
          refine hK _ _ (((Ext.refl wc_9).alloc _).up _) ?_
          clear hK K
          generalize hwb : World.alloc wc_9 _ = wc_10
          have Kc_10 := Kc_9.add 39 (hoV exHe).flatten
          have hlwc_10 := Nat.le_trans hlwc_9 ((Ext.refl wc_9).alloc (.cells ((hoV exHe).flatten).toArray 39)).size
          rw [show World.alloc wc_9 (.cells ((hoV exHe).flatten).toArray 39) = wc_10 from hwb] at Kc_10 hlwc_10
          obtain ⟨gb, hgb⟩ : ∃ g, wc_9.heap.size = g := ⟨_, rfl⟩
          rw [hgb] at Kc_10 ⊢
          clear hgb hwb Kc_9
          refine wb_1 6 (by kernel_rfl) ?_
          refine wbi rfl (fun K hK => ?_)
          go_simp
          go_at_call 12
          (with_reducible refine (HEN.out gw g1 gb _ Kc_10.toExt (Kc_10.blk (List.Mem.tail _ (List.Mem.tail _ (List.Mem.head _)))) (Kc_10.blk (List.Mem.tail _ (List.Mem.tail _ (List.Mem.tail _ (List.Mem.head _))))) (Kc_10.blk (List.Mem.head _))).mono ?_)
          rintro e wc_11 ⟨out, hdue, x, F, rfl, hS⟩
          obtain rfl := ex_due (hdue ex_endE)
          rw [ex_endE] at hS ⊢
          rw [ex_endA] at hS
          clear hdue
          obtain ⟨E, G, B, Fr', ce, cg, cb, cf, vs, rfl, -⟩ := res_get (hS.get (List.Mem.head _))
          refine hK _ _ (hS.toExt.up _) ?_
          clear hK K
          have Kc_11 := Kc_10.joinW hS
          dsimp only [List.cons_append, List.nil_append] at Kc_11
          have hlwc_11 := Nat.le_trans hlwc_10 hS.toExt.size
          clear Kc_10 hS
          refine wb_rd (i := 7) rfl rfl (by kernel_rfl) (by kernel_rfl) (fun K hK => ?_); go_simp; refine hK _ ?_; clear hK K
          refine wb_rd (i := 8) rfl rfl (by kernel_rfl) (by kernel_rfl) (fun K hK => ?_); go_simp; refine hK _ ?_; clear hK K
          refine wb_rd (i := 9) rfl rfl (by kernel_rfl) (by kernel_rfl) (fun K hK => ?_); go_simp; refine hK _ ?_; clear hK K
          refine wb_1 11 (by kernel_rfl) (wbi rfl (fun K hK => ?_))
          rw [if_pos (show Region.wanted _ _ = true from rfl)]
          refine wp_stS [_, _] Kc_11 34 (.tmp 4) (.tmp 26) rfl (cs := rsC E G B Fr' exA2.en.length exA2.gr.length exA2.rows.length exA2.fr.length ce cg cb cf) rfl rfl (by kernel_rfl) rfl (rsC_one rfl rfl rfl rfl) (fun wc_12 Kc_12 hu => ?_)
          refine hK _ _ (hu.up hgb) ?_
          clear hK K hu Kc_11
          dsimp only [List.cons_append, List.nil_append] at Kc_12
          refine wb_rd (i := 12) rfl rfl (by kernel_rfl) (by kernel_rfl) (fun K hK => ?_); go_simp; refine hK _ ?_; clear hK K
          refine wb_nil (by kernel_rfl) ?_
          go_wp2_with fail
          go_meet
          case rel => exact ⟨rfl, ga, _, rfl, (List.Mem.tail _ (List.Mem.tail _ (List.Mem.tail _ (List.Mem.tail _ (List.Mem.tail _ hA1))))), (List.Mem.tail _ (List.Mem.tail _ (List.Mem.tail _ (List.Mem.tail _ (List.Mem.tail _ hR1))))), E, G, B, Fr', ce, cg, cb, cf, _, Kc_12, (List.Mem.tail _ (List.Mem.tail _ (List.Mem.head _))), (List.Mem.head _), (List.Mem.tail _ (List.Mem.tail _ (List.Mem.tail _ (List.Mem.tail _ (List.Mem.tail _ hV1)))))⟩
      · skip
        refine wbi rfl (fun K hK => ?_)
        go_simp
        refine hK _ _ (((Ext.refl wd).alloc _).up _) ?_
        clear hK K
        generalize hwb : World.alloc wd _ = wc_13
        have Kc_13 := KD.add 39 (hoV exHe).flatten
        have hlwc_13 := Nat.le_trans hlwd ((Ext.refl wd).alloc (.cells ((hoV exHe).flatten).toArray 39)).size
        rw [show World.alloc wd (.cells ((hoV exHe).flatten).toArray 39) = wc_13 from hwb] at Kc_13 hlwc_13
        obtain ⟨gb, hgb⟩ : ∃ g, wd.heap.size = g := ⟨_, rfl⟩
        rw [hgb] at Kc_13 ⊢
        clear hgb hwb KD
        refine wb_2 1 10 (by kernel_rfl) ?_ ?_
        · skip
          refine wbi rfl (fun K hK => ?_)
          go_simp
          go_at_call 22
          (with_reducible refine (waiting_any _).mono ?_)
          rintro e wc_14 ⟨gw, g1, rfl, hS⟩
          refine hK _ _ (hS.toExt.up _) ?_
          clear hK K
          have Kc_14 := Kc_13.joinW hS
          dsimp only [List.cons_append, List.nil_append] at Kc_14
          have hlwc_14 := Nat.le_trans hlwc_13 hS.toExt.size
          clear Kc_13 hS
          refine wb_2 6 10 (by kernel_rfl) ?_ ?_
          · skip
            refine wbi rfl (fun K hK => ?_)
            go_simp
            go_at_call 12
            (with_reducible refine (HEN.out gw g1 gb _ Kc_14.toExt (Kc_14.blk (List.Mem.head _)) (Kc_14.blk (List.Mem.tail _ (List.Mem.head _))) (Kc_14.blk (List.Mem.tail _ (List.Mem.tail _ (List.Mem.head _))))).mono ?_)
            rintro e wc_15 ⟨out, hdue, x, F, rfl, hS⟩
            obtain rfl := ex_due (hdue ex_endE)
            rw [ex_endE] at hS ⊢
            rw [ex_endA] at hS
            clear hdue
            obtain ⟨E, G, B, Fr', ce, cg, cb, cf, vs, rfl, -⟩ := res_get (hS.get (List.Mem.head _))
            refine hK _ _ (hS.toExt.up _) ?_
            clear hK K
            have Kc_15 := Kc_14.joinW hS
            dsimp only [List.cons_append, List.nil_append] at Kc_15
            have hlwc_15 := Nat.le_trans hlwc_14 hS.toExt.size
            clear Kc_14 hS
            refine wb_rd (i := 7) rfl rfl (by kernel_rfl) (by kernel_rfl) (fun K hK => ?_); go_simp; refine hK _ ?_; clear hK K
            refine wb_rd (i := 8) rfl rfl (by kernel_rfl) (by kernel_rfl) (fun K hK => ?_); go_simp; refine hK _ ?_; clear hK K
            refine wb_rd (i := 9) rfl rfl (by kernel_rfl) (by kernel_rfl) (fun K hK => ?_); go_simp; refine hK _ ?_; clear hK K
            refine wb_1 10 (by kernel_rfl) ?_
            refine wbi rfl (fun K hK => ?_)
            rw [if_pos (show Region.wanted _ _ = true from rfl)]
            refine wp_alS Kc_15 34 rfl (rsC none none none none 0 0 0 0 0 0 0 0) (by kernel_rfl) (fun wc_16 hz hx Kc_16 => ?_)
            refine hK _ _ (hx.up _) ?_
            have hlwc_16 := Nat.le_trans hlwc_15 hx.size
            obtain ⟨ga, hga⟩ : ∃ g, wc_15.heap.size = g := ⟨_, rfl⟩
            have hgb : SBc ≤ ga := by rw [← hga]; exact hlwc_15
            rw [hga] at Kc_16 ⊢
            clear hK K hx hz hga Kc_15
            refine wb_1 11 (by kernel_rfl) (wbi rfl (fun K hK => ?_))
            rw [if_pos (show Region.wanted _ _ = true from rfl)]
            refine wp_stS [] Kc_16 34 (.tmp 4) (.tmp 26) rfl (cs := rsC E G B Fr' exA2.en.length exA2.gr.length exA2.rows.length exA2.fr.length ce cg cb cf) rfl rfl (by kernel_rfl) rfl (rsC_one rfl rfl rfl rfl) (fun wc_17 Kc_17 hu => ?_)
            refine hK _ _ (hu.up hgb) ?_
            clear hK K hu Kc_16
            dsimp only [List.cons_append, List.nil_append] at Kc_17
            refine wb_rd (i := 12) rfl rfl (by kernel_rfl) (by kernel_rfl) (fun K hK => ?_); go_simp; refine hK _ ?_; clear hK K
            refine wb_nil (by kernel_rfl) ?_
            go_wp2_with fail
            go_meet
            case rel => exact ⟨rfl, ga, _, rfl, (List.Mem.tail _ (List.Mem.tail _ (List.Mem.tail _ (List.Mem.tail _ (List.Mem.tail _ hA1))))), (List.Mem.tail _ (List.Mem.tail _ (List.Mem.tail _ (List.Mem.tail _ (List.Mem.tail _ hR1))))), E, G, B, Fr', ce, cg, cb, cf, _, Kc_17, (List.Mem.head _), (List.Mem.tail _ (List.Mem.head _)), (List.Mem.tail _ (List.Mem.tail _ (List.Mem.tail _ (List.Mem.tail _ (List.Mem.tail _ hV1)))))⟩
          · skip
            refine wbi rfl (fun K hK => ?_)
            rw [if_pos (show Region.wanted _ _ = true from rfl)]
            refine wp_alS Kc_14 34 rfl (rsC none none none none 0 0 0 0 0 0 0 0) (by kernel_rfl) (fun wc_18 hz hx Kc_18 => ?_)
            refine hK _ _ (hx.up _) ?_
            have hlwc_18 := Nat.le_trans hlwc_14 hx.size
            obtain ⟨ga, hga⟩ : ∃ g, wc_14.heap.size = g := ⟨_, rfl⟩
            have hgb : SBc ≤ ga := by rw [← hga]; exact hlwc_14
            rw [hga] at Kc_18 ⊢
            clear hK K hx hz hga Kc_14
            refine wb_1 6 (by kernel_rfl) ?_
            refine wbi rfl (fun K hK => ?_)
            go_simp
            go_at_call 12
            (with_reducible refine (HEN.out gw g1 gb _ Kc_18.toExt (Kc_18.blk (List.Mem.tail _ (List.Mem.head _))) (Kc_18.blk (List.Mem.tail _ (List.Mem.tail _ (List.Mem.head _)))) (Kc_18.blk (List.Mem.tail _ (List.Mem.tail _ (List.Mem.tail _ (List.Mem.head _)))))).mono ?_)
            rintro e wc_19 ⟨out, hdue, x, F, rfl, hS⟩
            obtain rfl := ex_due (hdue ex_endE)
            rw [ex_endE] at hS ⊢
            rw [ex_endA] at hS
            clear hdue
            obtain ⟨E, G, B, Fr', ce, cg, cb, cf, vs, rfl, -⟩ := res_get (hS.get (List.Mem.head _))
            refine hK _ _ (hS.toExt.up _) ?_
            clear hK K
            have Kc_19 := Kc_18.joinW hS
            dsimp only [List.cons_append, List.nil_append] at Kc_19
            have hlwc_19 := Nat.le_trans hlwc_18 hS.toExt.size
            clear Kc_18 hS
            refine wb_rd (i := 7) rfl rfl (by kernel_rfl) (by kernel_rfl) (fun K hK => ?_); go_simp; refine hK _ ?_; clear hK K
            refine wb_rd (i := 8) rfl rfl (by kernel_rfl) (by kernel_rfl) (fun K hK => ?_); go_simp; refine hK _ ?_; clear hK K
            refine wb_rd (i := 9) rfl rfl (by kernel_rfl) (by kernel_rfl) (fun K hK => ?_); go_simp; refine hK _ ?_; clear hK K
            refine wb_1 11 (by kernel_rfl) (wbi rfl (fun K hK => ?_))
            rw [if_pos (show Region.wanted _ _ = true from rfl)]
            refine wp_stS [_] Kc_19 34 (.tmp 4) (.tmp 26) rfl (cs := rsC E G B Fr' exA2.en.length exA2.gr.length exA2.rows.length exA2.fr.length ce cg cb cf) rfl rfl (by kernel_rfl) rfl (rsC_one rfl rfl rfl rfl) (fun wc_20 Kc_20 hu => ?_)
            refine hK _ _ (hu.up hgb) ?_
            clear hK K hu Kc_19
            dsimp only [List.cons_append, List.nil_append] at Kc_20
            refine wb_rd (i := 12) rfl rfl (by kernel_rfl) (by kernel_rfl) (fun K hK => ?_); go_simp; refine hK _ ?_; clear hK K
            refine wb_nil (by kernel_rfl) ?_
            go_wp2_with fail
            go_meet
            case rel => exact ⟨rfl, ga, _, rfl, (List.Mem.tail _ (List.Mem.tail _ (List.Mem.tail _ (List.Mem.tail _ (List.Mem.tail _ hA1))))), (List.Mem.tail _ (List.Mem.tail _ (List.Mem.tail _ (List.Mem.tail _ (List.Mem.tail _ hR1))))), E, G, B, Fr', ce, cg, cb, cf, _, Kc_20, (List.Mem.tail _ (List.Mem.head _)), (List.Mem.head _), (List.Mem.tail _ (List.Mem.tail _ (List.Mem.tail _ (List.Mem.tail _ (List.Mem.tail _ hV1)))))⟩
        · skip
          refine wbi rfl (fun K hK => ?_)
          rw [if_pos (show Region.wanted _ _ = true from rfl)]
          refine wp_alS Kc_13 34 rfl (rsC none none none none 0 0 0 0 0 0 0 0) (by kernel_rfl) (fun wc_21 hz hx Kc_21 => ?_)
          refine hK _ _ (hx.up _) ?_
          have hlwc_21 := Nat.le_trans hlwc_13 hx.size
          obtain ⟨ga, hga⟩ : ∃ g, wc_13.heap.size = g := ⟨_, rfl⟩
          have hgb : SBc ≤ ga := by rw [← hga]; exact hlwc_13
          rw [hga] at Kc_21 ⊢
          clear hK K hx hz hga Kc_13
          refine wb_1 1 (by kernel_rfl) ?_
          refine wbi rfl (fun K hK => ?_)
          go_simp
          go_at_call 22
          (with_reducible refine (waiting_any _).mono ?_)
          rintro e wc_22 ⟨gw, g1, rfl, hS⟩
          refine hK _ _ (hS.toExt.up _) ?_
          clear hK K
          have Kc_22 := Kc_21.joinW hS
          dsimp only [List.cons_append, List.nil_append] at Kc_22
          have hlwc_22 := Nat.le_trans hlwc_21 hS.toExt.size
          clear Kc_21 hS
          refine wb_1 6 (by kernel_rfl) ?_
          refine wbi rfl (fun K hK => ?_)
          go_simp
          go_at_call 12
          (with_reducible refine (HEN.out gw g1 gb _ Kc_22.toExt (Kc_22.blk (List.Mem.head _)) (Kc_22.blk (List.Mem.tail _ (List.Mem.head _))) (Kc_22.blk (List.Mem.tail _ (List.Mem.tail _ (List.Mem.tail _ (List.Mem.head _)))))).mono ?_)
          rintro e wc_23 ⟨out, hdue, x, F, rfl, hS⟩
          obtain rfl := ex_due (hdue ex_endE)
          rw [ex_endE] at hS ⊢
          rw [ex_endA] at hS
          clear hdue
          obtain ⟨E, G, B, Fr', ce, cg, cb, cf, vs, rfl, -⟩ := res_get (hS.get (List.Mem.head _))
          refine hK _ _ (hS.toExt.up _) ?_
          clear hK K
          have Kc_23 := Kc_22.joinW hS
          dsimp only [List.cons_append, List.nil_append] at Kc_23
          have hlwc_23 := Nat.le_trans hlwc_22 hS.toExt.size
          clear Kc_22 hS
          refine wb_rd (i := 7) rfl rfl (by kernel_rfl) (by kernel_rfl) (fun K hK => ?_); go_simp; refine hK _ ?_; clear hK K
          refine wb_rd (i := 8) rfl rfl (by kernel_rfl) (by kernel_rfl) (fun K hK => ?_); go_simp; refine hK _ ?_; clear hK K
          refine wb_rd (i := 9) rfl rfl (by kernel_rfl) (by kernel_rfl) (fun K hK => ?_); go_simp; refine hK _ ?_; clear hK K
          refine wb_1 11 (by kernel_rfl) (wbi rfl (fun K hK => ?_))
          rw [if_pos (show Region.wanted _ _ = true from rfl)]
          refine wp_stS [_, _, _] Kc_23 34 (.tmp 4) (.tmp 26) rfl (cs := rsC E G B Fr' exA2.en.length exA2.gr.length exA2.rows.length exA2.fr.length ce cg cb cf) rfl rfl (by kernel_rfl) rfl (rsC_one rfl rfl rfl rfl) (fun wc_24 Kc_24 hu => ?_)
          refine hK _ _ (hu.up hgb) ?_
          clear hK K hu Kc_23
          dsimp only [List.cons_append, List.nil_append] at Kc_24
          refine wb_rd (i := 12) rfl rfl (by kernel_rfl) (by kernel_rfl) (fun K hK => ?_); go_simp; refine hK _ ?_; clear hK K
          refine wb_nil (by kernel_rfl) ?_
          go_wp2_with fail
          go_meet
          case rel => exact ⟨rfl, ga, _, rfl, (List.Mem.tail _ (List.Mem.tail _ (List.Mem.tail _ (List.Mem.tail _ (List.Mem.tail _ hA1))))), (List.Mem.tail _ (List.Mem.tail _ (List.Mem.tail _ (List.Mem.tail _ (List.Mem.tail _ hR1))))), E, G, B, Fr', ce, cg, cb, cf, _, Kc_24, (List.Mem.tail _ (List.Mem.tail _ (List.Mem.tail _ (List.Mem.head _)))), (List.Mem.head _), (List.Mem.tail _ (List.Mem.tail _ (List.Mem.tail _ (List.Mem.tail _ (List.Mem.tail _ hV1)))))⟩
      · skip
        refine wbi rfl (fun K hK => ?_)
        rw [if_pos (show Region.wanted _ _ = true from rfl)]
        refine wp_alS KD 34 rfl (rsC none none none none 0 0 0 0 0 0 0 0) (by kernel_rfl) (fun wc_25 hz hx Kc_25 => ?_)
        refine hK _ _ (hx.up _) ?_
        have hlwc_25 := Nat.le_trans hlwd hx.size
        obtain ⟨ga, hga⟩ : ∃ g, wd.heap.size = g := ⟨_, rfl⟩
        have hgb : SBc ≤ ga := by rw [← hga]; exact hlwd
        rw [hga] at Kc_25 ⊢
        clear hK K hx hz hga KD
        refine wb_2 1 5 (by kernel_rfl) ?_ ?_
        · skip
          refine wbi rfl (fun K hK => ?_)
          go_simp
          go_at_call 22
          (with_reducible refine (waiting_any _).mono ?_)
          rintro e wc_26 ⟨gw, g1, rfl, hS⟩
          refine hK _ _ (hS.toExt.up _) ?_
          clear hK K
          have Kc_26 := Kc_25.joinW hS
          dsimp only [List.cons_append, List.nil_append] at Kc_26
          have hlwc_26 := Nat.le_trans hlwc_25 hS.toExt.size
          clear Kc_25 hS
          refine wb_1 5 (by kernel_rfl) ?_
          refine wbi rfl (fun K hK => ?_)
          go_simp
          refine hK _ _ (((Ext.refl wc_26).alloc _).up _) ?_
          clear hK K
          generalize hwb : World.alloc wc_26 _ = wc_27
          have Kc_27 := Kc_26.add 39 (hoV exHe).flatten
          have hlwc_27 := Nat.le_trans hlwc_26 ((Ext.refl wc_26).alloc (.cells ((hoV exHe).flatten).toArray 39)).size
          rw [show World.alloc wc_26 (.cells ((hoV exHe).flatten).toArray 39) = wc_27 from hwb] at Kc_27 hlwc_27
          obtain ⟨gb, hgb⟩ : ∃ g, wc_26.heap.size = g := ⟨_, rfl⟩
          rw [hgb] at Kc_27 ⊢
          clear hgb hwb Kc_26
          refine wb_1 6 (by kernel_rfl) ?_
          refine wbi rfl (fun K hK => ?_)
          go_simp
          go_at_call 12
          (with_reducible refine (HEN.out gw g1 gb _ Kc_27.toExt (Kc_27.blk (List.Mem.tail _ (List.Mem.head _))) (Kc_27.blk (List.Mem.tail _ (List.Mem.tail _ (List.Mem.head _)))) (Kc_27.blk (List.Mem.head _))).mono ?_)
          rintro e wc_28 ⟨out, hdue, x, F, rfl, hS⟩
          obtain rfl := ex_due (hdue ex_endE)
          rw [ex_endE] at hS ⊢
          rw [ex_endA] at hS
          clear hdue
          obtain ⟨E, G, B, Fr', ce, cg, cb, cf, vs, rfl, -⟩ := res_get (hS.get (List.Mem.head _))
          refine hK _ _ (hS.toExt.up _) ?_
          clear hK K
          have Kc_28 := Kc_27.joinW hS
          dsimp only [List.cons_append, List.nil_append] at Kc_28
          have hlwc_28 := Nat.le_trans hlwc_27 hS.toExt.size
          clear Kc_27 hS
          refine wb_rd (i := 7) rfl rfl (by kernel_rfl) (by kernel_rfl) (fun K hK => ?_); go_simp; refine hK _ ?_; clear hK K
          refine wb_rd (i := 8) rfl rfl (by kernel_rfl) (by kernel_rfl) (fun K hK => ?_); go_simp; refine hK _ ?_; clear hK K
          refine wb_rd (i := 9) rfl rfl (by kernel_rfl) (by kernel_rfl) (fun K hK => ?_); go_simp; refine hK _ ?_; clear hK K
          refine wb_1 11 (by kernel_rfl) (wbi rfl (fun K hK => ?_))
          rw [if_pos (show Region.wanted _ _ = true from rfl)]
          refine wp_stS [_, _, _, _] Kc_28 34 (.tmp 4) (.tmp 26) rfl (cs := rsC E G B Fr' exA2.en.length exA2.gr.length exA2.rows.length exA2.fr.length ce cg cb cf) rfl rfl (by kernel_rfl) rfl (rsC_one rfl rfl rfl rfl) (fun wc_29 Kc_29 hu => ?_)
          refine hK _ _ (hu.up hgb) ?_
          clear hK K hu Kc_28
          dsimp only [List.cons_append, List.nil_append] at Kc_29
          refine wb_rd (i := 12) rfl rfl (by kernel_rfl) (by kernel_rfl) (fun K hK => ?_); go_simp; refine hK _ ?_; clear hK K
          refine wb_nil (by kernel_rfl) ?_
          go_wp2_with fail
          go_meet
          case rel => exact ⟨rfl, ga, _, rfl, (List.Mem.tail _ (List.Mem.tail _ (List.Mem.tail _ (List.Mem.tail _ (List.Mem.tail _ hA1))))), (List.Mem.tail _ (List.Mem.tail _ (List.Mem.tail _ (List.Mem.tail _ (List.Mem.tail _ hR1))))), E, G, B, Fr', ce, cg, cb, cf, _, Kc_29, (List.Mem.tail _ (List.Mem.tail _ (List.Mem.tail _ (List.Mem.tail _ (List.Mem.head _))))), (List.Mem.head _), (List.Mem.tail _ (List.Mem.tail _ (List.Mem.tail _ (List.Mem.tail _ (List.Mem.tail _ hV1)))))⟩
        · skip
          refine wbi rfl (fun K hK => ?_)
          go_simp
          refine hK _ _ (((Ext.refl wc_25).alloc _).up _) ?_
          clear hK K
          generalize hwb : World.alloc wc_25 _ = wc_30
          have Kc_30 := Kc_25.add 39 (hoV exHe).flatten
          have hlwc_30 := Nat.le_trans hlwc_25 ((Ext.refl wc_25).alloc (.cells ((hoV exHe).flatten).toArray 39)).size
          rw [show World.alloc wc_25 (.cells ((hoV exHe).flatten).toArray 39) = wc_30 from hwb] at Kc_30 hlwc_30
          obtain ⟨gb, hgb⟩ : ∃ g, wc_25.heap.size = g := ⟨_, rfl⟩
          rw [hgb] at Kc_30 ⊢
          clear hgb hwb Kc_25
          refine wb_1 1 (by kernel_rfl) ?_
          refine wbi rfl (fun K hK => ?_)
          go_simp
          go_at_call 22
          (with_reducible refine (waiting_any _).mono ?_)
          rintro e wc_31 ⟨gw, g1, rfl, hS⟩
          refine hK _ _ (hS.toExt.up _) ?_
          clear hK K
          have Kc_31 := Kc_30.joinW hS
          dsimp only [List.cons_append, List.nil_append] at Kc_31
          have hlwc_31 := Nat.le_trans hlwc_30 hS.toExt.size
          clear Kc_30 hS
          refine wb_1 6 (by kernel_rfl) ?_
          refine wbi rfl (fun K hK => ?_)
          go_simp
          go_at_call 12
          (with_reducible refine (HEN.out gw g1 gb _ Kc_31.toExt (Kc_31.blk (List.Mem.head _)) (Kc_31.blk (List.Mem.tail _ (List.Mem.head _))) (Kc_31.blk (List.Mem.tail _ (List.Mem.tail _ (List.Mem.head _))))).mono ?_)
          rintro e wc_32 ⟨out, hdue, x, F, rfl, hS⟩
          obtain rfl := ex_due (hdue ex_endE)
          rw [ex_endE] at hS ⊢
          rw [ex_endA] at hS
          clear hdue
          obtain ⟨E, G, B, Fr', ce, cg, cb, cf, vs, rfl, -⟩ := res_get (hS.get (List.Mem.head _))
          refine hK _ _ (hS.toExt.up _) ?_
          clear hK K
          have Kc_32 := Kc_31.joinW hS
          dsimp only [List.cons_append, List.nil_append] at Kc_32
          have hlwc_32 := Nat.le_trans hlwc_31 hS.toExt.size
          clear Kc_31 hS
          refine wb_rd (i := 7) rfl rfl (by kernel_rfl) (by kernel_rfl) (fun K hK => ?_); go_simp; refine hK _ ?_; clear hK K
          refine wb_rd (i := 8) rfl rfl (by kernel_rfl) (by kernel_rfl) (fun K hK => ?_); go_simp; refine hK _ ?_; clear hK K
          refine wb_rd (i := 9) rfl rfl (by kernel_rfl) (by kernel_rfl) (fun K hK => ?_); go_simp; refine hK _ ?_; clear hK K
          refine wb_1 11 (by kernel_rfl) (wbi rfl (fun K hK => ?_))
          rw [if_pos (show Region.wanted _ _ = true from rfl)]
          refine wp_stS [_, _, _, _] Kc_32 34 (.tmp 4) (.tmp 26) rfl (cs := rsC E G B Fr' exA2.en.length exA2.gr.length exA2.rows.length exA2.fr.length ce cg cb cf) rfl rfl (by kernel_rfl) rfl (rsC_one rfl rfl rfl rfl) (fun wc_33 Kc_33 hu => ?_)
          refine hK _ _ (hu.up hgb) ?_
          clear hK K hu Kc_32
          dsimp only [List.cons_append, List.nil_append] at Kc_33
          refine wb_rd (i := 12) rfl rfl (by kernel_rfl) (by kernel_rfl) (fun K hK => ?_); go_simp; refine hK _ ?_; clear hK K
          refine wb_nil (by kernel_rfl) ?_
          go_wp2_with fail
          go_meet
          case rel => exact ⟨rfl, ga, _, rfl, (List.Mem.tail _ (List.Mem.tail _ (List.Mem.tail _ (List.Mem.tail _ (List.Mem.tail _ hA1))))), (List.Mem.tail _ (List.Mem.tail _ (List.Mem.tail _ (List.Mem.tail _ (List.Mem.tail _ hR1))))), E, G, B, Fr', ce, cg, cb, cf, _, Kc_33, (List.Mem.tail _ (List.Mem.tail _ (List.Mem.tail _ (List.Mem.tail _ (List.Mem.head _))))), (List.Mem.head _), (List.Mem.tail _ (List.Mem.tail _ (List.Mem.tail _ (List.Mem.tail _ (List.Mem.tail _ hV1)))))⟩
    case rest =>
      obtain ⟨rfl, gr2, L2, rfl, hA1, hR1, E2, G2, B2, F2, ce2, cg2, cb2, cf2, Fp2, k5, hA2, hR2, hV2⟩ := hcut
      clear K4 HEN hV1
      generalize World.drew _ = wd at *
      have K6 := hide (k5.add 49 (spV exF).flatten)
      have tok3 : True := trivial
      go_wp2_with (have zz := tok3; clear zz tok3; refine wpList_ldS k5 hV2 rfl 24 (.tmp 1) rfl rfl _ Tryz.underlying24 rfl (by kernel_rfl) ?_)
      refine (HFA.out _ _ K6.out.toExt (K6.out.blk (List.Mem.head _))).mono ?_
      rintro e w5 ⟨rfl, hx⟩
      have K7 := ((K6.out.ext hx).tail)
      clear K6 hx HFA k5
      obtain ⟨j0, ji, jz0, jz1, jz2⟩ := info_parts info39
      have K8 := K7.add 43 (gtV exA1.gr).flatten
      clear K7
      have tok4 : True := trivial
      have tok5 : True := trivial
      have tok6 : True := trivial
      go_upto_region 6 with (first
        | (have zz := tok4; clear zz tok4; refine wpList_mkG K8 rfl _ _ 25 rfl 47 j0 (.slice none 0 0) 24 Tryz.underlying25 ji jz0 jz1 jz2 rfl (C := 2) rfl rfl (by decide) (by decide) ?_; intro w6 K9; clear K8; simp only [World.size_alloc] at K9; have K10 := K9.add 3 (i64s [5, 1]); clear K9)
        | (have zz := tok5; clear zz tok5; refine wpList_alS K10 rfl 34 rfl (rsC none none none none 0 0 0 0 0 0 0 0) (by kernel_rfl) ?_; intro w7 hz7 K11; clear hz7 K10)
        | (have zz := tok6; clear zz tok6; refine wpList_stS [] K11 rfl 34 (.tmp 8) (.tmp 42) rfl rfl (cs := rsC none (some ⟨w5.heap.size, 0, none⟩) (some ⟨w5.heap.size + 1, 0, none⟩) (some ⟨w6.heap.size, 0, none⟩) 0 2 2 2 0 2 2 2) rfl (by kernel_rfl) rfl (rsC_one rfl rfl rfl rfl) ?_; intro w8 K12; dsimp only [List.nil_append] at K12; clear K11))
      simp only [World.size_alloc] at K12
      try simp only [World.size_alloc]
      obtain ⟨gG, hgG⟩ : ∃ g, w5.heap.size = g := ⟨_, rfl⟩
      obtain ⟨gW, hgW⟩ : ∃ g, gG + 1 = g := ⟨_, rfl⟩
      obtain ⟨gI, hgI⟩ : ∃ g, w6.heap.size = g := ⟨_, rfl⟩
      obtain ⟨g8, hg8⟩ : ∃ g, gI + 1 = g := ⟨_, rfl⟩
      rw [hgG, hgW, hgI, hg8] at K12
      try rw [hgG]
      try rw [hgW]
      try rw [hgI]
      try rw [hg8]
      clear hgG hgW hgI hg8
      have K13 := (K12.add 39 (hoV exOut).flatten).add 43 (gtV exA2.gr).flatten
      clear K12
      have tok7 : True := trivial
      have tok8 : True := trivial
      have tok9 : True := trivial
      go_upto_region 7 with (first
        | (have zz := tok7; clear zz tok7; refine wpList_mkG K13 rfl _ _ 25 rfl 47 j0 (.slice none 0 0) 24 Tryz.underlying25 ji jz0 jz1 jz2 rfl (C := 2) rfl rfl (by decide) (by decide) ?_; intro w9 K14; clear K13; simp only [World.size_alloc] at K14)
        | (have zz := tok8; clear zz tok8; refine wpList_alS K14 rfl 34 rfl (rsC none none none none 0 0 0 0 0 0 0 0) (by kernel_rfl) ?_; intro w10 hz10 K15; clear hz10 K14)
        | (have zz := tok9; clear zz tok9; refine wpList_stS [] K15 rfl 34 (.tmp 9) (.tmp 50) rfl rfl (cs := rsC (some ⟨w8.heap.size, 0, none⟩) (some ⟨w8.heap.size + 1, 0, none⟩) (some ⟨w8.heap.size + 1 + 1, 0, none⟩) none 2 2 2 0 2 2 2 0) rfl (by kernel_rfl) rfl (rsC_one rfl rfl rfl rfl) ?_; intro w11 K16; dsimp only [List.nil_append] at K16; clear K15))
      obtain ⟨hH, hhH⟩ : ∃ g, w8.heap.size = g := ⟨_, rfl⟩
      obtain ⟨hG, hhG⟩ : ∃ g, hH + 1 = g := ⟨_, rfl⟩
      obtain ⟨hW, hhW⟩ : ∃ g, hG + 1 = g := ⟨_, rfl⟩
      obtain ⟨g9, hg9⟩ : ∃ g, w9.heap.size = g := ⟨_, rfl⟩
      rw [hhH, hhG, hhW, hg9] at K16
      try rw [hhH]
      try rw [hhG]
      try rw [hhW]
      try rw [hg9]
      clear hhH hhG hhW hg9
      have I1 : IsRes true w11 (.agg (rsC none (some ⟨gG, 0, none⟩) (some ⟨gW, 0, none⟩) (some ⟨gI, 0, none⟩) 0 2 2 2 0 2 2 2).toArray) exA1 := ⟨none, some ⟨gG, 0, none⟩, some ⟨gW, 0, none⟩, some ⟨gI, 0, none⟩, 0, 2, 2, 2, _, rfl, by decide, by decide, fun _ => by decide, by decide, rdm_nil _ _ _, rd_flat (gtV_l _) (K16.blk (List.Mem.tail _ (List.Mem.tail _ (List.Mem.tail _ (List.Mem.tail _ (List.Mem.tail _ (List.Mem.tail _ (List.Mem.tail _ (List.Mem.head _))))))))), nil_rows (K16.blk (List.Mem.tail _ (List.Mem.tail _ (List.Mem.tail _ (List.Mem.tail _ (List.Mem.tail _ (List.Mem.tail _ (List.Mem.head _)))))))), Blk.rd (K16.blk (List.Mem.tail _ (List.Mem.tail _ (List.Mem.tail _ (List.Mem.tail _ (List.Mem.tail _ (List.Mem.head _)))))))⟩
      have I2 : IsRes true w11 (.agg (rsC (some ⟨hH, 0, none⟩) (some ⟨hG, 0, none⟩) (some ⟨hW, 0, none⟩) none 2 2 2 0 2 2 2 0).toArray) exA2 := ⟨some ⟨hH, 0, none⟩, some ⟨hG, 0, none⟩, some ⟨hW, 0, none⟩, none, 2, 2, 2, 0, _, rfl, by decide, by decide, fun _ => by decide, by decide, rd_flat (hoV_l _) (K16.blk (List.Mem.tail _ (List.Mem.tail _ (List.Mem.tail _ (List.Mem.head _))))), rd_flat (gtV_l _) (K16.blk (List.Mem.tail _ (List.Mem.tail _ (List.Mem.head _)))), nil_rows (K16.blk (List.Mem.tail _ (List.Mem.head _))), rd_nil _ _⟩
      have R1 := res_get (K16.get (List.Mem.tail _ (List.Mem.tail _ (List.Mem.tail _ (List.Mem.tail _ (List.Mem.tail _ (List.Mem.tail _ (List.Mem.tail _ (List.Mem.tail _ hR1)))))))))
      have R2 := res_get (K16.get (List.Mem.tail _ (List.Mem.tail _ (List.Mem.tail _ (List.Mem.tail _ (List.Mem.tail _ (List.Mem.tail _ (List.Mem.tail _ (List.Mem.tail _ hR2)))))))))
      have HS1 := hide (psame_any w11 R1 I1 ex_few1)
      have HS2 := hide (fun (y : World) (k : Ext w11 y) => psame_any y (R2.ext k) (I2.ext k) ex_few2)
      clear I1 I2 R1 R2
      have tok1 : True := trivial
      have tok2 : True := trivial
      go_wp2_with (first
        | (have zz := tok1; clear zz tok1; refine wpList_ldS K16 (List.Mem.tail _ (List.Mem.tail _ (List.Mem.tail _ (List.Mem.tail _ (List.Mem.tail _ (List.Mem.tail _ (List.Mem.tail _ (List.Mem.tail _ hA1)))))))) rfl 34 (.tmp 2) rfl rfl _ Tryz.underlying34 rfl (by kernel_rfl) ?_)
        | (have zz := tok2; clear zz tok2; refine wpList_ldS K16 (List.Mem.tail _ (List.Mem.tail _ (List.Mem.tail _ (List.Mem.tail _ (List.Mem.head _))))) rfl 34 (.tmp 8) rfl rfl _ Tryz.underlying34 rfl (by kernel_rfl) ?_))
      refine HS1.out.mono ?_
      rintro e w12 ⟨rfl, hx⟩
      have K17 := K16.ext hx
      have HX12 := hide hx
      clear hx HS1 K16
      have tok1 : True := trivial
      have tok2 : True := trivial
      go_wp2_with (first
        | (have zz := tok1; clear zz tok1; refine wpList_ldS K17 (List.Mem.tail _ (List.Mem.tail _ (List.Mem.tail _ (List.Mem.tail _ (List.Mem.tail _ (List.Mem.tail _ (List.Mem.tail _ (List.Mem.tail _ hA2)))))))) rfl 34 (.tmp 4) rfl rfl _ Tryz.underlying34 rfl (by kernel_rfl) ?_)
        | (have zz := tok2; clear zz tok2; refine wpList_ldS K17 (List.Mem.head _) rfl 34 (.tmp 9) rfl rfl _ Tryz.underlying34 rfl (by kernel_rfl) ?_))
      refine (HS2.out _ HX12.out).mono ?_
      rintro e w13 ⟨rfl, hx⟩
      have HX13 := hide (HX1.out.trans (K17.ext hx).toExt)
      clear hx HS2 K17 HX12
      go_wp2_with fail
      go_ret
      exact ⟨rfl, HX13.out⟩
end Go.Proofs.YtdmaephmkfmehaaGreatDoor
