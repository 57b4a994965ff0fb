/- Tokens: the law TokensEnds walked. -/
import Derived.Laws.Small
import Derived.Test.YtckmbhdbabnmcaaDoorTL0
import Derived.Test.YtckmbhdbabnmcaaDoorTkD
namespace Go.Proofs.YtckmbhdbabnmcaaDoor
open Go.RowKit Go.Gr
set_option linter.unusedVariables false
set_option linter.unusedSimpArgs false
attribute [local go_sem] rdOp rdAt rdUpon Cls forall_fr
theorem timesA {w : World} {v : Value} (h : ∃ cs, v = .agg cs ∧ Lvs Tryd.prog w [.slice 5, .int .u32, .int .i64, .int .i64, .int .i64] cs.toList) : ∃ A l c, ∃ o u x y : Int, v = .agg #[.slice A l.length c, .int .u32 o, .int .i64 u, .int .i64 x, .int .i64 y] ∧ Rd w A (byt l) ∧ isB l ∧ l.length ≤ c ∧ c ≤ maxLen ∧ (0 ≤ o ∧ o < 4294967296) ∧ (-9223372036854775808 ≤ u ∧ u ≤ 9223372036854775807) ∧ (-9223372036854775808 ≤ x ∧ x ≤ 9223372036854775807) ∧ (-9223372036854775808 ≤ y ∧ y ≤ 9223372036854775807) := by
  obtain ⟨⟨cs⟩, rfl, h0⟩ := h
  obtain ⟨_, _, hc, hk, h1⟩ := h0.cons
  obtain ⟨A, l, c, rfl, hr, hb, hlc, hm⟩ := bytes_arg hk
  obtain ⟨_, _, rfl, ⟨o, rfl, ho⟩, h2⟩ := h1.cons
  obtain ⟨_, _, rfl, ⟨u, rfl, hu⟩, h3⟩ := h2.cons
  obtain ⟨_, _, rfl, ⟨x, rfl, hx⟩, h4⟩ := h3.cons
  obtain ⟨_, _, rfl, ⟨y, rfl, hy⟩, h5⟩ := h4.cons
  obtain rfl := h5.nil_
  simp only at hc
  exact ⟨A, l, c, o, u, x, y, by rw [hc], hr, hb, hlc, hm, wf_u32 ho, wf_i64 hu, wf_i64 hx, wf_i64 hy⟩

set_option maxRecDepth 100000 in
set_option maxHeartbeats 2000000 in
theorem ends_e1 (k : List Int) (A : Option Addr) (c : Nat) (o u x y : Int) (w : World) (hl : Laid w) (h1 : k.length < 1) :
    Calls Tryd.prog 8 #[.agg #[.slice A k.length c, .int .u32 o, .int .i64 u, .int .i64 x, .int .i64 y]] w fun e w' => e = .returned (.bool true) ∧ Ext w w' := by
  have HL := hide hl
  clear hl
  have d1 : (k.length : Int) < 1 := by omega
  have H0 := (Sep.refl No w).newB ((Ext.refl w).alloc (.cells #[.slice A k.length c, .int .u32 o, .int .i64 u, .int .i64 x, .int .i64 y] 48)) (Blk.new w 48 [.slice A k.length c, .int .u32 o, .int .i64 u, .int .i64 x, .int .i64 y]) (Nat.le_refl _)
  go_enter Tryd.func8, Tryd.ntmps8
  have hg1 := (H0.blk (g := w.heap.size) (e := 48) (cs := [.slice A k.length c, .int .u32 o, .int .i64 u, .int .i64 x, .int .i64 y]) (List.Mem.head _)).lt
  go_upto_region 1 with fail
  obtain ⟨w1, hw1⟩ : ∃ w1, World.alloc w (.cells #[.slice A k.length c, .int .u32 o, .int .i64 u, .int .i64 x, .int .i64 y] 48) = w1 := ⟨_, rfl⟩
  obtain ⟨g1, hg⟩ : ∃ g, w.heap.size = g := ⟨_, rfl⟩
  simp only [hw1, hg] at H0 hg1 ⊢
  clear hw1 hg
  refine wp_region_wmr (RT.up w1.drew.heap.size) [0, 1, 2, 3, 4, 5, 6, 7, 8, 9, 10, 11, 12] (by kernel_rfl) (by kernel_rfl) (by kernel_rfl) (by kernel_rfl) ?_
  have K1 := H0.drew
  clear H0
  have hgd : g1 < w1.drew.heap.size := hg1
  clear hg1
  generalize w1.drew = wd at *
  have B1 := K1.blk (g := g1) (e := 48) (cs := [.slice A k.length c, .int .u32 o, .int .i64 u, .int .i64 x, .int .i64 y]) (List.Mem.head _)
  have hfr : ∀ w', Fr (fun k => wd.heap.size ≤ k) wd w' → Blk w' g1 48 [.slice A k.length c, .int .u32 o, .int .i64 u, .int .i64 x, .int .i64 y] := fun w' h => Fr.blk h B1 (by omega)
  iterate 1 (refine wmr_rd rfl rfl (fun K hK => ?_); go_simp; refine hK _ ?_; clear hK K)
  refine wmr_ld1 rfl rfl 25 (.tmp 12) rfl rfl (fun w' h => ((hfr w' h).cell 0).trans rfl) _ Tryd.underlying25 rfl ?_
  iterate 1 (refine wmr_rd rfl rfl (fun K hK => ?_); go_simp; refine hK _ ?_; clear hK K)
  refine wmr_ldR rfl rfl 24 (.tmp 14) rfl (g := g1) (off := 1) (t := 48) (whole := [.slice A k.length c, .int .u32 o, .int .i64 u, .int .i64 x, .int .i64 y]) (cs := [.int .u32 o, .int .i64 u]) hfr (fun j v h => by
    match j, h with
    | 0, h => exact h
    | 1, h => exact h
    | j + 2, h => simp at h) rfl _ Tryd.underlying24 rfl (by kernel_rfl) ?_
  iterate 1 (refine wmr_rd rfl rfl (fun K hK => ?_); go_simp; refine hK _ ?_; clear hK K)
  refine wmr_ld1 rfl rfl 2 (.tmp 16) rfl rfl (fun w' h => ((hfr w' h).cell 3).trans rfl) _ Tryd.underlying2 rfl ?_
  iterate 1 (refine wmr_rd rfl rfl (fun K hK => ?_); go_simp; refine hK _ ?_; clear hK K)
  refine wmr_ld1 rfl rfl 2 (.tmp 18) rfl rfl (fun w' h => ((hfr w' h).cell 4).trans rfl) _ Tryd.underlying2 rfl ?_
  refine wmr_ext rfl rfl (fun K hK => ?_)
  rw [if_pos (show Region.wanted _ _ = true from rfl)]
  refine wp_alS K1 24 rfl [.int .u32 0, .int .i64 0] (by kernel_rfl) (fun w2 hz2 hx2 K2 => hK _ _ (Ext.up hx2 _) ?_)
  clear hz2 hx2 hK K
  iterate 1 (refine wmr_rd rfl rfl (fun K hK => ?_); go_simp; refine hK _ ?_; clear hK K)
  refine wmr_ext rfl rfl (fun K hK => ?_)
  rw [if_pos (show Region.wanted _ _ = true from rfl)]
  refine wp_stS [] K2 24 (.tmp 4) (.tmp 15) rfl (cs := [.int .u32 o, .int .i64 u]) rfl rfl (by kernel_rfl) rfl (ses_one o u) (fun w3 K3 hu3 => hK _ _ (Upd.up hu3 (Nat.le_refl _)) ?_)
  dsimp only [List.nil_append] at K3
  clear hu3 hK K K2 K1 B1 hfr
  iterate 2 (refine wmr_rd rfl rfl (fun K hK => ?_); go_simp; refine hK _ ?_; clear hK K)
  refine wmr_nil ?_
  obtain ⟨g4, G4⟩ : ∃ g, wd.heap.size = g := ⟨_, rfl⟩
  rw [G4] at K3 ⊢
  clear G4 hgd
  obtain ⟨c0, c1, hg0⟩ := cells2 (K3.blk (g := g4) (e := 24) (cs := [.int .u32 o, .int .i64 u]) (List.Mem.head _))
  have KK := hide K3.toExt
  clear K3
  go_wp2_with fail
  (with_reducible refine (shown_any _ (HL.out.ext KK.out)).mono ?_)
  rintro e w1 ⟨rfl, hx⟩
  go_wp2_with fail
  go_ret
  exact ⟨rfl, KK.out.trans hx⟩
set_option maxRecDepth 100000 in
set_option maxHeartbeats 2000000 in
theorem ends_e2 (k : List Int) (A : Option Addr) (c : Nat) (o u x y : Int) (w : World) (hl : Laid w) (hk1 : ¬ k.length < 1) (h2 : 64 < k.length) :
    Calls Tryd.prog 8 #[.agg #[.slice A k.length c, .int .u32 o, .int .i64 u, .int .i64 x, .int .i64 y]] w fun e w' => e = .returned (.bool true) ∧ Ext w w' := by
  have HL := hide hl
  clear hl
  have dk1 : ¬ (k.length : Int) < 1 := by omega
  have d2 : (64 : Int) < (k.length : Int) := by omega
  have H0 := (Sep.refl No w).newB ((Ext.refl w).alloc (.cells #[.slice A k.length c, .int .u32 o, .int .i64 u, .int .i64 x, .int .i64 y] 48)) (Blk.new w 48 [.slice A k.length c, .int .u32 o, .int .i64 u, .int .i64 x, .int .i64 y]) (Nat.le_refl _)
  go_enter Tryd.func8, Tryd.ntmps8
  have hg1 := (H0.blk (g := w.heap.size) (e := 48) (cs := [.slice A k.length c, .int .u32 o, .int .i64 u, .int .i64 x, .int .i64 y]) (List.Mem.head _)).lt
  go_upto_region 1 with fail
  obtain ⟨w1, hw1⟩ : ∃ w1, World.alloc w (.cells #[.slice A k.length c, .int .u32 o, .int .i64 u, .int .i64 x, .int .i64 y] 48) = w1 := ⟨_, rfl⟩
  obtain ⟨g1, hg⟩ : ∃ g, w.heap.size = g := ⟨_, rfl⟩
  simp only [hw1, hg] at H0 hg1 ⊢
  clear hw1 hg
  refine wp_region_wmr (RT.up w1.drew.heap.size) [0, 1, 2, 3, 4, 5, 6, 7, 8, 9, 10, 11, 12] (by kernel_rfl) (by kernel_rfl) (by kernel_rfl) (by kernel_rfl) ?_
  have K1 := H0.drew
  clear H0
  have hgd : g1 < w1.drew.heap.size := hg1
  clear hg1
  generalize w1.drew = wd at *
  have B1 := K1.blk (g := g1) (e := 48) (cs := [.slice A k.length c, .int .u32 o, .int .i64 u, .int .i64 x, .int .i64 y]) (List.Mem.head _)
  have hfr : ∀ w', Fr (fun k => wd.heap.size ≤ k) wd w' → Blk w' g1 48 [.slice A k.length c, .int .u32 o, .int .i64 u, .int .i64 x, .int .i64 y] := fun w' h => Fr.blk h B1 (by omega)
  iterate 1 (refine wmr_rd rfl rfl (fun K hK => ?_); go_simp; refine hK _ ?_; clear hK K)
  refine wmr_ld1 rfl rfl 25 (.tmp 12) rfl rfl (fun w' h => ((hfr w' h).cell 0).trans rfl) _ Tryd.underlying25 rfl ?_
  iterate 1 (refine wmr_rd rfl rfl (fun K hK => ?_); go_simp; refine hK _ ?_; clear hK K)
  refine wmr_ldR rfl rfl 24 (.tmp 14) rfl (g := g1) (off := 1) (t := 48) (whole := [.slice A k.length c, .int .u32 o, .int .i64 u, .int .i64 x, .int .i64 y]) (cs := [.int .u32 o, .int .i64 u]) hfr (fun j v h => by
    match j, h with
    | 0, h => exact h
    | 1, h => exact h
    | j + 2, h => simp at h) rfl _ Tryd.underlying24 rfl (by kernel_rfl) ?_
  iterate 1 (refine wmr_rd rfl rfl (fun K hK => ?_); go_simp; refine hK _ ?_; clear hK K)
  refine wmr_ld1 rfl rfl 2 (.tmp 16) rfl rfl (fun w' h => ((hfr w' h).cell 3).trans rfl) _ Tryd.underlying2 rfl ?_
  iterate 1 (refine wmr_rd rfl rfl (fun K hK => ?_); go_simp; refine hK _ ?_; clear hK K)
  refine wmr_ld1 rfl rfl 2 (.tmp 18) rfl rfl (fun w' h => ((hfr w' h).cell 4).trans rfl) _ Tryd.underlying2 rfl ?_
  refine wmr_ext rfl rfl (fun K hK => ?_)
  rw [if_pos (show Region.wanted _ _ = true from rfl)]
  refine wp_alS K1 24 rfl [.int .u32 0, .int .i64 0] (by kernel_rfl) (fun w2 hz2 hx2 K2 => hK _ _ (Ext.up hx2 _) ?_)
  clear hz2 hx2 hK K
  iterate 1 (refine wmr_rd rfl rfl (fun K hK => ?_); go_simp; refine hK _ ?_; clear hK K)
  refine wmr_ext rfl rfl (fun K hK => ?_)
  rw [if_pos (show Region.wanted _ _ = true from rfl)]
  refine wp_stS [] K2 24 (.tmp 4) (.tmp 15) rfl (cs := [.int .u32 o, .int .i64 u]) rfl rfl (by kernel_rfl) rfl (ses_one o u) (fun w3 K3 hu3 => hK _ _ (Upd.up hu3 (Nat.le_refl _)) ?_)
  dsimp only [List.nil_append] at K3
  clear hu3 hK K K2 K1 B1 hfr
  iterate 2 (refine wmr_rd rfl rfl (fun K hK => ?_); go_simp; refine hK _ ?_; clear hK K)
  refine wmr_nil ?_
  obtain ⟨g4, G4⟩ : ∃ g, wd.heap.size = g := ⟨_, rfl⟩
  rw [G4] at K3 ⊢
  clear G4 hgd
  obtain ⟨c0, c1, hg0⟩ := cells2 (K3.blk (g := g4) (e := 24) (cs := [.int .u32 o, .int .i64 u]) (List.Mem.head _))
  have KK := hide K3.toExt
  clear K3
  go_wp2_with fail
  (with_reducible refine (shown_any _ (HL.out.ext KK.out)).mono ?_)
  rintro e w1 ⟨rfl, hx⟩
  go_wp2_with fail
  go_ret
  exact ⟨rfl, KK.out.trans hx⟩
set_option maxRecDepth 100000 in
set_option maxHeartbeats 2000000 in
theorem ends_e3 (k : List Int) (A : Option Addr) (c : Nat) (o u x y : Int) (w : World) (hl : Laid w) (hk1 : ¬ k.length < 1) (hk2 : ¬ 64 < k.length) (h3 : u < 0) :
    Calls Tryd.prog 8 #[.agg #[.slice A k.length c, .int .u32 o, .int .i64 u, .int .i64 x, .int .i64 y]] w fun e w' => e = .returned (.bool true) ∧ Ext w w' := by
  have HL := hide hl
  clear hl
  have dk1 : ¬ (k.length : Int) < 1 := by omega
  have d2 : ¬ (64 : Int) < (k.length : Int) := by omega
  have H0 := (Sep.refl No w).newB ((Ext.refl w).alloc (.cells #[.slice A k.length c, .int .u32 o, .int .i64 u, .int .i64 x, .int .i64 y] 48)) (Blk.new w 48 [.slice A k.length c, .int .u32 o, .int .i64 u, .int .i64 x, .int .i64 y]) (Nat.le_refl _)
  go_enter Tryd.func8, Tryd.ntmps8
  have hg1 := (H0.blk (g := w.heap.size) (e := 48) (cs := [.slice A k.length c, .int .u32 o, .int .i64 u, .int .i64 x, .int .i64 y]) (List.Mem.head _)).lt
  go_upto_region 1 with fail
  obtain ⟨w1, hw1⟩ : ∃ w1, World.alloc w (.cells #[.slice A k.length c, .int .u32 o, .int .i64 u, .int .i64 x, .int .i64 y] 48) = w1 := ⟨_, rfl⟩
  obtain ⟨g1, hg⟩ : ∃ g, w.heap.size = g := ⟨_, rfl⟩
  simp only [hw1, hg] at H0 hg1 ⊢
  clear hw1 hg
  refine wp_region_wmr (RT.up w1.drew.heap.size) [0, 1, 2, 3, 4, 5, 6, 7, 8, 9, 10, 11, 12] (by kernel_rfl) (by kernel_rfl) (by kernel_rfl) (by kernel_rfl) ?_
  have K1 := H0.drew
  clear H0
  have hgd : g1 < w1.drew.heap.size := hg1
  clear hg1
  generalize w1.drew = wd at *
  have B1 := K1.blk (g := g1) (e := 48) (cs := [.slice A k.length c, .int .u32 o, .int .i64 u, .int .i64 x, .int .i64 y]) (List.Mem.head _)
  have hfr : ∀ w', Fr (fun k => wd.heap.size ≤ k) wd w' → Blk w' g1 48 [.slice A k.length c, .int .u32 o, .int .i64 u, .int .i64 x, .int .i64 y] := fun w' h => Fr.blk h B1 (by omega)
  iterate 1 (refine wmr_rd rfl rfl (fun K hK => ?_); go_simp; refine hK _ ?_; clear hK K)
  refine wmr_ld1 rfl rfl 25 (.tmp 12) rfl rfl (fun w' h => ((hfr w' h).cell 0).trans rfl) _ Tryd.underlying25 rfl ?_
  iterate 1 (refine wmr_rd rfl rfl (fun K hK => ?_); go_simp; refine hK _ ?_; clear hK K)
  refine wmr_ldR rfl rfl 24 (.tmp 14) rfl (g := g1) (off := 1) (t := 48) (whole := [.slice A k.length c, .int .u32 o, .int .i64 u, .int .i64 x, .int .i64 y]) (cs := [.int .u32 o, .int .i64 u]) hfr (fun j v h => by
    match j, h with
    | 0, h => exact h
    | 1, h => exact h
    | j + 2, h => simp at h) rfl _ Tryd.underlying24 rfl (by kernel_rfl) ?_
  iterate 1 (refine wmr_rd rfl rfl (fun K hK => ?_); go_simp; refine hK _ ?_; clear hK K)
  refine wmr_ld1 rfl rfl 2 (.tmp 16) rfl rfl (fun w' h => ((hfr w' h).cell 3).trans rfl) _ Tryd.underlying2 rfl ?_
  iterate 1 (refine wmr_rd rfl rfl (fun K hK => ?_); go_simp; refine hK _ ?_; clear hK K)
  refine wmr_ld1 rfl rfl 2 (.tmp 18) rfl rfl (fun w' h => ((hfr w' h).cell 4).trans rfl) _ Tryd.underlying2 rfl ?_
  refine wmr_ext rfl rfl (fun K hK => ?_)
  rw [if_pos (show Region.wanted _ _ = true from rfl)]
  refine wp_alS K1 24 rfl [.int .u32 0, .int .i64 0] (by kernel_rfl) (fun w2 hz2 hx2 K2 => hK _ _ (Ext.up hx2 _) ?_)
  clear hz2 hx2 hK K
  iterate 1 (refine wmr_rd rfl rfl (fun K hK => ?_); go_simp; refine hK _ ?_; clear hK K)
  refine wmr_ext rfl rfl (fun K hK => ?_)
  rw [if_pos (show Region.wanted _ _ = true from rfl)]
  refine wp_stS [] K2 24 (.tmp 4) (.tmp 15) rfl (cs := [.int .u32 o, .int .i64 u]) rfl rfl (by kernel_rfl) rfl (ses_one o u) (fun w3 K3 hu3 => hK _ _ (Upd.up hu3 (Nat.le_refl _)) ?_)
  dsimp only [List.nil_append] at K3
  clear hu3 hK K K2 K1 B1 hfr
  iterate 2 (refine wmr_rd rfl rfl (fun K hK => ?_); go_simp; refine hK _ ?_; clear hK K)
  refine wmr_nil ?_
  obtain ⟨g4, G4⟩ : ∃ g, wd.heap.size = g := ⟨_, rfl⟩
  rw [G4] at K3 ⊢
  clear G4 hgd
  obtain ⟨c0, c1, hg0⟩ := cells2 (K3.blk (g := g4) (e := 24) (cs := [.int .u32 o, .int .i64 u]) (List.Mem.head _))
  have KK := hide K3.toExt
  clear K3
  go_wp2_with fail
  (with_reducible refine (shown_any _ (HL.out.ext KK.out)).mono ?_)
  rintro e w1 ⟨rfl, hx⟩
  go_wp2_with fail
  go_ret
  exact ⟨rfl, KK.out.trans hx⟩
set_option maxRecDepth 100000 in
set_option maxHeartbeats 2000000 in
theorem ends_e4 (k : List Int) (A : Option Addr) (c : Nat) (o u x y : Int) (w : World) (hl : Laid w) (hk1 : ¬ k.length < 1) (hk2 : ¬ 64 < k.length) (h3 : ¬ u < 0) (h4 : x < 0) :
    Calls Tryd.prog 8 #[.agg #[.slice A k.length c, .int .u32 o, .int .i64 u, .int .i64 x, .int .i64 y]] w fun e w' => e = .returned (.bool true) ∧ Ext w w' := by
  have HL := hide hl
  clear hl
  have dk1 : ¬ (k.length : Int) < 1 := by omega
  have d2 : ¬ (64 : Int) < (k.length : Int) := by omega
  have H0 := (Sep.refl No w).newB ((Ext.refl w).alloc (.cells #[.slice A k.length c, .int .u32 o, .int .i64 u, .int .i64 x, .int .i64 y] 48)) (Blk.new w 48 [.slice A k.length c, .int .u32 o, .int .i64 u, .int .i64 x, .int .i64 y]) (Nat.le_refl _)
  go_enter Tryd.func8, Tryd.ntmps8
  have hg1 := (H0.blk (g := w.heap.size) (e := 48) (cs := [.slice A k.length c, .int .u32 o, .int .i64 u, .int .i64 x, .int .i64 y]) (List.Mem.head _)).lt
  go_upto_region 1 with fail
  obtain ⟨w1, hw1⟩ : ∃ w1, World.alloc w (.cells #[.slice A k.length c, .int .u32 o, .int .i64 u, .int .i64 x, .int .i64 y] 48) = w1 := ⟨_, rfl⟩
  obtain ⟨g1, hg⟩ : ∃ g, w.heap.size = g := ⟨_, rfl⟩
  simp only [hw1, hg] at H0 hg1 ⊢
  clear hw1 hg
  refine wp_region_wmr (RT.up w1.drew.heap.size) [0, 1, 2, 3, 4, 5, 6, 7, 8, 9, 10, 11, 12] (by kernel_rfl) (by kernel_rfl) (by kernel_rfl) (by kernel_rfl) ?_
  have K1 := H0.drew
  clear H0
  have hgd : g1 < w1.drew.heap.size := hg1
  clear hg1
  generalize w1.drew = wd at *
  have B1 := K1.blk (g := g1) (e := 48) (cs := [.slice A k.length c, .int .u32 o, .int .i64 u, .int .i64 x, .int .i64 y]) (List.Mem.head _)
  have hfr : ∀ w', Fr (fun k => wd.heap.size ≤ k) wd w' → Blk w' g1 48 [.slice A k.length c, .int .u32 o, .int .i64 u, .int .i64 x, .int .i64 y] := fun w' h => Fr.blk h B1 (by omega)
  iterate 1 (refine wmr_rd rfl rfl (fun K hK => ?_); go_simp; refine hK _ ?_; clear hK K)
  refine wmr_ld1 rfl rfl 25 (.tmp 12) rfl rfl (fun w' h => ((hfr w' h).cell 0).trans rfl) _ Tryd.underlying25 rfl ?_
  iterate 1 (refine wmr_rd rfl rfl (fun K hK => ?_); go_simp; refine hK _ ?_; clear hK K)
  refine wmr_ldR rfl rfl 24 (.tmp 14) rfl (g := g1) (off := 1) (t := 48) (whole := [.slice A k.length c, .int .u32 o, .int .i64 u, .int .i64 x, .int .i64 y]) (cs := [.int .u32 o, .int .i64 u]) hfr (fun j v h => by
    match j, h with
    | 0, h => exact h
    | 1, h => exact h
    | j + 2, h => simp at h) rfl _ Tryd.underlying24 rfl (by kernel_rfl) ?_
  iterate 1 (refine wmr_rd rfl rfl (fun K hK => ?_); go_simp; refine hK _ ?_; clear hK K)
  refine wmr_ld1 rfl rfl 2 (.tmp 16) rfl rfl (fun w' h => ((hfr w' h).cell 3).trans rfl) _ Tryd.underlying2 rfl ?_
  iterate 1 (refine wmr_rd rfl rfl (fun K hK => ?_); go_simp; refine hK _ ?_; clear hK K)
  refine wmr_ld1 rfl rfl 2 (.tmp 18) rfl rfl (fun w' h => ((hfr w' h).cell 4).trans rfl) _ Tryd.underlying2 rfl ?_
  refine wmr_ext rfl rfl (fun K hK => ?_)
  rw [if_pos (show Region.wanted _ _ = true from rfl)]
  refine wp_alS K1 24 rfl [.int .u32 0, .int .i64 0] (by kernel_rfl) (fun w2 hz2 hx2 K2 => hK _ _ (Ext.up hx2 _) ?_)
  clear hz2 hx2 hK K
  iterate 1 (refine wmr_rd rfl rfl (fun K hK => ?_); go_simp; refine hK _ ?_; clear hK K)
  refine wmr_ext rfl rfl (fun K hK => ?_)
  rw [if_pos (show Region.wanted _ _ = true from rfl)]
  refine wp_stS [] K2 24 (.tmp 4) (.tmp 15) rfl (cs := [.int .u32 o, .int .i64 u]) rfl rfl (by kernel_rfl) rfl (ses_one o u) (fun w3 K3 hu3 => hK _ _ (Upd.up hu3 (Nat.le_refl _)) ?_)
  dsimp only [List.nil_append] at K3
  clear hu3 hK K K2 K1 B1 hfr
  iterate 2 (refine wmr_rd rfl rfl (fun K hK => ?_); go_simp; refine hK _ ?_; clear hK K)
  refine wmr_nil ?_
  obtain ⟨g4, G4⟩ : ∃ g, wd.heap.size = g := ⟨_, rfl⟩
  rw [G4] at K3 ⊢
  clear G4 hgd
  obtain ⟨c0, c1, hg0⟩ := cells2 (K3.blk (g := g4) (e := 24) (cs := [.int .u32 o, .int .i64 u]) (List.Mem.head _))
  have KK := hide K3.toExt
  clear K3
  go_wp2_with fail
  (with_reducible refine (shown_any _ (HL.out.ext KK.out)).mono ?_)
  rintro e w1 ⟨rfl, hx⟩
  go_wp2_with fail
  go_ret
  exact ⟨rfl, KK.out.trans hx⟩
set_option maxRecDepth 100000 in
set_option maxHeartbeats 2000000 in
theorem ends_e5 (k : List Int) (A : Option Addr) (c : Nat) (o u x y : Int) (w : World) (hl : Laid w) (hk1 : ¬ k.length < 1) (hk2 : ¬ 64 < k.length) (h3 : ¬ u < 0) (h4 : ¬ x < 0) (h5 : y < 0) :
    Calls Tryd.prog 8 #[.agg #[.slice A k.length c, .int .u32 o, .int .i64 u, .int .i64 x, .int .i64 y]] w fun e w' => e = .returned (.bool true) ∧ Ext w w' := by
  have HL := hide hl
  clear hl
  have dk1 : ¬ (k.length : Int) < 1 := by omega
  have d2 : ¬ (64 : Int) < (k.length : Int) := by omega
  have H0 := (Sep.refl No w).newB ((Ext.refl w).alloc (.cells #[.slice A k.length c, .int .u32 o, .int .i64 u, .int .i64 x, .int .i64 y] 48)) (Blk.new w 48 [.slice A k.length c, .int .u32 o, .int .i64 u, .int .i64 x, .int .i64 y]) (Nat.le_refl _)
  go_enter Tryd.func8, Tryd.ntmps8
  have hg1 := (H0.blk (g := w.heap.size) (e := 48) (cs := [.slice A k.length c, .int .u32 o, .int .i64 u, .int .i64 x, .int .i64 y]) (List.Mem.head _)).lt
  go_upto_region 1 with fail
  obtain ⟨w1, hw1⟩ : ∃ w1, World.alloc w (.cells #[.slice A k.length c, .int .u32 o, .int .i64 u, .int .i64 x, .int .i64 y] 48) = w1 := ⟨_, rfl⟩
  obtain ⟨g1, hg⟩ : ∃ g, w.heap.size = g := ⟨_, rfl⟩
  simp only [hw1, hg] at H0 hg1 ⊢
  clear hw1 hg
  refine wp_region_wmr (RT.up w1.drew.heap.size) [0, 1, 2, 3, 4, 5, 6, 7, 8, 9, 10, 11, 12] (by kernel_rfl) (by kernel_rfl) (by kernel_rfl) (by kernel_rfl) ?_
  have K1 := H0.drew
  clear H0
  have hgd : g1 < w1.drew.heap.size := hg1
  clear hg1
  generalize w1.drew = wd at *
  have B1 := K1.blk (g := g1) (e := 48) (cs := [.slice A k.length c, .int .u32 o, .int .i64 u, .int .i64 x, .int .i64 y]) (List.Mem.head _)
  have hfr : ∀ w', Fr (fun k => wd.heap.size ≤ k) wd w' → Blk w' g1 48 [.slice A k.length c, .int .u32 o, .int .i64 u, .int .i64 x, .int .i64 y] := fun w' h => Fr.blk h B1 (by omega)
  iterate 1 (refine wmr_rd rfl rfl (fun K hK => ?_); go_simp; refine hK _ ?_; clear hK K)
  refine wmr_ld1 rfl rfl 25 (.tmp 12) rfl rfl (fun w' h => ((hfr w' h).cell 0).trans rfl) _ Tryd.underlying25 rfl ?_
  iterate 1 (refine wmr_rd rfl rfl (fun K hK => ?_); go_simp; refine hK _ ?_; clear hK K)
  refine wmr_ldR rfl rfl 24 (.tmp 14) rfl (g := g1) (off := 1) (t := 48) (whole := [.slice A k.length c, .int .u32 o, .int .i64 u, .int .i64 x, .int .i64 y]) (cs := [.int .u32 o, .int .i64 u]) hfr (fun j v h => by
    match j, h with
    | 0, h => exact h
    | 1, h => exact h
    | j + 2, h => simp at h) rfl _ Tryd.underlying24 rfl (by kernel_rfl) ?_
  iterate 1 (refine wmr_rd rfl rfl (fun K hK => ?_); go_simp; refine hK _ ?_; clear hK K)
  refine wmr_ld1 rfl rfl 2 (.tmp 16) rfl rfl (fun w' h => ((hfr w' h).cell 3).trans rfl) _ Tryd.underlying2 rfl ?_
  iterate 1 (refine wmr_rd rfl rfl (fun K hK => ?_); go_simp; refine hK _ ?_; clear hK K)
  refine wmr_ld1 rfl rfl 2 (.tmp 18) rfl rfl (fun w' h => ((hfr w' h).cell 4).trans rfl) _ Tryd.underlying2 rfl ?_
  refine wmr_ext rfl rfl (fun K hK => ?_)
  rw [if_pos (show Region.wanted _ _ = true from rfl)]
  refine wp_alS K1 24 rfl [.int .u32 0, .int .i64 0] (by kernel_rfl) (fun w2 hz2 hx2 K2 => hK _ _ (Ext.up hx2 _) ?_)
  clear hz2 hx2 hK K
  iterate 1 (refine wmr_rd rfl rfl (fun K hK => ?_); go_simp; refine hK _ ?_; clear hK K)
  refine wmr_ext rfl rfl (fun K hK => ?_)
  rw [if_pos (show Region.wanted _ _ = true from rfl)]
  refine wp_stS [] K2 24 (.tmp 4) (.tmp 15) rfl (cs := [.int .u32 o, .int .i64 u]) rfl rfl (by kernel_rfl) rfl (ses_one o u) (fun w3 K3 hu3 => hK _ _ (Upd.up hu3 (Nat.le_refl _)) ?_)
  dsimp only [List.nil_append] at K3
  clear hu3 hK K K2 K1 B1 hfr
  iterate 2 (refine wmr_rd rfl rfl (fun K hK => ?_); go_simp; refine hK _ ?_; clear hK K)
  refine wmr_nil ?_
  obtain ⟨g4, G4⟩ : ∃ g, wd.heap.size = g := ⟨_, rfl⟩
  rw [G4] at K3 ⊢
  clear G4 hgd
  obtain ⟨c0, c1, hg0⟩ := cells2 (K3.blk (g := g4) (e := 24) (cs := [.int .u32 o, .int .i64 u]) (List.Mem.head _))
  have KK := hide K3.toExt
  clear K3
  go_wp2_with fail
  (with_reducible refine (shown_any _ (HL.out.ext KK.out)).mono ?_)
  rintro e w1 ⟨rfl, hx⟩
  go_wp2_with fail
  go_ret
  exact ⟨rfl, KK.out.trans hx⟩
set_option maxRecDepth 100000 in
set_option maxHeartbeats 2000000 in
theorem ends_lt11 (k T : List Int) (A : Option Addr) (c : Nat) (o u x y p q : Int) (w : World) (hl : Laid w) (hk : keyOk k) (hu : ¬ u < 0) (hx0 : ¬ x < 0) (hy0 : ¬ y < 0) (hTl : T.length = 44)
    (hxy : x < y) (hM : u ≤ x) (hxu : ¬ x < u)
    (hiss : ∀ x, Ext w x → Calls Tryd.prog 15 #[.slice A k.length c, ses o u] x fun e w' => ∃ g, e = .returned (.tuple #[.slice (some ⟨g, 0, none⟩) 44 44, .int .i64 0]) ∧ Sep No x w' [As.blk g 64 (byt T)])
    (hov1 : ∀ W, Calls Tryd.prog 23 #[ses o u, .int .i64 x] W fun e w' => e = .returned (.tuple #[.bool true, .int .i64 0]) ∧ Ext W w')
    (hov2 : ∀ W, Calls Tryd.prog 23 #[ses o u, .int .i64 y] W fun e w' => e = .returned (.tuple #[.bool true, .int .i64 0]) ∧ Ext W w')
    (hacc : ∀ g W, Ext w W → Rd W (some ⟨g, 0, none⟩) (byt T) → Calls Tryd.prog 21 #[.slice A k.length c, .slice (some ⟨g, 0, none⟩) 44 44, .int .i64 x] W fun e w' => e = .returned (.tuple #[ses p q, .int .i64 13]) ∧ Ext W w') :
    Calls Tryd.prog 8 #[.agg #[.slice A k.length c, .int .u32 o, .int .i64 u, .int .i64 x, .int .i64 y]] w fun e w' => e = .returned (.bool true) ∧ Ext w w' := by
  have HL := hide hl
  have HIS := hide hiss
  have HO1 := hide hov1
  have HO2 := hide hov2
  have HAC := hide hacc
  have dk1 : ¬ (k.length : Int) < 1 := by have := hk.1; omega
  have dk2 : ¬ (64 : Int) < (k.length : Int) := by have := hk.2; omega
  have hyx : ¬ y < x := by omega
  have hM2 : ¬ x < u := by omega
  clear hl hk hiss hov1 hov2 hacc hTl
  have H0 := (Sep.refl No w).newB ((Ext.refl w).alloc (.cells #[.slice A k.length c, .int .u32 o, .int .i64 u, .int .i64 x, .int .i64 y] 48)) (Blk.new w 48 [.slice A k.length c, .int .u32 o, .int .i64 u, .int .i64 x, .int .i64 y]) (Nat.le_refl _)
  go_enter Tryd.func8, Tryd.ntmps8
  have hg1 := (H0.blk (g := w.heap.size) (e := 48) (cs := [.slice A k.length c, .int .u32 o, .int .i64 u, .int .i64 x, .int .i64 y]) (List.Mem.head _)).lt
  go_upto_region 1 with fail
  obtain ⟨w1, hw1⟩ : ∃ w1, World.alloc w (.cells #[.slice A k.length c, .int .u32 o, .int .i64 u, .int .i64 x, .int .i64 y] 48) = w1 := ⟨_, rfl⟩
  obtain ⟨g1, hg⟩ : ∃ g, w.heap.size = g := ⟨_, rfl⟩
  simp only [hw1, hg] at H0 hg1 ⊢
  clear hw1 hg
  refine wp_region_wmr (RT.up w1.drew.heap.size) [0, 1, 2, 3, 4, 5, 6, 7, 8, 9, 10, 11, 12] (by kernel_rfl) (by kernel_rfl) (by kernel_rfl) (by kernel_rfl) ?_
  have K1 := H0.drew
  clear H0
  have hgd : g1 < w1.drew.heap.size := hg1
  clear hg1
  generalize w1.drew = wd at *
  have B1 := K1.blk (g := g1) (e := 48) (cs := [.slice A k.length c, .int .u32 o, .int .i64 u, .int .i64 x, .int .i64 y]) (List.Mem.head _)
  have hfr : ∀ w', Fr (fun k => wd.heap.size ≤ k) wd w' → Blk w' g1 48 [.slice A k.length c, .int .u32 o, .int .i64 u, .int .i64 x, .int .i64 y] := fun w' h => Fr.blk h B1 (by omega)
  iterate 1 (refine wmr_rd rfl rfl (fun K hK => ?_); go_simp; refine hK _ ?_; clear hK K)
  refine wmr_ld1 rfl rfl 25 (.tmp 12) rfl rfl (fun w' h => ((hfr w' h).cell 0).trans rfl) _ Tryd.underlying25 rfl ?_
  iterate 1 (refine wmr_rd rfl rfl (fun K hK => ?_); go_simp; refine hK _ ?_; clear hK K)
  refine wmr_ldR rfl rfl 24 (.tmp 14) rfl (g := g1) (off := 1) (t := 48) (whole := [.slice A k.length c, .int .u32 o, .int .i64 u, .int .i64 x, .int .i64 y]) (cs := [.int .u32 o, .int .i64 u]) hfr (fun j v h => by
    match j, h with
    | 0, h => exact h
    | 1, h => exact h
    | j + 2, h => simp at h) rfl _ Tryd.underlying24 rfl (by kernel_rfl) ?_
  iterate 1 (refine wmr_rd rfl rfl (fun K hK => ?_); go_simp; refine hK _ ?_; clear hK K)
  refine wmr_ld1 rfl rfl 2 (.tmp 16) rfl rfl (fun w' h => ((hfr w' h).cell 3).trans rfl) _ Tryd.underlying2 rfl ?_
  iterate 1 (refine wmr_rd rfl rfl (fun K hK => ?_); go_simp; refine hK _ ?_; clear hK K)
  refine wmr_ld1 rfl rfl 2 (.tmp 18) rfl rfl (fun w' h => ((hfr w' h).cell 4).trans rfl) _ Tryd.underlying2 rfl ?_
  refine wmr_ext rfl rfl (fun K hK => ?_)
  rw [if_pos (show Region.wanted _ _ = true from rfl)]
  refine wp_alS K1 24 rfl [.int .u32 0, .int .i64 0] (by kernel_rfl) (fun w2 hz2 hx2 K2 => hK _ _ (Ext.up hx2 _) ?_)
  clear hz2 hx2 hK K
  iterate 1 (refine wmr_rd rfl rfl (fun K hK => ?_); go_simp; refine hK _ ?_; clear hK K)
  refine wmr_ext rfl rfl (fun K hK => ?_)
  rw [if_pos (show Region.wanted _ _ = true from rfl)]
  refine wp_stS [] K2 24 (.tmp 4) (.tmp 15) rfl (cs := [.int .u32 o, .int .i64 u]) rfl rfl (by kernel_rfl) rfl (ses_one o u) (fun w3 K3 hu3 => hK _ _ (Upd.up hu3 (Nat.le_refl _)) ?_)
  dsimp only [List.nil_append] at K3
  clear hu3 hK K K2 K1 B1 hfr
  iterate 2 (refine wmr_rd rfl rfl (fun K hK => ?_); go_simp; refine hK _ ?_; clear hK K)
  refine wmr_nil ?_
  obtain ⟨g4, G4⟩ : ∃ g, wd.heap.size = g := ⟨_, rfl⟩
  rw [G4] at K3 ⊢
  clear G4 hgd
  obtain ⟨c0, c1, hg0⟩ := cells2 (K3.blk (g := g4) (e := 24) (cs := [.int .u32 o, .int .i64 u]) (List.Mem.head _))
  have KK := hide K3
  clear K3
  go_wp2_with fail
  (with_reducible refine (HIS.out _ KK.out.toExt).mono ?_)
  rintro e w4 ⟨g7, rfl, hS⟩
  have K4 := KK.out.join hS
  dsimp only [List.nil_append, List.cons_append] at K4
  clear KK hS HIS c0 c1 hg0
  obtain ⟨c0, c1, hg0⟩ := cells2 (K4.blk (g := g4) (e := 24) (cs := [.int .u32 o, .int .i64 u]) (List.Mem.tail _ (List.Mem.head _)))
  have KK := hide K4
  clear K4
  go_wp2_with fail
  (with_reducible refine (HO1.out _).mono ?_)
  rintro e w5 ⟨rfl, hx5⟩
  have K5 := KK.out.ext hx5
  clear KK hx5 HO1 c0 c1 hg0
  obtain ⟨c0, c1, hg0⟩ := cells2 (K5.blk (g := g4) (e := 24) (cs := [.int .u32 o, .int .i64 u]) (List.Mem.tail _ (List.Mem.head _)))
  have KK := hide K5
  clear K5
  go_wp2_with fail
  (with_reducible refine (HO2.out _).mono ?_)
  rintro e w6 ⟨rfl, hx6⟩
  have K6 := KK.out.ext hx6
  clear KK hx6 HO2 c0 c1 hg0
  obtain ⟨c0, c1, hg0⟩ := cells2 (K6.blk (g := g4) (e := 24) (cs := [.int .u32 o, .int .i64 u]) (List.Mem.tail _ (List.Mem.head _)))
  have HR7 := hide (K6.blk (g := g7) (e := 64) (cs := byt T) (List.Mem.head _)).rd
  have KK := hide K6
  clear K6
  go_wp2_with fail
  (with_reducible refine (HAC.out g7 _ KK.out.toExt HR7.out).mono ?_)
  rintro e w7 ⟨rfl, hx7⟩
  have K7 := KK.out.ext hx7
  clear KK hx7 HAC HR7 c0 c1 hg0
  obtain ⟨c0, c1, hg0⟩ := cells2 (K7.blk (g := g4) (e := 24) (cs := [.int .u32 o, .int .i64 u]) (List.Mem.tail _ (List.Mem.head _)))
  have KK := hide K7.toExt
  clear K7
  go_wp2_with fail
  (with_reducible refine (shown_any _ (HL.out.ext KK.out)).mono ?_)
  rintro e w8 ⟨rfl, hx8⟩
  go_wp2_with fail
  go_ret
  exact ⟨by first | rfl | (rw [show decide (x < u) = false from decide_eq_false (by omega)]; rfl) | (rw [show decide (x < u) = true from decide_eq_true (by omega)]; rfl), KK.out.trans hx8⟩
set_option maxRecDepth 100000 in
set_option maxHeartbeats 2000000 in
theorem ends_lt01 (k T : List Int) (A : Option Addr) (c : Nat) (o u x y p q : Int) (w : World) (hl : Laid w) (hk : keyOk k) (hu : ¬ u < 0) (hx0 : ¬ x < 0) (hy0 : ¬ y < 0) (hTl : T.length = 44)
    (hxy : x < y) (hM : ¬ u ≤ x) (hxu : x < u)
    (hiss : ∀ x, Ext w x → Calls Tryd.prog 15 #[.slice A k.length c, ses o u] x fun e w' => ∃ g, e = .returned (.tuple #[.slice (some ⟨g, 0, none⟩) 44 44, .int .i64 0]) ∧ Sep No x w' [As.blk g 64 (byt T)])
    (hov1 : ∀ W, Calls Tryd.prog 23 #[ses o u, .int .i64 x] W fun e w' => e = .returned (.tuple #[.bool false, .int .i64 0]) ∧ Ext W w')
    (hov2 : ∀ W, Calls Tryd.prog 23 #[ses o u, .int .i64 y] W fun e w' => e = .returned (.tuple #[.bool true, .int .i64 0]) ∧ Ext W w')
    (hacc : ∀ g W, Ext w W → Rd W (some ⟨g, 0, none⟩) (byt T) → Calls Tryd.prog 21 #[.slice A k.length c, .slice (some ⟨g, 0, none⟩) 44 44, .int .i64 x] W fun e w' => e = .returned (.tuple #[ses p q, .int .i64 0]) ∧ Ext W w') :
    Calls Tryd.prog 8 #[.agg #[.slice A k.length c, .int .u32 o, .int .i64 u, .int .i64 x, .int .i64 y]] w fun e w' => e = .returned (.bool true) ∧ Ext w w' := by
  have HL := hide hl
  have HIS := hide hiss
  have HO1 := hide hov1
  have HO2 := hide hov2
  have HAC := hide hacc
  have dk1 : ¬ (k.length : Int) < 1 := by have := hk.1; omega
  have dk2 : ¬ (64 : Int) < (k.length : Int) := by have := hk.2; omega
  have hyx : ¬ y < x := by omega
  have hM2 : x < u := by omega
  clear hl hk hiss hov1 hov2 hacc hTl
  have H0 := (Sep.refl No w).newB ((Ext.refl w).alloc (.cells #[.slice A k.length c, .int .u32 o, .int .i64 u, .int .i64 x, .int .i64 y] 48)) (Blk.new w 48 [.slice A k.length c, .int .u32 o, .int .i64 u, .int .i64 x, .int .i64 y]) (Nat.le_refl _)
  go_enter Tryd.func8, Tryd.ntmps8
  have hg1 := (H0.blk (g := w.heap.size) (e := 48) (cs := [.slice A k.length c, .int .u32 o, .int .i64 u, .int .i64 x, .int .i64 y]) (List.Mem.head _)).lt
  go_upto_region 1 with fail
  obtain ⟨w1, hw1⟩ : ∃ w1, World.alloc w (.cells #[.slice A k.length c, .int .u32 o, .int .i64 u, .int .i64 x, .int .i64 y] 48) = w1 := ⟨_, rfl⟩
  obtain ⟨g1, hg⟩ : ∃ g, w.heap.size = g := ⟨_, rfl⟩
  simp only [hw1, hg] at H0 hg1 ⊢
  clear hw1 hg
  refine wp_region_wmr (RT.up w1.drew.heap.size) [0, 1, 2, 3, 4, 5, 6, 7, 8, 9, 10, 11, 12] (by kernel_rfl) (by kernel_rfl) (by kernel_rfl) (by kernel_rfl) ?_
  have K1 := H0.drew
  clear H0
  have hgd : g1 < w1.drew.heap.size := hg1
  clear hg1
  generalize w1.drew = wd at *
  have B1 := K1.blk (g := g1) (e := 48) (cs := [.slice A k.length c, .int .u32 o, .int .i64 u, .int .i64 x, .int .i64 y]) (List.Mem.head _)
  have hfr : ∀ w', Fr (fun k => wd.heap.size ≤ k) wd w' → Blk w' g1 48 [.slice A k.length c, .int .u32 o, .int .i64 u, .int .i64 x, .int .i64 y] := fun w' h => Fr.blk h B1 (by omega)
  iterate 1 (refine wmr_rd rfl rfl (fun K hK => ?_); go_simp; refine hK _ ?_; clear hK K)
  refine wmr_ld1 rfl rfl 25 (.tmp 12) rfl rfl (fun w' h => ((hfr w' h).cell 0).trans rfl) _ Tryd.underlying25 rfl ?_
  iterate 1 (refine wmr_rd rfl rfl (fun K hK => ?_); go_simp; refine hK _ ?_; clear hK K)
  refine wmr_ldR rfl rfl 24 (.tmp 14) rfl (g := g1) (off := 1) (t := 48) (whole := [.slice A k.length c, .int .u32 o, .int .i64 u, .int .i64 x, .int .i64 y]) (cs := [.int .u32 o, .int .i64 u]) hfr (fun j v h => by
    match j, h with
    | 0, h => exact h
    | 1, h => exact h
    | j + 2, h => simp at h) rfl _ Tryd.underlying24 rfl (by kernel_rfl) ?_
  iterate 1 (refine wmr_rd rfl rfl (fun K hK => ?_); go_simp; refine hK _ ?_; clear hK K)
  refine wmr_ld1 rfl rfl 2 (.tmp 16) rfl rfl (fun w' h => ((hfr w' h).cell 3).trans rfl) _ Tryd.underlying2 rfl ?_
  iterate 1 (refine wmr_rd rfl rfl (fun K hK => ?_); go_simp; refine hK _ ?_; clear hK K)
  refine wmr_ld1 rfl rfl 2 (.tmp 18) rfl rfl (fun w' h => ((hfr w' h).cell 4).trans rfl) _ Tryd.underlying2 rfl ?_
  refine wmr_ext rfl rfl (fun K hK => ?_)
  rw [if_pos (show Region.wanted _ _ = true from rfl)]
  refine wp_alS K1 24 rfl [.int .u32 0, .int .i64 0] (by kernel_rfl) (fun w2 hz2 hx2 K2 => hK _ _ (Ext.up hx2 _) ?_)
  clear hz2 hx2 hK K
  iterate 1 (refine wmr_rd rfl rfl (fun K hK => ?_); go_simp; refine hK _ ?_; clear hK K)
  refine wmr_ext rfl rfl (fun K hK => ?_)
  rw [if_pos (show Region.wanted _ _ = true from rfl)]
  refine wp_stS [] K2 24 (.tmp 4) (.tmp 15) rfl (cs := [.int .u32 o, .int .i64 u]) rfl rfl (by kernel_rfl) rfl (ses_one o u) (fun w3 K3 hu3 => hK _ _ (Upd.up hu3 (Nat.le_refl _)) ?_)
  dsimp only [List.nil_append] at K3
  clear hu3 hK K K2 K1 B1 hfr
  iterate 2 (refine wmr_rd rfl rfl (fun K hK => ?_); go_simp; refine hK _ ?_; clear hK K)
  refine wmr_nil ?_
  obtain ⟨g4, G4⟩ : ∃ g, wd.heap.size = g := ⟨_, rfl⟩
  rw [G4] at K3 ⊢
  clear G4 hgd
  obtain ⟨c0, c1, hg0⟩ := cells2 (K3.blk (g := g4) (e := 24) (cs := [.int .u32 o, .int .i64 u]) (List.Mem.head _))
  have KK := hide K3
  clear K3
  go_wp2_with fail
  (with_reducible refine (HIS.out _ KK.out.toExt).mono ?_)
  rintro e w4 ⟨g7, rfl, hS⟩
  have K4 := KK.out.join hS
  dsimp only [List.nil_append, List.cons_append] at K4
  clear KK hS HIS c0 c1 hg0
  obtain ⟨c0, c1, hg0⟩ := cells2 (K4.blk (g := g4) (e := 24) (cs := [.int .u32 o, .int .i64 u]) (List.Mem.tail _ (List.Mem.head _)))
  have KK := hide K4
  clear K4
  go_wp2_with fail
  (with_reducible refine (HO1.out _).mono ?_)
  rintro e w5 ⟨rfl, hx5⟩
  have K5 := KK.out.ext hx5
  clear KK hx5 HO1 c0 c1 hg0
  obtain ⟨c0, c1, hg0⟩ := cells2 (K5.blk (g := g4) (e := 24) (cs := [.int .u32 o, .int .i64 u]) (List.Mem.tail _ (List.Mem.head _)))
  have KK := hide K5
  clear K5
  go_wp2_with fail
  (with_reducible refine (HO2.out _).mono ?_)
  rintro e w6 ⟨rfl, hx6⟩
  have K6 := KK.out.ext hx6
  clear KK hx6 HO2 c0 c1 hg0
  obtain ⟨c0, c1, hg0⟩ := cells2 (K6.blk (g := g4) (e := 24) (cs := [.int .u32 o, .int .i64 u]) (List.Mem.tail _ (List.Mem.head _)))
  have HR7 := hide (K6.blk (g := g7) (e := 64) (cs := byt T) (List.Mem.head _)).rd
  have KK := hide K6
  clear K6
  go_wp2_with fail
  (with_reducible refine (HAC.out g7 _ KK.out.toExt HR7.out).mono ?_)
  rintro e w7 ⟨rfl, hx7⟩
  have K7 := KK.out.ext hx7
  clear KK hx7 HAC HR7 c0 c1 hg0
  obtain ⟨c0, c1, hg0⟩ := cells2 (K7.blk (g := g4) (e := 24) (cs := [.int .u32 o, .int .i64 u]) (List.Mem.tail _ (List.Mem.head _)))
  have KK := hide K7.toExt
  clear K7
  go_wp2_with fail
  (with_reducible refine (shown_any _ (HL.out.ext KK.out)).mono ?_)
  rintro e w8 ⟨rfl, hx8⟩
  go_wp2_with fail
  go_ret
  exact ⟨by first | rfl | (rw [show decide (x < u) = false from decide_eq_false (by omega)]; rfl) | (rw [show decide (x < u) = true from decide_eq_true (by omega)]; rfl), KK.out.trans hx8⟩
set_option maxRecDepth 100000 in
set_option maxHeartbeats 2000000 in
theorem ends_lt00 (k T : List Int) (A : Option Addr) (c : Nat) (o u x y p q : Int) (w : World) (hl : Laid w) (hk : keyOk k) (hu : ¬ u < 0) (hx0 : ¬ x < 0) (hy0 : ¬ y < 0) (hTl : T.length = 44)
    (hxy : x < y) (hM : ¬ u ≤ x) (hxu : x < u)
    (hiss : ∀ x, Ext w x → Calls Tryd.prog 15 #[.slice A k.length c, ses o u] x fun e w' => ∃ g, e = .returned (.tuple #[.slice (some ⟨g, 0, none⟩) 44 44, .int .i64 0]) ∧ Sep No x w' [As.blk g 64 (byt T)])
    (hov1 : ∀ W, Calls Tryd.prog 23 #[ses o u, .int .i64 x] W fun e w' => e = .returned (.tuple #[.bool false, .int .i64 0]) ∧ Ext W w')
    (hov2 : ∀ W, Calls Tryd.prog 23 #[ses o u, .int .i64 y] W fun e w' => e = .returned (.tuple #[.bool false, .int .i64 0]) ∧ Ext W w')
    (hacc : ∀ g W, Ext w W → Rd W (some ⟨g, 0, none⟩) (byt T) → Calls Tryd.prog 21 #[.slice A k.length c, .slice (some ⟨g, 0, none⟩) 44 44, .int .i64 x] W fun e w' => e = .returned (.tuple #[ses p q, .int .i64 0]) ∧ Ext W w') :
    Calls Tryd.prog 8 #[.agg #[.slice A k.length c, .int .u32 o, .int .i64 u, .int .i64 x, .int .i64 y]] w fun e w' => e = .returned (.bool true) ∧ Ext w w' := by
  have HL := hide hl
  have HIS := hide hiss
  have HO1 := hide hov1
  have HO2 := hide hov2
  have HAC := hide hacc
  have dk1 : ¬ (k.length : Int) < 1 := by have := hk.1; omega
  have dk2 : ¬ (64 : Int) < (k.length : Int) := by have := hk.2; omega
  have hyx : ¬ y < x := by omega
  have hM2 : x < u := by omega
  clear hl hk hiss hov1 hov2 hacc hTl
  have H0 := (Sep.refl No w).newB ((Ext.refl w).alloc (.cells #[.slice A k.length c, .int .u32 o, .int .i64 u, .int .i64 x, .int .i64 y] 48)) (Blk.new w 48 [.slice A k.length c, .int .u32 o, .int .i64 u, .int .i64 x, .int .i64 y]) (Nat.le_refl _)
  go_enter Tryd.func8, Tryd.ntmps8
  have hg1 := (H0.blk (g := w.heap.size) (e := 48) (cs := [.slice A k.length c, .int .u32 o, .int .i64 u, .int .i64 x, .int .i64 y]) (List.Mem.head _)).lt
  go_upto_region 1 with fail
  obtain ⟨w1, hw1⟩ : ∃ w1, World.alloc w (.cells #[.slice A k.length c, .int .u32 o, .int .i64 u, .int .i64 x, .int .i64 y] 48) = w1 := ⟨_, rfl⟩
  obtain ⟨g1, hg⟩ : ∃ g, w.heap.size = g := ⟨_, rfl⟩
  simp only [hw1, hg] at H0 hg1 ⊢
  clear hw1 hg
  refine wp_region_wmr (RT.up w1.drew.heap.size) [0, 1, 2, 3, 4, 5, 6, 7, 8, 9, 10, 11, 12] (by kernel_rfl) (by kernel_rfl) (by kernel_rfl) (by kernel_rfl) ?_
  have K1 := H0.drew
  clear H0
  have hgd : g1 < w1.drew.heap.size := hg1
  clear hg1
  generalize w1.drew = wd at *
  have B1 := K1.blk (g := g1) (e := 48) (cs := [.slice A k.length c, .int .u32 o, .int .i64 u, .int .i64 x, .int .i64 y]) (List.Mem.head _)
  have hfr : ∀ w', Fr (fun k => wd.heap.size ≤ k) wd w' → Blk w' g1 48 [.slice A k.length c, .int .u32 o, .int .i64 u, .int .i64 x, .int .i64 y] := fun w' h => Fr.blk h B1 (by omega)
  iterate 1 (refine wmr_rd rfl rfl (fun K hK => ?_); go_simp; refine hK _ ?_; clear hK K)
  refine wmr_ld1 rfl rfl 25 (.tmp 12) rfl rfl (fun w' h => ((hfr w' h).cell 0).trans rfl) _ Tryd.underlying25 rfl ?_
  iterate 1 (refine wmr_rd rfl rfl (fun K hK => ?_); go_simp; refine hK _ ?_; clear hK K)
  refine wmr_ldR rfl rfl 24 (.tmp 14) rfl (g := g1) (off := 1) (t := 48) (whole := [.slice A k.length c, .int .u32 o, .int .i64 u, .int .i64 x, .int .i64 y]) (cs := [.int .u32 o, .int .i64 u]) hfr (fun j v h => by
    match j, h with
    | 0, h => exact h
    | 1, h => exact h
    | j + 2, h => simp at h) rfl _ Tryd.underlying24 rfl (by kernel_rfl) ?_
  iterate 1 (refine wmr_rd rfl rfl (fun K hK => ?_); go_simp; refine hK _ ?_; clear hK K)
  refine wmr_ld1 rfl rfl 2 (.tmp 16) rfl rfl (fun w' h => ((hfr w' h).cell 3).trans rfl) _ Tryd.underlying2 rfl ?_
  iterate 1 (refine wmr_rd rfl rfl (fun K hK => ?_); go_simp; refine hK _ ?_; clear hK K)
  refine wmr_ld1 rfl rfl 2 (.tmp 18) rfl rfl (fun w' h => ((hfr w' h).cell 4).trans rfl) _ Tryd.underlying2 rfl ?_
  refine wmr_ext rfl rfl (fun K hK => ?_)
  rw [if_pos (show Region.wanted _ _ = true from rfl)]
  refine wp_alS K1 24 rfl [.int .u32 0, .int .i64 0] (by kernel_rfl) (fun w2 hz2 hx2 K2 => hK _ _ (Ext.up hx2 _) ?_)
  clear hz2 hx2 hK K
  iterate 1 (refine wmr_rd rfl rfl (fun K hK => ?_); go_simp; refine hK _ ?_; clear hK K)
  refine wmr_ext rfl rfl (fun K hK => ?_)
  rw [if_pos (show Region.wanted _ _ = true from rfl)]
  refine wp_stS [] K2 24 (.tmp 4) (.tmp 15) rfl (cs := [.int .u32 o, .int .i64 u]) rfl rfl (by kernel_rfl) rfl (ses_one o u) (fun w3 K3 hu3 => hK _ _ (Upd.up hu3 (Nat.le_refl _)) ?_)
  dsimp only [List.nil_append] at K3
  clear hu3 hK K K2 K1 B1 hfr
  iterate 2 (refine wmr_rd rfl rfl (fun K hK => ?_); go_simp; refine hK _ ?_; clear hK K)
  refine wmr_nil ?_
  obtain ⟨g4, G4⟩ : ∃ g, wd.heap.size = g := ⟨_, rfl⟩
  rw [G4] at K3 ⊢
  clear G4 hgd
  obtain ⟨c0, c1, hg0⟩ := cells2 (K3.blk (g := g4) (e := 24) (cs := [.int .u32 o, .int .i64 u]) (List.Mem.head _))
  have KK := hide K3
  clear K3
  go_wp2_with fail
  (with_reducible refine (HIS.out _ KK.out.toExt).mono ?_)
  rintro e w4 ⟨g7, rfl, hS⟩
  have K4 := KK.out.join hS
  dsimp only [List.nil_append, List.cons_append] at K4
  clear KK hS HIS c0 c1 hg0
  obtain ⟨c0, c1, hg0⟩ := cells2 (K4.blk (g := g4) (e := 24) (cs := [.int .u32 o, .int .i64 u]) (List.Mem.tail _ (List.Mem.head _)))
  have KK := hide K4
  clear K4
  go_wp2_with fail
  (with_reducible refine (HO1.out _).mono ?_)
  rintro e w5 ⟨rfl, hx5⟩
  have K5 := KK.out.ext hx5
  clear KK hx5 HO1 c0 c1 hg0
  obtain ⟨c0, c1, hg0⟩ := cells2 (K5.blk (g := g4) (e := 24) (cs := [.int .u32 o, .int .i64 u]) (List.Mem.tail _ (List.Mem.head _)))
  have KK := hide K5
  clear K5
  go_wp2_with fail
  (with_reducible refine (HO2.out _).mono ?_)
  rintro e w6 ⟨rfl, hx6⟩
  have K6 := KK.out.ext hx6
  clear KK hx6 HO2 c0 c1 hg0
  obtain ⟨c0, c1, hg0⟩ := cells2 (K6.blk (g := g4) (e := 24) (cs := [.int .u32 o, .int .i64 u]) (List.Mem.tail _ (List.Mem.head _)))
  have HR7 := hide (K6.blk (g := g7) (e := 64) (cs := byt T) (List.Mem.head _)).rd
  have KK := hide K6
  clear K6
  go_wp2_with fail
  (with_reducible refine (HAC.out g7 _ KK.out.toExt HR7.out).mono ?_)
  rintro e w7 ⟨rfl, hx7⟩
  have K7 := KK.out.ext hx7
  clear KK hx7 HAC HR7 c0 c1 hg0
  obtain ⟨c0, c1, hg0⟩ := cells2 (K7.blk (g := g4) (e := 24) (cs := [.int .u32 o, .int .i64 u]) (List.Mem.tail _ (List.Mem.head _)))
  have KK := hide K7.toExt
  clear K7
  go_wp2_with fail
  (with_reducible refine (shown_any _ (HL.out.ext KK.out)).mono ?_)
  rintro e w8 ⟨rfl, hx8⟩
  go_wp2_with fail
  go_ret
  exact ⟨by first | rfl | (rw [show decide (x < u) = false from decide_eq_false (by omega)]; rfl) | (rw [show decide (x < u) = true from decide_eq_true (by omega)]; rfl), KK.out.trans hx8⟩
set_option maxRecDepth 100000 in
set_option maxHeartbeats 2000000 in
theorem ends_gt11 (k T : List Int) (A : Option Addr) (c : Nat) (o u x y p q : Int) (w : World) (hl : Laid w) (hk : keyOk k) (hu : ¬ u < 0) (hx0 : ¬ x < 0) (hy0 : ¬ y < 0) (hTl : T.length = 44)
    (hyx : y < x) (hM : u ≤ y) (hxu : ¬ x < u)
    (hiss : ∀ x, Ext w x → Calls Tryd.prog 15 #[.slice A k.length c, ses o u] x fun e w' => ∃ g, e = .returned (.tuple #[.slice (some ⟨g, 0, none⟩) 44 44, .int .i64 0]) ∧ Sep No x w' [As.blk g 64 (byt T)])
    (hov1 : ∀ W, Calls Tryd.prog 23 #[ses o u, .int .i64 y] W fun e w' => e = .returned (.tuple #[.bool true, .int .i64 0]) ∧ Ext W w')
    (hov2 : ∀ W, Calls Tryd.prog 23 #[ses o u, .int .i64 x] W fun e w' => e = .returned (.tuple #[.bool true, .int .i64 0]) ∧ Ext W w')
    (hacc : ∀ g W, Ext w W → Rd W (some ⟨g, 0, none⟩) (byt T) → Calls Tryd.prog 21 #[.slice A k.length c, .slice (some ⟨g, 0, none⟩) 44 44, .int .i64 x] W fun e w' => e = .returned (.tuple #[ses p q, .int .i64 13]) ∧ Ext W w') :
    Calls Tryd.prog 8 #[.agg #[.slice A k.length c, .int .u32 o, .int .i64 u, .int .i64 x, .int .i64 y]] w fun e w' => e = .returned (.bool true) ∧ Ext w w' := by
  have HL := hide hl
  have HIS := hide hiss
  have HO1 := hide hov1
  have HO2 := hide hov2
  have HAC := hide hacc
  have dk1 : ¬ (k.length : Int) < 1 := by have := hk.1; omega
  have dk2 : ¬ (64 : Int) < (k.length : Int) := by have := hk.2; omega
  have hxy : ¬ x < y := by omega
  have hM2 : ¬ y < u := by omega
  clear hl hk hiss hov1 hov2 hacc hTl
  have H0 := (Sep.refl No w).newB ((Ext.refl w).alloc (.cells #[.slice A k.length c, .int .u32 o, .int .i64 u, .int .i64 x, .int .i64 y] 48)) (Blk.new w 48 [.slice A k.length c, .int .u32 o, .int .i64 u, .int .i64 x, .int .i64 y]) (Nat.le_refl _)
  go_enter Tryd.func8, Tryd.ntmps8
  have hg1 := (H0.blk (g := w.heap.size) (e := 48) (cs := [.slice A k.length c, .int .u32 o, .int .i64 u, .int .i64 x, .int .i64 y]) (List.Mem.head _)).lt
  go_upto_region 1 with fail
  obtain ⟨w1, hw1⟩ : ∃ w1, World.alloc w (.cells #[.slice A k.length c, .int .u32 o, .int .i64 u, .int .i64 x, .int .i64 y] 48) = w1 := ⟨_, rfl⟩
  obtain ⟨g1, hg⟩ : ∃ g, w.heap.size = g := ⟨_, rfl⟩
  simp only [hw1, hg] at H0 hg1 ⊢
  clear hw1 hg
  refine wp_region_wmr (RT.up w1.drew.heap.size) [0, 1, 2, 3, 4, 5, 6, 7, 8, 9, 10, 11, 12] (by kernel_rfl) (by kernel_rfl) (by kernel_rfl) (by kernel_rfl) ?_
  have K1 := H0.drew
  clear H0
  have hgd : g1 < w1.drew.heap.size := hg1
  clear hg1
  generalize w1.drew = wd at *
  have B1 := K1.blk (g := g1) (e := 48) (cs := [.slice A k.length c, .int .u32 o, .int .i64 u, .int .i64 x, .int .i64 y]) (List.Mem.head _)
  have hfr : ∀ w', Fr (fun k => wd.heap.size ≤ k) wd w' → Blk w' g1 48 [.slice A k.length c, .int .u32 o, .int .i64 u, .int .i64 x, .int .i64 y] := fun w' h => Fr.blk h B1 (by omega)
  iterate 1 (refine wmr_rd rfl rfl (fun K hK => ?_); go_simp; refine hK _ ?_; clear hK K)
  refine wmr_ld1 rfl rfl 25 (.tmp 12) rfl rfl (fun w' h => ((hfr w' h).cell 0).trans rfl) _ Tryd.underlying25 rfl ?_
  iterate 1 (refine wmr_rd rfl rfl (fun K hK => ?_); go_simp; refine hK _ ?_; clear hK K)
  refine wmr_ldR rfl rfl 24 (.tmp 14) rfl (g := g1) (off := 1) (t := 48) (whole := [.slice A k.length c, .int .u32 o, .int .i64 u, .int .i64 x, .int .i64 y]) (cs := [.int .u32 o, .int .i64 u]) hfr (fun j v h => by
    match j, h with
    | 0, h => exact h
    | 1, h => exact h
    | j + 2, h => simp at h) rfl _ Tryd.underlying24 rfl (by kernel_rfl) ?_
  iterate 1 (refine wmr_rd rfl rfl (fun K hK => ?_); go_simp; refine hK _ ?_; clear hK K)
  refine wmr_ld1 rfl rfl 2 (.tmp 16) rfl rfl (fun w' h => ((hfr w' h).cell 3).trans rfl) _ Tryd.underlying2 rfl ?_
  iterate 1 (refine wmr_rd rfl rfl (fun K hK => ?_); go_simp; refine hK _ ?_; clear hK K)
  refine wmr_ld1 rfl rfl 2 (.tmp 18) rfl rfl (fun w' h => ((hfr w' h).cell 4).trans rfl) _ Tryd.underlying2 rfl ?_
  refine wmr_ext rfl rfl (fun K hK => ?_)
  rw [if_pos (show Region.wanted _ _ = true from rfl)]
  refine wp_alS K1 24 rfl [.int .u32 0, .int .i64 0] (by kernel_rfl) (fun w2 hz2 hx2 K2 => hK _ _ (Ext.up hx2 _) ?_)
  clear hz2 hx2 hK K
  iterate 1 (refine wmr_rd rfl rfl (fun K hK => ?_); go_simp; refine hK _ ?_; clear hK K)
  refine wmr_ext rfl rfl (fun K hK => ?_)
  rw [if_pos (show Region.wanted _ _ = true from rfl)]
  refine wp_stS [] K2 24 (.tmp 4) (.tmp 15) rfl (cs := [.int .u32 o, .int .i64 u]) rfl rfl (by kernel_rfl) rfl (ses_one o u) (fun w3 K3 hu3 => hK _ _ (Upd.up hu3 (Nat.le_refl _)) ?_)
  dsimp only [List.nil_append] at K3
  clear hu3 hK K K2 K1 B1 hfr
  iterate 2 (refine wmr_rd rfl rfl (fun K hK => ?_); go_simp; refine hK _ ?_; clear hK K)
  refine wmr_nil ?_
  obtain ⟨g4, G4⟩ : ∃ g, wd.heap.size = g := ⟨_, rfl⟩
  rw [G4] at K3 ⊢
  clear G4 hgd
  obtain ⟨c0, c1, hg0⟩ := cells2 (K3.blk (g := g4) (e := 24) (cs := [.int .u32 o, .int .i64 u]) (List.Mem.head _))
  have KK := hide K3
  clear K3
  go_wp2_with fail
  (with_reducible refine (HIS.out _ KK.out.toExt).mono ?_)
  rintro e w4 ⟨g7, rfl, hS⟩
  have K4 := KK.out.join hS
  dsimp only [List.nil_append, List.cons_append] at K4
  clear KK hS HIS c0 c1 hg0
  obtain ⟨c0, c1, hg0⟩ := cells2 (K4.blk (g := g4) (e := 24) (cs := [.int .u32 o, .int .i64 u]) (List.Mem.tail _ (List.Mem.head _)))
  have KK := hide K4
  clear K4
  go_wp2_with fail
  (with_reducible refine (HO1.out _).mono ?_)
  rintro e w5 ⟨rfl, hx5⟩
  have K5 := KK.out.ext hx5
  clear KK hx5 HO1 c0 c1 hg0
  obtain ⟨c0, c1, hg0⟩ := cells2 (K5.blk (g := g4) (e := 24) (cs := [.int .u32 o, .int .i64 u]) (List.Mem.tail _ (List.Mem.head _)))
  have KK := hide K5
  clear K5
  go_wp2_with fail
  (with_reducible refine (HO2.out _).mono ?_)
  rintro e w6 ⟨rfl, hx6⟩
  have K6 := KK.out.ext hx6
  clear KK hx6 HO2 c0 c1 hg0
  obtain ⟨c0, c1, hg0⟩ := cells2 (K6.blk (g := g4) (e := 24) (cs := [.int .u32 o, .int .i64 u]) (List.Mem.tail _ (List.Mem.head _)))
  have HR7 := hide (K6.blk (g := g7) (e := 64) (cs := byt T) (List.Mem.head _)).rd
  have KK := hide K6
  clear K6
  go_wp2_with fail
  (with_reducible refine (HAC.out g7 _ KK.out.toExt HR7.out).mono ?_)
  rintro e w7 ⟨rfl, hx7⟩
  have K7 := KK.out.ext hx7
  clear KK hx7 HAC HR7 c0 c1 hg0
  obtain ⟨c0, c1, hg0⟩ := cells2 (K7.blk (g := g4) (e := 24) (cs := [.int .u32 o, .int .i64 u]) (List.Mem.tail _ (List.Mem.head _)))
  have KK := hide K7.toExt
  clear K7
  go_wp2_with fail
  (with_reducible refine (shown_any _ (HL.out.ext KK.out)).mono ?_)
  rintro e w8 ⟨rfl, hx8⟩
  go_wp2_with fail
  go_ret
  exact ⟨by first | rfl | (rw [show decide (x < u) = false from decide_eq_false (by omega)]; rfl) | (rw [show decide (x < u) = true from decide_eq_true (by omega)]; rfl), KK.out.trans hx8⟩
set_option maxRecDepth 100000 in
set_option maxHeartbeats 2000000 in
theorem ends_gt01 (k T : List Int) (A : Option Addr) (c : Nat) (o u x y p q : Int) (w : World) (hl : Laid w) (hk : keyOk k) (hu : ¬ u < 0) (hx0 : ¬ x < 0) (hy0 : ¬ y < 0) (hTl : T.length = 44)
    (hyx : y < x) (hM : ¬ u ≤ y) (hxu : ¬ x < u)
    (hiss : ∀ x, Ext w x → Calls Tryd.prog 15 #[.slice A k.length c, ses o u] x fun e w' => ∃ g, e = .returned (.tuple #[.slice (some ⟨g, 0, none⟩) 44 44, .int .i64 0]) ∧ Sep No x w' [As.blk g 64 (byt T)])
    (hov1 : ∀ W, Calls Tryd.prog 23 #[ses o u, .int .i64 y] W fun e w' => e = .returned (.tuple #[.bool false, .int .i64 0]) ∧ Ext W w')
    (hov2 : ∀ W, Calls Tryd.prog 23 #[ses o u, .int .i64 x] W fun e w' => e = .returned (.tuple #[.bool true, .int .i64 0]) ∧ Ext W w')
    (hacc : ∀ g W, Ext w W → Rd W (some ⟨g, 0, none⟩) (byt T) → Calls Tryd.prog 21 #[.slice A k.length c, .slice (some ⟨g, 0, none⟩) 44 44, .int .i64 x] W fun e w' => e = .returned (.tuple #[ses p q, .int .i64 13]) ∧ Ext W w') :
    Calls Tryd.prog 8 #[.agg #[.slice A k.length c, .int .u32 o, .int .i64 u, .int .i64 x, .int .i64 y]] w fun e w' => e = .returned (.bool true) ∧ Ext w w' := by
  have HL := hide hl
  have HIS := hide hiss
  have HO1 := hide hov1
  have HO2 := hide hov2
  have HAC := hide hacc
  have dk1 : ¬ (k.length : Int) < 1 := by have := hk.1; omega
  have dk2 : ¬ (64 : Int) < (k.length : Int) := by have := hk.2; omega
  have hxy : ¬ x < y := by omega
  have hM2 : y < u := by omega
  clear hl hk hiss hov1 hov2 hacc hTl
  have H0 := (Sep.refl No w).newB ((Ext.refl w).alloc (.cells #[.slice A k.length c, .int .u32 o, .int .i64 u, .int .i64 x, .int .i64 y] 48)) (Blk.new w 48 [.slice A k.length c, .int .u32 o, .int .i64 u, .int .i64 x, .int .i64 y]) (Nat.le_refl _)
  go_enter Tryd.func8, Tryd.ntmps8
  have hg1 := (H0.blk (g := w.heap.size) (e := 48) (cs := [.slice A k.length c, .int .u32 o, .int .i64 u, .int .i64 x, .int .i64 y]) (List.Mem.head _)).lt
  go_upto_region 1 with fail
  obtain ⟨w1, hw1⟩ : ∃ w1, World.alloc w (.cells #[.slice A k.length c, .int .u32 o, .int .i64 u, .int .i64 x, .int .i64 y] 48) = w1 := ⟨_, rfl⟩
  obtain ⟨g1, hg⟩ : ∃ g, w.heap.size = g := ⟨_, rfl⟩
  simp only [hw1, hg] at H0 hg1 ⊢
  clear hw1 hg
  refine wp_region_wmr (RT.up w1.drew.heap.size) [0, 1, 2, 3, 4, 5, 6, 7, 8, 9, 10, 11, 12] (by kernel_rfl) (by kernel_rfl) (by kernel_rfl) (by kernel_rfl) ?_
  have K1 := H0.drew
  clear H0
  have hgd : g1 < w1.drew.heap.size := hg1
  clear hg1
  generalize w1.drew = wd at *
  have B1 := K1.blk (g := g1) (e := 48) (cs := [.slice A k.length c, .int .u32 o, .int .i64 u, .int .i64 x, .int .i64 y]) (List.Mem.head _)
  have hfr : ∀ w', Fr (fun k => wd.heap.size ≤ k) wd w' → Blk w' g1 48 [.slice A k.length c, .int .u32 o, .int .i64 u, .int .i64 x, .int .i64 y] := fun w' h => Fr.blk h B1 (by omega)
  iterate 1 (refine wmr_rd rfl rfl (fun K hK => ?_); go_simp; refine hK _ ?_; clear hK K)
  refine wmr_ld1 rfl rfl 25 (.tmp 12) rfl rfl (fun w' h => ((hfr w' h).cell 0).trans rfl) _ Tryd.underlying25 rfl ?_
  iterate 1 (refine wmr_rd rfl rfl (fun K hK => ?_); go_simp; refine hK _ ?_; clear hK K)
  refine wmr_ldR rfl rfl 24 (.tmp 14) rfl (g := g1) (off := 1) (t := 48) (whole := [.slice A k.length c, .int .u32 o, .int .i64 u, .int .i64 x, .int .i64 y]) (cs := [.int .u32 o, .int .i64 u]) hfr (fun j v h => by
    match j, h with
    | 0, h => exact h
    | 1, h => exact h
    | j + 2, h => simp at h) rfl _ Tryd.underlying24 rfl (by kernel_rfl) ?_
  iterate 1 (refine wmr_rd rfl rfl (fun K hK => ?_); go_simp; refine hK _ ?_; clear hK K)
  refine wmr_ld1 rfl rfl 2 (.tmp 16) rfl rfl (fun w' h => ((hfr w' h).cell 3).trans rfl) _ Tryd.underlying2 rfl ?_
  iterate 1 (refine wmr_rd rfl rfl (fun K hK => ?_); go_simp; refine hK _ ?_; clear hK K)
  refine wmr_ld1 rfl rfl 2 (.tmp 18) rfl rfl (fun w' h => ((hfr w' h).cell 4).trans rfl) _ Tryd.underlying2 rfl ?_
  refine wmr_ext rfl rfl (fun K hK => ?_)
  rw [if_pos (show Region.wanted _ _ = true from rfl)]
  refine wp_alS K1 24 rfl [.int .u32 0, .int .i64 0] (by kernel_rfl) (fun w2 hz2 hx2 K2 => hK _ _ (Ext.up hx2 _) ?_)
  clear hz2 hx2 hK K
  iterate 1 (refine wmr_rd rfl rfl (fun K hK => ?_); go_simp; refine hK _ ?_; clear hK K)
  refine wmr_ext rfl rfl (fun K hK => ?_)
  rw [if_pos (show Region.wanted _ _ = true from rfl)]
  refine wp_stS [] K2 24 (.tmp 4) (.tmp 15) rfl (cs := [.int .u32 o, .int .i64 u]) rfl rfl (by kernel_rfl) rfl (ses_one o u) (fun w3 K3 hu3 => hK _ _ (Upd.up hu3 (Nat.le_refl _)) ?_)
  dsimp only [List.nil_append] at K3
  clear hu3 hK K K2 K1 B1 hfr
  iterate 2 (refine wmr_rd rfl rfl (fun K hK => ?_); go_simp; refine hK _ ?_; clear hK K)
  refine wmr_nil ?_
  obtain ⟨g4, G4⟩ : ∃ g, wd.heap.size = g := ⟨_, rfl⟩
  rw [G4] at K3 ⊢
  clear G4 hgd
  obtain ⟨c0, c1, hg0⟩ := cells2 (K3.blk (g := g4) (e := 24) (cs := [.int .u32 o, .int .i64 u]) (List.Mem.head _))
  have KK := hide K3
  clear K3
  go_wp2_with fail
  (with_reducible refine (HIS.out _ KK.out.toExt).mono ?_)
  rintro e w4 ⟨g7, rfl, hS⟩
  have K4 := KK.out.join hS
  dsimp only [List.nil_append, List.cons_append] at K4
  clear KK hS HIS c0 c1 hg0
  obtain ⟨c0, c1, hg0⟩ := cells2 (K4.blk (g := g4) (e := 24) (cs := [.int .u32 o, .int .i64 u]) (List.Mem.tail _ (List.Mem.head _)))
  have KK := hide K4
  clear K4
  go_wp2_with fail
  (with_reducible refine (HO1.out _).mono ?_)
  rintro e w5 ⟨rfl, hx5⟩
  have K5 := KK.out.ext hx5
  clear KK hx5 HO1 c0 c1 hg0
  obtain ⟨c0, c1, hg0⟩ := cells2 (K5.blk (g := g4) (e := 24) (cs := [.int .u32 o, .int .i64 u]) (List.Mem.tail _ (List.Mem.head _)))
  have KK := hide K5
  clear K5
  go_wp2_with fail
  (with_reducible refine (HO2.out _).mono ?_)
  rintro e w6 ⟨rfl, hx6⟩
  have K6 := KK.out.ext hx6
  clear KK hx6 HO2 c0 c1 hg0
  obtain ⟨c0, c1, hg0⟩ := cells2 (K6.blk (g := g4) (e := 24) (cs := [.int .u32 o, .int .i64 u]) (List.Mem.tail _ (List.Mem.head _)))
  have HR7 := hide (K6.blk (g := g7) (e := 64) (cs := byt T) (List.Mem.head _)).rd
  have KK := hide K6
  clear K6
  go_wp2_with fail
  (with_reducible refine (HAC.out g7 _ KK.out.toExt HR7.out).mono ?_)
  rintro e w7 ⟨rfl, hx7⟩
  have K7 := KK.out.ext hx7
  clear KK hx7 HAC HR7 c0 c1 hg0
  obtain ⟨c0, c1, hg0⟩ := cells2 (K7.blk (g := g4) (e := 24) (cs := [.int .u32 o, .int .i64 u]) (List.Mem.tail _ (List.Mem.head _)))
  have KK := hide K7.toExt
  clear K7
  go_wp2_with fail
  (with_reducible refine (shown_any _ (HL.out.ext KK.out)).mono ?_)
  rintro e w8 ⟨rfl, hx8⟩
  go_wp2_with fail
  go_ret
  exact ⟨by first | rfl | (rw [show decide (x < u) = false from decide_eq_false (by omega)]; rfl) | (rw [show decide (x < u) = true from decide_eq_true (by omega)]; rfl), KK.out.trans hx8⟩
set_option maxRecDepth 100000 in
set_option maxHeartbeats 2000000 in
theorem ends_gt00 (k T : List Int) (A : Option Addr) (c : Nat) (o u x y p q : Int) (w : World) (hl : Laid w) (hk : keyOk k) (hu : ¬ u < 0) (hx0 : ¬ x < 0) (hy0 : ¬ y < 0) (hTl : T.length = 44)
    (hyx : y < x) (hM : ¬ u ≤ y) (hxu : x < u)
    (hiss : ∀ x, Ext w x → Calls Tryd.prog 15 #[.slice A k.length c, ses o u] x fun e w' => ∃ g, e = .returned (.tuple #[.slice (some ⟨g, 0, none⟩) 44 44, .int .i64 0]) ∧ Sep No x w' [As.blk g 64 (byt T)])
    (hov1 : ∀ W, Calls Tryd.prog 23 #[ses o u, .int .i64 y] W fun e w' => e = .returned (.tuple #[.bool false, .int .i64 0]) ∧ Ext W w')
    (hov2 : ∀ W, Calls Tryd.prog 23 #[ses o u, .int .i64 x] W fun e w' => e = .returned (.tuple #[.bool false, .int .i64 0]) ∧ Ext W w')
    (hacc : ∀ g W, Ext w W → Rd W (some ⟨g, 0, none⟩) (byt T) → Calls Tryd.prog 21 #[.slice A k.length c, .slice (some ⟨g, 0, none⟩) 44 44, .int .i64 x] W fun e w' => e = .returned (.tuple #[ses p q, .int .i64 0]) ∧ Ext W w') :
    Calls Tryd.prog 8 #[.agg #[.slice A k.length c, .int .u32 o, .int .i64 u, .int .i64 x, .int .i64 y]] w fun e w' => e = .returned (.bool true) ∧ Ext w w' := by
  have HL := hide hl
  have HIS := hide hiss
  have HO1 := hide hov1
  have HO2 := hide hov2
  have HAC := hide hacc
  have dk1 : ¬ (k.length : Int) < 1 := by have := hk.1; omega
  have dk2 : ¬ (64 : Int) < (k.length : Int) := by have := hk.2; omega
  have hxy : ¬ x < y := by omega
  have hM2 : y < u := by omega
  clear hl hk hiss hov1 hov2 hacc hTl
  have H0 := (Sep.refl No w).newB ((Ext.refl w).alloc (.cells #[.slice A k.length c, .int .u32 o, .int .i64 u, .int .i64 x, .int .i64 y] 48)) (Blk.new w 48 [.slice A k.length c, .int .u32 o, .int .i64 u, .int .i64 x, .int .i64 y]) (Nat.le_refl _)
  go_enter Tryd.func8, Tryd.ntmps8
  have hg1 := (H0.blk (g := w.heap.size) (e := 48) (cs := [.slice A k.length c, .int .u32 o, .int .i64 u, .int .i64 x, .int .i64 y]) (List.Mem.head _)).lt
  go_upto_region 1 with fail
  obtain ⟨w1, hw1⟩ : ∃ w1, World.alloc w (.cells #[.slice A k.length c, .int .u32 o, .int .i64 u, .int .i64 x, .int .i64 y] 48) = w1 := ⟨_, rfl⟩
  obtain ⟨g1, hg⟩ : ∃ g, w.heap.size = g := ⟨_, rfl⟩
  simp only [hw1, hg] at H0 hg1 ⊢
  clear hw1 hg
  refine wp_region_wmr (RT.up w1.drew.heap.size) [0, 1, 2, 3, 4, 5, 6, 7, 8, 9, 10, 11, 12] (by kernel_rfl) (by kernel_rfl) (by kernel_rfl) (by kernel_rfl) ?_
  have K1 := H0.drew
  clear H0
  have hgd : g1 < w1.drew.heap.size := hg1
  clear hg1
  generalize w1.drew = wd at *
  have B1 := K1.blk (g := g1) (e := 48) (cs := [.slice A k.length c, .int .u32 o, .int .i64 u, .int .i64 x, .int .i64 y]) (List.Mem.head _)
  have hfr : ∀ w', Fr (fun k => wd.heap.size ≤ k) wd w' → Blk w' g1 48 [.slice A k.length c, .int .u32 o, .int .i64 u, .int .i64 x, .int .i64 y] := fun w' h => Fr.blk h B1 (by omega)
  iterate 1 (refine wmr_rd rfl rfl (fun K hK => ?_); go_simp; refine hK _ ?_; clear hK K)
  refine wmr_ld1 rfl rfl 25 (.tmp 12) rfl rfl (fun w' h => ((hfr w' h).cell 0).trans rfl) _ Tryd.underlying25 rfl ?_
  iterate 1 (refine wmr_rd rfl rfl (fun K hK => ?_); go_simp; refine hK _ ?_; clear hK K)
  refine wmr_ldR rfl rfl 24 (.tmp 14) rfl (g := g1) (off := 1) (t := 48) (whole := [.slice A k.length c, .int .u32 o, .int .i64 u, .int .i64 x, .int .i64 y]) (cs := [.int .u32 o, .int .i64 u]) hfr (fun j v h => by
    match j, h with
    | 0, h => exact h
    | 1, h => exact h
    | j + 2, h => simp at h) rfl _ Tryd.underlying24 rfl (by kernel_rfl) ?_
  iterate 1 (refine wmr_rd rfl rfl (fun K hK => ?_); go_simp; refine hK _ ?_; clear hK K)
  refine wmr_ld1 rfl rfl 2 (.tmp 16) rfl rfl (fun w' h => ((hfr w' h).cell 3).trans rfl) _ Tryd.underlying2 rfl ?_
  iterate 1 (refine wmr_rd rfl rfl (fun K hK => ?_); go_simp; refine hK _ ?_; clear hK K)
  refine wmr_ld1 rfl rfl 2 (.tmp 18) rfl rfl (fun w' h => ((hfr w' h).cell 4).trans rfl) _ Tryd.underlying2 rfl ?_
  refine wmr_ext rfl rfl (fun K hK => ?_)
  rw [if_pos (show Region.wanted _ _ = true from rfl)]
  refine wp_alS K1 24 rfl [.int .u32 0, .int .i64 0] (by kernel_rfl) (fun w2 hz2 hx2 K2 => hK _ _ (Ext.up hx2 _) ?_)
  clear hz2 hx2 hK K
  iterate 1 (refine wmr_rd rfl rfl (fun K hK => ?_); go_simp; refine hK _ ?_; clear hK K)
  refine wmr_ext rfl rfl (fun K hK => ?_)
  rw [if_pos (show Region.wanted _ _ = true from rfl)]
  refine wp_stS [] K2 24 (.tmp 4) (.tmp 15) rfl (cs := [.int .u32 o, .int .i64 u]) rfl rfl (by kernel_rfl) rfl (ses_one o u) (fun w3 K3 hu3 => hK _ _ (Upd.up hu3 (Nat.le_refl _)) ?_)
  dsimp only [List.nil_append] at K3
  clear hu3 hK K K2 K1 B1 hfr
  iterate 2 (refine wmr_rd rfl rfl (fun K hK => ?_); go_simp; refine hK _ ?_; clear hK K)
  refine wmr_nil ?_
  obtain ⟨g4, G4⟩ : ∃ g, wd.heap.size = g := ⟨_, rfl⟩
  rw [G4] at K3 ⊢
  clear G4 hgd
  obtain ⟨c0, c1, hg0⟩ := cells2 (K3.blk (g := g4) (e := 24) (cs := [.int .u32 o, .int .i64 u]) (List.Mem.head _))
  have KK := hide K3
  clear K3
  go_wp2_with fail
  (with_reducible refine (HIS.out _ KK.out.toExt).mono ?_)
  rintro e w4 ⟨g7, rfl, hS⟩
  have K4 := KK.out.join hS
  dsimp only [List.nil_append, List.cons_append] at K4
  clear KK hS HIS c0 c1 hg0
  obtain ⟨c0, c1, hg0⟩ := cells2 (K4.blk (g := g4) (e := 24) (cs := [.int .u32 o, .int .i64 u]) (List.Mem.tail _ (List.Mem.head _)))
  have KK := hide K4
  clear K4
  go_wp2_with fail
  (with_reducible refine (HO1.out _).mono ?_)
  rintro e w5 ⟨rfl, hx5⟩
  have K5 := KK.out.ext hx5
  clear KK hx5 HO1 c0 c1 hg0
  obtain ⟨c0, c1, hg0⟩ := cells2 (K5.blk (g := g4) (e := 24) (cs := [.int .u32 o, .int .i64 u]) (List.Mem.tail _ (List.Mem.head _)))
  have KK := hide K5
  clear K5
  go_wp2_with fail
  (with_reducible refine (HO2.out _).mono ?_)
  rintro e w6 ⟨rfl, hx6⟩
  have K6 := KK.out.ext hx6
  clear KK hx6 HO2 c0 c1 hg0
  obtain ⟨c0, c1, hg0⟩ := cells2 (K6.blk (g := g4) (e := 24) (cs := [.int .u32 o, .int .i64 u]) (List.Mem.tail _ (List.Mem.head _)))
  have HR7 := hide (K6.blk (g := g7) (e := 64) (cs := byt T) (List.Mem.head _)).rd
  have KK := hide K6
  clear K6
  go_wp2_with fail
  (with_reducible refine (HAC.out g7 _ KK.out.toExt HR7.out).mono ?_)
  rintro e w7 ⟨rfl, hx7⟩
  have K7 := KK.out.ext hx7
  clear KK hx7 HAC HR7 c0 c1 hg0
  obtain ⟨c0, c1, hg0⟩ := cells2 (K7.blk (g := g4) (e := 24) (cs := [.int .u32 o, .int .i64 u]) (List.Mem.tail _ (List.Mem.head _)))
  have KK := hide K7.toExt
  clear K7
  go_wp2_with fail
  (with_reducible refine (shown_any _ (HL.out.ext KK.out)).mono ?_)
  rintro e w8 ⟨rfl, hx8⟩
  go_wp2_with fail
  go_ret
  exact ⟨by first | rfl | (rw [show decide (x < u) = false from decide_eq_false (by omega)]; rfl) | (rw [show decide (x < u) = true from decide_eq_true (by omega)]; rfl), KK.out.trans hx8⟩
set_option maxRecDepth 100000 in
set_option maxHeartbeats 2000000 in
theorem ends_eq11 (k T : List Int) (A : Option Addr) (c : Nat) (o u x y p q : Int) (w : World) (hl : Laid w) (hk : keyOk k) (hu : ¬ u < 0) (hx0 : ¬ x < 0) (hy0 : ¬ y < 0) (hTl : T.length = 44)
     (hM : u ≤ x) (hxu : ¬ x < u)
    (hiss : ∀ x, Ext w x → Calls Tryd.prog 15 #[.slice A k.length c, ses o u] x fun e w' => ∃ g, e = .returned (.tuple #[.slice (some ⟨g, 0, none⟩) 44 44, .int .i64 0]) ∧ Sep No x w' [As.blk g 64 (byt T)])
    (hov1 : ∀ W, Calls Tryd.prog 23 #[ses o u, .int .i64 x] W fun e w' => e = .returned (.tuple #[.bool true, .int .i64 0]) ∧ Ext W w')
    (hov2 : ∀ W, Calls Tryd.prog 23 #[ses o u, .int .i64 x] W fun e w' => e = .returned (.tuple #[.bool true, .int .i64 0]) ∧ Ext W w')
    (hacc : ∀ g W, Ext w W → Rd W (some ⟨g, 0, none⟩) (byt T) → Calls Tryd.prog 21 #[.slice A k.length c, .slice (some ⟨g, 0, none⟩) 44 44, .int .i64 x] W fun e w' => e = .returned (.tuple #[ses p q, .int .i64 13]) ∧ Ext W w') :
    Calls Tryd.prog 8 #[.agg #[.slice A k.length c, .int .u32 o, .int .i64 u, .int .i64 x, .int .i64 x]] w fun e w' => e = .returned (.bool true) ∧ Ext w w' := by
  have HL := hide hl
  have HIS := hide hiss
  have HO1 := hide hov1
  have HO2 := hide hov2
  have HAC := hide hacc
  have dk1 : ¬ (k.length : Int) < 1 := by have := hk.1; omega
  have dk2 : ¬ (64 : Int) < (k.length : Int) := by have := hk.2; omega
  have hM2 : ¬ x < u := by omega
  clear hl hk hiss hov1 hov2 hacc hTl
  have H0 := (Sep.refl No w).newB ((Ext.refl w).alloc (.cells #[.slice A k.length c, .int .u32 o, .int .i64 u, .int .i64 x, .int .i64 x] 48)) (Blk.new w 48 [.slice A k.length c, .int .u32 o, .int .i64 u, .int .i64 x, .int .i64 x]) (Nat.le_refl _)
  go_enter Tryd.func8, Tryd.ntmps8
  have hg1 := (H0.blk (g := w.heap.size) (e := 48) (cs := [.slice A k.length c, .int .u32 o, .int .i64 u, .int .i64 x, .int .i64 x]) (List.Mem.head _)).lt
  go_upto_region 1 with fail
  obtain ⟨w1, hw1⟩ : ∃ w1, World.alloc w (.cells #[.slice A k.length c, .int .u32 o, .int .i64 u, .int .i64 x, .int .i64 x] 48) = w1 := ⟨_, rfl⟩
  obtain ⟨g1, hg⟩ : ∃ g, w.heap.size = g := ⟨_, rfl⟩
  simp only [hw1, hg] at H0 hg1 ⊢
  clear hw1 hg
  refine wp_region_wmr (RT.up w1.drew.heap.size) [0, 1, 2, 3, 4, 5, 6, 7, 8, 9, 10, 11, 12] (by kernel_rfl) (by kernel_rfl) (by kernel_rfl) (by kernel_rfl) ?_
  have K1 := H0.drew
  clear H0
  have hgd : g1 < w1.drew.heap.size := hg1
  clear hg1
  generalize w1.drew = wd at *
  have B1 := K1.blk (g := g1) (e := 48) (cs := [.slice A k.length c, .int .u32 o, .int .i64 u, .int .i64 x, .int .i64 x]) (List.Mem.head _)
  have hfr : ∀ w', Fr (fun k => wd.heap.size ≤ k) wd w' → Blk w' g1 48 [.slice A k.length c, .int .u32 o, .int .i64 u, .int .i64 x, .int .i64 x] := fun w' h => Fr.blk h B1 (by omega)
  iterate 1 (refine wmr_rd rfl rfl (fun K hK => ?_); go_simp; refine hK _ ?_; clear hK K)
  refine wmr_ld1 rfl rfl 25 (.tmp 12) rfl rfl (fun w' h => ((hfr w' h).cell 0).trans rfl) _ Tryd.underlying25 rfl ?_
  iterate 1 (refine wmr_rd rfl rfl (fun K hK => ?_); go_simp; refine hK _ ?_; clear hK K)
  refine wmr_ldR rfl rfl 24 (.tmp 14) rfl (g := g1) (off := 1) (t := 48) (whole := [.slice A k.length c, .int .u32 o, .int .i64 u, .int .i64 x, .int .i64 x]) (cs := [.int .u32 o, .int .i64 u]) hfr (fun j v h => by
    match j, h with
    | 0, h => exact h
    | 1, h => exact h
    | j + 2, h => simp at h) rfl _ Tryd.underlying24 rfl (by kernel_rfl) ?_
  iterate 1 (refine wmr_rd rfl rfl (fun K hK => ?_); go_simp; refine hK _ ?_; clear hK K)
  refine wmr_ld1 rfl rfl 2 (.tmp 16) rfl rfl (fun w' h => ((hfr w' h).cell 3).trans rfl) _ Tryd.underlying2 rfl ?_
  iterate 1 (refine wmr_rd rfl rfl (fun K hK => ?_); go_simp; refine hK _ ?_; clear hK K)
  refine wmr_ld1 rfl rfl 2 (.tmp 18) rfl rfl (fun w' h => ((hfr w' h).cell 4).trans rfl) _ Tryd.underlying2 rfl ?_
  refine wmr_ext rfl rfl (fun K hK => ?_)
  rw [if_pos (show Region.wanted _ _ = true from rfl)]
  refine wp_alS K1 24 rfl [.int .u32 0, .int .i64 0] (by kernel_rfl) (fun w2 hz2 hx2 K2 => hK _ _ (Ext.up hx2 _) ?_)
  clear hz2 hx2 hK K
  iterate 1 (refine wmr_rd rfl rfl (fun K hK => ?_); go_simp; refine hK _ ?_; clear hK K)
  refine wmr_ext rfl rfl (fun K hK => ?_)
  rw [if_pos (show Region.wanted _ _ = true from rfl)]
  refine wp_stS [] K2 24 (.tmp 4) (.tmp 15) rfl (cs := [.int .u32 o, .int .i64 u]) rfl rfl (by kernel_rfl) rfl (ses_one o u) (fun w3 K3 hu3 => hK _ _ (Upd.up hu3 (Nat.le_refl _)) ?_)
  dsimp only [List.nil_append] at K3
  clear hu3 hK K K2 K1 B1 hfr
  iterate 2 (refine wmr_rd rfl rfl (fun K hK => ?_); go_simp; refine hK _ ?_; clear hK K)
  refine wmr_nil ?_
  obtain ⟨g4, G4⟩ : ∃ g, wd.heap.size = g := ⟨_, rfl⟩
  rw [G4] at K3 ⊢
  clear G4 hgd
  obtain ⟨c0, c1, hg0⟩ := cells2 (K3.blk (g := g4) (e := 24) (cs := [.int .u32 o, .int .i64 u]) (List.Mem.head _))
  have KK := hide K3
  clear K3
  go_wp2_with fail
  (with_reducible refine (HIS.out _ KK.out.toExt).mono ?_)
  rintro e w4 ⟨g7, rfl, hS⟩
  have K4 := KK.out.join hS
  dsimp only [List.nil_append, List.cons_append] at K4
  clear KK hS HIS c0 c1 hg0
  obtain ⟨c0, c1, hg0⟩ := cells2 (K4.blk (g := g4) (e := 24) (cs := [.int .u32 o, .int .i64 u]) (List.Mem.tail _ (List.Mem.head _)))
  have KK := hide K4
  clear K4
  go_wp2_with fail
  (with_reducible refine (HO1.out _).mono ?_)
  rintro e w5 ⟨rfl, hx5⟩
  have K5 := KK.out.ext hx5
  clear KK hx5 HO1 c0 c1 hg0
  obtain ⟨c0, c1, hg0⟩ := cells2 (K5.blk (g := g4) (e := 24) (cs := [.int .u32 o, .int .i64 u]) (List.Mem.tail _ (List.Mem.head _)))
  have KK := hide K5
  clear K5
  go_wp2_with fail
  (with_reducible refine (HO2.out _).mono ?_)
  rintro e w6 ⟨rfl, hx6⟩
  have K6 := KK.out.ext hx6
  clear KK hx6 HO2 c0 c1 hg0
  obtain ⟨c0, c1, hg0⟩ := cells2 (K6.blk (g := g4) (e := 24) (cs := [.int .u32 o, .int .i64 u]) (List.Mem.tail _ (List.Mem.head _)))
  have HR7 := hide (K6.blk (g := g7) (e := 64) (cs := byt T) (List.Mem.head _)).rd
  have KK := hide K6
  clear K6
  go_wp2_with fail
  (with_reducible refine (HAC.out g7 _ KK.out.toExt HR7.out).mono ?_)
  rintro e w7 ⟨rfl, hx7⟩
  have K7 := KK.out.ext hx7
  clear KK hx7 HAC HR7 c0 c1 hg0
  obtain ⟨c0, c1, hg0⟩ := cells2 (K7.blk (g := g4) (e := 24) (cs := [.int .u32 o, .int .i64 u]) (List.Mem.tail _ (List.Mem.head _)))
  have KK := hide K7.toExt
  clear K7
  go_wp2_with fail
  (with_reducible refine (shown_any _ (HL.out.ext KK.out)).mono ?_)
  rintro e w8 ⟨rfl, hx8⟩
  go_wp2_with fail
  go_ret
  exact ⟨by first | rfl | (rw [show decide (x < u) = false from decide_eq_false (by omega)]; rfl) | (rw [show decide (x < u) = true from decide_eq_true (by omega)]; rfl), KK.out.trans hx8⟩
set_option maxRecDepth 100000 in
set_option maxHeartbeats 2000000 in
theorem ends_eq00 (k T : List Int) (A : Option Addr) (c : Nat) (o u x y p q : Int) (w : World) (hl : Laid w) (hk : keyOk k) (hu : ¬ u < 0) (hx0 : ¬ x < 0) (hy0 : ¬ y < 0) (hTl : T.length = 44)
     (hM : ¬ u ≤ x) (hxu : x < u)
    (hiss : ∀ x, Ext w x → Calls Tryd.prog 15 #[.slice A k.length c, ses o u] x fun e w' => ∃ g, e = .returned (.tuple #[.slice (some ⟨g, 0, none⟩) 44 44, .int .i64 0]) ∧ Sep No x w' [As.blk g 64 (byt T)])
    (hov1 : ∀ W, Calls Tryd.prog 23 #[ses o u, .int .i64 x] W fun e w' => e = .returned (.tuple #[.bool false, .int .i64 0]) ∧ Ext W w')
    (hov2 : ∀ W, Calls Tryd.prog 23 #[ses o u, .int .i64 x] W fun e w' => e = .returned (.tuple #[.bool false, .int .i64 0]) ∧ Ext W w')
    (hacc : ∀ g W, Ext w W → Rd W (some ⟨g, 0, none⟩) (byt T) → Calls Tryd.prog 21 #[.slice A k.length c, .slice (some ⟨g, 0, none⟩) 44 44, .int .i64 x] W fun e w' => e = .returned (.tuple #[ses p q, .int .i64 0]) ∧ Ext W w') :
    Calls Tryd.prog 8 #[.agg #[.slice A k.length c, .int .u32 o, .int .i64 u, .int .i64 x, .int .i64 x]] w fun e w' => e = .returned (.bool true) ∧ Ext w w' := by
  have HL := hide hl
  have HIS := hide hiss
  have HO1 := hide hov1
  have HO2 := hide hov2
  have HAC := hide hacc
  have dk1 : ¬ (k.length : Int) < 1 := by have := hk.1; omega
  have dk2 : ¬ (64 : Int) < (k.length : Int) := by have := hk.2; omega
  have hM2 : x < u := by omega
  clear hl hk hiss hov1 hov2 hacc hTl
  have H0 := (Sep.refl No w).newB ((Ext.refl w).alloc (.cells #[.slice A k.length c, .int .u32 o, .int .i64 u, .int .i64 x, .int .i64 x] 48)) (Blk.new w 48 [.slice A k.length c, .int .u32 o, .int .i64 u, .int .i64 x, .int .i64 x]) (Nat.le_refl _)
  go_enter Tryd.func8, Tryd.ntmps8
  have hg1 := (H0.blk (g := w.heap.size) (e := 48) (cs := [.slice A k.length c, .int .u32 o, .int .i64 u, .int .i64 x, .int .i64 x]) (List.Mem.head _)).lt
  go_upto_region 1 with fail
  obtain ⟨w1, hw1⟩ : ∃ w1, World.alloc w (.cells #[.slice A k.length c, .int .u32 o, .int .i64 u, .int .i64 x, .int .i64 x] 48) = w1 := ⟨_, rfl⟩
  obtain ⟨g1, hg⟩ : ∃ g, w.heap.size = g := ⟨_, rfl⟩
  simp only [hw1, hg] at H0 hg1 ⊢
  clear hw1 hg
  refine wp_region_wmr (RT.up w1.drew.heap.size) [0, 1, 2, 3, 4, 5, 6, 7, 8, 9, 10, 11, 12] (by kernel_rfl) (by kernel_rfl) (by kernel_rfl) (by kernel_rfl) ?_
  have K1 := H0.drew
  clear H0
  have hgd : g1 < w1.drew.heap.size := hg1
  clear hg1
  generalize w1.drew = wd at *
  have B1 := K1.blk (g := g1) (e := 48) (cs := [.slice A k.length c, .int .u32 o, .int .i64 u, .int .i64 x, .int .i64 x]) (List.Mem.head _)
  have hfr : ∀ w', Fr (fun k => wd.heap.size ≤ k) wd w' → Blk w' g1 48 [.slice A k.length c, .int .u32 o, .int .i64 u, .int .i64 x, .int .i64 x] := fun w' h => Fr.blk h B1 (by omega)
  iterate 1 (refine wmr_rd rfl rfl (fun K hK => ?_); go_simp; refine hK _ ?_; clear hK K)
  refine wmr_ld1 rfl rfl 25 (.tmp 12) rfl rfl (fun w' h => ((hfr w' h).cell 0).trans rfl) _ Tryd.underlying25 rfl ?_
  iterate 1 (refine wmr_rd rfl rfl (fun K hK => ?_); go_simp; refine hK _ ?_; clear hK K)
  refine wmr_ldR rfl rfl 24 (.tmp 14) rfl (g := g1) (off := 1) (t := 48) (whole := [.slice A k.length c, .int .u32 o, .int .i64 u, .int .i64 x, .int .i64 x]) (cs := [.int .u32 o, .int .i64 u]) hfr (fun j v h => by
    match j, h with
    | 0, h => exact h
    | 1, h => exact h
    | j + 2, h => simp at h) rfl _ Tryd.underlying24 rfl (by kernel_rfl) ?_
  iterate 1 (refine wmr_rd rfl rfl (fun K hK => ?_); go_simp; refine hK _ ?_; clear hK K)
  refine wmr_ld1 rfl rfl 2 (.tmp 16) rfl rfl (fun w' h => ((hfr w' h).cell 3).trans rfl) _ Tryd.underlying2 rfl ?_
  iterate 1 (refine wmr_rd rfl rfl (fun K hK => ?_); go_simp; refine hK _ ?_; clear hK K)
  refine wmr_ld1 rfl rfl 2 (.tmp 18) rfl rfl (fun w' h => ((hfr w' h).cell 4).trans rfl) _ Tryd.underlying2 rfl ?_
  refine wmr_ext rfl rfl (fun K hK => ?_)
  rw [if_pos (show Region.wanted _ _ = true from rfl)]
  refine wp_alS K1 24 rfl [.int .u32 0, .int .i64 0] (by kernel_rfl) (fun w2 hz2 hx2 K2 => hK _ _ (Ext.up hx2 _) ?_)
  clear hz2 hx2 hK K
  iterate 1 (refine wmr_rd rfl rfl (fun K hK => ?_); go_simp; refine hK _ ?_; clear hK K)
  refine wmr_ext rfl rfl (fun K hK => ?_)
  rw [if_pos (show Region.wanted _ _ = true from rfl)]
  refine wp_stS [] K2 24 (.tmp 4) (.tmp 15) rfl (cs := [.int .u32 o, .int .i64 u]) rfl rfl (by kernel_rfl) rfl (ses_one o u) (fun w3 K3 hu3 => hK _ _ (Upd.up hu3 (Nat.le_refl _)) ?_)
  dsimp only [List.nil_append] at K3
  clear hu3 hK K K2 K1 B1 hfr
  iterate 2 (refine wmr_rd rfl rfl (fun K hK => ?_); go_simp; refine hK _ ?_; clear hK K)
  refine wmr_nil ?_
  obtain ⟨g4, G4⟩ : ∃ g, wd.heap.size = g := ⟨_, rfl⟩
  rw [G4] at K3 ⊢
  clear G4 hgd
  obtain ⟨c0, c1, hg0⟩ := cells2 (K3.blk (g := g4) (e := 24) (cs := [.int .u32 o, .int .i64 u]) (List.Mem.head _))
  have KK := hide K3
  clear K3
  go_wp2_with fail
  (with_reducible refine (HIS.out _ KK.out.toExt).mono ?_)
  rintro e w4 ⟨g7, rfl, hS⟩
  have K4 := KK.out.join hS
  dsimp only [List.nil_append, List.cons_append] at K4
  clear KK hS HIS c0 c1 hg0
  obtain ⟨c0, c1, hg0⟩ := cells2 (K4.blk (g := g4) (e := 24) (cs := [.int .u32 o, .int .i64 u]) (List.Mem.tail _ (List.Mem.head _)))
  have KK := hide K4
  clear K4
  go_wp2_with fail
  (with_reducible refine (HO1.out _).mono ?_)
  rintro e w5 ⟨rfl, hx5⟩
  have K5 := KK.out.ext hx5
  clear KK hx5 HO1 c0 c1 hg0
  obtain ⟨c0, c1, hg0⟩ := cells2 (K5.blk (g := g4) (e := 24) (cs := [.int .u32 o, .int .i64 u]) (List.Mem.tail _ (List.Mem.head _)))
  have KK := hide K5
  clear K5
  go_wp2_with fail
  (with_reducible refine (HO2.out _).mono ?_)
  rintro e w6 ⟨rfl, hx6⟩
  have K6 := KK.out.ext hx6
  clear KK hx6 HO2 c0 c1 hg0
  obtain ⟨c0, c1, hg0⟩ := cells2 (K6.blk (g := g4) (e := 24) (cs := [.int .u32 o, .int .i64 u]) (List.Mem.tail _ (List.Mem.head _)))
  have HR7 := hide (K6.blk (g := g7) (e := 64) (cs := byt T) (List.Mem.head _)).rd
  have KK := hide K6
  clear K6
  go_wp2_with fail
  (with_reducible refine (HAC.out g7 _ KK.out.toExt HR7.out).mono ?_)
  rintro e w7 ⟨rfl, hx7⟩
  have K7 := KK.out.ext hx7
  clear KK hx7 HAC HR7 c0 c1 hg0
  obtain ⟨c0, c1, hg0⟩ := cells2 (K7.blk (g := g4) (e := 24) (cs := [.int .u32 o, .int .i64 u]) (List.Mem.tail _ (List.Mem.head _)))
  have KK := hide K7.toExt
  clear K7
  go_wp2_with fail
  (with_reducible refine (shown_any _ (HL.out.ext KK.out)).mono ?_)
  rintro e w8 ⟨rfl, hx8⟩
  go_wp2_with fail
  go_ret
  exact ⟨by first | rfl | (rw [show decide (x < u) = false from decide_eq_false (by omega)]; rfl) | (rw [show decide (x < u) = true from decide_eq_true (by omega)]; rfl), KK.out.trans hx8⟩
theorem over_t (o u m : Int) (hu : 0 ≤ u ∧ u < 9223372036854775808) (hm : 0 ≤ m ∧ m < 9223372036854775808) (h : u ≤ m) (W : World) : Calls Tryd.prog 23 #[ses o u, .int .i64 m] W fun e w' => e = .returned (.tuple #[.bool true, .int .i64 0]) ∧ Ext W w' := by
  have := over_any o u m W ⟨by omega, by omega⟩ ⟨by omega, by omega⟩
  rwa [show overV u m = true by unfold overV; rw [if_neg (by omega), decide_eq_true h], show overE u m = 0 by unfold overE; rw [if_neg (by omega)]] at this
theorem over_f (o u m : Int) (hu : 0 ≤ u ∧ u < 9223372036854775808) (hm : 0 ≤ m ∧ m < 9223372036854775808) (h : ¬ u ≤ m) (W : World) : Calls Tryd.prog 23 #[ses o u, .int .i64 m] W fun e w' => e = .returned (.tuple #[.bool false, .int .i64 0]) ∧ Ext W w' := by
  have := over_any o u m W ⟨by omega, by omega⟩ ⟨by omega, by omega⟩
  rwa [show overV u m = false by unfold overV; rw [if_neg (by omega), decide_eq_false h], show overE u m = 0 by unfold overE; rw [if_neg (by omega)]] at this
theorem ends_law (w : World) (hl : Laid w) (v0 : Value) (h0 : ∃ cs, v0 = .agg cs ∧ Lvs Tryd.prog w [.slice 5, .int .u32, .int .i64, .int .i64, .int .i64] cs.toList) : Calls Tryd.prog 8 #[v0] w fun e w' => e = .returned (.bool true) ∧ Ext w w' := by
  obtain ⟨A, k, c, o, u, x, y, rfl, hr, hb, hc, hm, ho, hu, hx, hy⟩ := timesA h0
  clear h0
  by_cases h1 : k.length < 1
  · exact ends_e1 k A c o u x y w hl h1
  by_cases h2 : 64 < k.length
  · exact ends_e2 k A c o u x y w hl h1 h2
  by_cases h3 : u < 0
  · exact ends_e3 k A c o u x y w hl h1 h2 h3
  by_cases h4 : x < 0
  · exact ends_e4 k A c o u x y w hl h1 h2 h3 h4
  by_cases h5 : y < 0
  · exact ends_e5 k A c o u x y w hl h1 h2 h3 h4 h5
  have hk : keyOk k := ⟨by omega, by omega⟩
  have hu1 := h3
  have hu0 : 0 ≤ u ∧ u < 9223372036854775808 := by omega
  have hxb : 0 ≤ x ∧ x < 9223372036854775808 := by omega
  have hyb : 0 ≤ y ∧ y < 9223372036854775808 := by omega
  have hTl : (tokB k (recB o u)).length = 44 := tokB_len (recB_len o u)
  have hTB : isB (tokB k (recB o u)) := tokB_isB (recB_isB o u)
  have hiss := fun (x : World) (h : Ext w x) => issue_ok k A c o u x (hl.ext h) (hr.ext h) hb hc (by omega) ho hu hk h3
  have hacc := fun (g : Nat) (W : World) (h : Ext w W) (hR : Rd W (some ⟨g, 0, none⟩) (byt (tokB k (recB o u)))) => accept_any k (tokB k (recB o u)) x A c (some ⟨g, 0, none⟩) 44 W (hl.ext h) (hr.ext h) hb hc (by omega) hR hTB (Nat.le_of_eq hTl) (by omega) hx
  have hop := open_issue hk ho hu0
  have hd : decU ((tokB k (recB o u)).take 12) = u := by rw [tokB_take (recB_len o u)]; exact (dec_rec ho hu0).2
  by_cases hxu : x < u
  · have hE : acceptE k (tokB k (recB o u)) x = 0 := by unfold acceptE; rw [if_pos hop.1, if_neg (by omega), hd, if_neg (by omega)]
    rw [hE, hTl] at hacc
    rcases Int.lt_trichotomy x y with hxy | rfl | hyx
    · by_cases h : u ≤ y
      · exact ends_lt01 k _ A c o u x y _ _ w hl hk hu1 (by omega) (by omega) hTl (by omega) (by omega) (by omega) hiss (over_f o u x hu0 hxb (by omega)) (over_t o u y hu0 hyb (by omega)) hacc
      · exact ends_lt00 k _ A c o u x y _ _ w hl hk hu1 (by omega) (by omega) hTl (by omega) (by omega) (by omega) hiss (over_f o u x hu0 hxb (by omega)) (over_f o u y hu0 hyb (by omega)) hacc
    · exact ends_eq00 k _ A c o u x x _ _ w hl hk hu1 (by omega) (by omega) hTl  (by omega) (by omega) hiss (over_f o u x hu0 hxb (by omega)) (over_f o u x hu0 hxb (by omega)) hacc
    · exact ends_gt00 k _ A c o u x y _ _ w hl hk hu1 (by omega) (by omega) hTl (by omega) (by omega) (by omega) hiss (over_f o u y hu0 hyb (by omega)) (over_f o u x hu0 hxb (by omega)) hacc
  · have hE : acceptE k (tokB k (recB o u)) x = 13 := by unfold acceptE; rw [if_pos hop.1, if_neg (by omega), hd, if_pos (by omega)]
    rw [hE, hTl] at hacc
    rcases Int.lt_trichotomy x y with hxy | rfl | hyx
    · exact ends_lt11 k _ A c o u x y _ _ w hl hk hu1 (by omega) (by omega) hTl (by omega) (by omega) (by omega) hiss (over_t o u x hu0 hxb (by omega)) (over_t o u y hu0 hyb (by omega)) hacc
    · exact ends_eq11 k _ A c o u x x _ _ w hl hk hu1 (by omega) (by omega) hTl  (by omega) (by omega) hiss (over_t o u x hu0 hxb (by omega)) (over_t o u x hu0 hxb (by omega)) hacc
    · by_cases h : u ≤ y
      · exact ends_gt11 k _ A c o u x y _ _ w hl hk hu1 (by omega) (by omega) hTl (by omega) (by omega) (by omega) hiss (over_t o u y hu0 hyb (by omega)) (over_t o u x hu0 hxb (by omega)) hacc
      · exact ends_gt01 k _ A c o u x y _ _ w hl hk hu1 (by omega) (by omega) hTl (by omega) (by omega) (by omega) hiss (over_f o u y hu0 hyb (by omega)) (over_t o u x hu0 hxb (by omega)) hacc
end Go.Proofs.YtckmbhdbabnmcaaDoor
