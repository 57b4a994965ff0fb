/- The law ShaBlocks walked. -/
import Derived.Test.YtmflanhcddehlaaDoorS15
import Derived.Test.YtmflanhcddehlaaDoorEqs
import Derived.Test.YtmflanhcddehlaaDoorFlat
namespace Go.Proofs.YtmflanhcddehlaaDoor
open Go.RowKit Go.Gr
set_option linter.unusedVariables false
attribute [local go_sem] rdOp rdAt rdUpon Cls
theorem lvs_ints {P : Program} {w : World} {k : IntKind} : ∀ (n : Nat) (V : List Value), Lvs P w (List.replicate n (.int k)) V → ∃ l : List Int, V = l.map (Value.int k) ∧ l.length = n ∧ ∀ x ∈ l, (Lit.int k x).wf = true
  | 0, V, h => ⟨[], by rw [Lvs.nil_ h]; rfl, rfl, by simp⟩
  | n + 1, V, h => by
    rw [List.replicate_succ] at h
    obtain ⟨v, U, rfl, ⟨x, rfl, hx⟩, hU⟩ := h.cons
    obtain ⟨l, rfl, hl, hw⟩ := lvs_ints n U hU
    exact ⟨x :: l, rfl, by simp [hl], by intro y hy; rw [List.mem_cons] at hy; rcases hy with rfl | hy; exact hx; exact hw y hy⟩
theorem u32_arg {w : World} {v : Value} {n : Nat} (h : ∃ cs, v = .agg cs ∧ Lvs Tryd.prog w (List.replicate n (.int .u32)) cs.toList) : ∃ l, v = .agg (u32v l).toArray ∧ l.length = n ∧ isW l := by
  obtain ⟨cs, rfl, h⟩ := h
  obtain ⟨l, h1, h2, h3⟩ := lvs_ints n _ h
  exact ⟨l, by congr 1; rw [u32v, ← h1], h2, fun x hx => wf_u32 (h3 x hx)⟩
theorem u8_arg {w : World} {v : Value} {n : Nat} (h : ∃ cs, v = .agg cs ∧ Lvs Tryd.prog w (List.replicate n (.int .u8)) cs.toList) : ∃ l, v = .agg (byt l).toArray ∧ l.length = n ∧ isB l := by
  obtain ⟨cs, rfl, h⟩ := h
  obtain ⟨l, h1, h2, h3⟩ := lvs_ints n _ h
  exact ⟨l, by congr 1; rw [byt, ← h1], h2, fun x hx => wf_u8 (h3 x hx)⟩
theorem eql8 (l : List Int) (h : l.length = 8) (w : World) : (binOp .eql 23 (.agg (u32v l).toArray) (.agg (u32v l).toArray)).run Tryd.prog w = .ok (.bool true) w := by
  have := run_eql_ints (P := Tryd.prog) Tryd.underlying23 Tryd.underlying22 (by kernel_rfl) (by kernel_rfl) l l h h w
  rwa [beq_self_eq_true] at this
theorem eql64 (l : List Int) (h : l.length = 64) (w : World) : (binOp .eql 26 (.agg (u32v l).toArray) (.agg (u32v l).toArray)).run Tryd.prog w = .ok (.bool true) w := by
  have := run_eql_ints (P := Tryd.prog) Tryd.underlying26 Tryd.underlying22 (by kernel_rfl) (by kernel_rfl) l l h h w
  rwa [beq_self_eq_true] at this
set_option maxHeartbeats 2000000 in
theorem blocks_law (w : World) (hl : Laid w) (v0 : Value) (h0 : ∃ cs, v0 = .agg cs ∧ Lvs Tryd.prog w (List.replicate 8 (.int .u32)) cs.toList) (v1 : Value) (h1 : ∃ cs, v1 = .agg cs ∧ Lvs Tryd.prog w (List.replicate 64 (.int .u8)) cs.toList) :
    Calls Tryd.prog 3 #[v0, v1] w fun e w' => e = .returned (.bool true) ∧ Ext w w' := by
  have HL := hide hl
  obtain ⟨st, rfl, hs, hsw⟩ := u32_arg h0
  obtain ⟨b, rfl, hb, hbb⟩ := u8_arg h1
  have HS8 : Hid ((u32v st).length = 8) := hide (by rw [u32v_length]; exact hs)
  have HB8 : Hid ((byt b).length = 64) := hide (by rw [byt_length]; exact hb)
  have HC1 := fun (x : World) (h : Laid x) => block_any st b x hs hb hsw hbb h
  have HC2 := fun (x : World) => rBlock_any st b x hs hb hsw hbb
  have hbl := (blockS_ok st b hs hsw).1
  generalize blockS st b = r at *
  have e1 := eql8 r hbl
  have e2 := eql64 kT rfl
  have e3 := eql8 hT rfl
  have HF1 := hide HC1
  have HF2 := hide HC2
  clear hl h0 h1 hs hb hsw hbb HC1 HC2 hbl
  go_enter Tryd.func3, Tryd.ntmps3
  go_wp2_with fail
  have HXw : Hid (Ext w ((w.alloc (.cells (u32v st).toArray 23)).alloc (.cells (byt b).toArray 24)).drew) := hide (((Ext.refl w).alloc _).alloc _).drew
  have HB0 : Hid (Blk ((w.alloc (.cells (u32v st).toArray 23)).alloc (.cells (byt b).toArray 24)).drew w.heap.size 23 (u32v st)) := hide ((Blk.new _ _ _).alloc _)
  have HB1 : Hid (Blk ((w.alloc (.cells (u32v st).toArray 23)).alloc (.cells (byt b).toArray 24)).drew (w.heap.size + 1) 24 (byt b)) := hide (Blk.new' _ _ (by simp))
  refine wp_region_wm [0, 1, 3, 4, 2, 5, 6, 7, 8, 9, 10, 11, 12, 13, 14, 15, 16, 17, 18, 19, 20] (by kernel_rfl) (by kernel_rfl) (by kernel_rfl) (by kernel_rfl) ?_
  generalize ((w.alloc (.cells (u32v st).toArray 23)).alloc (.cells (byt b).toArray 24)).drew = wd at *
  refine wm_loadB rfl rfl 23 (.tmp 2) rfl HB0.out rfl _ Tryd.underlying23 rfl (by rw [HS8.out]; kernel_rfl) ?_
  refine wm_loadB rfl rfl 24 (.tmp 3) rfl HB1.out rfl _ Tryd.underlying24 rfl (by rw [HB8.out]; kernel_rfl) ?_
  refine wm_loadB rfl rfl 23 (.tmp 2) rfl HB0.out rfl _ Tryd.underlying23 rfl (by rw [HS8.out]; kernel_rfl) ?_
  refine wm_loadB rfl rfl 24 (.tmp 3) rfl HB1.out rfl _ Tryd.underlying24 rfl (by rw [HB8.out]; kernel_rfl) ?_
  refine wm_ext rfl rfl (fun K hK => ?_)
  go_simp
  go_at_call 12
  (with_reducible refine (HF1.out _ (HL.out.ext HXw.out)).mono ?_)
  rintro e w1 ⟨rfl, hx1⟩
  refine hK _ _ hx1 ?_
  clear hK K
  have HX1 : Hid (Ext w w1) := hide (HXw.out.trans hx1)
  refine wm_ext rfl rfl (fun K hK => ?_)
  go_simp
  go_at_call 13
  (with_reducible refine (HF2.out _).mono ?_)
  rintro e w2 ⟨rfl, hx2⟩
  refine hK _ _ hx2 ?_
  clear hK K
  have HX2 : Hid (Ext w w2) := hide (HX1.out.trans hx2)
  iterate 2 (refine wm_rd rfl rfl (fun K hK => ?_); go_simp; refine hK _ ?_; clear hK K)
  refine wm_ext rfl rfl (fun K hK => ?_)
  go_simp
  go_at_call 14
  (with_reducible refine (constants_any _ (HL.out.ext HX2.out)).mono ?_)
  rintro e w3 ⟨rfl, hx3⟩
  refine hK _ _ hx3 ?_
  clear hK K
  have HX3 : Hid (Ext w w3) := hide (HX2.out.trans hx3)
  refine wm_ext rfl rfl (fun K hK => ?_)
  go_simp
  go_at_call 15
  (with_reducible refine (rconstants_any _).mono ?_)
  rintro e w4 ⟨rfl, hx4⟩
  refine hK _ _ hx4 ?_
  clear hK K
  have HX4 : Hid (Ext w w4) := hide (HX3.out.trans hx4)
  iterate 3 (refine wm_rd rfl rfl (fun K hK => ?_); go_simp; refine hK _ ?_; clear hK K)
  refine wm_ext rfl rfl (fun K hK => ?_)
  go_simp
  go_at_call 16
  (with_reducible refine (start_any _ (HL.out.ext HX4.out)).mono ?_)
  rintro e w5 ⟨rfl, hx5⟩
  refine hK _ _ hx5 ?_
  clear hK K
  have HX5 : Hid (Ext w w5) := hide (HX4.out.trans hx5)
  refine wm_ext rfl rfl (fun K hK => ?_)
  go_simp
  go_at_call 17
  (with_reducible refine (rstart_any _).mono ?_)
  rintro e w6 ⟨rfl, hx6⟩
  refine hK _ _ hx6 ?_
  clear hK K
  have HX6 : Hid (Ext w w6) := hide (HX5.out.trans hx6)
  iterate 3 (refine wm_rd rfl rfl (fun K hK => ?_); go_simp; refine hK _ ?_; clear hK K)
  refine wm_ext rfl rfl (fun K hK => ?_)
  go_simp
  go_at_call 18
  (with_reducible refine (shown_any _ (HL.out.ext HX6.out)).mono ?_)
  rintro e w7 ⟨rfl, hx7⟩
  refine hK _ _ hx7 ?_
  clear hK K
  have HX7 : Hid (Ext w w7) := hide (HX6.out.trans hx7)
  iterate 2 (refine wm_rd rfl rfl (fun K hK => ?_); go_simp; refine hK _ ?_; clear hK K)
  refine wm_nil ?_
  go_wp2_with fail
  go_ret
  exact ⟨rfl, HX7.out⟩
end Go.Proofs.YtmflanhcddehlaaDoor
