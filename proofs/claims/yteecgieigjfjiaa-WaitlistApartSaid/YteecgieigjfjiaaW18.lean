/- Lists of waiters: the reference's Leave, Take. -/
import Derived.Test.YteecgieigjfjiaaW17
import Derived.Test.YteecgieigjfjiaaFlat
import Derived.Laws.ResultCell
namespace Go.Gr
open Go.RowKit
theorem results_row_tmp {P : Program} {fn : Func} {p u : Tmp} {ty : TypeId} (h : fn.results = #[.cell p ty, .tmp u]) (tmps : Array Value) (w : World) (g : Nat) (t : TypeId) (cs : Array Value) (fr : Nat × Nat) (d : TypeDesc)
    (hp : tmps.getD p undef = .pointer (some ⟨g, 0, none⟩)) (hg : w.heap[g]? = some (.cells cs t fr))
    (hu : P.underlying ty = some d) (hd : (match d with | .struct _ | .array _ _ => true | _ => false) = true) (hi : (P.info? ty).map (·.size) = some cs.size) {x : Value} (hx : tmps.getD u undef = x) :
    (results fn tmps).run P w = .ok (.tuple #[.agg cs, x]) w := by
  subst hx
  rw [results_cell_tmp h, hp]
  simp [asAddr, run_loadVar_row w g t ty cs fr d hg hu hd hi]
end Go.Gr
namespace Go.Proofs.Yteecgieigjfjiaa
open Go.RowKit Go.Gr Go.Wl
set_option linter.unusedVariables false
set_option linter.unusedSimpArgs false
attribute [local go_sem] rdOp rdAt rdUpon Cls forall_fr
theorem rd_dropA {w : World} {cd : Addr} {xs : List Value} (h : Rd w (some cd) xs) (m : Nat) : Rd w (some (cd.add m)) (xs.drop m) := by
  intro j u hu
  rw [List.getElem?_drop] at hu
  obtain ⟨ad, e, hc⟩ := h (m + j) u hu
  cases e
  exact ⟨_, rfl, by rw [add_add']; exact hc⟩
theorem rd_nilA (w : World) (A : Option Addr) : Rd w A (u32s []) := by intro j u hu; simp [u32s] at hu
set_option maxRecDepth 100000 in
set_option maxHeartbeats 8000000 in
theorem rleave_any {A B : Option Addr} {vs : List Value} {S : St} {c d : Nat} {i o : Int} {w : World} (h : (AsRf A B vs S).p w) (hok : Ok S) : Calls Try.prog 32 #[rv A B S.length c d, .int .i64 i, .int .u32 o] w fun e w' => ∃ v, e = .returned (.tuple #[v, .int .i64 (leaveS S i o).2]) ∧ RfTo c w A B vs S w' v (leaveS S i o).1 := by
  obtain ⟨i32, ki, kz0, kz1, kz2⟩ := info_parts info32
  have H := hide h
  have H0 := (Sep.refl No w).newB ((Ext.refl w).alloc (.cells #[.slice A S.length c, .slice B S.length d] 45)) (Blk.new w 45 [.slice A S.length c, .slice B S.length d]) (Nat.le_refl _)
  have HPL := hide (fun (x : World) (hx : Ext w x) => rplaceL_any (A := A) (B := B) (c := c) (d := d) (i := i) (o := o) (rf_ext h hx) hok)
  have tok1 : True := trivial
  clear h
  by_cases hin : inS S i ∧ o ∈ wt S i
  · obtain ⟨hin, hom⟩ := hin
    obtain ⟨hb, s, rfl, hs⟩ := inB_true hin
    have hsi : (s : Int) < (S.length : Int) := by omega
    have hS8 := hok.len
    have h1k := hok.get hin
    have hlen := h1k.len
    have hlim := h1k.lim
    simp only at hlen hlim
    obtain ⟨k, HK⟩ : ∃ k, Hid ((wt S s).idxOf o = k) := ⟨_, hide rfl⟩
    have hkl := idxOf_lt hom
    rw [HK.out] at hkl
    have HE : Hid (leaveS S s o = (put S s ((wt S s).eraseIdx k), 0)) := hide (by unfold leaveS; rw [if_neg (fun h => h hin), if_pos hom, HK.out])
    rw [show placeS S s o = ((k : Int) + 1, 0) by unfold placeS; rw [if_neg (fun h => h hin), if_pos hom, HK.out]] at HPL
    obtain ⟨bd, C, cr, hB, hrow, hcr⟩ := rf_row_all H.out hs
    obtain ⟨cd, hC, _⟩ := u32s_at (hrow w (Ext.refl w)).2 hkl
    obtain ⟨ad, hA, _⟩ := rf_lim_all H.out hs
    subst hB hC hA
    have HROW := hide hrow
    have hw1 : IntKind.i64.wrap ((k : Int) + 1 - 1) = (k : Int) := by rw [show (k : Int) + 1 - 1 = k by omega]; exact IntWalk.i64_in _ (by omega)
    have hw2 : (k : Int) + 1 - 1 = k := by omega
    have hw3 : IntKind.i64.wrap (k : Int) = k := IntWalk.i64_in _ (by omega)
    have hkc : (k : Int) ≤ (cr : Int) := by omega
    have hkl2 : (k : Int) + 1 ≤ ((wt S s).length : Int) := by omega
    have hcrl : ((wt S s).length : Int) ≤ (cr : Int) := by omega
    have hcr0 : ¬ cr = 0 := by omega
    have hii : (k : Int) ≤ (k : Int) + 1 := by omega
    have hi01 : (0 : Int) ≤ (k : Int) + 1 := by omega
    have HRT : Hid (∀ wz, Ext w wz → Rd wz (some cd) (u32s ((wt S s).take k))) := hide (fun wz x => by rw [← u32s_take]; exact (hrow wz x).2.take_ k)
    have HRD : Hid (∀ wz, Ext w wz → Rd wz (some (cd.add (k + 1))) (u32s ((wt S s).drop (k + 1)))) := hide (fun wz x => by rw [← u32s_drop]; exact rd_dropA (hrow wz x).2 (k + 1))
    have HRD0 : Hid (k + 1 = cr → ∀ wz A', Rd wz A' (u32s ((wt S s).drop (k + 1)))) := hide (fun e wz A' => by rw [List.drop_eq_nil_of_le (by omega)]; exact rd_nilA _ _)
    have HL1 : Hid (k = (u32s ((wt S s).take k)).length) := hide (by rw [u32s_len, List.length_take]; omega)
    have HL2 : Hid ((wt S s).length - (k + 1) = (u32s ((wt S s).drop (k + 1))).length) := hide (by rw [u32s_len, List.length_drop])
    have HB1 : Hid (([] : List Value).length + (u32s ((wt S s).take k)).length ≤ 1000000000) := hide (by rw [u32s_len, List.length_take, List.length_nil]; omega)
    have HB2 : Hid ((u32s ((wt S s).take k)).length + (u32s ((wt S s).drop (k + 1))).length ≤ 1000000000) := hide (by rw [u32s_len, u32s_len, List.length_take, List.length_drop]; omega)
    have HAPP : Hid (u32s ((wt S s).take k) ++ u32s ((wt S s).drop (k + 1)) = u32s ((wt S s).eraseIdx k)) := hide (by rw [← u32s_append, List.eraseIdx_eq_take_drop_succ])
    have HLR : Hid (((wt S s).eraseIdx k).length ≤ 1000000) := hide (by rw [List.length_eraseIdx, if_pos hkl]; omega)
    have HLEN : Hid (((wt S s).eraseIdx k).length = k + ((wt S s).length - (k + 1))) := hide (by rw [List.length_eraseIdx, if_pos hkl]; omega)
    clear hb hrow h1k hin hom
    go_enter Try.func32, Try.ntmps32
    go_upto_region 1 with (have zz := tok1; clear zz tok1; refine wpList_alS H0 rfl 45 rfl [.slice none 0 0, .slice none 0 0] (by kernel_rfl) ?_; intro w1 hz1 K1; clear hz1)
    rw [show (World.alloc w (.cells #[.slice (some ad) S.length c, .slice (some bd) S.length d] 45)).heap.size = w.heap.size + 1 by simp] at K1
    try simp only [show (World.alloc w (.cells #[.slice (some ad) S.length c, .slice (some bd) S.length d] 45)).heap.size = w.heap.size + 1 by simp]
    obtain ⟨g3, G3⟩ : ∃ g, w.heap.size = g := ⟨_, rfl⟩
    rw [G3] at K1 ⊢
    have hG3 := hide G3
    clear H0 G3
    obtain ⟨c0, c1, hg0⟩ := cells2 (K1.blk (g := g3) (e := 45) (cs := [.slice (some ad) S.length c, .slice (some bd) S.length d]) (List.Mem.tail _ (List.Mem.head _)))
    have KK := hide K1
    clear K1
    go_wp2_with fail
    (with_reducible refine (HPL.out _ KK.out.toExt).mono ?_)
    rintro e w2 ⟨rfl, hx2⟩
    have K2 := KK.out.ext hx2
    clear KK hx2 c0 c1 hg0
    obtain ⟨c0, c1, hg0⟩ := cells2 (K2.blk (g := g3) (e := 45) (cs := [.slice (some ad) S.length c, .slice (some bd) S.length d]) (List.Mem.tail _ (List.Mem.head _)))
    have KK := hide K2
    clear K2
    have c2 := (HROW.out _ KK.out.toExt).1
    by_cases hci : cr = k + 1
    · have HCI := hide hci.symm
      go_upto_region 5 with fail
      refine wp_region_wmr (RT.fr fun k => w2.drew.heap.size ≤ k ∨ k = g3 + 1) [0, 1, 3, 4, 5, 6, 8, 9, 10, 2, 7, 11, 12, 13, 14] (by kernel_rfl) (by kernel_rfl) (by kernel_rfl) (by kernel_rfl) ?_
      have H1 := KK.out.drew
      clear KK c0 c1 hg0
      generalize w2.drew = wd at *
      obtain ⟨SB, hSB⟩ : ∃ s, wd.heap.size = s := ⟨_, rfl⟩
      have hB3 := H1.blk (g := g3) (e := 45) (cs := [.slice (some ad) S.length c, .slice (some bd) S.length d]) (List.Mem.tail _ (List.Mem.head _))
      have hg3SB : g3 < SB := by rw [← hSB]; exact hB3.lt
      have hsz1 : SB ≤ wd.heap.size := Nat.le_of_eq hSB.symm
      rw [hSB]
      refine wmr_ldX rfl rfl 45 (.tmp 3) rfl (fun w' h' => hB3.at5.fr h' (by omega)) rfl _ Try.underlying45 rfl (by kernel_rfl) ?_
      iterate 8 (refine wmr_rd rfl rfl (fun K hK => ?_); go_simp; refine hK _ ?_; clear hK K)
      clear hB3 hSB
      refine wmr_ext rfl rfl (fun K hK => ?_)
      go_simp
      refine hK _ _ ((Fr.of_ext ((Ext.refl wd).alloc _)).mono (fun i h => h.elim)) ?_
      clear hK K
      have H2 := bs0 H1 23
      obtain ⟨wb1, hwb⟩ : ∃ x, World.alloc wd (.cells #[] 23) = x := ⟨_, rfl⟩
      have hsz2 : SB ≤ wb1.heap.size := by rw [← hwb]; simp; omega
      rw [hwb] at H2 ⊢
      have hov2 : SB ≤ wd.heap.size := hsz1
      clear hwb H1
      refine wmr_ext rfl rfl (fun K hK => ?_)
      rw [if_pos (show Region.wanted _ _ = true from rfl)]
      refine wp_apS [] H2 (.tmp 29) (.tmp 33) 39 rfl i32 (.int .u32 0) 4 Try.underlying39 ki kz0 kz1 kz2 rfl rfl (A := some cd) (m := k) (c := _) (news := u32s ((wt S s).take k)) rfl HL1.out (HRT.out _ H2.toExt) (u32s_one _) HB1.out (by decide) ?_
      intro v38 w2a H3 hf5 hv5
      dsimp only [List.nil_append, List.cons_append] at H3
      have hov3 : ∀ j, v38.ownBlock = some j → SB ≤ j := fun j hj => (hv5 j hj).elim (fun h => by cases h; exact hov2) (fun h => Nat.le_trans hsz2 h)
      have hsz3 : SB ≤ w2a.heap.size := Nat.le_trans hsz2 hf5.size
      refine hK _ _ (hf5.mono (fun j hj => .inl (by cases hj; exact hov2))) ?_
      clear hK K hf5 hv5 H2
      refine wmr_ext rfl rfl (fun K hK => ?_)
      rw [if_pos (show Region.wanted _ _ = true from rfl)]
      refine wp_apS [] H3 (.tmp 34) (.tmp 37) 39 rfl i32 (.int .u32 0) 4 Try.underlying39 ki kz0 kz1 kz2 rfl rfl (A := some (cd)) (m := (wt S s).length - (k + 1)) (c := _) (news := u32s ((wt S s).drop (k + 1))) rfl HL2.out (HRD0.out HCI.out _ _) (u32s_one _) HB2.out (by decide) ?_
      intro v41 w3a H4 hf5 hv5
      dsimp only [List.nil_append, List.cons_append] at H4
      have hsz4 : SB ≤ w3a.heap.size := Nat.le_trans hsz3 hf5.size
      refine hK _ _ (hf5.mono (fun j hj => .inl (hov3 j hj))) ?_
      rw [HAPP.out] at H4
      clear hK K hf5 hv5 H3
      obtain ⟨C41, c41, hv41, hc41, hr41⟩ := own_row (H4.owns (e := 23) (v := v41) (List.Mem.head _))
      subst hv41
      refine wmr_ext rfl rfl (fun K hK => ?_)
      go_simp
      go_at_call 40
      have hW := with_any (c := c) (d := d) (rf_ext H.out H4.toExt) hs hS8 ((wt S s).eraseIdx k) C41 c41 hr41 HLR.out
      skip
      (with_reducible refine hW.mono ?_)
      rintro e w8 ⟨v8, rfl, hRF⟩
      obtain ⟨B', vs', d', rfl, hp8, hx8, hf8⟩ := hRF
      have HRF : Hid (RfTo c w3a (some ad) (some bd) vs S w8 (rv (some ad) B' (put S s ((wt S s).eraseIdx k)).length c d') (put S s ((wt S s).eraseIdx k))) := hide ⟨B', vs', d', rfl, hp8, hx8, hf8⟩
      refine hK _ _ ((Fr.of_ext hx8).mono (fun i h => h.elim)) ?_
      clear hK K
      have K8 := H4.ext hx8
      have HXA := hide H4.toExt
      have hgx : g3 + 1 < w3a.heap.size := (H4.blk (g := g3 + 1) (e := 45) (List.Mem.tail _ (List.Mem.head _))).lt
      clear hp8 hx8 hf8 hr41 hW H4
      refine wmr_ext rfl rfl (fun K hK => ?_)
      rw [if_pos (show Region.wanted _ _ = true from rfl)]
      refine wp_stS [_] K8 45 (.tmp 6) (.tmp 39) rfl (cs := [.slice (some ad) (put S s ((wt S s).eraseIdx k)).length c, .slice B' (put S s ((wt S s).eraseIdx k)).length d']) rfl rfl (by kernel_rfl) rfl (refs_one _ _ rfl rfl) (fun w9 K9 hu9 => hK _ _ ((Fr.of_upd hu9).mono fun k hk => .inr hk) ?_)
      dsimp only [List.nil_append, List.cons_append] at K9
      have HU9 := hide hu9
      clear hK K K8 hu9
      iterate 1 (refine wmr_rd rfl rfl (fun K hK => ?_); go_simp; refine hK _ ?_; clear hK K)
      refine wmr_nil ?_
      go_wp2_with fail
      refine bodyPost_ret (v := .tuple #[rv (some ad) B' (put S s ((wt S s).eraseIdx k)).length c d', .int .i64 0]) (results_row_tmp rfl _ _ (g3 + 1) 45 #[.slice (some ad) (put S s ((wt S s).eraseIdx k)).length c, .slice B' (put S s ((wt S s).eraseIdx k)).length d'] (0, 0) _ rfl (K9.blk (g := g3 + 1) (e := 45) (List.Mem.tail _ (List.Mem.head _))) Try.underlying45 rfl (by kernel_rfl) rfl) rfl ⟨_, by rw [HE.out]; try rfl, by rw [HE.out]; exact rf_store H.out HXA.out HRF.out (by rw [hG3.out]; omega) hgx HU9.out K9.toExt⟩
    · go_upto_region 5 with fail
      refine wp_region_wmr (RT.fr fun k => w2.drew.heap.size ≤ k ∨ k = g3 + 1) [0, 1, 3, 4, 5, 6, 8, 9, 10, 2, 7, 11, 12, 13, 14] (by kernel_rfl) (by kernel_rfl) (by kernel_rfl) (by kernel_rfl) ?_
      have H1 := KK.out.drew
      clear KK c0 c1 hg0
      generalize w2.drew = wd at *
      obtain ⟨SB, hSB⟩ : ∃ s, wd.heap.size = s := ⟨_, rfl⟩
      have hB3 := H1.blk (g := g3) (e := 45) (cs := [.slice (some ad) S.length c, .slice (some bd) S.length d]) (List.Mem.tail _ (List.Mem.head _))
      have hg3SB : g3 < SB := by rw [← hSB]; exact hB3.lt
      have hsz1 : SB ≤ wd.heap.size := Nat.le_of_eq hSB.symm
      rw [hSB]
      refine wmr_ldX rfl rfl 45 (.tmp 3) rfl (fun w' h' => hB3.at5.fr h' (by omega)) rfl _ Try.underlying45 rfl (by kernel_rfl) ?_
      iterate 8 (refine wmr_rd rfl rfl (fun K hK => ?_); go_simp; refine hK _ ?_; clear hK K)
      clear hB3 hSB
      refine wmr_ext rfl rfl (fun K hK => ?_)
      go_simp
      refine hK _ _ ((Fr.of_ext ((Ext.refl wd).alloc _)).mono (fun i h => h.elim)) ?_
      clear hK K
      have H2 := bs0 H1 23
      obtain ⟨wb1, hwb⟩ : ∃ x, World.alloc wd (.cells #[] 23) = x := ⟨_, rfl⟩
      have hsz2 : SB ≤ wb1.heap.size := by rw [← hwb]; simp; omega
      rw [hwb] at H2 ⊢
      have hov2 : SB ≤ wd.heap.size := hsz1
      clear hwb H1
      refine wmr_ext rfl rfl (fun K hK => ?_)
      rw [if_pos (show Region.wanted _ _ = true from rfl)]
      refine wp_apS [] H2 (.tmp 29) (.tmp 33) 39 rfl i32 (.int .u32 0) 4 Try.underlying39 ki kz0 kz1 kz2 rfl rfl (A := some cd) (m := k) (c := _) (news := u32s ((wt S s).take k)) rfl HL1.out (HRT.out _ H2.toExt) (u32s_one _) HB1.out (by decide) ?_
      intro v38 w2a H3 hf5 hv5
      dsimp only [List.nil_append, List.cons_append] at H3
      have hov3 : ∀ j, v38.ownBlock = some j → SB ≤ j := fun j hj => (hv5 j hj).elim (fun h => by cases h; exact hov2) (fun h => Nat.le_trans hsz2 h)
      have hsz3 : SB ≤ w2a.heap.size := Nat.le_trans hsz2 hf5.size
      refine hK _ _ (hf5.mono (fun j hj => .inl (by cases hj; exact hov2))) ?_
      clear hK K hf5 hv5 H2
      refine wmr_ext rfl rfl (fun K hK => ?_)
      rw [if_pos (show Region.wanted _ _ = true from rfl)]
      refine wp_apS [] H3 (.tmp 34) (.tmp 37) 39 rfl i32 (.int .u32 0) 4 Try.underlying39 ki kz0 kz1 kz2 rfl rfl (A := some (cd.add (k + 1))) (m := (wt S s).length - (k + 1)) (c := _) (news := u32s ((wt S s).drop (k + 1))) rfl HL2.out (HRD.out _ H3.toExt) (u32s_one _) HB2.out (by decide) ?_
      intro v41 w3a H4 hf5 hv5
      dsimp only [List.nil_append, List.cons_append] at H4
      have hsz4 : SB ≤ w3a.heap.size := Nat.le_trans hsz3 hf5.size
      refine hK _ _ (hf5.mono (fun j hj => .inl (hov3 j hj))) ?_
      rw [HAPP.out] at H4
      clear hK K hf5 hv5 H3
      obtain ⟨C41, c41, hv41, hc41, hr41⟩ := own_row (H4.owns (e := 23) (v := v41) (List.Mem.head _))
      subst hv41
      refine wmr_ext rfl rfl (fun K hK => ?_)
      go_simp
      go_at_call 40
      have hW := with_any (c := c) (d := d) (rf_ext H.out H4.toExt) hs hS8 ((wt S s).eraseIdx k) C41 c41 hr41 HLR.out
      skip
      (with_reducible refine hW.mono ?_)
      rintro e w8 ⟨v8, rfl, hRF⟩
      obtain ⟨B', vs', d', rfl, hp8, hx8, hf8⟩ := hRF
      have HRF : Hid (RfTo c w3a (some ad) (some bd) vs S w8 (rv (some ad) B' (put S s ((wt S s).eraseIdx k)).length c d') (put S s ((wt S s).eraseIdx k))) := hide ⟨B', vs', d', rfl, hp8, hx8, hf8⟩
      refine hK _ _ ((Fr.of_ext hx8).mono (fun i h => h.elim)) ?_
      clear hK K
      have K8 := H4.ext hx8
      have HXA := hide H4.toExt
      have hgx : g3 + 1 < w3a.heap.size := (H4.blk (g := g3 + 1) (e := 45) (List.Mem.tail _ (List.Mem.head _))).lt
      clear hp8 hx8 hf8 hr41 hW H4
      refine wmr_ext rfl rfl (fun K hK => ?_)
      rw [if_pos (show Region.wanted _ _ = true from rfl)]
      refine wp_stS [_] K8 45 (.tmp 6) (.tmp 39) rfl (cs := [.slice (some ad) (put S s ((wt S s).eraseIdx k)).length c, .slice B' (put S s ((wt S s).eraseIdx k)).length d']) rfl rfl (by kernel_rfl) rfl (refs_one _ _ rfl rfl) (fun w9 K9 hu9 => hK _ _ ((Fr.of_upd hu9).mono fun k hk => .inr hk) ?_)
      dsimp only [List.nil_append, List.cons_append] at K9
      have HU9 := hide hu9
      clear hK K K8 hu9
      iterate 1 (refine wmr_rd rfl rfl (fun K hK => ?_); go_simp; refine hK _ ?_; clear hK K)
      refine wmr_nil ?_
      go_wp2_with fail
      refine bodyPost_ret (v := .tuple #[rv (some ad) B' (put S s ((wt S s).eraseIdx k)).length c d', .int .i64 0]) (results_row_tmp rfl _ _ (g3 + 1) 45 #[.slice (some ad) (put S s ((wt S s).eraseIdx k)).length c, .slice B' (put S s ((wt S s).eraseIdx k)).length d'] (0, 0) _ rfl (K9.blk (g := g3 + 1) (e := 45) (List.Mem.tail _ (List.Mem.head _))) Try.underlying45 rfl (by kernel_rfl) rfl) rfl ⟨_, by rw [HE.out]; try rfl, by rw [HE.out]; exact rf_store H.out HXA.out HRF.out (by rw [hG3.out]; omega) hgx HU9.out K9.toExt⟩
  · obtain ⟨hpl, hlv⟩ := place_no hin
    rw [hpl] at HPL
    have HE := hide hlv
    clear hin hpl hlv
    go_enter Try.func32, Try.ntmps32
    go_upto_region 1 with (have zz := tok1; clear zz tok1; refine wpList_alS H0 rfl 45 rfl [.slice none 0 0, .slice none 0 0] (by kernel_rfl) ?_; intro w1 hz1 K1; clear hz1)
    rw [show (World.alloc w (.cells #[.slice A S.length c, .slice B S.length d] 45)).heap.size = w.heap.size + 1 by simp] at K1
    try simp only [show (World.alloc w (.cells #[.slice A S.length c, .slice B S.length d] 45)).heap.size = w.heap.size + 1 by simp]
    obtain ⟨g3, G3⟩ : ∃ g, w.heap.size = g := ⟨_, rfl⟩
    rw [G3] at K1 ⊢
    have hG3 := hide G3
    clear H0 G3
    obtain ⟨c0, c1, hg0⟩ := cells2 (K1.blk (g := g3) (e := 45) (cs := [.slice A S.length c, .slice B S.length d]) (List.Mem.tail _ (List.Mem.head _)))
    have KK := hide K1
    clear K1
    go_wp2_with fail
    (with_reducible refine (HPL.out _ KK.out.toExt).mono ?_)
    rintro e w2 ⟨rfl, hx2⟩
    have K2 := KK.out.ext hx2
    clear KK hx2 c0 c1 hg0
    obtain ⟨c0, c1, hg0⟩ := cells2 (K2.blk (g := g3) (e := 45) (cs := [.slice A S.length c, .slice B S.length d]) (List.Mem.tail _ (List.Mem.head _)))
    have KK := hide K2
    clear K2
    have tok2 : True := trivial
    go_wp2_with (have zz := tok2; clear zz tok2; refine wpList_stS [] KK.out rfl 45 (.tmp 6) (.tmp 20) rfl rfl (cs := [.slice A S.length c, .slice B S.length d]) rfl (by kernel_rfl) rfl (refs_one _ _ rfl rfl) ?_; intro w9 K9; dsimp only [List.nil_append] at K9)
    refine bodyPost_ret (v := .tuple #[rv A B S.length c d, .int .i64 4]) (results_row_tmp rfl _ _ (g3 + 1) 45 #[.slice A S.length c, .slice B S.length d] (0, 0) _ rfl (K9.blk (g := g3 + 1) (e := 45) (List.Mem.head _)) Try.underlying45 rfl (by kernel_rfl) rfl) rfl ⟨_, by rw [HE.out]; try rfl, by rw [HE.out]; exact rf_same H.out K9.toExt⟩
set_option maxRecDepth 100000 in
set_option maxHeartbeats 8000000 in
theorem rtake_any {A B : Option Addr} {vs : List Value} {S : St} {c d : Nat} {i : Int} {w : World} (h : (AsRf A B vs S).p w) (hok : Ok S) : Calls Try.prog 35 #[rv A B S.length c d, .int .i64 i] w fun e w' => ∃ v, e = .returned (.tuple #[v, .int .u32 (takeS S i).2.1, .int .i64 (takeS S i).2.2]) ∧ RfTo c w A B vs S w' v (takeS S i).1 := by
  have H := hide h
  have H0 := (Sep.refl No w).newB ((Ext.refl w).alloc (.cells #[.slice A S.length c, .slice B S.length d] 45)) (Blk.new w 45 [.slice A S.length c, .slice B S.length d]) (Nat.le_refl _)
  have HPL := hide (fun (x : World) (hx : Ext w x) => rfirst_any (A := A) (B := B) (c := c) (d := d) (i := i) (rf_ext h hx))
  have tok1 : True := trivial
  clear h
  by_cases hin : inS S i ∧ wt S i ≠ []
  · obtain ⟨hin, hne⟩ := hin
    obtain ⟨hb, s, rfl, hs⟩ := inB_true hin
    have hsi : (s : Int) < (S.length : Int) := by omega
    have hS8 := hok.len
    have h1k := hok.get hin
    have hlen := h1k.len
    have hlim := h1k.lim
    simp only at hlen hlim
    obtain ⟨x, HX0⟩ : ∃ x, Hid ((wt S s).getD 0 0 = x) := ⟨_, hide rfl⟩
    have hpos := List.length_pos_iff.2 hne
    have HE : Hid (takeS S s = (put S s (wt S s).tail, x, 0)) := hide (by unfold takeS; rw [if_neg (fun h => h hin), if_neg hne, HX0.out])
    rw [show firstS S s = (x, 0) by unfold firstS; rw [if_neg (fun h => h hin), if_neg hne, HX0.out]] at HPL
    obtain ⟨bd, C, cr, hB, hrow, hcr⟩ := rf_row_all H.out hs
    obtain ⟨cd, hC, _⟩ := u32s_at (hrow w (Ext.refl w)).2 hpos
    obtain ⟨ad, hA, _⟩ := rf_lim_all H.out hs
    subst hB hC hA
    have HROW := hide hrow
    have hl1 : (1 : Int) ≤ ((wt S s).length : Int) := by omega
    have hcrl : ((wt S s).length : Int) ≤ (cr : Int) := by omega
    have hcr0 : ¬ cr = 0 := by omega
    have HRD : Hid (∀ wz, Ext w wz → Rd wz (some ⟨cd.block, cd.off + 1, none⟩) (u32s (wt S s).tail)) := hide (fun wz x => by rw [← List.drop_one, ← u32s_drop, show (⟨cd.block, cd.off + 1, none⟩ : Addr) = cd.add 1 by simp [Addr.add]]; exact rd_dropA (hrow wz x).2 1)
    have HRD0 : Hid (1 = cr → ∀ wz A', Rd wz A' (u32s (wt S s).tail)) := hide (fun e wz A' => by rw [← List.drop_one, List.drop_eq_nil_of_le (by omega)]; exact rd_nilA _ _)
    have HLR : Hid ((wt S s).tail.length ≤ 1000000) := hide (by rw [List.length_tail]; omega)
    have HLEN : Hid ((wt S s).tail.length = (wt S s).length - 1) := hide (by rw [List.length_tail])
    clear hb hrow h1k hin hne
    go_enter Try.func35, Try.ntmps35
    go_upto_region 1 with (have zz := tok1; clear zz tok1; refine wpList_alS H0 rfl 45 rfl [.slice none 0 0, .slice none 0 0] (by kernel_rfl) ?_; intro w1 hz1 K1; clear hz1)
    rw [show (World.alloc w (.cells #[.slice (some ad) S.length c, .slice (some bd) S.length d] 45)).heap.size = w.heap.size + 1 by simp] at K1
    try simp only [show (World.alloc w (.cells #[.slice (some ad) S.length c, .slice (some bd) S.length d] 45)).heap.size = w.heap.size + 1 by simp]
    obtain ⟨g3, G3⟩ : ∃ g, w.heap.size = g := ⟨_, rfl⟩
    rw [G3] at K1 ⊢
    have hG3 := hide G3
    clear H0 G3
    obtain ⟨c0, c1, hg0⟩ := cells2 (K1.blk (g := g3) (e := 45) (cs := [.slice (some ad) S.length c, .slice (some bd) S.length d]) (List.Mem.tail _ (List.Mem.head _)))
    have KK := hide K1
    clear K1
    go_wp2_with fail
    (with_reducible refine (HPL.out _ KK.out.toExt).mono ?_)
    rintro e w2 ⟨rfl, hx2⟩
    have K2 := KK.out.ext hx2
    clear KK hx2 c0 c1 hg0
    obtain ⟨c0, c1, hg0⟩ := cells2 (K2.blk (g := g3) (e := 45) (cs := [.slice (some ad) S.length c, .slice (some bd) S.length d]) (List.Mem.tail _ (List.Mem.head _)))
    have KK := hide K2
    clear K2
    by_cases hci : cr = 1
    · have HCI := hide hci.symm
      go_upto_region 4 with fail
      refine wp_region_wmr (RT.fr fun k => w2.drew.heap.size ≤ k ∨ k = g3 + 1) [0, 1, 2, 3, 4, 5, 6, 7, 9, 8, 10, 11, 12] (by kernel_rfl) (by kernel_rfl) (by kernel_rfl) (by kernel_rfl) ?_
      have H1 := KK.out.drew
      clear KK c0 c1 hg0
      generalize w2.drew = wd at *
      obtain ⟨SB, hSB⟩ : ∃ s, wd.heap.size = s := ⟨_, rfl⟩
      have hB3 := H1.blk (g := g3) (e := 45) (cs := [.slice (some ad) S.length c, .slice (some bd) S.length d]) (List.Mem.tail _ (List.Mem.head _))
      have hg3SB : g3 < SB := by rw [← hSB]; exact hB3.lt
      have hcB := (HROW.out _ H1.toExt).1
      have hbSB : bd.block < SB := by rw [← hSB]; have := cell_lt hcB; rwa [add_block] at this
      have hbg : bd.block < g3 := by have := cell_lt (HROW.out _ (Ext.refl w)).1; rw [add_block] at this; rw [← hG3.out]; exact this
      rw [hSB]
      refine wmr_ldX rfl rfl 45 (.tmp 2) rfl (fun w' h' => hB3.at5.fr h' (by omega)) rfl _ Try.underlying45 rfl (by kernel_rfl) ?_
      iterate 2 (refine wmr_rd rfl rfl (fun K hK => ?_); go_simp; refine hK _ ?_; clear hK K)
      refine wmr_ld1 rfl rfl 37 (.tmp 21) rfl rfl (fun w' h' => ((h'.blk hB3 (by omega)).cell 1).trans rfl) _ Try.underlying37 rfl ?_
      iterate 2 (refine wmr_rd rfl rfl (fun K hK => ?_); go_simp; refine hK _ ?_; clear hK K)
      refine wmr_ld1 rfl rfl 39 (.tmp 24) rfl rfl (fun w' h' => h'.cell hcB (by rw [add_block]; omega)) _ Try.underlying39 rfl ?_
      iterate 2 (refine wmr_rd rfl rfl (fun K hK => ?_); go_simp; refine hK _ ?_; clear hK K)
      clear hB3 hSB hcB
      have hr41 := HRD0.out HCI.out wd (some cd)
      refine wmr_ext rfl rfl (fun K hK => ?_)
      go_simp
      go_at_call 40
      have hW := with_any (c := c) (d := d) (rf_ext H.out H1.toExt) hs hS8 (wt S s).tail (some cd) (0) hr41 HLR.out
      rw [HLEN.out] at hW
      (with_reducible refine hW.mono ?_)
      rintro e w8 ⟨v8, rfl, hRF⟩
      obtain ⟨B', vs', d', rfl, hp8, hx8, hf8⟩ := hRF
      have HRF : Hid (RfTo c wd (some ad) (some bd) vs S w8 (rv (some ad) B' (put S s (wt S s).tail).length c d') (put S s (wt S s).tail)) := hide ⟨B', vs', d', rfl, hp8, hx8, hf8⟩
      refine hK _ _ ((Fr.of_ext hx8).mono (fun i h => h.elim)) ?_
      clear hK K
      have K8 := H1.ext hx8
      have HXA := hide H1.toExt
      have hgx : g3 + 1 < wd.heap.size := (H1.blk (g := g3 + 1) (e := 45) (List.Mem.head _)).lt
      clear hp8 hx8 hf8 hr41 hW H1
      refine wmr_ext rfl rfl (fun K hK => ?_)
      rw [if_pos (show Region.wanted _ _ = true from rfl)]
      refine wp_stS [] K8 45 (.tmp 4) (.tmp 27) rfl (cs := [.slice (some ad) (put S s (wt S s).tail).length c, .slice B' (put S s (wt S s).tail).length d']) rfl rfl (by kernel_rfl) rfl (refs_one _ _ rfl rfl) (fun w9 K9 hu9 => hK _ _ ((Fr.of_upd hu9).mono fun k hk => .inr hk) ?_)
      dsimp only [List.nil_append, List.cons_append] at K9
      have HU9 := hide hu9
      clear hK K K8 hu9
      iterate 2 (refine wmr_rd rfl rfl (fun K hK => ?_); go_simp; refine hK _ ?_; clear hK K)
      refine wmr_nil ?_
      go_wp2_with fail
      refine bodyPost_ret (v := .tuple #[rv (some ad) B' (put S s (wt S s).tail).length c d', .int .u32 x, .int .i64 0]) (results_ctt rfl _ _ (g3 + 1) 45 [.slice (some ad) (put S s (wt S s).tail).length c, .slice B' (put S s (wt S s).tail).length d'] _ rfl (K9.blk (g := g3 + 1) (e := 45) (List.Mem.head _)) Try.underlying45 rfl (by kernel_rfl) rfl rfl) rfl ⟨_, by rw [HE.out]; try rfl, by rw [HE.out]; exact rf_store H.out HXA.out HRF.out (by rw [hG3.out]; omega) hgx HU9.out K9.toExt⟩
    · go_upto_region 4 with fail
      refine wp_region_wmr (RT.fr fun k => w2.drew.heap.size ≤ k ∨ k = g3 + 1) [0, 1, 2, 3, 4, 5, 6, 7, 9, 8, 10, 11, 12] (by kernel_rfl) (by kernel_rfl) (by kernel_rfl) (by kernel_rfl) ?_
      have H1 := KK.out.drew
      clear KK c0 c1 hg0
      generalize w2.drew = wd at *
      obtain ⟨SB, hSB⟩ : ∃ s, wd.heap.size = s := ⟨_, rfl⟩
      have hB3 := H1.blk (g := g3) (e := 45) (cs := [.slice (some ad) S.length c, .slice (some bd) S.length d]) (List.Mem.tail _ (List.Mem.head _))
      have hg3SB : g3 < SB := by rw [← hSB]; exact hB3.lt
      have hcB := (HROW.out _ H1.toExt).1
      have hbSB : bd.block < SB := by rw [← hSB]; have := cell_lt hcB; rwa [add_block] at this
      have hbg : bd.block < g3 := by have := cell_lt (HROW.out _ (Ext.refl w)).1; rw [add_block] at this; rw [← hG3.out]; exact this
      rw [hSB]
      refine wmr_ldX rfl rfl 45 (.tmp 2) rfl (fun w' h' => hB3.at5.fr h' (by omega)) rfl _ Try.underlying45 rfl (by kernel_rfl) ?_
      iterate 2 (refine wmr_rd rfl rfl (fun K hK => ?_); go_simp; refine hK _ ?_; clear hK K)
      refine wmr_ld1 rfl rfl 37 (.tmp 21) rfl rfl (fun w' h' => ((h'.blk hB3 (by omega)).cell 1).trans rfl) _ Try.underlying37 rfl ?_
      iterate 2 (refine wmr_rd rfl rfl (fun K hK => ?_); go_simp; refine hK _ ?_; clear hK K)
      refine wmr_ld1 rfl rfl 39 (.tmp 24) rfl rfl (fun w' h' => h'.cell hcB (by rw [add_block]; omega)) _ Try.underlying39 rfl ?_
      iterate 2 (refine wmr_rd rfl rfl (fun K hK => ?_); go_simp; refine hK _ ?_; clear hK K)
      clear hB3 hSB hcB
      have hr41 := HRD.out _ H1.toExt
      refine wmr_ext rfl rfl (fun K hK => ?_)
      go_simp
      go_at_call 40
      have hW := with_any (c := c) (d := d) (rf_ext H.out H1.toExt) hs hS8 (wt S s).tail (some ⟨cd.block, cd.off + 1, none⟩) (cr - 1) hr41 HLR.out
      rw [HLEN.out] at hW
      (with_reducible refine hW.mono ?_)
      rintro e w8 ⟨v8, rfl, hRF⟩
      obtain ⟨B', vs', d', rfl, hp8, hx8, hf8⟩ := hRF
      have HRF : Hid (RfTo c wd (some ad) (some bd) vs S w8 (rv (some ad) B' (put S s (wt S s).tail).length c d') (put S s (wt S s).tail)) := hide ⟨B', vs', d', rfl, hp8, hx8, hf8⟩
      refine hK _ _ ((Fr.of_ext hx8).mono (fun i h => h.elim)) ?_
      clear hK K
      have K8 := H1.ext hx8
      have HXA := hide H1.toExt
      have hgx : g3 + 1 < wd.heap.size := (H1.blk (g := g3 + 1) (e := 45) (List.Mem.head _)).lt
      clear hp8 hx8 hf8 hr41 hW H1
      refine wmr_ext rfl rfl (fun K hK => ?_)
      rw [if_pos (show Region.wanted _ _ = true from rfl)]
      refine wp_stS [] K8 45 (.tmp 4) (.tmp 27) rfl (cs := [.slice (some ad) (put S s (wt S s).tail).length c, .slice B' (put S s (wt S s).tail).length d']) rfl rfl (by kernel_rfl) rfl (refs_one _ _ rfl rfl) (fun w9 K9 hu9 => hK _ _ ((Fr.of_upd hu9).mono fun k hk => .inr hk) ?_)
      dsimp only [List.nil_append, List.cons_append] at K9
      have HU9 := hide hu9
      clear hK K K8 hu9
      iterate 2 (refine wmr_rd rfl rfl (fun K hK => ?_); go_simp; refine hK _ ?_; clear hK K)
      refine wmr_nil ?_
      go_wp2_with fail
      refine bodyPost_ret (v := .tuple #[rv (some ad) B' (put S s (wt S s).tail).length c d', .int .u32 x, .int .i64 0]) (results_ctt rfl _ _ (g3 + 1) 45 [.slice (some ad) (put S s (wt S s).tail).length c, .slice B' (put S s (wt S s).tail).length d'] _ rfl (K9.blk (g := g3 + 1) (e := 45) (List.Mem.head _)) Try.underlying45 rfl (by kernel_rfl) rfl rfl) rfl ⟨_, by rw [HE.out]; try rfl, by rw [HE.out]; exact rf_store H.out HXA.out HRF.out (by rw [hG3.out]; omega) hgx HU9.out K9.toExt⟩
  · obtain ⟨hpl, hlv⟩ := first_no hin
    rw [hpl] at HPL
    have HE := hide hlv
    clear hin hpl hlv
    go_enter Try.func35, Try.ntmps35
    go_upto_region 1 with (have zz := tok1; clear zz tok1; refine wpList_alS H0 rfl 45 rfl [.slice none 0 0, .slice none 0 0] (by kernel_rfl) ?_; intro w1 hz1 K1; clear hz1)
    rw [show (World.alloc w (.cells #[.slice A S.length c, .slice B S.length d] 45)).heap.size = w.heap.size + 1 by simp] at K1
    try simp only [show (World.alloc w (.cells #[.slice A S.length c, .slice B S.length d] 45)).heap.size = w.heap.size + 1 by simp]
    obtain ⟨g3, G3⟩ : ∃ g, w.heap.size = g := ⟨_, rfl⟩
    rw [G3] at K1 ⊢
    have hG3 := hide G3
    clear H0 G3
    obtain ⟨c0, c1, hg0⟩ := cells2 (K1.blk (g := g3) (e := 45) (cs := [.slice A S.length c, .slice B S.length d]) (List.Mem.tail _ (List.Mem.head _)))
    have KK := hide K1
    clear K1
    go_wp2_with fail
    (with_reducible refine (HPL.out _ KK.out.toExt).mono ?_)
    rintro e w2 ⟨rfl, hx2⟩
    have K2 := KK.out.ext hx2
    clear KK hx2 c0 c1 hg0
    obtain ⟨c0, c1, hg0⟩ := cells2 (K2.blk (g := g3) (e := 45) (cs := [.slice A S.length c, .slice B S.length d]) (List.Mem.tail _ (List.Mem.head _)))
    have KK := hide K2
    clear K2
    have tok2 : True := trivial
    go_wp2_with (have zz := tok2; clear zz tok2; refine wpList_stS [] KK.out rfl 45 (.tmp 4) (.tmp 17) rfl rfl (cs := [.slice A S.length c, .slice B S.length d]) rfl (by kernel_rfl) rfl (refs_one _ _ rfl rfl) ?_; intro w9 K9; dsimp only [List.nil_append] at K9)
    refine bodyPost_ret (v := .tuple #[rv A B S.length c d, .int .u32 0, .int .i64 4]) (results_ctt rfl _ _ (g3 + 1) 45 [.slice A S.length c, .slice B S.length d] _ rfl (K9.blk (g := g3 + 1) (e := 45) (List.Mem.head _)) Try.underlying45 rfl (by kernel_rfl) rfl rfl) rfl ⟨_, by rw [HE.out]; try rfl, by rw [HE.out]; exact rf_same H.out K9.toExt⟩
end Go.Proofs.Yteecgieigjfjiaa
