/- Lists of waiters: the reference's New. -/
import Derived.Test.YteecgieigjfjiaaW18
namespace Go.Proofs.Yteecgieigjfjiaa
open Go.RowKit Go.Gr Go.Wl
set_option linter.unusedVariables false
set_option linter.unusedSimpArgs false
attribute [local go_sem] rdOp rdAt rdUpon Cls forall_fr
theorem infoI : (Try.prog.info? 3).map (fun i => (i.zero, i.size, i.bytes)) = some (some (.int .i64 0), 1, 8) := by kernel_rfl
theorem limsS_new {l : List Int} (h : limE l = 0) : limsS (newS l) = l := by
  obtain ⟨_, _, h3⟩ := limE_zero h
  unfold limsS newS
  rw [List.map_map]
  conv => rhs; rw [← List.map_id l]
  refine List.map_congr_left fun x hx => ?_
  have := h3 x hx
  simp only [Function.comp, id]
  omega
theorem rowsS_new (l : List Int) : rowsS (newS l) = List.replicate l.length [] := by
  unfold rowsS newS
  rw [List.map_map]
  apply List.ext_getElem?
  intro j
  rw [List.getElem?_map, List.getElem?_replicate]
  rcases hq : l[j]? with _ | x
  · rw [if_neg (by have := List.getElem?_eq_none_iff.1 hq; omega)]; rfl
  · rw [if_pos (List.getElem?_eq_some_iff.1 hq).1]; rfl
theorem newS_len (l : List Int) : (newS l).length = l.length := by simp [newS]
/-- the reference's lists, all of them new -/
theorem sep_rf {w w' : World} {L : List As} {v : Value} {g : Nat} {l : List Int} (h0 : limE l = 0) {A : Option Addr} {c : Nat} (hv : v = .slice A l.length c) (H : Sep No w w' (As.own 3 v (i64s l) :: As.blk g 39 (List.replicate l.length (.slice none 0 0)) :: L)) :
    Sep No w w' (AsRf A (some ⟨g, 0, none⟩) (List.replicate l.length (.slice none 0 0)) (newS l) :: L) := by
  subst hv
  obtain ⟨A', c', e', hr, _⟩ := (H.owns (e := 3) (List.Mem.head _)).form
  rw [i64s_len] at e'
  cases e'
  have H1 := H.weak [] (B := As.rd A (i64s l)) (fun _ => hr) (fun i ⟨hne, ad, e, hi⟩ => by subst e; subst hi; rfl)
  have H2 := Sep.weak [_] H1 (B := AsRows (some ⟨g, 0, none⟩) (List.replicate l.length (.slice none 0 0)) (rowsS (newS l))) (fun hb => ⟨Blk.rd hb, by rw [rowsS_new]; exact AreRows.same _⟩) (fun i hi => by
    rcases hi with ⟨_, ad, e, rfl⟩ | ⟨ad, n, c, hm, _⟩
    · cases e; rfl
    · have := List.eq_of_mem_replicate hm
      cases this)
  exact H2.merge (C := AsRf A (some ⟨g, 0, none⟩) (List.replicate l.length (.slice none 0 0)) (newS l)) (fun ha hb => ⟨by rw [limsS_new h0]; exact ha, hb⟩) (fun i hi => by
    rcases hi with hi | hi
    · rw [limsS_new h0] at hi; exact .inl hi
    · exact .inr hi)
set_option maxRecDepth 100000 in
set_option maxHeartbeats 4000000 in
theorem rnew_any (l : List Int) (A : Option Addr) (c : Nat) (w : World) (hr : Rd w A (i64s l)) (hlm : l.length ≤ 100000) :
    Calls Try.prog 17 #[.slice A l.length c] w fun e w' => (limE l = 0 → ∃ A' B' c' d' vs, e = .returned (.tuple #[rv A' B' l.length c' d', .int .i64 0]) ∧ Sep No w w' [AsRf A' B' vs (newS l)]) ∧ (limE l ≠ 0 → e = .returned (.tuple #[rv none none 0 0 0, .int .i64 (limE l)]) ∧ Ext w w') := by
  obtain ⟨i39, hi, hz0, hz1, hz2⟩ := info_parts info39
  obtain ⟨i64, ki, kz0, kz1, kz2⟩ := info_parts infoI
  have HR := hide hr
  have HLC := hide (fun (x : World) (h : Ext w x) => limited_any l A c x (hr.ext h) hlm)
  have HL1 : Hid (l.length = (i64s l).length) := hide (i64s_len l).symm
  have HB1 : Hid (([] : List Value).length + (i64s l).length ≤ 1000000000) := hide (by rw [i64s_len, List.length_nil]; omega)
  have tok1 : True := trivial
  have tok2 : True := trivial
  clear hr
  by_cases h0 : limE l = 0
  · have HLIM := hide h0
    rw [h0] at HLC
    clear h0
    go_enter Try.func17, Try.ntmps17
    go_upto_region 1 with (have zz := tok1; clear zz tok1; refine wpList_alS (Sep.refl No w) rfl 45 rfl [.slice none 0 0, .slice none 0 0] (by kernel_rfl) ?_; intro w1 hz1 K1; clear hz1)
    obtain ⟨g2, G2⟩ : ∃ g, w.heap.size = g := ⟨_, rfl⟩
    rw [G2] at K1 ⊢
    have KK := hide K1
    clear K1 G2
    go_wp2_with fail
    (with_reducible refine (HLC.out _ KK.out.toExt).mono ?_)
    rintro e w2 ⟨rfl, rfl⟩
    go_upto_region 4 with fail
    refine wp_region_wf (RT.fr fun k => w1.drew.heap.size ≤ k ∨ k = g2) 5 [1, 3, 4, 0, 2, 5, 6, 7, 8] (by kernel_rfl) (by kernel_rfl) (by kernel_rfl) (by kernel_rfl) (by kernel_rfl) ?_
    have H1 := KK.out.drew
    clear KK
    generalize w1.drew = wd at *
    obtain ⟨SB, hSB⟩ : ∃ s, wd.heap.size = s := ⟨_, rfl⟩
    have hsz1 : SB ≤ wd.heap.size := Nat.le_of_eq hSB.symm
    rw [hSB]
    iterate 3 (refine wf_rd rfl rfl rfl (fun K hK => ?_); go_simp; refine hK _ ?_; clear hK K)
    clear hSB
    refine wf_ext rfl rfl rfl (fun K hK => ?_) ?_
    · go_simp
      refine hK _ _ ((Fr.of_ext ((Ext.refl wd).alloc _)).mono (fun i h => h.elim)) ?_
      clear hK K
      have H2 := bs0 H1 3
      obtain ⟨wb1, hwb⟩ : ∃ x, World.alloc wd (.cells #[] 3) = x := ⟨_, rfl⟩
      have hsz2 : SB ≤ wb1.heap.size := by rw [← hwb]; simp; omega
      rw [hwb] at H2 ⊢
      have hov2 : SB ≤ wd.heap.size := hsz1
      clear hwb H1
      refine wf_ext rfl rfl rfl (fun K hK => ?_) ?_
      · rw [if_pos (show Region.wanted _ _ = true from rfl)]
        refine wp_apS [] H2 (.tmp 11) (.tmp 12) 29 rfl i64 (.int .i64 0) 8 Try.underlying29 ki kz0 kz1 kz2 rfl rfl (A := A) (m := l.length) (c := c) (news := i64s l) rfl HL1.out (H2.rdN HR.out) (i64s_one _) HB1.out (by decide) ?_
        intro v13 w2a H3 hf5 hv5
        dsimp only [List.nil_append, List.cons_append] at H3
        have hsz3 : SB ≤ w2a.heap.size := Nat.le_trans hsz2 hf5.size
        refine hK _ _ (hf5.mono (fun j hj => .inl (by cases hj; exact hov2))) ?_
        clear hK K hf5 hv5 H2
        refine wf_at rfl ?_
        refine wmr_ext rfl rfl (fun K hK => ?_)
        rw [if_pos (show Region.wanted _ _ = true from rfl)]
        refine wp_mkG H3 (.tmp 15) (.tmp 15) 37 rfl 39 i39 (.slice none 0 0) 24 Try.underlying37 hi hz0 hz1 hz2 rfl rfl rfl (by omega) (by decide) (fun wb3 hzz hxx H4 => ?_)
        refine hK _ _ ((Fr.of_ext hxx).mono (fun i h => h.elim)) ?_
        have hsz4 : SB ≤ wb3.heap.size := by omega
        obtain ⟨g16, hg16⟩ : ∃ g, w2a.heap.size = g := ⟨_, rfl⟩
        rw [hg16] at H4 ⊢
        clear hK K hzz hxx hg16 H3
        obtain ⟨A13, c13, hv13, _, _⟩ := (H4.owns (e := 3) (v := v13) (List.Mem.tail _ (List.Mem.head _))).form
        rw [i64s_len] at hv13
        subst hv13
        have HH := H4.swap
        clear H4
        have H9 := sep_rf HLIM.out rfl HH
        clear HH
        iterate 1 (refine wmr_rd rfl rfl (fun K hK => ?_); go_simp; refine hK _ ?_; clear hK K)
        refine wmr_ext rfl rfl (fun K hK => ?_)
        rw [if_pos (show Region.wanted _ _ = true from rfl)]
        refine wp_stS [_] H9 45 (.tmp 2) (.tmp 17) rfl (cs := [.slice A13 l.length c13, .slice (some ⟨g16, 0, none⟩) l.length l.length]) rfl rfl (by kernel_rfl) rfl (refs_one _ _ rfl rfl) (fun w9 K9 hu9 => hK _ _ ((Fr.of_upd hu9).mono fun k hk => .inr hk) ?_)
        dsimp only [List.nil_append, List.cons_append] at K9
        clear hK K H9 hu9
        iterate 1 (refine wmr_rd rfl rfl (fun K hK => ?_); go_simp; refine hK _ ?_; clear hK K)
        refine wmr_nil ?_
        go_wp2_with fail
        refine bodyPost_ret (v := .tuple #[rv A13 (some ⟨g16, 0, none⟩) l.length c13 l.length, .int .i64 0]) (results_row_tmp rfl _ _ g2 45 #[.slice A13 l.length c13, .slice (some ⟨g16, 0, none⟩) l.length l.length] (0, 0) _ rfl (K9.blk (g := g2) (e := 45) (List.Mem.tail _ (List.Mem.head _))) Try.underlying45 rfl (by kernel_rfl) rfl) rfl ⟨fun _ => ⟨_, _, _, _, _, rfl, K9.sub (List.cons_sublist_cons.2 (List.nil_sublist _))⟩, fun h => absurd HLIM.out h⟩
      · refine wmr_ext rfl rfl (fun K hK => ?_)
        rw [if_pos (show Region.wanted _ _ = true from rfl)]
        refine wp_mkG H2 (.tmp 15) (.tmp 15) 37 rfl 39 i39 (.slice none 0 0) 24 Try.underlying37 hi hz0 hz1 hz2 rfl rfl rfl (by omega) (by decide) (fun wb2 hzz hxx H3 => ?_)
        refine hK _ _ ((Fr.of_ext hxx).mono (fun i h => h.elim)) ?_
        have hsz3 : SB ≤ wb2.heap.size := by omega
        obtain ⟨g16, hg16⟩ : ∃ g, wb1.heap.size = g := ⟨_, rfl⟩
        rw [hg16] at H3 ⊢
        clear hK K hzz hxx hg16 H2
        refine wmr_ext rfl rfl (fun K hK => ?_)
        rw [if_pos (show Region.wanted _ _ = true from rfl)]
        refine wp_apS [_] H3 (.tmp 11) (.tmp 12) 29 rfl i64 (.int .i64 0) 8 Try.underlying29 ki kz0 kz1 kz2 rfl rfl (A := A) (m := l.length) (c := c) (news := i64s l) rfl HL1.out (H3.rdN HR.out) (i64s_one _) HB1.out (by decide) ?_
        intro v13 w3a H4 hf5 hv5
        dsimp only [List.nil_append, List.cons_append] at H4
        have hsz4 : SB ≤ w3a.heap.size := Nat.le_trans hsz3 hf5.size
        refine hK _ _ (hf5.mono (fun j hj => .inl (by cases hj; exact hov2))) ?_
        clear hK K hf5 hv5 H3
        obtain ⟨A13, c13, hv13, _, _⟩ := (H4.owns (e := 3) (v := v13) (List.Mem.tail _ (List.Mem.head _))).form
        rw [i64s_len] at hv13
        subst hv13
        have HH := H4.swap
        clear H4
        have H9 := sep_rf HLIM.out rfl HH
        clear HH
        iterate 1 (refine wmr_rd rfl rfl (fun K hK => ?_); go_simp; refine hK _ ?_; clear hK K)
        refine wmr_ext rfl rfl (fun K hK => ?_)
        rw [if_pos (show Region.wanted _ _ = true from rfl)]
        refine wp_stS [_] H9 45 (.tmp 2) (.tmp 17) rfl (cs := [.slice A13 l.length c13, .slice (some ⟨g16, 0, none⟩) l.length l.length]) rfl rfl (by kernel_rfl) rfl (refs_one _ _ rfl rfl) (fun w9 K9 hu9 => hK _ _ ((Fr.of_upd hu9).mono fun k hk => .inr hk) ?_)
        dsimp only [List.nil_append, List.cons_append] at K9
        clear hK K H9 hu9
        iterate 1 (refine wmr_rd rfl rfl (fun K hK => ?_); go_simp; refine hK _ ?_; clear hK K)
        refine wmr_nil ?_
        go_wp2_with fail
        refine bodyPost_ret (v := .tuple #[rv A13 (some ⟨g16, 0, none⟩) l.length c13 l.length, .int .i64 0]) (results_row_tmp rfl _ _ g2 45 #[.slice A13 l.length c13, .slice (some ⟨g16, 0, none⟩) l.length l.length] (0, 0) _ rfl (K9.blk (g := g2) (e := 45) (List.Mem.tail _ (List.Mem.head _))) Try.underlying45 rfl (by kernel_rfl) rfl) rfl ⟨fun _ => ⟨_, _, _, _, _, rfl, K9.sub (List.cons_sublist_cons.2 (List.nil_sublist _))⟩, fun h => absurd HLIM.out h⟩
    · refine wmr_ext rfl rfl (fun K hK => ?_)
      rw [if_pos (show Region.wanted _ _ = true from rfl)]
      refine wp_mkG H1 (.tmp 15) (.tmp 15) 37 rfl 39 i39 (.slice none 0 0) 24 Try.underlying37 hi hz0 hz1 hz2 rfl rfl rfl (by omega) (by decide) (fun wb1 hzz hxx H2 => ?_)
      refine hK _ _ ((Fr.of_ext hxx).mono (fun i h => h.elim)) ?_
      have hsz2 : SB ≤ wb1.heap.size := by omega
      obtain ⟨g16, hg16⟩ : ∃ g, wd.heap.size = g := ⟨_, rfl⟩
      rw [hg16] at H2 ⊢
      clear hK K hzz hxx hg16 H1
      refine wmr_ext rfl rfl (fun K hK => ?_)
      go_simp
      refine hK _ _ ((Fr.of_ext ((Ext.refl wb1).alloc _)).mono (fun i h => h.elim)) ?_
      clear hK K
      have H3 := bs0 H2 3
      obtain ⟨wb2, hwb⟩ : ∃ x, World.alloc wb1 (.cells #[] 3) = x := ⟨_, rfl⟩
      have hsz3 : SB ≤ wb2.heap.size := by rw [← hwb]; simp; omega
      rw [hwb] at H3 ⊢
      have hov3 : SB ≤ wb1.heap.size := hsz2
      clear hwb H2
      refine wmr_ext rfl rfl (fun K hK => ?_)
      rw [if_pos (show Region.wanted _ _ = true from rfl)]
      refine wp_apS [] H3 (.tmp 11) (.tmp 12) 29 rfl i64 (.int .i64 0) 8 Try.underlying29 ki kz0 kz1 kz2 rfl rfl (A := A) (m := l.length) (c := c) (news := i64s l) rfl HL1.out (H3.rdN HR.out) (i64s_one _) HB1.out (by decide) ?_
      intro v13 w3a H4 hf5 hv5
      dsimp only [List.nil_append, List.cons_append] at H4
      have hsz4 : SB ≤ w3a.heap.size := Nat.le_trans hsz3 hf5.size
      refine hK _ _ (hf5.mono (fun j hj => .inl (by cases hj; exact hov3))) ?_
      clear hK K hf5 hv5 H3
      obtain ⟨A13, c13, hv13, _, _⟩ := (H4.owns (e := 3) (v := v13) (List.Mem.head _)).form
      rw [i64s_len] at hv13
      subst hv13
      have HH := H4
      clear H4
      have H9 := sep_rf HLIM.out rfl HH
      clear HH
      iterate 1 (refine wmr_rd rfl rfl (fun K hK => ?_); go_simp; refine hK _ ?_; clear hK K)
      refine wmr_ext rfl rfl (fun K hK => ?_)
      rw [if_pos (show Region.wanted _ _ = true from rfl)]
      refine wp_stS [_] H9 45 (.tmp 2) (.tmp 17) rfl (cs := [.slice A13 l.length c13, .slice (some ⟨g16, 0, none⟩) l.length l.length]) rfl rfl (by kernel_rfl) rfl (refs_one _ _ rfl rfl) (fun w9 K9 hu9 => hK _ _ ((Fr.of_upd hu9).mono fun k hk => .inr hk) ?_)
      dsimp only [List.nil_append, List.cons_append] at K9
      clear hK K H9 hu9
      iterate 1 (refine wmr_rd rfl rfl (fun K hK => ?_); go_simp; refine hK _ ?_; clear hK K)
      refine wmr_nil ?_
      go_wp2_with fail
      refine bodyPost_ret (v := .tuple #[rv A13 (some ⟨g16, 0, none⟩) l.length c13 l.length, .int .i64 0]) (results_row_tmp rfl _ _ g2 45 #[.slice A13 l.length c13, .slice (some ⟨g16, 0, none⟩) l.length l.length] (0, 0) _ rfl (K9.blk (g := g2) (e := 45) (List.Mem.tail _ (List.Mem.head _))) Try.underlying45 rfl (by kernel_rfl) rfl) rfl ⟨fun _ => ⟨_, _, _, _, _, rfl, K9.sub (List.cons_sublist_cons.2 (List.nil_sublist _))⟩, fun h => absurd HLIM.out h⟩
  · obtain ⟨el, HEL⟩ : ∃ x, Hid (limE l = x) := ⟨_, hide rfl⟩
    rw [HEL.out] at HLC
    have h0' : el ≠ 0 := by rw [← HEL.out]; exact h0
    have e1 : (el != 0) = true := bne_iff_ne.2 h0'
    have HN := hide h0
    clear h0
    go_enter Try.func17, Try.ntmps17
    go_upto_region 1 with (have zz := tok1; clear zz tok1; refine wpList_alS (Sep.refl No w) rfl 45 rfl [.slice none 0 0, .slice none 0 0] (by kernel_rfl) ?_; intro w1 hz1 K1; clear hz1)
    obtain ⟨g2, G2⟩ : ∃ g, w.heap.size = g := ⟨_, rfl⟩
    rw [G2] at K1 ⊢
    have KK := hide K1
    clear K1 G2
    go_wp2_with fail
    (with_reducible refine (HLC.out _ KK.out.toExt).mono ?_)
    rintro e w2 ⟨rfl, rfl⟩
    go_wp2_with (have zz := tok2; clear zz tok2; refine wpList_stS [] KK.out rfl 45 (.tmp 2) (.tmp 9) rfl rfl (cs := [.slice none 0 0, .slice none 0 0]) rfl (by kernel_rfl) rfl (refs_one _ _ rfl rfl) ?_; intro w9 K9; dsimp only [List.nil_append] at K9)
    refine bodyPost_ret (v := .tuple #[rv none none 0 0 0, .int .i64 el]) (results_row_tmp rfl _ _ g2 45 #[.slice none 0 0, .slice none 0 0] (0, 0) _ rfl (K9.blk (g := g2) (e := 45) (List.Mem.head _)) Try.underlying45 rfl (by kernel_rfl) rfl) rfl ⟨fun h => absurd h HN.out, fun _ => ⟨by rw [HEL.out], K9.toExt⟩⟩
end Go.Proofs.Yteecgieigjfjiaa
