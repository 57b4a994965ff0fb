/- Tokens: the reference's Parse, Open, Accept; Issue into a block of its own. -/
import Derived.Test.YtamlngdjbmndlaaDoorTkC
namespace Go.Proofs.YtamlngdjbmndlaaDoor
open Go.RowKit Go.Gr
set_option linter.unusedVariables false
set_option linter.unusedSimpArgs false
attribute [local go_sem] rdOp rdAt rdUpon Cls forall_fr
theorem tag_step {w : World} {g : Nat} {l : List Int} {k : Nat} (hl : l.length = 32) (hB : Blk w g 36 (byt (l.take k) ++ Z8 (32 - k))) (hk : k < 32) :
    ∃ u, w.cell? ⟨g, k, none⟩ = some u ∧ (byt (l.take k) ++ Z8 (32 - k)).set k (.int .u8 (l.getD k 0)) = byt (l.take (k + 1)) ++ Z8 (32 - (k + 1)) := by
  have hlen : (byt (l.take k)).length = k := by rw [byt_length, List.length_take, hl]; omega
  have hkl : k < l.length := by omega
  refine ⟨_, (hB.cell k).trans (List.getElem?_eq_getElem (by rw [List.length_append, hlen]; simp [Z8]; omega)), ?_⟩
  have hz : Z8 (32 - k) = .int .u8 0 :: Z8 (32 - (k + 1)) := by
    unfold Z8
    rw [show 32 - k = (32 - (k + 1)) + 1 by omega, List.replicate_succ]
  rw [List.set_append_right _ _ (by omega), hlen, Nat.sub_self, hz, List.set_cons_zero, List.take_succ_eq_append_getElem hkl, byt_append, List.append_assoc]
  rw [List.getD_eq_getElem?_getD, List.getElem?_eq_getElem hkl]
  rfl
end Go.Proofs.YtamlngdjbmndlaaDoor
namespace Go.Proofs.YtamlngdjbmndlaaDoor
open Go.RowKit Go.Gr
set_option linter.unusedVariables false
set_option linter.unusedSimpArgs false
attribute [local go_sem] rdOp rdAt rdUpon Cls forall_fr
theorem neq_lt (l t : List Int) (h : l.length = 32) (h2 : t.length = 32) (w : World) : (binOp .neq 36 (.agg (byt l).toArray) (.agg (byt t).toArray)).run Tryd.prog w = .ok (.bool (!(l == t))) w :=
  run_neq_ints (P := Tryd.prog) Tryd.underlying36 Tryd.underlying5 (by kernel_rfl) (by kernel_rfl) l t h h2 w
end Go.Proofs.YtamlngdjbmndlaaDoor
namespace Go.Proofs.YtamlngdjbmndlaaDoor
open Go.RowKit Go.Gr
set_option linter.unusedVariables false
set_option linter.unusedSimpArgs false
end Go.Proofs.YtamlngdjbmndlaaDoor
namespace Go.Proofs.YtamlngdjbmndlaaDoor
open Go.RowKit Go.Gr
set_option linter.unusedVariables false
set_option linter.unusedSimpArgs false
attribute [local go_sem] rdOp rdAt rdUpon Cls forall_fr
set_option maxRecDepth 100000 in
set_option maxHeartbeats 2000000 in
theorem issue_ok (key : List Int) (A : Option Addr) (c : Nat) (o u : Int) (w : World) (hl : Laid w) (hr : Rd w A (byt key)) (hb : isB key) (hc : key.length ≤ c) (hlen : key.length ≤ 100000) (ho : 0 ≤ o ∧ o < 4294967296) (hu : -9223372036854775808 ≤ u ∧ u ≤ 9223372036854775807) (hk : keyOk key) (hneg : ¬ u < 0) :
    Calls Tryd.prog 23 #[.slice A key.length c, ses o u] w fun e w' => ∃ g, e = .returned (.tuple #[.slice (some ⟨g, 0, none⟩) 44 44, .int .i64 0]) ∧ Sep No w w' [As.blk g 81 (byt (tokB key (recB o u)))] := by
  have H0 := (Sep.refl No w).newB ((Ext.refl w).alloc (.cells #[.int .u32 o, .int .i64 u] 53)) (Blk.new w 53 [.int .u32 o, .int .i64 u]) (Nat.le_refl _)
  have HL := hide hl
  have HR := hide hr
  have HB := hide hb
  clear hl hr hb
  have dk : decide (keyOk key) = true := decide_eq_true hk
  have HEN := hide (fun (x : World) => enc_any o u x ho hu)
  have HE : Hid (issueB key o u = tokB key (recB o u) ∧ issueE key u = 0) := hide ⟨by unfold issueB; rw [if_pos hk, if_neg hneg], by unfold issueE encE; rw [if_pos hk, if_neg hneg]⟩
  rw [show encB o u = recB o u by unfold encB; rw [if_neg hneg], show encE u = 0 by unfold encE; rw [if_neg hneg]] at HEN
  obtain ⟨r, HRr⟩ : ∃ r, Hid (recB o u = r) := ⟨_, hide rfl⟩
  have HRL : Hid (r.length = 12) := hide (by rw [← HRr.out, recB_len])
  have HRB : Hid (isB r) := hide (by rw [← HRr.out]; exact recB_isB o u)
  obtain ⟨t, HT⟩ : ∃ t, Hid (tokT key r = t) := ⟨_, hide rfl⟩
  have HTL : Hid ((byt t).length = 32) := hide (by rw [byt_length, ← HT.out, tokT_len])
  have HTN : Hid (t.length = 32) := hide (by rw [← HT.out, tokT_len])
  have HE2 : Hid (tokB key (recB o u) = r ++ t) := hide (by rw [HRr.out]; unfold tokB; rw [HT.out])
  have HTAG := hide (fun (g gh : Nat) (Av : Option Addr) (cv : Nat) (x : World) (h : Ext w x) (hm : Blk x g 99 [ptr gh, .slice Av key.length cv]) (hh : HashAt x gh (xorB 54 (keyB key) ++ (sessB ++ r))) (hv : Rd x Av (byt key)) (hc' : key.length ≤ cv) =>
    mtag_any g gh key (xorB 54 (keyB key) ++ (sessB ++ r)) Av cv x (HL.out.ext h) hm hh hv HB.out hc' hlen (by rw [List.length_append, List.length_append, xorB_len, keyB_len, HRL.out]; decide))
  rw [show outB key (xorB 54 (keyB key) ++ (sessB ++ r)) = t from HT.out] at HTAG
  rw [HRr.out] at HEN
  clear HE HT HRr
  go_enter Tryd.func23, Tryd.ntmps23
  go_wp2_with fail
  (with_reducible refine (good_any key A c _).mono ?_)
  rintro e w1 ⟨rfl, rfl⟩
  rw [dk]
  have hb0 := H0.blk (g := w.heap.size) (e := 53) (cs := [.int .u32 o, .int .i64 u]) (List.Mem.head _)
  obtain ⟨c0, c1, hg0⟩ := cells2 hb0
  clear hb0
  go_wp2_with fail
  (with_reducible refine (HEN.out _).mono ?_)
  rintro e w2 ⟨A2, c2, rfl, hc2, hS⟩
  have H2 := H0.join hS
  dsimp only [List.nil_append, List.cons_append] at H2
  have K2 := hide H2
  clear H0 hS c0 c1 H2
  go_wp2_with fail
  (with_reducible refine (mac_any key r A c A2 c2 _ (HL.out.ext K2.out.toExt) (K2.out.rdN HR.out) HB.out hc hlen (K2.out.get (List.Mem.head _)) HRB.out hc2 (by have := HRL.out; omega)).mono ?_)
  rintro e w3 ⟨g, gh, v, rfl, hS⟩
  have H3 := K2.out.join hS
  dsimp only [List.nil_append, List.cons_append] at H3
  obtain ⟨Av, cv, ev, hrv, hlv, hmv, hhv, hgv⟩ := mac_parts H3
  have HTG := hide (HTAG.out g gh Av cv w3 H3.toExt hmv hhv hrv hlv)
  have K3 := hide H3
  clear H3 hS K2 HTAG hrv hmv hhv hlv
  go_wp2_with fail
  (with_reducible refine HTG.out.mono ?_)
  rintro e w4 ⟨rfl, hx4⟩
  have H4 := ((((K3.out.ext hx4).tail).tail).tail).sub (List.cons_sublist_cons.2 (List.nil_sublist _))
  clear K3 hx4 HTG
  have tok1 : True := trivial
  have tok2 : True := trivial
  have tok3 : True := trivial
  go_upto_region 10 with (first
    | (have zz := tok1; clear zz tok1; refine wpList_alS H4 rfl 36 rfl (Z8 32) (by kernel_rfl) ?_; intro w5 _ H5; clear H4)
    | (have zz := tok2; clear zz tok2; refine wpList_stS [] H5 rfl 36 (.tmp 8) (.tmp 26) rfl rfl (cs := byt t) rfl (by rw [HTL.out]; kernel_rfl) (by rw [HTL.out]; rfl) (byt_one _) ?_; intro w6 H6; dsimp only [List.nil_append] at H6; clear H5)
    | (have zz := tok3; clear zz tok3; refine wpList_alS H6 rfl 81 rfl (Z8 44) (by kernel_rfl) ?_; intro w7 _ H7; clear H6))
  obtain ⟨g8, G8⟩ : ∃ g, w4.heap.size = g := ⟨_, rfl⟩
  obtain ⟨g9, G9⟩ : ∃ g, w6.heap.size = g := ⟨_, rfl⟩
  rw [G8, G9] at H7 ⊢
  clear G8 G9
  obtain ⟨ad2, rfl⟩ := rd_some (H7.get (A := As.rd A2 (byt r)) (List.Mem.tail _ (List.Mem.tail _ (List.Mem.head _)))) (by have := HRL.out; omega)
  rw [HRL.out] at hc2 ⊢
  refine wp_region_wtR (RT.fr (At g9)) 5 [0, 1, 4, 2, 3] (by kernel_rfl) (by kernel_rfl) (by kernel_rfl) ?_
  have H8 := H7.drew
  clear H7
  generalize w7.drew = wd at *
  have hg9 := (H8.blk (g := g9) (e := 81) (cs := Z8 44) (List.Mem.head _)).lt
  have hg8 := (H8.blk (g := g8) (e := 36) (cs := byt t) (List.Mem.tail _ (List.Mem.head _))).lt
  iterate 3 (refine wr_rd rfl rfl (fun K hK => ?_); go_simp; refine hK _ ?_; clear hK K)
  refine wr_ext rfl rfl (fun K hK => ?_)
  rw [if_pos (show Region.wanted _ _ = true from rfl)]
  refine wp_cpS [] H8 (.tmp 31) (.tmp 32) 26 26 rfl 5 Tryd.underlying26 (by kernel_rfl) rfl rfl (H8.get (A := As.rd (some ad2) (byt r)) (List.Mem.tail _ (List.Mem.tail _ (List.Mem.head _)))) (by rw [byt_length, HRL.out]) rfl (by decide) (byt_one _) ?_
  intro w9 H9 hf9
  dsimp only [List.nil_append] at H9
  refine hK _ _ hf9 ?_
  clear hK K hf9 H8
  iterate 1 (refine wr_rd rfl rfl (fun K hK => ?_); go_simp; refine hK _ ?_; clear hK K)
  refine wr_nil ?_
  simp only [List.drop_succ_cons, List.drop_zero]
  refine wpList_cpS [] H9 rfl (.tmp 34) (.tmp 35) 26 26 rfl 5 Tryd.underlying26 (by kernel_rfl) rfl rfl ((H9.blk (g := g8) (e := 36) (cs := byt t) (List.Mem.tail _ (List.Mem.head _))).rd) HTL.out 32 rfl (by rw [show (splice (Z8 44) 0 (byt r)).length = 44 by rw [splice_len _ _ _ (by rw [byt_length, HRL.out]; decide)]; rfl]; decide) (byt_one _) ?_
  intro wa Ha
  dsimp only [List.nil_append] at Ha
  rw [List.take_of_length_le (Nat.le_of_eq HTL.out), tok_cells r t HRL.out HTN.out] at Ha
  have hg9' := (Ha.blk (g := g9) (e := 81) (List.Mem.head _)).lt
  have Ka := hide Ha
  clear Ha H9
  refine NoPanic.normal ?_
  go_wp2_with fail
  go_ret2
  exact ⟨g9, rfl, by rw [HE2.out]; exact Ka.out.sub (List.cons_sublist_cons.2 (List.nil_sublist _))⟩
end Go.Proofs.YtamlngdjbmndlaaDoor
