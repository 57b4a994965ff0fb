/- Tickets: Decode, by the reference. -/
import Derived.Test.YtamlngdjbmndlaaDoorI3
import Derived.Deep.CutBlock
import Derived.Deep.DeepCutAuto
namespace Go.Proofs.YtamlngdjbmndlaaDoor
open Go.RowKit Go.Gr
set_option linter.unusedVariables false
set_option linter.unusedSimpArgs false
attribute [local go_sem] rdOp rdAt rdUpon Cls forall_fr
theorem rd_part {w : World} {g off : Nat} {b : List Int} (h : Go.Gr.At5 w g off (byt b)) (d m : Nat) : Rd w (some ⟨g, off + d, none⟩) (byt ((b.drop d).take m)) := fun j u hu => ⟨_, rfl, by
  unfold byt at hu
  rw [List.getElem?_map, List.getElem?_take] at hu
  split at hu
  · rw [List.getElem?_drop] at hu
    have := h (d + j) u (by unfold byt; rw [List.getElem?_map]; exact hu)
    rw [Addr.add_mid, Nat.add_assoc]
    exact this
  · cases hu⟩
theorem rd_part0 {w : World} {g off : Nat} {b : List Int} (h : Go.Gr.At5 w g off (byt b)) (m : Nat) : Rd w (some ⟨g, off, none⟩) (byt ((b.drop 0).take m)) := rd_part h 0 m
set_option maxRecDepth 100000 in
set_option maxHeartbeats 4000000 in
theorem rtdec_any (b : List Int) (A : Option Addr) (c : Nat) (w : World) (hr : Rd w A (byt b)) (hb : isB b) (hlb : b.length ≤ 100000) (hc : b.length ≤ c) : Calls Tryd.prog 14 #[.slice A b.length c] w fun e w' => e = .returned (.tuple #[tkt (decTV b), .int .i64 (decTE b)]) ∧ Ext w w' := by
  have HB := hide hb
  have tok1 : True := trivial
  have tok4 : True := trivial
  by_cases h24 : b.length = 24
  rotate_left
  · have HE : Hid (decTE b = 11 ∧ decTV b = (0, 0, 0, 0)) := hide (by
      have h : decTE b = 11 := by unfold decTE; rw [if_neg h24]
      exact ⟨h, by unfold decTV; rw [if_neg (by rw [h]; decide)]⟩)
    have hne2 : ((b.length : Int) != 24) = true := bne_iff_ne.2 (by omega)
    clear h24 hr hb
    go_enter Tryd.func14, Tryd.ntmps14
    go_upto_region 2 with (have zz := tok1; clear zz tok1; refine wpList_alS (Sep.refl No w) rfl 25 rfl (tkc 0 0 0 0) (by kernel_rfl) ?_; intro w1 hz1 K1; clear hz1)
    obtain ⟨gb, GB⟩ : ∃ g, w.heap.size = g := ⟨_, rfl⟩
    rw [GB] at K1 ⊢
    clear GB
    go_wp2_with (have zz := tok4; clear zz tok4; refine wpList_stS [] K1 rfl 25 (.tmp 2) (.tmp 10) rfl rfl (cs := tkc 0 0 0 0) rfl (by kernel_rfl) rfl (tkc_one 0 0 0 0) ?_; intro w5 K5; dsimp only [List.nil_append, List.cons_append] at K5)
    refine bodyPost_ret (v := .tuple #[tkv 0 0 0 0, .int .i64 11]) (results_row_tmp rfl _ _ gb 25 (tkc 0 0 0 0).toArray (0, 0) _ rfl (K5.blk (g := gb) (e := 25) (cs := tkc 0 0 0 0) (List.Mem.head _)) Tryd.underlying25 rfl (by kernel_rfl) rfl) rfl ⟨by rw [HE.out.1, HE.out.2], K5.toExt⟩
  have HL := hide h24
  have hne2 : ((b.length : Int) != 24) = false := by rw [h24]; rfl
  obtain ⟨ga, oa, rfl, hat⟩ := rd_spot hr (by rw [byt_length]; omega)
  have HAT := hide (fun (x : World) (h : Ext w x) => (Go.Gr.At5.ext hat h))
  have hcc : 24 ≤ c := by omega
  have hc4 : ¬ c = 4 := by omega
  have hc8 : ¬ c = 8 := by omega
  have hc16 : ¬ c = 16 := by omega
  have hd4 : (4 : Int) ≤ (c : Int) := by omega
  have hd8 : (8 : Int) ≤ (c : Int) := by omega
  have hd16 : (16 : Int) ≤ (c : Int) := by omega
  have hd24 : (24 : Int) ≤ (c : Int) := by omega
  have HN1 := hide (fun (x : World) (h : Ext w x) (c' : Nat) => tnumber_any ((b.drop 0).take 4) (some ⟨ga, oa, none⟩) c' x (rd_part0 (HAT.out x h) 4) (isB_take (isB_drop hb 0) 4) (by rw [List.length_take]; omega))
  rw [show ((b.drop 0).take 4).length = 4 by rw [List.length_take, List.length_drop, h24]; rfl] at HN1
  have HN2 := hide (fun (x : World) (h : Ext w x) (c' : Nat) => tnumber_any ((b.drop 4).take 4) (some ⟨ga, oa + 4, none⟩) c' x (rd_part (HAT.out x h) 4 4) (isB_take (isB_drop hb 4) 4) (by rw [List.length_take]; omega))
  rw [show ((b.drop 4).take 4).length = 4 by rw [List.length_take, List.length_drop, h24]; rfl] at HN2
  have HN3 := hide (fun (x : World) (h : Ext w x) (c' : Nat) => tnumber_any ((b.drop 8).take 8) (some ⟨ga, oa + 8, none⟩) c' x (rd_part (HAT.out x h) 8 8) (isB_take (isB_drop hb 8) 8) (by rw [List.length_take]; omega))
  rw [show ((b.drop 8).take 8).length = 8 by rw [List.length_take, List.length_drop, h24]; rfl] at HN3
  have HN4 := hide (fun (x : World) (h : Ext w x) (c' : Nat) => tnumber_any ((b.drop 16).take 8) (some ⟨ga, oa + 16, none⟩) c' x (rd_part (HAT.out x h) 16 8) (isB_take (isB_drop hb 16) 8) (by rw [List.length_take]; omega))
  rw [show ((b.drop 16).take 8).length = 8 by rw [List.length_take, List.length_drop, h24]; rfl] at HN4
  have e1 : numB ((b.drop 0).take 4) = tS b := rfl
  have e2 : numB ((b.drop 4).take 4) = tO b := rfl
  have e3 : numB ((b.drop 8).take 8) = tN b := rfl
  have e4 : numB ((b.drop 16).take 8) = tE b := by unfold tE; rw [List.take_of_length_le (by rw [List.length_drop, h24]; decide)]
  rw [e1] at HN1
  rw [e2] at HN2
  rw [e3] at HN3
  rw [e4] at HN4
  obtain ⟨s1, HS1⟩ : ∃ x, Hid (tS b = x) := ⟨_, hide rfl⟩
  obtain ⟨o1, HO1⟩ : ∃ x, Hid (tO b = x) := ⟨_, hide rfl⟩
  obtain ⟨n1, HW1⟩ : ∃ x, Hid (tN b = x) := ⟨_, hide rfl⟩
  obtain ⟨e1', HE1⟩ : ∃ x, Hid (tE b = x) := ⟨_, hide rfl⟩
  have HTB : Hid (TiB s1 o1 n1 e1') := hide (by
    have := dec_TiB HB.out HL.out
    rw [HS1.out, HO1.out, HW1.out, HE1.out] at this
    exact this)
  have HHZ : Hid (decTE b = (if s1 < 4096 ∧ n1 ≠ 0 then 0 else 11) ∧ decTV b = if s1 < 4096 ∧ n1 ≠ 0 then (s1, o1, n1, e1') else (0, 0, 0, 0)) := hide (by
    have h1 : decTE b = (if s1 < 4096 ∧ n1 ≠ 0 then 0 else 11) := by unfold decTE; rw [if_pos HL.out, HS1.out, HW1.out]
    refine ⟨h1, ?_⟩
    unfold decTV
    rw [h1]
    by_cases h : s1 < 4096 ∧ n1 ≠ 0
    · rw [if_pos h, if_pos h, if_pos rfl, HS1.out, HO1.out, HW1.out, HE1.out]
    · rw [if_neg h, if_neg h, if_neg (by decide)])
  rw [HS1.out] at HN1
  rw [HO1.out] at HN2
  rw [HW1.out] at HN3
  rw [HE1.out] at HN4
  have HEN := hide (fun (x : World) => rtenc_any s1 o1 n1 e1' x HTB.out)
  have hws : IntKind.u32.wrap s1 = s1 := IntWalk.u32_in _ (by have := HTB.out.s0; have := HTB.out.s1; omega)
  have hwo : IntKind.u32.wrap o1 = o1 := IntWalk.u32_in _ (by have := HTB.out.o0; have := HTB.out.o1; omega)
  rw [h24]
  clear hr hb hat hne2 hc hlb e1 e2 e3 e4 h24
  go_enter Tryd.func14, Tryd.ntmps14
  go_upto_region 3 with (have zz := tok1; clear zz tok1; refine wpList_alS (Sep.refl No w) rfl 25 rfl (tkc 0 0 0 0) (by kernel_rfl) ?_; intro w1 hz1 K1; clear hz1)
  obtain ⟨g2, G2⟩ : ∃ g, w.heap.size = g := ⟨_, rfl⟩
  rw [G2] at K1 ⊢
  go_cut [4] (fun v4 wx => ∃ g, v4 = .pointer (some ⟨g, 0, none⟩) ∧ Sep No w wx [As.blk g 25 (tkc s1 o1 n1 e1'), As.blk g2 25 (tkc 0 0 0 0)])
  case first =>
    have KD := K1.drew
    refine wp_region_wf (RT.up w1.drew.heap.size) 15 [0, 1, 4, 5, 8, 9, 11, 12, 2, 3, 6, 7, 10, 13, 14, 15, 16] (by kernel_rfl) (by kernel_rfl) (by kernel_rfl) (by kernel_rfl) (by kernel_rfl) ?_
    clear K1
    generalize World.drew _ = wd at *
    iterate 8 (refine wf_rd rfl rfl rfl (fun K hK => ?_); go_simp; refine hK _ ?_; clear hK K)
    refine wf_ext rfl rfl rfl (fun K hK => ?_) ?_
    rotate_left
    · show WMR _ _ _ _ [15, 2, 3, 6, 7, 10, 13, 14, 16] _ _
      refine wmr_ext rfl rfl (fun K hK => ?_)
      rw [if_pos (show Region.wanted _ _ = true from rfl)]
      refine wp_alS KD 25 rfl (tkc 0 0 0 0) (by kernel_rfl) (fun w3 hz3 hx3 KE => ?_)
      refine hK _ _ (hx3.up _) ?_
      clear hK K KD hx3 hz3
      refine wmr_ext rfl rfl (fun K hK => ?_)
      go_simp
      go_at_call 27
      (with_reducible refine (HN1.out _ KE.toExt _).mono ?_)
      rintro e w7 ⟨rfl, rfl⟩
      refine hK _ _ (Fr.refl _ _) ?_
      clear hK K
      iterate 1 (refine wmr_rd rfl rfl (fun K hK => ?_); go_simp; refine hK _ ?_; clear hK K)
      refine wmr_ext rfl rfl (fun K hK => ?_)
      go_simp
      go_at_call 27
      (with_reducible refine (HN2.out _ KE.toExt _).mono ?_)
      rintro e w7 ⟨rfl, rfl⟩
      refine hK _ _ (Fr.refl _ _) ?_
      clear hK K
      iterate 1 (refine wmr_rd rfl rfl (fun K hK => ?_); go_simp; refine hK _ ?_; clear hK K)
      refine wmr_ext rfl rfl (fun K hK => ?_)
      go_simp
      go_at_call 27
      (with_reducible refine (HN3.out _ KE.toExt _).mono ?_)
      rintro e w7 ⟨rfl, rfl⟩
      refine hK _ _ (Fr.refl _ _) ?_
      clear hK K
      refine wmr_ext rfl rfl (fun K hK => ?_)
      go_simp
      go_at_call 27
      (with_reducible refine (HN4.out _ KE.toExt _).mono ?_)
      rintro e w7 ⟨rfl, rfl⟩
      refine hK _ _ (Fr.refl _ _) ?_
      clear hK K
      iterate 1 (refine wmr_rd rfl rfl (fun K hK => ?_); go_simp; refine hK _ ?_; clear hK K)
      refine wmr_ext rfl rfl (fun K hK => ?_)
      rw [if_pos (show Region.wanted _ _ = true from rfl)]
      refine wp_stS [] KE 25 (.tmp 4) (.tmp 25) rfl (cs := tkc s1 o1 n1 e1') rfl rfl (by kernel_rfl) rfl (tkc_one _ _ _ _) (fun w4 KF hu4 => ?_)
      refine hK _ _ (hu4.up (Nat.le_refl _)) ?_
      clear hK K KE hu4
      refine wmr_nil ?_
      go_wp2_with fail
      go_meet
      case rel => exact ⟨_, rfl, KF⟩
    go_simp
    go_at_call 27
    (with_reducible refine (HN1.out _ KD.toExt _).mono ?_)
    rintro e w7 ⟨rfl, rfl⟩
    refine hK _ _ (Fr.refl _ _) ?_
    clear hK K
    iterate 1 (refine wf_rd rfl rfl rfl (fun K hK => ?_); go_simp; refine hK _ ?_; clear hK K)
    refine wf_ext rfl rfl rfl (fun K hK => ?_) ?_
    rotate_left
    · show WMR _ _ _ _ [15, 6, 7, 10, 13, 14, 16] _ _
      refine wmr_ext rfl rfl (fun K hK => ?_)
      rw [if_pos (show Region.wanted _ _ = true from rfl)]
      refine wp_alS KD 25 rfl (tkc 0 0 0 0) (by kernel_rfl) (fun w3 hz3 hx3 KE => ?_)
      refine hK _ _ (hx3.up _) ?_
      clear hK K KD hx3 hz3
      refine wmr_ext rfl rfl (fun K hK => ?_)
      go_simp
      go_at_call 27
      (with_reducible refine (HN2.out _ KE.toExt _).mono ?_)
      rintro e w7 ⟨rfl, rfl⟩
      refine hK _ _ (Fr.refl _ _) ?_
      clear hK K
      iterate 1 (refine wmr_rd rfl rfl (fun K hK => ?_); go_simp; refine hK _ ?_; clear hK K)
      refine wmr_ext rfl rfl (fun K hK => ?_)
      go_simp
      go_at_call 27
      (with_reducible refine (HN3.out _ KE.toExt _).mono ?_)
      rintro e w7 ⟨rfl, rfl⟩
      refine hK _ _ (Fr.refl _ _) ?_
      clear hK K
      refine wmr_ext rfl rfl (fun K hK => ?_)
      go_simp
      go_at_call 27
      (with_reducible refine (HN4.out _ KE.toExt _).mono ?_)
      rintro e w7 ⟨rfl, rfl⟩
      refine hK _ _ (Fr.refl _ _) ?_
      clear hK K
      iterate 1 (refine wmr_rd rfl rfl (fun K hK => ?_); go_simp; refine hK _ ?_; clear hK K)
      refine wmr_ext rfl rfl (fun K hK => ?_)
      rw [if_pos (show Region.wanted _ _ = true from rfl)]
      refine wp_stS [] KE 25 (.tmp 4) (.tmp 25) rfl (cs := tkc s1 o1 n1 e1') rfl rfl (by kernel_rfl) rfl (tkc_one _ _ _ _) (fun w4 KF hu4 => ?_)
      refine hK _ _ (hu4.up (Nat.le_refl _)) ?_
      clear hK K KE hu4
      refine wmr_nil ?_
      go_wp2_with fail
      go_meet
      case rel => exact ⟨_, rfl, KF⟩
    go_simp
    go_at_call 27
    (with_reducible refine (HN2.out _ KD.toExt _).mono ?_)
    rintro e w7 ⟨rfl, rfl⟩
    refine hK _ _ (Fr.refl _ _) ?_
    clear hK K
    iterate 1 (refine wf_rd rfl rfl rfl (fun K hK => ?_); go_simp; refine hK _ ?_; clear hK K)
    refine wf_ext rfl rfl rfl (fun K hK => ?_) ?_
    rotate_left
    · show WMR _ _ _ _ [15, 10, 13, 14, 16] _ _
      refine wmr_ext rfl rfl (fun K hK => ?_)
      rw [if_pos (show Region.wanted _ _ = true from rfl)]
      refine wp_alS KD 25 rfl (tkc 0 0 0 0) (by kernel_rfl) (fun w3 hz3 hx3 KE => ?_)
      refine hK _ _ (hx3.up _) ?_
      clear hK K KD hx3 hz3
      refine wmr_ext rfl rfl (fun K hK => ?_)
      go_simp
      go_at_call 27
      (with_reducible refine (HN3.out _ KE.toExt _).mono ?_)
      rintro e w7 ⟨rfl, rfl⟩
      refine hK _ _ (Fr.refl _ _) ?_
      clear hK K
      refine wmr_ext rfl rfl (fun K hK => ?_)
      go_simp
      go_at_call 27
      (with_reducible refine (HN4.out _ KE.toExt _).mono ?_)
      rintro e w7 ⟨rfl, rfl⟩
      refine hK _ _ (Fr.refl _ _) ?_
      clear hK K
      iterate 1 (refine wmr_rd rfl rfl (fun K hK => ?_); go_simp; refine hK _ ?_; clear hK K)
      refine wmr_ext rfl rfl (fun K hK => ?_)
      rw [if_pos (show Region.wanted _ _ = true from rfl)]
      refine wp_stS [] KE 25 (.tmp 4) (.tmp 25) rfl (cs := tkc s1 o1 n1 e1') rfl rfl (by kernel_rfl) rfl (tkc_one _ _ _ _) (fun w4 KF hu4 => ?_)
      refine hK _ _ (hu4.up (Nat.le_refl _)) ?_
      clear hK K KE hu4
      refine wmr_nil ?_
      go_wp2_with fail
      go_meet
      case rel => exact ⟨_, rfl, KF⟩
    go_simp
    go_at_call 27
    (with_reducible refine (HN3.out _ KD.toExt _).mono ?_)
    rintro e w7 ⟨rfl, rfl⟩
    refine hK _ _ (Fr.refl _ _) ?_
    clear hK K
    refine wf_ext rfl rfl rfl (fun K hK => ?_) ?_
    rotate_left
    · show WMR _ _ _ _ [15, 13, 14, 16] _ _
      refine wmr_ext rfl rfl (fun K hK => ?_)
      rw [if_pos (show Region.wanted _ _ = true from rfl)]
      refine wp_alS KD 25 rfl (tkc 0 0 0 0) (by kernel_rfl) (fun w3 hz3 hx3 KE => ?_)
      refine hK _ _ (hx3.up _) ?_
      clear hK K KD hx3 hz3
      refine wmr_ext rfl rfl (fun K hK => ?_)
      go_simp
      go_at_call 27
      (with_reducible refine (HN4.out _ KE.toExt _).mono ?_)
      rintro e w7 ⟨rfl, rfl⟩
      refine hK _ _ (Fr.refl _ _) ?_
      clear hK K
      iterate 1 (refine wmr_rd rfl rfl (fun K hK => ?_); go_simp; refine hK _ ?_; clear hK K)
      refine wmr_ext rfl rfl (fun K hK => ?_)
      rw [if_pos (show Region.wanted _ _ = true from rfl)]
      refine wp_stS [] KE 25 (.tmp 4) (.tmp 25) rfl (cs := tkc s1 o1 n1 e1') rfl rfl (by kernel_rfl) rfl (tkc_one _ _ _ _) (fun w4 KF hu4 => ?_)
      refine hK _ _ (hu4.up (Nat.le_refl _)) ?_
      clear hK K KE hu4
      refine wmr_nil ?_
      go_wp2_with fail
      go_meet
      case rel => exact ⟨_, rfl, KF⟩
    go_simp
    go_at_call 27
    (with_reducible refine (HN4.out _ KD.toExt _).mono ?_)
    rintro e w7 ⟨rfl, rfl⟩
    refine hK _ _ (Fr.refl _ _) ?_
    clear hK K
    iterate 1 (refine wf_rd rfl rfl rfl (fun K hK => ?_); go_simp; refine hK _ ?_; clear hK K)
    refine wf_at rfl ?_
    refine wmr_ext rfl rfl (fun K hK => ?_)
    rw [if_pos (show Region.wanted _ _ = true from rfl)]
    refine wp_alS KD 25 rfl (tkc 0 0 0 0) (by kernel_rfl) (fun w3 hz3 hx3 KE => ?_)
    refine hK _ _ (hx3.up _) ?_
    clear hK K KD hx3 hz3
    refine wmr_ext rfl rfl (fun K hK => ?_)
    rw [if_pos (show Region.wanted _ _ = true from rfl)]
    refine wp_stS [] KE 25 (.tmp 4) (.tmp 25) rfl (cs := tkc s1 o1 n1 e1') rfl rfl (by kernel_rfl) rfl (tkc_one _ _ _ _) (fun w4 KF hu4 => ?_)
    refine hK _ _ (hu4.up (Nat.le_refl _)) ?_
    clear hK K KE hu4
    refine wmr_nil ?_
    go_wp2_with fail
    go_meet
    case rel => exact ⟨_, rfl, KF⟩
  case rest =>
    obtain ⟨g, rfl, H⟩ := hcut
    clear K1
    have K2 := hide H
    clear H
    have tok2 : True := trivial
    obtain ⟨c0, c1, c2, c3, cz⟩ := tk4 (K2.out.blk (g := g) (List.Mem.head _))
    go_wp2_with fail
    (with_reducible refine (HEN.out _).mono ?_)
    rintro e w5 ⟨v5, rfl, hS5⟩
    have K3 := K2.out.ext hS5.toExt
    clear K2 hS5 HEN c0 c1 c2 c3 cz
    by_cases hz : s1 < 4096 ∧ n1 ≠ 0
    · have HE2 : Hid (decTE b = 0 ∧ decTV b = (s1, o1, n1, e1')) := hide (by
        have := HHZ.out
        rw [if_pos hz, if_pos hz] at this
        exact this)
      rw [(encT_ok (o := o1) (e := e1') hz).2]
      clear hz
      have tok5 : True := trivial
      have tok6 : True := trivial
      go_wp2_with (first
        | (have zz := tok6; clear zz tok6; refine wpList_ldS K3 (List.Mem.head _) rfl 25 (.tmp 4) rfl rfl _ Tryd.underlying25 rfl (by kernel_rfl) ?_)
        | (have zz := tok5; clear zz tok5; refine wpList_stS [_] K3 rfl 25 (.tmp 2) (.tmp 34) rfl rfl (cs := tkc s1 o1 n1 e1') rfl (by kernel_rfl) rfl (tkc_one _ _ _ _) ?_; intro wa Ka; dsimp only [List.nil_append, List.cons_append] at Ka))
      refine bodyPost_ret (v := .tuple #[tkv s1 o1 n1 e1', .int .i64 0]) (results_row_tmp rfl _ _ g2 25 (tkc s1 o1 n1 e1').toArray (0, 0) _ rfl (Ka.blk (g := g2) (e := 25) (cs := tkc s1 o1 n1 e1') (List.Mem.tail _ (List.Mem.head _))) Tryd.underlying25 rfl (by kernel_rfl) rfl) rfl ⟨by rw [HE2.out.1, HE2.out.2], Ka.toExt⟩
    · have HE2 : Hid (decTE b = 11 ∧ decTV b = (0, 0, 0, 0)) := hide (by
        have := HHZ.out
        rw [if_neg hz, if_neg hz] at this
        exact this)
      rw [(encT_bad (o := o1) (e := e1') hz).2]
      clear hz
      have tok5 : True := trivial
      go_wp2_with (have zz := tok5; clear zz tok5; refine wpList_stS [_] K3 rfl 25 (.tmp 2) (.tmp 33) rfl rfl (cs := tkc 0 0 0 0) rfl (by kernel_rfl) rfl (tkc_one 0 0 0 0) ?_; intro wa Ka; dsimp only [List.nil_append, List.cons_append] at Ka)
      refine bodyPost_ret (v := .tuple #[tkv 0 0 0 0, .int .i64 11]) (results_row_tmp rfl _ _ g2 25 (tkc 0 0 0 0).toArray (0, 0) _ rfl (Ka.blk (g := g2) (e := 25) (cs := tkc 0 0 0 0) (List.Mem.tail _ (List.Mem.head _))) Tryd.underlying25 rfl (by kernel_rfl) rfl) rfl ⟨by rw [HE2.out.1, HE2.out.2], Ka.toExt⟩
end Go.Proofs.YtamlngdjbmndlaaDoor
