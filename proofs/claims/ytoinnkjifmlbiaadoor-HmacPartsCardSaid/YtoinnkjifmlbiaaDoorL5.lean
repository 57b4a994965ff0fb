/- Hmac: the law HmacParts walked. -/
import Derived.Test.YtoinnkjifmlbiaaDoorL0
namespace Go.Proofs.YtoinnkjifmlbiaaDoor
open Go.RowKit Go.Gr
set_option linter.unusedVariables false
set_option linter.unusedSimpArgs false
attribute [local go_sem] rdOp rdAt rdUpon Cls forall_fr
theorem neq32 (l : List Int) (h : l.length = 32) (w : World) : (binOp .neq 26 (.agg (byt l).toArray) (.agg (byt l).toArray)).run Tryd.prog w = .ok (.bool false) w := by
  have := run_neq_ints (P := Tryd.prog) Tryd.underlying26 Tryd.underlying5 (by kernel_rfl) (by kernel_rfl) l l h h w
  rw [beq_self_eq_true] at this
  exact this
def OutAs (l ik m t : List Int) : Prop := outB l (ik ++ m) = t
/-- what the loop keeps: all bytes, the mac into which they were written -/
def PartsL (g gh : Nat) (vk va : Value) (key ik acc : List Int) : List As :=
  [As.blk g 49 [ptr gh, vk], AsHash gh (ik ++ acc), As.own 5 vk (byt key), As.own 5 va (byt acc)]
set_option maxRecDepth 100000 in
set_option maxHeartbeats 4000000 in
theorem parts_law (w : World) (hl : Laid w) (v0 : Value) (h0 : LfOk Tryd.prog w (.slice 5) v0) (v1 : Value) (h1 : LfOk Tryd.prog w (.slice 22) v1) : Calls Tryd.prog 7 #[v0, v1] w fun e w' => e = .returned (.bool true) ∧ Ext w w' := by
  obtain ⟨i0, hi, hz0, hz1, hz2⟩ := info_parts info8
  obtain ⟨A, l, c, rfl, hr, hb, hc, hm⟩ := bytes_arg h0
  obtain ⟨X, xs, cx0, rfl, hrX, hxX, hcX, hmX⟩ := slice_lf (l := .slice 5) 8 (by kernel_rfl) (by kernel_rfl) h1
  have HL := hide hl
  have HR := hide hr
  have HB := hide hb
  have HRX := hide hrX
  have HXX := hide hxX
  have h2w := hl.two
  unfold maxLen at hmX
  clear hl hr hb h0 h1 hrX hxX hm
  by_cases hlt : 10 < xs.length
  · have d1 : (10 : Int) < (xs.length : Int) := by omega
    go_enter Tryd.func7, Tryd.ntmps7
    go_wp2_with fail
    (with_reducible refine (shown_any _ HL.out).mono ?_)
    rintro e w1 ⟨rfl, hx1⟩
    go_wp2_with fail
    go_ret
    exact ⟨rfl, hx1⟩
  · have d1 : ¬ (10 : Int) < (xs.length : Int) := by omega
    by_cases hlt2 : 300 < l.length
    · have d2 : (300 : Int) < (l.length : Int) := by omega
      go_enter Tryd.func7, Tryd.ntmps7
      go_wp2_with fail
      (with_reducible refine (shown_any _ HL.out).mono ?_)
      rintro e w1 ⟨rfl, hx1⟩
      go_wp2_with fail
      go_ret
      exact ⟨rfl, hx1⟩
    · have d2 : ¬ (300 : Int) < (l.length : Int) := by omega
      have hn10 : xs.length ≤ 10 := by omega
      have hl300 : l.length ≤ 300 := by omega
      clear hlt hlt2
      go_enter Tryd.func7, Tryd.ntmps7
      have K1 := Sep.toOwn [] ((Sep.refl No w).newB ((Ext.refl w).alloc (.cells #[] 5)) (Blk.new w 5 []) (Nat.le_refl _)) (by simp)
      dsimp only [List.nil_append, List.length_nil] at K1
      have tok3 : True := trivial
      go_wp2_with (have zz := tok3; clear zz tok3; with_reducible refine wpList_apS [] K1 rfl (.tmp 24) (.tmp 25) 22 rfl i0 (.int .u8 0) 1 Tryd.underlying22 hi hz0 hz1 hz2 rfl rfl (A := A) (m := l.length) (c := c) (news := byt l) rfl (by simp) (K1.rdN HR.out) (byt_one _) (by simp; omega) (by omega) ?_; intro v w5 K5; dsimp only [List.nil_append] at K5; obtain ⟨Am, cm, rfl, hrm, hlm⟩ := own_form (K5.owns (List.Mem.head _)); have K5' := hide K5; have HRM := hide hrm; clear K1 K5 hrm)
      (with_reducible refine (mnew_any l Am cm _ (HL.out.ext K5'.out.toExt) HRM.out HB.out hlm (by omega)).mono ?_)
      rintro e w2 ⟨g, gh, vk, rfl, H2'⟩
      have H2 := K5'.out.join H2'
      dsimp only [List.nil_append, List.cons_append] at H2
      obtain ⟨ik, HIK⟩ : ∃ ik, Hid (xorB 54 (keyB l) = ik) := ⟨_, hide rfl⟩
      have HIL : Hid (ik.length = 64) := hide (by rw [← HIK.out, ik_len])
      have HTG : ∀ acc, OutAs l ik acc (tagB l acc) := fun acc => by show outB l (ik ++ acc) = tagB l acc; rw [← HIK.out]; rfl
      rw [HIK.out] at H2
      have K2 := hide H2
      clear K5' H2 H2' HRM
      go_wp2_with fail
      go_loopw [7] (fun i wr => ∃ (k : Nat) (mine : List Int), i = .int .i64 k ∧ k ≤ l.length ∧ mine.length = l.length ∧ Hid (Sep No w wr [As.own 5 (.slice Am l.length cm) (byt mine), As.blk g 49 [ptr gh, vk], AsHash gh ik, As.own 5 vk (byt l)])) (fun i _ => l.length - (intOf i).toNat)
      case atStart => exact ⟨0, l, rfl, by omega, rfl, hide (K2.out.perm (List.perm_middle (l₁ := [_, _, _]) (l₂ := [])))⟩
      case round =>
        clear K2
        obtain ⟨k, mine, rfl, hk, hml, HS⟩ := hrel
        by_cases hkl : k < l.length
        · have hki : (k : Int) < (l.length : Int) := by omega
          have hkm : k < (byt mine).length := by rw [byt_length]; omega
          obtain ⟨gm, rfl, cm1, fm1, hgm, H3⟩ := Sep.ownSet [] HS.out hkm (.int .u8 (bits .xor .u8 (mine[k]'(by omega)) 255))
          have hcg : (byt mine)[k] = .int .u8 (mine[k]'(by omega)) := by simp [byt]
          rw [hcg] at cm1
          dsimp only [List.nil_append] at H3
          rw [byt_set] at H3
          have HML : Hid ((mine.set k (bits .xor .u8 (mine[k]'(by omega)) 255)).length = l.length) := hide (by rw [List.length_set, hml])
          obtain ⟨x, HX⟩ : ∃ x, Hid (mine[k]'(by omega) = x) := ⟨_, hide rfl⟩
          rw [HX.out] at cm1 H3 HML
          have K3 := hide H3
          clear H3 HS hcg
          go_wp2_with fail
          go_roundw
          case rel => exact ⟨k + 1, mine.set k (bits .xor .u8 x 255), by go_num, by omega, HML.out, K3⟩
          case measure => simp [intOf]; omega
        · obtain rfl : k = l.length := by omega
          have H3 := (HS.out.tail).nilO 5
          have K3 : Hid (Sep No w wr (PartsL g gh vk (.slice none 0 0) l ik [])) := hide (by
            unfold PartsL
            rw [List.append_nil]
            exact H3.perm (List.perm_middle (l₁ := [_, _, _]) (l₂ := [])).symm)
          clear HS H3
          go_wp2_with fail
          go_loopw [8, 9] (fun va i wx => ∃ (k : Nat) (acc : List Int), i = .int .i64 k ∧ k ≤ xs.length ∧ Hid (isB acc ∧ acc.length ≤ 200 * k) ∧ Hid (Sep No w wx (PartsL g gh vk va l ik acc))) (fun _ i _ => xs.length - (intOf i).toNat)
          case atStart => exact ⟨0, [], rfl, by omega, hide ⟨by unfold isB; simp, by simp⟩, K3⟩
          case round =>
            clear K3
            obtain ⟨k, acc, rfl, hk, HA, HS⟩ := hrel
            have H := HS.out
            unfold PartsL at H
            clear HS
            obtain ⟨Ak, ck, rfl, hrk, hck, hmk, hhk, hgh⟩ := mac_parts H
            have HRK := hide hrk
            have HMK := hide hmk
            have HHK := hide hhk
            have hal := HA.out.2
            clear hrk hmk hhk
            by_cases hkx : k < xs.length
            · have hkxi : (k : Int) < (xs.length : Int) := by omega
              obtain ⟨ad, rfl, hcell⟩ := (H.rdN HRX.out).at_ hkx
              obtain ⟨Ax, lx, cx, hxe, hrx, hbx, hcx, _⟩ := bytes_arg (HXX.out _ (List.getElem_mem hkx))
              have HRk : Hid (∀ w', Ext w w' → w'.cell? (ad.add k) = some (.slice Ax lx.length cx)) := hide (fun w' h => by
                obtain ⟨ad', e, hc'⟩ := (HRX.out.ext h).at_ hkx
                cases e
                rw [hxe] at hc'; exact hc')
              rw [hxe] at hcell
              have HRx := hide hrx
              have HBx := hide hbx
              have HNe : Hid (0 < lx.length → ∀ ad, Ax = some ad → ad.block ≠ gh) := hide (fun h0 ad e => by have := rd_before HRx.out (by simpa using h0) ad e; omega)
              clear hxe hrx hbx
              by_cases hlt3 : 200 < lx.length
              · have hd3 : (200 : Int) < (lx.length : Int) := by omega
                have HX := hide H.toExt
                clear H
                go_wp2_with fail
                (with_reducible refine (shown_any _ (HL.out.ext HX.out)).mono ?_)
                rintro e w2 ⟨rfl, hx2⟩
                go_wp2_with fail
                go_ret
                exact ⟨rfl, HX.out.trans hx2⟩
              · have hd3 : ¬ (200 : Int) < (lx.length : Int) := by omega
                have HAB := hide HA.out.1
                have hlxl : lx.length ≤ 200 := by omega
                clear hlt3
                have KH := hide H
                clear H
                go_wp2_with fail
                (with_reducible refine (mwrite_any g gh _ (ik ++ acc) lx Ax cx _ (HL.out.ext KH.out.toExt) (by omega) HMK.out HHK.out (KH.out.rdN HRx.out) HNe.out HBx.out hcx (by have := HIL.out; rw [List.length_append]; omega)).mono ?_)
                rintro e w2 ⟨rfl, hh2, hu2⟩
                have H2 := sep_write (L1 := [_]) KH.out hh2 hu2
                dsimp only [List.nil_append, List.cons_append] at H2
                rw [List.append_assoc] at H2
                clear hh2 hu2 KH hcell HRK HMK HHK HNe
                have hcell2 := HRk.out w2 H2.toExt
                obtain ⟨acc', hacc⟩ : ∃ acc', acc ++ lx = acc' := ⟨_, rfl⟩
                have HAC := hide hacc
                have hal' : acc'.length ≤ 200 * (k + 1) := by rw [← hacc, List.length_append]; omega
                have HAB' : Hid (isB acc') := hide (by rw [← hacc]; exact isB_append HAB.out HBx.out)
                rw [hacc] at H2
                clear hacc
                go_upto_region 16 with fail
                have tok5 : True := trivial
                go_wp2_with (have zz := tok5; clear zz tok5; with_reducible refine wpList_apS [_, _, _] H2 rfl (.tmp 62) (.tmp 66) 22 rfl i0 (.int .u8 0) 1 Tryd.underlying22 hi hz0 hz1 hz2 rfl rfl (A := Ax) (m := lx.length) (c := cx) (news := byt lx) rfl (by simp) (H2.rdN HRx.out) (byt_one _) (by simp; omega) (by omega) ?_; intro v3 w3 H3; rw [← byt_append, HAC.out] at H3; dsimp only [List.cons_append, List.nil_append] at H3; clear H2 hcell2)
                obtain ⟨Ak, ck, ev, hrk, hck, hmk, hhk, _⟩ := mac_parts H3
                have hT := mtag_any g gh l (ik ++ acc') Ak ck _ (HL.out.ext H3.toExt) hmk hhk hrk HB.out hck (by omega) (by have := HIL.out; rw [List.length_append]; omega)
                rw [show outB l (ik ++ acc') = tagB l acc' from HTG acc'] at hT
                have HT0 := hide hT
                obtain ⟨t, HTt⟩ : ∃ t, Hid (tagB l acc' = t) := ⟨_, hide rfl⟩
                have HTL : Hid ((byt t).length = 32) := hide (by rw [byt_length, ← HTt.out, tagB_len])
                have HTN : Hid (t.length = 32) := hide (by rw [← HTt.out, tagB_len])
                rw [HTt.out] at HT0
                have HT2 := hide (fun (x : World) (h : Ext w x) (Ao : Option Addr) (co : Nat) (hr : Rd x Ao (byt acc')) (hc' : acc'.length ≤ co) => htag_any l acc' A c Ao co x (HL.out.ext h) (HR.out.ext h) HB.out hc (by omega) hr HAB'.out hc' (by omega))
                rw [HTt.out] at HT2
                clear hT hrk hck hmk hhk HTt
                go_wp2_with fail
                (with_reducible refine HT0.out.mono ?_)
                rintro e w4 ⟨rfl, hx4⟩
                have H4 := H3.ext hx4
                clear hx4 H3 HT0
                have tok6 : True := trivial
                have tok7 : True := trivial
                go_upto_region 18 with (first
                  | (have zz := tok6; clear zz tok6; refine wpList_alS H4 rfl 26 rfl (Z8 32) (by kernel_rfl) ?_; intro w5 _ H5; clear H4)
                  | (have zz := tok7; clear zz tok7; refine wpList_stS [] H5 rfl 26 (.tmp 11) (.tmp 71) rfl rfl (cs := byt t) rfl (by rw [HTL.out]; kernel_rfl) (by rw [HTL.out]; rfl) (byt_one _) ?_; intro w6 H6; dsimp only [List.nil_append] at H6; clear H5))
                obtain ⟨g4, G4⟩ : ∃ g, w4.heap.size = g := ⟨_, rfl⟩
                rw [G4] at H6 ⊢
                refine wp_region_wm [0, 1, 2, 3, 4, 5, 6, 7, 8, 9, 10, 11, 12] (by kernel_rfl) (by kernel_rfl) (by kernel_rfl) (by kernel_rfl) ?_
                have H7 := H6.drew
                clear H6
                generalize w6.drew = wd at *
                obtain ⟨Ao, co, rfl, hro, hlo⟩ := own_form (H7.owns (List.Mem.tail _ (List.Mem.tail _ (List.Mem.tail _ (List.Mem.tail _ (List.Mem.head _))))))
                have HSU := hide (HT2.out wd H7.toExt Ao co hro hlo)
                have hne := neq32 t HTN.out
                clear hro HT2
                iterate 7 (refine wm_rd rfl rfl (fun K hK => ?_); go_simp; refine hK _ ?_; clear hK K)
                refine wm_ldS H7 (List.Mem.head _) rfl rfl 26 (.tmp 11) rfl rfl _ Tryd.underlying26 rfl (by rw [HTL.out]; kernel_rfl) ?_
                iterate 2 (refine wm_rd rfl rfl (fun K hK => ?_); go_simp; refine hK _ ?_; clear hK K)
                refine wm_ext rfl rfl (fun K hK => ?_)
                go_simp
                go_at_call 14
                (with_reducible refine HSU.out.mono ?_)
                rintro e w8 ⟨rfl, hx8⟩
                refine hK _ _ hx8 ?_
                clear hK K
                have H8 := H7.ext hx8
                clear H7 hx8 HSU
                iterate 2 (refine wm_rd rfl rfl (fun K hK => ?_); go_simp; refine hK _ ?_; clear hK K)
                refine wm_nil ?_
                have H9 := hide H8.tail
                have hal2 : acc'.length ≤ 200 * (k + 1) := hal'
                clear H8 hne
                go_wp2_with fail
                go_roundw
                case rel => exact ⟨k + 1, acc', by go_num, by omega, hide ⟨HAB'.out, hal2⟩, H9⟩
                case measure => simp [intOf]; omega
            · obtain rfl : k = xs.length := by omega
              have KH := hide H
              clear H
              go_wp2_with fail
              (with_reducible refine (mreset_any g gh l Ak ck _ (HL.out.ext KH.out.toExt) HMK.out HRK.out HB.out hck (by omega)).mono ?_)
              rintro e w2 ⟨gh2, v2, rfl, hR⟩
              have H2 := KH.out.joinU hR (fun i hi => hi)
              dsimp only [List.nil_append, List.cons_append] at H2
              rw [HIK.out] at H2
              clear hR KH HRK HMK HHK hck
              obtain ⟨Ak2, ck2, ev, hrk, hck, hmk, hhk, _⟩ := mac_parts H2
              have hT := mtag_any g gh2 l ik Ak2 ck2 _ (HL.out.ext H2.toExt) (by rw [← ev]; exact H2.blk (List.Mem.head _)) hhk hrk HB.out hck (by omega) (by have := HIL.out; omega)
              have hO : outB l ik = tagB l [] := by have h := HTG []; unfold OutAs at h; rwa [List.append_nil] at h
              rw [hO] at hT
              have HT0 := hide hT
              obtain ⟨t, HTt⟩ : ∃ t, Hid (tagB l [] = t) := ⟨_, hide rfl⟩
              have HTL : Hid ((byt t).length = 32) := hide (by rw [byt_length, ← HTt.out, tagB_len])
              have HTN : Hid (t.length = 32) := hide (by rw [← HTt.out, tagB_len])
              rw [HTt.out] at HT0
              have HT2 : Hid (∀ x : World, Ext w x → Calls Tryd.prog 14 #[.slice A l.length c, .slice none 0 0] x fun e w' => e = .returned (.agg (byt (tagB l [])).toArray) ∧ Ext x w') := hide (fun (x : World) (h : Ext w x) => htag_any l [] A c none 0 x (HL.out.ext h) (HR.out.ext h) HB.out hc (by omega) (Rd.nil _ _) (by unfold isB; simp) (Nat.le_refl _) (by simp))
              rw [HTt.out] at HT2
              clear hT hrk hck hmk hhk HTt hO ev
              have KK := hide H2
              clear H2
              go_wp2_with fail
              (with_reducible refine HT0.out.mono ?_)
              rintro e w4 ⟨rfl, hx4⟩
              have H4 := KK.out.ext hx4
              clear hx4 KK HT0
              have tok6 : True := trivial
              have tok7 : True := trivial
              go_upto_region 23 with (first
                | (have zz := tok6; clear zz tok6; refine wpList_alS H4 rfl 26 rfl (Z8 32) (by kernel_rfl) ?_; intro w5 _ H5; clear H4)
                | (have zz := tok7; clear zz tok7; refine wpList_stS [] H5 rfl 26 (.tmp 13) (.tmp 92) rfl rfl (cs := byt t) rfl (by rw [HTL.out]; kernel_rfl) (by rw [HTL.out]; rfl) (byt_one _) ?_; intro w6 H6; dsimp only [List.nil_append] at H6; clear H5))
              obtain ⟨g4, G4⟩ : ∃ g, w4.heap.size = g := ⟨_, rfl⟩
              rw [G4] at H6 ⊢
              refine wp_region_wm [0, 1, 2, 3, 4, 5, 6, 7, 8, 9, 10, 11] (by kernel_rfl) (by kernel_rfl) (by kernel_rfl) (by kernel_rfl) ?_
              have H7 := H6.drew
              clear H6
              generalize w6.drew = wd at *
              have HSU := hide (HT2.out wd H7.toExt)
              have heq := fun (x : World) => eql32 t t HTN.out HTN.out x
              simp only [beq_self_eq_true] at heq
              clear HT2
              iterate 3 (refine wm_rd rfl rfl (fun K hK => ?_); go_simp; refine hK _ ?_; clear hK K)
              refine wm_ldS H7 (List.Mem.head _) rfl rfl 26 (.tmp 13) rfl rfl _ Tryd.underlying26 rfl (by rw [HTL.out]; kernel_rfl) ?_
              iterate 1 (refine wm_rd rfl rfl (fun K hK => ?_); go_simp; refine hK _ ?_; clear hK K)
              refine wm_ext rfl rfl (fun K hK => ?_)
              go_simp
              go_at_call 14
              (with_reducible refine HSU.out.mono ?_)
              rintro e w8 ⟨rfl, hx8⟩
              refine hK _ _ hx8 ?_
              clear hK K
              have H8 := hide (H7.ext hx8).toExt
              clear H7 hx8 HSU
              iterate 3 (refine wm_rd rfl rfl (fun K hK => ?_); go_simp; refine hK _ ?_; clear hK K)
              refine wm_ext rfl rfl (fun K hK => ?_)
              go_simp
              go_at_call 11
              (with_reducible refine (shown_any _ (HL.out.ext H8.out)).mono ?_)
              rintro e w9 ⟨rfl, hx9⟩
              refine hK _ _ hx9 ?_
              clear hK K
              have H9 := hide (H8.out.trans hx9)
              iterate 2 (refine wm_rd rfl rfl (fun K hK => ?_); go_simp; refine hK _ ?_; clear hK K)
              refine wm_nil ?_
              go_wp2_with fail
              go_ret
              exact ⟨rfl, H9.out⟩
end Go.Proofs.YtoinnkjifmlbiaaDoor
