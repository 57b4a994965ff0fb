/- Hmac: the law HmacKeys walked. -/
import Derived.Test.YtoinnkjifmlbiaaDoorL0
namespace Go.Proofs.YtoinnkjifmlbiaaDoor
open Go.RowKit Go.Gr
set_option linter.unusedVariables false
set_option linter.unusedSimpArgs false
attribute [local go_sem] rdOp rdAt rdUpon Cls forall_fr
theorem keyB_digest {l : List Int} (h : 64 < l.length) : keyB (digest l) = keyB l := by
  unfold keyB
  rw [if_pos h, if_neg (by rw [digest_len]; decide)]
theorem keyB_zeros {l : List Int} {k : Nat} (h : l.length + k ≤ 64) : keyB (l ++ List.replicate k 0) = keyB l := by
  unfold keyB
  rw [if_neg (by rw [List.length_append, List.length_replicate]; omega), if_neg (by omega)]
  unfold fillB
  rw [List.append_assoc, List.replicate_append_replicate, List.length_append, List.length_replicate]
  congr 2
  omega
theorem tagB_key {k k' : List Int} (h : keyB k' = keyB k) (l : List Int) : tagB k' l = tagB k l := by unfold tagB outB; rw [h]
theorem own_rdn {w : World} {e : TypeId} {A : Option Addr} {n c : Nat} {xs : List Value} (h : Own 0 w e (.slice A n c) xs) : Rd w A xs := by
  obtain ⟨A', c', e', h1, _⟩ := h.form
  cases e'; exact h1
/-- keys with the same block have this tag -/
def TagAs (l m t : List Int) : Prop := ∀ l', keyB l' = keyB l → tagB l' m = t
set_option maxRecDepth 100000 in
set_option maxHeartbeats 2000000 in
theorem keys_law (w : World) (hl : Laid w) (v0 : Value) (h0 : LfOk Tryd.prog w (.slice 5) v0) (v1 : Value) (h1 : LfOk Tryd.prog w (.slice 5) v1) (z : Int) (hz : 0 ≤ z ∧ z < 256) : Calls Tryd.prog 5 #[v0, v1, .int .u8 z] w fun e w' => e = .returned (.bool true) ∧ Ext w w' := by
  obtain ⟨A, l, c, rfl, hr, hb, hc, hm⟩ := bytes_arg h0
  obtain ⟨B, m, cb, rfl, hrb, hbb, hcb, hmb⟩ := bytes_arg h1
  obtain ⟨i0, hi, hz0, hz1, hz2⟩ := info_parts info8
  have HL := hide hl
  have HR := hide hr
  have HB := hide hb
  have HRB := hide hrb
  have HBB := hide hbb
  clear hl hr hb h0 h1 hrb hbb
  by_cases hs : l.length ≤ 300 ∧ m.length ≤ 300
  · obtain ⟨s1, s2⟩ := hs
    have d1 : ¬ (300 : Int) < (l.length : Int) := by omega
    have d2 : ¬ (300 : Int) < (m.length : Int) := by omega
    have H1 := hide (htag_any l m A c B cb w HL.out HR.out HB.out hc (by omega) HRB.out HBB.out hcb (by omega))
    obtain ⟨t, HT⟩ : ∃ t, Hid (tagB l m = t) := ⟨_, hide rfl⟩
    have HTL : Hid ((byt t).length = 32) := hide (by rw [byt_length, ← HT.out, tagB_len])
    have HTN : Hid (t.length = 32) := hide (by rw [← HT.out, tagB_len])
    have heq := fun (x : World) => eql32 t t HTN.out HTN.out x
    simp only [beq_self_eq_true] at heq
    rw [HT.out] at H1
    have tok1 : True := trivial
    have tok2 : True := trivial
    by_cases hlong : 64 < l.length
    · have d3 : (64 : Int) < (l.length : Int) := by omega
      obtain ⟨d, HD⟩ : ∃ d, Hid (digest l = d) := ⟨_, hide rfl⟩
      have HDL : Hid ((byt d).length = 32) := hide (by rw [byt_length, ← HD.out, digest_len])
      have HDN : Hid (d.length = 32) := hide (by rw [← HD.out, digest_len])
      have HDB : Hid (isB d) := hide (by rw [← HD.out]; exact digest_isB l)
      have HT2 : Hid (tagB d m = t) := hide (by rw [← HD.out, ← HT.out]; exact tagB_key (keyB_digest hlong) m)
      have HSM := hide (fun (x : World) (h : Ext w x) => sum_any l A c x (HL.out.ext h) (HR.out.ext h) HB.out hc (by omega))
      rw [HD.out] at HSM
      go_enter Tryd.func5, Tryd.ntmps5
      go_wp2_with fail
      (with_reducible refine H1.out.mono ?_)
      rintro e w1 ⟨rfl, hx1⟩
      have K1 := (Sep.refl No w).ext hx1
      clear hx1 H1
      go_wp2_with (first
        | (have zz := tok1; clear zz tok1; refine wpList_alS K1 rfl 26 rfl (Z8 32) (by kernel_rfl) ?_; intro w2 _ K2; clear K1)
        | (have zz := tok2; clear zz tok2; refine wpList_stS [] K2 rfl 26 (.tmp 7) (.tmp 22) rfl rfl (cs := byt t) rfl (by rw [HTL.out]; kernel_rfl) (by rw [HTL.out]; rfl) (byt_one _) ?_; intro w3 K3; dsimp only [List.nil_append] at K3; clear K2))
      obtain ⟨g1, G1⟩ : ∃ g, w1.heap.size = g := ⟨_, rfl⟩
      rw [G1] at K3 ⊢
      (with_reducible refine (HSM.out _ K3.toExt).mono ?_)
      rintro e w4 ⟨rfl, hx4⟩
      have K4 := K3.ext hx4
      clear hx4 K3 HSM
      have tok3 : True := trivial
      have tok4 : True := trivial
      go_wp2_with (first
        | (have zz := tok3; clear zz tok3; refine wpList_alS K4 rfl 26 rfl (Z8 32) (by kernel_rfl) ?_; intro w5 _ K5; clear K4)
        | (have zz := tok4; clear zz tok4; refine wpList_stS [] K5 rfl 26 (.tmp 8) (.tmp 27) rfl rfl (cs := byt d) rfl (by rw [HDL.out]; kernel_rfl) (by rw [HDL.out]; rfl) (byt_one _) ?_; intro w6 K6; dsimp only [List.nil_append] at K6; clear K5))
      obtain ⟨g2, G2⟩ : ∃ g, w4.heap.size = g := ⟨_, rfl⟩
      rw [G2] at K6 ⊢
      refine wp_region_wm [0, 1, 3, 2, 4, 5, 6, 7, 8] (by kernel_rfl) (by kernel_rfl) (by kernel_rfl) (by kernel_rfl) ?_
      have K7 := K6.drew
      clear K6
      generalize w6.drew = wd at *
      have hg2 := (K7.blk (g := g2) (e := 26) (cs := byt d) (List.Mem.head _)).lt
      have hT := htag_any d m (some ⟨g2, 0, none⟩) 32 B cb wd (HL.out.ext K7.toExt) (K7.blk (g := g2) (e := 26) (cs := byt d) (List.Mem.head _)).rd HDB.out (Nat.le_of_eq HDN.out) (by have := HDN.out; omega) (K7.rdN HRB.out) HBB.out hcb (by omega)
      rw [HT2.out, HDN.out] at hT
      have H2 := hide hT
      clear hT
      iterate 2 (refine wm_rd rfl rfl (fun K hK => ?_); go_simp; refine hK _ ?_; clear hK K)
      refine wm_ldS K7 (List.Mem.tail _ (List.Mem.head _)) rfl rfl 26 (.tmp 7) rfl rfl _ Tryd.underlying26 rfl (by rw [HTL.out]; kernel_rfl) ?_
      refine wm_ext rfl rfl (fun K hK => ?_)
      go_simp
      go_at_call 14
      (with_reducible refine H2.out.mono ?_)
      rintro e w8 ⟨rfl, hx8⟩
      refine hK _ _ hx8 ?_
      clear hK K
      have K8 := hide (K7.ext hx8).toExt
      clear K7 hx8 H2
      iterate 2 (refine wm_rd rfl rfl (fun K hK => ?_); go_simp; refine hK _ ?_; clear hK K)
      refine wm_ext rfl rfl (fun K hK => ?_)
      go_simp
      go_at_call 11
      (with_reducible refine (shown_any w8 (HL.out.ext K8.out)).mono ?_)
      rintro e w9 ⟨rfl, hx9⟩
      refine hK _ _ hx9 ?_
      clear hK K
      have K9 := hide (K8.out.trans hx9)
      iterate 2 (refine wm_rd rfl rfl (fun K hK => ?_); go_simp; refine hK _ ?_; clear hK K)
      refine wm_nil ?_
      go_wp2_with fail
      go_ret
      exact ⟨rfl, K9.out⟩
    · have d3 : ¬ (64 : Int) < (l.length : Int) := by omega
      have hl64 : l.length ≤ 64 := by omega
      clear hlong
      have HTK : TagAs l m t := fun l' h => by rw [tagB_key h, HT.out]
      clear HT
      have HZ := hide hz
      clear hz
      go_enter Tryd.func5, Tryd.ntmps5
      go_wp2_with fail
      (with_reducible refine H1.out.mono ?_)
      rintro e w1 ⟨rfl, hx1⟩
      have K1 := (Sep.refl No w).ext hx1
      clear hx1 H1
      go_upto_region 4 with (first
        | (have zz := tok1; clear zz tok1; refine wpList_alS K1 rfl 26 rfl (Z8 32) (by kernel_rfl) ?_; intro w2 _ K2; clear K1)
        | (have zz := tok2; clear zz tok2; refine wpList_stS [] K2 rfl 26 (.tmp 7) (.tmp 22) rfl rfl (cs := byt t) rfl (by rw [HTL.out]; kernel_rfl) (by rw [HTL.out]; rfl) (byt_one _) ?_; intro w3 K3; dsimp only [List.nil_append] at K3; clear K2))
      go_upto_region 7 with fail
      have K4 := Sep.toOwn [] (K3.newB ((Ext.refl w3).alloc (.cells #[] 5)) (Blk.new w3 5 []) (Nat.le_refl _)) (by simp)
      dsimp only [List.nil_append, List.length_nil] at K4
      clear K3
      have tok3 : True := trivial
      go_wp2_with (have zz := tok3; clear zz tok3; with_reducible refine wpList_apS [] K4 rfl (.tmp 36) (.tmp 37) 22 rfl i0 (.int .u8 0) 1 Tryd.underlying22 hi hz0 hz1 hz2 rfl rfl (A := A) (m := l.length) (c := c) (news := byt l) rfl (by simp) (K4.rdN HR.out) (byt_one _) (by simp; omega) (by omega) ?_; intro v w5 K5; dsimp only [List.nil_append] at K5; have K5' := hide K5; clear K5 K4)
      obtain ⟨g1, G1⟩ : ∃ g, w1.heap.size = g := ⟨_, rfl⟩
      rw [G1] at K5' ⊢
      go_loopw [9, 10] (fun v i wr => ∃ k : Nat, i = .int .i64 k ∧ k ≤ 64 ∧ l.length + k ≤ 64 ∧ ∃ (Av : Option Addr) (cv : Nat), v = .slice Av (l.length + k) cv ∧ Hid (l.length + k ≤ cv ∧ Sep No w wr [As.own 5 (.slice Av (l.length + k) cv) (byt (l ++ List.replicate k 0)), As.blk g1 26 (byt t)])) (fun _ i _ => 64 - (intOf i).toNat)
      case atStart =>
        obtain ⟨Av, cv, rfl, hrv, hlv⟩ := own_form (K5'.out.owns (List.Mem.head _))
        exact ⟨0, rfl, by omega, by omega, Av, cv, rfl, hide ⟨hlv, by rw [List.replicate_zero, List.append_nil]; exact K5'.out⟩⟩
      case round =>
        clear K5'
        obtain ⟨k, rfl, hk, hlk, Av, cv, rfl, HS⟩ := hrel
        obtain ⟨z0, z1⟩ := HZ.out
        by_cases e1 : (k : Int) < z
        · by_cases c2 : l.length + k < 64
          · have e2 : (l.length : Int) + (k : Int) < 64 := by omega
            have HN : Hid (l ++ List.replicate (k + 1) (0 : Int) = (l ++ List.replicate k 0) ++ [0]) := hide (by rw [List.replicate_succ', List.append_assoc])
            have HLE : Hid ((byt (l ++ List.replicate k 0)).length < 1000000000) := hide (by rw [byt_length, List.length_append, List.length_replicate]; omega)
            have tok6 : True := trivial
            go_wp2_with (have zz := tok6; clear zz tok6; refine wpList_pushS [] HS.out.2 rfl (.tmp 50) (.tmp 51) 22 rfl i0 (.int .u8 0) 1 Tryd.underlying22 hi hz0 hz1 hz2 rfl rfl rfl rfl HLE.out (by omega) ?_; intro v4 w4 H4; dsimp only [List.nil_append] at H4; have K4 := hide H4; clear H4)
            go_roundw
            case rel =>
              obtain ⟨Aw, cw, rfl, hrv, hlv⟩ := own_form (l := l ++ List.replicate (k + 1) 0) (by rw [HN.out, byt_append]; exact K4.out.owns (List.Mem.head _))
              have hln : (l ++ List.replicate (k + 1) (0 : Int)).length = l.length + (k + 1) := by rw [List.length_append, List.length_replicate]
              rw [hln] at hlv K4 ⊢
              exact ⟨k + 1, by go_num, by omega, by omega, Aw, cw, rfl, hide ⟨hlv, by rw [HN.out, byt_append]; exact K4.out⟩⟩
            case measure => simp [intOf]; omega
          · have e2 : ¬ (l.length : Int) + (k : Int) < 64 := by omega
            have HKL : Hid ((l ++ List.replicate k (0 : Int)).length = l.length + k) := hide (by rw [List.length_append, List.length_replicate])
            have HKI : Hid (isB (l ++ List.replicate k 0)) := hide (isB_append HB.out (fun x hx => by rw [List.eq_of_mem_replicate hx]; decide))
            have HT2 : Hid (tagB (l ++ List.replicate k 0) m = t) := hide (HTK _ (keyB_zeros hlk))
            clear HTK
            go_upto_region 12 with fail
            refine wp_region_wm [0, 1, 3, 2, 4, 5, 6, 7, 8] (by kernel_rfl) (by kernel_rfl) (by kernel_rfl) (by kernel_rfl) ?_
            have K7 := HS.out.2.drew
            have hlv := HS.out.1
            clear HS
            generalize wr.drew = wd at *
            have hT := htag_any (l ++ List.replicate k 0) m Av cv B cb wd (HL.out.ext K7.toExt) (own_rdn (K7.owns (List.Mem.head _))) HKI.out (by rw [HKL.out]; exact hlv) (by rw [HKL.out]; omega) (K7.rdN HRB.out) HBB.out hcb (by omega)
            rw [HT2.out, HKL.out] at hT
            have H2 := hide hT
            clear hT HT2
            iterate 2 (refine wm_rd rfl rfl (fun K hK => ?_); go_simp; refine hK _ ?_; clear hK K)
            refine wm_ldS K7 (List.Mem.tail _ (List.Mem.head _)) rfl rfl 26 (.tmp 7) rfl rfl _ Tryd.underlying26 rfl (by rw [HTL.out]; kernel_rfl) ?_
            refine wm_ext rfl rfl (fun K hK => ?_)
            go_simp
            go_at_call 14
            (with_reducible refine H2.out.mono ?_)
            rintro e w8 ⟨rfl, hx8⟩
            refine hK _ _ hx8 ?_
            clear hK K
            have K8 := hide (K7.ext hx8).toExt
            clear K7 hx8 H2
            iterate 2 (refine wm_rd rfl rfl (fun K hK => ?_); go_simp; refine hK _ ?_; clear hK K)
            refine wm_ext rfl rfl (fun K hK => ?_)
            go_simp
            go_at_call 11
            (with_reducible refine (shown_any w8 (HL.out.ext K8.out)).mono ?_)
            rintro e w9 ⟨rfl, hx9⟩
            refine hK _ _ hx9 ?_
            clear hK K
            have K9 := hide (K8.out.trans hx9)
            iterate 2 (refine wm_rd rfl rfl (fun K hK => ?_); go_simp; refine hK _ ?_; clear hK K)
            refine wm_nil ?_
            go_wp2_with fail
            go_ret
            exact ⟨rfl, K9.out⟩
        · have HKL : Hid ((l ++ List.replicate k (0 : Int)).length = l.length + k) := hide (by rw [List.length_append, List.length_replicate])
          have HKI : Hid (isB (l ++ List.replicate k 0)) := hide (isB_append HB.out (fun x hx => by rw [List.eq_of_mem_replicate hx]; decide))
          have HT2 : Hid (tagB (l ++ List.replicate k 0) m = t) := hide (HTK _ (keyB_zeros hlk))
          clear HTK
          go_upto_region 12 with fail
          refine wp_region_wm [0, 1, 3, 2, 4, 5, 6, 7, 8] (by kernel_rfl) (by kernel_rfl) (by kernel_rfl) (by kernel_rfl) ?_
          have K7 := HS.out.2.drew
          have hlv := HS.out.1
          clear HS
          generalize wr.drew = wd at *
          have hT := htag_any (l ++ List.replicate k 0) m Av cv B cb wd (HL.out.ext K7.toExt) (own_rdn (K7.owns (List.Mem.head _))) HKI.out (by rw [HKL.out]; exact hlv) (by rw [HKL.out]; omega) (K7.rdN HRB.out) HBB.out hcb (by omega)
          rw [HT2.out, HKL.out] at hT
          have H2 := hide hT
          clear hT HT2
          iterate 2 (refine wm_rd rfl rfl (fun K hK => ?_); go_simp; refine hK _ ?_; clear hK K)
          refine wm_ldS K7 (List.Mem.tail _ (List.Mem.head _)) rfl rfl 26 (.tmp 7) rfl rfl _ Tryd.underlying26 rfl (by rw [HTL.out]; kernel_rfl) ?_
          refine wm_ext rfl rfl (fun K hK => ?_)
          go_simp
          go_at_call 14
          (with_reducible refine H2.out.mono ?_)
          rintro e w8 ⟨rfl, hx8⟩
          refine hK _ _ hx8 ?_
          clear hK K
          have K8 := hide (K7.ext hx8).toExt
          clear K7 hx8 H2
          iterate 2 (refine wm_rd rfl rfl (fun K hK => ?_); go_simp; refine hK _ ?_; clear hK K)
          refine wm_ext rfl rfl (fun K hK => ?_)
          go_simp
          go_at_call 11
          (with_reducible refine (shown_any w8 (HL.out.ext K8.out)).mono ?_)
          rintro e w9 ⟨rfl, hx9⟩
          refine hK _ _ hx9 ?_
          clear hK K
          have K9 := hide (K8.out.trans hx9)
          iterate 2 (refine wm_rd rfl rfl (fun K hK => ?_); go_simp; refine hK _ ?_; clear hK K)
          refine wm_nil ?_
          go_wp2_with fail
          go_ret
          exact ⟨rfl, K9.out⟩
  · have HS := hide (shown_any w HL.out)
    by_cases s1 : 300 < l.length
    · have d1 : (300 : Int) < (l.length : Int) := by omega
      clear hs
      go_enter Tryd.func5, Tryd.ntmps5
      go_wp2_with fail
      (with_reducible refine HS.out.mono ?_)
      rintro e w1 ⟨rfl, hx⟩
      go_wp2_with fail
      go_ret
      exact ⟨rfl, hx⟩
    · have d1 : ¬ (300 : Int) < (l.length : Int) := by omega
      have d2 : (300 : Int) < (m.length : Int) := by omega
      clear hs
      go_enter Tryd.func5, Tryd.ntmps5
      go_wp2_with fail
      (with_reducible refine HS.out.mono ?_)
      rintro e w1 ⟨rfl, hx⟩
      go_wp2_with fail
      go_ret
      exact ⟨rfl, hx⟩
end Go.Proofs.YtoinnkjifmlbiaaDoor
