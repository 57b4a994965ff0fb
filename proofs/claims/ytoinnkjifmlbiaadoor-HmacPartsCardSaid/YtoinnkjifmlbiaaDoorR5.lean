/- Hmac: the reference's Verify. -/
import Derived.Test.YtoinnkjifmlbiaaDoorR4
namespace Go.Proofs.YtoinnkjifmlbiaaDoor
open Go.RowKit Go.Gr
set_option linter.unusedVariables false
set_option linter.unusedSimpArgs false
attribute [local go_sem] rdOp rdAt rdUpon Cls forall_fr
set_option maxRecDepth 100000 in
set_option maxHeartbeats 2000000 in
theorem rverify_any (key l tag : List Int) (A : Option Addr) (c : Nat) (B : Option Addr) (cb : Nat) (C : Option Addr) (cc : Nat) (w : World) (hr : Rd w A (byt key)) (hb : isB key) (hc : key.length ≤ c) (hlen : key.length ≤ 100000)
    (hrb : Rd w B (byt l)) (hbb : isB l) (hlb : l.length ≤ 100000) (hrt : Rd w C (byt tag)) (hbt : isB tag) (hlt : tag.length ≤ 100000) :
    Calls Tryd.prog 24 #[.slice A key.length c, .slice B l.length cb, .slice C tag.length cc] w fun e w' => e = .returned (.int .i64 (sameE (tagB key l) tag)) ∧ Ext w w' := by
  have HC := hide (rtag_any key l A c B cb w hr hb hc hlen hrb hbb hlb)
  have HRT := hide hrt
  obtain ⟨t, HT⟩ : ∃ t, Hid (tagB key l = t) := ⟨_, hide rfl⟩
  have HTL : Hid ((byt t).length = 32) := hide (by rw [byt_length, ← HT.out, tagB_len])
  have HTN : Hid (t.length = 32) := hide (by rw [← HT.out, tagB_len])
  rw [HT.out] at HC ⊢
  clear hr hb hrb hbb hrt hbt
  have tok : True := trivial
  have tok2 : True := trivial
  go_enter Tryd.func24, Tryd.ntmps24
  go_wp2_with fail
  (with_reducible refine HC.out.mono ?_)
  rintro e w1 ⟨rfl, hx1⟩
  have H1 := (Sep.refl No w).ext hx1
  have hs1 := hx1.size
  clear HC hx1
  by_cases h32 : tag.length = 32
  · have hd : ((tag.length : Int) != 32) = false := by rw [h32]; rfl
    have HTG := hide h32
    have hd2 : decide ((tag.length : Int) = 32) = true := by rw [h32]; rfl
    have h32i : (tag.length : Int) = 32 := by omega
    clear h32
    go_wp2_with (first
      | (have zz := tok; clear zz tok; refine wpList_alS H1 rfl 26 rfl (Z8 32) (by kernel_rfl) ?_; intro w2 _ H2)
      | (have zz := tok2; clear zz tok2; refine wpList_stS [] H2 rfl 26 (.tmp 7) (.tmp 11) rfl rfl (cs := byt t) rfl (by rw [HTL.out]; kernel_rfl) (by rw [HTL.out]; rfl) (byt_one _) ?_; intro w3 H3; dsimp only [List.nil_append] at H3; have K3 := hide H3; clear H2 H1 H3))
    obtain ⟨g, HG⟩ : ∃ g, w1.heap.size = g := ⟨_, rfl⟩
    rw [HG] at K3 ⊢
    clear HG hs1
    go_loopw [8] (fun i wr => ∃ k : Nat, i = .int .i64 k ∧ k ≤ 32 ∧ t.take k = tag.take k ∧ Hid (Sep No w wr [As.blk g 26 (byt t)])) (fun i _ => 32 - (intOf i).toNat)
    case atStart => exact ⟨0, rfl, by omega, rfl, K3⟩
    case round =>
      obtain ⟨k, rfl, hk, htk, HS⟩ := hrel
      have HTK := hide htk
      clear K3 htk
      by_cases hlt : k < 32
      · have hkt : k < t.length := by rw [HTN.out]; exact hlt
        have hkg : k < tag.length := by omega
        have hk32 : (k : Int) < 32 := by omega
        have HNX := hide (take_eq_next hkt hkg)
        have HD := hide (HS.out.drew)
        have c1 : wr.drew.cell? ⟨g, k, none⟩ = some (.int .u8 t[k]) := by
          rw [(HD.out.blk (g := g) (e := 26) (cs := byt t) (List.Mem.head _)).cell k, byt, List.getElem?_map, List.getElem?_eq_getElem hkt, Option.map_some]
        obtain ⟨ad, rfl, c2⟩ := (HD.out.rdN HRT.out).at_ (k := k) (by simpa using hkg)
        rw [byt_get hkg] at c2
        obtain ⟨x, HX⟩ : ∃ x, Hid (t[k] = x) := ⟨_, hide rfl⟩
        obtain ⟨y, HY⟩ : ∃ y, Hid (tag[k] = y) := ⟨_, hide rfl⟩
        rw [HX.out] at c1 HNX
        rw [HY.out] at c2 HNX
        go_upto_region 7 with fail
        refine wp_region_wm [0, 1, 2, 3, 4, 5, 6, 7] (by kernel_rfl) (by kernel_rfl) (by kernel_rfl) (by kernel_rfl) ?_
        generalize wr.drew = wd at *
        by_cases hxy : x = y
        · have h1 : (x == y) = true := beq_iff_eq.2 hxy
          have h2 : (x != y) = false := by rw [hxy]; exact bne_self_eq_false _
          have HXY := hide hxy
          clear hxy
          iterate 2 (refine wm_rd rfl rfl (fun K hK => ?_); go_simp; refine hK _ ?_; clear hK K)
          refine wm_ld1 rfl rfl 5 (.tmp 20) rfl rfl c1 _ Tryd.underlying5 rfl ?_
          iterate 3 (refine wm_rd rfl rfl (fun K hK => ?_); go_simp; refine hK _ ?_; clear hK K)
          refine wm_ld1 rfl rfl 5 (.tmp 24) rfl rfl c2 _ Tryd.underlying5 rfl ?_
          iterate 1 (refine wm_rd rfl rfl (fun K hK => ?_); go_simp; refine hK _ ?_; clear hK K)
          refine wm_nil ?_
          go_wp2_with fail
          go_roundw
          case rel => exact ⟨k + 1, by go_num, by omega, HNX.out.2 ⟨HTK.out, HXY.out⟩, HD⟩
          case measure => simp [intOf]; omega
        · have h1 : (x == y) = false := beq_eq_false_iff_ne.2 hxy
          have h2 : (x != y) = true := bne_iff_ne.2 hxy
          have HXY := hide hxy
          clear hxy
          iterate 2 (refine wm_rd rfl rfl (fun K hK => ?_); go_simp; refine hK _ ?_; clear hK K)
          refine wm_ld1 rfl rfl 5 (.tmp 20) rfl rfl c1 _ Tryd.underlying5 rfl ?_
          iterate 3 (refine wm_rd rfl rfl (fun K hK => ?_); go_simp; refine hK _ ?_; clear hK K)
          refine wm_ld1 rfl rfl 5 (.tmp 24) rfl rfl c2 _ Tryd.underlying5 rfl ?_
          iterate 1 (refine wm_rd rfl rfl (fun K hK => ?_); go_simp; refine hK _ ?_; clear hK K)
          refine wm_nil ?_
          have hs : Hid (sameE t tag = 12) := hide (by unfold sameE; rw [if_neg (fun e => HXY.out (by rw [← HX.out, ← HY.out]; simp only [e]))])
          go_wp2_with fail
          go_ret
          exact ⟨by rw [hs.out]; rfl, HD.out.toExt⟩
      · obtain rfl : k = 32 := by omega
        have hs : Hid (sameE t tag = 0) := hide (by
          have h := HTK.out
          rw [List.take_of_length_le (Nat.le_of_eq HTN.out), List.take_of_length_le (by omega)] at h
          unfold sameE; rw [if_pos h])
        go_wp2_with fail
        go_ret
        exact ⟨by rw [hs.out]; rfl, HS.out.toExt⟩
  · have hd : ((tag.length : Int) != 32) = true := bne_iff_ne.2 (by omega)
    have hd2 : decide ((tag.length : Int) = 32) = false := by simp; omega
    have h32i : ¬ (tag.length : Int) = 32 := by omega
    have hs : Hid (sameE t tag = 12) := hide (by unfold sameE; rw [if_neg (fun e => h32 (by rw [← e, HTN.out]))])
    clear h32
    go_wp2_with (first
      | (have zz := tok; clear zz tok; refine wpList_alS H1 rfl 26 rfl (Z8 32) (by kernel_rfl) ?_; intro w2 _ H2)
      | (have zz := tok2; clear zz tok2; refine wpList_stS [] H2 rfl 26 (.tmp 7) (.tmp 11) rfl rfl (cs := byt t) rfl (by rw [HTL.out]; kernel_rfl) (by rw [HTL.out]; rfl) (byt_one _) ?_; intro w3 H3; dsimp only [List.nil_append] at H3; have K3 := hide H3; clear H2 H1 H3))
    go_ret
    exact ⟨by rw [hs.out]; rfl, K3.out.toExt⟩
end Go.Proofs.YtoinnkjifmlbiaaDoor
