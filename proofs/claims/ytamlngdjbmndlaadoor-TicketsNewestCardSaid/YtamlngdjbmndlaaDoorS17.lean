/- The walk of the reference's Sum. -/
import Derived.Test.YtamlngdjbmndlaaDoorS13
import Derived.Test.YtamlngdjbmndlaaDoorS3
namespace Go.Proofs.YtamlngdjbmndlaaDoor
open Go.RowKit Go.Gr
set_option linter.unusedVariables false
attribute [local go_sem] rdOp rdAt rdUpon Cls
theorem take_step {w : World} {g : Nat} {b : List Int} {j : Nat} (hb : b.length = 64) (hB : Blk w g 121 (byt (b.take j) ++ Z8 (64 - j))) (hj : j < 64) :
    w.cell? ⟨g, j, none⟩ = some (.int .u8 0) ∧ Blk (w.setCell ⟨g, j, none⟩ (.int .u8 (b.getD j 0))) g 121 (byt (b.take (j + 1)) ++ Z8 (64 - (j + 1))) := by
  have hl : (byt (b.take j)).length = j := by rw [byt_length, List.length_take]; omega
  refine ⟨(hB.cell j).trans ?_, ?_⟩
  · rw [List.getElem?_append_right (by omega), hl, Nat.sub_self]
    obtain ⟨m, hm⟩ : ∃ m, 64 - j = m + 1 := ⟨63 - j, by omega⟩
    rw [hm]; rfl
  · have h := hB.set j (.int .u8 (b.getD j 0))
    rw [Z8, set_next (byt (b.take j)) 64 j _ _ hl hj] at h
    rw [take_next b j (by omega), byt_append]
    exact h
theorem pad_mult (n : Nat) (h : n ≤ 1152921504606846976) : (n + (padB (n : Int)).length) % 64 = 0 := by
  have hp0 : padE (n : Int) = 0 := by rw [padE, if_neg (by omega)]
  rw [padB, if_pos hp0]
  simp [be_length]
  have : padZ (n : Int) = ((119 - (n : Int)) % 64).toNat := rfl
  omega
theorem pad_isB (n : Nat) (h : n ≤ 1152921504606846976) : isB (padB (n : Int)) := by
  have hp0 : padE (n : Int) = 0 := by rw [padE, if_neg (by omega)]
  rw [padB, if_pos hp0]
  intro x hx
  rw [List.mem_cons, List.mem_append] at hx
  rcases hx with rfl | hx | hx
  · omega
  · rw [List.mem_replicate] at hx; omega
  · exact be_isB 8 _ x hx
set_option maxHeartbeats 2000000 in
theorem rsum_any (l : List Int) (A : Option Addr) (c : Nat) (w : World) (hr : Rd w A (byt l)) (hb : isB l) (hc : l.length ≤ c) (hlen : l.length ≤ 900000000) :
    Calls Tryd.prog 64 #[.slice A l.length c] w fun e w' => e = .returned (.agg (byt (digest l)).toArray) ∧ Ext w w' := by
  obtain ⟨i0, hi, hz0, hz1, hz2⟩ := info_parts info8
  have HR := hide hr
  have HBy := hide hb
  have hp0 : padE (l.length : Int) = 0 := by rw [padE, if_neg (by omega)]
  clear hr hb
  go_enter Tryd.func64, Tryd.ntmps64
  have HB0 : Hid (Blk (w.alloc (.cells (Z8 32).toArray 36)) w.heap.size 36 (Z8 32)) := hide (Blk.new _ _ _)
  have HX0 : Hid (Ext w (w.alloc (.cells (Z8 32).toArray 36))) := hide ((Ext.refl w).alloc _)
  have HS0 : Hid ((w.alloc (.cells (Z8 32).toArray 36)).heap.size = w.heap.size + 1) := hide (by simp)
  go_wp2_with fail
  refine (rpad_any (l.length : Int) _ (by omega) (by omega)).mono ?_
  rintro e w1 ⟨pv, rfl, ho, hx1⟩
  rw [hp0]
  have hsx := hx1.size
  have hs1 : w.heap.size + 1 ≤ w1.heap.size := Nat.le_trans (Nat.le_of_eq HS0.out.symm) hsx
  obtain ⟨A1, c1, rfl, hr1, hlc1, _⟩ := ho.form
  rw [byt_length]
  have HB1 : Hid (Blk w1 w.heap.size 36 (Z8 32)) := hide (HB0.out.ext hx1)
  have HX1 : Hid (Ext w w1) := hide (HX0.out.trans hx1)
  have HR1 := hide hr1
  clear ho hr1 hx1 HB0 HX0 HS0
  have hlp : (padB (l.length : Int)).length ≤ 72 := by
    have h1 : padB (l.length : Int) = 128 :: (List.replicate (padZ (l.length : Int)) 0 ++ be 8 ((l.length : Int) * 8)) := by rw [padB, if_pos hp0]
    rw [h1]
    simp [be_length]
    have : padZ (l.length : Int) = ((119 - (l.length : Int)) % 64).toNat := rfl
    omega
  have hmul := pad_mult l.length (by omega)
  have HPB := hide (pad_isB l.length (by omega))
  have HDG : Hid (digest l = dig (stOf (l ++ padB (l.length : Int))) 32) := hide rfl
  generalize padB (l.length : Int) = pb at *
  have HOa : Hid (Own w1.heap.size (w1.alloc (.cells #[] 5)) 5 (.slice (some ⟨w1.heap.size, 0, none⟩) 0 0) []) := hide ((Blk.new w1 5 []).own (Nat.le_refl _) (by decide))
  have HXa : Hid (Ext w1 (w1.alloc (.cells #[] 5))) := hide ((Ext.refl w1).alloc _)
  go_wp2_with (first
    | (at_builtin; refine wpList_app rfl (.tmp 19) (.tmp 20) 26 rfl 5 i0 (.int .u8 0) 1 Tryd.underlying26 hi hz0 hz1 hz2 rfl rfl HOa.out rfl (byt_length l).symm (HR.out.ext (HX1.out.trans HXa.out)) (byt_one l) (by simp; omega) (by omega) HXa.out.size ?_; intro v2 w2 ho2 hb2 _; have HO2 := hide ho2; have HX2 := hide (show Ext w1 w2 from Below.trans HXa.out hb2); clear ho2 hb2)
    | (at_builtin; refine wpList_app rfl (.tmp 21) (.tmp 22) 26 rfl 5 i0 (.int .u8 0) 1 Tryd.underlying26 hi hz0 hz1 hz2 rfl rfl HO2.out rfl (byt_length pb).symm (HR1.out.ext HX2.out) (byt_one pb) (by simp; omega) (by omega) HX2.out.size ?_; intro v3 w3 ho3 hb3 _; have HO3 := hide ho3; have HX3 := hide (show Ext w1 w3 from Below.trans HX2.out hb3); clear ho3 hb3))
  obtain ⟨m, hm⟩ : ∃ m, l ++ pb = m := ⟨_, rfl⟩
  have hown : Own w1.heap.size w3 5 v3 (byt m) := by rw [← hm, byt_append]; exact HO3.out
  obtain ⟨A2, c2, rfl, hr3, hlc2, _⟩ := hown.form
  have hm64 : m.length % 64 = 0 := by rw [← hm, List.length_append]; exact hmul
  have hmb : m.length ≤ 900000072 := by rw [← hm, List.length_append]; omega
  rw [hm] at HDG
  have HMB : Hid (isB m) := by
    rw [← hm]
    intro x hx
    rw [List.mem_append] at hx
    exact hx.elim (HBy.out x) (HPB.out x)
  obtain ⟨q, hq⟩ : ∃ q, m.length = 64 * q := ⟨m.length / 64, by omega⟩
  have HQ := hide hq
  have hq9 : 64 * q ≤ 900000072 := by rw [← hq]; exact hmb
  have HR3 := hide hr3
  have HB3 : Hid (Blk w3 w.heap.size 36 (Z8 32)) := hide (HB1.out.ext HX3.out)
  have HY3 : Hid (Ext w w3) := hide (HX1.out.trans HX3.out)
  have hs3 : w1.heap.size ≤ w3.heap.size := HX3.out.size
  rw [byt_length, hq]
  clear hown hr3 hm hq hm64 hlc1 hlc2 hlp hmul HO2 HO3 HOa HXa HX2 HX3 HB1 HX1 HR1 HR hp0 HPB
  (with_reducible refine (rconstants_any _).mono ?_)
  rintro e w4 ⟨rfl, hx4⟩
  have HKL : Hid ((u32v kT).length = 64) := hide (by decide)
  have HHL : Hid ((u32v hT).length = 8) := hide (by decide)
  have HN4 : Hid (Blk (w4.alloc (.cells (Z 64).toArray 127)) w4.heap.size 127 (Z 64)) := hide (Blk.new _ _ _)
  have hs4 := hx4.size
  have HB4 : Hid (Blk w4 w.heap.size 36 (Z8 32)) := hide (HB3.out.ext hx4)
  have HX4 : Hid (Ext w w4) := hide (HY3.out.trans hx4)
  have HR4 := hide (HR3.out.ext hx4)
  clear hx4 HB3 HY3 HR3
  go_wp2_with (refine wpList_storeB rfl 127 (.tmp 6) (.tmp 24) rfl HN4.out rfl rfl (by rw [HKL.out]; kernel_rfl) (by rw [HKL.out]; rfl) (u32v_one _) ?_)
  refine (rstart_any _).mono ?_
  rintro e w5 ⟨rfl, hx5⟩
  have HX4a : Hid (Ext w4 ((w4.alloc (.cells (Z 64).toArray 127)).setRow w4.heap.size (u32v kT).toArray)) := hide (Below.setRow ((Ext.refl w4).alloc _) (Nat.le_refl _) _)
  have HBK : Hid (Blk w5 w4.heap.size 127 (u32v kT)) := hide ((HN4.out.setRow _).ext hx5)
  have HX45 : Hid (Ext w4 w5) := hide (HX4a.out.trans hx5)
  have HB5 : Hid (Blk w5 w.heap.size 36 (Z8 32)) := hide (HB4.out.ext HX45.out)
  have HX5 : Hid (Ext w w5) := hide (HX4.out.trans HX45.out)
  have HR5 : Hid (Rd w5 A2 (byt m)) := hide (HR4.out.ext HX45.out)
  have hs5 : w4.heap.size < w5.heap.size := HBK.out.lt
  clear hx5 HX4a HX45 HN4 HB4 HX4 HR4
  have HN5 : Hid (Blk (w5.alloc (.cells (Z 8).toArray 120)) w5.heap.size 120 (Z 8)) := hide (Blk.new _ _ _)
  go_wp2_with (refine wpList_storeB rfl 120 (.tmp 7) (.tmp 25) rfl HN5.out rfl rfl (by rw [HHL.out]; kernel_rfl) (by rw [HHL.out]; rfl) (u32v_one _) ?_)
  go_loopw [8] (fun i wr => ∃ k : Nat, i = .int .i64 (64 * (k : Int)) ∧ k ≤ q ∧ Hid (Ext w wr) ∧ Hid (Blk wr w.heap.size 36 (Z8 32)) ∧ Hid (Blk wr w4.heap.size 127 (u32v kT)) ∧ Hid (Blk wr w5.heap.size 120 (u32v (blocksS k hT m))) ∧ Hid (Rd wr A2 (byt m))) (fun i _ => 64 * q - (intOf i).toNat)
  case atStart =>
    exact ⟨0, rfl, by omega, hide (Below.setRow (HX5.out.alloc _) HX5.out.size _), hide ((HB5.out.alloc _).rowFar (by omega) _), hide ((HBK.out.alloc _).rowFar (by omega) _), hide (HN5.out.setRow _), hide (HR5.out.ext (Below.setRow ((Ext.refl w5).alloc _) (Nat.le_refl _) _))⟩
  case round =>
    obtain ⟨k, rfl, hk, HX, HA0, HAK, HAS, HAR⟩ := hrel
    by_cases hlt : k < q
    · obtain ⟨b, hb⟩ : ∃ b, (m.drop (64 * k)).take 64 = b := ⟨_, rfl⟩
      have hbl : b.length = 64 := by rw [← hb, List.length_take, List.length_drop, HQ.out]; omega
      have hbb : isB b := fun x hx => HMB.out x (by rw [← hb] at hx; exact List.mem_of_mem_drop (List.mem_of_mem_take hx))
      have HST : Hid (blocksS (k + 1) hT m = blockS (blocksS k hT m) b) := by rw [blocksS_snoc, hb]; exact hide rfl
      have hsk := blocksS_ok k hT m hT_ok.1 hT_ok.2
      have HBG : ∀ j, j < 64 → (byt m)[64 * k + j]? = some (.int .u8 (b.getD j 0)) := fun j hj => by
        have h1 : 64 * k + j < m.length := by rw [HQ.out]; omega
        rw [byt_at m (64 * k + j) h1, ← hb]
        simp [h1, hj]
      have HBGh := hide HBG
      obtain ⟨st', hst'⟩ : ∃ x, blocksS (k + 1) hT m = x := ⟨_, rfl⟩
      rw [hst'] at HST
      have HSTE := hide hst'
      have HF : Hid (∀ ad, A2 = some ad → ad.block ≠ w5.heap.size) := hide (fun ad e => by have := rd_before HR5.out (by rw [byt_length, HQ.out]; omega) ad e; omega)
      have w64 : IntKind.i64.wrap (64 * (k : Int) + 64) = 64 * (k : Int) + 64 := IntWalk.i64_in _ (by omega)
      clear hst'
      generalize blocksS k hT m = st at *
      have hgs : w5.heap.size < wr.heap.size := HAS.out.lt
      have HBL := hide hbl
      have HBB := hide hbb
      have HSK := hide hsk
      obtain ⟨wo, hwo⟩ : ∃ wo : World, wo = wr := ⟨_, rfl⟩
      rw [← hwo] at HX HA0 HAK HAS HAR hgs ⊢
      clear hwo hb HBG hbl hbb hsk
      go_wp2_with fail
      go_loopw [10] (fun i wi => ∃ j : Nat, i = .int .i64 j ∧ j ≤ 64 ∧ Hid (Ext wo wi) ∧ Hid (Blk wi wo.heap.size 121 (byt (b.take j) ++ Z8 (64 - j)))) (fun i _ => 64 - (intOf i).toNat)
      case atStart => exact ⟨0, rfl, by omega, hide ((Ext.refl wo).alloc _), hide (Blk.new _ _ _)⟩
      case round =>
        obtain ⟨j, rfl, hj, HXi, HBi⟩ := hrel
        by_cases hlj : j < 64
        · obtain ⟨ad, rfl, hcell⟩ := (HAR.out.ext HXi.out) _ _ (HBGh.out j hlj)
          have HT := hide (take_step HBL.out HBi.out hlj)
          have cz := HT.out.1
          have cf := HBi.out.free j
          generalize b.getD j 0 = x at *
          have q1 : IntKind.i64.wrap (64 * (k : Int) + (j : Int)) = 64 * (k : Int) + (j : Int) := IntWalk.i64_in _ (by omega)
          have l1 : (0 : Int) ≤ 64 * (k : Int) + (j : Int) := by omega
          have l2 : 64 * (k : Int) + (j : Int) < 64 * (q : Int) := by omega
          have n1 : (64 * (k : Int) + (j : Int)).toNat = 64 * k + j := by omega
          have l3 : (j : Int) < 64 := by omega
          go_wp2_with fail
          go_roundw
          case rel => exact ⟨j + 1, by go_num, by omega, hide (Below.setCell HXi.out (by show wo.heap.size ≤ wo.heap.size; omega) _), hide HT.out.2⟩
          case measure => simp [intOf]; omega
        · obtain rfl : j = 64 := by omega
          rw [show ((64 : Nat) : Int) = 64 from rfl]
          have hB := HBi.out
          rw [List.take_of_length_le (by rw [HBL.out]; exact Nat.le_refl _), show Z8 (64 - 64) = [] from rfl, List.append_nil] at hB
          have HBb := hide hB
          have HLb : Hid ((byt b).length = 64) := hide (by rw [byt_length]; exact HBL.out)
          have HLs : Hid ((u32v st).length = 8) := hide (by rw [u32v_length]; exact HSK.out.1)
          have HK2 := hide (HAK.out.ext HXi.out)
          have HS2 := hide (HAS.out.ext HXi.out)
          clear hB
          go_wp2_with (first
            | (refine wpList_loadB rfl 127 (.tmp 6) rfl HK2.out rfl _ Tryd.underlying127 rfl (by rw [HKL.out]; kernel_rfl) ?_)
            | (refine wpList_loadB rfl 120 (.tmp 7) rfl HS2.out rfl _ Tryd.underlying120 rfl (by rw [HLs.out]; kernel_rfl) ?_)
            | (refine wpList_loadB rfl 121 (.tmp 9) rfl HBb.out rfl _ Tryd.underlying121 rfl (by rw [HLb.out]; kernel_rfl) ?_))
          (with_reducible refine (rblock_any kT st b _ (by decide) HSK.out.1 HBL.out (by unfold isW; decide) HSK.out.2 HBB.out).mono ?_)
          rintro e w7 ⟨rfl, hx7⟩
          have HE : Hid (blockG kT st b = st') := hide (Eq.trans rfl HST.out.symm)
          rw [HE.out]
          have hl8 : st'.length = 8 := by rw [HST.out]; exact (blockS_ok _ _ HSK.out.1 HSK.out.2).1
          have HL8 : Hid ((u32v st').length = 8) := hide (by rw [u32v_length]; exact hl8)
          have HX7 : Hid (Ext wo w7) := hide (HXi.out.trans hx7)
          clear hx7 hl8
          have HS7 := hide (HAS.out.ext HX7.out)
          go_wp2_with (refine wpList_storeB rfl 120 (.tmp 7) (.tmp 47) rfl HS7.out rfl rfl (by rw [HL8.out]; kernel_rfl) (by rw [HL8.out, HLs.out]) (u32v_one _) ?_)
          go_roundw
          case rel =>
            refine ⟨k + 1, by go_num, by omega, hide (Below.setRow (HX.out.trans HX7.out) (by omega) _), hide ((HA0.out.ext HX7.out).rowFar (by omega) _), hide ((HAK.out.ext HX7.out).rowFar (by omega) _), ?_, hide ((HAR.out.ext HX7.out).upd ((Upd.refl _ _).row _) HF.out)⟩
            rw [HSTE.out]
            exact hide (HS7.out.setRow _)
          case measure => simp [intOf]; omega
    · obtain rfl : k = q := by omega
      have HDQ : Hid (digest l = dig (blocksS k hT m) 32) := by
        rw [HDG.out, stOf, HQ.out, Nat.mul_div_cancel_left _ (by decide)]
        exact hide rfl
      have hst := blocksS_ok k hT m hT_ok.1 hT_ok.2
      generalize blocksS k hT m = st at *
      have hgs : w5.heap.size < wr.heap.size := HAS.out.lt
      obtain ⟨wo, hwo⟩ : ∃ wo : World, wo = wr := ⟨_, rfl⟩
      rw [← hwo] at HX HA0 HAK HAS HAR hgs ⊢
      clear hwo
      go_wp2_with fail
      go_loopw [12] (fun i wi => ∃ j : Nat, i = .int .i64 j ∧ j ≤ 32 ∧ Hid (Ext wo wi) ∧ Hid (Blk wi wo.heap.size 36 (byt (dig st j) ++ Z8 (32 - j)))) (fun i _ => 32 - (intOf i).toNat)
      case atStart => exact ⟨0, rfl, by omega, hide ((Ext.refl wo).alloc _), hide (Blk.new _ _ _)⟩
      case round =>
        obtain ⟨j, rfl, hj, HXi, HBi⟩ := hrel
        by_cases hlj : j < 32
        · obtain ⟨u, hu⟩ : ∃ u, j / 4 = u := ⟨_, rfl⟩
          obtain ⟨r, hr⟩ : ∃ r, j % 4 = r := ⟨_, rfl⟩
          have hu8 : u < 8 := by omega
          have hr4 : r < 4 := by omega
          have cs := ((HAS.out.ext HXi.out).cell u).trans (u32v_at st u (by rw [hst.1]; exact hu8))
          have hx := isW_at hst.2 u
          have HS := hide (dig_step HBi.out hlj)
          rw [hu, hr] at HS
          have cz := HS.out.1
          have cf := HBi.out.free j
          generalize st.getD u 0 = x at *
          have q1 : Int.tdiv (j : Int) 4 = u := by rw [Int.tdiv_eq_ediv_of_nonneg (by omega)]; omega
          have q2 : (j : Int) / 4 = u := by omega
          have r1 : Int.tmod (j : Int) 4 = r := by rw [Int.tmod_eq_emod_of_nonneg (by omega)]; omega
          have r2 : (j : Int) % 4 = r := by omega
          have v1 : IntKind.i64.wrap (8 * (r : Int)) = 8 * (r : Int) := IntWalk.i64_in _ (by omega)
          have v2 : IntKind.i64.wrap (24 - 8 * (r : Int)) = 24 - 8 * (r : Int) := IntWalk.i64_in _ (by omega)
          have v3 : IntKind.u64.wrap (24 - 8 * (r : Int)) = 24 - 8 * (r : Int) := by simp only [IntKind.wrap_u64]; omega
          have l1 : (0 : Int) ≤ 24 - 8 * (r : Int) := by omega
          have n1 : (24 - 8 * (r : Int)).toNat = 24 - 8 * r := by omega
          have l2' : (u : Int) < 8 := by omega
          have l3 : (j : Int) < 32 := by omega
          clear hu hr
          go_wp2_with fail
          go_roundw
          case rel => exact ⟨j + 1, by go_num, by omega, hide (Below.setCell HXi.out (by show wo.heap.size ≤ wo.heap.size; omega) _), hide HS.out.2⟩
          case measure => simp [intOf]; omega
        · obtain rfl : j = 32 := by omega
          rw [show ((32 : Nat) : Int) = 32 from rfl]
          have hB := HBi.out
          rw [show Z8 (32 - 32) = [] from rfl, List.append_nil, ← HDQ.out] at hB
          have HB := hide hB
          have HA1 := hide (HA0.out.ext HXi.out)
          have HDL : Hid ((byt (digest l)).length = 32) := hide (by rw [byt_length, digest, dig_length])
          clear hB
          go_wp2_with (first
            | (refine wpList_loadB rfl 36 (.tmp 11) rfl HB.out rfl _ Tryd.underlying36 rfl (by rw [HDL.out]; kernel_rfl) ?_)
            | (refine wpList_storeB rfl 36 (.tmp 2) (.tmp 65) rfl HA1.out rfl rfl (by rw [HDL.out]; kernel_rfl) (by rw [HDL.out]; rfl) (byt_one _) ?_))
          refine bodyPost_ret (v := .agg (byt (digest l)).toArray) (results_cell_row rfl _ _ w.heap.size 36 (byt (digest l)).toArray (0, 0) _ rfl (HA1.out.setRow _) Tryd.underlying36 rfl (by rw [List.size_toArray, HDL.out]; kernel_rfl)) rfl ⟨rfl, Below.setRow (HX.out.trans HXi.out) (Nat.le_refl _) _⟩
end Go.Proofs.YtamlngdjbmndlaaDoor
