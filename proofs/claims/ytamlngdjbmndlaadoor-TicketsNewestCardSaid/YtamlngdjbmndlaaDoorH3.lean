/- Hmac: the walks of Block and pad. -/
import Derived.Test.YtamlngdjbmndlaaDoorH2
import Derived.Test.YtamlngdjbmndlaaDoorS15
namespace Go.Proofs.YtamlngdjbmndlaaDoor
open Go.RowKit Go.Gr
set_option linter.unusedVariables false
set_option linter.unusedSimpArgs false
attribute [local go_sem] rdOp rdAt rdUpon Cls forall_fr
/-- the block of a key -/
def keyB (k : List Int) : List Int := fillB (if 64 < k.length then digest k else k) 64
theorem keyB_len (k : List Int) : (keyB k).length = 64 := by
  unfold keyB
  split
  · exact fillB_len (by rw [digest_len]; decide)
  · exact fillB_len (by omega)
theorem keyB_isB {k : List Int} (h : isB k) : isB (keyB k) := by
  unfold keyB
  split
  · exact fillB_isB (digest_isB k)
  · exact fillB_isB h
set_option maxRecDepth 100000 in
set_option maxHeartbeats 2000000 in
theorem mblock_any (l : List Int) (A : Option Addr) (c : Nat) (w : World) (hl : Laid w) (hr : Rd w A (byt l)) (hb : isB l) (hc : l.length ≤ c) (hlen : l.length ≤ 100000) :
    Calls Tryd.prog 83 #[.slice A l.length c] w fun e w' => e = .returned (.agg (byt (keyB l)).toArray) ∧ Ext w w' := by
  have HL := hide hl
  have HR := hide hr
  have HB := hide hb
  clear hl hr hb
  have tok : True := trivial
  have tok2 : True := trivial
  by_cases h64 : 64 < l.length
  · have hd : decide ((64 : Int) < (l.length : Int)) = true := by simp; omega
    have HE : Hid (keyB l = fillB (digest l) 64) := hide (by unfold keyB; rw [if_pos h64])
    have HDL : Hid ((byt (digest l)).length = 32) := hide (by rw [byt_length, digest_len])
    clear h64
    go_enter Tryd.func83, Tryd.ntmps83
    go_wp2_with (first
      | (have zz := tok; clear zz tok; refine wpList_alS (Sep.refl No w) rfl 121 rfl (Z8 64) (by kernel_rfl) ?_; intro w1 hz1 H1)
      | (have zz := tok2; clear zz tok2; refine wpList_alS H1 rfl 121 rfl (Z8 64) (by kernel_rfl) ?_; intro w2 hz2 H2; rw [hz1] at H2; clear H1))
    (with_reducible refine (sum_any l A c _ (HL.out.ext H2.toExt) (H2.rdN HR.out) HB.out hc (by omega)).mono ?_)
    rintro e w3 ⟨rfl, hx3⟩
    have H3 := H2.ext hx3
    have hs3 : w.heap.size + 1 < w3.heap.size := (H3.blk (g := w.heap.size + 1) (e := 121) (cs := Z8 64) (List.Mem.head _)).lt
    clear H2 hx3
    have tok3 : True := trivial
    have tok4 : True := trivial
    go_wp2_with (first
      | (have zz := tok3; clear zz tok3; refine wpList_alS H3 rfl 36 rfl (Z8 32) (by kernel_rfl) ?_; intro w4 hz4 H4; clear H3)
      | (have zz := tok4; clear zz tok4; refine wpList_stS [] H4 rfl 36 (.tmp 4) (.tmp 9) rfl rfl (cs := byt (digest l)) rfl (by rw [HDL.out]; kernel_rfl) (by rw [HDL.out]; rfl) (byt_one _) ?_; intro w5 H5; dsimp only [List.nil_append] at H5; clear H4))
    refine wp_region_tail 2 [0, 1] (by kernel_rfl) (by kernel_rfl) (by kernel_rfl) ?_
    have H6 := H5.drew
    clear H5
    generalize w5.drew = wd at *
    iterate 2 (refine wt_rd rfl rfl (fun K hK => ?_); go_simp; refine hK _ ?_; clear hK K)
    refine wt_nil ?_
    have HSP : Hid (splice (Z8 64) 0 ((byt (digest l)).take 32) = byt (keyB l)) := hide (by
      rw [List.take_of_length_le (by rw [HDL.out]; exact Nat.le_refl _), show Z8 64 = List.replicate 64 (Value.int .u8 0) from rfl, fill_splice (l := digest l) (n := 64) (by rw [digest_len]; decide), ← HE.out])
    have hzl : 0 + 32 ≤ (Z8 64).length := by decide
    have hrd := (H6.blk (g := w3.heap.size) (e := 36) (cs := byt (digest l)) (List.Mem.head _)).rd
    rw [show (List.drop 2 _ : List Oper) = [_] from rfl]
    refine wpList_cpS [As.blk w3.heap.size 36 (byt (digest l))] H6 rfl (.tmp 10) (.tmp 11) 26 26 rfl 5 Tryd.underlying26 (by kernel_rfl) rfl rfl hrd HDL.out 32 rfl hzl (byt_one _) ?_
    intro w7 H7
    rw [HSP.out] at H7
    dsimp only [List.nil_append, List.cons_append] at H7
    clear H6
    refine NoPanic.normal ?_
    have HKL : Hid ((byt (keyB l)).length = 64) := hide (by rw [byt_length, keyB_len])
    have tok5 : True := trivial
    have tok6 : True := trivial
    go_wp2_with (first
      | (have zz := tok5; clear zz tok5; refine wpList_ldS H7 (List.Mem.tail _ (List.Mem.head _)) rfl 121 (.tmp 3) rfl rfl _ Tryd.underlying121 rfl (by rw [HKL.out]; kernel_rfl) ?_)
      | (have zz := tok6; clear zz tok6; refine wpList_stS [As.blk w3.heap.size 36 (byt (digest l)), As.blk (w.heap.size + 1) 121 (byt (keyB l))] H7 rfl 121 (.tmp 2) (.tmp 16) rfl rfl (cs := byt (keyB l)) rfl (by rw [HKL.out]; kernel_rfl) (by rw [HKL.out]; rfl) (byt_one _) ?_; intro w9 H9; dsimp only [List.nil_append, List.cons_append] at H9))
    have hB := H9.blk (g := w.heap.size) (e := 121) (cs := byt (keyB l)) (List.Mem.tail _ (List.Mem.tail _ (List.Mem.head _)))
    refine bodyPost_ret (v := .agg (byt (keyB l)).toArray) (results_cell_row rfl _ _ w.heap.size 121 (byt (keyB l)).toArray (0, 0) _ rfl hB Tryd.underlying121 rfl (by rw [List.size_toArray, HKL.out]; kernel_rfl)) rfl ⟨rfl, H9.toExt⟩
  · have hd : decide ((64 : Int) < (l.length : Int)) = false := by simp; omega
    have HE : Hid (keyB l = fillB l 64) := hide (by unfold keyB; rw [if_neg h64])
    have hl64 : l.length ≤ 64 := by omega
    have HSP : Hid (splice (Z8 64) 0 ((byt l).take l.length) = byt (keyB l)) := hide (by
      rw [List.take_of_length_le (by rw [byt_length]; exact Nat.le_refl _), show Z8 64 = List.replicate 64 (Value.int .u8 0) from rfl, fill_splice (l := l) (n := 64) hl64, ← HE.out])
    have hzl : 0 + l.length ≤ (Z8 64).length := by simp [Z8]; omega
    have HKL : Hid ((byt (keyB l)).length = 64) := hide (by rw [byt_length, keyB_len])
    have tok4 : True := trivial
    have tok5 : True := trivial
    have tok6 : True := trivial
    clear h64
    go_enter Tryd.func83, Tryd.ntmps83
    go_wp2_with (first
      | (have zz := tok; clear zz tok; refine wpList_alS (Sep.refl No w) rfl 121 rfl (Z8 64) (by kernel_rfl) ?_; intro w1 hz1 H1)
      | (have zz := tok2; clear zz tok2; refine wpList_alS H1 rfl 121 rfl (Z8 64) (by kernel_rfl) ?_; intro w2 hz2 H2; rw [hz1] at H2; clear H1)
      | (have zz := tok4; clear zz tok4; refine wpList_cpS [] H2 rfl (.tmp 13) (.tmp 14) 26 26 rfl 5 Tryd.underlying26 (by kernel_rfl) rfl rfl (H2.rdN HR.out) (by rw [byt_length]) l.length (Nat.min_eq_left hl64).symm hzl (byt_one _) ?_; intro w7 H7; rw [HSP.out] at H7; dsimp only [List.nil_append, List.cons_append] at H7; clear H2)
      | (have zz := tok5; clear zz tok5; refine wpList_ldS H7 (List.Mem.head _) rfl 121 (.tmp 3) rfl rfl _ Tryd.underlying121 rfl (by rw [HKL.out]; kernel_rfl) ?_)
      | (have zz := tok6; clear zz tok6; refine wpList_stS [As.blk (w.heap.size + 1) 121 (byt (keyB l))] H7 rfl 121 (.tmp 2) (.tmp 16) rfl rfl (cs := byt (keyB l)) rfl (by rw [HKL.out]; kernel_rfl) (by rw [HKL.out]; rfl) (byt_one _) ?_; intro w9 H9; dsimp only [List.nil_append, List.cons_append] at H9))
    have hB := H9.blk (g := w.heap.size) (e := 121) (cs := byt (keyB l)) (List.Mem.tail _ (List.Mem.head _))
    refine bodyPost_ret (v := .agg (byt (keyB l)).toArray) (results_cell_row rfl _ _ w.heap.size 121 (byt (keyB l)).toArray (0, 0) _ rfl hB Tryd.underlying121 rfl (by rw [List.size_toArray, HKL.out]; kernel_rfl)) rfl ⟨rfl, H9.toExt⟩
end Go.Proofs.YtamlngdjbmndlaaDoor
