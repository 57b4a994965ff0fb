/- Hmac: the walk of the reference's Block. -/
import Derived.Test.YtamlngdjbmndlaaDoorH3
import Derived.Test.YtamlngdjbmndlaaDoorH4
import Derived.Test.YtamlngdjbmndlaaDoorS17
namespace Go.Proofs.YtamlngdjbmndlaaDoor
open Go.RowKit Go.Gr
set_option linter.unusedVariables false
set_option linter.unusedSimpArgs false
attribute [local go_sem] rdOp rdAt rdUpon Cls forall_fr
theorem fill_set {d : List Int} {k : Nat} (h : k < d.length) (h64 : k < 64) : (fillB (d.take k) 64).set k d[k] = fillB (d.take (k + 1)) 64 := by
  unfold fillB
  have hk : (d.take k).length = k := by rw [List.length_take]; omega
  have hk1 : (d.take (k + 1)).length = k + 1 := by rw [List.length_take]; omega
  rw [List.set_append_right _ _ (by omega), hk, hk1, Nat.sub_self, show 64 - k = (64 - (k + 1)) + 1 by omega, List.replicate_succ, List.set_cons_zero, List.take_succ_eq_append_getElem h, List.append_assoc, List.singleton_append]
theorem fill_cell {w : World} {g : Nat} {e : TypeId} {l : List Int} (h : Blk w g e (byt (fillB l 64))) (hl : l.length ≤ 64) {k : Nat} (hk : k < 64) : ∃ x, w.cell? ⟨g, k, none⟩ = some (.int .u8 x) := by
  have hlen := fillB_len hl
  exact ⟨(fillB l 64)[k]'(by omega), by rw [h.cell k, byt, List.getElem?_map, List.getElem?_eq_getElem (by omega), Option.map_some]⟩
theorem fill_0 (d : List Int) : byt (fillB (d.take 0) 64) = Z8 64 := by rw [List.take_zero]; rfl
set_option maxRecDepth 100000 in
set_option maxHeartbeats 2000000 in
theorem rmblock_any (l : List Int) (A : Option Addr) (c : Nat) (w : World) (hr : Rd w A (byt l)) (hb : isB l) (hc : l.length ≤ c) (hlen : l.length ≤ 100000) :
    Calls Tryd.prog 90 #[.slice A l.length c] w fun e w' => e = .returned (.agg (byt (keyB l)).toArray) ∧ Ext w w' := by
  have HR := hide hr
  have HB := hide hb
  clear hr hb
  have tok : True := trivial
  have tok2 : True := trivial
  have HKL : Hid ((byt (keyB l)).length = 64) := hide (by rw [byt_length, keyB_len])
  by_cases h64 : 64 < l.length
  · have hd : decide ((64 : Int) < (l.length : Int)) = true := by simp; omega
    have HE : Hid (keyB l = fillB (digest l) 64) := hide (by unfold keyB; rw [if_pos h64])
    have HDL : Hid ((byt (digest l)).length = 32) := hide (by rw [byt_length, digest_len])
    have HDN : Hid ((digest l).length = 32) := hide (digest_len l)
    clear h64
    go_enter Tryd.func90, Tryd.ntmps90
    go_wp2_with (first
      | (have zz := tok; clear zz tok; refine wpList_alS (Sep.refl No w) rfl 121 rfl (Z8 64) (by kernel_rfl) ?_; intro w1 hz1 H1)
      | (have zz := tok2; clear zz tok2; refine wpList_alS H1 rfl 121 rfl (Z8 64) (by kernel_rfl) ?_; intro w2 hz2 H2; rw [hz1] at H2; clear H1))
    (with_reducible refine (rsum_any l A c _ (H2.rdN HR.out) HB.out hc (by omega)).mono ?_)
    rintro e w3 ⟨rfl, hx3⟩
    obtain ⟨d, HD⟩ : ∃ d, Hid (digest l = d) := ⟨_, hide rfl⟩
    rw [HD.out] at HE HDL HDN ⊢
    have H3 := H2.ext hx3
    have hs3 : w.heap.size + 1 < w3.heap.size := (H3.blk (g := w.heap.size + 1) (e := 121) (cs := Z8 64) (List.Mem.head _)).lt
    clear H2 hx3
    have tok3 : True := trivial
    have tok4 : True := trivial
    go_wp2_with (first
      | (have zz := tok3; clear zz tok3; refine wpList_alS H3 rfl 36 rfl (Z8 32) (by kernel_rfl) ?_; intro w4 hz4 H4; clear H3)
      | (have zz := tok4; clear zz tok4; refine wpList_stS [] H4 rfl 36 (.tmp 4) (.tmp 11) rfl rfl (cs := byt d) rfl (by rw [HDL.out]; kernel_rfl) (by rw [HDL.out]; rfl) (byt_one _) ?_; intro w5 H5; dsimp only [List.nil_append] at H5; have K5 := hide H5; clear H4 H5))
    go_loopw [5] (fun i wr => ∃ k : Nat, i = .int .i64 k ∧ k ≤ 32 ∧ Sep No w wr [As.blk w3.heap.size 36 (byt d), As.blk (w.heap.size + 1) 121 (byt (fillB (d.take k) 64)), As.blk w.heap.size 121 (Z8 64)]) (fun i _ => 32 - (intOf i).toNat)
    case atStart => exact ⟨0, rfl, by omega, by rw [fill_0]; exact K5.out⟩
    case round =>
      obtain ⟨k, rfl, hk, H⟩ := hrel
      clear K5
      by_cases hlt : k < 32
      · have hkd : k < d.length := by rw [HDN.out]; exact hlt
        have c1 : wr.cell? ⟨w3.heap.size, k, none⟩ = some (.int .u8 d[k]) := by
          rw [(H.blk (g := w3.heap.size) (e := 36) (cs := byt d) (List.Mem.head _)).cell k, byt, List.getElem?_map, List.getElem?_eq_getElem hkd, Option.map_some]
        obtain ⟨x0, c2⟩ := fill_cell (H.blk (g := w.heap.size + 1) (e := 121) (cs := byt (fillB (d.take k) 64)) (List.Mem.tail _ (List.Mem.head _))) (by rw [List.length_take]; omega) (show k < 64 by omega)
        have hfr := (H.blk (g := w.heap.size + 1) (e := 121) (cs := byt (fillB (d.take k) 64)) (List.Mem.tail _ (List.Mem.head _))).free
        have H2 := Sep.cell (L1 := [As.blk w3.heap.size 36 (byt d)]) H k (.int .u8 d[k])
        dsimp only [List.nil_append, List.cons_append] at H2
        rw [byt_set, fill_set hkd (by omega)] at H2
        have K2 := hide H2
        have hk32 : (k : Int) < 32 := by omega
        have hk64 : (k : Int) < 64 := by omega
        clear H H2
        obtain ⟨y, HY⟩ : ∃ y, Hid (d[k] = y) := ⟨_, hide rfl⟩
        rw [HY.out] at c1 K2
        go_wp2_with fail
        go_roundw
        case rel => exact ⟨k + 1, by go_num, by omega, K2.out⟩
        case measure => simp [intOf]; omega
      · obtain rfl : k = 32 := by omega
        rw [List.take_of_length_le (by rw [HDN.out]; exact Nat.le_refl _), ← HE.out] at H
        have tok5 : True := trivial
        have tok6 : True := trivial
        go_wp2_with (first
          | (have zz := tok5; clear zz tok5; refine wpList_ldS H (List.Mem.tail _ (List.Mem.head _)) rfl 121 (.tmp 3) rfl rfl _ Tryd.underlying121 rfl (by rw [HKL.out]; kernel_rfl) ?_)
          | (have zz := tok6; clear zz tok6; refine wpList_stS [As.blk w3.heap.size 36 (byt d), As.blk (w.heap.size + 1) 121 (byt (keyB l))] H rfl 121 (.tmp 2) (.tmp 21) rfl rfl (cs := byt (keyB l)) rfl (by rw [HKL.out]; kernel_rfl) (by rw [HKL.out]; rfl) (byt_one _) ?_; intro w9 H9; dsimp only [List.nil_append, List.cons_append] at H9))
        have hB := H9.blk (g := w.heap.size) (e := 121) (cs := byt (keyB l)) (List.Mem.tail _ (List.Mem.tail _ (List.Mem.head _)))
        refine bodyPost_ret (v := .agg (byt (keyB l)).toArray) (results_cell_row rfl _ _ w.heap.size 121 (byt (keyB l)).toArray (0, 0) _ rfl hB Tryd.underlying121 rfl (by rw [List.size_toArray, HKL.out]; kernel_rfl)) rfl ⟨rfl, H9.toExt⟩
  · have hd : decide ((64 : Int) < (l.length : Int)) = false := by simp; omega
    have HE : Hid (keyB l = fillB l 64) := hide (by unfold keyB; rw [if_neg h64])
    have hl64 : l.length ≤ 64 := by omega
    clear h64
    go_enter Tryd.func90, Tryd.ntmps90
    go_wp2_with (first
      | (have zz := tok; clear zz tok; refine wpList_alS (Sep.refl No w) rfl 121 rfl (Z8 64) (by kernel_rfl) ?_; intro w1 hz1 H1)
      | (have zz := tok2; clear zz tok2; refine wpList_alS H1 rfl 121 rfl (Z8 64) (by kernel_rfl) ?_; intro w2 hz2 H2; rw [hz1] at H2; have K5 := hide H2; clear H1 H2))
    go_loopw [6] (fun i wr => ∃ k : Nat, i = .int .i64 k ∧ k ≤ l.length ∧ Sep No w wr [As.blk (w.heap.size + 1) 121 (byt (fillB (l.take k) 64)), As.blk w.heap.size 121 (Z8 64)]) (fun i _ => l.length - (intOf i).toNat)
    case atStart => exact ⟨0, rfl, by omega, by rw [fill_0]; exact K5.out⟩
    case round =>
      obtain ⟨k, rfl, hk, H⟩ := hrel
      clear K5
      by_cases hlt : k < l.length
      · obtain ⟨ad, rfl, hc1⟩ := (H.rdN HR.out).at_ (k := k) (by simpa using hlt)
        rw [byt_get hlt] at hc1
        obtain ⟨x0, c2⟩ := fill_cell (H.blk (g := w.heap.size + 1) (e := 121) (cs := byt (fillB (l.take k) 64)) (List.Mem.head _)) (by rw [List.length_take]; omega) (show k < 64 by omega)
        have hfr := (H.blk (g := w.heap.size + 1) (e := 121) (cs := byt (fillB (l.take k) 64)) (List.Mem.head _)).free
        have H2 := Sep.cell (L1 := []) H k (.int .u8 l[k])
        dsimp only [List.nil_append, List.cons_append] at H2
        rw [byt_set, fill_set hlt (by omega)] at H2
        have K2 := hide H2
        have hk64 : (k : Int) < 64 := by omega
        clear H H2
        obtain ⟨y, HY⟩ : ∃ y, Hid (l[k] = y) := ⟨_, hide rfl⟩
        rw [HY.out] at hc1 K2
        go_wp2_with fail
        go_roundw
        case rel => exact ⟨k + 1, by go_num, by omega, K2.out⟩
        case measure => simp [intOf]; omega
      · obtain rfl : k = l.length := by omega
        rw [List.take_of_length_le (Nat.le_refl _), ← HE.out] at H
        have tok5 : True := trivial
        have tok6 : True := trivial
        go_wp2_with (first
          | (have zz := tok5; clear zz tok5; refine wpList_ldS H (List.Mem.head _) rfl 121 (.tmp 3) rfl rfl _ Tryd.underlying121 rfl (by rw [HKL.out]; kernel_rfl) ?_)
          | (have zz := tok6; clear zz tok6; refine wpList_stS [As.blk (w.heap.size + 1) 121 (byt (keyB l))] H rfl 121 (.tmp 2) (.tmp 34) rfl rfl (cs := byt (keyB l)) rfl (by rw [HKL.out]; kernel_rfl) (by rw [HKL.out]; rfl) (byt_one _) ?_; intro w9 H9; dsimp only [List.nil_append, List.cons_append] at H9))
        have hB := H9.blk (g := w.heap.size) (e := 121) (cs := byt (keyB l)) (List.Mem.tail _ (List.Mem.head _))
        refine bodyPost_ret (v := .agg (byt (keyB l)).toArray) (results_cell_row rfl _ _ w.heap.size 121 (byt (keyB l)).toArray (0, 0) _ rfl hB Tryd.underlying121 rfl (by rw [List.size_toArray, HKL.out]; kernel_rfl)) rfl ⟨rfl, H9.toExt⟩
end Go.Proofs.YtamlngdjbmndlaaDoor
