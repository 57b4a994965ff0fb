/- Lists of waiters: the functions of a ring. -/
import Derived.Deep.CutBlock
import Derived.Test.YteecgieigjfjiaaProg
import Derived.Test.YteecgieigjfjiaaW4
import Derived.Test.YteecgieigjfjiaaW5
import Derived.Test.YteecgieigjfjiaaMake
namespace Go.Proofs.Yteecgieigjfjiaa
open Go.RowKit Go.Gr Go.Wl
set_option linter.unusedVariables false
set_option linter.unusedSimpArgs false
attribute [local go_sem] rdOp rdAt rdUpon Cls forall_fr
/-- ring number s of block gr is r -/
structure Ring (w : World) (gr off s : Nat) (R : List Rg) (r : Rg) : Prop where
  B : Blk w gr 66 (cellsR R)
  L : LenR R
  S : R[s]? = some r
  O : off = s * 67
  ok : r.ok
theorem Ring.own64 {w : World} {gr off s : Nat} {R : List Rg} {r : Rg} (h : Ring w gr off s R r) : r.own.length = 64 := h.ok.len
theorem Ring.lim {w : World} {gr off s : Nat} {R : List Rg} {r : Rg} (h : Ring w gr off s R r) : w.cell? ⟨gr, off, none⟩ = some (.int .i64 r.lim) := by
  rw [h.O, h.B.cell]; exact cellsR_lim h.L h.S
theorem Ring.own {w : World} {gr off s : Nat} {R : List Rg} {r : Rg} (h : Ring w gr off s R r) {j : Nat} (hj : j < 64) : w.cell? ⟨gr, off + 1 + j, none⟩ = some (.int .u32 (r.own.getD j 0)) := by
  rw [h.O, h.B.cell, Nat.add_assoc, cellsR_own h.L h.S (by rw [h.own64]; exact hj), List.getD_eq_getElem?_getD, List.getElem?_eq_getElem (by rw [h.own64]; exact hj)]
  rfl
theorem Ring.first {w : World} {gr off s : Nat} {R : List Rg} {r : Rg} (h : Ring w gr off s R r) : w.cell? ⟨gr, off + 65, none⟩ = some (.int .i64 r.first) := by
  rw [h.O, h.B.cell]; exact cellsR_first h.L h.S
theorem Ring.many {w : World} {gr off s : Nat} {R : List Rg} {r : Rg} (h : Ring w gr off s R r) : w.cell? ⟨gr, off + 66, none⟩ = some (.int .i64 r.many) := by
  rw [h.O, h.B.cell]; exact cellsR_many h.L h.S
theorem Ring.ext {w w' : World} {gr off s : Nat} {R : List Rg} {r : Rg} (h : Ring w gr off s R r) (k : Ext w w') : Ring w' gr off s R r := ⟨h.B.ext k, h.L, h.S, h.O, h.ok⟩
theorem Ring.many64 {w : World} {gr off s : Nat} {R : List Rg} {r : Rg} (h : Ring w gr off s R r) : r.many ≤ 64 := Nat.le_trans h.ok.mny h.ok.lim
theorem Ring.slt {w : World} {gr off s : Nat} {R : List Rg} {r : Rg} (h : Ring w gr off s R r) : off + 67 ≤ (cellsR R).length := by
  have := (List.getElem?_eq_some_iff.1 h.S).1
  rw [h.O, cellsR_len h.L]
  omega
theorem at_any {w : World} {gr off s : Nat} {R : List Rg} {r : Rg} (h : Ring w gr off s R r) (j : Nat) (hj : j < 1000) : Calls Try.prog 38 #[.pointer (some ⟨gr, off, none⟩), .int .i64 j] w fun e w' => e = .returned (.int .i64 (r.at_ j)) ∧ w = w' := by
  have h1 := h.first
  have hf := h.ok.fst
  have hlt := h.B.lt
  have hw : IntKind.i64.wrap ((r.first : Int) + (j : Int)) = (r.first : Int) + (j : Int) := IntWalk.i64_in _ (by omega)
  have hm : ((r.first : Int) + (j : Int)).tmod 64 = ((r.at_ j : Nat) : Int) := by rw [Int.tmod_eq_emod_of_nonneg (by omega)]; unfold Rg.at_; omega
  clear h
  go_enter Try.func38, Try.ntmps38
  go_wp2_with fail
  go_ret
  exact ⟨rfl, rfl⟩
set_option maxRecDepth 100000 in
theorem find_any {w : World} {gr off s : Nat} {R : List Rg} {r : Rg} (h : Ring w gr off s R r) (o : Int) : Calls Try.prog 25 #[.pointer (some ⟨gr, off, none⟩), .int .u32 o] w fun e w' => e = .returned (.int .i64 (fnd r.ws o)) ∧ Ext w w' := by
  have h1 := h.many
  have hlt := h.B.lt
  have hm64 := h.many64
  have H := hide h
  clear h
  go_enter Try.func25, Try.ntmps25
  go_wp2_with fail
  clear h1 hlt
  go_loopw [10] (fun i wr => ∃ k : Nat, i = .int .i64 k ∧ k ≤ r.many ∧ (∀ j, j < k → r.ws[j]? ≠ some o) ∧ Hid (Ext w wr)) (fun i _ => r.many - (intOf i).toNat)
  case atStart => exact ⟨0, rfl, by omega, fun j hj => by omega, hide (Ext.refl w)⟩
  case round =>
    obtain ⟨k, rfl, hk, hno, HX⟩ := hrel
    have HNO := hide hno
    clear hno
    by_cases hlt : k < r.many
    · have hki : (k : Int) < (r.many : Int) := by omega
      have hat := r.at_lt k
      have hati : ((r.at_ k : Nat) : Int) < 64 := by omega
      have hws := r.ws_get hlt
      have HD := hide (HX.out.drew)
      obtain ⟨x, HXx⟩ : ∃ x, Hid (r.own.getD (r.at_ k) 0 = x) := ⟨_, hide rfl⟩
      have c1 := (H.out.ext HD.out).own hat
      rw [HXx.out] at c1 hws
      have HWS := hide hws
      clear hws
      have hl2 := (H.out.ext HD.out).B.lt
      go_upto_region 4 with fail
      refine wp_region_wm [0, 1, 2, 4, 5, 8, 3, 6, 7, 9] (by kernel_rfl) (by kernel_rfl) (by kernel_rfl) (by kernel_rfl) ?_
      generalize wr.drew = wd at *
      by_cases hxo : x = o
      · have e1 : (x == o) = true := beq_iff_eq.2 hxo
        have HE := hide (fnd_some (hxo ▸ HWS.out) HNO.out)
        clear hxo
        iterate 6 (refine wm_rd rfl rfl (fun K hK => ?_); go_simp; refine hK _ ?_; clear hK K)
        refine wm_ext rfl rfl (fun K hK => ?_)
        go_simp
        go_at_call 38
        (with_reducible refine (at_any (H.out.ext HD.out) k (by omega)).mono ?_)
        rintro e w2 ⟨rfl, rfl⟩
        refine hK _ _ (Ext.refl _) ?_
        clear hK K
        iterate 1 (refine wm_rd rfl rfl (fun K hK => ?_); go_simp; refine hK _ ?_; clear hK K)
        refine wm_ld1 rfl rfl 23 (.tmp 19) rfl rfl c1 _ Try.underlying23 rfl ?_
        iterate 1 (refine wm_rd rfl rfl (fun K hK => ?_); go_simp; refine hK _ ?_; clear hK K)
        refine wm_nil ?_
        go_wp2_with fail
        go_ret
        exact ⟨by rw [HE.out]; rfl, HD.out⟩
      · have e1 : (x == o) = false := beq_eq_false_iff_ne.2 hxo
        have HN2 : Hid (∀ j, j < k + 1 → r.ws[j]? ≠ some o) := hide (fun j hj e => by
          rcases Nat.lt_or_ge j k with h | h
          · exact HNO.out j h e
          · obtain rfl : j = k := by omega
            rw [HWS.out] at e
            exact hxo (Option.some.inj e))
        clear hxo
        iterate 6 (refine wm_rd rfl rfl (fun K hK => ?_); go_simp; refine hK _ ?_; clear hK K)
        refine wm_ext rfl rfl (fun K hK => ?_)
        go_simp
        go_at_call 38
        (with_reducible refine (at_any (H.out.ext HD.out) k (by omega)).mono ?_)
        rintro e w2 ⟨rfl, rfl⟩
        refine hK _ _ (Ext.refl _) ?_
        clear hK K
        iterate 1 (refine wm_rd rfl rfl (fun K hK => ?_); go_simp; refine hK _ ?_; clear hK K)
        refine wm_ld1 rfl rfl 23 (.tmp 19) rfl rfl c1 _ Try.underlying23 rfl ?_
        iterate 1 (refine wm_rd rfl rfl (fun K hK => ?_); go_simp; refine hK _ ?_; clear hK K)
        refine wm_nil ?_
        go_wp2_with fail
        go_roundw
        case rel => exact ⟨k + 1, by go_num, by omega, HN2.out, HD⟩
        case measure => simp [intOf]; omega
    · have hki : ¬ (k : Int) < (r.many : Int) := by omega
      have HE := hide (fnd_none (l := r.ws) (o := o) (fun j hj => HNO.out j (by rw [r.ws_length] at hj; omega)))
      go_wp2_with fail
      go_ret
      exact ⟨by rw [HE.out]; rfl, HX.out⟩
theorem push_any {w : World} {gr off s : Nat} {R : List Rg} {r : Rg} (h : Ring w gr off s R r) (o : Int) (hm : r.many < 64) : Calls Try.prog 26 #[.pointer (some ⟨gr, off, none⟩), .int .u32 o] w fun e w' => e = .returned (.tuple #[]) ∧ Blk w' gr 66 (cellsR (R.set s (r.push o))) ∧ Upd gr w w' := by
  have hlt := h.B.lt
  have hat := r.at_lt r.many
  have hati : ((r.at_ r.many : Nat) : Int) < 64 := by omega
  have H := hide h
  have HS := Sep.start (A := As.blk gr 66 (cellsR R)) h.B
  have HP : Hid (((cellsR R).set (off + 1 + r.at_ r.many) (.int .u32 o)).set (off + 66) (.int .i64 ((r.many : Int) + 1)) = cellsR (R.set s (r.push o))) := hide (by
    have hs := (List.getElem?_eq_some_iff.1 h.S).1
    rw [h.O, Nat.add_assoc, cellsR_set_own h.L h.S hat, show (r.many : Int) + 1 = ((r.many + 1 : Nat) : Int) by omega,
      cellsR_set_many (h.L.set s (by simp [h.own64])) (List.getElem?_set_self hs), List.set_set]
    rfl)
  have c1 := (h.ext ((Ext.refl w).drew)).many
  have HM : Hid (∀ w' : World, w'.cell? ⟨gr, off + 66, none⟩ = ((cellsR R).set (off + 1 + r.at_ r.many) (.int .u32 o))[off + 66]? → w'.cell? ⟨gr, off + 66, none⟩ = some (.int .i64 r.many)) := hide (fun w' e => by
    rw [e, List.getElem?_set_ne (by omega), ← h.B.cell]; exact h.many)
  have hsl := h.slt
  clear h
  go_enter Try.func26, Try.ntmps26
  go_upto_region 0 with fail
  refine wp_region_wtR (RT.fr No) 11 [0, 1, 2, 3, 4, 5, 7, 8, 9, 6, 10] (by kernel_rfl) (by kernel_rfl) (by kernel_rfl) ?_
  have H1 := HS.drew
  have HR := hide (H.out.ext ((Ext.refl w).drew))
  clear HS
  have hx : Ext w w.drew := (Ext.refl w).drew
  generalize w.drew = wd at *
  iterate 5 (refine wr_rd rfl rfl (fun K hK => ?_); go_simp; refine hK _ ?_; clear hK K)
  refine wr_ld1 rfl rfl 3 (.tmp 8) rfl rfl (fun w' h => Fr.cell h c1 (fun h => h)) _ Try.underlying3 rfl ?_
  iterate 3 (refine wr_rd rfl rfl (fun K hK => ?_); go_simp; refine hK _ ?_; clear hK K)
  refine wr_ext rfl rfl (fun K hK => ?_)
  go_simp
  go_at_call 38
  (with_reducible refine (at_any HR.out r.many (by omega)).mono ?_)
  rintro e w2 ⟨rfl, rfl⟩
  refine hK _ _ (Fr.refl _ _) ?_
  clear hK K
  iterate 1 (refine wr_rd rfl rfl (fun K hK => ?_); go_simp; refine hK _ ?_; clear hK K)
  refine wr_nil ?_
  simp only [List.drop_succ_cons, List.drop_zero]
  refine wpList_st1S [] H1 rfl 23 (.tmp 14) (.tmp 11) rfl (v := .int .u32 o) rfl rfl (by kernel_rfl) (by omega) rfl ?_
  intro w3 H3
  dsimp only [List.nil_append] at H3
  clear H1 c1
  refine NoPanic.normal ?_
  have hB3 := H3.blk (g := gr) (e := 66) (List.Mem.head _)
  have c3 := HM.out w3 (hB3.cell (off + 66))
  have hlt3 := hB3.lt
  have hwm : IntKind.i64.wrap ((r.many : Int) + 1) = (r.many : Int) + 1 := IntWalk.i64_in _ (by omega)
  have tok : True := trivial
  go_wp2_with (have zz := tok; clear zz tok; refine wpList_st1S [] H3 rfl 3 (.tmp 21) (.tmp 19) rfl (v := .int .i64 ((r.many : Int) + 1)) rfl rfl (by kernel_rfl) (by rw [List.length_set]; omega) rfl ?_; intro w4 H4; dsimp only [List.nil_append] at H4; have K4 := hide H4; clear H4)
  go_end0
  have H4 := K4.out
  rw [HP.out] at H4
  exact ⟨rfl, H4.blk (List.Mem.head _), H4.toUpd⟩
end Go.Proofs.Yteecgieigjfjiaa
