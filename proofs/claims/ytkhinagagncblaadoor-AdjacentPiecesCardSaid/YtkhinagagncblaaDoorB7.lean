/- Seats side by side: Choices, and lists that are equal, by the reference. -/
import Derived.Test.YtkhinagagncblaaDoorB6
import Derived.Test.YtkhinagagncblaaDoorEqs
namespace Go.Proofs.YtkhinagagncblaaDoor
open Go.RowKit Go.Gr Go.Ad
set_option linter.unusedVariables false
set_option linter.unusedSimpArgs false
attribute [local go_sem] rdOp rdAt rdUpon Cls forall_fr
set_option maxRecDepth 100000 in
set_option maxHeartbeats 4000000 in
theorem rad_Choices (v : Vn) (A : Option Addr) (c : Nat) (f : List Bool) (F : Option Addr) (d : Nat) (s n : Int) (w : World) (h : Secs w A v.secs) (hc : v.secs.length ≤ c) (hw : VnW v)
    (hF : Rd w F (bls f)) (hd : f.length ≤ d) :
    Calls Tryd.prog 16 #[.agg #[.int .i64 v.sh, .int .i64 v.ttl, .int .i64 v.ses, .slice A v.secs.length c], .slice F f.length d, .int .i64 s, .int .i64 n] w fun e w' =>
      ∃ v', e = .returned (.tuple #[v', .int .i64 (cE v f.length s n)]) ∧ Sep No w w' [As.own 3 v' (i64s (cR v f s n))] := by
  have HQ := hide (fun (y : World) (k : Ext w y) => rad_check v A c F f.length d s y (h.ext k) hc hw)
  have HR := hide (fun (y : World) (k : Ext w y) (hq : qE v f.length s = 0) (n : Nat) (h1 : 1 ≤ n) (h2 : n ≤ 64) => rad_choices v A c f F d n s y (h.ext k) hc hw (hF.ext k) hd hq h1 h2)
  clear h hc hw hF hd
  have K0 := (Sep.refl No w).add 24 [.int .i64 v.sh, .int .i64 v.ttl, .int .i64 v.ses, .slice A v.secs.length c]
  go_enter Tryd.func16, Tryd.ntmps16
  go_wp2_with fail
  (with_reducible refine (HQ.out _ K0.toExt).mono ?_)
  rintro e w1 ⟨rfl, hx⟩
  have K1 := hide (K0.ext hx)
  clear K0 hx HQ
  obtain ⟨c0, c1, c2, c3, cz⟩ := blk4 (K1.out.blk (List.Mem.head _))
  by_cases hq : qE v f.length s = 0
  rotate_left
  · have HE : Hid (cE v f.length s n = qE v f.length s) := hide (by unfold cE; rw [if_pos hq])
    have HL : Hid (cR v f s n = []) := hide (by unfold cR; rw [HE.out, if_neg hq])
    have e1 : (qE v f.length s != 0) = true := bne_iff_ne.2 hq
    have e2 : (qE v f.length s == 0) = false := beq_eq_false_iff_ne.2 hq
    clear hq HR
    go_wp2_with fail
    refine bodyPost_ret (results_tmp2 rfl _ _ _) rfl ?_
    refine ⟨.slice none 0 0, by rw [HE.out]; rfl, ?_⟩
    rw [HL.out]; exact (K1.out.tail).nilO _
  by_cases h1 : n < 1
  · have ho : outB n 1 8 = true := by unfold outB; rw [decide_eq_true h1]; rfl
    have HE : Hid (cE v f.length s n = 7) := hide (by unfold cE; rw [if_neg (by simpa using hq), if_pos ho])
    have HL : Hid (cR v f s n = []) := hide (by unfold cR; rw [HE.out]; rfl)
    rw [hq]
    clear hq HR ho
    go_wp2_with fail
    refine bodyPost_ret (results_tmp2 rfl _ _ _) rfl ?_
    refine ⟨.slice none 0 0, by rw [HE.out]; rfl, ?_⟩
    rw [HL.out]; exact (K1.out.tail).nilO _
  by_cases h8 : 8 < n
  · have ho : outB n 1 8 = true := by unfold outB; rw [decide_eq_true h8, Bool.or_true]
    have HE : Hid (cE v f.length s n = 7) := hide (by unfold cE; rw [if_neg (by simpa using hq), if_pos ho])
    have HL : Hid (cR v f s n = []) := hide (by unfold cR; rw [HE.out]; rfl)
    rw [hq]
    clear hq HR ho
    go_wp2_with fail
    refine bodyPost_ret (results_tmp2 rfl _ _ _) rfl ?_
    refine ⟨.slice none 0 0, by rw [HE.out]; rfl, ?_⟩
    rw [HL.out]; exact (K1.out.tail).nilO _
  obtain ⟨n, rfl⟩ : ∃ k : Nat, n = k := ⟨n.toNat, by omega⟩
  have ho : ¬ outB (n : Int) 1 8 = true := by unfold outB; rw [decide_eq_false h1, decide_eq_false h8]; simp
  have HE : Hid (cE v f.length s n = 0) := hide (by unfold cE; rw [if_neg (by simpa using hq), if_neg ho])
  have HL : Hid (cR v f s n = fsts (chs (runsOf v f s) n)) := hide (by unfold cR; rw [HE.out]; unfold cL fsts; rw [Int.toNat_natCast]; rfl)
  have HRR := hide (HR.out w1 K1.out.toExt hq n (by omega) (by omega))
  rw [hq]
  clear hq HR ho
  go_wp2_with fail
  (with_reducible refine HRR.out.mono ?_)
  rintro e w2 ⟨v', rfl, hS⟩
  have K2 := hide ((K1.out.joinW hS).sub (List.Sublist.cons_cons _ (List.nil_sublist _)))
  clear HRR hS
  go_wp2_with fail
  refine bodyPost_ret (results_tmp2 rfl _ _ _) rfl ?_
  refine ⟨v', by rw [HE.out]; rfl, ?_⟩
  rw [HL.out]; exact K2.out
set_option maxHeartbeats 4000000 in
theorem ints_same (l : List Int) (A B : Option Addr) (c d : Nat) (w : World) (hA : Rd w A (i64s l)) (hB : Rd w B (i64s l)) (hc : l.length ≤ c) (hd : l.length ≤ d) (hl : l.length ≤ 100000000) :
    Calls Tryd.prog 18 #[.slice A l.length c, .slice B l.length d] w fun e w' => e = .returned (.bool true) ∧ Ext w w' := by
  have HA := hide (fun (y : World) (k : Ext w y) => hA.ext k)
  have HB := hide (fun (y : World) (k : Ext w y) => hB.ext k)
  have HLB := hide hl
  clear hA hB hl
  go_enter Tryd.func18, Tryd.ntmps18
  go_wp2_with fail
  go_loopw [5] (fun v5 wr => ∃ i : Nat, v5 = .int .i64 i ∧ i ≤ l.length ∧ Hid (Ext w wr)) (fun v5 _ => l.length - (intOf v5).toNat)
  case atStart => exact ⟨0, rfl, by omega, hide (Ext.refl w)⟩
  case round =>
    obtain ⟨i, rfl, hi, HX⟩ := hrel
    have hib : i ≤ 100000000 := by have := HLB.out; omega
    by_cases hlt : i < l.length
    · have hli : (i : Int) < (l.length : Int) := by omega
      have hic : (i : Int) < (c : Int) := by omega
      have hid : (i : Int) < (d : Int) := by omega
      obtain ⟨x, hx⟩ : ∃ x, l[i] = x := ⟨_, rfl⟩
      have HXX := hide (fun (y : World) (k : Ext w y) => i64s_at (HA.out y k) hlt)
      have HYY := hide (fun (y : World) (k : Ext w y) => i64s_at (HB.out y k) hlt)
      rw [hx] at HXX HYY
      obtain ⟨ad, rfl, _⟩ := HXX.out _ HX.out
      obtain ⟨bd, rfl, _⟩ := HYY.out _ HX.out
      have HLT := hide hlt
      clear hx hlt
      go_upto_region 6 with fail
      refine wp_region_wm [0, 1, 2, 3, 4, 5, 6, 7, 8] (by kernel_rfl) (by kernel_rfl) (by kernel_rfl) (by kernel_rfl) ?_
      have HD := hide (HX.out.trans ((Ext.refl wr).drew))
      clear HX
      generalize World.drew _ = wd at *
      obtain ⟨_, e1, y0⟩ := HXX.out _ HD.out
      cases e1
      obtain ⟨_, e2, y1⟩ := HYY.out _ HD.out
      cases e2
      iterate 3 (refine wm_rd rfl rfl (fun K hK => ?_); go_simp; refine hK _ ?_; clear hK K)
      refine wm_ld1 rfl rfl 3 (.tmp 19) rfl rfl y0 _ Tryd.underlying3 rfl ?_
      iterate 3 (refine wm_rd rfl rfl (fun K hK => ?_); go_simp; refine hK _ ?_; clear hK K)
      refine wm_ld1 rfl rfl 3 (.tmp 23) rfl rfl y1 _ Tryd.underlying3 rfl ?_
      have e3 : (x != x) = false := bne_self_eq_false x
      iterate 1 (refine wm_rd rfl rfl (fun K hK => ?_); go_simp; refine hK _ ?_; clear hK K)
      refine wm_nil ?_
      clear y0 y1
      go_wp2_with fail
      go_roundw
      case rel => exact ⟨i + 1, by go_num, HLT.out, HD⟩
      case measure => have := HLT.out; simp [intOf]; omega
    · have hli : ¬ (i : Int) < (l.length : Int) := by omega
      obtain rfl : i = l.length := by omega
      clear hlt
      go_wp2_with fail
      go_ret
      exact ⟨rfl, HX.out⟩
set_option maxHeartbeats 4000000 in
theorem runs_same (l : List Run) (A B : Option Addr) (c d : Nat) (w : World) (hA : OwnM w 47 3 (.slice A l.length c) (runV l)) (hB : RdM w B 3 (runV l)) (hd : l.length ≤ d) (hl : l.length ≤ 100000000) :
    Calls Tryd.prog 17 #[.slice A l.length c, .slice B l.length d] w fun e w' => e = .returned (.bool true) ∧ Ext w w' := by
  have HA := hide (fun (y : World) (k : Ext w y) => hA.ext k)
  have HB := hide (fun (y : World) (k : Ext w y) => hB.ext k)
  have HLB := hide hl
  clear hA hB hl
  go_enter Tryd.func17, Tryd.ntmps17
  go_wp2_with fail
  go_loopw [5] (fun v5 wr => ∃ i : Nat, v5 = .int .i64 i ∧ i ≤ l.length ∧ Hid (Ext w wr)) (fun v5 _ => l.length - (intOf v5).toNat)
  case atStart => exact ⟨0, rfl, by omega, hide (Ext.refl w)⟩
  case round =>
    obtain ⟨i, rfl, hi, HX⟩ := hrel
    have hib : i ≤ 100000000 := by have := HLB.out; omega
    by_cases hlt : i < l.length
    · have hli : (i : Int) < (l.length : Int) := by omega
      have hid : (i : Int) < (d : Int) := by omega
      obtain ⟨x, hx⟩ : ∃ x, l[i]? = some x := ⟨_, List.getElem?_eq_getElem hlt⟩
      obtain ⟨g, c', e1, hc', _⟩ := (HA.out _ HX.out).at5 (by decide) (runV_at hx)
      rw [runV_len] at e1 hc'
      simp only [Value.slice.injEq, true_and] at e1
      obtain ⟨rfl, rfl⟩ := e1
      obtain ⟨g2, off2, rfl, _⟩ := (HB.out _ HX.out).at5 (fun r hr => by obtain ⟨y, _, rfl⟩ := List.mem_map.1 hr; exact (by decide : 0 < 3)) (runV_at hx)
      have hic : (i : Int) < (c : Int) := by omega
      have HXX := hide (fun (y : World) (k : Ext w y) => (HA.out y k).at5 (by decide) (runV_at hx))
      have HYY := hide (fun (y : World) (k : Ext w y) => (HB.out y k).at5 (fun r hr => by obtain ⟨y, _, rfl⟩ := List.mem_map.1 hr; exact (by decide : 0 < 3)) (runV_at hx))
      have HLT := hide hlt
      clear hx hlt
      go_upto_region 6 with fail
      refine wp_region_wm [0, 1, 2, 3, 4, 5, 6, 7, 8] (by kernel_rfl) (by kernel_rfl) (by kernel_rfl) (by kernel_rfl) ?_
      have HD := hide (HX.out.trans ((Ext.refl wr).drew))
      clear HX
      generalize World.drew _ = wd at *
      obtain ⟨_, _, e1, _, y0⟩ := HXX.out _ HD.out
      rw [runV_len] at e1
      cases e1
      obtain ⟨_, _, e2, y1⟩ := HYY.out _ HD.out
      cases e2
      iterate 3 (refine wm_rd rfl rfl (fun K hK => ?_); go_simp; refine hK _ ?_; clear hK K)
      refine wm_ldX rfl rfl 47 (.tmp 19) rfl y0 rfl _ Tryd.underlying47 rfl (by kernel_rfl) ?_
      iterate 3 (refine wm_rd rfl rfl (fun K hK => ?_); go_simp; refine hK _ ?_; clear hK K)
      refine wm_ldX rfl rfl 47 (.tmp 23) rfl y1 rfl _ Tryd.underlying47 rfl (by kernel_rfl) ?_
      clear y0 y1
      dsimp only [runC]
      iterate 1 (refine wm_rd rfl rfl (fun K hK => ?_); go_simp; refine hK _ ?_; clear hK K)
      refine wm_nil ?_
      go_wp2_with fail
      go_roundw
      case rel => exact ⟨i + 1, by go_num, HLT.out, HD⟩
      case measure => have := HLT.out; simp [intOf]; omega
    · have hli : ¬ (i : Int) < (l.length : Int) := by omega
      obtain rfl : i = l.length := by omega
      clear hlt
      go_wp2_with fail
      go_ret
      exact ⟨rfl, HX.out⟩
end Go.Proofs.YtkhinagagncblaaDoor
