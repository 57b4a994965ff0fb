/- Venues: Check, Seats, Place, by the reference. -/
import Derived.Test.YtkhinagagncblaaDoorB2
import Derived.Test.YtkhinagagncblaaDoorJoin
namespace Go.Proofs.YtkhinagagncblaaDoor
open Go.RowKit Go.Gr Go.Ad
set_option linter.unusedVariables false
set_option linter.unusedSimpArgs false
attribute [local go_sem] rdOp rdAt rdUpon Cls forall_fr
theorem nilM_form' {w0 w : World} {v : Value} {rows : List (List Value)} {L : List As} {e : TypeId} {k : Nat} (h : Sep No w0 w (As.ownM e k v rows :: L)) : ∃ B c, v = .slice B rows.length c ∧ rows.length ≤ c := by
  obtain ⟨B, c, e, _, hc, _⟩ := (h.ownsM (List.Mem.head _)).form
  exact ⟨B, c, e, hc⟩
set_option maxRecDepth 100000 in
set_option maxHeartbeats 8000000 in
theorem ref_check (v : Vn) (A : Option Addr) (c : Nat) (w : World) (h : Secs w A v.secs) (hc : v.secs.length ≤ c) (hw : VnW v) :
    Calls Tryd.prog 52 #[.agg #[.int .i64 v.sh, .int .i64 v.ttl, .int .i64 v.ses, .slice A v.secs.length c]] w fun e w' => e = .returned (.tuple #[.int .i64 (chk v).1, .int .i64 (chk v).2]) ∧ Ext w w' := by
  have HS := hide (fun (y : World) (k : Ext w y) => h.ext k)
  have HC := hide hc
  have HW := hide hw
  clear h hc hw
  have K0 := (Sep.refl No w).add 24 [.int .i64 v.sh, .int .i64 v.ttl, .int .i64 v.ses, .slice A v.secs.length c]
  go_enter Tryd.func52, Tryd.ntmps52
  go_upto_region 1 with fail
  generalize w.alloc _ = w1 at K0 ⊢
  generalize w.heap.size = g1 at K0 ⊢
  obtain ⟨c0, c1, c2, c3, cz⟩ := blk4 (K0.blk (List.Mem.head _))
  have KK := hide K0
  clear K0
  go_wp2_with fail
  (with_reducible refine (within_any _ _ _ _).mono ?_)
  rintro e w2 ⟨rfl, rfl⟩
  cases h1 : outB v.sh 1 16
  rotate_left
  · have HE := hide (chk_head (v := v) (by unfold headE; rw [h1]; simp))
    go_wp2_with fail
    refine bodyPost_ret (results_tmp2 rfl _ _ _) rfl ?_
    exact ⟨by rw [HE.out]; rfl, KK.out.toExt⟩
  go_wp2_with fail
  (with_reducible refine (within_any _ _ _ _).mono ?_)
  rintro e w3 ⟨rfl, rfl⟩
  cases h2 : outB v.ttl 1 1000000000
  rotate_left
  · have HE := hide (chk_head (v := v) (by unfold headE; rw [h1, h2]; simp))
    go_wp2_with fail
    refine bodyPost_ret (results_tmp2 rfl _ _ _) rfl ?_
    exact ⟨by rw [HE.out]; rfl, KK.out.toExt⟩
  go_wp2_with fail
  (with_reducible refine (within_any _ _ _ _).mono ?_)
  rintro e w4 ⟨rfl, rfl⟩
  cases h3 : outB v.ses 1 1000000000
  rotate_left
  · have HE := hide (chk_head (v := v) (by unfold headE; rw [h1, h2, h3]; simp))
    go_wp2_with fail
    refine bodyPost_ret (results_tmp2 rfl _ _ _) rfl ?_
    exact ⟨by rw [HE.out]; rfl, KK.out.toExt⟩
  have HH : Hid (headE v = false) := hide (by unfold headE; rw [h1, h2, h3]; rfl)
  clear h1 h2 h3
  by_cases h0 : v.secs.length = 0
  · have e1 : ((v.secs.length : Int) == 0) = true := by rw [h0]; rfl
    have HE := hide (chk_empty HH.out h0)
    clear h0
    go_wp2_with fail
    refine bodyPost_ret (results_tmp2 rfl _ _ _) rfl ?_
    exact ⟨by rw [HE.out]; rfl, KK.out.toExt⟩
  have e1 : ((v.secs.length : Int) == 0) = false := beq_eq_false_iff_ne.2 (by omega)
  by_cases h8 : 8 < v.secs.length
  · have e2 : (8 : Int) < (v.secs.length : Int) := by omega
    have HE := hide (chk_many HH.out h0 h8)
    clear h0 h8
    go_wp2_with fail
    refine bodyPost_ret (results_tmp2 rfl _ _ _) rfl ?_
    exact ⟨by rw [HE.out]; rfl, KK.out.toExt⟩
  have e2 : ¬ (8 : Int) < (v.secs.length : Int) := by omega
  have HE := hide (chk_go HH.out h0 h8)
  have H8 : Hid (v.secs.length ≤ 8) := hide (by omega)
  clear h0 h8 HH
  go_wp2_with fail
  clear c0 c1 c2 c3 cz
  go_loopw [4] (fun v4 wr => ∃ i : Nat, v4 = .int .i64 i ∧ i ≤ v.secs.length ∧ Hid (∀ s ∈ v.secs.take i, ScOk s) ∧ Hid (secsGo (v.secs.take i) (v.secs.drop i) = secsGo [] v.secs) ∧ Hid (Sep No w wr [As.blk g1 24 [.int .i64 v.sh, .int .i64 v.ttl, .int .i64 v.ses, .slice A v.secs.length c]])) (fun v4 _ => v.secs.length - (intOf v4).toNat)
  case atStart => exact ⟨0, rfl, by omega, hide (by simp), hide rfl, KK⟩
  case round =>
    obtain ⟨i, rfl, hi, HO, HG, K1⟩ := hrel
    clear KK
    have hi8 : i ≤ 8 := by have := H8.out; omega
    obtain ⟨c0, c1, c2, c3, cz⟩ := blk4 (K1.out.blk (List.Mem.head _))
    by_cases hlt : i < v.secs.length
    · have hli : (i : Int) < (v.secs.length : Int) := by omega
      obtain ⟨s, hs⟩ : ∃ s, v.secs[i]? = some s := ⟨_, List.getElem?_eq_getElem hlt⟩
      have HSI := hide hs
      have HLT := hide hlt
      have HSE := hide (ref_section v A c i s wr (HS.out _ K1.out.toExt) HC.out (by have := H8.out; omega) HW.out hs)
      clear hs hlt
      go_wp2_with fail
      (with_reducible refine HSE.out.mono ?_)
      rintro e w5 ⟨rfl, hx⟩
      have K2 := hide (K1.out.ext hx)
      clear c0 c1 c2 c3 cz hx HSE K1
      by_cases he : secE (v.secs.take i) s = 0
      · have HST := hide (go_step HSI.out he)
        have HO2 := hide (take_all HSI.out HO.out (secE_zero he))
        rw [he]
        go_wp2_with fail
        go_roundw
        case rel => exact ⟨i + 1, by go_num, HLT.out, HO2, hide (HST.out.symm.trans HG.out), K2⟩
        case measure => have := HLT.out; simp [intOf]; omega
      · have HSP := hide (go_stop HSI.out he)
        have e3 : (secE (v.secs.take i) s != 0) = true := bne_iff_ne.2 he
        have HE2 : Hid (chk v = ((i : Int), secE (v.secs.take i) s)) := hide (by rw [HE.out, ← HG.out, HSP.out])
        clear he
        go_wp2_with fail
        refine bodyPost_ret (results_tmp2 rfl _ _ _) rfl ?_
        exact ⟨by rw [HE2.out]; rfl, K2.out.toExt⟩
    · obtain rfl : i = v.secs.length := by omega
      have hli : ¬ (v.secs.length : Int) < (v.secs.length : Int) := by omega
      have HG2 : Hid (secsGo [] v.secs = none) := hide (by rw [← HG.out, List.drop_of_length_le (Nat.le_refl _)]; rfl)
      have HO2 : Hid (∀ s ∈ v.secs, ScOk s) := hide (by have := HO.out; rwa [List.take_of_length_le (Nat.le_refl _)] at this)
      have HP := hide (ref_places v A c wr (HS.out _ K1.out.toExt) HC.out H8.out HO2.out)
      clear hlt HO
      go_wp2_with fail
      (with_reducible refine HP.out.mono ?_)
      rintro e w5 ⟨v', rfl, hS⟩
      have hx := hS.toExt
      obtain ⟨B, bc, rfl, _⟩ := nilM_form' hS
      rw [plV_len, places_len]
      have K2 := hide (K1.out.ext hx)
      clear hS hx HP K1 c0 c1 c2 c3 cz
      by_cases h4 : 4096 < sumS v.secs
      · have e3 : (4096 : Int) < ((sumS v.secs : Nat) : Int) := by omega
        have HE2 : Hid (chk v = (-1, 3)) := hide (by rw [HE.out, HG2.out]; show (if 4096 < sumS v.secs then _ else _) = _; rw [if_pos h4])
        clear h4
        go_wp2_with fail
        refine bodyPost_ret (results_tmp2 rfl _ _ _) rfl ?_
        exact ⟨by rw [HE2.out]; rfl, K2.out.toExt⟩
      · have e3 : ¬ (4096 : Int) < ((sumS v.secs : Nat) : Int) := by omega
        have HE2 : Hid (chk v = (0, 0)) := hide (by rw [HE.out, HG2.out]; show (if 4096 < sumS v.secs then _ else _) = _; rw [if_neg h4])
        clear h4
        go_wp2_with fail
        refine bodyPost_ret (results_tmp2 rfl _ _ _) rfl ?_
        exact ⟨by rw [HE2.out]; rfl, K2.out.toExt⟩
end Go.Proofs.YtkhinagagncblaaDoor
