/- Seats side by side: the law AdjacentLeast walked. -/
import Derived.Test.YtkhinagagncblaaDoorC4
import Derived.Test.YtkhinagagncblaaDoorCB
namespace Go.Proofs.YtkhinagagncblaaDoor
open Go.RowKit Go.Gr Go.Ad
set_option linter.unusedVariables false
set_option linter.unusedSimpArgs false
attribute [local go_sem] rdOp rdAt rdUpon Cls forall_fr
theorem blk2 {w : World} {g : Nat} {e : TypeId} {a b : Value} (h : Blk w g e [a, b]) : w.cell? ⟨g, 0, none⟩ = some a ∧ w.cell? ⟨g, 1, none⟩ = some b ∧ g < w.heap.size := ⟨h.cell 0, h.cell 1, h.lt⟩
/-- what a question is asked with -/
abbrev BX (w w' : World) (g g2 : Nat) (v : Vn) (A : Option Addr) (c : Nat) (s n : Int) : Prop := Sep No w w' [As.blk g2 27 [.int .i64 s, .int .i64 n], As.blk g 24 [.int .i64 v.sh, .int .i64 v.ttl, .int .i64 v.ses, .slice A v.secs.length c]]
set_option maxRecDepth 100000 in
set_option maxHeartbeats 8000000 in
theorem least_law (w : World) (_ : True) (v0 : Value) (h0 : ∃ cs, v0 = .agg cs ∧ Lvs Tryd.prog w [.int .i64, .int .i64, .int .i64, .slice 78] cs.toList) (v1 : Value) (h1 : LfOk Tryd.prog w (.slice 4) v1) (v2 : Value) (h2 : ∃ cs, v2 = .agg cs ∧ Lvs Tryd.prog w [.int .i64, .int .i64] cs.toList) : Calls Tryd.prog 5 #[v0, v1, v2] w fun e w' => e = .returned (.bool true) ∧ Ext w w' := by
  obtain ⟨v, A, c, rfl, hS, hc, hw⟩ := venue_arg h0
  obtain ⟨F, f, d, rfl, hF, hd, _⟩ := bools_arg h1
  obtain ⟨s, n, rfl⟩ := ask_arg h2
  clear h0 h1 h2
  have HFAR := hide (fun (y : World) (k : Ext w y) => far19 v A c F f.length d y (hS.ext k) hc hw)
  have HB := hide (fun (y : World) (k : Ext w y) => ad_Best v A c f F d s n y (hS.ext k) hc hw (hF.ext k) hd)
  have HBE := hide (fun (y : World) (k : Ext w y) (i n : Nat) (b : Bool) (hq : qE v f.length s = 0) (h1 : 1 ≤ n) (h2 : n ≤ 64) (hi : i ≤ 100000000) (hb : b = true ↔ inRun v f s i n) => beside_any v A c f F d i n s b y (hS.ext k) hc hw (hF.ext k) hd hq h1 h2 hi hb)
  have HWO := hide (fun (y : World) (k : Ext w y) (i m : Nat) (hi : i + m ≤ f.length) (hl : f.length ≤ 100000000) => lwithout f F d i m y (hF.ext k) hd hi hl)
  have HAL := hide (fun (y : World) (k : Ext w y) (i m : Nat) (hi : i + m ≤ f.length) (hq : qE v f.length s = 0) (F' : Option Addr) (d' : Nat) (hF' : Rd y F' (bls (off f i m))) (hd' : f.length ≤ d') => by
    have e := off_len hi
    have := ad_Alone v A c (off f i m) F' d' s y (h := hS.ext k) hc hw hF' (by rw [e]; exact hd')
    rw [e, hq] at this
    exact this)
  have HF := hide (fun (y : World) (k : Ext w y) => hF.ext k)
  have HD := hide hd
  clear hS hF hw hc hd
  obtain ⟨i0, ki, kz0, kz1, kz2⟩ := info_parts infoB
  have HB1 := hide (bls_one f)
  have HBL : Hid ((bls f).length = f.length) := hide (bls_len f)
  have K0 := ((Sep.refl No w).add2 24 27 [.int .i64 v.sh, .int .i64 v.ttl, .int .i64 v.ses, .slice A v.secs.length c] [.int .i64 s, .int .i64 n])
  go_enter Tryd.func5, Tryd.ntmps5
  go_upto_region 1 with fail
  generalize World.alloc _ _ = w1 at K0 ⊢
  obtain ⟨g, hg⟩ : ∃ g, w.heap.size = g := ⟨_, rfl⟩
  obtain ⟨g2, hg2⟩ : ∃ g2, g + 1 = g2 := ⟨_, rfl⟩
  rw [hg, hg2] at K0 ⊢
  clear hg hg2
  have K1 : Hid (BX w w1 g g2 v A c s n) := hide K0
  clear K0
  obtain ⟨c0, c1, c2, c3, cz⟩ := blk4 (K1.out.blk (e := 24) (List.Mem.tail _ (List.Mem.head _)))
  go_wp2_with fail
  (with_reducible refine (HFAR.out _ K1.out.toExt).mono ?_)
  rintro e w2 ⟨⟨bb, rfl⟩, hx⟩
  have K2 : Hid (BX w w2 g g2 v A c s n) := hide (K1.out.ext hx)
  clear K1 hx HFAR c0 c1 c2 c3 cz
  cases bb
  rotate_left
  · go_wp2_with fail
    (with_reducible refine (awake_any _).mono ?_)
    rintro e w3 ⟨rfl, hx⟩
    go_wp2_with fail
    go_ret
    exact ⟨rfl, K2.out.toExt.trans hx⟩
  obtain ⟨c0, c1, c2, c3, cz⟩ := blk4 (K2.out.blk (e := 24) (List.Mem.tail _ (List.Mem.head _)))
  obtain ⟨a0, a1, az⟩ := blk2 (K2.out.blk (e := 27) (List.Mem.head _))
  go_wp2_with fail
  (with_reducible refine (HB.out _ K2.out.toExt).mono ?_)
  rintro e w3 ⟨rfl, hx⟩
  have K3 : Hid (BX w w3 g g2 v A c s n) := hide (K2.out.ext hx)
  clear K2 hx HB c0 c1 c2 c3 cz a0 a1 az
  by_cases h15 : (bestE v f s n).2 = 15
  · obtain ⟨hz, hn1, hn8, hq, hno⟩ := best_state h15
    rw [hz, h15]
    obtain ⟨n, rfl⟩ : ∃ k : Nat, n = k := ⟨n.toNat, by omega⟩
    rw [Int.toNat_natCast] at hno
    have HFL := hide (show f.length ≤ 100000000 by have := (qE_zero hq).2.2.2.1; have := (qE_zero hq).1.sum; omega)
    have HBS := hide (fun (y : World) (k : Ext w y) (i : Nat) (hi : i ≤ 100000000) => HBE.out y k i n false hq (by omega) (by omega) hi ⟨fun h => (by cases h), fun h => absurd h (hno i)⟩)
    clear hz h15 hn1 hn8 hq hno HBE HWO HAL
    go_wp2_with fail
    go_loopw [9] (fun v9 wr => ∃ i : Nat, v9 = .int .i64 i ∧ i ≤ f.length ∧ Hid (BX w wr g g2 v A c s n)) (fun v9 _ => f.length - (intOf v9).toNat)
    case atStart => exact ⟨0, rfl, by omega, K3⟩
    case round =>
      obtain ⟨i, rfl, hi, K4⟩ := hrel
      clear K3
      have hib : i ≤ 100000000 := by have := HFL.out; omega
      obtain ⟨c0, c1, c2, c3, cz⟩ := blk4 (K4.out.blk (e := 24) (List.Mem.tail _ (List.Mem.head _)))
      obtain ⟨a0, a1, az⟩ := blk2 (K4.out.blk (e := 27) (List.Mem.head _))
      by_cases hlt : i < f.length
      · have hli : (i : Int) < (f.length : Int) := by omega
        have HLT := hide hlt
        have HBI := hide (fun (y : World) (k : Ext w y) => HBS.out y k i hib)
        clear hlt
        go_wp2_with fail
        (with_reducible refine (HBI.out _ K4.out.toExt).mono ?_)
        rintro e w5 ⟨rfl, hx⟩
        have K5 : Hid (BX w w5 g g2 v A c s n) := hide (K4.out.ext hx)
        clear K4 hx c0 c1 c2 c3 cz a0 a1 az
        go_wp2_with fail
        go_roundw
        case rel => exact ⟨i + 1, by go_num, HLT.out, K5⟩
        case measure => have := HLT.out; simp [intOf]; omega
      · have hli : ¬ (i : Int) < (f.length : Int) := by omega
        clear hlt
        go_wp2_with fail
        (with_reducible refine (awake_any _).mono ?_)
        rintro e w99 ⟨rfl, hx⟩
        go_wp2_with fail
        go_ret
        exact ⟨rfl, K4.out.toExt.trans hx⟩
  by_cases h0 : (bestE v f s n).2 = 0
  rotate_left
  · have hz := best_none h0
    rw [hz]
    have e1 : ((bestE v f s n).2 == 15) = false := beq_eq_false_iff_ne.2 h15
    have e2 : ((bestE v f s n).2 != 0) = true := bne_iff_ne.2 h0
    have e3 : ((bestE v f s n).2 == 0) = false := beq_eq_false_iff_ne.2 h0
    clear hz h0 h15
    generalize (bestE v f s n).2 = be at *
    go_wp2_with fail
    (with_reducible refine (awake_any _).mono ?_)
    rintro e w99 ⟨rfl, hx⟩
    go_wp2_with fail
    go_ret
    exact ⟨rfl, K3.out.toExt.trans hx⟩
  obtain ⟨p, a, m, hp, rfl, hm1, hm8, hq, hin, ha, hall⟩ := best_least h0
  rw [hp, h0]
  have hfl := (qE_zero hq).2.2.2.1
  have hfb : f.length ≤ 100000000 := by have := (qE_zero hq).1.sum; omega
  have hfit : ∀ i, inRun v f s i m → i + m ≤ f.length := fun i ⟨x, hx, h1, h2⟩ => by have := (runs_off hfl hx).1; omega
  have hab : a ≤ 100000000 := by
    have h1 : (aloneE v (off f p m) s) ≤ 2000 := by
      unfold aloneE
      split
      · rename_i h
        have h1 := aloneN_le (runsOf v (off f p m) s)
        have h2 := runsOf_few (qE_zero hq).1 (off f p m) s
        omega
      · omega
    omega
  have HFL := hide hfb
  have HYES := hide (fun (y : World) (k : Ext w y) (i : Nat) (hi : i ≤ 100000000) (h : inRun v f s i m) => HBE.out y k i m true hq (by omega) (by omega) hi ⟨fun _ => h, fun _ => rfl⟩)
  have HNO := hide (fun (y : World) (k : Ext w y) (i : Nat) (hi : i ≤ 100000000) (h : ¬ inRun v f s i m) => HBE.out y k i m false hq (by omega) (by omega) hi ⟨fun h => (by cases h), fun h' => absurd h' h⟩)
  have HW0 := hide (fun (y : World) (k : Ext w y) => HWO.out y k p m (hfit p hin) hfb)
  have HA0 := hide (fun (y : World) (k : Ext w y) => HAL.out y k p m (hfit p hin) hq)
  rw [ha] at HA0
  have HOL : Hid ((off f p m).length = f.length) := hide (off_len (hfit p hin))
  have HWI := hide (fun (y : World) (k : Ext w y) (i : Nat) (h : inRun v f s i m) => HWO.out y k i m (hfit i h) hfb)
  have HAI := hide (fun (y : World) (k : Ext w y) (i : Nat) (h : inRun v f s i m) => HAL.out y k i m (hfit i h) hq)
  have HOI := hide (fun (i : Nat) (h : inRun v f s i m) => off_len (hfit i h))
  have HALL := hide hall
  have hpb : p ≤ 100000000 := by have := hfit p hin; omega
  have HY0 := hide (fun (y : World) (k : Ext w y) => HYES.out y k p hpb hin)
  clear h15 h0 hp hq hin ha hall hfl hfb hfit HBE HWO HAL
  obtain ⟨c0, c1, c2, c3, cz⟩ := blk4 (K3.out.blk (e := 24) (List.Mem.tail _ (List.Mem.head _)))
  obtain ⟨a0, a1, az⟩ := blk2 (K3.out.blk (e := 27) (List.Mem.head _))
  go_wp2_with fail
  (with_reducible refine (HY0.out _ K3.out.toExt).mono ?_)
  rintro e w4 ⟨rfl, hx⟩
  have K4 : Hid (BX w w4 g g2 v A c s m) := hide (K3.out.ext hx)
  clear K3 hx c0 c1 c2 c3 cz a0 a1 az HY0
  go_upto_region 15 with fail
  refine wp_region_wm [0, 1, 2, 3, 4, 6, 7, 5, 8, 9, 10, 11, 12, 13] (by kernel_rfl) (by kernel_rfl) (by kernel_rfl) (by kernel_rfl) ?_
  have KD := K4.out.drew
  clear K4
  generalize World.drew _ = wd at *
  have b0 := (KD.blk (e := 24) (List.Mem.tail _ (List.Mem.head _))).at5
  have s0 := (KD.blk (e := 27) (List.Mem.head _)).cell 0
  have s1 := (KD.blk (e := 27) (List.Mem.head _)).cell 1
  have KE := hide KD
  clear KD
  refine wm_ldX rfl rfl 24 (.tmp 3) rfl b0 rfl _ Tryd.underlying24 rfl (by kernel_rfl) ?_
  iterate 3 (refine wm_rd rfl rfl (fun K hK => ?_); go_simp; refine hK _ ?_; clear hK K)
  refine wm_ld1 rfl rfl 3 (.tmp 78) rfl rfl s1 _ Tryd.underlying3 rfl ?_
  (refine wm_rd rfl rfl (fun K hK => ?_); go_simp; refine hK _ ?_; clear hK K)
  refine wm_ld1 rfl rfl 3 (.tmp 81) rfl rfl s0 _ Tryd.underlying3 rfl ?_
  clear b0 s0 s1
  refine wm_ext rfl rfl (fun K hK => ?_)
  go_simp
  go_at_call 24
  (with_reducible refine (HW0.out _ KE.out.toExt).mono ?_)
  rintro e w5 ⟨v5, rfl, hS5⟩
  obtain ⟨F5, d5, rfl, hF5, hd5, _⟩ := (hS5.owns (List.Mem.head _)).form
  rw [bls_len, HOL.out] at hd5 ⊢
  have X5 := hide hS5.toExt
  refine hK _ _ X5.out ?_
  clear hK K hS5
  refine wm_ext rfl rfl (fun K hK => ?_)
  go_simp
  go_at_call 13
  (with_reducible refine (HA0.out _ (KE.out.toExt.trans X5.out) F5 d5 hF5 hd5).mono ?_)
  rintro e w6 ⟨rfl, hx6⟩
  refine hK _ _ hx6 ?_
  clear hK K
  have K5 := hide (KE.out.ext (X5.out.trans hx6))
  clear X5 hx6 KE hF5
  iterate 5 (refine wm_rd rfl rfl (fun K hK => ?_); go_simp; refine hK _ ?_; clear hK K)
  refine wm_nil ?_
  clear HOL HW0 HA0
  go_wp2_with fail
  go_loopw [12] (fun v12 wr => ∃ i : Nat, v12 = .int .i64 i ∧ i ≤ f.length ∧ Hid (BX w wr g g2 v A c s m)) (fun v12 _ => f.length - (intOf v12).toNat)
  case atStart => exact ⟨0, rfl, by omega, K5⟩
  case round =>
    obtain ⟨i, rfl, hi, K6⟩ := hrel
    clear K5
    have hib : i ≤ 100000000 := by have := HFL.out; omega
    obtain ⟨c0, c1, c2, c3, cz⟩ := blk4 (K6.out.blk (e := 24) (List.Mem.tail _ (List.Mem.head _)))
    obtain ⟨a0, a1, az⟩ := blk2 (K6.out.blk (e := 27) (List.Mem.head _))
    by_cases hlt : i < f.length
    · have hli : (i : Int) < (f.length : Int) := by omega
      have HLT := hide hlt
      clear hlt
      by_cases hin : inRun v f s i m
      · have HBI := hide (fun (y : World) (k : Ext w y) => HYES.out y k i hib hin)
        have HWJ := hide (fun (y : World) (k : Ext w y) => HWI.out y k i hin)
        have HAJ := hide (fun (y : World) (k : Ext w y) => HAI.out y k i hin)
        have HOL := hide (HOI.out i hin)
        obtain ⟨b, hb, hab1, hab2⟩ := HALL.out i hin
        rw [hb] at HAJ
        have HA2 : Hid (a = b → p ≤ i) := hide hab2
        clear hin hb hab2
        go_wp2_with fail
        (with_reducible refine (HBI.out _ K6.out.toExt).mono ?_)
        rintro e w7 ⟨rfl, hx⟩
        have K7 : Hid (BX w w7 g g2 v A c s m) := hide (K6.out.ext hx)
        clear K6 hx c0 c1 c2 c3 cz a0 a1 az HBI
        go_upto_region 22 with fail
        refine wp_region_wm [0, 1, 2, 3, 4, 6, 7, 5, 8, 9, 10, 11, 12, 13] (by kernel_rfl) (by kernel_rfl) (by kernel_rfl) (by kernel_rfl) ?_
        have KD := K7.out.drew
        clear K7
        generalize World.drew _ = wd at *
        have b0 := (KD.blk (e := 24) (List.Mem.tail _ (List.Mem.head _))).at5
        have s0 := (KD.blk (e := 27) (List.Mem.head _)).cell 0
        have s1 := (KD.blk (e := 27) (List.Mem.head _)).cell 1
        have KE := hide KD
        clear KD
        refine wm_ldX rfl rfl 24 (.tmp 3) rfl b0 rfl _ Tryd.underlying24 rfl (by kernel_rfl) ?_
        iterate 3 (refine wm_rd rfl rfl (fun K hK => ?_); go_simp; refine hK _ ?_; clear hK K)
        refine wm_ld1 rfl rfl 3 (.tmp 104) rfl rfl s1 _ Tryd.underlying3 rfl ?_
        (refine wm_rd rfl rfl (fun K hK => ?_); go_simp; refine hK _ ?_; clear hK K)
        refine wm_ld1 rfl rfl 3 (.tmp 107) rfl rfl s0 _ Tryd.underlying3 rfl ?_
        clear b0 s0 s1
        refine wm_ext rfl rfl (fun K hK => ?_)
        go_simp
        go_at_call 24
        (with_reducible refine (HWJ.out _ KE.out.toExt).mono ?_)
        rintro e w5 ⟨v5, rfl, hS5⟩
        obtain ⟨F5, d5, rfl, hF5, hd5, _⟩ := (hS5.owns (List.Mem.head _)).form
        rw [bls_len, HOL.out] at hd5 ⊢
        have X5 := hide hS5.toExt
        refine hK _ _ X5.out ?_
        clear hK K hS5
        refine wm_ext rfl rfl (fun K hK => ?_)
        go_simp
        go_at_call 13
        (with_reducible refine (HAJ.out _ (KE.out.toExt.trans X5.out) F5 d5 hF5 hd5).mono ?_)
        rintro e w6 ⟨rfl, hx6⟩
        refine hK _ _ hx6 ?_
        clear hK K
        have K8 := hide (KE.out.ext (X5.out.trans hx6))
        clear X5 hx6 KE hF5
        iterate 5 (refine wm_rd rfl rfl (fun K hK => ?_); go_simp; refine hK _ ?_; clear hK K)
        refine wm_nil ?_
        clear HOL HWJ HAJ
        have hba : ¬ (b : Int) < (a : Int) := by omega
        by_cases hE : b = a
        · have hpi : ¬ (i : Int) < (p : Int) := by have := HA2.out hE.symm; omega
          have e1 : ((b : Int) == (a : Int)) = true := beq_iff_eq.2 (by omega)
          clear hE HA2 hab1
          go_wp2_with fail
          go_roundw
          case rel => exact ⟨i + 1, by go_num, HLT.out, K8⟩
          case measure => have := HLT.out; simp [intOf]; omega
        · have e1 : ((b : Int) == (a : Int)) = false := beq_eq_false_iff_ne.2 (by omega)
          clear hE HA2 hab1
          go_wp2_with fail
          go_roundw
          case rel => exact ⟨i + 1, by go_num, HLT.out, K8⟩
          case measure => have := HLT.out; simp [intOf]; omega
      · have HBI := hide (fun (y : World) (k : Ext w y) => HNO.out y k i hib hin)
        clear hin
        go_wp2_with fail
        (with_reducible refine (HBI.out _ K6.out.toExt).mono ?_)
        rintro e w7 ⟨rfl, hx⟩
        have K7 : Hid (BX w w7 g g2 v A c s m) := hide (K6.out.ext hx)
        clear K6 hx c0 c1 c2 c3 cz a0 a1 az HBI
        go_wp2_with fail
        go_roundw
        case rel => exact ⟨i + 1, by go_num, HLT.out, K7⟩
        case measure => have := HLT.out; simp [intOf]; omega
    · have hli : ¬ (i : Int) < (f.length : Int) := by omega
      clear hlt
      go_wp2_with fail
      (with_reducible refine (awake_any _).mono ?_)
      rintro e w99 ⟨rfl, hx⟩
      go_wp2_with fail
      go_ret
      exact ⟨rfl, K6.out.toExt.trans hx⟩
end Go.Proofs.YtkhinagagncblaaDoor
