/- Tickets: Compare, by the program and by the reference. -/
import Derived.Test.YtamlngdjbmndlaaDoorI9
namespace Go.Proofs.YtamlngdjbmndlaaDoor
open Go.RowKit Go.Gr
set_option linter.unusedVariables false
set_option linter.unusedSimpArgs false
attribute [local go_sem] rdOp rdAt rdUpon Cls forall_fr
/-- the order of two numbers -/
def ordI (a b : Int) : Int := if a < b then -1 else if b < a then 1 else 0
theorem ordI_cases (a b : Int) : (a < b ∧ ordI a b = -1) ∨ (b < a ∧ ordI a b = 1) ∨ (a = b ∧ ordI a b = 0) := by
  unfold ordI
  rcases Int.lt_trichotomy a b with h | h | h
  · exact .inl ⟨h, by rw [if_pos h]⟩
  · exact .inr (.inr ⟨h, by rw [if_neg (by omega), if_neg (by omega)]⟩)
  · exact .inr (.inl ⟨h, by rw [if_neg (by omega), if_pos h]⟩)
theorem ordI_zero {a b : Int} : ordI a b = 0 ↔ a = b := by
  rcases ordI_cases a b with ⟨h, e⟩ | ⟨h, e⟩ | ⟨h, e⟩ <;> rw [e] <;> constructor <;> intro h2 <;> omega
/-- the order of two tickets: seat, epoch, serial, owner -/
def cmpT (a b : Tk) : Int := if a.1 ≠ b.1 then ordI a.1 b.1 else if a.2.2.2 ≠ b.2.2.2 then ordI a.2.2.2 b.2.2.2 else if a.2.2.1 ≠ b.2.2.1 then ordI a.2.2.1 b.2.2.1 else ordI a.2.1 b.2.1
/-- the first one that is not nought -/
def fstNz : List Int → Int
  | [] => 0
  | x :: l => if x ≠ 0 then x else fstNz l
theorem fstNz_cmp (a b : Tk) : fstNz [ordI a.1 b.1, ordI a.2.2.2 b.2.2.2, ordI a.2.2.1 b.2.2.1, ordI a.2.1 b.2.1] = cmpT a b := by
  unfold cmpT
  simp only [fstNz, ne_eq, ordI_zero]
  by_cases h1 : a.1 = b.1
  · by_cases h2 : a.2.2.2 = b.2.2.2
    · by_cases h3 : a.2.2.1 = b.2.2.1
      · by_cases h4 : a.2.1 = b.2.1
        · simp [h1, h2, h3, h4, ordI]
        · simp [h1, h2, h3, h4]
      · simp [h1, h2, h3]
    · simp [h1, h2]
  · simp [h1]
theorem cmpu32_any (x y : Int) (w : World) : Calls Tryd.prog 49 #[.int .u32 x, .int .u32 y] w fun e w' => e = .returned (.int .i64 (ordI x y)) ∧ w = w' := by
  have HN : Hid (∀ (z : Int) (x : World), Calls Tryd.prog 66 #[.int .u32 z] x fun e w' => e = .returned (.bool false) ∧ x = w') := hide (fun z x => by
    go_enter Tryd.func66, Tryd.ntmps66
    go_wp2_with fail
    go_ret
    exact ⟨rfl, rfl⟩)
  have HO : Hid ((x < y ∧ ordI x y = -1) ∨ (y < x ∧ ordI x y = 1) ∨ (x = y ∧ ordI x y = 0)) := hide (ordI_cases x y)
  go_enter Tryd.func49, Tryd.ntmps49
  go_wp2_with fail
  (with_reducible refine (HN.out _ _).mono ?_)
  rintro e w1 ⟨rfl, rfl⟩
  go_wp2_with fail
  (with_reducible refine (HN.out _ _).mono ?_)
  rintro e w1 ⟨rfl, rfl⟩
  rcases HO.out with ⟨h, e⟩ | ⟨h, e⟩ | ⟨h, e⟩
  · have HE := hide e
    clear HO e
    go_wp2_with fail
    go_ret
    exact ⟨by (rw [HE.out]; first | done | rfl), rfl⟩
  · have HE := hide e
    have h2 : ¬ x < y := by omega
    clear HO e
    go_wp2_with fail
    go_ret
    exact ⟨by (rw [HE.out]; first | done | rfl), rfl⟩
  · have HE := hide e
    have h2 : ¬ x < y := by omega
    have h3 : ¬ y < x := by omega
    clear HO e h
    go_wp2_with fail
    go_ret
    exact ⟨by (rw [HE.out]; first | done | rfl), rfl⟩
theorem cmpu64_any (x y : Int) (w : World) : Calls Tryd.prog 50 #[.int .u64 x, .int .u64 y] w fun e w' => e = .returned (.int .i64 (ordI x y)) ∧ w = w' := by
  have HN : Hid (∀ (z : Int) (x : World), Calls Tryd.prog 67 #[.int .u64 z] x fun e w' => e = .returned (.bool false) ∧ x = w') := hide (fun z x => by
    go_enter Tryd.func67, Tryd.ntmps67
    go_wp2_with fail
    go_ret
    exact ⟨rfl, rfl⟩)
  have HO : Hid ((x < y ∧ ordI x y = -1) ∨ (y < x ∧ ordI x y = 1) ∨ (x = y ∧ ordI x y = 0)) := hide (ordI_cases x y)
  go_enter Tryd.func50, Tryd.ntmps50
  go_wp2_with fail
  (with_reducible refine (HN.out _ _).mono ?_)
  rintro e w1 ⟨rfl, rfl⟩
  go_wp2_with fail
  (with_reducible refine (HN.out _ _).mono ?_)
  rintro e w1 ⟨rfl, rfl⟩
  rcases HO.out with ⟨h, e⟩ | ⟨h, e⟩ | ⟨h, e⟩
  · have HE := hide e
    clear HO e
    go_wp2_with fail
    go_ret
    exact ⟨by (rw [HE.out]; first | done | rfl), rfl⟩
  · have HE := hide e
    have h2 : ¬ x < y := by omega
    clear HO e
    go_wp2_with fail
    go_ret
    exact ⟨by (rw [HE.out]; first | done | rfl), rfl⟩
  · have HE := hide e
    have h2 : ¬ x < y := by omega
    have h3 : ¬ y < x := by omega
    clear HO e h
    go_wp2_with fail
    go_ret
    exact ⟨by (rw [HE.out]; first | done | rfl), rfl⟩
theorem order_any (x y : Int) (w : World) : Calls Tryd.prog 53 #[.int .u64 x, .int .u64 y] w fun e w' => e = .returned (.int .i64 (ordI x y)) ∧ w = w' := by
  have HO : Hid ((x < y ∧ ordI x y = -1) ∨ (y < x ∧ ordI x y = 1) ∨ (x = y ∧ ordI x y = 0)) := hide (ordI_cases x y)
  go_enter Tryd.func53, Tryd.ntmps53
  rcases HO.out with ⟨h, e⟩ | ⟨h, e⟩ | ⟨h, e⟩
  · have HE := hide e
    clear HO e
    go_wp2_with fail
    go_ret
    exact ⟨by (rw [HE.out]; first | done | rfl), rfl⟩
  · have HE := hide e
    have h2 : ¬ x < y := by omega
    clear HO e
    go_wp2_with fail
    go_ret
    exact ⟨by (rw [HE.out]; first | done | rfl), rfl⟩
  · have HE := hide e
    have h2 : ¬ x < y := by omega
    have h3 : ¬ y < x := by omega
    clear HO e h
    go_wp2_with fail
    go_ret
    exact ⟨by (rw [HE.out]; first | done | rfl), rfl⟩
set_option maxRecDepth 100000 in
set_option maxHeartbeats 1000000 in
theorem first4_any (a b c d : Int) (g : Nat) (t : TypeId) (w : World) (hB : Blk w g t [.int .i64 a, .int .i64 b, .int .i64 c, .int .i64 d]) : Calls Tryd.prog 48 #[.slice (some ⟨g, 0, none⟩) 4 4] w fun e w' => e = .returned (.int .i64 (fstNz [a, b, c, d])) ∧ w = w' := by
  obtain ⟨c0, c1, c2, c3, cz⟩ := tk4 hB
  have C0 := hide c0
  have C1 := hide c1
  have C2 := hide c2
  have C3 := hide c3
  clear hB c0 c1 c2 c3 cz
  go_enter Tryd.func48, Tryd.ntmps48
  go_wp2_with fail
  go_loopw [7] (fun v7 wr => wr = w ∧ ∃ k : Nat, v7 = .int .i64 k ∧ k ≤ 4 ∧ Hid (fstNz ([a, b, c, d].drop k) = fstNz [a, b, c, d])) (fun v7 _ => 4 - (intOf v7).toNat)
  case atStart => exact ⟨rfl, 0, rfl, by omega, hide rfl⟩
  case round =>
    obtain ⟨rfl, k, rfl, hk, HF⟩ := hrel
    rcases (by omega : k = 0 ∨ k = 1 ∨ k = 2 ∨ k = 3 ∨ k = 4) with rfl | rfl | rfl | rfl | rfl
    · rw [show ((0 : Nat) : Int) = 0 from rfl]
      have hc := C0.out
      by_cases hz : a = 0
      · have e1 : (a != 0) = false := by rw [hz]; rfl
        have HF2 : Hid (fstNz ([a, b, c, d].drop 1) = fstNz [a, b, c, d]) := hide (by
          rw [← HF.out]
          show _ = fstNz (a :: [a, b, c, d].drop 1)
          rw [fstNz, if_neg (by rw [hz]; simp)])
        clear hz HF
        go_wp2_with fail
        clear hc
        go_roundw
        case rel => exact ⟨(by first | rfl | trivial), 1, rfl, by omega, HF2⟩
        case measure => simp [intOf]
      · have e1 : (a != 0) = true := bne_iff_ne.2 hz
        have HF2 : Hid (fstNz [a, b, c, d] = a) := hide (by
          rw [← HF.out]
          show fstNz (a :: [a, b, c, d].drop 1) = a
          rw [fstNz, if_pos hz])
        clear hz HF
        go_wp2_with fail
        go_ret
        exact ⟨by rw [HF2.out]; rfl, rfl⟩
    · rw [show ((1 : Nat) : Int) = 1 from rfl]
      have hc := C1.out
      by_cases hz : b = 0
      · have e1 : (b != 0) = false := by rw [hz]; rfl
        have HF2 : Hid (fstNz ([a, b, c, d].drop 2) = fstNz [a, b, c, d]) := hide (by
          rw [← HF.out]
          show _ = fstNz (b :: [a, b, c, d].drop 2)
          rw [fstNz, if_neg (by rw [hz]; simp)])
        clear hz HF
        go_wp2_with fail
        clear hc
        go_roundw
        case rel => exact ⟨(by first | rfl | trivial), 2, rfl, by omega, HF2⟩
        case measure => simp [intOf]
      · have e1 : (b != 0) = true := bne_iff_ne.2 hz
        have HF2 : Hid (fstNz [a, b, c, d] = b) := hide (by
          rw [← HF.out]
          show fstNz (b :: [a, b, c, d].drop 2) = b
          rw [fstNz, if_pos hz])
        clear hz HF
        go_wp2_with fail
        go_ret
        exact ⟨by rw [HF2.out]; rfl, rfl⟩
    · rw [show ((2 : Nat) : Int) = 2 from rfl]
      have hc := C2.out
      by_cases hz : c = 0
      · have e1 : (c != 0) = false := by rw [hz]; rfl
        have HF2 : Hid (fstNz ([a, b, c, d].drop 3) = fstNz [a, b, c, d]) := hide (by
          rw [← HF.out]
          show _ = fstNz (c :: [a, b, c, d].drop 3)
          rw [fstNz, if_neg (by rw [hz]; simp)])
        clear hz HF
        go_wp2_with fail
        clear hc
        go_roundw
        case rel => exact ⟨(by first | rfl | trivial), 3, rfl, by omega, HF2⟩
        case measure => simp [intOf]
      · have e1 : (c != 0) = true := bne_iff_ne.2 hz
        have HF2 : Hid (fstNz [a, b, c, d] = c) := hide (by
          rw [← HF.out]
          show fstNz (c :: [a, b, c, d].drop 3) = c
          rw [fstNz, if_pos hz])
        clear hz HF
        go_wp2_with fail
        go_ret
        exact ⟨by rw [HF2.out]; rfl, rfl⟩
    · rw [show ((3 : Nat) : Int) = 3 from rfl]
      have hc := C3.out
      by_cases hz : d = 0
      · have e1 : (d != 0) = false := by rw [hz]; rfl
        have HF2 : Hid (fstNz ([a, b, c, d].drop 4) = fstNz [a, b, c, d]) := hide (by
          rw [← HF.out]
          show _ = fstNz (d :: [a, b, c, d].drop 4)
          rw [fstNz, if_neg (by rw [hz]; simp)])
        clear hz HF
        go_wp2_with fail
        clear hc
        go_roundw
        case rel => exact ⟨(by first | rfl | trivial), 4, rfl, by omega, HF2⟩
        case measure => simp [intOf]
      · have e1 : (d != 0) = true := bne_iff_ne.2 hz
        have HF2 : Hid (fstNz [a, b, c, d] = d) := hide (by
          rw [← HF.out]
          show fstNz (d :: [a, b, c, d].drop 4) = d
          rw [fstNz, if_pos hz])
        clear hz HF
        go_wp2_with fail
        go_ret
        exact ⟨by rw [HF2.out]; rfl, rfl⟩
    · rw [show ((4 : Nat) : Int) = 4 from rfl]
      have HF2 : Hid (fstNz [a, b, c, d] = 0) := hide (by rw [← HF.out]; rfl)
      clear HF
      go_wp2_with fail
      go_ret
      exact ⟨by rw [HF2.out]; rfl, rfl⟩
set_option maxRecDepth 100000 in
set_option maxHeartbeats 2000000 in
theorem tcmp_any (s1 o1 n1 e1 s2 o2 n2 e2 : Int) (w : World) : Calls Tryd.prog 34 #[tkv s1 o1 n1 e1, tkv s2 o2 n2 e2] w fun e w' => e = .returned (.int .i64 (cmpT (s1, o1, n1, e1) (s2, o2, n2, e2))) ∧ Ext w w' := by
  have HC := hide (fstNz_cmp (s1, o1, n1, e1) (s2, o2, n2, e2))
  have K0 := ((Sep.refl No w).add2 25 25 (tkc s1 o1 n1 e1) (tkc s2 o2 n2 e2))
  go_enter Tryd.func34, Tryd.ntmps34
  go_upto_region 1 with fail
  generalize World.alloc _ _ = w1 at K0 ⊢
  obtain ⟨g, hg⟩ : ∃ g, w.heap.size = g := ⟨_, rfl⟩
  obtain ⟨g2, hg2⟩ : ∃ g2, g + 1 = g2 := ⟨_, rfl⟩
  rw [hg, hg2] at K0 ⊢
  clear hg hg2
  refine wp_region_wm [0, 1, 2, 3, 5, 6, 7, 8, 10, 11, 12, 13, 15, 16, 17, 18, 4, 9, 14, 19, 20, 21, 22] (by kernel_rfl) (by kernel_rfl) (by kernel_rfl) (by kernel_rfl) ?_
  have KD := K0.drew
  clear K0
  generalize World.drew _ = wd at *
  obtain ⟨c0, c1, c2, c3, cz⟩ := tk4 (KD.blk (g := g2) (e := 25) (List.Mem.head _))
  obtain ⟨d0, d1, d2, d3, dz⟩ := tk4 (KD.blk (g := g) (e := 25) (List.Mem.tail _ (List.Mem.head _)))
  (refine wm_rd rfl rfl (fun K hK => ?_); go_simp; refine hK _ ?_; clear hK K)
  refine wm_ld1 rfl rfl 22 (.tmp 5) rfl rfl d0 _ Tryd.underlying22 rfl ?_
  (refine wm_rd rfl rfl (fun K hK => ?_); go_simp; refine hK _ ?_; clear hK K)
  refine wm_ld1 rfl rfl 22 (.tmp 7) rfl rfl c0 _ Tryd.underlying22 rfl ?_
  (refine wm_rd rfl rfl (fun K hK => ?_); go_simp; refine hK _ ?_; clear hK K)
  refine wm_ld1 rfl rfl 23 (.tmp 10) rfl rfl d3 _ Tryd.underlying23 rfl ?_
  (refine wm_rd rfl rfl (fun K hK => ?_); go_simp; refine hK _ ?_; clear hK K)
  refine wm_ld1 rfl rfl 23 (.tmp 12) rfl rfl c3 _ Tryd.underlying23 rfl ?_
  (refine wm_rd rfl rfl (fun K hK => ?_); go_simp; refine hK _ ?_; clear hK K)
  refine wm_ld1 rfl rfl 23 (.tmp 15) rfl rfl d2 _ Tryd.underlying23 rfl ?_
  (refine wm_rd rfl rfl (fun K hK => ?_); go_simp; refine hK _ ?_; clear hK K)
  refine wm_ld1 rfl rfl 23 (.tmp 17) rfl rfl c2 _ Tryd.underlying23 rfl ?_
  (refine wm_rd rfl rfl (fun K hK => ?_); go_simp; refine hK _ ?_; clear hK K)
  refine wm_ld1 rfl rfl 22 (.tmp 20) rfl rfl d1 _ Tryd.underlying22 rfl ?_
  (refine wm_rd rfl rfl (fun K hK => ?_); go_simp; refine hK _ ?_; clear hK K)
  refine wm_ld1 rfl rfl 22 (.tmp 22) rfl rfl c1 _ Tryd.underlying22 rfl ?_
  clear c0 c1 c2 c3 cz d0 d1 d2 d3 dz
  refine wm_ext rfl rfl (fun K hK => ?_)
  go_simp
  go_at_call 49
  (with_reducible refine (cmpu32_any s1 s2 _).mono ?_)
  rintro e w9 ⟨rfl, rfl⟩
  refine hK _ _ (Ext.refl _) ?_
  clear hK K
  refine wm_ext rfl rfl (fun K hK => ?_)
  go_simp
  go_at_call 50
  (with_reducible refine (cmpu64_any e1 e2 _).mono ?_)
  rintro e w9 ⟨rfl, rfl⟩
  refine hK _ _ (Ext.refl _) ?_
  clear hK K
  refine wm_ext rfl rfl (fun K hK => ?_)
  go_simp
  go_at_call 50
  (with_reducible refine (cmpu64_any n1 n2 _).mono ?_)
  rintro e w9 ⟨rfl, rfl⟩
  refine hK _ _ (Ext.refl _) ?_
  clear hK K
  refine wm_ext rfl rfl (fun K hK => ?_)
  go_simp
  go_at_call 49
  (with_reducible refine (cmpu32_any o1 o2 _).mono ?_)
  rintro e w9 ⟨rfl, rfl⟩
  refine hK _ _ (Ext.refl _) ?_
  clear hK K
  refine wm_ext rfl rfl (fun K hK => ?_)
  go_simp
  refine hK _ _ ((Ext.refl _).alloc _) ?_
  clear hK K
  have KE := hide (KD.add 3 [.int .i64 (ordI s1 s2), .int .i64 (ordI e1 e2), .int .i64 (ordI n1 n2), .int .i64 (ordI o1 o2)])
  have HB := hide (Blk.new wd 3 [.int .i64 (ordI s1 s2), .int .i64 (ordI e1 e2), .int .i64 (ordI n1 n2), .int .i64 (ordI o1 o2)])
  clear KD
  refine wm_ext rfl rfl (fun K hK => ?_)
  go_simp
  go_at_call 48
  refine (first4_any _ _ _ _ wd.heap.size 3 _ HB.out).mono ?_
  rintro e w9 ⟨rfl, rfl⟩
  refine hK _ _ (Ext.refl _) ?_
  clear hK K HB
  rw [HC.out]
  (refine wm_rd rfl rfl (fun K hK => ?_); go_simp; refine hK _ ?_; clear hK K)
  refine wm_nil ?_
  go_wp2_with fail
  go_ret
  exact ⟨rfl, KE.out.toExt⟩
set_option maxRecDepth 100000 in
set_option maxHeartbeats 2000000 in
theorem rtcmp_any (s1 o1 n1 e1 s2 o2 n2 e2 : Int) (w : World) (ha : TiB s1 o1 n1 e1) (hb : TiB s2 o2 n2 e2) : Calls Tryd.prog 36 #[tkv s1 o1 n1 e1, tkv s2 o2 n2 e2] w fun e w' => e = .returned (.int .i64 (cmpT (s1, o1, n1, e1) (s2, o2, n2, e2))) ∧ Ext w w' := by
  obtain ⟨hs0, hs1, ho0, ho1, hn0, hn1, he0, he1⟩ := ha
  obtain ⟨hs0', hs1', ho0', ho1', hn0', hn1', he0', he1'⟩ := hb
  have w1' : IntKind.u64.wrap s1 = s1 := IntWalk.u64_in _ (by omega)
  have w2' : IntKind.u64.wrap s2 = s2 := IntWalk.u64_in _ (by omega)
  have w3' : IntKind.u64.wrap o1 = o1 := IntWalk.u64_in _ (by omega)
  have w4' : IntKind.u64.wrap o2 = o2 := IntWalk.u64_in _ (by omega)
  have K0 := ((Sep.refl No w).add2 25 25 (tkc s1 o1 n1 e1) (tkc s2 o2 n2 e2))
  go_enter Tryd.func36, Tryd.ntmps36
  go_upto_region 1 with fail
  generalize World.alloc _ _ = w1 at K0 ⊢
  obtain ⟨g, hg⟩ : ∃ g, w.heap.size = g := ⟨_, rfl⟩
  obtain ⟨g2, hg2⟩ : ∃ g2, g + 1 = g2 := ⟨_, rfl⟩
  rw [hg, hg2] at K0 ⊢
  clear hg hg2
  have K1 := hide K0
  clear K0
  obtain ⟨c0, c1, c2, c3, cz⟩ := tk4 (K1.out.blk (g := g2) (e := 25) (List.Mem.head _))
  obtain ⟨d0, d1, d2, d3, dz⟩ := tk4 (K1.out.blk (g := g) (e := 25) (List.Mem.tail _ (List.Mem.head _)))
  by_cases h1 : s1 = s2
  rotate_left
  · have HC : Hid (cmpT (s1, o1, n1, e1) (s2, o2, n2, e2) = ordI s1 s2) := hide (by unfold cmpT; rw [if_pos h1])
    have b1 : (s1 != s2) = true := bne_iff_ne.2 h1
    clear h1
    go_wp2_with fail
    (with_reducible refine (order_any s1 s2 _).mono ?_)
    rintro e w9 ⟨rfl, rfl⟩
    go_wp2_with fail
    go_ret
    exact ⟨by rw [HC.out]; rfl, K1.out.toExt⟩
  have b1 : (s1 != s2) = false := by rw [h1]; exact bne_self_eq_false _
  by_cases h2 : e1 = e2
  rotate_left
  · have HC : Hid (cmpT (s1, o1, n1, e1) (s2, o2, n2, e2) = ordI e1 e2) := hide (by unfold cmpT; rw [if_neg (by simpa using h1), if_pos h2])
    have b2 : (e1 != e2) = true := bne_iff_ne.2 h2
    clear h1 h2
    go_wp2_with fail
    (with_reducible refine (order_any e1 e2 _).mono ?_)
    rintro e w9 ⟨rfl, rfl⟩
    go_wp2_with fail
    go_ret
    exact ⟨by rw [HC.out]; rfl, K1.out.toExt⟩
  have b2 : (e1 != e2) = false := by rw [h2]; exact bne_self_eq_false _
  by_cases h3 : n1 = n2
  rotate_left
  · have HC : Hid (cmpT (s1, o1, n1, e1) (s2, o2, n2, e2) = ordI n1 n2) := hide (by unfold cmpT; rw [if_neg (by simpa using h1), if_neg (by simpa using h2), if_pos h3])
    have b3 : (n1 != n2) = true := bne_iff_ne.2 h3
    clear h1 h2 h3
    go_wp2_with fail
    (with_reducible refine (order_any n1 n2 _).mono ?_)
    rintro e w9 ⟨rfl, rfl⟩
    go_wp2_with fail
    go_ret
    exact ⟨by rw [HC.out]; rfl, K1.out.toExt⟩
  have b3 : (n1 != n2) = false := by rw [h3]; exact bne_self_eq_false _
  have HC : Hid (cmpT (s1, o1, n1, e1) (s2, o2, n2, e2) = ordI o1 o2) := hide (by unfold cmpT; rw [if_neg (by simpa using h1), if_neg (by simpa using h2), if_neg (by simpa using h3)])
  clear h1 h2 h3
  go_wp2_with fail
  (with_reducible refine (order_any o1 o2 _).mono ?_)
  rintro e w9 ⟨rfl, rfl⟩
  go_wp2_with fail
  go_ret
  exact ⟨by rw [HC.out]; rfl, K1.out.toExt⟩
end Go.Proofs.YtamlngdjbmndlaaDoor
