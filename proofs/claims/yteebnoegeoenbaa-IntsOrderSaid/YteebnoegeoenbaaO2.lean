/- The walk of the law IntsOrder: true for every input, and nothing that was there has changed. -/
import Derived.Test.YteebnoegeoenbaaO1
namespace Go.Proofs.Yteebnoegeoenbaa
open Go.RowKit Go.Gr
set_option linter.unusedVariables false
set_option maxHeartbeats 1600000 in
theorem order_law (w : World) (a : Int) (ha : 0 ≤ a ∧ a < 18446744073709551616) (b : Int) (hb : 0 ≤ b ∧ b < 18446744073709551616) (wi : Int) (hw : 0 ≤ wi ∧ wi < 256) :
    Calls Try.prog 3 #[.int .u64 a, .int .u64 b, .int .u8 wi] w fun e w' => e = .returned (.bool true) ∧ Ext w w' := by
  obtain ⟨a1, a2⟩ := ha
  obtain ⟨b1, b2⟩ := hb
  obtain ⟨w1, w2⟩ := hw
  obtain ⟨k, hk⟩ : ∃ k : Nat, 1 + wi % 8 = k := ⟨(1 + wi % 8).toNat, by omega⟩
  have HK := hide hk
  clear hk
  have lp := vb_pos a
  have lt := vb_ten a
  have lq := vb_ten b
  have m1 : b ≤ a → (vb b).length ≤ (vb a).length := vb_mono
  have m2 : a ≤ b → (vb a).length ≤ (vb b).length := vb_mono
  obtain ⟨p, hp⟩ : ∃ p, (vb a).length = p := ⟨_, rfl⟩
  obtain ⟨q, hq⟩ : ∃ q, (vb b).length = q := ⟨_, rfl⟩
  rw [hp] at lp lt m1 m2
  rw [hq] at lq m1 m2
  have HP := hide hp
  have HQ := hide hq
  clear hp hq
  obtain ⟨ea, hea⟩ : ∃ ea, putE a k = ea := ⟨_, rfl⟩
  obtain ⟨eb, heb⟩ : ∃ eb, putE b k = eb := ⟨_, rfl⟩
  have ta : ea = 7 ∨ ea = 0 := by rw [← hea]; exact putE_two a k
  have tb : eb = 7 ∨ eb = 0 := by rw [← heb]; exact putE_two b k
  have LE : Hid (ea = 0 → eb = 0 → (putB [] a k).length = k ∧ (putB [] b k).length = k ∧ Op.bytesLess (strOfNums (putB [] a k)).toList (strOfNums (putB [] b k)).toList = decide (a < b)) := hide (by
    intro h h'; rw [h] at hea; rw [h'] at heb; exact put_less a1 b1 hea heb)
  have EA := hide hea
  have EB := hide heb
  clear hea heb
  obtain ⟨x, hx⟩ : ∃ x, putB [] a k = x := ⟨_, rfl⟩
  obtain ⟨y, hy⟩ : ∃ y, putB [] b k = y := ⟨_, rfl⟩
  rw [hx, hy] at LE
  have HX := hide hx
  have HY := hide hy
  clear hx hy
  rcases ta with rfl | rfl
  · go_enter Try.func3, Try.ntmps3
    go_wp2_with (first
      | (go_at_call 12; have z := HX1; clear z; refine (put_any none 0 [] b k _ (Rd.nil _ _) (by decide) b1 b2).mono ?_; rintro e wb ⟨v2, rfl, ho2, hx2⟩; rw [HY.out] at ho2; rw [EB.out]; obtain ⟨A2, c2, rfl, hr2⟩ := ho2.bytes; have HR2 := hide hr2; have HX2 := hide hx2; clear ho2 hx2 hr2)
      | (go_at_call 12; rw [HK.out]; refine (put_any none 0 [] a k _ (Rd.nil _ _) (by decide) a1 a2).mono ?_; rintro e wa ⟨v1, rfl, ho1, hx1⟩; rw [HX.out] at ho1; rw [EA.out]; obtain ⟨A1, c1, rfl, hr1⟩ := ho1.bytes; have HR1 := hide hr1; have HX1 := hide hx1; clear ho1 hx1 hr1)
      | (go_at_call 13; have z := HX3; clear z; refine (putvar_any none 0 [] b _ (Rd.nil _ _) (by decide) b1 b2).mono ?_; rintro e wd ⟨v4, rfl, ho4, hx4⟩; rw [List.nil_append] at ho4; obtain ⟨A4, c4, rfl, hr4⟩ := ho4.bytes; rw [HQ.out]; have HX4 := hide hx4; clear ho4 hx4 hr4)
      | (go_at_call 13; refine (putvar_any none 0 [] a _ (Rd.nil _ _) (by decide) a1 a2).mono ?_; rintro e wc ⟨v3, rfl, ho3, hx3⟩; rw [List.nil_append] at ho3; obtain ⟨A3, c3, rfl, hr3⟩ := ho3.bytes; rw [HP.out]; have HX3 := hide hx3; clear ho3 hx3 hr3)
      | (go_at_call 14; refine (awake_any _).mono ?_; rintro e we ⟨rfl, hx5⟩; have HX5 := hide hx5; clear hx5))
    all_goals first | (exfalso; omega) | (go_ret; refine ⟨by first | rfl | (simp; omega), HX1.out.trans (HX2.out.trans (HX3.out.trans (HX4.out.trans HX5.out)))⟩)
  · rcases tb with rfl | rfl
    · go_enter Try.func3, Try.ntmps3
      go_wp2_with (first
      | (go_at_call 12; have z := HX1; clear z; refine (put_any none 0 [] b k _ (Rd.nil _ _) (by decide) b1 b2).mono ?_; rintro e wb ⟨v2, rfl, ho2, hx2⟩; rw [HY.out] at ho2; rw [EB.out]; obtain ⟨A2, c2, rfl, hr2⟩ := ho2.bytes; have HR2 := hide hr2; have HX2 := hide hx2; clear ho2 hx2 hr2)
      | (go_at_call 12; rw [HK.out]; refine (put_any none 0 [] a k _ (Rd.nil _ _) (by decide) a1 a2).mono ?_; rintro e wa ⟨v1, rfl, ho1, hx1⟩; rw [HX.out] at ho1; rw [EA.out]; obtain ⟨A1, c1, rfl, hr1⟩ := ho1.bytes; have HR1 := hide hr1; have HX1 := hide hx1; clear ho1 hx1 hr1)
      | (go_at_call 13; have z := HX3; clear z; refine (putvar_any none 0 [] b _ (Rd.nil _ _) (by decide) b1 b2).mono ?_; rintro e wd ⟨v4, rfl, ho4, hx4⟩; rw [List.nil_append] at ho4; obtain ⟨A4, c4, rfl, hr4⟩ := ho4.bytes; rw [HQ.out]; have HX4 := hide hx4; clear ho4 hx4 hr4)
      | (go_at_call 13; refine (putvar_any none 0 [] a _ (Rd.nil _ _) (by decide) a1 a2).mono ?_; rintro e wc ⟨v3, rfl, ho3, hx3⟩; rw [List.nil_append] at ho3; obtain ⟨A3, c3, rfl, hr3⟩ := ho3.bytes; rw [HP.out]; have HX3 := hide hx3; clear ho3 hx3 hr3)
      | (go_at_call 14; refine (awake_any _).mono ?_; rintro e we ⟨rfl, hx5⟩; have HX5 := hide hx5; clear hx5))
      all_goals first | (exfalso; omega) | (go_ret; refine ⟨by first | rfl | (simp; omega), HX1.out.trans (HX2.out.trans (HX3.out.trans (HX4.out.trans HX5.out)))⟩)
    · obtain ⟨lx, ly, hs⟩ := LE.out rfl rfl
      rcases Int.lt_or_le a b with hab | hab
      · rw [decide_eq_true hab] at hs
        go_enter Try.func3, Try.ntmps3
        go_wp2_with (first
      | (go_at_call 12; have z := HX1; clear z; refine (put_any none 0 [] b k _ (Rd.nil _ _) (by decide) b1 b2).mono ?_; rintro e wb ⟨v2, rfl, ho2, hx2⟩; rw [HY.out] at ho2; rw [EB.out]; obtain ⟨A2, c2, rfl, hr2⟩ := ho2.bytes; rw [ly]; have k1 := conv23 (HR1.out.ext hx2) k c1 lx.symm rfl; have k2 := conv23 hr2 k c2 ly.symm rfl; have HR2 := hide hr2; have HX2 := hide hx2; clear ho2 hx2 hr2)
      | (go_at_call 12; rw [HK.out]; refine (put_any none 0 [] a k _ (Rd.nil _ _) (by decide) a1 a2).mono ?_; rintro e wa ⟨v1, rfl, ho1, hx1⟩; rw [HX.out] at ho1; rw [EA.out]; obtain ⟨A1, c1, rfl, hr1⟩ := ho1.bytes; rw [lx]; have HR1 := hide hr1; have HX1 := hide hx1; clear ho1 hx1 hr1)
      | (go_at_call 13; have z := HX3; clear z; refine (putvar_any none 0 [] b _ (Rd.nil _ _) (by decide) b1 b2).mono ?_; rintro e wd ⟨v4, rfl, ho4, hx4⟩; rw [List.nil_append] at ho4; obtain ⟨A4, c4, rfl, hr4⟩ := ho4.bytes; rw [HQ.out]; have HX4 := hide hx4; clear ho4 hx4 hr4)
      | (go_at_call 13; refine (putvar_any none 0 [] a _ (Rd.nil _ _) (by decide) a1 a2).mono ?_; rintro e wc ⟨v3, rfl, ho3, hx3⟩; rw [List.nil_append] at ho3; obtain ⟨A3, c3, rfl, hr3⟩ := ho3.bytes; rw [HP.out]; have HX3 := hide hx3; clear ho3 hx3 hr3)
      | (go_at_call 14; refine (awake_any _).mono ?_; rintro e we ⟨rfl, hx5⟩; have HX5 := hide hx5; clear hx5))
        all_goals first | (exfalso; omega) | (go_ret; refine ⟨by first | rfl | (simp; omega), HX1.out.trans (HX2.out.trans (HX3.out.trans (HX4.out.trans HX5.out)))⟩)
      · rw [decide_eq_false (by omega)] at hs
        go_enter Try.func3, Try.ntmps3
        go_wp2_with (first
      | (go_at_call 12; have z := HX1; clear z; refine (put_any none 0 [] b k _ (Rd.nil _ _) (by decide) b1 b2).mono ?_; rintro e wb ⟨v2, rfl, ho2, hx2⟩; rw [HY.out] at ho2; rw [EB.out]; obtain ⟨A2, c2, rfl, hr2⟩ := ho2.bytes; rw [ly]; have k1 := conv23 (HR1.out.ext hx2) k c1 lx.symm rfl; have k2 := conv23 hr2 k c2 ly.symm rfl; have HR2 := hide hr2; have HX2 := hide hx2; clear ho2 hx2 hr2)
      | (go_at_call 12; rw [HK.out]; refine (put_any none 0 [] a k _ (Rd.nil _ _) (by decide) a1 a2).mono ?_; rintro e wa ⟨v1, rfl, ho1, hx1⟩; rw [HX.out] at ho1; rw [EA.out]; obtain ⟨A1, c1, rfl, hr1⟩ := ho1.bytes; rw [lx]; have HR1 := hide hr1; have HX1 := hide hx1; clear ho1 hx1 hr1)
      | (go_at_call 13; have z := HX3; clear z; refine (putvar_any none 0 [] b _ (Rd.nil _ _) (by decide) b1 b2).mono ?_; rintro e wd ⟨v4, rfl, ho4, hx4⟩; rw [List.nil_append] at ho4; obtain ⟨A4, c4, rfl, hr4⟩ := ho4.bytes; rw [HQ.out]; have HX4 := hide hx4; clear ho4 hx4 hr4)
      | (go_at_call 13; refine (putvar_any none 0 [] a _ (Rd.nil _ _) (by decide) a1 a2).mono ?_; rintro e wc ⟨v3, rfl, ho3, hx3⟩; rw [List.nil_append] at ho3; obtain ⟨A3, c3, rfl, hr3⟩ := ho3.bytes; rw [HP.out]; have HX3 := hide hx3; clear ho3 hx3 hr3)
      | (go_at_call 14; refine (awake_any _).mono ?_; rintro e we ⟨rfl, hx5⟩; have HX5 := hide hx5; clear hx5))
        all_goals first | (exfalso; omega) | (go_ret; refine ⟨by first | rfl | (simp; omega), HX1.out.trans (HX2.out.trans (HX3.out.trans (HX4.out.trans HX5.out)))⟩)
end Go.Proofs.Yteebnoegeoenbaa
