/- The walks of ints.Shift and of the reference: each returns what the plain function says, for arguments within their kinds. -/
import Derived.Test.YteebnoegeoenbaaN8
import Derived.Test.YteebnoegeoenbaaNQ
namespace Go.Proofs.Yteebnoegeoenbaa
open Go.RowKit Go.Gr
set_option linter.unusedVariables false
def shiftV (a k : Int) : Int := if k < 0 then a / 2 ^ (-k).toNat else clamp (a * 2 ^ k.toNat)
theorem div_small (a : Int) (j : Nat) (h1 : -9223372036854775808 ≤ a) (h2 : a ≤ 9223372036854775807) (hj : 63 ≤ j) : a / 2 ^ j = a / 9223372036854775808 := by
  have hp : (9223372036854775808 : Int) ≤ 2 ^ j := by
    obtain ⟨c, rfl⟩ := Nat.le.dest hj
    rw [Int.pow_add]
    have := pow_pos2 c
    have h := Int.mul_le_mul_of_nonneg_left (show (1 : Int) ≤ 2 ^ c by omega) (show (0 : Int) ≤ 2 ^ 63 by decide)
    rw [Int.mul_one] at h
    exact h
  have hc := ediv_cases a (2 ^ j) (pow_pos2 j)
  rcases Int.lt_or_le a 0 with h | h
  · rw [hc.2.2 ⟨by omega, h⟩]; omega
  · rw [hc.1.2 ⟨h, by omega⟩]; omega
theorem shl_big (a : Int) (j : Nat) (hj : 64 ≤ j) (h0 : a ≠ 0) : clamp (a * 2 ^ j) = if a < 0 then -9223372036854775808 else 9223372036854775807 := by
  have hp : (18446744073709551616 : Int) ≤ 2 ^ j := by
    obtain ⟨c, rfl⟩ := Nat.le.dest hj
    rw [Int.pow_add]
    have := pow_pos2 c
    have h := Int.mul_le_mul_of_nonneg_left (show (1 : Int) ≤ 2 ^ c by omega) (show (0 : Int) ≤ 2 ^ 64 by decide)
    rw [Int.mul_one] at h
    exact h
  split
  · have := Int.mul_le_mul_of_nonneg_right (show a ≤ -1 by omega) (show (0 : Int) ≤ 2 ^ j by omega)
    exact clamp_lo (by omega)
  · have := Int.mul_le_mul_of_nonneg_right (show 1 ≤ a by omega) (show (0 : Int) ≤ 2 ^ j by omega)
    exact clamp_hi (by omega)
theorem shl_mid (a : Int) (j : Nat) (hj : j ≤ 63) (h1 : -9223372036854775808 ≤ a) (h2 : a ≤ 9223372036854775807) :
    withinV (wrap64 (a * 2 ^ j)) (wrap64 (a * 2 ^ j) / 2 ^ j == a) (decide (a < 0)) = clamp (a * 2 ^ j) := by
  have hp := pow_pos2 j
  have hpw := pow_mul64 j (by omega)
  have hm := Int.mul_ediv_cancel a (show (2 : Int) ^ j ≠ 0 by omega)
  by_cases hin : -9223372036854775808 ≤ a * 2 ^ j ∧ a * 2 ^ j ≤ 9223372036854775807
  · rw [IntWalk.wrap64_in _ hin, hm, clamp_in hin.1 hin.2]; simp [withinV]
  · have hne : ¬ wrap64 (a * 2 ^ j) / 2 ^ j = a := by
      intro e
      have hd := Int.mul_ediv_add_emod (wrap64 (a * 2 ^ j)) (2 ^ j)
      have hw : ∃ t, wrap64 (a * 2 ^ j) = a * 2 ^ j - 18446744073709551616 * t := ⟨(a * 2 ^ j + 9223372036854775808) / 18446744073709551616, by unfold wrap64; omega⟩
      obtain ⟨t, ht⟩ := hw
      have hr : wrap64 (a * 2 ^ j) % 2 ^ j = 0 := by
        rw [ht, ← hpw, Int.mul_assoc, Int.sub_emod, Int.mul_emod_left, Int.mul_emod_right]; simp
      rw [e, hr] at hd
      have hb : -9223372036854775808 ≤ wrap64 (a * 2 ^ j) ∧ wrap64 (a * 2 ^ j) ≤ 9223372036854775807 := by unfold wrap64; omega
      rw [← hd, Int.mul_comm (2 ^ j) a] at hb
      omega
    have hf : (wrap64 (a * 2 ^ j) / 2 ^ j == a) = false := by simpa using hne
    rw [hf]
    rcases Int.lt_or_le a 0 with h | h
    · have := Int.mul_nonpos_of_nonpos_of_nonneg (Int.le_of_lt h) (Int.le_of_lt hp)
      rw [clamp_lo (by omega)]; simp [withinV, h]
    · have := Int.mul_nonneg h (Int.le_of_lt hp)
      rw [clamp_hi (by omega)]; simp [withinV]; omega
theorem within_q (n : Int) (f s : Bool) (w : World) : Calls Try.prog 44 #[.int .i64 n, .bool f, .bool s] w fun e w' => e = .returned (.int .i64 (withinV n f s)) ∧ w' = w :=
  (within_any n f s w).mono fun _ _ ⟨a, b⟩ => ⟨a, b.symm⟩
set_option maxHeartbeats 400000 in
theorem shift_any (a k : Int) (w : World) (h1 : -9223372036854775808 ≤ a) (h2 : a ≤ 9223372036854775807) (h3 : -9223372036854775808 ≤ k) (h4 : k ≤ 9223372036854775807) :
    Calls Try.prog 39 #[.int .i64 a, .int .i64 k] w (RetQ w (.int .i64 (shiftV a k))) := by
  rcases (show k < -63 ∨ (-63 ≤ k ∧ k < 0) ∨ (0 ≤ k ∧ a = 0) ∨ (64 ≤ k ∧ a ≠ 0) ∨ (0 ≤ k ∧ k < 64 ∧ a ≠ 0) by omega) with h | ⟨h, h'⟩ | ⟨h, h'⟩ | ⟨h, h'⟩ | ⟨h, h', h''⟩
  · have HV : Hid (shiftV a k = a / 9223372036854775808) := by rw [shiftV, if_pos (by omega), div_small a _ h1 h2 (by omega)]; exact hide rfl
    go_enter Try.func39, Try.ntmps39
    go_wp2
    all_goals go_ret
    all_goals exact RetQ.same (vint HV.out.symm)
  · have HV : Hid (shiftV a k = a / 2 ^ (-k).toNat) := by rw [shiftV, if_pos h']; exact hide rfl
    go_enter Try.func39, Try.ntmps39
    go_wp2
    go_ret
    exact RetQ.same (vint HV.out.symm)
  · have HV : Hid (shiftV a k = 0) := by rw [shiftV, if_neg (by omega), h', Int.zero_mul]; exact hide (clamp_in (by decide) (by decide))
    rw [HV.out]
    subst h'
    go_enter Try.func39, Try.ntmps39
    go_wp2
    go_ret
    exact RetQ.same rfl
  · have ha' : (a == 0) = false := by simpa using h'
    have HV : Hid (shiftV a k = withinV a false (decide (a < 0))) := by rw [shiftV, if_neg (by omega), shl_big a _ (by omega) h']; simp [withinV]; exact hide trivial
    go_enter Try.func39, Try.ntmps39
    go_wp2_with (go_at_call 44; refine (within_any _ _ _ _).mono ?_; rintro e w1 ⟨rfl, rfl⟩)
    go_ret
    exact RetQ.same (vint HV.out.symm)
  · obtain ⟨k, rfl⟩ := Int.eq_ofNat_of_zero_le h
    have ha' : (a == 0) = false := by simpa using h''
    have HV : Hid (shiftV a k = clamp (a * 2 ^ k)) := by rw [shiftV, if_neg (by omega), Int.toNat_natCast]; exact hide rfl
    go_enter Try.func39, Try.ntmps39
    go_wp2
    go_quiet ((go_at_call 44; exact Calls.quiet_of_same (within_q _ _ _ _)))
    go_wp2
    go_ret
    exact RetQ.mk _ (vint (by rw [HV.out, ← shl_mid a k (by omega) h1 h2]))

theorem clamp_big (a c : Int) (hc : 1 ≤ c) (h : 9223372036854775807 ≤ a) : clamp (a * c) = 9223372036854775807 := by
  have := Int.mul_le_mul_of_nonneg_left hc (show 0 ≤ a by omega)
  unfold clamp; split
  · rfl
  · split <;> omega
theorem clamp_small (a c : Int) (hc : 1 ≤ c) (h : a ≤ -9223372036854775808) : clamp (a * c) = -9223372036854775808 := by
  have := Int.mul_le_mul_of_nonneg_left hc (show 0 ≤ -a by omega)
  simp only [Int.neg_mul, Int.mul_one] at this
  unfold clamp; split
  · omega
  · split <;> omega
theorem clamp_step (a : Int) (j : Nat) : clamp (clamp (a * 2) * 2 ^ j) = clamp (a * 2 ^ (j + 1)) := by
  have hp := pow_pos2 j
  have e : a * 2 ^ (j + 1) = a * 2 * 2 ^ j := by rw [Int.pow_succ, Int.mul_comm (2 ^ j) 2, ← Int.mul_assoc]
  rw [e]
  by_cases h1 : 9223372036854775807 < a * 2
  · rw [clamp_hi h1, clamp_big _ _ (by omega) (by omega), clamp_big _ _ (by omega) (by omega)]
  · by_cases h2 : a * 2 < -9223372036854775808
    · rw [clamp_lo h2, clamp_small _ _ (by omega) (by omega), clamp_small _ _ (by omega) (by omega)]
    · rw [clamp_in (n := a * 2) (by omega) (by omega)]
theorem clamp_range (n : Int) : -9223372036854775808 ≤ clamp n ∧ clamp n ≤ 9223372036854775807 := by
  unfold clamp; split
  · omega
  · split <;> omega
theorem tdiv_neg2 (a : Int) (h : a < 0) : (a + 1).tdiv 2 = -(-(a + 1) / 2) := by
  have : (a + 1) = - -(a + 1) := by omega
  rw [this, Int.neg_tdiv, Int.tdiv_eq_ediv_of_nonneg (by omega)]; omega
set_option maxHeartbeats 800000 in
theorem rshift_up (a k : Int) (w : World) (h1 : -9223372036854775808 ≤ a) (h2 : a ≤ 9223372036854775807) (h3 : 0 ≤ k) (h4 : k ≤ 9223372036854775807) :
    Calls Try.prog 40 #[.int .i64 a, .int .i64 k] w fun e w' => e = .returned (.int .i64 (clamp (a * 2 ^ k.toNat))) ∧ w = w' := by
  go_enter Try.func40, Try.ntmps40
  go_wp2
  go_loop [0, 1] (fun x y => ∃ a1 j : Int, x = .int .i64 a1 ∧ y = .int .i64 j ∧ -9223372036854775808 ≤ a1 ∧ a1 ≤ 9223372036854775807 ∧ 0 ≤ j ∧ j ≤ 9223372036854775807 ∧ Hid (clamp (a1 * 2 ^ j.toNat) = clamp (a * 2 ^ k.toNat))) (fun _ y => (intOf y).toNat)
  case atStart => exact ⟨a, k, rfl, rfl, h1, h2, h3, h4, hide rfl⟩
  case round =>
    obtain ⟨a1, j, rfl, rfl, b1, b2, b0, b3, HC⟩ := hrel
    by_cases hgo : 0 < j ∧ a1 ≠ 0 ∧ a1 ≠ 9223372036854775807 ∧ a1 ≠ -9223372036854775808
    · obtain ⟨g1, g2', g3', g4'⟩ := hgo
      have g2 : (a1 != 0) = true := by simpa using g2'
      have g3 : (a1 != 9223372036854775807) = true := by simpa using g3'
      have g4 : (a1 != -9223372036854775808) = true := by simpa using g4'
      clear g2' g3' g4'
      have HST : Hid (clamp (clamp (a1 * 2) * 2 ^ (j - 1).toNat) = clamp (a1 * 2 ^ j.toNat)) := by
        rw [clamp_step, show (j - 1).toNat + 1 = j.toNat by omega]; exact hide rfl
      have hr := clamp_range (a1 * 2)
      go_wp2_with (go_at_call 38; refine (rmul_any _ _ _ (by omega) (by omega) (by omega) (by omega)).mono ?_; rintro e w1 ⟨rfl, rfl⟩)
      go_round
      case rel => exact ⟨_, j - 1, rfl, rfl, hr.1, hr.2, by omega, by omega, hide (HST.out.trans HC.out)⟩
      case measure => simp [intOf]; omega
    · have HR : Hid (clamp (a * 2 ^ k.toNat) = a1) := by
        rw [← HC.out]
        have hp := pow_pos2 j.toNat
        rcases (show j = 0 ∨ a1 = 0 ∨ a1 = 9223372036854775807 ∨ a1 = -9223372036854775808 by omega) with rfl | rfl | rfl | rfl
        · rw [show (0 : Int).toNat = 0 from rfl, Int.pow_zero, Int.mul_one]; exact hide (clamp_in b1 b2)
        · rw [Int.zero_mul]; exact hide (clamp_in (by decide) (by decide))
        · exact hide (clamp_big _ _ (by omega) (by omega))
        · exact hide (clamp_small _ _ (by omega) (by omega))
      rcases (show j = 0 ∨ (0 < j ∧ a1 = 0) ∨ (0 < j ∧ a1 = 9223372036854775807) ∨ (0 < j ∧ a1 = -9223372036854775808) by omega) with rfl | ⟨g1, rfl⟩ | ⟨g1, rfl⟩ | ⟨g1, rfl⟩
      all_goals
        clear hgo
        go_wp2
        refine wp_loop_once ?_
        go_wp2
        go_ret
        exact ⟨ret_int HR.out.symm, rfl⟩
set_option maxHeartbeats 800000 in
theorem rshift_down (a k : Int) (w : World) (hk : k < 0) (h1 : -9223372036854775808 ≤ a) (h2 : a ≤ 9223372036854775807) (h4 : -9223372036854775808 ≤ k) :
    Calls Try.prog 40 #[.int .i64 a, .int .i64 k] w fun e w' => e = .returned (.int .i64 (a / 2 ^ (-k).toNat)) ∧ w = w' := by
  go_enter Try.func40, Try.ntmps40
  go_wp2
  refine wp_loop_once ?_
  go_wp2
  go_loop [0, 1] (fun x y => ∃ a1 j : Int, x = .int .i64 a1 ∧ y = .int .i64 j ∧ -9223372036854775808 ≤ a1 ∧ a1 ≤ 9223372036854775807 ∧ -9223372036854775808 ≤ j ∧ j ≤ 0 ∧ Hid (a1 / 2 ^ (-j).toNat = a / 2 ^ (-k).toNat)) (fun _ y => (- intOf y).toNat)
  case atStart => exact ⟨a, k, rfl, rfl, h1, h2, h4, by omega, hide rfl⟩
  case round =>
    obtain ⟨a1, j, rfl, rfl, b1, b2, b0, b3, HC⟩ := hrel
    by_cases hgo : j < 0 ∧ a1 ≠ 0 ∧ a1 ≠ -1
    · obtain ⟨g1, g2', g3'⟩ := hgo
      have g2 : (a1 != 0) = true := by simpa using g2'
      have g3 : (a1 != -1) = true := by simpa using g3'
      clear g2' g3'
      have HST : Hid (a1 / 2 / 2 ^ (-(j + 1)).toNat = a1 / 2 ^ (-j).toNat) := by
        rw [show (-j).toNat = (-(j + 1)).toNat + 1 by omega, Int.pow_succ, Int.mul_comm, Int.ediv_ediv_of_nonneg (by decide)]; exact hide rfl
      rcases Int.lt_or_le a1 0 with hs | hs
      · go_wp2
        go_round
        case rel => exact ⟨a1 / 2, j + 1, vint (by have e := tdiv_neg2 a1 hs; rw [e]; unfold wrap64; omega), rfl, by omega, by omega, by omega, by omega, hide (HST.out.trans HC.out)⟩
        case measure => simp [intOf]; omega
      · go_wp2
        go_round
        case rel => exact ⟨a1 / 2, j + 1, rfl, rfl, by omega, by omega, by omega, by omega, hide (HST.out.trans HC.out)⟩
        case measure => simp [intOf]; omega
    · have HR : Hid (a / 2 ^ (-k).toNat = a1) := by
        rw [← HC.out]
        rcases (show j = 0 ∨ a1 = 0 ∨ a1 = -1 by omega) with rfl | rfl | rfl
        · rw [show (-(0 : Int)).toNat = 0 from rfl, Int.pow_zero, Int.ediv_one]; exact hide rfl
        · rw [Int.zero_ediv]; exact hide rfl
        · have hp := pow_pos2 (-j).toNat
          exact hide ((ediv_cases (-1) _ hp).2.2 ⟨by omega, by decide⟩)
      rcases (show j = 0 ∨ (j < 0 ∧ a1 = 0) ∨ (j < 0 ∧ a1 = -1) by omega) with rfl | ⟨g1, rfl⟩ | ⟨g1, rfl⟩
      all_goals
        clear hgo
        go_wp2
        go_ret
        exact ⟨ret_int HR.out.symm, rfl⟩
theorem rshift_any (a k : Int) (w : World) (h1 : -9223372036854775808 ≤ a) (h2 : a ≤ 9223372036854775807) (h3 : -9223372036854775808 ≤ k) (h4 : k ≤ 9223372036854775807) :
    Calls Try.prog 40 #[.int .i64 a, .int .i64 k] w fun e w' => e = .returned (.int .i64 (shiftV a k)) ∧ w = w' := by
  rcases Int.lt_or_le k 0 with h | h
  · rw [shiftV, if_pos h]; exact rshift_down a k w h h1 h2 h3
  · rw [shiftV, if_neg (by omega)]; exact rshift_up a k w h1 h2 h h4
end Go.Proofs.Yteebnoegeoenbaa
