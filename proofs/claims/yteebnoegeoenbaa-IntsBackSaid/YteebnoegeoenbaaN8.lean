/- The walks of ints.Add and Mul, of what they call, and of the references: sums and products saturate, for arguments within their kinds. -/
import Derived.Test.YteebnoegeoenbaaN2
namespace Go.Proofs.Yteebnoegeoenbaa
open Go.RowKit Go.Gr
set_option linter.unusedVariables false
def clamp (n : Int) : Int := if 9223372036854775807 < n then 9223372036854775807 else if n < -9223372036854775808 then -9223372036854775808 else n
theorem clamp_in {n : Int} (h : -9223372036854775808 ≤ n) (h' : n ≤ 9223372036854775807) : clamp n = n := by rw [clamp, if_neg (by omega), if_neg (by omega)]
theorem clamp_hi {n : Int} (h : 9223372036854775807 < n) : clamp n = 9223372036854775807 := by rw [clamp, if_pos h]
theorem clamp_lo {n : Int} (h : n < -9223372036854775808) : clamp n = -9223372036854775808 := by rw [clamp, if_neg (by omega), if_pos h]
def withinV (n : Int) (f s : Bool) : Int := if f then n else if s then -9223372036854775808 else 9223372036854775807
theorem within_any (n : Int) (f s : Bool) (w : World) : Calls Try.prog 44 #[.int .i64 n, .bool f, .bool s] w fun e w' => e = .returned (.int .i64 (withinV n f s)) ∧ w = w' := by
  cases f <;> cases s
  all_goals
    go_enter Try.func44, Try.ntmps44
    go_wp2
    go_ret
    exact ⟨ret_int (by simp [withinV]), rfl⟩
set_option maxHeartbeats 400000 in
theorem add_any (a b : Int) (w : World) (h1 : -9223372036854775808 ≤ a) (h2 : a ≤ 9223372036854775807) (h3 : -9223372036854775808 ≤ b) (h4 : b ≤ 9223372036854775807) :
    Calls Try.prog 35 #[.int .i64 a, .int .i64 b] w fun e w' => e = .returned (.int .i64 (clamp (a + b))) ∧ w = w' := by
  rcases Int.lt_or_le a 0 with ha | ha <;> rcases Int.lt_or_le b 0 with hb | hb
  all_goals
    go_enter Try.func35, Try.ntmps35
    go_wp2_with (go_at_call 44; refine (within_any _ _ _ _).mono ?_; rintro e w1 ⟨rfl, rfl⟩)
    go_ret
    refine ⟨ret_int ?_, rfl⟩
    simp only [withinV, clamp, wrap64]
    (repeat' split) <;> simp_all <;> omega
set_option maxHeartbeats 400000 in
theorem radd_any (a b : Int) (w : World) (h1 : -9223372036854775808 ≤ a) (h2 : a ≤ 9223372036854775807) (h3 : -9223372036854775808 ≤ b) (h4 : b ≤ 9223372036854775807) :
    Calls Try.prog 36 #[.int .i64 a, .int .i64 b] w fun e w' => e = .returned (.int .i64 (clamp (a + b))) ∧ w = w' := by
  rcases (show -9223372036854775808 ≤ a + b ∧ a + b ≤ 9223372036854775807 ∨ 9223372036854775807 < a + b ∨ a + b < -9223372036854775808 by omega) with ⟨h5, h6⟩ | h5 | h5
  · have HC := hide (clamp_in h5 h6)
    rcases (show b < 0 ∨ b = 0 ∨ 0 < b by omega) with hb | hb | hb
    · go_enter Try.func36, Try.ntmps36
      go_wp2
      go_ret
      exact ⟨ret_int HC.out.symm, rfl⟩
    · subst hb
      go_enter Try.func36, Try.ntmps36
      go_wp2
      go_ret
      exact ⟨ret_int (by rw [HC.out]; simp), rfl⟩
    · go_enter Try.func36, Try.ntmps36
      go_wp2
      go_ret
      exact ⟨ret_int HC.out.symm, rfl⟩
  · have HC := hide (clamp_hi h5)
    have hb : 0 < b := by omega
    go_enter Try.func36, Try.ntmps36
    go_wp2
    go_ret
    exact ⟨ret_int HC.out.symm, rfl⟩
  · have HC := hide (clamp_lo h5)
    have hb : b < 0 := by omega
    go_enter Try.func36, Try.ntmps36
    go_wp2
    go_ret
    exact ⟨ret_int HC.out.symm, rfl⟩
def absv (n : Int) : Int := if n < 0 then -n else n
theorem size_any (n : Int) (w : World) (h1 : -9223372036854775808 ≤ n) (h2 : n ≤ 9223372036854775807) :
    Calls Try.prog 46 #[.int .i64 n] w fun e w' => e = .returned (.int .u64 (absv n)) ∧ w = w' := by
  rcases Int.lt_or_le n 0 with h | h
  all_goals
    go_enter Try.func46, Try.ntmps46
    go_wp2
    go_ret
    exact ⟨ret_int (by rw [absv]; first | rw [if_pos h] | rw [if_neg (by omega)]
                       first | done | omega | (simp only [IntKind.wrap_u64]; omega)), rfl⟩
theorem rsize_any (n : Int) (w : World) (h1 : -9223372036854775808 ≤ n) (h2 : n ≤ 9223372036854775807) :
    Calls Try.prog 47 #[.int .i64 n] w fun e w' => e = .returned (.int .u64 (absv n)) ∧ w = w' := by
  rcases Int.lt_or_le n 0 with h | h
  all_goals
    go_enter Try.func47, Try.ntmps47
    go_wp2
    go_ret
    exact ⟨ret_int (by rw [absv]; first | rw [if_pos h] | rw [if_neg (by omega)]
                       first | done | omega | (simp only [IntKind.wrap_u64]; omega)), rfl⟩
theorem mul64_any (x y : Int) (w : World) (h1 : 0 ≤ x) (h2 : x < 18446744073709551616) (h3 : 0 ≤ y) (h4 : y < 18446744073709551616) :
    Calls Try.prog 45 #[.int .u64 x, .int .u64 y] w fun e w' => e = .returned (.tuple #[.int .u64 (x * y / 18446744073709551616), .int .u64 (x * y % 18446744073709551616)]) ∧ w = w' := by
  go_enter Try.func45, Try.ntmps45
  go_wp2
  go_ret2
  refine ⟨ret_int2 ?_ ?_, rfl⟩
  · have e1 := and_low32 x h1 h2
    have e2 := and_low32 y h3 h4
    rw [e1, e2, and_low32 _ (by rw [IntKind.wrap_u64]; omega) (by rw [IntKind.wrap_u64]; omega)]
    simp only [IntKind.wrap_u64]
    rw [← mul64_arith x y h1 h2 h3 h4]
  · rw [IntKind.wrap_u64]

theorem absv_mul (a b : Int) : absv a * absv b = absv (a * b) := by
  unfold absv
  rcases Int.lt_trichotomy a 0 with ha | rfl | ha <;> rcases Int.lt_trichotomy b 0 with hb | rfl | hb
  · have := Int.mul_pos_of_neg_of_neg ha hb
    rw [if_pos ha, if_pos hb, if_neg (by omega), Int.neg_mul_neg]
  · simp
  · have := Int.mul_neg_of_neg_of_pos ha hb
    rw [if_pos ha, if_neg (by omega), if_pos this, Int.neg_mul]
  · simp
  · simp
  · simp
  · have := Int.mul_neg_of_pos_of_neg ha hb
    rw [if_neg (by omega), if_pos hb, if_pos this, Int.mul_neg]
  · simp
  · have := Int.mul_pos ha hb
    rw [if_neg (by omega), if_neg (by omega), if_neg (by omega)]
theorem absv_nn (a : Int) : 0 ≤ absv a := by unfold absv; split <;> omega
theorem absv_le (a : Int) (h1 : -9223372036854775808 ≤ a) (h2 : a ≤ 9223372036854775807) : absv a < 18446744073709551616 := by unfold absv; split <;> omega
theorem mul_sign (a b : Int) : (a < 0 ∧ b < 0 → 0 < a * b) ∧ (a < 0 ∧ 0 ≤ b → a * b ≤ 0) ∧ (0 ≤ a ∧ b < 0 → a * b ≤ 0) ∧ (0 ≤ a ∧ 0 ≤ b → 0 ≤ a * b) :=
  ⟨fun h => Int.mul_pos_of_neg_of_neg h.1 h.2, fun h => Int.mul_nonpos_of_nonpos_of_nonneg (by omega) h.2, fun h => Int.mul_nonpos_of_nonneg_of_nonpos h.1 (by omega), fun h => Int.mul_nonneg h.1 h.2⟩
theorem mul_p1 (p q : Int) (h : 0 ≤ p) (hq : q = absv p) (h0 : q / 18446744073709551616 = 0) : withinV (wrap64 p) (decide (q % 18446744073709551616 ≤ 9223372036854775807)) false = clamp p := by
  subst hq
  rw [absv, if_neg (by omega)] at *
  by_cases h2 : p ≤ 9223372036854775807
  · have : p % 18446744073709551616 ≤ 9223372036854775807 := by omega
    rw [clamp_in (by omega) h2, IntWalk.wrap64_in p (by omega)]; simp [withinV, this]
  · have : ¬ p % 18446744073709551616 ≤ 9223372036854775807 := by omega
    rw [clamp_hi (by omega)]; simp [withinV, this]
theorem mul_p2 (p q : Int) (h : 0 ≤ p) (hq : q = absv p) (h0 : ¬ q / 18446744073709551616 = 0) : withinV (wrap64 p) false false = clamp p := by
  subst hq
  rw [absv, if_neg (by omega)] at *
  rw [clamp_hi (by omega)]; simp [withinV]
theorem mul_n1 (p q : Int) (h : p ≤ 0) (hq : q = absv p) (h0 : q / 18446744073709551616 = 0) : withinV (wrap64 p) (decide (q % 18446744073709551616 ≤ 9223372036854775808)) true = clamp p := by
  subst hq
  have e : absv p = -p := by unfold absv; split <;> omega
  rw [e] at h0 ⊢
  by_cases h2 : -9223372036854775808 ≤ p
  · have : -p % 18446744073709551616 ≤ 9223372036854775808 := by omega
    rw [clamp_in h2 (by omega), IntWalk.wrap64_in p (by omega)]; simp [withinV, this]
  · have : ¬ -p % 18446744073709551616 ≤ 9223372036854775808 := by omega
    rw [clamp_lo (by omega)]; simp [withinV, this]
theorem mul_n2 (p q : Int) (h : p ≤ 0) (hq : q = absv p) (h0 : ¬ q / 18446744073709551616 = 0) : withinV (wrap64 p) false true = clamp p := by
  subst hq
  have e : absv p = -p := by unfold absv; split <;> omega
  rw [e] at h0
  rw [clamp_lo (by omega)]; simp [withinV]
set_option maxHeartbeats 400000 in
theorem mul_any (a b : Int) (w : World) (h1 : -9223372036854775808 ≤ a) (h2 : a ≤ 9223372036854775807) (h3 : -9223372036854775808 ≤ b) (h4 : b ≤ 9223372036854775807) :
    Calls Try.prog 37 #[.int .i64 a, .int .i64 b] w fun e w' => e = .returned (.int .i64 (clamp (a * b))) ∧ w = w' := by
  have HS := hide (mul_sign a b)
  have HM := hide (absv_mul a b)
  have n1 := absv_nn a
  have n2 := absv_nn b
  have l1 := absv_le a h1 h2
  have l2 := absv_le b h3 h4
  rcases Int.lt_or_le a 0 with ha | ha <;> rcases Int.lt_or_le b 0 with hb | hb
  · have da : decide (a < 0) = true := by simpa using ha
    have db : decide (b < 0) = true := by simpa using hb
    go_enter Try.func37, Try.ntmps37
    go_wp2_with (first
      | (go_at_call 46; refine (size_any _ _ (by omega) (by omega)).mono ?_; rintro e w1 ⟨rfl, rfl⟩)
      | (go_at_call 45; refine (mul64_any _ _ _ (by omega) (by omega) (by omega) (by omega)).mono ?_; rintro e w1 ⟨rfl, rfl⟩)
      | (go_at_call 44; refine (within_any _ _ _ _).mono ?_; rintro e w1 ⟨rfl, rfl⟩))
    all_goals go_ret
    · exact ⟨ret_int (mul_p1 _ _ (Int.le_of_lt (HS.out.1 ⟨ha, hb⟩)) HM.out ‹_›), rfl⟩
    · exact ⟨ret_int (mul_p2 _ _ (Int.le_of_lt (HS.out.1 ⟨ha, hb⟩)) HM.out ‹_›), rfl⟩
  · have da : decide (a < 0) = true := by simpa using ha
    have db : decide (b < 0) = false := by simpa using hb
    go_enter Try.func37, Try.ntmps37
    go_wp2_with (first
      | (go_at_call 46; refine (size_any _ _ (by omega) (by omega)).mono ?_; rintro e w1 ⟨rfl, rfl⟩)
      | (go_at_call 45; refine (mul64_any _ _ _ (by omega) (by omega) (by omega) (by omega)).mono ?_; rintro e w1 ⟨rfl, rfl⟩)
      | (go_at_call 44; refine (within_any _ _ _ _).mono ?_; rintro e w1 ⟨rfl, rfl⟩))
    all_goals go_ret
    · exact ⟨ret_int (mul_n1 _ _ (HS.out.2.1 ⟨ha, hb⟩) HM.out ‹_›), rfl⟩
    · exact ⟨ret_int (mul_n2 _ _ (HS.out.2.1 ⟨ha, hb⟩) HM.out ‹_›), rfl⟩
  · have da : decide (a < 0) = false := by simpa using ha
    have db : decide (b < 0) = true := by simpa using hb
    go_enter Try.func37, Try.ntmps37
    go_wp2_with (first
      | (go_at_call 46; refine (size_any _ _ (by omega) (by omega)).mono ?_; rintro e w1 ⟨rfl, rfl⟩)
      | (go_at_call 45; refine (mul64_any _ _ _ (by omega) (by omega) (by omega) (by omega)).mono ?_; rintro e w1 ⟨rfl, rfl⟩)
      | (go_at_call 44; refine (within_any _ _ _ _).mono ?_; rintro e w1 ⟨rfl, rfl⟩))
    all_goals go_ret
    · exact ⟨ret_int (mul_n1 _ _ (HS.out.2.2.1 ⟨ha, hb⟩) HM.out ‹_›), rfl⟩
    · exact ⟨ret_int (mul_n2 _ _ (HS.out.2.2.1 ⟨ha, hb⟩) HM.out ‹_›), rfl⟩
  · have da : decide (a < 0) = false := by simpa using ha
    have db : decide (b < 0) = false := by simpa using hb
    go_enter Try.func37, Try.ntmps37
    go_wp2_with (first
      | (go_at_call 46; refine (size_any _ _ (by omega) (by omega)).mono ?_; rintro e w1 ⟨rfl, rfl⟩)
      | (go_at_call 45; refine (mul64_any _ _ _ (by omega) (by omega) (by omega) (by omega)).mono ?_; rintro e w1 ⟨rfl, rfl⟩)
      | (go_at_call 44; refine (within_any _ _ _ _).mono ?_; rintro e w1 ⟨rfl, rfl⟩))
    all_goals go_ret
    · exact ⟨ret_int (mul_p1 _ _ (HS.out.2.2.2 ⟨ha, hb⟩) HM.out ‹_›), rfl⟩
    · exact ⟨ret_int (mul_p2 _ _ (HS.out.2.2.2 ⟨ha, hb⟩) HM.out ‹_›), rfl⟩

theorem quo_gt (x y L : Int) (hy : 0 < y) : (L / y < x) ↔ L < x * y := by
  rw [Int.ediv_lt_iff_lt_mul hy]
theorem rmul_p (a b : Int) (hb : 1 ≤ absv b) (h : 0 ≤ a * b) : (9223372036854775807 / absv b < absv a → (9223372036854775807 : Int) = clamp (a * b)) ∧ (absv a ≤ 9223372036854775807 / absv b → wrap64 (a * b) = clamp (a * b)) := by
  have hq := quo_gt (absv a) (absv b) 9223372036854775807 (by omega)
  have e : absv (a * b) = a * b := by rw [absv, if_neg (by omega)]
  rw [absv_mul, e] at hq
  constructor
  · intro h1; rw [clamp_hi (hq.1 h1)]
  · intro h1
    have : ¬ (9223372036854775807 < a * b) := fun h2 => by have := hq.2 h2; omega
    rw [clamp_in (by omega) (by omega), IntWalk.wrap64_in _ (by omega)]
theorem rmul_n (a b : Int) (hb : 1 ≤ absv b) (h : a * b ≤ 0) : (9223372036854775808 / absv b < absv a → (-9223372036854775808 : Int) = clamp (a * b)) ∧ (absv a ≤ 9223372036854775808 / absv b → wrap64 (a * b) = clamp (a * b)) := by
  have hq := quo_gt (absv a) (absv b) 9223372036854775808 (by omega)
  have e : absv (a * b) = -(a * b) := by unfold absv; split <;> omega
  rw [absv_mul, e] at hq
  constructor
  · intro h1; have := hq.1 h1; rw [clamp_lo (by omega)]
  · intro h1
    have : ¬ (9223372036854775808 < -(a * b)) := fun h2 => by have := hq.2 h2; omega
    rw [clamp_in (by omega) (by omega), IntWalk.wrap64_in _ (by omega)]
set_option maxHeartbeats 800000 in
theorem rmul_any (a b : Int) (w : World) (h1 : -9223372036854775808 ≤ a) (h2 : a ≤ 9223372036854775807) (h3 : -9223372036854775808 ≤ b) (h4 : b ≤ 9223372036854775807) :
    Calls Try.prog 38 #[.int .i64 a, .int .i64 b] w fun e w' => e = .returned (.int .i64 (clamp (a * b))) ∧ w = w' := by
  by_cases h0 : a = 0 ∨ b = 0
  · have HC : Hid (clamp (a * b) = 0) := by rcases h0 with rfl | rfl <;> simp <;> exact hide rfl
    by_cases ha : a = 0
    · subst ha
      rw [HC.out]
      go_enter Try.func38, Try.ntmps38
      go_wp2
      go_ret
      exact ⟨rfl, rfl⟩
    · obtain rfl : b = 0 := by omega
      clear h0
      rw [HC.out]
      have ha' : (a == 0) = false := by simpa using ha
      go_enter Try.func38, Try.ntmps38
      go_wp2
      go_ret
      exact ⟨rfl, rfl⟩
  · have ha' : (a == 0) = false := by simp; omega
    have hb' : (b == 0) = false := by simp; omega
    have n1 := absv_nn a
    have n2 : 1 ≤ absv b := by unfold absv; split <;> omega
    have l1 := absv_le a h1 h2
    have l2 := absv_le b h3 h4
    have HS := hide (mul_sign a b)
    clear h0
    rcases Int.lt_or_le a 0 with ha | ha <;> rcases Int.lt_or_le b 0 with hb | hb
    · have da : decide (a < 0) = true := by simpa using ha
      have db : decide (b < 0) = true := by simpa using hb
      have HW := hide (rmul_p a b n2 (Int.le_of_lt (HS.out.1 ⟨ha, hb⟩)))
      go_enter Try.func38, Try.ntmps38
      go_wp2_with (go_at_call 47; refine (rsize_any _ _ (by omega) (by omega)).mono ?_; rintro e w1 ⟨rfl, rfl⟩)
      all_goals go_ret
      · exact ⟨ret_int (HW.out.1 ‹_›), rfl⟩
      · exact ⟨ret_int (HW.out.2 ‹_›), rfl⟩
    · have da : decide (a < 0) = true := by simpa using ha
      have db : decide (b < 0) = false := by simpa using hb
      have HW := hide (rmul_n a b n2 (HS.out.2.1 ⟨ha, hb⟩))
      go_enter Try.func38, Try.ntmps38
      go_wp2_with (go_at_call 47; refine (rsize_any _ _ (by omega) (by omega)).mono ?_; rintro e w1 ⟨rfl, rfl⟩)
      all_goals go_ret
      · exact ⟨ret_int (HW.out.1 ‹_›), rfl⟩
      · exact ⟨ret_int (HW.out.2 ‹_›), rfl⟩
    · have da : decide (a < 0) = false := by simpa using ha
      have db : decide (b < 0) = true := by simpa using hb
      have HW := hide (rmul_n a b n2 (HS.out.2.2.1 ⟨ha, hb⟩))
      go_enter Try.func38, Try.ntmps38
      go_wp2_with (go_at_call 47; refine (rsize_any _ _ (by omega) (by omega)).mono ?_; rintro e w1 ⟨rfl, rfl⟩)
      all_goals go_ret
      · exact ⟨ret_int (HW.out.1 ‹_›), rfl⟩
      · exact ⟨ret_int (HW.out.2 ‹_›), rfl⟩
    · have da : decide (a < 0) = false := by simpa using ha
      have db : decide (b < 0) = false := by simpa using hb
      have HW := hide (rmul_p a b n2 (HS.out.2.2.2 ⟨ha, hb⟩))
      go_enter Try.func38, Try.ntmps38
      go_wp2_with (go_at_call 47; refine (rsize_any _ _ (by omega) (by omega)).mono ?_; rintro e w1 ⟨rfl, rfl⟩)
      all_goals go_ret
      · exact ⟨ret_int (HW.out.1 ‹_›), rfl⟩
      · exact ⟨ret_int (HW.out.2 ‹_›), rfl⟩
end Go.Proofs.Yteebnoegeoenbaa
