/- Plain laws on Widen, on turned bits and on fields of bits. No program in sight. -/
import Derived.Test.YteebnoegeoenbaaNP
namespace Go.Proofs.Yteebnoegeoenbaa
open Go.RowKit Go.Gr
set_option linter.unusedVariables false

/-! ### widen -/
theorem pow_mul64 (b : Nat) (h : b ≤ 64) : (2 : Int) ^ b * 2 ^ (64 - b) = 18446744073709551616 := by
  rw [← Int.pow_add, show b + (64 - b) = 64 by omega]; rfl
theorem widen_s_val (n : Int) (b : Nat) (h1 : 1 ≤ b) (h2 : b ≤ 64) (h0 : 0 ≤ n) (hn : n < 2 ^ b) :
    wrap64 (IntKind.u64.wrap (n * 2 ^ (64 - b))) / 2 ^ (64 - b) = if 2 ^ (b - 1) ≤ n then n - 2 ^ b else n := by
  have hQ := pow_pos2 (64 - b)
  have hm := pow_mul64 b h2
  have hs := pow_succ' b h1
  generalize (2 : Int) ^ (64 - b) = Q at *
  generalize (2 : Int) ^ b = P at *
  generalize (2 : Int) ^ (b - 1) = H at *
  have e1 : H * Q = 9223372036854775808 := by
    rw [hs, Int.mul_assoc] at hm; omega
  have e2 : (n - P) * Q = n * Q - 18446744073709551616 := by rw [Int.sub_mul, hm]
  have e3 := Int.mul_nonneg h0 (Int.le_of_lt hQ)
  have e4 := Int.mul_le_mul_of_nonneg_right (show n ≤ P - 1 by omega) (Int.le_of_lt hQ)
  rw [Int.sub_mul, hm, Int.one_mul] at e4
  rw [IntKind.wrap_u64, Int.emod_eq_of_lt e3 (by omega)]
  split
  · have e5 := Int.mul_le_mul_of_nonneg_right ‹H ≤ n› (Int.le_of_lt hQ)
    have : wrap64 (n * Q) = (n - P) * Q := by unfold wrap64; omega
    rw [this, Int.mul_ediv_cancel _ (by omega)]
  · have e5 := Int.mul_le_mul_of_nonneg_right (show n ≤ H - 1 by omega) (Int.le_of_lt hQ)
    rw [Int.sub_mul, e1, Int.one_mul] at e5
    have : wrap64 (n * Q) = n * Q := by unfold wrap64; omega
    rw [this, Int.mul_ediv_cancel _ (by omega)]
theorem wid_ok (n : Int) (b : Nat) (s : Bool) (h1 : 1 ≤ b) (h2 : b ≤ 64) (hn : n < 2 ^ b) (hs : s = true ∨ n ≤ 9223372036854775807) :
    widE n b s = 0 ∧ widV n b s = if s ∧ 2 ^ (b - 1) ≤ n then n - 2 ^ b else n := by
  have e : widE n b s = 0 := by
    rw [widE, Int.toNat_natCast, if_neg (by omega)]
    rcases hs with h | h
    · rw [h, if_pos rfl]
    · split
      · rfl
      · rw [if_neg (by omega)]
  exact ⟨e, by rw [widV, if_pos e, Int.toNat_natCast]⟩
theorem wid_bad (n b : Int) (s : Bool) (h : ¬ (1 ≤ b ∧ b ≤ 64 ∧ n < 2 ^ b.toNat) ∨ (s = false ∧ 9223372036854775807 < n)) : widV n b s = 0 ∧ widE n b s = 7 := by
  have e : widE n b s = 7 := by
    rw [widE]
    split
    · rfl
    · rcases h with h | h
      · omega
      · rw [h.1, if_neg (by decide), if_pos h.2]
  exact ⟨by rw [widV, e, if_neg (by decide)], e⟩

/-! ### turning -/
def turnN (n b k : Nat) : Nat := (n % 2 ^ (b - k)) * 2 ^ k + n / 2 ^ (b - k)
theorem turn_bit (n b k i : Nat) (hk : k < b) (hn : n < 2 ^ b) : (turnN n b k).testBit i = if i < k then n.testBit (b - k + i) else (decide (i < b) && n.testBit (i - k)) := by
  have hlt : n / 2 ^ (b - k) < 2 ^ k := by
    rw [Nat.div_lt_iff_lt_mul (Nat.two_pow_pos _), ← Nat.pow_add, show k + (b - k) = b by omega]; exact hn
  rw [turnN, Nat.mul_comm, Nat.testBit_two_pow_mul_add _ hlt]
  split
  · rw [Nat.testBit_div_two_pow, Nat.add_comm]
  · rw [Nat.testBit_mod_two_pow]
    congr 1
    by_cases h : i < b
    · rw [decide_eq_true h]; simp; omega
    · rw [decide_eq_false h]; simp; omega
theorem turn_lt (n b k : Nat) (hk : k < b) (hn : n < 2 ^ b) : turnN n b k < 2 ^ b := by
  apply Nat.lt_pow_two_of_testBit
  intro i hi
  rw [turn_bit n b k i hk hn, if_neg (by omega), decide_eq_false (by omega)]; rfl
theorem turn_prog (n b k : Nat) (hb : b ≤ 64) (hk : k < b) (hn : n < 2 ^ b) : ((n * 2 ^ k % 18446744073709551616) ||| n / 2 ^ (b - k)) % 2 ^ b = turnN n b k := by
  apply Nat.eq_of_testBit_eq
  intro i
  rw [turn_bit n b k i hk hn, Nat.testBit_mod_two_pow, Nat.testBit_or, show (18446744073709551616 : Nat) = 2 ^ 64 from rfl, Nat.testBit_mod_two_pow, Nat.testBit_mul_two_pow, Nat.testBit_div_two_pow]
  have hz : ∀ j, b ≤ j → n.testBit j = false := fun j hj => Nat.testBit_lt_two_pow (Nat.lt_of_lt_of_le hn (Nat.pow_le_pow_right (by decide) hj))
  by_cases h1 : i < k
  · rw [if_pos h1, Nat.add_comm]; simp [show i < b by omega, show ¬ k ≤ i by omega]
  · rw [if_neg h1]
    by_cases h2 : i < b
    · simp [h2, show k ≤ i by omega, show i < 64 by omega, hz (i + (b - k)) (by omega)]
    · simp [h2]
def tsum (n b k : Nat) : Nat → Nat
  | 0 => 0
  | i + 1 => tsum n b k i + (n / 2 ^ i % 2) * 2 ^ ((i + k) % b)
theorem mod_succ (n i : Nat) : n % 2 ^ (i + 1) = n % 2 ^ i + (n / 2 ^ i % 2) * 2 ^ i := by
  rw [Nat.pow_succ, Nat.mod_mul, Nat.mul_comm (2 ^ i)]
theorem tsum_low (n b k i : Nat) (hk : k < b) (hi : i ≤ b - k) : tsum n b k i = (n % 2 ^ i) * 2 ^ k := by
  induction i with
  | zero => simp [tsum, Nat.mod_one]
  | succ i ih =>
    rw [tsum, ih (by omega), mod_succ, Nat.mod_eq_of_lt (show i + k < b by omega), Nat.pow_add, Nat.add_mul, Nat.mul_assoc]
theorem tsum_all (n b k i : Nat) (hk : k < b) (hi : i ≤ k) : tsum n b k (b - k + i) = (n % 2 ^ (b - k)) * 2 ^ k + (n / 2 ^ (b - k)) % 2 ^ i := by
  induction i with
  | zero => simp [Nat.mod_one, tsum_low n b k (b - k) hk (Nat.le_refl _)]
  | succ i ih =>
    rw [← Nat.add_assoc, tsum, ih (by omega), mod_succ, Nat.div_div_eq_div_mul, ← Nat.pow_add, show (b - k + i + k) % b = i by
      rw [show b - k + i + k = i + b by omega, Nat.add_mod_right, Nat.mod_eq_of_lt (by omega)], Nat.add_assoc]
theorem tsum_eq (n b k : Nat) (hk : k < b) (hn : n < 2 ^ b) : tsum n b k b = turnN n b k := by
  have h := tsum_all n b k k hk (Nat.le_refl _)
  rw [show b - k + k = b by omega] at h
  rw [h, turnN, Nat.mod_eq_of_lt (a := n / 2 ^ (b - k))]
  rw [Nat.div_lt_iff_lt_mul (Nat.two_pow_pos _), ← Nat.pow_add, show k + (b - k) = b by omega]; exact hn

/-! ### fields -/
theorem field_step (x c : Nat) : 2 * (x / 2 % 2 ^ c) + x % 2 = x % 2 ^ (c + 1) := by
  rw [Nat.pow_succ, Nat.mul_comm (2 ^ c) 2, Nat.mod_mul]; omega
def withN (n a m v : Nat) : Nat := 2 ^ a * (2 ^ m * (n / 2 ^ (a + m)) + v) + n % 2 ^ a
theorem with_bit (n a m v i : Nat) (hv : v < 2 ^ m) : (withN n a m v).testBit i = if a ≤ i ∧ i < a + m then v.testBit (i - a) else n.testBit i := by
  rw [withN, Nat.testBit_two_pow_mul_add _ (Nat.mod_lt _ (Nat.two_pow_pos _))]
  by_cases h : i < a
  · rw [if_pos h, if_neg (by omega), Nat.testBit_mod_two_pow, decide_eq_true h]; rfl
  · rw [if_neg h, Nat.testBit_two_pow_mul_add _ hv]
    by_cases h2 : i - a < m
    · rw [if_pos h2, if_pos (by omega)]
    · rw [if_neg h2, if_neg (by omega), Nat.testBit_div_two_pow]; congr 1; omega
theorem with_prog (n a m v : Nat) (ham : a + m ≤ 64) (hn : n < 2 ^ 64) (hv : v < 2 ^ m) :
    (n &&& (18446744073709551615 - (2 ^ m - 1) * 2 ^ a)) ||| v * 2 ^ a = withN n a m v := by
  apply Nat.eq_of_testBit_eq
  intro i
  have hM : (2 ^ m - 1) * 2 ^ a < 2 ^ 64 := by
    have h1 : (2 ^ m - 1) * 2 ^ a < 2 ^ m * 2 ^ a := Nat.mul_lt_mul_of_pos_right (by have := Nat.two_pow_pos m; omega) (Nat.two_pow_pos _)
    rw [← Nat.pow_add] at h1
    exact Nat.lt_of_lt_of_le h1 (Nat.pow_le_pow_right (by decide) (by omega))
  rw [with_bit n a m v i hv, Nat.testBit_or, Nat.testBit_and, show (18446744073709551615 : Nat) - (2 ^ m - 1) * 2 ^ a = 2 ^ 64 - ((2 ^ m - 1) * 2 ^ a + 1) by omega,
    Nat.testBit_two_pow_sub_succ hM, Nat.testBit_mul_two_pow, Nat.testBit_two_pow_sub_one, Nat.testBit_mul_two_pow]
  have hz : ∀ j, 64 ≤ j → n.testBit j = false := fun j hj => Nat.testBit_lt_two_pow (Nat.lt_of_lt_of_le hn (Nat.pow_le_pow_right (by decide) hj))
  have hzv : ∀ j, m ≤ j → v.testBit j = false := fun j hj => Nat.testBit_lt_two_pow (Nat.lt_of_lt_of_le hv (Nat.pow_le_pow_right (by decide) hj))
  by_cases h1 : a ≤ i <;> by_cases h2 : i < a + m
  · simp [h1, h2, show i - a < m by omega]
  · by_cases h3 : i < 64
    · simp [h1, h2, h3, show ¬ i - a < m by omega, hzv (i - a) (by omega)]
    · simp [h1, h2, hz i (by omega), hzv (i - a) (by omega)]
  · simp [h1, show i < 64 by omega]
  · simp [h1, h2]; intro h; omega
theorem with_lt (n a m v : Nat) (ham : a + m ≤ 64) (hn : n < 2 ^ 64) (hv : v < 2 ^ m) : withN n a m v < 2 ^ 64 := by
  apply Nat.lt_pow_two_of_testBit
  intro i hi
  rw [with_bit n a m v i hv, if_neg (by omega)]
  exact Nat.testBit_lt_two_pow (Nat.lt_of_lt_of_le hn (Nat.pow_le_pow_right (by decide) hi))
end Go.Proofs.Yteebnoegeoenbaa
