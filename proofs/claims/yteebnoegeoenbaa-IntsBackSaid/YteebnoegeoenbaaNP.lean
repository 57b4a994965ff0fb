/- Plain laws on powers of two, on Fit and on Widen. No program in sight. -/
import Derived.Test.YteebnoegeoenbaaBits
namespace Go.Proofs.Yteebnoegeoenbaa
open Go.RowKit Go.Gr
set_option linter.unusedVariables false

/-! ### plain laws on numbers of bits -/
theorem top_all : ∀ b, b < 65 → 1 ≤ b → (18446744073709551615 : Int) / 2 ^ (64 - b) = 2 ^ b - 1 := by decide +kernel
theorem top_eq (b : Nat) (h1 : 1 ≤ b) (h2 : b ≤ 64) : (18446744073709551615 : Int) / 2 ^ ((64 : Int) - b).toNat = 2 ^ b - 1 := by
  rw [show ((64 : Int) - b).toNat = 64 - b by omega]; exact top_all b (by omega) h1
theorem pow_pos2 (b : Nat) : (0 : Int) < 2 ^ b := Int.pow_pos (by decide)
theorem pow_all : ∀ b, b < 65 → (2 : Int) ^ b ≤ 18446744073709551616 := by decide +kernel
theorem pow_lt64 (b : Nat) (h : b ≤ 64) : (2 : Int) ^ b ≤ 18446744073709551616 := pow_all b (by omega)
theorem pow_dvd64 (b : Nat) (h : b ≤ 64) : (2 : Int) ^ b ∣ 18446744073709551616 := by
  obtain ⟨c, rfl⟩ := Nat.le.dest h |>.imp fun c hc => (show 64 - b = c by omega).symm
  exact ⟨2 ^ (64 - b), by rw [← Int.pow_add, show b + (64 - b) = 64 by omega]; rfl⟩
theorem and_top (x : Int) (h0 : 0 ≤ x) (h1 : x < 18446744073709551616) (b : Nat) (hb : b ≤ 64) : bits .and .u64 x (2 ^ b - 1) = x % 2 ^ b := by
  have hp := pow_pos2 b
  have hl := pow_lt64 b hb
  rw [u64_and x (2 ^ b - 1) h0 h1 (by omega) (by omega)]
  obtain ⟨x, rfl⟩ := Int.eq_ofNat_of_zero_le h0
  have e : ((2 : Int) ^ b - 1).toNat = 2 ^ b - 1 := by
    have : ((2 ^ b : Nat) : Int) = 2 ^ b := by simp
    omega
  rw [e, Int.toNat_natCast, Nat.and_two_pow_sub_one_eq_mod]
  simp
theorem ediv_cases (n P : Int) (hP : 0 < P) : (n / P = 0 ↔ 0 ≤ n ∧ n < P) ∧ (n / P = -1 ↔ -P ≤ n ∧ n < 0) := by
  have h1 := Int.mul_ediv_add_emod n P
  have h2 := Int.emod_nonneg n (show P ≠ 0 by omega)
  have h3 := Int.emod_lt_of_pos n hP
  generalize n / P = q at *
  generalize n % P = r at *
  constructor
  · constructor
    · rintro rfl; simp at h1; omega
    · rintro ⟨a, b⟩
      rcases Int.lt_trichotomy q 0 with h | h | h
      · have := Int.mul_le_mul_of_nonneg_left (show q ≤ -1 by omega) (Int.le_of_lt hP); omega
      · exact h
      · have := Int.mul_le_mul_of_nonneg_left (show 1 ≤ q by omega) (Int.le_of_lt hP); omega
  · constructor
    · rintro rfl; omega
    · rintro ⟨a, b⟩
      rcases Int.lt_trichotomy q (-1) with h | h | h
      · have := Int.mul_le_mul_of_nonneg_left (show q ≤ -2 by omega) (Int.le_of_lt hP); omega
      · exact h
      · have := Int.mul_nonneg (Int.le_of_lt hP) (show 0 ≤ q by omega); omega
theorem pow_succ' (b : Nat) (h : 1 ≤ b) : (2 : Int) ^ b = 2 * 2 ^ (b - 1) := by
  obtain ⟨c, rfl⟩ : ∃ c, b = c + 1 := ⟨b - 1, by omega⟩
  rw [Int.pow_succ, Nat.add_sub_cancel]; omega
theorem emod_neg (n P : Int) (h : -P ≤ n) (h0 : n < 0) : n % P = n + P := by
  rw [← Int.add_emod_right, Int.emod_eq_of_lt (by omega) (by omega)]

/-! ### the answers -/
def zig (n : Int) : Int := if n < 0 then -2 * n - 1 else 2 * n
def zag (n : Int) : Int := if n % 2 = 1 then -(n / 2) - 1 else n / 2
def fitE (n b : Int) (s : Bool) : Int := if b < 1 ∨ b > 64 then 7 else if s then (if n < -2 ^ (b.toNat - 1) ∨ 2 ^ (b.toNat - 1) ≤ n then 7 else 0) else (if n < 0 ∨ 2 ^ b.toNat ≤ n then 7 else 0)
def fitV (n b : Int) (s : Bool) : Int := if fitE n b s = 0 then (if n < 0 then n + 2 ^ b.toNat else n) else 0

theorem fit_s_val (n : Int) (b : Nat) (h1 : 1 ≤ b) (h2 : b ≤ 64) (hn1 : -9223372036854775808 ≤ n) (hn2 : n ≤ 9223372036854775807) (h : -2 ^ (b - 1) ≤ n ∧ n < 2 ^ (b - 1)) :
    bits .and .u64 (IntKind.u64.wrap n) (18446744073709551615 / 2 ^ (64 - b)) = fitV n b true ∧ fitE n b true = 0 := by
  have e : fitE n b true = 0 := by
    rw [fitE, if_neg (by omega), if_pos rfl, Int.toNat_natCast, if_neg (by omega)]
  refine ⟨?_, e⟩
  rw [top_all b (by omega) h1, IntKind.wrap_u64, and_top _ (by omega) (by omega) b h2, Int.emod_emod_of_dvd _ (pow_dvd64 b h2), fitV, if_pos e, Int.toNat_natCast]
  have hp := pow_pos2 (b - 1)
  have hs := pow_succ' b h1
  split
  · exact emod_neg _ _ (by omega) ‹_›
  · exact Int.emod_eq_of_lt (by omega) (by omega)
theorem fit_s_bad (n : Int) (b : Nat) (h1 : 1 ≤ b) (h2 : b ≤ 64) (h : ¬ (-2 ^ (b - 1) ≤ n ∧ n < 2 ^ (b - 1))) : fitV n b true = 0 ∧ fitE n b true = 7 := by
  have e : fitE n b true = 7 := by
    rw [fitE, if_neg (by omega), if_pos rfl, Int.toNat_natCast, if_pos (by omega)]
  exact ⟨by rw [fitV, e, if_neg (by decide)], e⟩
theorem fit_u_val (n : Int) (b : Nat) (h1 : 1 ≤ b) (h2 : b ≤ 64) (h : 0 ≤ n ∧ n < 2 ^ b) : n = fitV n b false ∧ fitE n b false = 0 := by
  have e : fitE n b false = 0 := by
    rw [fitE, if_neg (by omega), if_neg (by decide), Int.toNat_natCast, if_neg (by omega)]
  exact ⟨by rw [fitV, if_pos e, if_neg (by omega)], e⟩
theorem fit_u_bad (n : Int) (b : Nat) (h1 : 1 ≤ b) (h2 : b ≤ 64) (h : ¬ (0 ≤ n ∧ n < 2 ^ b)) : fitV n b false = 0 ∧ fitE n b false = 7 := by
  have e : fitE n b false = 7 := by
    rw [fitE, if_neg (by omega), if_neg (by decide), Int.toNat_natCast, if_pos (by omega)]
  exact ⟨by rw [fitV, e, if_neg (by decide)], e⟩
theorem fit_bits_bad (n b : Int) (s : Bool) (h : ¬ (1 ≤ b ∧ b ≤ 64)) : fitV n b s = 0 ∧ fitE n b s = 7 := by
  have e : fitE n b s = 7 := by rw [fitE, if_pos (by omega)]
  exact ⟨by rw [fitV, e, if_neg (by decide)], e⟩

def widE (n b : Int) (s : Bool) : Int := if b < 1 ∨ b > 64 ∨ 2 ^ b.toNat ≤ n then 7 else if s then 0 else if 9223372036854775807 < n then 7 else 0
def widV (n b : Int) (s : Bool) : Int := if widE n b s = 0 then (if s ∧ 2 ^ (b.toNat - 1) ≤ n then n - 2 ^ b.toNat else n) else 0
end Go.Proofs.Yteebnoegeoenbaa
