/- Turning twice is turning once by the sum; a field that was put is read. Plain Lean. -/
import Derived.Test.YteebnoegeoenbaaL1
namespace Go.Proofs.Yteebnoegeoenbaa
open Go.RowKit Go.Gr
set_option linter.unusedVariables false
theorem turn_turn (n b p q : Nat) (hp : p < b) (hq : q < b) (hn : n < 2 ^ b) : turnN (turnN n b p) b q = turnN n b ((p + q) % b) := by
  have hr : (p + q) % b < b := Nat.mod_lt _ (by omega)
  have hc : (p + q < b ∧ (p + q) % b = p + q) ∨ (b ≤ p + q ∧ (p + q) % b = p + q - b) := by
    rcases Nat.lt_or_ge (p + q) b with h | h
    · exact .inl ⟨h, Nat.mod_eq_of_lt h⟩
    · exact .inr ⟨h, by rw [Nat.mod_eq_sub_mod h, Nat.mod_eq_of_lt (by omega)]⟩
  have hl := turn_lt n b p hp hn
  refine Nat.eq_of_testBit_eq fun i => ?_
  rw [turn_bit _ b q i hq hl, turn_bit n b _ i hr hn, turn_bit n b p _ hp hn, turn_bit n b p _ hp hn]
  generalize (p + q) % b = r at *
  rcases Nat.lt_or_ge i b with hi | hi
  · rw [decide_eq_true hi, decide_eq_true (show i - q < b by omega), Bool.true_and, Bool.true_and, Bool.true_and]
    rcases Nat.lt_or_ge i q with h1 | h1
    · rw [if_pos h1]
      rcases Nat.lt_or_ge (b - q + i) p with h2 | h2
      · rw [if_pos h2, if_pos (by omega)]; congr 1; omega
      · rw [if_neg (by omega), decide_eq_true (by omega), Bool.true_and]
        rcases Nat.lt_or_ge i r with h3 | h3
        · rw [if_pos h3]; congr 1; omega
        · rw [if_neg (by omega)]; congr 1; omega
    · rw [if_neg (by omega)]
      rcases Nat.lt_or_ge (i - q) p with h2 | h2
      · rw [if_pos h2]
        rcases Nat.lt_or_ge i r with h3 | h3
        · rw [if_pos h3]; congr 1; omega
        · rw [if_neg (by omega)]; congr 1; omega
      · rw [if_neg (by omega), if_neg (by omega)]; congr 1; omega
  · rw [if_neg (show ¬ i < q by omega), if_neg (show ¬ i < r by omega), decide_eq_false (show ¬ i < b by omega)]; simp
theorem turnE_ok {n b : Int} (hb : 1 ≤ b ∧ b ≤ 64) (h : n < 2 ^ b.toNat) : turnE n b = 0 := by
  rw [turnE, if_neg (by omega)]
theorem turnV_ok {n b : Int} (k : Int) (hb : 1 ≤ b ∧ b ≤ 64) (h : n < 2 ^ b.toNat) : turnV n b k = (turnN n.toNat b.toNat (k % b).toNat : Nat) := by
  rw [turnV, turnE_ok hb h, if_pos rfl]
theorem pow_cast (k : Nat) : ((2 ^ k : Nat) : Int) = 2 ^ k := by simp
theorem turnV_lt {n b : Int} (k : Int) (hb : 1 ≤ b ∧ b ≤ 64) (h0 : 0 ≤ n) (h : n < 2 ^ b.toNat) : 0 ≤ turnV n b k ∧ turnV n b k < 2 ^ b.toNat := by
  rw [turnV_ok k hb h]
  refine ⟨Int.natCast_nonneg _, ?_⟩
  rw [← pow_cast]
  refine Int.ofNat_lt.mpr (turn_lt _ _ _ ?_ ?_)
  · have := Int.emod_lt_of_pos k (show 0 < b by omega); have := Int.emod_nonneg k (show b ≠ 0 by omega); omega
  · rw [← pow_cast] at h; omega
theorem turnV_turn {n b : Int} (j k : Int) (hb : 1 ≤ b ∧ b ≤ 64) (h0 : 0 ≤ n) (h : n < 2 ^ b.toNat) : turnV (turnV n b j) b k = turnV n b (j + k) := by
  obtain ⟨a1, a2⟩ := turnV_lt j hb h0 h
  rw [turnV_ok k hb a2, turnV_ok j hb h, turnV_ok (j + k) hb h, Int.toNat_natCast, turn_turn]
  · congr 3
    have e1 := Int.emod_nonneg j (show b ≠ 0 by omega)
    have e2 := Int.emod_nonneg k (show b ≠ 0 by omega)
    have e3 := Int.emod_nonneg (j + k) (show b ≠ 0 by omega)
    have : ((((j % b).toNat + (k % b).toNat) % b.toNat : Nat) : Int) = (((j + k) % b).toNat : Int) := by
      rw [Int.natCast_emod, Int.natCast_add, Int.toNat_of_nonneg e1, Int.toNat_of_nonneg e2, Int.toNat_of_nonneg e3, Int.toNat_of_nonneg (by omega), ← Int.add_emod]
    omega
  · have := Int.emod_lt_of_pos j (show 0 < b by omega); have := Int.emod_nonneg j (show b ≠ 0 by omega); omega
  · have := Int.emod_lt_of_pos k (show 0 < b by omega); have := Int.emod_nonneg k (show b ≠ 0 by omega); omega
  · rw [← pow_cast] at h; omega
theorem turnV_back {n b : Int} (j : Int) (hb : 1 ≤ b ∧ b ≤ 64) (h0 : 0 ≤ n) (h : n < 2 ^ b.toNat) : turnV (turnV n b j) b (-j) = n := by
  rw [turnV_turn j (-j) hb h0 h, Int.add_right_neg, turnV_ok 0 hb h, Int.zero_emod]
  have : turnN n.toNat b.toNat 0 = n.toNat := by
    have h' : n.toNat < 2 ^ b.toNat := by rw [← pow_cast] at h; omega
    simp [turnN, Nat.mod_eq_of_lt h', Nat.div_eq_of_lt h']
  rw [show (0 : Int).toNat = 0 from rfl, this]; omega
theorem fldV_ok {n a m : Int} (h0 : 0 ≤ a) (h1 : 1 ≤ m) (h2 : m ≤ 64 - a) (hn : 0 ≤ n) : fieldE a m = 0 ∧ fldV n a m = n / 2 ^ a.toNat % 2 ^ m.toNat ∧ 0 ≤ fldV n a m ∧ fldV n a m < 2 ^ m.toNat := by
  have e : fieldE a m = 0 := by rw [fieldE, if_neg (by omega)]
  have v : fldV n a m = n / 2 ^ a.toNat % 2 ^ m.toNat := by rw [fldV, e, if_pos rfl]
  have hp : (0 : Int) < 2 ^ m.toNat := Int.pow_pos (by decide)
  exact ⟨e, v, by rw [v]; exact Int.emod_nonneg _ (by omega), by rw [v]; exact Int.emod_lt_of_pos _ hp⟩
theorem fld_nat (n : Nat) (a m : Nat) : ((n : Int) / 2 ^ a % 2 ^ m) = ((n / 2 ^ a % 2 ^ m : Nat) : Int) := by simp
theorem bit_nat (n i : Nat) : n / 2 ^ i % 2 ^ 1 = (n.testBit i).toNat := by
  rw [Nat.testBit_eq_decide_div_mod_eq]
  have := Nat.mod_two_eq_zero_or_one (n / 2 ^ i)
  rcases this with h | h <;> simp [h]
theorem withV_ok {n a m v : Int} (h0 : 0 ≤ a) (h1 : 1 ≤ m) (h2 : m ≤ 64 - a) (hv : v < 2 ^ m.toNat) :
    withE n a m v = 0 ∧ withV n a m v = (withN n.toNat a.toNat m.toNat v.toNat : Nat) := by
  have e0 : fieldE a m = 0 := by rw [fieldE, if_neg (by omega)]
  have e : withE n a m v = 0 := by rw [withE, e0, if_neg (by omega)]
  exact ⟨e, by rw [withV, e, if_pos rfl]⟩
theorem withN_lt (n a m v : Nat) (hv : v < 2 ^ m) (hn : n < 2 ^ 64) (ha : a + m ≤ 64) : withN n a m v < 2 ^ 64 := by
  refine Nat.lt_pow_two_of_testBit _ fun i hi => ?_
  rw [with_bit n a m v i hv, if_neg (by omega)]
  exact Nat.testBit_lt_two_pow (Nat.lt_of_lt_of_le hn (Nat.pow_le_pow_right (by decide) hi))
theorem with_fld (n a m v : Nat) (hv : v < 2 ^ m) : withN n a m v / 2 ^ a % 2 ^ m = v := by
  refine Nat.eq_of_testBit_eq fun i => ?_
  rw [Nat.testBit_mod_two_pow, Nat.testBit_div_two_pow, with_bit n a m v _ hv]
  rcases Nat.lt_or_ge i m with h | h
  · rw [decide_eq_true h, if_pos (by omega), Bool.true_and]; congr 1; omega
  · rw [decide_eq_false (by omega), Nat.testBit_lt_two_pow (Nat.lt_of_lt_of_le hv (Nat.pow_le_pow_right (by decide) h))]; rfl
theorem with_other (n a m v i : Nat) (hv : v < 2 ^ m) (h : i < a ∨ a + m ≤ i) : withN n a m v / 2 ^ i % 2 ^ 1 = n / 2 ^ i % 2 ^ 1 := by
  rw [bit_nat, bit_nat, with_bit n a m v i hv, if_neg (by omega)]
theorem bit_with {n a m x : Int} (hn : 0 ≤ n) (hn2 : n < 18446744073709551616) (h0 : 0 ≤ a) (h1 : 1 ≤ m) (h2 : m ≤ 64 - a) (hx : 0 ≤ x) (v y : Int) (hv : fldV x 0 m = v) (hy : withV n a m v = y) :
    withE n a m v = 0 ∧ 0 ≤ v ∧ v < 18446744073709551616 ∧ 0 ≤ y ∧ y < 18446744073709551616 ∧ fldV y a m = v ∧ ∀ i : Nat, i < 64 → (i < a ∨ a + m ≤ i) → fldV y i 1 = fldV n i 1 := by
  obtain ⟨f1, f2, f3, f4⟩ := fldV_ok (n := x) (a := 0) (m := m) (by omega) h1 (by omega) hx
  rw [hv] at f3 f4
  obtain ⟨g1, g2⟩ := withV_ok (n := n) (v := v) h0 h1 h2 f4
  rw [hy] at g2
  obtain ⟨A, rfl⟩ := Int.eq_ofNat_of_zero_le h0
  obtain ⟨M, rfl⟩ := Int.eq_ofNat_of_zero_le (show 0 ≤ m by omega)
  obtain ⟨V, rfl⟩ := Int.eq_ofNat_of_zero_le f3
  obtain ⟨N, rfl⟩ := Int.eq_ofNat_of_zero_le hn
  rw [Int.toNat_natCast, ← pow_cast] at f4
  have f4' : V < 2 ^ M := by omega
  rw [Int.toNat_natCast, Int.toNat_natCast, Int.toNat_natCast, Int.toNat_natCast] at g2
  have hlt := withN_lt N A M V f4' (by omega) (by omega)
  have hle : 2 ^ M ≤ 2 ^ 64 := Nat.pow_le_pow_right (by decide) (by omega)
  refine ⟨g1, f3, by omega, by rw [g2]; exact Int.natCast_nonneg _, by rw [g2]; omega, ?_, ?_⟩
  · rw [g2, (fldV_ok (by omega) h1 h2 (Int.natCast_nonneg _)).2.1, Int.toNat_natCast, Int.toNat_natCast, fld_nat, with_fld N A M V f4']
  · intro i hi ho
    rw [g2, (fldV_ok (by omega) (by decide) (by omega) (Int.natCast_nonneg _)).2.1, (fldV_ok (by omega) (by decide) (by omega) (Int.natCast_nonneg _)).2.1, Int.toNat_natCast, show (1 : Int).toNat = 1 from rfl, fld_nat, fld_nat, with_other N A M V i f4' (by omega)]
end Go.Proofs.Yteebnoegeoenbaa
