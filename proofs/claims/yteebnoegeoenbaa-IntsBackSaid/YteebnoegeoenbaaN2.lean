/- The walks of ints.top, Zig, Zag, Fit and of the reference below: each returns what the plain functions say, for arguments within their kinds. -/
import Derived.Test.YteebnoegeoenbaaRows
import Derived.Test.YteebnoegeoenbaaBase
import Derived.Test.YteebnoegeoenbaaNP
namespace Go.Proofs.Yteebnoegeoenbaa
open Go.RowKit Go.Gr
set_option linter.unusedVariables false
theorem top_any (n : Int) (w : World) (h : 1 ≤ n) (h2 : n ≤ 64) :
    Calls Try.prog 41 #[.int .i64 n] w fun e w' => e = .returned (.int .u64 (18446744073709551615 / 2 ^ (64 - n).toNat)) ∧ w = w' := by
  go_enter Try.func41, Try.ntmps41
  go_wp2
  go_ret
  exact ⟨rfl, rfl⟩
theorem zig_any (n : Int) (w : World) (h1 : -9223372036854775808 ≤ n) (h2 : n ≤ 9223372036854775807) :
    Calls Try.prog 18 #[.int .i64 n] w fun e w' => e = .returned (.int .u64 (zig n)) ∧ w = w' := by
  go_enter Try.func18, Try.ntmps18
  go_wp2
  go_ret
  refine ⟨ret_int ?_, rfl⟩
  rw [IntKind.wrap_u64, IntKind.wrap_u64, IntKind.wrap_u64]
  by_cases h : n < 0
  · rw [show n / 9223372036854775808 % 18446744073709551616 = 18446744073709551615 by omega, u64_xor_ones _ (by omega) (by omega), zig, if_pos h]; omega
  · rw [show n / 9223372036854775808 % 18446744073709551616 = 0 by omega, u64_xor_zero _ (by omega) (by omega), zig, if_neg h]; omega
theorem rzig_any (n : Int) (w : World) (h1 : -9223372036854775808 ≤ n) (h2 : n ≤ 9223372036854775807) :
    Calls Try.prog 19 #[.int .i64 n] w fun e w' => e = .returned (.int .u64 (zig n)) ∧ w = w' := by
  by_cases h : n < 0
  all_goals
    go_enter Try.func19, Try.ntmps19
    go_wp2
    go_ret
    refine ⟨ret_int ?_, rfl⟩
    simp [zig, h] <;> omega
theorem zag_any (n : Int) (w : World) (h1 : 0 ≤ n) (h2 : n < 18446744073709551616) :
    Calls Try.prog 20 #[.int .u64 n] w fun e w' => e = .returned (.int .i64 (zag n)) ∧ w = w' := by
  go_enter Try.func20, Try.ntmps20
  go_wp2
  go_ret
  refine ⟨ret_int ?_, rfl⟩
  rw [u64_and1 n h1 h2]
  by_cases h : n % 2 = 1
  · rw [h, show wrap64 (-wrap64 1) = -1 from by unfold wrap64; decide, i64_xor_mone _ (by omega) (by omega), zag, if_pos h]
  · rw [show n % 2 = 0 by omega, show wrap64 (-wrap64 0) = 0 from by unfold wrap64; decide, i64_xor_zero _ (by omega) (by omega), zag, if_neg h]
theorem rzag_any (n : Int) (w : World) (h1 : 0 ≤ n) (h2 : n < 18446744073709551616) :
    Calls Try.prog 21 #[.int .u64 n] w fun e w' => e = .returned (.int .i64 (zag n)) ∧ w = w' := by
  by_cases h : n % 2 = 1
  all_goals
    have H := hide h
    go_enter Try.func21, Try.ntmps21
    go_wp2
    all_goals go_ret
    all_goals refine ⟨ret_int ?_, rfl⟩
    all_goals have := H.out
    all_goals first | (exfalso; omega) | (simp [zag, this] <;> omega)
set_option maxHeartbeats 400000 in
theorem fit_s (n : Int) (b : Nat) (w : World) (h1 : -9223372036854775808 ≤ n) (h2 : n ≤ 9223372036854775807) (hb1 : 1 ≤ b) (hb2 : b ≤ 64) :
    Calls Try.prog 22 #[.int .i64 n, .int .i64 b, .bool true] w fun e w' => e = .returned (.tuple #[.int .u64 (fitV n b true), .int .i64 (fitE n b true)]) ∧ w = w' := by
  have hq := ediv_cases n (2 ^ (b - 1)) (pow_pos2 _)
  have HQ := hide hq
  clear hq
  go_enter Try.func22, Try.ntmps22
  go_wp2_with (go_at_call 41; refine (top_any _ _ (by omega) (by omega)).mono ?_; rintro e w1 ⟨rfl, rfl⟩)
  all_goals go_ret2
  · have hc := HQ.out.1.1 ‹_›
    have hp := pow_pos2 (b - 1)
    have := fit_s_val n b hb1 hb2 h1 h2 (by omega)
    exact ⟨ret_int2 this.1 this.2.symm, rfl⟩
  · have ht := ‹(n / 2 ^ (b - 1) != 0) = true ∧ (n / 2 ^ (b - 1) != -1) = true›
    have := fit_s_bad n b hb1 hb2 (fun hc => by
      rcases Int.lt_or_le n 0 with h | h
      · have := HQ.out.2.2 ⟨hc.1, h⟩; simp [this] at ht
      · have := HQ.out.1.2 ⟨h, hc.2⟩; simp [this] at ht)
    exact ⟨ret_int2 this.1.symm this.2.symm, rfl⟩
  · have ht := ‹(n / 2 ^ (b - 1) != 0) = false ∨ (n / 2 ^ (b - 1) != -1) = false›
    have hp := pow_pos2 (b - 1)
    have hc : -2 ^ (b - 1) ≤ n ∧ n < 2 ^ (b - 1) := by
      rcases ht with h | h
      · have := HQ.out.1.1 (by simpa using h); omega
      · have := HQ.out.2.1 (by simpa using h); omega
    have := fit_s_val n b hb1 hb2 h1 h2 hc
    exact ⟨ret_int2 this.1 this.2.symm, rfl⟩
theorem fit_u (n : Int) (b : Nat) (w : World) (h1 : -9223372036854775808 ≤ n) (h2 : n ≤ 9223372036854775807) (hb1 : 1 ≤ b) (hb2 : b ≤ 64) :
    Calls Try.prog 22 #[.int .i64 n, .int .i64 b, .bool false] w fun e w' => e = .returned (.tuple #[.int .u64 (fitV n b false), .int .i64 (fitE n b false)]) ∧ w = w' := by
  have HT := hide (top_all b (by omega) hb1)
  go_enter Try.func22, Try.ntmps22
  go_wp2_with (go_at_call 41; refine (top_any _ _ (by omega) (by omega)).mono ?_; rintro e w1 ⟨rfl, rfl⟩)
  all_goals go_ret2
  · have ht := ‹n < 0 ∨ 18446744073709551615 / 2 ^ (64 - b) < n›
    have := fit_u_bad n b hb1 hb2 (by have := HT.out; omega)
    exact ⟨ret_int2 this.1.symm this.2.symm, rfl⟩
  · have ht := ‹0 ≤ n ∧ n ≤ 18446744073709551615 / 2 ^ (64 - b)›
    have := fit_u_val n b hb1 hb2 (by have := HT.out; omega)
    exact ⟨ret_int2 this.1 this.2.symm, rfl⟩
  · have := fit_u_bad n b hb1 hb2 (by omega)
    exact ⟨ret_int2 this.1.symm this.2.symm, rfl⟩
theorem fit_bad (n b : Int) (s : Bool) (w : World) (hb : ¬ (1 ≤ b ∧ b ≤ 64)) :
    Calls Try.prog 22 #[.int .i64 n, .int .i64 b, .bool s] w fun e w' => e = .returned (.tuple #[.int .u64 (fitV n b s), .int .i64 (fitE n b s)]) ∧ w = w' := by
  have := fit_bits_bad n b s hb
  rw [this.1, this.2]
  rcases (show b < 1 ∨ 64 < b by omega) with h | h
  all_goals
    clear hb this
    go_enter Try.func22, Try.ntmps22
    go_wp2
    go_ret2
    exact ⟨rfl, rfl⟩
theorem fit_any (n b : Int) (s : Bool) (w : World) (h1 : -9223372036854775808 ≤ n) (h2 : n ≤ 9223372036854775807) :
    Calls Try.prog 22 #[.int .i64 n, .int .i64 b, .bool s] w fun e w' => e = .returned (.tuple #[.int .u64 (fitV n b s), .int .i64 (fitE n b s)]) ∧ w = w' := by
  by_cases hb : 1 ≤ b ∧ b ≤ 64
  · obtain ⟨b, rfl⟩ := Int.eq_ofNat_of_zero_le (show 0 ≤ b by omega)
    cases s
    · exact fit_u n b w h1 h2 (by omega) (by omega)
    · exact fit_s n b w h1 h2 (by omega) (by omega)
  · exact fit_bad n b s w hb

/-! ### below -/
theorem pow_div (n : Int) (k : Nat) : n / 2 ^ (k + 1) = n / 2 ^ k / 2 := by
  rw [Int.pow_succ, Int.ediv_ediv_of_nonneg (Int.le_of_lt (pow_pos2 k))]
theorem below_any (n b : Int) (w : World) (h1 : 0 ≤ n) (h2 : n < 18446744073709551616) (hb1 : 0 ≤ b) (hb2 : b ≤ 1000) :
    Calls Try.prog 42 #[.int .u64 n, .int .i64 b] w fun e w' => e = .returned (.bool (n / 2 ^ b.toNat == 0)) ∧ w = w' := by
  obtain ⟨b, rfl⟩ := Int.eq_ofNat_of_zero_le hb1
  rw [Int.toNat_natCast]
  have hdd := fun k => pow_div n k
  have HD := hide hdd
  clear hdd
  go_enter Try.func42, Try.ntmps42
  go_wp2
  go_loop [0, 5] (fun m i => ∃ k : Nat, k ≤ b ∧ i = .int .i64 k ∧ m = .int .u64 (n / 2 ^ k)) (fun _ i => b - (intOf i).toNat)
  case atStart => exact ⟨0, Nat.zero_le _, rfl, by simp⟩
  case round =>
    obtain ⟨k, hk, rfl, rfl⟩ := hrel
    have hm : 0 ≤ n / 2 ^ k ∧ n / 2 ^ k < 18446744073709551616 := by
      have := Int.ediv_nonneg h1 (Int.le_of_lt (pow_pos2 k))
      have h3 := Int.ediv_le_self (2 ^ k) h1
      omega
    have hs := HD.out k
    have HS := hide hs
    clear hs
    by_cases hlt : k < b
    · generalize n / 2 ^ k = m at *
      go_wp2
      go_round
      case rel => exact ⟨k + 1, by omega, by go_num, by rw [HS.out]⟩
      case measure => simp [intOf]; omega
    · obtain rfl : k = b := by omega
      go_wp2
      go_ret
      exact ⟨rfl, rfl⟩
theorem div_zero_iff (n : Int) (b : Nat) (h1 : 0 ≤ n) : (n / 2 ^ b == 0) = decide (n < 2 ^ b) := by
  have := (ediv_cases n (2 ^ b) (pow_pos2 b)).1
  by_cases h : n < 2 ^ b
  · simp [h, this.2 ⟨h1, h⟩]
  · have : ¬ n / 2 ^ b = 0 := fun e => h (this.1 e).2
    simp [h, this]
theorem below_yes (n b : Int) (w : World) (h1 : 0 ≤ n) (h2 : n < 18446744073709551616) (hb1 : 0 ≤ b) (hb2 : b ≤ 1000) (h : n < 2 ^ b.toNat) :
    Calls Try.prog 42 #[.int .u64 n, .int .i64 b] w fun e w' => e = .returned (.bool true) ∧ w = w' := by
  have := below_any n b w h1 h2 hb1 hb2
  rwa [div_zero_iff n _ h1, decide_eq_true h] at this
theorem below_no (n b : Int) (w : World) (h1 : 0 ≤ n) (h2 : n < 18446744073709551616) (hb1 : 0 ≤ b) (hb2 : b ≤ 1000) (h : 2 ^ b.toNat ≤ n) :
    Calls Try.prog 42 #[.int .u64 n, .int .i64 b] w fun e w' => e = .returned (.bool false) ∧ w = w' := by
  have := below_any n b w h1 h2 hb1 hb2
  rwa [div_zero_iff n _ h1, decide_eq_false (by omega)] at this
end Go.Proofs.Yteebnoegeoenbaa
