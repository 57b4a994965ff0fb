/- The walk of the reference Fit: it returns what the plain functions say, for arguments within their kinds. -/
import Derived.Test.YteebnoegeoenbaaN2
namespace Go.Proofs.Yteebnoegeoenbaa
open Go.RowKit Go.Gr
set_option linter.unusedVariables false
theorem below_y (n b : Int) (w : World) (k : Nat) (h1 : 0 ≤ n) (h2 : n < 18446744073709551616) (hk : b = (k : Int)) (hb2 : k ≤ 1000) (h : n < 2 ^ k) :
    Calls Try.prog 42 #[.int .u64 n, .int .i64 b] w fun e w' => e = .returned (.bool true) ∧ w = w' := by
  subst hk; exact below_yes n k w h1 h2 (by omega) (by omega) (by rwa [Int.toNat_natCast])
theorem below_n (n b : Int) (w : World) (k : Nat) (h1 : 0 ≤ n) (h2 : n < 18446744073709551616) (hk : b = (k : Int)) (hb2 : k ≤ 1000) (h : 2 ^ k ≤ n) :
    Calls Try.prog 42 #[.int .u64 n, .int .i64 b] w fun e w' => e = .returned (.bool false) ∧ w = w' := by
  subst hk; exact below_no n k w h1 h2 (by omega) (by omega) (by rwa [Int.toNat_natCast])

set_option maxHeartbeats 400000 in
theorem rfit_u_pos (n : Int) (b : Nat) (w : World) (h2 : n ≤ 9223372036854775807) (hb1 : 1 ≤ b) (hb2 : b ≤ 64) (h0 : 0 ≤ n) :
    Calls Try.prog 23 #[.int .i64 n, .int .i64 b, .bool false] w fun e w' => e = .returned (.tuple #[.int .u64 (fitV n b false), .int .i64 (fitE n b false)]) ∧ w = w' := by
  by_cases h : n < 2 ^ b
  · have H := hide h
    clear h
    go_enter Try.func23, Try.ntmps23
    go_wp2_with (go_at_call 42; refine (below_y _ _ _ b (by omega) (by omega) (by omega) (by omega) H.out).mono ?_; rintro e w1 ⟨rfl, rfl⟩)
    go_ret2
    have := fit_u_val n b hb1 hb2 ⟨h0, H.out⟩
    exact ⟨ret_int2 this.1 this.2.symm, rfl⟩
  · have H := hide (Int.not_lt.1 h)
    clear h
    go_enter Try.func23, Try.ntmps23
    go_wp2_with (go_at_call 42; refine (below_n _ _ _ b (by omega) (by omega) (by omega) (by omega) H.out).mono ?_; rintro e w1 ⟨rfl, rfl⟩)
    go_ret2
    have := fit_u_bad n b hb1 hb2 (fun h => absurd H.out (Int.not_le.2 h.2))
    exact ⟨ret_int2 this.1.symm this.2.symm, rfl⟩
theorem rfit_u_neg (n : Int) (b : Nat) (w : World) (h1 : -9223372036854775808 ≤ n) (hb1 : 1 ≤ b) (hb2 : b ≤ 64) (h0 : n < 0) :
    Calls Try.prog 23 #[.int .i64 n, .int .i64 b, .bool false] w fun e w' => e = .returned (.tuple #[.int .u64 (fitV n b false), .int .i64 (fitE n b false)]) ∧ w = w' := by
  have := fit_u_bad n b hb1 hb2 (fun h => absurd h0 (Int.not_lt.2 h.1))
  rw [this.1, this.2]
  clear this
  go_enter Try.func23, Try.ntmps23
  go_wp2
  go_ret2
  exact ⟨rfl, rfl⟩
set_option maxHeartbeats 400000 in
theorem rfit_s_pos (n : Int) (b : Nat) (w : World) (h2 : n ≤ 9223372036854775807) (hb1 : 1 ≤ b) (hb2 : b ≤ 64) (h0 : 0 ≤ n) :
    Calls Try.prog 23 #[.int .i64 n, .int .i64 b, .bool true] w fun e w' => e = .returned (.tuple #[.int .u64 (fitV n b true), .int .i64 (fitE n b true)]) ∧ w = w' := by
  have hp := pow_pos2 (b - 1)
  by_cases h : n < 2 ^ (b - 1)
  · have H := hide h
    have hv : fitE n b true = 0 := by rw [fitE, if_neg (by omega), if_pos rfl, Int.toNat_natCast, if_neg (by omega)]
    have HV : Hid (fitV n b true = n) := by rw [fitV, if_pos hv, if_neg (by omega)]; exact hide rfl
    have HE := hide hv
    clear h hp hv
    go_enter Try.func23, Try.ntmps23
    go_wp2_with (go_at_call 42; refine (below_y _ _ _ (b - 1) (by omega) (by omega) (by omega) (by omega) H.out).mono ?_; rintro e w1 ⟨rfl, rfl⟩)
    go_ret2
    exact ⟨ret_int2 HV.out.symm HE.out.symm, rfl⟩
  · have H := hide (Int.not_lt.1 h)
    have HB := hide (fit_s_bad n b hb1 hb2 (fun hc => h hc.2))
    clear h hp
    go_enter Try.func23, Try.ntmps23
    go_wp2_with (go_at_call 42; refine (below_n _ _ _ (b - 1) (by omega) (by omega) (by omega) (by omega) H.out).mono ?_; rintro e w1 ⟨rfl, rfl⟩)
    go_ret2
    exact ⟨ret_int2 HB.out.1.symm HB.out.2.symm, rfl⟩
set_option maxHeartbeats 400000 in
theorem rfit_s_neg (n : Int) (b : Nat) (w : World) (h1 : -9223372036854775808 ≤ n) (hb1 : 1 ≤ b) (hb2 : b ≤ 64) (h0 : n < 0) :
    Calls Try.prog 23 #[.int .i64 n, .int .i64 b, .bool true] w fun e w' => e = .returned (.tuple #[.int .u64 (fitV n b true), .int .i64 (fitE n b true)]) ∧ w = w' := by
  have hp := pow_pos2 (b - 1)
  have hpb := pow_succ' b hb1
  by_cases h : -(n + 1) < 2 ^ (b - 1)
  · have H := hide h
    have hv : fitE n b true = 0 := by rw [fitE, if_neg (by omega), if_pos rfl, Int.toNat_natCast, if_neg (by omega)]
    have HV : Hid (fitV n b true = n + 2 ^ b) := by rw [fitV, if_pos hv, if_pos h0, Int.toNat_natCast]; exact hide rfl
    have HE := hide hv
    have hlo : 0 ≤ 2 ^ b + n := by omega
    have hhi := pow_lt64 b hb2
    clear h hp hv hpb
    go_enter Try.func23, Try.ntmps23
    go_wp2_with (go_at_call 42; refine (below_y _ _ _ (b - 1) (by omega) (by omega) (by omega) (by omega) H.out).mono ?_; rintro e w1 ⟨rfl, rfl⟩)
    go_loop [8, 9] (fun m i => ∃ k : Nat, k ≤ b ∧ i = .int .i64 k ∧ m = .int .u64 (2 ^ k - 1)) (fun _ i => b - (intOf i).toNat)
    case atStart => exact ⟨0, Nat.zero_le _, rfl, rfl⟩
    case round =>
      obtain ⟨k, hk, rfl, rfl⟩ := hrel
      by_cases hlt : k < b
      · have hm := pow_pos2 k
        have hm2 := pow_lt64 (k + 1) (by omega)
        rw [Int.pow_succ] at hm2
        have HS : Hid ((2 : Int) ^ (k + 1) = 2 ^ k * 2) := hide (Int.pow_succ _ _)
        generalize (2 : Int) ^ k = m at *
        go_wp2
        go_round
        case rel => exact ⟨k + 1, by omega, by go_num, by rw [HS.out]; congr 1; omega⟩
        case measure => simp [intOf]; omega
      · obtain rfl : k = b := by omega
        go_wp2
        go_ret2
        refine ⟨ret_int2 ?_ HE.out.symm, rfl⟩
        rw [HV.out]; omega
  · have H := hide (Int.not_lt.1 h)
    have HB := hide (fit_s_bad n b hb1 hb2 (fun hc => by omega))
    clear h hp hpb
    go_enter Try.func23, Try.ntmps23
    go_wp2_with (go_at_call 42; refine (below_n _ _ _ (b - 1) (by omega) (by omega) (by omega) (by omega) H.out).mono ?_; rintro e w1 ⟨rfl, rfl⟩)
    go_ret2
    exact ⟨ret_int2 HB.out.1.symm HB.out.2.symm, rfl⟩
theorem rfit_bad (n b : Int) (s : Bool) (w : World) (hb : ¬ (1 ≤ b ∧ b ≤ 64)) :
    Calls Try.prog 23 #[.int .i64 n, .int .i64 b, .bool s] w fun e w' => e = .returned (.tuple #[.int .u64 (fitV n b s), .int .i64 (fitE n b s)]) ∧ w = w' := by
  have := fit_bits_bad n b s hb
  rw [this.1, this.2]
  rcases (show b < 1 ∨ 64 < b by omega) with h | h
  all_goals
    clear hb this
    go_enter Try.func23, Try.ntmps23
    go_wp2
    go_ret2
    exact ⟨rfl, rfl⟩
theorem rfit_any (n b : Int) (s : Bool) (w : World) (h1 : -9223372036854775808 ≤ n) (h2 : n ≤ 9223372036854775807) :
    Calls Try.prog 23 #[.int .i64 n, .int .i64 b, .bool s] w fun e w' => e = .returned (.tuple #[.int .u64 (fitV n b s), .int .i64 (fitE n b s)]) ∧ w = w' := by
  by_cases hb : 1 ≤ b ∧ b ≤ 64
  · obtain ⟨b, rfl⟩ := Int.eq_ofNat_of_zero_le (show 0 ≤ b by omega)
    rcases Int.lt_or_le n 0 with h0 | h0 <;> cases s
    · exact rfit_u_neg n b w h1 (by omega) (by omega) h0
    · exact rfit_s_neg n b w h1 (by omega) (by omega) h0
    · exact rfit_u_pos n b w h2 (by omega) (by omega) h0
    · exact rfit_s_pos n b w h2 (by omega) (by omega) h0
  · exact rfit_bad n b s w hb
end Go.Proofs.Yteebnoegeoenbaa
