/- The walks of the reference Widen and Field: each returns what the plain functions say, for arguments within their kinds. -/
import Derived.Test.YteebnoegeoenbaaN4
namespace Go.Proofs.Yteebnoegeoenbaa
open Go.RowKit Go.Gr
set_option linter.unusedVariables false
/-- one theorem for each way: n below 2^(b-1) -/
theorem rwiden_low (n : Int) (b : Nat) (s : Bool) (w : World) (h1 : 0 ≤ n) (hb1 : 1 ≤ b) (hb2 : b ≤ 64) (hn : n < 2 ^ (b - 1)) :
    Calls Try.prog 25 #[.int .u64 n, .int .i64 b, .bool s] w fun e w' => e = .returned (.tuple #[.int .i64 (widV n b s), .int .i64 (widE n b s)]) ∧ w = w' := by
  have hs := pow_succ' b hb1
  have hp := pow_lt64 b hb2
  have hm : n ≤ 9223372036854775807 := by omega
  have hl : n < 2 ^ b := by omega
  have HW := hide (wid_ok n b s hb1 hb2 hl (.inr hm))
  have H1 := hide hl
  have H2 := hide hn
  clear hs hp hl hn
  go_enter Try.func25, Try.ntmps25
  go_wp2_with (first
    | (go_at_call 42; refine (below_y _ _ _ b ?_ ?_ ?_ ?_ H1.out).mono ?_ <;> (try omega); rintro e w1 ⟨rfl, rfl⟩)
    | (go_at_call 42; refine (below_y _ _ _ (b - 1) ?_ ?_ ?_ ?_ H2.out).mono ?_ <;> (try omega); rintro e w1 ⟨rfl, rfl⟩))
  go_ret2
  exact ⟨ret_int2 (by rw [HW.out.2, if_neg (fun h => absurd H2.out (Int.not_lt.2 h.2))]) HW.out.1.symm, rfl⟩
theorem rwiden_out (n : Int) (b : Nat) (s : Bool) (w : World) (h1 : 0 ≤ n) (h2 : n < 18446744073709551616) (hb1 : 1 ≤ b) (hb2 : b ≤ 64) (hn : 2 ^ b ≤ n) :
    Calls Try.prog 25 #[.int .u64 n, .int .i64 b, .bool s] w fun e w' => e = .returned (.tuple #[.int .i64 (widV n b s), .int .i64 (widE n b s)]) ∧ w = w' := by
  have HW := hide (wid_bad n b s (.inl (by rw [Int.toNat_natCast]; omega)))
  have H1 := hide hn
  clear hn
  go_enter Try.func25, Try.ntmps25
  go_wp2_with (first
    | (go_at_call 42; refine (below_n _ _ _ b ?_ ?_ ?_ ?_ H1.out).mono ?_ <;> (try omega); rintro e w1 ⟨rfl, rfl⟩))
  go_ret2
  exact ⟨ret_int2 HW.out.1.symm HW.out.2.symm, rfl⟩
theorem rwiden_u (n : Int) (b : Nat) (w : World) (h1 : 0 ≤ n) (h2 : n < 18446744073709551616) (hb1 : 1 ≤ b) (hb2 : b ≤ 64) (hn : 2 ^ (b - 1) ≤ n) (hn2 : n < 2 ^ b) :
    Calls Try.prog 25 #[.int .u64 n, .int .i64 b, .bool false] w fun e w' => e = .returned (.tuple #[.int .i64 (widV n b false), .int .i64 (widE n b false)]) ∧ w = w' := by
  by_cases hm : n ≤ 9223372036854775807
  · have HW := hide (wid_ok n b false hb1 hb2 hn2 (.inr hm))
    have H1 := hide hn2
    have H2 := hide hn
    clear hn hn2
    go_enter Try.func25, Try.ntmps25
    go_wp2_with (first
      | (go_at_call 42; refine (below_y _ _ _ b ?_ ?_ ?_ ?_ H1.out).mono ?_ <;> (try omega); rintro e w1 ⟨rfl, rfl⟩)
      | (go_at_call 42; refine (below_n _ _ _ (b - 1) ?_ ?_ ?_ ?_ H2.out).mono ?_ <;> (try omega); rintro e w1 ⟨rfl, rfl⟩))
    go_ret2
    exact ⟨ret_int2 (by rw [HW.out.2]; simp) HW.out.1.symm, rfl⟩
  · have HW := hide (wid_bad n b false (.inr ⟨rfl, by omega⟩))
    have H1 := hide hn2
    have H2 := hide hn
    clear hn hn2
    go_enter Try.func25, Try.ntmps25
    go_wp2_with (first
      | (go_at_call 42; refine (below_y _ _ _ b ?_ ?_ ?_ ?_ H1.out).mono ?_ <;> (try omega); rintro e w1 ⟨rfl, rfl⟩)
      | (go_at_call 42; refine (below_n _ _ _ (b - 1) ?_ ?_ ?_ ?_ H2.out).mono ?_ <;> (try omega); rintro e w1 ⟨rfl, rfl⟩))
    go_ret2
    exact ⟨ret_int2 HW.out.1.symm HW.out.2.symm, rfl⟩
theorem rwiden_s (n : Int) (b : Nat) (w : World) (h1 : 0 ≤ n) (h2 : n < 18446744073709551616) (hb1 : 1 ≤ b) (hb2 : b ≤ 64) (hn : 2 ^ (b - 1) ≤ n) (hn2 : n < 2 ^ b) :
    Calls Try.prog 25 #[.int .u64 n, .int .i64 b, .bool true] w fun e w' => e = .returned (.tuple #[.int .i64 (widV n b true), .int .i64 (widE n b true)]) ∧ w = w' := by
  have HW := hide (wid_ok n b true hb1 hb2 hn2 (.inl rfl))
  have H1 := hide hn2
  have H2 := hide hn
  have hs := pow_succ' b hb1
  have hlo : 0 ≤ 2 ^ b - 1 - n := by omega
  have hhi : 2 ^ b - 1 - n ≤ 9223372036854775807 := by have := pow_lt64 b hb2; omega
  have hbb := pow_lt64 b hb2
  clear hn hn2 hs
  go_enter Try.func25, Try.ntmps25
  go_wp2_with (first
    | (go_at_call 42; refine (below_y _ _ _ b ?_ ?_ ?_ ?_ H1.out).mono ?_ <;> (try omega); rintro e w1 ⟨rfl, rfl⟩)
    | (go_at_call 42; refine (below_n _ _ _ (b - 1) ?_ ?_ ?_ ?_ H2.out).mono ?_ <;> (try omega); rintro e w1 ⟨rfl, rfl⟩))
  go_loop [8, 9] (fun m i => ∃ k : Nat, k ≤ b ∧ i = .int .i64 k ∧ m = .int .u64 (2 ^ k - 1)) (fun _ i => b - (intOf i).toNat)
  case atStart => exact ⟨0, Nat.zero_le _, rfl, rfl⟩
  case round =>
    obtain ⟨k, hk, rfl, rfl⟩ := hrel
    by_cases hlt : k < b
    · have hm := pow_pos2 k
      have hm2 := pow_lt64 (k + 1) (by omega)
      rw [Int.pow_succ] at hm2
      have HS : Hid ((2 : Int) ^ (k + 1) = 2 ^ k * 2) := hide (Int.pow_succ _ _)
      generalize (2 : Int) ^ k = m at *
      go_wp2
      go_round
      case rel => exact ⟨k + 1, by omega, by go_num, by rw [HS.out]; congr 1; omega⟩
      case measure => simp [intOf]; omega
    · obtain rfl : k = b := by omega
      go_wp2
      go_ret2
      refine ⟨ret_int2 ?_ HW.out.1.symm, rfl⟩
      rw [HW.out.2, if_pos ⟨trivial, H2.out⟩]; omega
theorem rwiden_any (n b : Int) (s : Bool) (w : World) (h1 : 0 ≤ n) (h2 : n < 18446744073709551616) :
    Calls Try.prog 25 #[.int .u64 n, .int .i64 b, .bool s] w fun e w' => e = .returned (.tuple #[.int .i64 (widV n b s), .int .i64 (widE n b s)]) ∧ w = w' := by
  by_cases hb : 1 ≤ b ∧ b ≤ 64
  · obtain ⟨b, rfl⟩ := Int.eq_ofNat_of_zero_le (show 0 ≤ b by omega)
    rcases Int.lt_or_le n (2 ^ (b - 1)) with h | h
    · exact rwiden_low n b s w h1 (by omega) (by omega) h
    · rcases Int.lt_or_le n (2 ^ b) with h' | h'
      · cases s
        · exact rwiden_u n b w h1 h2 (by omega) (by omega) h h'
        · exact rwiden_s n b w h1 h2 (by omega) (by omega) h h'
      · exact rwiden_out n b s w h1 h2 (by omega) (by omega) h'
  · have := wid_bad n b s (.inl (by omega))
    rw [this.1, this.2]
    rcases (show b < 1 ∨ 64 < b by omega) with h | h
    all_goals
      clear hb this
      go_enter Try.func25, Try.ntmps25
      go_wp2
      go_ret2
      exact ⟨rfl, rfl⟩
set_option maxHeartbeats 400000 in
theorem rfield_any (n a m : Int) (w : World) (h1 : 0 ≤ n) (h2 : n < 18446744073709551616) :
    Calls Try.prog 32 #[.int .u64 n, .int .i64 a, .int .i64 m] w fun e w' => e = .returned (.tuple #[.int .u64 (fldV n a m), .int .i64 (fieldE a m)]) ∧ w = w' := by
  by_cases hh : 0 ≤ a ∧ a ≤ 63 ∧ 1 ≤ m ∧ m ≤ 64 - a
  · obtain ⟨ha0, ha1, hm0, hm1⟩ := hh
    have hE : fieldE a m = 0 := by rw [fieldE, if_neg (by omega)]
    have HV : Hid (fldV n a m = n / 2 ^ a.toNat % 2 ^ m.toNat) := by rw [fldV, if_pos hE]; exact hide rfl
    have HE := hide hE
    clear hE
    obtain ⟨a, rfl⟩ := Int.eq_ofNat_of_zero_le ha0
    obtain ⟨m, rfl⟩ := Int.eq_ofNat_of_zero_le (show 0 ≤ m by omega)
    simp only [Int.toNat_natCast] at HV
    obtain ⟨N, hN⟩ : ∃ N : Nat, n = (N : Int) := Int.eq_ofNat_of_zero_le h1
    have HN := hide hN
    clear hN
    go_enter Try.func32, Try.ntmps32
    go_wp2
    go_loop [8, 9] (fun o i => ∃ c : Nat, c ≤ m ∧ i = .int .i64 ((m : Int) - 1 - c) ∧ o = .int .u64 ((N / 2 ^ (a + (m - c)) % 2 ^ c : Nat) : Int)) (fun _ i => (intOf i + 1).toNat)
    case atStart => exact ⟨0, Nat.zero_le _, by congr 1; omega, by simp [Nat.mod_one]⟩
    case round =>
      obtain ⟨c, hc, rfl, rfl⟩ := hrel
      by_cases hlt : c < m
      · obtain ⟨q, hq⟩ : ∃ q, q = m - 1 - c := ⟨_, rfl⟩
        have e1 : ((m : Int) - 1 - c) = (q : Int) := by omega
        have hqa : q + a ≤ 63 := by omega
        have e2 : m - c = q + 1 := by omega
        rw [e1, e2]
        have HST : Hid (((N / 2 ^ (a + q) % 2 ^ (c + 1) : Nat) : Int) = 2 * ((N / 2 ^ (a + (q + 1)) % 2 ^ c : Nat) : Int) + n / 2 ^ (a + q) % 2) := by
          rw [HN.out, ← field_step, ← Nat.add_assoc, Nat.pow_succ, ← Nat.div_div_eq_div_mul]; exact hide (by simp)
        have hb3 : ((N / 2 ^ (a + (q + 1)) % 2 ^ c : Nat) : Int) < 9223372036854775808 := by
          have hb := Nat.mod_lt (N / 2 ^ (a + (q + 1))) (Nat.two_pow_pos c)
          have hb2 := Nat.pow_le_pow_right (n := 2) (by decide) (show c ≤ 63 by omega)
          omega
        have hb4 := Int.natCast_nonneg (N / 2 ^ (a + (q + 1)) % 2 ^ c)
        have HQ := hide hq
        clear e1 e2 hq
        generalize ((N / 2 ^ (a + (q + 1)) % 2 ^ c : Nat) : Int) = o at *
        have hx := Int.ediv_nonneg h1 (Int.le_of_lt (pow_pos2 (a + q)))
        go_wp2
        go_round
        case rel => exact ⟨c + 1, by omega, by congr 1; have := HQ.out; omega, by rw [show m - (c + 1) = q by have := HQ.out; omega, HST.out]⟩
        case measure => simp [intOf]
      · obtain rfl : c = m := by omega
        go_wp2
        go_ret2
        exact ⟨ret_int2 (by rw [HV.out, HN.out]) HE.out.symm, rfl⟩
  · have hE : fieldE a m = 7 := by rw [fieldE, if_pos (by omega)]
    have HV : Hid (fldV n a m = 0) := by rw [fldV, hE, if_neg (by decide)]; exact hide rfl
    have HE := hide hE
    have HH := hide hh
    clear hE
    rcases (show a < 0 ∨ 63 < a ∨ (0 ≤ a ∧ a ≤ 63 ∧ m < 1) ∨ (0 ≤ a ∧ a ≤ 63 ∧ 1 ≤ m ∧ 64 - a < m) by omega) with h | h | h | h
    all_goals
      clear hh
      go_enter Try.func32, Try.ntmps32
      go_wp2
      go_ret2
      exact ⟨ret_int2 HV.out.symm HE.out.symm, rfl⟩

def turnE (n b : Int) : Int := if b < 1 ∨ b > 64 ∨ 2 ^ b.toNat ≤ n then 7 else 0
def turnV (n b k : Int) : Int := if turnE n b = 0 then (turnN n.toNat b.toNat (k % b).toNat : Nat) else 0
end Go.Proofs.Yteebnoegeoenbaa
