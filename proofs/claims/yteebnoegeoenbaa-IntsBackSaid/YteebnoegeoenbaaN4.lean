/- The walks of ints.Widen, field and Field: each returns what the plain functions say, for arguments within their kinds. -/
import Derived.Test.YteebnoegeoenbaaN3
import Derived.Test.YteebnoegeoenbaaNQ
namespace Go.Proofs.Yteebnoegeoenbaa
open Go.RowKit Go.Gr
set_option linter.unusedVariables false
theorem top_q (n : Int) (w : World) (h : 1 ≤ n) (h2 : n ≤ 64) :
    Calls Try.prog 41 #[.int .i64 n] w fun e w' => e = .returned (.int .u64 (18446744073709551615 / 2 ^ (64 - n).toNat)) ∧ w' = w :=
  (top_any n w h h2).mono fun _ _ ⟨a, b⟩ => ⟨a, b.symm⟩
theorem widen_s (n : Int) (b : Nat) (w : World) (h1 : 0 ≤ n) (h2 : n < 18446744073709551616) (hb1 : 1 ≤ b) (hb2 : b ≤ 64) :
    Calls Try.prog 24 #[.int .u64 n, .int .i64 b, .bool true] w fun e w' => e = .returned (.tuple #[.int .i64 (widV n b true), .int .i64 (widE n b true)]) ∧ w = w' := by
  have HT := hide (top_all b (by omega) hb1)
  go_enter Try.func24, Try.ntmps24
  go_wp2_with (go_at_call 41; refine (top_any _ _ (by omega) (by omega)).mono ?_; rintro e w1 ⟨rfl, rfl⟩)
  all_goals go_ret2
  · have := wid_bad n b true (.inl (by have := HT.out; rw [Int.toNat_natCast]; omega))
    exact ⟨ret_int2 this.1.symm this.2.symm, rfl⟩
  · have hn : n < 2 ^ b := by have := HT.out; omega
    have := wid_ok n b true hb1 hb2 hn (.inl rfl)
    exact ⟨ret_int2 (by rw [widen_s_val n b hb1 hb2 h1 hn, this.2]; simp) this.1.symm, rfl⟩
theorem widen_u (n : Int) (b : Nat) (w : World) (h1 : 0 ≤ n) (h2 : n < 18446744073709551616) (hb1 : 1 ≤ b) (hb2 : b ≤ 64) :
    Calls Try.prog 24 #[.int .u64 n, .int .i64 b, .bool false] w fun e w' => e = .returned (.tuple #[.int .i64 (widV n b false), .int .i64 (widE n b false)]) ∧ w = w' := by
  have HT := hide (top_all b (by omega) hb1)
  by_cases hbig : 9223372036854775807 < n
  all_goals
    go_enter Try.func24, Try.ntmps24
    go_wp2_with (go_at_call 41; refine (top_any _ _ (by omega) (by omega)).mono ?_; rintro e w1 ⟨rfl, rfl⟩)
    all_goals go_ret2
  · have := wid_bad n b false (.inr ⟨rfl, hbig⟩)
    exact ⟨ret_int2 this.1.symm this.2.symm, rfl⟩
  · have := wid_bad n b false (.inr ⟨rfl, hbig⟩)
    exact ⟨ret_int2 this.1.symm this.2.symm, rfl⟩
  · have := wid_bad n b false (.inl (by have := HT.out; rw [Int.toNat_natCast]; omega))
    exact ⟨ret_int2 this.1.symm this.2.symm, rfl⟩
  · have hn : n < 2 ^ b := by have := HT.out; omega
    have := wid_ok n b false hb1 hb2 hn (.inr (by omega))
    exact ⟨ret_int2 (by rw [this.2]; simp) this.1.symm, rfl⟩
theorem widen_any (n b : Int) (s : Bool) (w : World) (h1 : 0 ≤ n) (h2 : n < 18446744073709551616) :
    Calls Try.prog 24 #[.int .u64 n, .int .i64 b, .bool s] w fun e w' => e = .returned (.tuple #[.int .i64 (widV n b s), .int .i64 (widE n b s)]) ∧ w = w' := by
  by_cases hb : 1 ≤ b ∧ b ≤ 64
  · obtain ⟨b, rfl⟩ := Int.eq_ofNat_of_zero_le (show 0 ≤ b by omega)
    cases s
    · exact widen_u n b w h1 h2 (by omega) (by omega)
    · exact widen_s n b w h1 h2 (by omega) (by omega)
  · have := wid_bad n b s (.inl (by omega))
    rw [this.1, this.2]
    rcases (show b < 1 ∨ 64 < b by omega) with h | h
    all_goals
      clear hb this
      go_enter Try.func24, Try.ntmps24
      go_wp2
      go_ret2
      exact ⟨rfl, rfl⟩
def fieldE (a m : Int) : Int := if a < 0 ∨ 63 < a ∨ m < 1 ∨ 64 - a < m then 7 else 0
theorem fieldc_ok (a m : Int) (w : World) (h1 : 0 ≤ a) (h2 : 1 ≤ m) (h3 : m ≤ 64 - a) :
    Calls Try.prog 43 #[.int .i64 a, .int .i64 m] w fun e w' => e = .returned (.int .i64 0) ∧ w = w' := by
  go_enter Try.func43, Try.ntmps43
  go_wp2
  go_ret
  exact ⟨rfl, rfl⟩
theorem fieldc_bad (a m : Int) (w : World) (h : ¬ (0 ≤ a ∧ a ≤ 63 ∧ 1 ≤ m ∧ m ≤ 64 - a)) :
    Calls Try.prog 43 #[.int .i64 a, .int .i64 m] w fun e w' => e = .returned (.int .i64 7) ∧ w = w' := by
  rcases (show a < 0 ∨ 63 < a ∨ (0 ≤ a ∧ a ≤ 63 ∧ m < 1) ∨ (0 ≤ a ∧ a ≤ 63 ∧ 1 ≤ m ∧ 64 - a < m) by omega) with h | h | h | h
  all_goals
    go_enter Try.func43, Try.ntmps43
    go_wp2
    go_ret
    exact ⟨rfl, rfl⟩
/-- the bits of n from a on, m of them -/
def fldV (n a m : Int) : Int := if fieldE a m = 0 then n / 2 ^ a.toNat % 2 ^ m.toNat else 0
set_option maxHeartbeats 400000 in
theorem field_any (n a m : Int) (w : World) (h1 : 0 ≤ n) (h2 : n < 18446744073709551616) :
    Calls Try.prog 31 #[.int .u64 n, .int .i64 a, .int .i64 m] w (RetQ w (.tuple #[.int .u64 (fldV n a m), .int .i64 (fieldE a m)])) := by
  by_cases hh : 0 ≤ a ∧ a ≤ 63 ∧ 1 ≤ m ∧ m ≤ 64 - a
  · obtain ⟨ha0, ha1, hm0, hm1⟩ := hh
    have hE : fieldE a m = 0 := by rw [fieldE, if_neg (by omega)]
    have HV : Hid (fldV n a m = n / 2 ^ a.toNat % 2 ^ m.toNat) := by rw [fldV, if_pos hE]; exact hide rfl
    have HE := hide hE
    clear hE
    go_enter Try.func31, Try.ntmps31
    go_wp2_with (go_at_call 43; refine (fieldc_ok _ _ _ ha0 hm0 hm1).mono ?_; rintro e w1 ⟨rfl, rfl⟩)
    go_quiet ((go_at_call 41; exact Calls.quiet_of_same (top_q _ _ (by omega) (by omega))))
    go_wp2
    go_ret2
    refine RetQ.mk _ (tup2 ?_ HE.out.symm)
    obtain ⟨m, rfl⟩ := Int.eq_ofNat_of_zero_le (show 0 ≤ m by omega)
    have hx := Int.ediv_nonneg h1 (Int.le_of_lt (pow_pos2 a.toNat))
    have hx2 := Int.ediv_le_self (2 ^ a.toNat) h1
    rw [HV.out, top_eq m (by omega) (by omega), and_top _ (by omega) (by omega) m (by omega), Int.toNat_natCast]
  · have hE : fieldE a m = 7 := by rw [fieldE, if_pos (by omega)]
    have HV : Hid (fldV n a m = 0) := by rw [fldV, hE, if_neg (by decide)]; exact hide rfl
    have HE := hide hE
    have HH := hide hh
    clear hE hh
    go_enter Try.func31, Try.ntmps31
    go_wp2_with (go_at_call 43; refine (fieldc_bad _ _ _ HH.out).mono ?_; rintro e w1 ⟨rfl, rfl⟩)
    go_ret2
    exact RetQ.same (tup2 HV.out.symm HE.out.symm)
end Go.Proofs.Yteebnoegeoenbaa
