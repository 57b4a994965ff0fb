/- The walks of ints.Turn and With: each returns what the plain functions say, for arguments within their kinds. -/
import Derived.Test.YteebnoegeoenbaaN5
namespace Go.Proofs.Yteebnoegeoenbaa
open Go.RowKit Go.Gr
set_option linter.unusedVariables false
theorem toNat_lt_pow (n : Int) (b : Nat) (h : 0 ≤ n) (h1 : n < 2 ^ b) : n.toNat < 2 ^ b := by
  have h4 : ((2 ^ b : Nat) : Int) = 2 ^ b := by simp
  omega
theorem turn_int (n b k : Nat) (hb : b ≤ 64) (hk : k < b) (hn : n < 2 ^ b) (h2 : n < 18446744073709551616) :
    bits .and .u64 (bits .or .u64 (IntKind.u64.wrap ((n : Int) * 2 ^ k)) ((n : Int) / 2 ^ (b - k))) (2 ^ b - 1) = (turnN n b k : Nat) := by
  have e1 : IntKind.u64.wrap ((n : Int) * 2 ^ k) = ((n * 2 ^ k % 18446744073709551616 : Nat) : Int) := by rw [IntKind.wrap_u64]; simp
  have e2 : ((n : Int) / 2 ^ (b - k)) = ((n / 2 ^ (b - k) : Nat) : Int) := by simp
  have hl : n / 2 ^ (b - k) < 18446744073709551616 := Nat.lt_of_le_of_lt (Nat.div_le_self _ _) h2
  have hm : n * 2 ^ k % 18446744073709551616 < 18446744073709551616 := Nat.mod_lt _ (by decide)
  have hor : (n * 2 ^ k % 18446744073709551616 ||| n / 2 ^ (b - k)) < 2 ^ 64 := Nat.or_lt_two_pow hm hl
  rw [e1, e2, u64_or_nat _ _ hm hl, and_top _ (by omega) (by have : (2 : Nat) ^ 64 = 18446744073709551616 := rfl; omega) b hb]
  have := turn_prog n b k hb hk hn
  rw [← this]; simp
theorem emod_of_tmod (k b : Int) (hb : 0 < b) : k % b = if k.tmod b < 0 then k.tmod b + b else k.tmod b := by
  have h := Int.mul_tdiv_add_tmod k b
  have h1 := Int.tmod_lt_of_pos k hb
  have h2 := Int.lt_tmod_of_pos k hb
  generalize k.tmod b = t at *
  generalize k.tdiv b = q at *
  subst h
  rw [Int.add_comm, Int.add_mul_emod_self_left]
  split
  · exact emod_neg t b (by omega) (by omega)
  · exact Int.emod_eq_of_lt (by omega) h1
set_option maxHeartbeats 400000 in
theorem turn_ok (n k : Int) (b : Nat) (w : World) (h1 : 0 ≤ n) (h2 : n < 18446744073709551616) (hb1 : 1 ≤ b) (hb2 : b ≤ 64) (hn : n < 2 ^ b) (hk1 : -9223372036854775808 ≤ k) (hk2 : k ≤ 9223372036854775807) :
    Calls Try.prog 29 #[.int .u64 n, .int .i64 b, .int .i64 k] w (RetQ w (.tuple #[.int .u64 (turnV n b k), .int .i64 (turnE n b)])) := by
  have hE : turnE n b = 0 := by rw [turnE, Int.toNat_natCast, if_neg (by omega)]
  have HV : Hid (turnV n b k = (turnN n.toNat b (k % b).toNat : Nat)) := by rw [turnV, if_pos hE, Int.toNat_natCast]; exact hide rfl
  have HE := hide hE
  have HT := hide (top_all b (by omega) hb1)
  have hle : n ≤ 18446744073709551615 / 2 ^ (64 - b) := by have := HT.out; omega
  have HN := hide hn
  have ht1 := Int.tmod_lt_of_pos k (show (0 : Int) < b by omega)
  have ht2 := Int.lt_tmod_of_pos k (show (0 : Int) < b by omega)
  have hb0 : (b : Int) ≠ 0 := by omega
  have hmod : Hid (k % b = if k.tmod b < 0 then k.tmod b + b else k.tmod b) := by
    exact hide (emod_of_tmod k b (by omega))
  clear hn hE
  have HX : ∀ kk : Nat, kk < b → bits .and .u64 (bits .or .u64 (IntKind.u64.wrap (n * 2 ^ kk)) (n / 2 ^ (b - kk))) (18446744073709551615 / 2 ^ (64 - b)) = (turnN n.toNat b kk : Nat) := fun kk hkk => by
    have := turn_int n.toNat b kk hb2 hkk (by exact toNat_lt_pow n b h1 HN.out) (by omega)
    rw [Int.toNat_of_nonneg h1] at this
    rw [HT.out, this]
  have HX := hide HX
  by_cases hneg : k.tmod b < 0
  all_goals
    go_enter Try.func29, Try.ntmps29
    go_wp2_with (first
      | (go_at_call 41; refine (top_any _ _ (by omega) (by omega)).mono ?_; rintro e w1 ⟨rfl, rfl⟩))
    go_quiet ((go_at_call 41; exact Calls.quiet_of_same (top_q _ _ (by omega) (by omega))))
    go_wp2
    go_ret2
    refine RetQ.mk _ (tup2 ?_ HE.out.symm)
  · obtain ⟨kk, hkk⟩ := Int.eq_ofNat_of_zero_le (show 0 ≤ k.tmod b + b by omega)
    have := hmod.out
    rw [if_pos hneg, hkk] at this
    rw [hkk, HV.out, this, Int.toNat_natCast, show ((b : Int) - (kk : Int)).toNat = b - kk by omega]
    exact HX.out kk (by omega)
  · obtain ⟨kk, hkk⟩ := Int.eq_ofNat_of_zero_le (show 0 ≤ k.tmod b by omega)
    have := hmod.out
    rw [if_neg (by omega), hkk] at this
    rw [hkk, HV.out, this, Int.toNat_natCast, show ((b : Int) - (kk : Int)).toNat = b - kk by omega]
    exact HX.out kk (by omega)
theorem turn_bad (n k b : Int) (w : World) (h1 : 0 ≤ n) (h2 : n < 18446744073709551616) (hb : ¬ (1 ≤ b ∧ b ≤ 64 ∧ n < 2 ^ b.toNat)) :
    Calls Try.prog 29 #[.int .u64 n, .int .i64 b, .int .i64 k] w (RetQ w (.tuple #[.int .u64 (turnV n b k), .int .i64 (turnE n b)])) := by
  have hE : turnE n b = 7 := by rw [turnE, if_pos (by omega)]
  have HV : Hid (turnV n b k = 0) := by rw [turnV, hE, if_neg (by decide)]; exact hide rfl
  have HE := hide hE
  clear hE
  rcases (show b < 1 ∨ 64 < b ∨ (1 ≤ b ∧ b ≤ 64 ∧ 2 ^ b.toNat ≤ n) by omega) with h | h | ⟨hb1, hb2, hn⟩
  · clear hb
    go_enter Try.func29, Try.ntmps29
    go_wp2
    go_ret2
    exact RetQ.same (tup2 HV.out.symm HE.out.symm)
  · clear hb
    go_enter Try.func29, Try.ntmps29
    go_wp2
    go_ret2
    exact RetQ.same (tup2 HV.out.symm HE.out.symm)
  · clear hb
    obtain ⟨b, rfl⟩ := Int.eq_ofNat_of_zero_le (show 0 ≤ b by omega)
    rw [Int.toNat_natCast] at hn
    have hlt : 18446744073709551615 / 2 ^ (64 - b) < n := by have := top_all b (by omega) (by omega); omega
    clear hn
    go_enter Try.func29, Try.ntmps29
    go_wp2_with (first
      | (go_at_call 41; refine (top_any _ _ (by omega) (by omega)).mono ?_; rintro e w1 ⟨rfl, rfl⟩))
    go_ret2
    exact RetQ.same (tup2 HV.out.symm HE.out.symm)
theorem turn_any (n k b : Int) (w : World) (h1 : 0 ≤ n) (h2 : n < 18446744073709551616) (hk1 : -9223372036854775808 ≤ k) (hk2 : k ≤ 9223372036854775807) :
    Calls Try.prog 29 #[.int .u64 n, .int .i64 b, .int .i64 k] w (RetQ w (.tuple #[.int .u64 (turnV n b k), .int .i64 (turnE n b)])) := by
  by_cases hb : 1 ≤ b ∧ b ≤ 64 ∧ n < 2 ^ b.toNat
  · obtain ⟨b, rfl⟩ := Int.eq_ofNat_of_zero_le (show 0 ≤ b by omega)
    exact turn_ok n k b w h1 h2 (by omega) (by omega) (by simpa using hb.2.2) hk1 hk2
  · exact turn_bad n k b w h1 h2 hb

def withE (n a m v : Int) : Int := if fieldE a m ≠ 0 ∨ 2 ^ m.toNat ≤ v then 7 else 0
def withV (n a m v : Int) : Int := if withE n a m v = 0 then (withN n.toNat a.toNat m.toNat v.toNat : Nat) else 0
theorem with_int (n v : Int) (a m : Nat) (h1 : 0 ≤ n) (h2 : n < 18446744073709551616) (hv1 : 0 ≤ v) (ha : a ≤ 63) (hm2 : m ≤ 64 - a) (hv : v < 2 ^ m) :
    bits .or .u64 (bits .andNot .u64 n (IntKind.u64.wrap ((2 ^ m - 1) * 2 ^ a))) (IntKind.u64.wrap (v * 2 ^ a)) = (withN n.toNat a m v.toNat : Nat) := by
  obtain ⟨n, rfl⟩ := Int.eq_ofNat_of_zero_le h1
  obtain ⟨v, rfl⟩ := Int.eq_ofNat_of_zero_le hv1
  have hvn : v < 2 ^ m := by have h4 : ((2 ^ m : Nat) : Int) = 2 ^ m := by simp
                             omega
  have hp := Nat.two_pow_pos m
  have hM : (2 ^ m - 1) * 2 ^ a < 18446744073709551616 := by
    have h1 : (2 ^ m - 1) * 2 ^ a < 2 ^ m * 2 ^ a := Nat.mul_lt_mul_of_pos_right (by omega) (Nat.two_pow_pos _)
    rw [← Nat.pow_add] at h1
    exact Nat.lt_of_lt_of_le h1 (Nat.pow_le_pow_right (n := 2) (j := 64) (by decide) (by omega))
  have hV : v * 2 ^ a < 18446744073709551616 := by
    have h1 : v * 2 ^ a < 2 ^ m * 2 ^ a := Nat.mul_lt_mul_of_pos_right hvn (Nat.two_pow_pos _)
    rw [← Nat.pow_add] at h1
    exact Nat.lt_of_lt_of_le h1 (Nat.pow_le_pow_right (n := 2) (j := 64) (by decide) (by omega))
  have e1 : IntKind.u64.wrap (((2 : Int) ^ m - 1) * 2 ^ a) = (((2 ^ m - 1) * 2 ^ a : Nat) : Int) := by
    rw [IntKind.wrap_u64, show ((2 : Int) ^ m - 1) * 2 ^ a = (((2 ^ m - 1) * 2 ^ a : Nat) : Int) by
      rw [Int.natCast_mul, Int.ofNat_sub (by omega)]; simp]
    omega
  have e2 : IntKind.u64.wrap ((v : Int) * 2 ^ a) = ((v * 2 ^ a : Nat) : Int) := by
    rw [IntKind.wrap_u64, show (v : Int) * 2 ^ a = ((v * 2 ^ a : Nat) : Int) by simp]
    omega
  have hn : n < 18446744073709551616 := by omega
  have hand : n &&& (18446744073709551615 - (2 ^ m - 1) * 2 ^ a) < 18446744073709551616 := Nat.lt_of_le_of_lt Nat.and_le_left hn
  rw [e1, e2, u64_andNot_nat _ _ hn hM, u64_or_nat _ _ hand hV, Int.toNat_natCast, Int.toNat_natCast, with_prog n a m v (by omega) hn hvn]
set_option maxHeartbeats 400000 in
theorem with_any (n a m v : Int) (w : World) (h1 : 0 ≤ n) (h2 : n < 18446744073709551616) (hv1 : 0 ≤ v) (hv2 : v < 18446744073709551616) :
    Calls Try.prog 33 #[.int .u64 n, .int .i64 a, .int .i64 m, .int .u64 v] w (RetQ w (.tuple #[.int .u64 (withV n a m v), .int .i64 (withE n a m v)])) := by
  by_cases hh : 0 ≤ a ∧ a ≤ 63 ∧ 1 ≤ m ∧ m ≤ 64 - a
  · obtain ⟨ha0, ha1, hm0, hm1⟩ := hh
    have hF : fieldE a m = 0 := by rw [fieldE, if_neg (by omega)]
    obtain ⟨a, rfl⟩ := Int.eq_ofNat_of_zero_le ha0
    obtain ⟨m, rfl⟩ := Int.eq_ofNat_of_zero_le (show 0 ≤ m by omega)
    have ht := top_all m (by omega) (by omega)
    by_cases hv : v < 2 ^ m
    · have hE : withE n a m v = 0 := by rw [withE, Int.toNat_natCast, if_neg (by omega)]
      have HV : Hid (withV n a m v = (withN n.toNat a m v.toNat : Nat)) := by rw [withV, if_pos hE, Int.toNat_natCast, Int.toNat_natCast]; exact hide rfl
      have HE := hide hE
      have HW := hide (with_int n v a m h1 h2 hv1 (by omega) (by omega) hv)
      have hle : v ≤ 18446744073709551615 / 2 ^ (64 - m) := by omega
      have HT := hide ht
      clear ht hv hE hF
      go_enter Try.func33, Try.ntmps33
      go_wp2_with (first
        | (go_at_call 43; refine (fieldc_ok _ _ _ (by omega) (by omega) (by omega)).mono ?_; rintro e w1 ⟨rfl, rfl⟩)
        | (go_at_call 41; refine (top_any _ _ (by omega) (by omega)).mono ?_; rintro e w1 ⟨rfl, rfl⟩))
      go_quiet ((go_at_call 41; exact Calls.quiet_of_same (top_q _ _ (by omega) (by omega))))
      go_wp2
      go_ret2
      exact RetQ.mk _ (tup2 (by rw [HT.out, HW.out, HV.out]) HE.out.symm)
    · have hE : withE n a m v = 7 := by rw [withE, Int.toNat_natCast, if_pos (by omega)]
      have HV : Hid (withV n a m v = 0) := by rw [withV, hE, if_neg (by decide)]; exact hide rfl
      have HE := hide hE
      have hle : 18446744073709551615 / 2 ^ (64 - m) < v := by omega
      clear ht hv hE hF
      go_enter Try.func33, Try.ntmps33
      go_wp2_with (first
        | (go_at_call 43; refine (fieldc_ok _ _ _ (by omega) (by omega) (by omega)).mono ?_; rintro e w1 ⟨rfl, rfl⟩)
        | (go_at_call 41; refine (top_any _ _ (by omega) (by omega)).mono ?_; rintro e w1 ⟨rfl, rfl⟩))
      go_ret2
      exact RetQ.same (tup2 HV.out.symm HE.out.symm)
  · have hF : fieldE a m = 7 := by rw [fieldE, if_pos (by omega)]
    have hE : withE n a m v = 7 := by rw [withE, hF, if_pos (.inl (by decide))]
    have HV : Hid (withV n a m v = 0) := by rw [withV, hE, if_neg (by decide)]; exact hide rfl
    have HE := hide hE
    have HH := hide hh
    clear hE hF hh
    go_enter Try.func33, Try.ntmps33
    go_wp2_with (go_at_call 43; refine (fieldc_bad _ _ _ HH.out).mono ?_; rintro e w1 ⟨rfl, rfl⟩)
    go_ret2
    exact RetQ.same (tup2 HV.out.symm HE.out.symm)
end Go.Proofs.Yteebnoegeoenbaa
