/- The walks of the reference Turn and With: each returns what the plain functions say, for arguments within their kinds. -/
import Derived.Test.YteebnoegeoenbaaN6
namespace Go.Proofs.Yteebnoegeoenbaa
open Go.RowKit Go.Gr
set_option linter.unusedVariables false
theorem tsum_mono (n b k i j : Nat) (h : i ≤ j) : tsum n b k i ≤ tsum n b k j := by
  induction j with
  | zero => obtain rfl : i = 0 := by omega
            exact Nat.le_refl _
  | succ j ih =>
    rcases Nat.lt_or_ge i (j + 1) with h1 | h1
    · exact Nat.le_trans (ih (by omega)) (by rw [tsum]; exact Nat.le_add_right _ _)
    · obtain rfl : i = j + 1 := by omega
      exact Nat.le_refl _
theorem emod_of_tmod2 (k b : Int) (hb : 0 < b) : (k.tmod b + b) % b = k % b := by
  rw [Int.add_emod_right, emod_of_tmod k b hb]
  have h1 := Int.tmod_lt_of_pos k hb
  have h2 := Int.lt_tmod_of_pos k hb
  split
  · exact emod_neg _ _ (by omega) (by omega)
  · exact Int.emod_eq_of_lt (by omega) h1
set_option maxHeartbeats 400000 in
theorem rturn_ok (n k : Int) (b : Nat) (w : World) (h1 : 0 ≤ n) (h2 : n < 18446744073709551616) (hb1 : 1 ≤ b) (hb2 : b ≤ 64) (hn : n < 2 ^ b) (hk1 : -9223372036854775808 ≤ k) (hk2 : k ≤ 9223372036854775807) :
    Calls Try.prog 30 #[.int .u64 n, .int .i64 b, .int .i64 k] w fun e w' => e = .returned (.tuple #[.int .u64 (turnV n b k), .int .i64 (turnE n b)]) ∧ w = w' := by
  have hE : turnE n b = 0 := by rw [turnE, Int.toNat_natCast, if_neg (by omega)]
  have hV : turnV n b k = (turnN n.toNat b (k % b).toNat : Nat) := by rw [turnV, if_pos hE, Int.toNat_natCast]
  have ht1 := Int.tmod_lt_of_pos k (show (0 : Int) < b by omega)
  have ht2 := Int.lt_tmod_of_pos k (show (0 : Int) < b by omega)
  have hb0 : (b : Int) ≠ 0 := by omega
  obtain ⟨kk, hkk⟩ := Int.eq_ofNat_of_zero_le (Int.emod_nonneg k hb0)
  have hlt : kk < b := by have := Int.emod_lt_of_pos k (show (0 : Int) < b by omega); omega
  have hm : (k.tmod b + b) % b = (kk : Int) := (emod_of_tmod2 k b (by omega)).trans hkk
  rw [hkk, Int.toNat_natCast, ← tsum_eq _ _ _ hlt (toNat_lt_pow n b h1 hn)] at hV
  have HS : Hid (∀ i, i < b → (tsum n.toNat b kk (i + 1) : Int) < 18446744073709551616) := hide (fun i hi => by
    have e1 := tsum_mono n.toNat b kk (i + 1) b hi
    have e2 := turn_lt n.toNat b kk hlt (toNat_lt_pow n b h1 hn)
    rw [← tsum_eq _ _ _ hlt (toNat_lt_pow n b h1 hn)] at e2
    have e3 := Nat.pow_le_pow_right (n := 2) (j := 64) (by decide) hb2
    omega)
  have HV := hide hV
  have HE := hide hE
  have HN := hide hn
  clear hV hE hn hkk
  go_enter Try.func30, Try.ntmps30
  go_wp2_with (go_at_call 42; refine (below_y _ _ _ b ?_ ?_ ?_ ?_ HN.out).mono ?_ <;> (try omega); rintro e w1 ⟨rfl, rfl⟩)
  go_loop [8, 9] (fun o i => ∃ c : Nat, c ≤ b ∧ i = .int .i64 c ∧ o = .int .u64 (tsum n.toNat b kk c : Nat)) (fun _ i => b - (intOf i).toNat)
  case atStart => exact ⟨0, Nat.zero_le _, rfl, rfl⟩
  case round =>
    obtain ⟨c, hc, rfl, rfl⟩ := hrel
    by_cases hcb : c < b
    · have hx := Int.ediv_nonneg h1 (Int.le_of_lt (pow_pos2 c))
      have hs1 := HS.out c hcb
      have HT : Hid (tsum n.toNat b kk (c + 1) = tsum n.toNat b kk c + (n.toNat / 2 ^ c % 2) * 2 ^ ((c + kk) % b)) := hide rfl
      have hr : 0 ≤ ((c : Int) + kk) % b := Int.emod_nonneg _ hb0
      have hr2 : ((c : Int) + kk) % b < b := Int.emod_lt_of_pos _ (by omega)
      have HC : Hid (n / 2 ^ c = (n.toNat / 2 ^ c : Nat)) := by
        have : n = (n.toNat : Int) := by omega
        rw [this]; exact hide (by simp)
      have h0 := Int.natCast_nonneg (tsum n.toNat b kk c)
      by_cases hbit : n / 2 ^ c % 2 = 1
      · have hbb : n.toNat / 2 ^ c % 2 = 1 := by have := HC.out; omega
        have HB : Hid ((tsum n.toNat b kk (c + 1) : Int) = tsum n.toNat b kk c + 2 ^ ((c + kk) % b)) := by
          rw [HT.out, hbb, Nat.one_mul]; exact hide (by simp)
        have hup : (tsum n.toNat b kk c : Int) + 2 ^ ((c + kk) % b) < 18446744073709551616 := by rw [← HB.out]; exact hs1
        have hpp := pow_pos2 ((c + kk) % b)
        have HBIT := hide hbit
        clear hs1 hbb hbit
        generalize (tsum n.toNat b kk c : Int) = o at *
        have hbit2 : (n / 2 ^ c % 2 == 1) = true := by simpa using HBIT.out
        go_wp2
        go_round
        case rel => exact ⟨c + 1, by omega, by go_num, by rw [HB.out]⟩
        case measure => simp [intOf]; omega
      · have hbb : n.toNat / 2 ^ c % 2 = 0 := by have := HC.out; omega
        have HB : Hid ((tsum n.toNat b kk (c + 1) : Int) = tsum n.toNat b kk c) := by
          rw [HT.out, hbb, Nat.zero_mul]; exact hide rfl
        have HBIT := hide hbit
        clear hs1 hbb hbit
        generalize (tsum n.toNat b kk c : Int) = o at *
        have hbit2 : (n / 2 ^ c % 2 == 1) = false := by simpa using HBIT.out
        go_wp2
        go_round
        case rel => exact ⟨c + 1, by omega, by go_num, by rw [HB.out]⟩
        case measure => simp [intOf]; omega
    · obtain rfl : c = b := by omega
      go_wp2
      go_ret2
      exact ⟨ret_int2 (by rw [HV.out]) HE.out.symm, rfl⟩
theorem rturn_bad (n k b : Int) (w : World) (h1 : 0 ≤ n) (h2 : n < 18446744073709551616) (hb : ¬ (1 ≤ b ∧ b ≤ 64 ∧ n < 2 ^ b.toNat)) :
    Calls Try.prog 30 #[.int .u64 n, .int .i64 b, .int .i64 k] w fun e w' => e = .returned (.tuple #[.int .u64 (turnV n b k), .int .i64 (turnE n b)]) ∧ w = w' := by
  have hE : turnE n b = 7 := by rw [turnE, if_pos (by omega)]
  have HV : Hid (turnV n b k = 0) := by rw [turnV, hE, if_neg (by decide)]; exact hide rfl
  have HE := hide hE
  clear hE
  rcases (show b < 1 ∨ 64 < b ∨ (1 ≤ b ∧ b ≤ 64 ∧ 2 ^ b.toNat ≤ n) by omega) with h | h | ⟨hb1, hb2, hn⟩
  · clear hb
    go_enter Try.func30, Try.ntmps30
    go_wp2
    go_ret2
    exact ⟨ret_int2 HV.out.symm HE.out.symm, rfl⟩
  · clear hb
    go_enter Try.func30, Try.ntmps30
    go_wp2
    go_ret2
    exact ⟨ret_int2 HV.out.symm HE.out.symm, rfl⟩
  · clear hb
    obtain ⟨b, rfl⟩ := Int.eq_ofNat_of_zero_le (show 0 ≤ b by omega)
    rw [Int.toNat_natCast] at hn
    have HN := hide hn
    clear hn
    go_enter Try.func30, Try.ntmps30
    go_wp2_with (go_at_call 42; refine (below_n _ _ _ b ?_ ?_ ?_ ?_ HN.out).mono ?_ <;> (try omega); rintro e w1 ⟨rfl, rfl⟩)
    go_ret2
    exact ⟨ret_int2 HV.out.symm HE.out.symm, rfl⟩
theorem rturn_any (n k b : Int) (w : World) (h1 : 0 ≤ n) (h2 : n < 18446744073709551616) (hk1 : -9223372036854775808 ≤ k) (hk2 : k ≤ 9223372036854775807) :
    Calls Try.prog 30 #[.int .u64 n, .int .i64 b, .int .i64 k] w fun e w' => e = .returned (.tuple #[.int .u64 (turnV n b k), .int .i64 (turnE n b)]) ∧ w = w' := by
  by_cases hb : 1 ≤ b ∧ b ≤ 64 ∧ n < 2 ^ b.toNat
  · obtain ⟨b, rfl⟩ := Int.eq_ofNat_of_zero_le (show 0 ≤ b by omega)
    exact rturn_ok n k b w h1 h2 (by omega) (by omega) (by simpa using hb.2.2) hk1 hk2
  · exact rturn_bad n k b w h1 h2 hb

theorem div_bit (W i : Nat) : W / 2 ^ i = 2 * (W / 2 ^ (i + 1)) + (W.testBit i).toNat := by
  rw [Nat.testBit_eq_decide_div_mod_eq, Nat.pow_succ, ← Nat.div_div_eq_div_mul]
  generalize W / 2 ^ i = x
  rcases Nat.mod_two_eq_zero_or_one x with h | h <;> simp [h] <;> omega
set_option maxHeartbeats 400000 in
theorem rwith_ok (n v : Int) (a m : Nat) (w : World) (h1 : 0 ≤ n) (h2 : n < 18446744073709551616) (hv1 : 0 ≤ v) (hv2 : v < 18446744073709551616) (ha : a ≤ 63) (hm : 1 ≤ m) (hm2 : m ≤ 64 - a) (hv : v < 2 ^ m) :
    Calls Try.prog 34 #[.int .u64 n, .int .i64 a, .int .i64 m, .int .u64 v] w fun e w' => e = .returned (.tuple #[.int .u64 (withV n a m v), .int .i64 (withE n a m v)]) ∧ w = w' := by
  have hF : fieldE a m = 0 := by rw [fieldE, if_neg (by omega)]
  have hE : withE n a m v = 0 := by rw [withE, Int.toNat_natCast, if_neg (by omega)]
  have HV : Hid (withV n a m v = (withN n.toNat a m v.toNat : Nat)) := by rw [withV, if_pos hE, Int.toNat_natCast, Int.toNat_natCast]; exact hide rfl
  have HE := hide hE
  have hvn := toNat_lt_pow v m hv1 hv
  have HL := hide (with_lt n.toNat a m v.toNat (by omega) (toNat_lt_pow n 64 h1 (by simpa using h2)) hvn)
  have HB : Hid (∀ i, (withN n.toNat a m v.toNat).testBit i = if a ≤ i ∧ i < a + m then v.toNat.testBit (i - a) else n.toNat.testBit i) := hide (fun i => with_bit _ _ _ _ i hvn)
  have HD := hide (fun i => div_bit (withN n.toNat a m v.toNat) i)
  have HVV := hide hv
  have HF := hide hF
  obtain ⟨W, hW⟩ : ∃ W, W = withN n.toNat a m v.toNat := ⟨_, rfl⟩
  rw [← hW] at HL HB HD HV
  clear hv hE hW hF hvn
  go_enter Try.func34, Try.ntmps34
  go_wp2_with (first
    | (go_at_call 32; refine (rfield_any _ _ _ _ h1 h2).mono ?_; rintro e w1 ⟨rfl, rfl⟩; rw [HF.out])
    | (go_at_call 42; refine (below_y _ _ _ m ?_ ?_ ?_ ?_ HVV.out).mono ?_ <;> (try omega); rintro e w1 ⟨rfl, rfl⟩))
  go_loop [12, 13, 14] (fun o i _ => ∃ c : Nat, c ≤ 64 ∧ i = .int .i64 (63 - c) ∧ o = .int .u64 (W / 2 ^ (64 - c) : Nat)) (fun _ i _ => (intOf i + 1).toNat)
  case atStart => exact ⟨0, Nat.zero_le _, rfl, by rw [Nat.div_eq_of_lt HL.out]; rfl⟩
  case round =>
    obtain ⟨c, hc, rfl, rfl⟩ := hrel
    by_cases hcb : c < 64
    · obtain ⟨q, hq⟩ : ∃ q, q = 63 - c := ⟨_, rfl⟩
      have e1 : (63 : Int) - c = (q : Int) := by omega
      have e2 : 64 - c = q + 1 := by omega
      have hq63 : q ≤ 63 := by omega
      rw [e1, e2]
      have hd := HD.out q
      have hWl : W < 2 ^ 64 := HL.out
      have hol : W / 2 ^ (q + 1) < 9223372036854775808 := by
        have h2 : W / 2 ^ (q + 1) ≤ W / 2 := Nat.div_le_div_left (by rw [Nat.pow_succ]; have := Nat.two_pow_pos q; omega) (by decide)
        omega
      have hoi : ((W / 2 ^ (q + 1) : Nat) : Int) < 9223372036854775808 := by omega
      have hon := Int.natCast_nonneg (W / 2 ^ (q + 1))
      have hx := Int.ediv_nonneg h1 (Int.le_of_lt (pow_pos2 q))
      have HQ := hide hq
      by_cases hin : a ≤ q ∧ q < a + m
      · obtain ⟨hin1, hin2⟩ := hin
        have hxv := Int.ediv_nonneg hv1 (Int.le_of_lt (pow_pos2 (q - a)))
        have HST : Hid (((W / 2 ^ q : Nat) : Int) = 2 * ((W / 2 ^ (q + 1) : Nat) : Int) + v / 2 ^ (q - a) % 2) := by
          rw [hd, HB.out, if_pos ⟨hin1, hin2⟩, Nat.testBit_eq_decide_div_mod_eq]
          have : v = (v.toNat : Int) := by omega
          rw [this]
          have e3 : (((v.toNat : Int) / 2 ^ (q - a)) % 2) = ((v.toNat / 2 ^ (q - a) % 2 : Nat) : Int) := by simp
          rw [e3, Int.toNat_natCast]
          rcases Nat.mod_two_eq_zero_or_one (v.toNat / 2 ^ (q - a)) with h | h <;> simp [h] <;> exact hide trivial
        clear hq e1 e2 hd hWl hol
        generalize ((W / 2 ^ (q + 1) : Nat) : Int) = o at *
        go_wp2
        go_round
        case rel => exact ⟨c + 1, by omega, by congr 1; have := HQ.out; omega, by rw [show 64 - (c + 1) = q by have := HQ.out; omega, HST.out]⟩
        case measure => simp [intOf]
      · have HST : Hid (((W / 2 ^ q : Nat) : Int) = 2 * ((W / 2 ^ (q + 1) : Nat) : Int) + n / 2 ^ q % 2) := by
          rw [hd, HB.out, if_neg hin, Nat.testBit_eq_decide_div_mod_eq]
          have : n = (n.toNat : Int) := by omega
          rw [this]
          have e3 : (((n.toNat : Int) / 2 ^ q) % 2) = ((n.toNat / 2 ^ q % 2 : Nat) : Int) := by simp
          rw [e3, Int.toNat_natCast]
          rcases Nat.mod_two_eq_zero_or_one (n.toNat / 2 ^ q) with h | h <;> simp [h] <;> exact hide trivial
        have HIN := hide hin
        clear hq e1 e2 hd hWl hol
        generalize ((W / 2 ^ (q + 1) : Nat) : Int) = o at *
        rcases (show q < a ∨ (a ≤ q ∧ a + m ≤ q) by omega) with h | ⟨h, h'⟩
        all_goals
          clear hin
          go_wp2
          go_round
          case rel => exact ⟨c + 1, by omega, by congr 1; have := HQ.out; omega, by rw [show 64 - (c + 1) = q by have := HQ.out; omega, HST.out]⟩
          case measure => simp [intOf]
    · obtain rfl : c = 64 := by omega
      go_wp2
      go_ret2
      exact ⟨ret_int2 (by rw [HV.out]) HE.out.symm, rfl⟩
theorem rwith_any (n a m v : Int) (w : World) (h1 : 0 ≤ n) (h2 : n < 18446744073709551616) (hv1 : 0 ≤ v) (hv2 : v < 18446744073709551616) :
    Calls Try.prog 34 #[.int .u64 n, .int .i64 a, .int .i64 m, .int .u64 v] w fun e w' => e = .returned (.tuple #[.int .u64 (withV n a m v), .int .i64 (withE n a m v)]) ∧ w = w' := by
  by_cases hh : 0 ≤ a ∧ a ≤ 63 ∧ 1 ≤ m ∧ m ≤ 64 - a
  · obtain ⟨ha0, ha1, hm0, hm1⟩ := hh
    obtain ⟨a, rfl⟩ := Int.eq_ofNat_of_zero_le ha0
    obtain ⟨m, rfl⟩ := Int.eq_ofNat_of_zero_le (show 0 ≤ m by omega)
    by_cases hv : v < 2 ^ m
    · exact rwith_ok n v a m w h1 h2 hv1 hv2 (by omega) (by omega) (by omega) hv
    · have hF : fieldE a m = 0 := by rw [fieldE, if_neg (by omega)]
      have hE : withE n a m v = 7 := by rw [withE, Int.toNat_natCast, if_pos (by omega)]
      have HV : Hid (withV n a m v = 0) := by rw [withV, hE, if_neg (by decide)]; exact hide rfl
      have HE := hide hE
      have HF := hide hF
      have HVV := hide (Int.not_lt.1 hv)
      clear hv hE hF
      go_enter Try.func34, Try.ntmps34
      go_wp2_with (first
        | (go_at_call 32; refine (rfield_any _ _ _ _ h1 h2).mono ?_; rintro e w1 ⟨rfl, rfl⟩; rw [HF.out])
        | (go_at_call 42; refine (below_n _ _ _ m ?_ ?_ ?_ ?_ HVV.out).mono ?_ <;> (try omega); rintro e w1 ⟨rfl, rfl⟩))
      go_ret2
      exact ⟨ret_int2 HV.out.symm HE.out.symm, rfl⟩
  · have hF : fieldE a m = 7 := by rw [fieldE, if_pos (by omega)]
    have hE : withE n a m v = 7 := by rw [withE, hF, if_pos (.inl (by decide))]
    have HV : Hid (withV n a m v = 0) := by rw [withV, hE, if_neg (by decide)]; exact hide rfl
    have HE := hide hE
    have HF := hide hF
    clear hE hF hh
    go_enter Try.func34, Try.ntmps34
    go_wp2_with (go_at_call 32; refine (rfield_any _ _ _ _ h1 h2).mono ?_; rintro e w1 ⟨rfl, rfl⟩; rw [HF.out])
    go_ret2
    exact ⟨ret_int2 HV.out.symm HE.out.symm, rfl⟩
end Go.Proofs.Yteebnoegeoenbaa
