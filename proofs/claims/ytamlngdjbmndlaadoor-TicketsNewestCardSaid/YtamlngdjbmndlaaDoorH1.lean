/- Hmac: the walk of differ. -/
import Derived.Laws.BitsAllLaws
import Derived.Test.YtamlngdjbmndlaaDoorGa
import Derived.Test.YtamlngdjbmndlaaDoorProg
import Derived.IntWalk
namespace Go.Proofs.YtamlngdjbmndlaaDoor
open Go.RowKit Go.Gr
set_option linter.unusedVariables false
set_option linter.unusedSimpArgs false
theorem hor8 (r y : Int) (h0 : 0 ≤ r) (h1 : r < 256) (h2 : 0 ≤ y) (h3 : y < 256) : 0 ≤ bits .or .u8 r y ∧ bits .or .u8 r y < 256 ∧ (bits .or .u8 r y = 0 ↔ r = 0 ∧ y = 0) := by
  rw [u8_or r y h0 h1 h2 h3]
  have hl : r.toNat ||| y.toNat < 2 ^ 8 := Nat.or_lt_two_pow (by omega) (by omega)
  have hz : r.toNat ||| y.toNat = 0 ↔ r.toNat = 0 ∧ y.toNat = 0 := Nat.or_eq_zero_iff
  refine ⟨by omega, by omega, ?_⟩
  omega
/-- the low bytes of a number are 0, one more -/
theorem low_next (x : Int) (k : Nat) (h0 : 0 ≤ x) : x % 2 ^ (8 * (k + 1)) = 0 ↔ x % 2 ^ (8 * k) = 0 ∧ x / 2 ^ (8 * k) % 256 = 0 := by
  obtain ⟨n, rfl⟩ := Int.eq_ofNat_of_zero_le h0
  have hp : 0 < 2 ^ (8 * k) := Nat.two_pow_pos _
  have h := Nat.mod_mul (x := n) (a := 2 ^ (8 * k)) (b := 256)
  have e : (2 : Nat) ^ (8 * (k + 1)) = 2 ^ (8 * k) * 256 := by rw [Nat.mul_add, Nat.pow_add]
  rw [← e] at h
  have e1 : ((n : Int) % 2 ^ (8 * (k + 1))) = ((n % 2 ^ (8 * (k + 1)) : Nat) : Int) := by simp
  have e2 : ((n : Int) % 2 ^ (8 * k)) = ((n % 2 ^ (8 * k) : Nat) : Int) := by simp
  have e3 : ((n : Int) / 2 ^ (8 * k) % 256) = ((n / 2 ^ (8 * k) % 256 : Nat) : Int) := by simp
  rw [e1, e2, e3, h]
  generalize 2 ^ (8 * k) = p at *
  generalize n % p = u at *
  generalize n / p % 256 = v at *
  constructor
  · intro h
    have h' : u + p * v = 0 := by exact_mod_cast h
    have hu : u = 0 := by omega
    have hv : p * v = 0 := by omega
    rcases Nat.mul_eq_zero.1 hv with h1 | h1
    · omega
    · exact ⟨by rw [hu]; rfl, by rw [h1]; rfl⟩
  · rintro ⟨h1, h2⟩
    have h1' : u = 0 := by exact_mod_cast h1
    have h2' : v = 0 := by exact_mod_cast h2
    rw [h1', h2']; simp
theorem xor_zero_iff (a b : Nat) : a ^^^ b = 0 ↔ a = b := by
  constructor
  · intro h
    have h2 : (a ^^^ b) ^^^ b = b := by rw [h, Nat.zero_xor]
    rwa [Nat.xor_assoc, Nat.xor_self, Nat.xor_zero] at h2
  · rintro rfl; exact Nat.xor_self _
theorem xor_eq (a b : Int) (ha : 0 ≤ a ∧ a < 18446744073709551616) (hb : 0 ≤ b ∧ b < 18446744073709551616) : 0 ≤ bits .xor .u64 a b ∧ bits .xor .u64 a b < 18446744073709551616 ∧ (bits .xor .u64 a b = 0 ↔ a = b) := by
  rw [u64_xor a b ha.1 ha.2 hb.1 hb.2]
  have hl : a.toNat ^^^ b.toNat < 2 ^ 64 := Nat.xor_lt_two_pow (by omega) (by omega)
  have hz : a.toNat ^^^ b.toNat = 0 ↔ a.toNat = b.toNat := xor_zero_iff _ _
  refine ⟨by omega, by omega, ?_⟩
  omega
/-- it returns the bits in which they differ: none, if there were none and they are equal -/
def RetD (w : World) (p : Prop) (e : Ending) (w' : World) : Prop := ∃ r : Int, e = .returned (.int .u8 r) ∧ 0 ≤ r ∧ r < 256 ∧ (r = 0 ↔ p) ∧ w = w'
set_option maxHeartbeats 1000000 in
theorem differ64 (a b d : Int) (w : World) (ha : 0 ≤ a ∧ a < 18446744073709551616) (hb : 0 ≤ b ∧ b < 18446744073709551616) (hd : 0 ≤ d ∧ d < 256) :
    Calls Tryd.prog 46 #[.int .u64 a, .int .u64 b, .int .u8 d] w (RetD w (d = 0 ∧ a = b)) := by
  have HA := hide ha
  have HB := hide hb
  have HD := hide hd
  have HX := hide (xor_eq a b ha hb)
  clear ha hb hd
  go_enter Tryd.func46, Tryd.ntmps46
  go_wp2_with fail
  go_loop [2, 12] (fun m i => ∃ (k : Nat) (r : Int), i = .int .i64 k ∧ k ≤ 8 ∧ m = .int .u8 r ∧ Hid (0 ≤ r ∧ r < 256 ∧ (r = 0 ↔ d = 0 ∧ bits .xor .u64 a b % 2 ^ (8 * k) = 0))) (fun _ i => 8 - (intOf i).toNat)
  case atStart => exact ⟨0, d, rfl, by omega, rfl, hide ⟨HD.out.1, HD.out.2, by simp⟩⟩
  case round =>
    obtain ⟨k, r, rfl, hk, rfl, HR⟩ := hrel
    by_cases hlt : k < 8
    · go_wp2_with fail
      go_round
      case rel => exact ⟨k + 1, _, by go_num, by omega, rfl, hide (by
        have h := hor8 r (bits .xor .u64 a b / 2 ^ (8 * k) % 256) HR.out.1 HR.out.2.1 (Int.emod_nonneg _ (by decide)) (Int.emod_lt_of_pos _ (by decide))
        refine ⟨h.1, h.2.1, h.2.2.trans ?_⟩
        rw [HR.out.2.2, low_next _ _ HX.out.1, and_assoc])⟩
      case measure => simp [intOf]; omega
    · obtain rfl : k = 8 := by omega
      go_wp2_with fail
      go_ret
      refine ⟨r, rfl, HR.out.1, HR.out.2.1, HR.out.2.2.trans ?_, rfl⟩
      rw [Int.emod_eq_of_lt HX.out.1 (by have := HX.out.2.1; rw [show (2 : Int) ^ (8 * 8) = 18446744073709551616 from by decide]; exact this), HX.out.2.2]
set_option maxHeartbeats 1000000 in
theorem differ8 (a b d : Int) (w : World) (ha : 0 ≤ a ∧ a < 256) (hb : 0 ≤ b ∧ b < 256) (hd : 0 ≤ d ∧ d < 256) :
    Calls Tryd.prog 47 #[.int .u8 a, .int .u8 b, .int .u8 d] w (RetD w (d = 0 ∧ a = b)) := by
  have HA := hide ha
  have HB := hide hb
  have HD := hide hd
  have HX := hide (xor_eq a b (by omega) (by omega))
  obtain ⟨ha0, ha1⟩ := ha
  obtain ⟨hb0, hb1⟩ := hb
  clear hd
  go_enter Tryd.func47, Tryd.ntmps47
  go_wp2_with fail
  go_loop [2, 14] (fun m i => ∃ (k : Nat) (r : Int), i = .int .i64 k ∧ k ≤ 8 ∧ m = .int .u8 r ∧ Hid (0 ≤ r ∧ r < 256 ∧ (r = 0 ↔ d = 0 ∧ bits .xor .u64 a b % 2 ^ (8 * k) = 0))) (fun _ i => 8 - (intOf i).toNat)
  case atStart => exact ⟨0, d, rfl, by omega, rfl, hide ⟨HD.out.1, HD.out.2, by simp⟩⟩
  case round =>
    obtain ⟨k, r, rfl, hk, rfl, HR⟩ := hrel
    by_cases hlt : k < 8
    · go_wp2_with fail
      go_round
      case rel => exact ⟨k + 1, _, by go_num, by omega, rfl, hide (by
        have h := hor8 r (bits .xor .u64 a b / 2 ^ (8 * k) % 256) HR.out.1 HR.out.2.1 (Int.emod_nonneg _ (by decide)) (Int.emod_lt_of_pos _ (by decide))
        refine ⟨h.1, h.2.1, h.2.2.trans ?_⟩
        rw [HR.out.2.2, low_next _ _ HX.out.1, and_assoc])⟩
      case measure => simp [intOf]; omega
    · obtain rfl : k = 8 := by omega
      go_wp2_with fail
      go_ret
      refine ⟨r, rfl, HR.out.1, HR.out.2.1, HR.out.2.2.trans ?_, rfl⟩
      rw [Int.emod_eq_of_lt HX.out.1 (by have := HX.out.2.1; rw [show (2 : Int) ^ (8 * 8) = 18446744073709551616 from by decide]; exact this), HX.out.2.2]
end Go.Proofs.YtamlngdjbmndlaaDoor
