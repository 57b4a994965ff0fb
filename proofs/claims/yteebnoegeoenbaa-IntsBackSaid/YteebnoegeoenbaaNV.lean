/- Plain laws on numbers of variable length. No program in sight. -/
import Derived.Test.YteebnoegeoenbaaBits
namespace Go.Proofs.Yteebnoegeoenbaa
open Go.RowKit Go.Gr
set_option linter.unusedVariables false
/-! ### numbers of variable length -/
def vbF : Nat → Int → List Int
  | 0, _ => []
  | k + 1, n => if n < 128 then [n] else (128 + n % 128) :: vbF k (n / 128)
def vb (n : Int) : List Int := vbF 10 n
def lead : Nat → List Int → Nat
  | 0, _ => 0
  | _ + 1, [] => 0
  | k + 1, x :: r => if 128 ≤ x then lead k r + 1 else 0
def vlast (l : List Int) : Nat := lead 10 l
def vval : List Int → Int
  | [] => 0
  | x :: r => x % 128 + 128 * vval r
def gvE (l : List Int) : Int :=
  if vlast l = l.length ∧ vlast l < 10 then 10
  else if vlast l = 10 ∨ vlast l = 9 ∧ 1 < l.getD 9 0 then 7
  else if 0 < vlast l ∧ l.getD (vlast l) 0 = 0 then 6 else 0
def gvN (l : List Int) : Int := if gvE l = 0 then vval (l.take (vlast l + 1)) else 0
def gvR (l : List Int) : List Int := if gvE l = 0 then l.drop (vlast l + 1) else []

theorem lead_le : ∀ k l, lead k l ≤ k ∧ lead k l ≤ l.length
  | 0, _ => by simp [lead]
  | _ + 1, [] => by simp [lead]
  | k + 1, x :: r => by
    have := lead_le k r
    rw [lead]; split <;> simp <;> omega
theorem lead_drop (l : List Int) (k : Nat) (hk : k < l.length) (h10 : k < 10) : lead (10 - k) (l.drop k) = if 128 ≤ l[k] then lead (10 - (k + 1)) (l.drop (k + 1)) + 1 else 0 := by
  rw [List.drop_eq_getElem_cons hk, show 10 - k = (10 - (k + 1)) + 1 by omega, lead]
theorem lead_end (l : List Int) (k : Nat) (h : k = l.length ∨ k = 10) : lead (10 - k) (l.drop k) = 0 := by
  rcases h with rfl | rfl
  · simp; cases 10 - l.length <;> rfl
  · rfl
theorem vval_snoc (l : List Int) (x : Int) : vval (l ++ [x]) = vval l + 128 ^ l.length * (x % 128) := by
  induction l with
  | nil => simp [vval]
  | cons y r ih => rw [List.cons_append, vval, ih, vval, List.length_cons, Int.pow_succ, Int.mul_add, ← Int.mul_assoc, Int.mul_comm (128 ^ r.length) 128]; omega
theorem vval_bound : ∀ l, 0 ≤ vval l ∧ vval l < 128 ^ l.length
  | [] => by simp [vval]
  | x :: r => by
    have := vval_bound r
    rw [vval, List.length_cons, Int.pow_succ]; omega
theorem or128 (n : Int) (h : 0 ≤ n) : bits .or .u8 (n % 256) 128 = 128 + n % 128 := by
  rw [u8_or _ _ (by omega) (by omega) (by decide) (by decide)]
  obtain ⟨m, hm⟩ := Int.eq_ofNat_of_zero_le (show 0 ≤ n % 256 by omega)
  rw [hm, Int.toNat_natCast, show (128 : Int).toNat = 128 from rfl]
  have hall : ∀ m, m < 256 → m ||| 128 = 128 + m % 128 := by decide +kernel
  rw [hall m (by omega)]; omega
theorem andNot128 (x : Int) (h : 0 ≤ x ∧ x < 256) : bits .andNot .u8 x 128 = x % 128 := by
  rw [u8_andNot _ _ h.1 h.2 (by decide) (by decide)]
  obtain ⟨m, rfl⟩ := Int.eq_ofNat_of_zero_le h.1
  rw [Int.toNat_natCast, show (255 - (128 : Int).toNat) = 127 from rfl, nat_mask7]; simp
theorem or_high (v d : Int) (k : Nat) (hv : 0 ≤ v ∧ v < 128 ^ k) (hd : 0 ≤ d) (hb : d * 128 ^ k < 18446744073709551616) (hv2 : v < 18446744073709551616) :
    bits .or .u64 v (IntKind.u64.wrap (d * 2 ^ (7 * k))) = v + 128 ^ k * d := by
  obtain ⟨v, rfl⟩ := Int.eq_ofNat_of_zero_le hv.1
  obtain ⟨d, rfl⟩ := Int.eq_ofNat_of_zero_le hd
  have e1 : (2 : Int) ^ (7 * k) = 128 ^ k := by rw [Int.pow_mul]; rfl
  have e2 : (d : Int) * 128 ^ k = ((d * 2 ^ (7 * k) : Nat) : Int) := by
    rw [← e1]; simp
  have e3 : ((2 ^ (7 * k) : Nat) : Int) = 128 ^ k := by rw [← e1]; simp
  rw [e1, IntKind.wrap_u64, Int.emod_eq_of_lt (by rw [e2]; omega) hb, e2, u64_or_nat _ _ (by omega) (by omega), Nat.or_comm,
    nat_join (7 * k) (d * 2 ^ (7 * k)) v (by simp) (by omega), Int.mul_comm, e2]
  omega
theorem pow128 : ∀ k, k < 11 → (128 : Int) ^ k ≤ 1180591620717411303424 := by decide +kernel
theorem vbF_len : ∀ k n, (vbF k n).length ≤ k
  | 0, _ => by simp [vbF]
  | k + 1, n => by
    have := vbF_len k (n / 128)
    rw [vbF]; split <;> simp <;> omega
end Go.Proofs.Yteebnoegeoenbaa
