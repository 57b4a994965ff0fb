/- The walks of ints.Get and of the reference where there are enough bytes (at most 1000 of them). -/
import Derived.Test.YteebnoegeoenbaaRows
import Derived.Test.YteebnoegeoenbaaBase
namespace Go.Proofs.Yteebnoegeoenbaa
open Go.RowKit Go.Gr
set_option linter.unusedVariables false

def isB (l : List Int) : Prop := ∀ x ∈ l, 0 ≤ x ∧ x < 256
def bev (l : List Int) : Int := l.foldl (fun n x => 256 * n + x) 0
theorem bev_snoc (l : List Int) (x : Int) : bev (l ++ [x]) = 256 * bev l + x := by simp [bev, List.foldl_append]
theorem take_snoc {α : Type} (l : List α) (k : Nat) (h : k < l.length) : l.take (k + 1) = l.take k ++ [l[k]] := by
  rw [List.take_succ_eq_append_getElem h]
theorem bev_bound : ∀ (n : Nat) (l : List Int), l.length = n → isB l → 0 ≤ bev l ∧ bev l < 256 ^ n := by
  intro n
  induction n with
  | zero => intro l hl _; have : l = [] := List.eq_nil_of_length_eq_zero hl; subst this; decide
  | succ n ih =>
    intro l hl hb
    have hne : l ≠ [] := by intro h; subst h; simp at hl
    obtain ⟨r, x, rfl⟩ : ∃ r x, l = r ++ [x] := ⟨l.dropLast, l.getLast hne, (List.dropLast_concat_getLast hne).symm⟩
    have := ih r (by simpa using hl) (fun y hy => hb y (by simp [hy]))
    have hx := hb x (by simp)
    rw [bev_snoc, Int.pow_succ]
    omega
theorem pow_le256 {a b : Nat} (h : a ≤ b) : (256 : Int) ^ a ≤ 256 ^ b := by
  obtain ⟨c, rfl⟩ := Nat.le.dest h
  rw [Int.pow_add]
  have h1 : (0 : Int) < 256 ^ a := Int.pow_pos (by decide)
  have h2 : (0 : Int) < 256 ^ c := Int.pow_pos (by decide)
  have h3 := Int.mul_le_mul_of_nonneg_left (show (1 : Int) ≤ 256 ^ c by omega) (Int.le_of_lt h1)
  rwa [Int.mul_one] at h3
theorem bev_take_lt (l : List Int) (hb : isB l) (k m : Nat) (hk : k ≤ m) : 0 ≤ bev (l.take k) ∧ bev (l.take k) < 256 ^ m := by
  have h := bev_bound (l.take k).length (l.take k) rfl (fun x hx => hb x (List.mem_of_mem_take hx))
  have h2 : (l.take k).length ≤ m := Nat.le_trans (List.length_take_le _ _) hk
  exact ⟨h.1, Int.lt_of_lt_of_le h.2 (pow_le256 h2)⟩

theorem or_join (a b k : Nat) (m : Nat) (ha : a < 18446744073709551616) (hb : b < 18446744073709551616) (h1 : a % 2 ^ k = 0) (h2 : b < 2 ^ k) (hm : m = a + b) : bits .or .u64 (a : Int) (b : Int) = (m : Int) := by
  rw [u64_or_nat a b ha hb, nat_join k a b h1 h2, hm]
theorem or_byte (n x : Int) (h : 0 ≤ n ∧ n < 72057594037927936) (hx : 0 ≤ x ∧ x < 256) : bits .or .u64 (n * 256) x = 256 * n + x := by
  obtain ⟨n, rfl⟩ := Int.eq_ofNat_of_zero_le h.1
  obtain ⟨x, rfl⟩ := Int.eq_ofNat_of_zero_le hx.1
  exact or_join (n * 256) x 8 (256 * n + x) (by omega) (by omega) (by omega) (by omega) (by omega)
def RetN (w : World) (n : Int) (l : List Int) (er : Int) (e : Ending) (w' : World) : Prop :=
  ∃ A' c', e = .returned (.tuple #[.int .u64 n, .slice A' l.length c', .int .i64 er]) ∧ Rd w' A' (byt l) ∧ Ext w w'

set_option maxHeartbeats 1000000 in
theorem rget_ok (A : Option Addr) (c : Nat) (l : List Int) (m : Nat) (w : World) (hr : Rd w A (byt l)) (hb : isB l) (hl : l.length ≤ 1000) (hc : l.length ≤ c) (h1 : 1 ≤ m) (h8 : m ≤ 8) (hw : m ≤ l.length) :
    Calls Try.prog 28 #[.slice A l.length c, .int .i64 m] w (RetN w (bev (l.take m)) (l.drop m) 0) := by
  have HR := hide hr
  have HB := hide hb
  clear hr hb
  go_enter Try.func28, Try.ntmps28
  go_wp2
  go_loop [7, 8] (fun n i => ∃ k : Nat, k ≤ m ∧ i = .int .i64 k ∧ n = .int .u64 (bev (l.take k))) (fun _ i => m - (intOf i).toNat)
  case atStart => exact ⟨0, Nat.zero_le _, rfl, rfl⟩
  case round =>
    obtain ⟨k, hk, rfl, rfl⟩ := hrel
    by_cases hlt : k < m
    · have hbd := bev_take_lt l HB.out k 7 (by omega)
      have hkl : k < l.length := by omega
      have hx := HB.out l[k] (List.getElem_mem _)
      have hs : Hid (bev (l.take (k + 1)) = 256 * bev (l.take k) + l[k]) := by
        rw [take_snoc _ _ hkl, bev_snoc]; exact hide rfl
      obtain ⟨ad, rfl, hcell⟩ := HR.out.at_ (k := k) (by simpa using hkl)
      rw [byt_get hkl] at hcell
      generalize l[k] = x at *
      generalize bev (l.take k) = n at *
      simp only [Int.reducePow] at hbd
      go_wp2
      go_round
      case rel => exact ⟨k + 1, by omega, by go_num, by rw [hs.out]⟩
      case measure => simp [intOf]; omega
    · obtain rfl : k = m := by omega
      have hd := HR.out.dropB k c hc hw
      have HD := hide hd
      clear hd
      go_wp2
      go_quiet (fail)
      go_wp2
      all_goals go_ret3
      · exact ⟨_, _, by rw [List.length_drop]; rfl, Rd.drewN (HD.out.1 ‹_›) _, (Ext.refl _).drewN _⟩
      · exact ⟨_, _, by rw [List.length_drop]; rfl, Rd.drewN (HD.out.2 ‹_›) _, (Ext.refl _).drewN _⟩

set_option maxHeartbeats 1000000 in
theorem get_ok (A : Option Addr) (c : Nat) (l : List Int) (m : Nat) (w : World) (hr : Rd w A (byt l)) (hb : isB l) (hl : l.length ≤ 1000) (hc : l.length ≤ c) (h1 : 1 ≤ m) (h8 : m ≤ 8) (hw : m ≤ l.length) :
    Calls Try.prog 27 #[.slice A l.length c, .int .i64 m] w (RetN w (bev (l.take m)) (l.drop m) 0) := by
  have HR := hide hr
  have HB := hide hb
  clear hr hb
  go_enter Try.func27, Try.ntmps27
  go_wp2
  go_loop [4, 25] (fun n i => ∃ k : Nat, k ≤ m ∧ i = .int .i64 k ∧ n = .int .u64 (bev (l.take k))) (fun _ i => m - (intOf i).toNat)
  case atStart => exact ⟨0, Nat.zero_le _, rfl, rfl⟩
  case round =>
    obtain ⟨k, hk, rfl, rfl⟩ := hrel
    by_cases hlt : k < m
    · have hbd := bev_take_lt l HB.out k 7 (by omega)
      have hkl : k < l.length := by omega
      have hx := HB.out l[k] (List.getElem_mem _)
      have hs : Hid (bev (l.take (k + 1)) = 256 * bev (l.take k) + l[k]) := by
        rw [take_snoc _ _ hkl, bev_snoc]; exact hide rfl
      obtain ⟨ad, rfl, hcell⟩ := HR.out.at_ (k := k) (by simpa using hkl)
      rw [byt_get hkl] at hcell
      generalize l[k] = x at *
      generalize bev (l.take k) = n at *
      simp only [Int.reducePow] at hbd
      go_wp2
      go_round
      case rel => exact ⟨k + 1, by omega, by go_num, by rw [hs.out, or_byte _ _ hbd hx]⟩
      case measure => simp [intOf]; omega
    · obtain rfl : k = m := by omega
      have hd := HR.out.dropB k c hc hw
      have HD := hide hd
      clear hd
      go_wp2
      go_quiet (fail)
      go_wp2
      all_goals go_ret3
      · exact ⟨_, _, by rw [List.length_drop]; rfl, Rd.drewN (HD.out.1 ‹_›) _, (Ext.refl _).drewN _⟩
      · exact ⟨_, _, by rw [List.length_drop]; rfl, Rd.drewN (HD.out.2 ‹_›) _, (Ext.refl _).drewN _⟩
end Go.Proofs.Yteebnoegeoenbaa
