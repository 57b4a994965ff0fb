/- The walks of the reference's primes, constants and start: each returns what the plain lists say. -/
import Derived.Test.YtamlngdjbmndlaaDoorS4
import Derived.Test.YtamlngdjbmndlaaDoorS3
namespace Go.Proofs.YtamlngdjbmndlaaDoor
open Go.RowKit Go.Gr
set_option linter.unusedVariables false
attribute [local go_sem] rdOp rdAt rdUpon Cls
def u64v (l : List Int) : List Value := l.map (Value.int .u64)
@[simp] theorem u64v_length (l : List Int) : (u64v l).length = l.length := by simp [u64v]
theorem u64v_at (l : List Int) (k : Nat) (h : k < l.length) : (u64v l)[k]? = some (.int .u64 (l.getD k 0)) := by simp [u64v, h]
/-- the primes below n, out of those before it -/
def isP (n : Int) (l : List Int) : Bool := l.all fun q => !(n % q == 0)
def primesB : Nat → List Int
  | 0 => []
  | n + 1 => if 2 ≤ n && isP n (primesB n) then primesB n ++ [(n : Int)] else primesB n
def pT : List Int := [2, 3, 5, 7, 11, 13, 17, 19, 23, 29, 31, 37, 41, 43, 47, 53, 59, 61, 67, 71, 73, 79, 83, 89, 97, 101, 103, 107, 109, 113, 127, 131, 137, 139, 149, 151, 157, 163, 167, 173, 179, 181, 191, 193, 197, 199, 211, 223, 227, 229, 233, 239, 241, 251, 257, 263, 269, 271, 277, 281, 283, 293, 307, 311]
theorem primes_all : primesB 312 = pT := by decide +kernel
theorem primes_pre : ∀ d n, primesB n <+: primesB (n + d)
  | 0, n => List.prefix_rfl
  | d + 1, n => by
    refine (primes_pre d n).trans ?_
    show primesB (n + d) <+: (if 2 ≤ n + d && isP _ (primesB (n + d)) then _ else _)
    split
    · exact List.prefix_append _ _
    · exact List.prefix_rfl
theorem primes_take (n : Nat) (h : n ≤ 312) : primesB n = pT.take (primesB n).length := by
  have h1 := primes_pre (312 - n) n
  rw [show n + (312 - n) = 312 by omega, primes_all] at h1
  exact List.prefix_iff_eq_take.1 h1
theorem pT_range : ∀ x ∈ pT, 2 ≤ x ∧ x < 4294967296 := by decide
theorem primes_range (n : Nat) (h : n ≤ 312) : ∀ x ∈ primesB n, 2 ≤ x ∧ x < 4294967296 := fun x hx => by
  rw [primes_take n h] at hx
  exact pT_range x (List.mem_of_mem_take hx)
theorem primes_len (n : Nat) (h : n ≤ 312) (h2 : (primesB n).length < 64) : n < 312 := by
  rcases Nat.lt_or_ge n 312 with h3 | h3
  · exact h3
  · have : n = 312 := by omega
    rw [this, primes_all] at h2
    exact absurd h2 (by decide)
theorem isP_next (n : Int) (l : List Int) (k : Nat) (h : k < l.length) : isP n (l.take (k + 1)) = (isP n (l.take k) && !(n % l.getD k 0 == 0)) := by
  unfold isP
  rw [List.take_succ_eq_append_getElem h, List.all_append, show l.getD k 0 = l[k] by simp [h]]
  simp only [List.all_cons, List.all_nil, Bool.and_true]
theorem info64 : (Tryd.prog.info? 23).map (fun i => (i.zero, i.size, i.bytes)) = some (some (.int .u64 0), 1, 8) := by kernel_rfl
set_option maxHeartbeats 1000000 in
theorem primes_any (m : Nat) (w : World) (h1 : 1 ≤ m) (h2 : m ≤ 64) :
    Calls Tryd.prog 101 #[.int .i64 m] w fun e w' => ∃ v, e = .returned v ∧ Own w.heap.size w' 23 v (u64v (pT.take m)) ∧ Ext w w' := by
  obtain ⟨i0, hi, hz0, hz1, hz2⟩ := info_parts info64
  go_enter Tryd.func101, Tryd.ntmps101
  go_wp2_with fail
  go_loopw [3, 4] (fun v n wr => ∃ (N : Nat) (l : List Int) (A : Option Addr) (c : Nat), n = .int .u64 N ∧ v = .slice A l.length c ∧ 2 ≤ N ∧ N ≤ 312 ∧ Hid (primesB N = l) ∧ l.length ≤ m ∧ Hid (Own w.heap.size wr 23 (.slice A l.length c) (u64v l)) ∧ Hid (Ext w wr)) (fun _ n _ => (312 - intOf n).toNat)
  case atStart => exact ⟨2, [], none, 0, rfl, rfl, by omega, by omega, hide rfl, by simp, hide (Own.nil _ _ _), hide (Ext.refl _)⟩
  case round =>
    obtain ⟨N, l, A, c, rfl, rfl, hN2, hN, HP, hlm, HO, HX⟩ := hrel
    by_cases hlt : l.length < m
    · have hN3 : N < 312 := primes_len N hN (by rw [HP.out]; omega)
      obtain ⟨A', c', hv, hr, _, _⟩ := HO.out.form
      have HR : Hid (Rd wr A (u64v l)) := by
        simp only [u64v_length, Value.slice.injEq] at hv
        obtain ⟨rfl, _, rfl⟩ := hv
        exact hide hr
      have HPR := hide (primes_range N hN)
      rw [HP.out] at HPR
      clear hv hr
      obtain ⟨wo, hwo⟩ : ∃ wo : World, wo = wr := ⟨_, rfl⟩
      rw [← hwo] at HO HX HR ⊢
      clear hwo
      go_wp2_with fail
      go_loop [5, 6] (fun p i => ∃ k : Nat, k ≤ l.length ∧ i = .int .i64 k ∧ p = .bool (isP N (l.take k))) (fun _ i => l.length - (intOf i).toNat)
      case atStart => exact ⟨0, by omega, rfl, rfl⟩
      case round =>
        obtain ⟨k, hk, rfl, rfl⟩ := hrel
        by_cases hkl : k < l.length
        · have hx := HPR.out (l.getD k 0) (by rw [show l.getD k 0 = l[k] by simp [hkl]]; exact List.getElem_mem _)
          obtain ⟨ad, rfl, hcell⟩ := HR.out.at_ (k := k) (by simpa using hkl)
          have hcell' : wo.cell? (ad.add k) = some (.int .u64 (l.getD k 0)) := hcell.trans (by simp [u64v, hkl])
          have HN := hide (isP_next N l k hkl)
          clear hcell
          generalize l.getD k 0 = q at *
          generalize isP N (l.take k) = pk at *
          obtain ⟨q1, q2⟩ := hx
          by_cases hc : (N : Int) % q = 0
          · have hc' : ((N : Int) % q == 0) = true := by simpa using hc
            have HC := hide hc'
            clear hc
            go_wp2_with fail
            go_round
            case rel => exact ⟨k + 1, by omega, by go_num, by rw [HN.out, HC.out]; simp⟩
            case measure => simp [intOf]; omega
          · have hc' : ((N : Int) % q == 0) = false := by simpa using hc
            have HC := hide hc'
            clear hc
            go_wp2_with fail
            go_round
            case rel => exact ⟨k + 1, by omega, by go_num, by rw [HN.out, HC.out]; simp⟩
            case measure => simp [intOf]; omega
        · obtain rfl : k = l.length := by omega
          have HPN : Hid (primesB (N + 1) = if isP N l then l ++ [(N : Int)] else l) := by
            rw [← HP.out]
            show (if 2 ≤ N && isP N (primesB N) then _ else _) = _
            rw [show (decide (2 ≤ N)) = true by simpa using hN2, Bool.true_and]
          rw [List.take_length]
          cases hpf : isP N l
          · rw [hpf] at HPN
            go_wp2_with fail
            go_roundw
            case rel => exact ⟨N + 1, l, A, c, by go_num, rfl, by omega, by omega, HPN, hlm, HO, HX⟩
            case measure => simp [intOf]; omega
          · rw [hpf] at HPN
            go_wp2_with (first
              | (at_builtin; refine wpList_push rfl _ _ 144 rfl 23 i0 (.int .u64 0) 8 Tryd.underlying144 hi hz0 hz1 hz2 rfl rfl HO.out rfl rfl (by simp; omega) (by omega) HX.out.size ?_; intro v1 w1 ho hb _; have HO2 := hide ho; have HX2 := hide (show Ext w w1 from Below.trans HX.out hb); clear ho hb))
            have hown : Own w.heap.size w1 23 v1 (u64v (l ++ [(N : Int)])) := by have := HO2.out; simpa [u64v] using this
            obtain ⟨A2, c2, rfl, _⟩ := hown.form
            rw [u64v_length] at hown ⊢
            have HO3 := hide hown
            clear hown
            go_roundw
            case rel => exact ⟨N + 1, l ++ [(N : Int)], A2, c2, by go_num, rfl, by omega, by omega, HPN, by simp; omega, HO3, HX2⟩
            case measure => simp [intOf]; omega
    · have he : l.length = m := by omega
      have HE : Hid (l = pT.take m) := by
        have := primes_take N hN
        rw [HP.out, he] at this
        exact hide this
      clear he
      go_wp2_with fail
      go_ret
      exact ⟨_, rfl, by rw [← HE.out]; exact HO.out, HX.out⟩
end Go.Proofs.YtamlngdjbmndlaaDoor
