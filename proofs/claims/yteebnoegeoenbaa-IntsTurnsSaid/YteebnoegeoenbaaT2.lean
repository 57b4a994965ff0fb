/- The walk of the law IntsTurns: true for every input, and nothing that was there has changed. -/
import Derived.Test.YteebnoegeoenbaaT1
namespace Go.Proofs.Yteebnoegeoenbaa
open Go.RowKit Go.Gr
set_option linter.unusedVariables false
theorem w64id {n : Int} (h : -9223372036854775808 ≤ n ∧ n ≤ 9223372036854775807) : wrap64 n = n := by unfold wrap64; omega
set_option maxRecDepth 20000 in
set_option maxHeartbeats 400000 in
theorem turns_law (w : World) (v : Value) (hv : ∃ cs, v = .agg cs ∧ Lvs Try.prog w [.int .u64, .int .u64, .int .i64, .int .i64, .int .i64] cs.toList) (j : Int) (hj : -2147483648 ≤ j ∧ j ≤ 2147483647) (k : Int) (hk : -2147483648 ≤ k ∧ k ≤ 2147483647) :
    Calls Try.prog 8 #[v, .int .i32 j, .int .i32 k] w fun e w' => e = .returned (.bool true) ∧ Ext w w' := by
  obtain ⟨⟨cs⟩, rfl, hL0⟩ := hv
  obtain ⟨v1, U, hU, ⟨n, rfl, hn⟩, hL1⟩ := hL0.cons
  obtain ⟨v2, U2, rfl, ⟨x, rfl, hx⟩, hL2⟩ := hL1.cons
  obtain ⟨v3, U3, rfl, ⟨a, rfl, ha⟩, hL3⟩ := hL2.cons
  obtain ⟨v4, U4, rfl, ⟨m, rfl, hm⟩, hL4⟩ := hL3.cons
  obtain ⟨v5, U5, rfl, ⟨t, rfl, ht⟩, hL5⟩ := hL4.cons
  obtain rfl := hL5.nil_
  simp only at hU
  subst hU
  obtain ⟨n1, n2⟩ := wf_u64 hn
  obtain ⟨x1, x2⟩ := wf_u64 hx
  obtain ⟨a1, a2⟩ := wf_i64 ha
  obtain ⟨m1, m2⟩ := wf_i64 hm
  obtain ⟨j1, j2⟩ := hj
  obtain ⟨k1, k2⟩ := hk
  clear hn hx ha hm ht hL0 hL1 hL2 hL3 hL4 hL5
  obtain ⟨b, hb⟩ : ∃ b, wrap64 (1 + wrap64 ((IntKind.u64.wrap m).tmod 64)) = b := ⟨_, rfl⟩
  obtain ⟨c, hc⟩ : ∃ c, wrap64 ((IntKind.u64.wrap a).tmod 64) = c := ⟨_, rfl⟩
  have um : 0 ≤ IntKind.u64.wrap m := by rw [IntKind.wrap_u64]; omega
  have ua : 0 ≤ IntKind.u64.wrap a := by rw [IntKind.wrap_u64]; omega
  have hb' : 1 ≤ b ∧ b ≤ 64 := by
    have h1 := Int.tmod_nonneg 64 um
    have h2 := Int.tmod_lt_of_pos (IntKind.u64.wrap m) (show (0 : Int) < 64 by decide)
    rw [← hb, w64id (n := (IntKind.u64.wrap m).tmod 64) (by omega), w64id (by omega)]; omega
  have hc' : 0 ≤ c ∧ c ≤ 63 := by
    have h1 := Int.tmod_nonneg 64 ua
    have h2 := Int.tmod_lt_of_pos (IntKind.u64.wrap a) (show (0 : Int) < 64 by decide)
    rw [← hc, w64id (by omega)]; omega
  obtain ⟨d, hd⟩ : ∃ d, wrap64 (1 + wrap64 ((IntKind.u64.wrap m).tmod (IntKind.u64.wrap (wrap64 (64 - c))))) = d := ⟨_, rfl⟩
  have hd' : 1 ≤ d ∧ d ≤ 64 - c := by
    have h0 : IntKind.u64.wrap (wrap64 (64 - c)) = 64 - c := by rw [w64id (by omega), IntKind.wrap_u64]; omega
    have h1 := Int.tmod_nonneg (64 - c) um
    have h2 := Int.tmod_lt_of_pos (IntKind.u64.wrap m) (show (0 : Int) < 64 - c by omega)
    rw [← hd, h0, w64id (n := (IntKind.u64.wrap m).tmod (64 - c)) (by omega), w64id (by omega)]; omega
  have HB := hide hb
  have HC := hide hc
  have HD := hide hd
  clear hb hc hd um ua
  obtain ⟨f1, f2, f3, f4⟩ := fldV_ok (n := n) (a := 0) (m := b) (by omega) hb'.1 (by omega) n1
  obtain ⟨g1, g2, g3, g4⟩ := fldV_ok (n := x) (a := 0) (m := d) (by omega) hd'.1 (by omega) x1
  obtain ⟨n0, hn0⟩ : ∃ n0, fldV n 0 b = n0 := ⟨_, rfl⟩
  obtain ⟨v0, hv0⟩ : ∃ v0, fldV x 0 d = v0 := ⟨_, rfl⟩
  obtain ⟨y, hy⟩ : ∃ y, withV n c d v0 = y := ⟨_, rfl⟩
  obtain ⟨w1, w2, w3, w4, w5, w6, w7⟩ := bit_with n1 n2 hc'.1 hd'.1 hd'.2 x1 v0 y hv0 hy
  obtain ⟨q1, q2, q3, q4⟩ := fldV_ok (n := y) (a := c) (m := d) (by omega) hd'.1 (by omega) w4
  rw [hn0] at f3 f4
  have p64 : (2 : Int) ^ b.toNat ≤ 18446744073709551616 := by
    have : (2 : Nat) ^ b.toNat ≤ 2 ^ 64 := Nat.pow_le_pow_right (by decide) (by omega)
    rw [← pow_cast]; omega
  obtain ⟨z, hz⟩ : ∃ z, turnV n0 b j = z := ⟨_, rfl⟩
  have z0 := turnV_lt j hb' f3 f4
  have zb := turnV_back j hb' f3 f4
  have zt := turnV_turn j k hb' f3 f4
  have ze := turnE_ok hb' f4
  have ze' := turnE_ok hb' z0.2
  rw [hz] at z0 zb zt ze'
  obtain ⟨u, hu⟩ : ∃ u, turnV n0 b (j + k) = u := ⟨_, rfl⟩
  rw [hu] at zt
  have f4' : n0 < 18446744073709551616 := by omega
  have z1 : z < 18446744073709551616 := by omega
  have z0' := z0.1
  have W7 := hide w7
  have H1 := hide hn0
  have H2 := hide f1
  have H3 := hide hz
  have H4 := hide ze
  have H5 := hide zb
  have H6 := hide ze'
  have H7 := hide zt
  have H8 := hide hu
  have H9 := hide hv0
  have H10 := hide g1
  have H11 := hide hy
  have H12 := hide w1
  have H13 := hide w6
  have H14 := hide q1
  clear w7 hn0 f1 f2 f4 hz ze zb ze' zt hu hv0 g1 g2 g3 g4 hy w1 w6 q1 q2 q3 q4 z0 p64
  go_enter Try.func8, Try.ntmps8
  go_wp2_with fail
  rw [HB.out]
  (with_reducible refine (field_any n 0 b _ n1 n2).mono ?_)
  rintro e wa ⟨rfl, r0, rfl⟩
  rw [H1.out, H2.out]
  go_wp2_with fail
  (with_reducible refine (turn_any n0 j b _ f3 f4' (by omega) (by omega)).mono ?_)
  rintro e wa ⟨rfl, r1, rfl⟩
  rw [H3.out, H4.out]
  go_wp2_with fail
  (with_reducible refine (turn_any z (-j) b _ z0' z1 (by omega) (by omega)).mono ?_)
  rintro e wa ⟨rfl, r2, rfl⟩
  rw [H5.out, H6.out]
  go_wp2_with fail
  (with_reducible refine (turn_any z k b _ z0' z1 (by omega) (by omega)).mono ?_)
  rintro e wa ⟨rfl, r3, rfl⟩
  rw [H7.out, H6.out]
  go_wp2_with fail
  (with_reducible refine (turn_any n0 (j + k) b _ f3 f4' (by omega) (by omega)).mono ?_)
  rintro e wa ⟨rfl, r4, rfl⟩
  rw [H8.out, H4.out]
  have hcc := HC.out
  have hU : IntKind.u64.wrap (64 - c) = 64 - c := by rw [IntKind.wrap_u64]; omega
  have hz0 : (64 - c == 0) = false := by have : 64 - c ≠ 0 := by omega
                                         simpa using this
  go_wp2_with fail
  have HD2 : wrap64 (1 + wrap64 ((IntKind.u64.wrap m).tmod (64 - c))) = d := by
    have := HD.out; rwa [w64id (n := 64 - c) (by omega), hU] at this
  rw [HC.out, HD2]
  clear hU hz0 hcc HD2
  (with_reducible refine (field_any x 0 d _ x1 x2).mono ?_)
  rintro e wa ⟨rfl, r5, rfl⟩
  rw [H9.out, H10.out]
  go_wp2_with fail
  (with_reducible refine (with_any n c d v0 _ n1 n2 w2 w3).mono ?_)
  rintro e wa ⟨rfl, r6, rfl⟩
  rw [H11.out, H12.out]
  go_wp2_with fail
  (with_reducible refine (field_any y c d _ w4 w5).mono ?_)
  rintro e wa ⟨rfl, r7, rfl⟩
  rw [H13.out, H14.out]
  go_wp2_with fail
  go_loopw [22] (fun i wr => ∃ k q : Nat, k ≤ 64 ∧ i = .int .i64 k ∧ wr = (w.alloc (.cells #[.int .u64 n, .int .u64 x, .int .i64 a, .int .i64 m, .int .i64 t] 45)).drewN q) (fun i _ => 64 - (intOf i).toNat)
  case atStart => exact ⟨0, _, by omega, rfl, rfl⟩
  case round =>
    obtain ⟨k, q, hk, rfl, rfl⟩ := hrel
    by_cases hlt : k < 64
    · have E0 := hide (fldV_ok (n := n) (a := k) (m := 1) (by omega) (by omega) (by omega) n1).1
      obtain ⟨f, hf⟩ : ∃ f, fldV n k 1 = f := ⟨_, rfl⟩
      obtain ⟨g, hg⟩ : ∃ g, fldV y k 1 = g := ⟨_, rfl⟩
      have HF := hide hf
      have HG := hide hg
      clear hf hg
      by_cases hin : (k : Int) < c ∨ c + d ≤ k
      · obtain rfl : g = f := by rw [← HF.out, ← HG.out]; exact W7.out k hlt hin
        rcases hin with hin | hin
        all_goals
          go_wp2_with fail
          (with_reducible refine (field_any n k 1 _ n1 n2).mono ?_)
          rintro e wa ⟨rfl, r8, rfl⟩
          rw [HF.out, E0.out]
          go_wp2_with fail
          (with_reducible refine (field_any y k 1 _ w4 w5).mono ?_)
          rintro e wa ⟨rfl, r9, rfl⟩
          rw [HG.out, E0.out]
          go_wp2_with fail
          go_roundw
          case rel => exact ⟨k + 1, _, by omega, by go_num, rfl⟩
          case measure => simp [intOf]; omega
      · have hi1 : c ≤ (k : Int) := by omega
        have hi2 : (k : Int) < c + d := by omega
        clear hin
        go_wp2_with fail
        (with_reducible refine (field_any n k 1 _ n1 n2).mono ?_)
        rintro e wa ⟨rfl, r8, rfl⟩
        rw [HF.out, E0.out]
        go_wp2_with fail
        (with_reducible refine (field_any y k 1 _ w4 w5).mono ?_)
        rintro e wa ⟨rfl, r9, rfl⟩
        rw [HG.out, E0.out]
        go_wp2_with fail
        go_roundw
        case rel => exact ⟨k + 1, _, by omega, by go_num, rfl⟩
        case measure => simp [intOf]; omega
    · obtain rfl : k = 64 := by omega
      go_wp2_with fail
      refine (awake_any _).mono ?_
      rintro e w5 ⟨rfl, hx5⟩
      have HX5 := hide hx5
      clear hx5
      go_wp2_with fail
      go_ret
      exact ⟨rfl, (((Ext.refl _).alloc _).drewN _).trans HX5.out⟩
end Go.Proofs.Yteebnoegeoenbaa
