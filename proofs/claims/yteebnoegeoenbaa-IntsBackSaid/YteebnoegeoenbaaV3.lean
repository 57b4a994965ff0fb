/- The walk of the reference GetVar: it returns what the plain functions say (of at most 1000 bytes). -/
import Derived.Test.YteebnoegeoenbaaV2
namespace Go.Proofs.Yteebnoegeoenbaa
open Go.RowKit Go.Gr
set_option linter.unusedVariables false
theorem vdrop_step (l : List Int) (k q : Nat) (hk : k < l.length) (hq : q ≤ k) : vval ((l.take (k + 1)).drop q) = l[q] % 128 + 128 * vval ((l.take (k + 1)).drop (q + 1)) := by
  have hq2 : q < (l.take (k + 1)).length := by rw [List.length_take]; omega
  rw [List.drop_eq_getElem_cons hq2, vval, List.getElem_take]
theorem vdrop_bound (l : List Int) (k q : Nat) (hk : k < l.length) (hq : q ≤ k) (h10 : k < 10) (h0 : 0 ≤ l[k]) (hx : l[k] < 128) (h9 : k < 9 ∨ l[k] ≤ 1) : vval ((l.take (k + 1)).drop q) < 18446744073709551616 := by
  rw [take_snoc l k hk, List.drop_append_of_le_length (by rw [List.length_take]; omega), vval_snoc]
  have hb := vval_bound ((l.take k).drop q)
  rw [List.length_drop, List.length_take, Nat.min_eq_left (by omega)] at *
  have hp : (0 : Int) < 128 ^ (k - q) := Int.pow_pos (by decide)
  rcases h9 with h | h
  · have h1 := pow_all127 (k - q) (by omega)
    have h2 := Int.mul_le_mul_of_nonneg_left (show l[k] % 128 ≤ 127 by omega) (Int.le_of_lt hp)
    omega
  · have h1 := pow_all128 (k - q) (by omega)
    have h2 := Int.mul_le_mul_of_nonneg_left (show l[k] % 128 ≤ 1 by omega) (Int.le_of_lt hp)
    omega
set_option maxHeartbeats 1600000 in
theorem rgetvar_any (A : Option Addr) (c : Nat) (l : List Int) (w : World) (hr : Rd w A (byt l)) (hb : isB l) (hl : l.length ≤ 1000) (hc : l.length ≤ c) :
    Calls Try.prog 16 #[.slice A l.length c] w (RetN w (gvN l) (gvR l) (gvE l)) := by
  have HR := hide hr
  have HB := hide hb
  clear hr hb
  go_enter Try.func16, Try.ntmps16
  go_wp2
  go_loop [5] (fun i => ∃ k : Nat, k ≤ l.length ∧ k ≤ 10 ∧ i = .int .i64 k ∧ Hid (At l k)) (fun i => 10 - (intOf i).toNat)
  case atStart => exact ⟨0, Nat.zero_le _, by decide, rfl, hide (At.start l)⟩
  case round =>
    obtain ⟨k, hk, hk10, rfl, HA⟩ := hrel
    by_cases hin : k < l.length ∧ k < 10
    · obtain ⟨hkl, hk9⟩ := hin
      have hx := HB.out l[k] (List.getElem_mem _)
      have HG : Hid (l.getD k 0 = l[k]) := hide (by simp [List.getD, List.getElem?_eq_getElem hkl])
      obtain ⟨ad, hA, hcell⟩ := HR.out.at_ (k := k) (by simpa using hkl)
      rw [byt_get hkl] at hcell
      have hcell9 : 9 ≤ k → w.cell? ⟨ad.block, ad.off + 9, none⟩ = some (.int .u8 l[k]) := fun h9 => by
        obtain rfl : k = 9 := by omega
        simpa [Addr.add] using hcell
      have HC9 := hide hcell9
      clear hcell9
      have HN := hide (fun h => HA.out.next hkl hk9 h)
      have HST := hide (fun h => HA.out.stop hkl hk9 h)
      have HRG := hide (fun h9 hx => HA.out.range hkl h9 hk9 hx)
      have HVB := hide (fun q hq hx h9 => vdrop_bound l k q hkl hq hk9 (HB.out l[k] (List.getElem_mem _)).1 hx h9)
      generalize l[k] = x at *
      by_cases hbig : 128 ≤ x
      · subst hA
        go_wp2
        go_round
        case rel => exact ⟨k + 1, by omega, by omega, by go_num, hide (HN.out hbig)⟩
        case measure => simp [intOf]; omega
      · have HVL := hide (HST.out (by omega))
        rcases (show (9 ≤ k ∧ 1 < x) ∨ ((k < 9 ∨ x ≤ 1) ∧ 0 < k ∧ x ≤ 0) ∨ ((k < 9 ∨ x ≤ 1) ∧ (k ≤ 0 ∨ 0 < x)) by omega) with ⟨g1, g2⟩ | ⟨g1, g2, g3⟩ | ⟨g1, g2⟩
        · have HK := hide (HRG.out g1 g2)
          have hc9 := HC9.out g1
          subst hA
          go_wp2
          go_ret3
          exact RetN.err HK.out
        · have HK := hide (gv_form (l := l) (by rw [HVL.out]; omega) (by rw [HVL.out]; omega) (by have := HG.out; intro hh; have e9 := hh.1; rw [HVL.out] at e9; subst e9; omega) (by rw [HVL.out]; omega) (by rw [HVL.out, HG.out]; omega))
          subst hA
          rcases (show k < 9 ∨ (9 ≤ k ∧ x ≤ 1) by omega) with g4 | ⟨g4, g5⟩
          all_goals
            try have hc9 := HC9.out g4
            clear g1
            go_wp2
            go_ret3
            exact RetN.err HK.out
        · have HK := hide (gv_ok (l := l) (by rw [HVL.out]; omega) (by rw [HVL.out]; omega) (by have := HG.out; intro hh; have e9 := hh.1; rw [HVL.out] at e9; subst e9; omega) (by rw [HVL.out, HG.out]; omega))
          have HD := hide (HR.out.dropB (k + 1) c hc (by omega))
          rw [HVL.out] at HK
          have HG1 := hide g1
          subst hA
          rcases (show (k < 9 ∧ k ≤ 0) ∨ (k < 9 ∧ 0 < k ∧ 0 < x) ∨ (9 ≤ k ∧ x ≤ 1 ∧ 0 < x) by omega) with ⟨g3, g4⟩ | ⟨g3, g4, g5⟩ | ⟨g3, g4, g5⟩
          all_goals
            try have hc9 := HC9.out g3
            clear g1 g2
            go_wp2
            go_loop [6, 7] (fun n i => ∃ j : Nat, j ≤ k + 1 ∧ i = .int .i64 ((j : Int) - 1) ∧ n = .int .u64 (vval ((l.take (k + 1)).drop j))) (fun _ i => (intOf i + 1).toNat)
            case atStart => exact ⟨k + 1, Nat.le_refl _, vint (by omega), by rw [List.drop_of_length_le (by rw [List.length_take]; omega)]; rfl⟩
            case round =>
              obtain ⟨j, hj, rfl, rfl⟩ := hrel
              by_cases hj0 : 0 < j
              · obtain ⟨q, rfl⟩ : ∃ q, j = q + 1 := ⟨j - 1, by omega⟩
                have hql : q < l.length := by omega
                have hs := vdrop_step l k q hkl (by omega)
                have hb1 := HVB.out q (by omega) (by omega) HG1.out
                have hb2 := (vval_bound ((l.take (k + 1)).drop (q + 1))).1
                have hy := HB.out l[q] (List.getElem_mem _)
                obtain ⟨ad2, hA2, hcell2⟩ := HR.out.at_ (k := q) (by simpa using hql)
                obtain rfl : ad2 = ad := by injection hA2 with e; exact e.symm
                rw [byt_get hql] at hcell2
                have HS := hide hs
                rw [hs] at hb1
                clear hs hA2
                generalize l[q] = y at *
                generalize vval ((l.take (k + 1)).drop (q + 1)) = n at *
                go_wp2
                go_round
                case rel => exact ⟨q, by omega, vint (by omega), by rw [HS.out]; exact vint (by omega)⟩
                case measure => simp [intOf]
              · obtain rfl : j = 0 := by omega
                go_wp2
                go_quiet (fail)
                go_wp2
                all_goals go_ret3
                all_goals first | exact RetN.ok HK.out _ _ _ (by rw [List.length_drop]) (HD.out.1 ‹_›) _ | exact RetN.ok HK.out _ _ _ (by rw [List.length_drop]) (HD.out.2 (by omega)) _ | exact RetN.ok HK.out _ _ _ (by rw [List.length_drop]; omega) (HD.out.1 (by omega)) _ | exact RetN.ok9b HK.out (by omega) (by omega) HD.out.2 (by rw [List.length_drop]; omega)
    · have HE := hide (HA.out.end_ (by omega))
      rcases (show (k ≤ 9 ∧ l.length ≤ k) ∨ (10 ≤ k) by omega) with ⟨g1, g2⟩ | g1
      · have HK : Hid (gvE l = 10 ∧ gvN l = 0 ∧ gvR l = []) := hide (gv_more (by have := HE.out; omega) (by omega))
        clear hin
        go_wp2
        go_ret3
        exact RetN.err HK.out
      · have HK := hide (gv_range (l := l) (.inl (by have := HE.out; omega)))
        clear hin
        go_wp2
        all_goals go_ret3
        all_goals exact RetN.err HK.out
end Go.Proofs.Yteebnoegeoenbaa
