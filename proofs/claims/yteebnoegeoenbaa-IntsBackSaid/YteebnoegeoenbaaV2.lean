/- The walk of ints.GetVar: it returns what the plain functions say (of at most 1000 bytes). -/
import Derived.Test.YteebnoegeoenbaaV1
import Derived.Test.YteebnoegeoenbaaGet
namespace Go.Proofs.Yteebnoegeoenbaa
open Go.RowKit Go.Gr
set_option linter.unusedVariables false
theorem vval_take (l : List Int) (k : Nat) (h : k < l.length) : vval (l.take (k + 1)) = vval (l.take k) + 128 ^ k * (l[k] % 128) := by
  rw [take_snoc l k h, vval_snoc, List.length_take, Nat.min_eq_left (by omega)]
theorem vval_take_bd (l : List Int) (k : Nat) (h : k ≤ l.length) : 0 ≤ vval (l.take k) ∧ vval (l.take k) < 128 ^ k := by
  have := vval_bound (l.take k)
  rwa [List.length_take, Nat.min_eq_left h] at this
/-- at place k, all before it 128 or more -/
def At (l : List Int) (k : Nat) : Prop := vlast l = k + lead (10 - k) (l.drop k)
theorem At.start (l : List Int) : At l 0 := by unfold At vlast; simp
theorem At.next {l : List Int} {k : Nat} (h : At l k) (hk : k < l.length) (h10 : k < 10) (hx : 128 ≤ l[k]) : At l (k + 1) := by
  unfold At at *; rw [h, lead_drop l k hk h10, if_pos hx]; omega
theorem At.stop {l : List Int} {k : Nat} (h : At l k) (hk : k < l.length) (h10 : k < 10) (hx : l[k] < 128) : vlast l = k := by
  unfold At at *; rw [h, lead_drop l k hk h10, if_neg (by omega)]; rfl
theorem At.end_ {l : List Int} {k : Nat} (h : At l k) (hk : k = l.length ∨ k = 10) : vlast l = k := by
  unfold At at *; rw [h, lead_end l k hk]; rfl
theorem At.gt {l : List Int} {k : Nat} (h : At l k) (hk : k < l.length) (h10 : k < 10) (hx : 128 ≤ l[k]) : k < vlast l := by
  unfold At at *; rw [h, lead_drop l k hk h10, if_pos hx]; omega
theorem gv_more {l : List Int} (h : vlast l = l.length) (h10 : l.length < 10) : gvE l = 10 ∧ gvN l = 0 ∧ gvR l = [] := by
  have e : gvE l = 10 := by rw [gvE, if_pos ⟨h, by omega⟩]
  exact ⟨e, by rw [gvN, e, if_neg (by decide)], by rw [gvR, e, if_neg (by decide)]⟩
theorem gv_range {l : List Int} (h : vlast l = 10 ∨ vlast l = 9 ∧ 9 < l.length ∧ 1 < l.getD 9 0) : gvE l = 7 ∧ gvN l = 0 ∧ gvR l = [] := by
  have e : gvE l = 7 := by rw [gvE, if_neg (by omega), if_pos (by omega)]
  exact ⟨e, by rw [gvN, e, if_neg (by decide)], by rw [gvR, e, if_neg (by decide)]⟩
theorem gv_form {l : List Int} (h : vlast l < l.length) (h10 : vlast l < 10) (h9 : ¬ (vlast l = 9 ∧ 1 < l.getD 9 0)) (h0 : 0 < vlast l) (hz : l.getD (vlast l) 0 = 0) : gvE l = 6 ∧ gvN l = 0 ∧ gvR l = [] := by
  have e : gvE l = 6 := by rw [gvE, if_neg (by omega), if_neg (by omega), if_pos ⟨h0, hz⟩]
  exact ⟨e, by rw [gvN, e, if_neg (by decide)], by rw [gvR, e, if_neg (by decide)]⟩
theorem gv_ok {l : List Int} (h : vlast l < l.length) (h10 : vlast l < 10) (h9 : ¬ (vlast l = 9 ∧ 1 < l.getD 9 0)) (hz : ¬ (0 < vlast l ∧ l.getD (vlast l) 0 = 0)) : gvE l = 0 ∧ gvN l = vval (l.take (vlast l + 1)) ∧ gvR l = l.drop (vlast l + 1) := by
  have e : gvE l = 0 := by rw [gvE, if_neg (by omega), if_neg (by omega), if_neg hz]
  exact ⟨e, by rw [gvN, if_pos e], by rw [gvR, if_pos e]⟩

theorem At.range {l : List Int} {k : Nat} (h : At l k) (hkl : k < l.length) (h9 : 9 ≤ k) (hk9 : k < 10) (hx : 1 < l[k]) : gvE l = 7 ∧ gvN l = 0 ∧ gvR l = [] := by
  obtain rfl : k = 9 := by omega
  rcases Int.lt_or_le l[9] 128 with h1 | h1
  · exact gv_range (.inr ⟨h.stop hkl hk9 h1, hkl, by simpa [List.getD, List.getElem?_eq_getElem hkl] using hx⟩)
  · refine gv_range (.inl ?_)
    have := h.gt hkl hk9 h1
    have := lead_le 10 l
    unfold vlast at *; omega
theorem RetN.err {w : World} {l : List Int} {e : Int} (h : gvE l = e ∧ gvN l = 0 ∧ gvR l = []) : RetN w (gvN l) (gvR l) (gvE l) (.returned (.tuple #[.int .u64 0, .slice none 0 0, .int .i64 e])) w :=
  ⟨none, 0, by rw [h.1, h.2.1, h.2.2]; rfl, by rw [h.2.2]; exact Rd.nil _ _, Ext.refl _⟩
theorem RetN.ok {w : World} {l R : List Int} {N : Int} (h : gvE l = 0 ∧ gvN l = N ∧ gvR l = R) (A : Option Addr) (n c : Nat) (hn : n = R.length) (hr : Rd w A (byt R)) (k : Nat) :
    RetN w (gvN l) (gvR l) (gvE l) (.returned (.tuple #[.int .u64 N, .slice A n c, .int .i64 0])) (w.drewN k) := by
  subst hn
  exact ⟨A, c, by rw [h.1, h.2.1, h.2.2], by rw [h.2.2]; exact hr.drewN k, (Ext.refl w).drewN k⟩
theorem RetN.ok9b {w : World} {l R : List Int} {N : Int} {ad : Addr} {j k n c c' : Nat} (h : gvE l = 0 ∧ gvN l = N ∧ gvR l = R) (hk : k = 9) (hc : ¬ c = k + 1)
    (hr : ¬ c = k + 1 → Rd w (Option.map (·.add (k + 1)) (some ad)) (byt R)) (hn : n = R.length) :
    RetN w (gvN l) (gvR l) (gvE l) (.returned (.tuple #[.int .u64 N, .slice (some ⟨ad.block, ad.off + 10, none⟩) n c', .int .i64 0])) (w.drewN j) := by
  subst hk
  exact RetN.ok h _ _ _ hn (by have := hr hc; simpa [Addr.add] using this) _
theorem pow_all128 : ∀ k, k < 10 → (128 : Int) ^ k ≤ 9223372036854775808 := by decide +kernel
theorem pow_all127 : ∀ k, k < 9 → (128 : Int) ^ k ≤ 72057594037927936 := by decide +kernel
set_option maxHeartbeats 1600000 in
theorem getvar_any (A : Option Addr) (c : Nat) (l : List Int) (w : World) (hr : Rd w A (byt l)) (hb : isB l) (hl : l.length ≤ 1000) (hc : l.length ≤ c) :
    Calls Try.prog 15 #[.slice A l.length c] w (RetN w (gvN l) (gvR l) (gvE l)) := by
  have HR := hide hr
  have HB := hide hb
  clear hr hb
  rcases (show l.length < 10 ∨ (l.length ≤ 10 ∧ 10 ≤ l.length) ∨ 10 < l.length by omega) with hlen | ⟨hlen, hlen2⟩ | hlen
  all_goals
    go_enter Try.func15, Try.ntmps15
    go_wp2
    go_loop [2, 13] (fun x i => ∃ k : Nat, k ≤ l.length ∧ k ≤ 9 ∧ i = .int .i64 k ∧ x = .int .u64 (vval (l.take k)) ∧ Hid (At l k)) (fun _ i => 10 - (intOf i).toNat)
    case atStart => exact ⟨0, Nat.zero_le _, by decide, rfl, rfl, hide (At.start l)⟩
    case round =>
      obtain ⟨k, hk, hk10, rfl, rfl, HA⟩ := hrel
      by_cases hgo : k < l.length ∧ k < 10
      · obtain ⟨hkl, hk9⟩ := hgo
        have hx := HB.out l[k] (List.getElem_mem _)
        have HG : Hid (l.getD k 0 = l[k]) := hide (by simp [List.getD, List.getElem?_eq_getElem hkl])
        obtain ⟨ad, rfl, hcell⟩ := HR.out.at_ (k := k) (by simpa using hkl)
        rw [byt_get hkl] at hcell
        have HS := hide (vval_take l k hkl)
        have HBD := hide (vval_take_bd l k hk)
        have HN := hide (fun h => HA.out.next hkl hk9 h)
        have HST := hide (fun h => HA.out.stop hkl hk9 h)
        have HRG := hide (fun h9 hx => HA.out.range hkl h9 hk9 hx)
        have hand := andNot128 l[k] hx
        have hor : (k < 9 ∨ l[k] ≤ 1) → bits .or .u64 (vval (l.take k)) (IntKind.u64.wrap (l[k] % 128 * 2 ^ (7 * k))) = vval (l.take (k + 1)) := fun hh => by
          rw [HS.out]
          have hp : (128 : Int) ^ k ≤ 9223372036854775808 := by
            have := pow_all128 k (by omega); exact this
          refine or_high _ _ k HBD.out (by omega) ?_ (by have := HBD.out; omega)
          rcases hh with hh | hh
          · have h1 := pow_all127 k (by omega)
            have h2 := Int.mul_le_mul_of_nonneg_right (show l[k] % 128 ≤ 127 by omega) (show (0 : Int) ≤ 128 ^ k by exact Int.le_of_lt (Int.pow_pos (by decide)))
            omega
          · have h2 := Int.mul_le_mul_of_nonneg_right (show l[k] % 128 ≤ 1 by omega) (show (0 : Int) ≤ 128 ^ k by exact Int.le_of_lt (Int.pow_pos (by decide)))
            omega
        have HOR := hide hor
        clear hor
        generalize l[k] = x at *
        rcases (show (k < 9 ∧ 128 ≤ x) ∨ (k < 9 ∧ x ≤ 0 ∧ 0 < k) ∨ (x ≤ 0 ∧ k ≤ 0) ∨ (k < 9 ∧ 0 < x ∧ x < 128) ∨ (9 ≤ k ∧ 1 < x) ∨ (9 ≤ k ∧ x ≤ 0) ∨ (9 ≤ k ∧ 0 < x ∧ x ≤ 1) by omega) with ⟨g1, g2⟩ | ⟨g1, g2, g3⟩ | ⟨g1, g2⟩ | ⟨g1, g2, g3⟩ | ⟨g1, g2⟩ | ⟨g1, g2⟩ | ⟨g1, g2, g3⟩
        · have hor := HOR.out (.inl g1)
          go_wp2
          go_round
          case rel => exact ⟨k + 1, by omega, by omega, by go_num, rfl, hide (HN.out g2)⟩
          case measure => simp [intOf]; omega
        · have HVL := hide (HST.out (by omega))
          have HK := hide (gv_form (l := l) (by rw [HVL.out]; omega) (by rw [HVL.out]; omega) (by have := HG.out; intro hh; have e9 := hh.1; rw [HVL.out] at e9; subst e9; omega) (by rw [HVL.out]; omega) (by rw [HVL.out, HG.out]; omega))
          go_wp2
          go_ret3
          exact RetN.err HK.out
        · have HVL := hide (HST.out (by omega))
          have hor := HOR.out (.inl (by omega))
          have HK := hide (gv_ok (l := l) (by rw [HVL.out]; omega) (by rw [HVL.out]; omega) (by have := HG.out; intro hh; have e9 := hh.1; rw [HVL.out] at e9; subst e9; omega) (by rw [HVL.out, HG.out]; omega))
          have HD := hide (HR.out.dropB (k + 1) c hc (by omega))
          rw [HVL.out] at HK
          go_wp2
          go_quiet (fail)
          go_wp2
          all_goals go_ret3
          all_goals first | exact RetN.ok HK.out _ _ _ (by rw [List.length_drop]) (HD.out.1 ‹_›) _ | exact RetN.ok HK.out _ _ _ (by rw [List.length_drop]) (HD.out.2 (by omega)) _
        · have HVL := hide (HST.out (by omega))
          have hor := HOR.out (.inl g1)
          have HK := hide (gv_ok (l := l) (by rw [HVL.out]; omega) (by rw [HVL.out]; omega) (by have := HG.out; intro hh; have e9 := hh.1; rw [HVL.out] at e9; subst e9; omega) (by rw [HVL.out, HG.out]; omega))
          have HD := hide (HR.out.dropB (k + 1) c hc (by omega))
          rw [HVL.out] at HK
          go_wp2
          go_quiet (fail)
          go_wp2
          all_goals go_ret3
          all_goals first | exact RetN.ok HK.out _ _ _ (by rw [List.length_drop]) (HD.out.1 ‹_›) _ | exact RetN.ok HK.out _ _ _ (by rw [List.length_drop]) (HD.out.2 (by omega)) _
        · first
            | (exfalso; omega)
            | (have HK := hide (HRG.out g1 g2)
               go_wp2
               go_ret3
               exact RetN.err HK.out)
        · first
            | (exfalso; omega)
            | (have HVL := hide (HST.out (by omega))
               have HK := hide (gv_form (l := l) (by rw [HVL.out]; omega) (by rw [HVL.out]; omega) (by have := HG.out; intro hh; have e9 := hh.1; rw [HVL.out] at e9; subst e9; omega) (by rw [HVL.out]; omega) (by rw [HVL.out, HG.out]; omega))
               go_wp2
               go_ret3
               exact RetN.err HK.out)
        · first
            | (exfalso; omega)
            | (have HVL := hide (HST.out (by omega))
               have hor := HOR.out (.inr (by omega))
               have HK := hide (gv_ok (l := l) (by rw [HVL.out]; omega) (by rw [HVL.out]; omega) (by have := HG.out; intro hh; have e9 := hh.1; rw [HVL.out] at e9; subst e9; omega) (by rw [HVL.out, HG.out]; omega))
               have HD := hide (HR.out.dropB (k + 1) c hc (by omega))
               rw [HVL.out] at HK
               go_wp2
               go_quiet (fail)
               go_wp2
               all_goals go_ret3
               all_goals first | exact RetN.ok HK.out _ _ _ (by rw [List.length_drop]) (HD.out.1 ‹_›) _ | exact RetN.ok HK.out _ _ _ (by rw [List.length_drop]) (HD.out.2 (by omega)) _ | exact RetN.ok HK.out _ _ _ (by rw [List.length_drop]; omega) (HD.out.1 (by omega)) _ | exact RetN.ok9b HK.out (by omega) (by omega) HD.out.2 (by rw [List.length_drop]; omega))
      · first
          | (exfalso; omega)
          | (have HE := hide (HA.out.end_ (by omega))
             have HK : Hid (gvE l = 10 ∧ gvN l = 0 ∧ gvR l = []) := hide (gv_more (by have := HE.out; omega) (by omega))
             go_wp2
             go_ret3
             exact RetN.err HK.out)
end Go.Proofs.Yteebnoegeoenbaa
