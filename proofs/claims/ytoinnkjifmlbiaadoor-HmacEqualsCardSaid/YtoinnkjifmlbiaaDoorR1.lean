/- Hmac: the walk of the reference's Equal. -/
import Derived.Deep.DeepCutAuto
import Derived.Test.YtoinnkjifmlbiaaDoorH2
namespace Go.Proofs.YtoinnkjifmlbiaaDoor
open Go.RowKit Go.Gr
set_option linter.unusedVariables false
set_option linter.unusedSimpArgs false
/-- equal so far -/
def sameTo (a b : List Int) (n k : Nat) : Bool := decide (a.length = b.length ∧ (fillB a n).take k = (fillB b n).take k)
theorem sameTo_next {a b : List Int} {n k : Nat} (ha : a.length ≤ n) (hb : b.length ≤ n) (hk : k < n) : sameTo a b n (k + 1) = (sameTo a b n k && ((fillB a n).getD k 0 == (fillB b n).getD k 0)) := by
  have h1 : k < (fillB a n).length := by rw [fillB_len ha]; exact hk
  have h2 : k < (fillB b n).length := by rw [fillB_len hb]; exact hk
  unfold sameTo
  rw [Bool.eq_iff_iff, Bool.and_eq_true, decide_eq_true_eq, decide_eq_true_eq, beq_iff_eq, take_eq_next h1 h2, List.getD_eq_getElem?_getD, List.getD_eq_getElem?_getD, List.getElem?_eq_getElem h1, List.getElem?_eq_getElem h2, and_assoc]
  rfl
theorem fillB_in {a : List Int} {n k : Nat} (h : k < a.length) : (fillB a n).getD k 0 = a[k] := by
  unfold fillB
  rw [List.getD_eq_getElem?_getD, List.getElem?_append_left h, List.getElem?_eq_getElem h]; rfl
theorem fillB_out {a : List Int} {n k : Nat} (h : a.length ≤ k) : (fillB a n).getD k 0 = 0 := by
  unfold fillB
  rw [List.getD_eq_getElem?_getD, List.getElem?_append_right h, List.getElem?_replicate]
  split <;> rfl
set_option maxRecDepth 100000 in
set_option maxHeartbeats 2000000 in
theorem requal_any (a b : List Int) (A B : Option Addr) (ca cb : Nat) (w : World) (ha : Rd w A (byt a)) (hb : Rd w B (byt b)) (hla : a.length ≤ 100000) (hlb : b.length ≤ 100000) :
    Calls Tryd.prog 17 #[.slice A a.length ca, .slice B b.length cb] w fun e w' => e = .returned (.tuple #[.bool (decide (a = b)), .int .i64 (maxN a.length b.length)]) ∧ w = w' := by
  have HA := hide ha
  have HB := hide hb
  clear ha hb
  go_enter Tryd.func17, Tryd.ntmps17
  go_upto_region 1 with fail
  go_cut [6] (fun v wx => v = .int .i64 (maxN a.length b.length : Nat) ∧ w = wx)
  case first =>
    by_cases hab : a.length < b.length
    · have hm := hide (show maxN a.length b.length = b.length by unfold maxN; rw [if_pos hab])
      go_wp2_with fail
      all_goals
        go_meet
        case rel => first | exact ⟨by rw [hm.out], rfl⟩ | omega
    · have hm := hide (show maxN a.length b.length = a.length by unfold maxN; rw [if_neg hab])
      go_wp2_with fail
      all_goals
        go_meet
        case rel => first | exact ⟨by rw [hm.out], rfl⟩ | omega
  case rest =>
    obtain ⟨rfl, rfl⟩ := hcut
    have hna : a.length ≤ maxN a.length b.length := by unfold maxN; split <;> omega
    have hnb : b.length ≤ maxN a.length b.length := by unfold maxN; split <;> omega
    have hnm : maxN a.length b.length ≤ 100000 := by unfold maxN; split <;> omega
    have hnx : maxN a.length b.length ≤ a.length ∨ maxN a.length b.length ≤ b.length := by unfold maxN; split <;> omega
    obtain ⟨n, HN⟩ : ∃ n, Hid (maxN a.length b.length = n) := ⟨_, hide rfl⟩
    rw [HN.out] at hna hnb hnm hnx ⊢
    have HNX := hide hnx
    clear hnx
    go_upto_region 2 with fail
    go_cut [7] (fun v wx => v = .bool (sameTo a b n 0) ∧ w = wx)
    case first =>
      have HS : Hid (sameTo a b n 0 = decide (a.length = b.length)) := hide (by unfold sameTo; simp)
      by_cases hab : a.length = b.length
      · have HAB := hide hab
        have h1 : ((a.length : Int) == (b.length : Int)) = true := beq_iff_eq.2 (by omega)
        have h2 : (a.length == b.length) = true := by simpa using hab
        clear hab
        go_wp2_with fail
        go_meet
        case rel => exact ⟨by rw [HS.out]; simp [HAB.out], rfl⟩
      · have HAB := hide hab
        have h1 : ((a.length : Int) == (b.length : Int)) = false := beq_eq_false_iff_ne.2 (by omega)
        have h2 : (a.length == b.length) = false := by simpa using hab
        clear hab
        go_wp2_with fail
        go_meet
        case rel => exact ⟨by rw [HS.out]; simp [HAB.out], rfl⟩
    case rest =>
      obtain ⟨rfl, rfl⟩ := hcut
      go_wp2_with fail
      go_loop [7, 8] (fun v i => ∃ k : Nat, i = .int .i64 k ∧ k ≤ n ∧ v = .bool (sameTo a b n k)) (fun _ i => n - (intOf i).toNat)
      case atStart => exact ⟨0, rfl, by omega, rfl⟩
      case round =>
        obtain ⟨k, rfl, hk, rfl⟩ := hrel
        by_cases hlt : k < n
        · have HSN := hide (sameTo_next hna hnb hlt)
          have hki : (k : Int) < (n : Int) := by omega
          obtain ⟨x, HX, HXC⟩ : ∃ x, Hid ((fillB a n).getD k 0 = x) ∧ ((k < a.length → ∃ ad, A = some ad ∧ w.cell? (ad.add k) = some (.int .u8 x)) ∧ (a.length ≤ k → x = 0)) :=
            ⟨_, hide rfl, fun h => by obtain ⟨ad, e, hc⟩ := HA.out.at_ (k := k) (by simpa using h); exact ⟨ad, e, by rw [hc, byt_get h, fillB_in h]⟩, fun h => fillB_out h⟩
          obtain ⟨y, HY, HYC⟩ : ∃ y, Hid ((fillB b n).getD k 0 = y) ∧ ((k < b.length → ∃ ad, B = some ad ∧ w.cell? (ad.add k) = some (.int .u8 y)) ∧ (b.length ≤ k → y = 0)) :=
            ⟨_, hide rfl, fun h => by obtain ⟨ad, e, hc⟩ := HB.out.at_ (k := k) (by simpa using h); exact ⟨ad, e, by rw [hc, byt_get h, fillB_in h]⟩, fun h => fillB_out h⟩
          rw [HX.out, HY.out] at HSN
          obtain ⟨q, HQ⟩ : ∃ q, Hid (sameTo a b n k = q) := ⟨_, hide rfl⟩
          rw [HQ.out] at HSN ⊢
          by_cases h1 : k < a.length <;> by_cases h2 : k < b.length
          · obtain ⟨ad, rfl, hc1⟩ := HXC.1 h1
            obtain ⟨bd, rfl, hc2⟩ := HYC.1 h2
            clear HXC HYC
            cases q <;> cases hxy : (x == y)
            all_goals
              rw [hxy] at HSN
              go_wp2_with fail
              go_round
              case rel => exact ⟨k + 1, by go_num, by omega, by rw [HSN.out]; rfl⟩
              case measure => simp [intOf]; omega
          · obtain ⟨ad, rfl, hc1⟩ := HXC.1 h1
            obtain rfl := HYC.2 (by omega)
            clear HXC HYC
            cases q <;> cases hxy : (x == 0)
            all_goals
              rw [hxy] at HSN
              go_wp2_with fail
              go_round
              case rel => exact ⟨k + 1, by go_num, by omega, by rw [HSN.out]; rfl⟩
              case measure => simp [intOf]; omega
          · obtain rfl := HXC.2 (by omega)
            obtain ⟨bd, rfl, hc2⟩ := HYC.1 h2
            clear HXC HYC
            cases q <;> cases hxy : ((0 : Int) == y)
            all_goals
              rw [hxy] at HSN
              go_wp2_with fail
              go_round
              case rel => exact ⟨k + 1, by go_num, by omega, by rw [HSN.out]; rfl⟩
              case measure => simp [intOf]; omega
          · have := HNX.out; omega
        · obtain rfl : k = n := by omega
          have HE : Hid (sameTo a b k k = decide (a = b)) := hide (by unfold sameTo; rw [decide_eq_decide]; exact fill_eq hna hnb)
          rw [HE.out]
          have HNN := hide HN.out
          go_wp2_with fail
          go_ret2
          rw [HN.out]
          exact ⟨rfl, rfl⟩
end Go.Proofs.YtoinnkjifmlbiaaDoor
