/- Seats: walks of the functions of other packages that the program calls. -/
import Derived.Test.YtcmpkpldihnklaaP1
namespace Go.Proofs.Ytcmpkpldihnklaa
open Go.RowKit Go.Gr Go.Seat
set_option linter.unusedVariables false
set_option linter.unusedSimpArgs false
/-- it returns this number, and nothing has changed -/
def RetI (w : World) (n : Int) (e : Ending) (w' : World) : Prop := e = .returned (.int .i64 n) ∧ w = w'
def orE (a b : Int) : Int := if a = 0 then b else a
def minE (a b : Int) : Int := if b < a then b else a
set_option maxHeartbeats 400000 in
theorem or_any (g c : Nat) (a b : Int) (w : World) (h0 : w.cell? ⟨g, 0, none⟩ = some (.int .i64 a)) (h1 : w.cell? ⟨g, 1, none⟩ = some (.int .i64 b)) :
    Calls Try.prog 40 #[.slice (some ⟨g, 0, none⟩) 2 c] w (RetI w (orE a b)) := by
  go_enter Try.func40, Try.ntmps40
  go_wp2_with fail
  go_loop [8] (fun i => ∃ k : Nat, k ≤ 2 ∧ i = .int .i64 k ∧ Hid ((0 < k → a = 0) ∧ (1 < k → b = 0))) (fun i => 2 - (intOf i).toNat)
  case atStart => exact ⟨0, by omega, rfl, hide ⟨by omega, by omega⟩⟩
  case round =>
    obtain ⟨k, hk, rfl, HK⟩ := hrel
    obtain rfl | rfl | rfl : k = 0 ∨ k = 1 ∨ k = 2 := by omega
    · go_wp2_with fail
      · go_ret
        have : ¬ a = 0 := by simpa using ‹(a != 0) = true›
        exact ⟨ret_int (by unfold orE; rw [if_neg this]), rfl⟩
      · have : a = 0 := by simpa using ‹(a != 0) = false›
        go_round
        case rel => exact ⟨1, by omega, by go_num, hide ⟨fun _ => this, by omega⟩⟩
        case measure => simp [intOf]
    · go_wp2_with fail
      · go_ret
        exact ⟨ret_int (by unfold orE; rw [if_pos (HK.out.1 (by omega))]), rfl⟩
      · have : b = 0 := by simpa using ‹(b != 0) = false›
        go_round
        case rel => exact ⟨2, by omega, by go_num, hide ⟨fun _ => HK.out.1 (by omega), fun _ => this⟩⟩
        case measure => simp [intOf]
    · go_wp2_with fail
      go_ret
      exact ⟨ret_int (by unfold orE; rw [if_pos (HK.out.1 (by omega)), HK.out.2 (by omega)]), rfl⟩
set_option maxHeartbeats 400000 in
theorem min_any (g c : Nat) (a b : Int) (w : World) (h0 : w.cell? ⟨g, 0, none⟩ = some (.int .i64 a)) (h1 : w.cell? ⟨g, 1, none⟩ = some (.int .i64 b)) :
    Calls Try.prog 48 #[.slice (some ⟨g, 0, none⟩) 2 c] w (RetI w (minE a b)) := by
  go_enter Try.func48, Try.ntmps48
  go_wp2_with fail
  go_loop [3, 4] (fun m i => (m = .int .i64 a ∧ i = .int .i64 1) ∨ (m = .int .i64 (minE a b) ∧ i = .int .i64 2)) (fun _ i => 2 - (intOf i).toNat)
  case atStart => exact .inl ⟨rfl, rfl⟩
  case round =>
    rcases hrel with ⟨rfl, rfl⟩ | ⟨rfl, rfl⟩
    · go_wp2_with fail
      go_round
      case rel => exact .inr ⟨by unfold minE; rfl, by go_num⟩
      case measure => simp [intOf]
    · go_wp2_with fail
      go_ret
      exact ⟨rfl, rfl⟩
set_option maxHeartbeats 400000 in
theorem none_any (g c : Nat) (a b : Int) (w : World) (h0 : w.cell? ⟨g, 0, none⟩ = some (.int .i64 a)) (h1 : w.cell? ⟨g, 1, none⟩ = some (.int .i64 b)) :
    Calls Try.prog 46 #[.slice (some ⟨g, 0, none⟩) 2 c] w fun e w' => e = .returned (.bool (decide (a < 0 ∨ b < 0))) ∧ w = w' := by
  go_enter Try.func46, Try.ntmps46
  go_wp2_with fail
  (with_reducible refine (min_any _ _ _ _ _ h0 h1).mono ?_)
  rintro e w1 ⟨rfl, rfl⟩
  go_wp2_with fail
  go_ret
  exact ⟨ret_bool (by unfold minE; rw [decide_eq_decide]; split <;> omega), rfl⟩
def passE (d n : Int) : Bool × Int := if d < 0 ∨ n < 0 then (false, 7) else (decide (d ≤ n), 0)
set_option maxHeartbeats 400000 in
theorem passed_any (a b : Int) (w : World) : Calls Try.prog 42 #[.int .i64 a, .int .i64 b] w fun e w' => e = .returned (.tuple #[.bool (passE a b).1, .int .i64 (passE a b).2]) ∧ Ext w w' := by
  by_cases h : a < 0 ∨ b < 0
  · have hd : decide (a < 0 ∨ b < 0) = true := by simpa using h
    have e1 : passE a b = (false, 7) := by unfold passE; rw [if_pos h]
    rw [e1]
    have HD := hide hd
    clear hd h e1
    go_enter Try.func42, Try.ntmps42
    go_wp2_with fail
    (with_reducible refine (none_any _ _ a b _ (by go_simp) (by go_simp)).mono ?_)
    rintro e w1 ⟨rfl, rfl⟩
    rw [HD.out]
    go_wp2_with fail
    go_ret2
    exact ⟨rfl, (Ext.refl _).alloc _⟩
  · have hd : decide (a < 0 ∨ b < 0) = false := by simpa using h
    have e1 : passE a b = (decide (a ≤ b), 0) := by unfold passE; rw [if_neg h]
    rw [e1]
    have HD := hide hd
    clear hd h e1
    go_enter Try.func42, Try.ntmps42
    go_wp2_with fail
    (with_reducible refine (none_any _ _ a b _ (by go_simp) (by go_simp)).mono ?_)
    rintro e w1 ⟨rfl, rfl⟩
    rw [HD.out]
    go_wp2_with fail
    go_ret2
    exact ⟨rfl, (Ext.refl _).alloc _⟩
end Go.Proofs.Ytcmpkpldihnklaa
