/- Seats: walks of the program's first functions. -/
import Derived.Test.YtcmpkpldihnklaaBits
import Derived.Test.YtcmpkpldihnklaaM1
import Derived.Test.YtcmpkpldihnklaaProg
namespace Go.Proofs.Ytcmpkpldihnklaa
open Go.RowKit Go.Gr Go.Seat
set_option linter.unusedVariables false
set_option linter.unusedSimpArgs false
theorem chk_mk {a b c d e : Int} {n : Int} (h : (a = 1 ∧ 0 ≤ c ∧ n = 0) ∨ (a = 0 ∧ b = 0 ∧ c = 0 ∧ n = 0) ∨ (a = 2 ∧ c = 0 ∧ n = 0) ∨ (¬ ((a = 1 ∧ 0 ≤ c) ∨ (a = 0 ∧ b = 0 ∧ c = 0) ∨ (a = 2 ∧ c = 0)) ∧ n = 6)) : n = chk ⟨a, b, c, d, e⟩ := by
  unfold chk
  by_cases hg : good ⟨a, b, c, d, e⟩
  · rw [if_pos hg]; unfold good at hg; dsimp only at hg; omega
  · rw [if_neg hg]; unfold good at hg; dsimp only at hg; omega
set_option maxHeartbeats 400000 in
theorem check_any (s : Se) (w : World) : Calls Try.prog 18 #[sv s] w (RetE w (chk s)) := by
  obtain ⟨a, b, c, d, e⟩ := s
  go_enter Try.func18, Try.ntmps18
  go_wp2_with fail
  all_goals
    go_ret
    simp only [beq_iff_eq, beq_eq_false_iff_ne, bne_iff_ne, bne_eq_false_iff_eq, ne_eq] at *
    exact ⟨ret_int (chk_mk (by omega)), (Ext.refl _).alloc _⟩
theorem chk_0 {s : Se} : chk s = 0 ↔ good s := by unfold chk; split <;> simp_all
theorem chk_6 {s : Se} : ¬ chk s = 0 → chk s = 6 := by unfold chk; split <;> simp_all
/-- old cells read as before -/
theorem ecell {W w1 : World} (hb : Ext W w1) : (∀ b o, b < W.heap.size → w1.cell? ⟨b, o, none⟩ = W.cell? ⟨b, o, none⟩) ∧ (∀ b o, b < W.heap.size → w1.frozen? ⟨b, o, none⟩ = W.frozen? ⟨b, o, none⟩) :=
  ⟨fun b o h => Below.cell hb (p := ⟨b, o, none⟩) h, fun b o h => Below.frozen hb (p := ⟨b, o, none⟩) h⟩
theorem inE_mk {s : Se} {n m : Int} (h : (¬ chk s = 0 ∧ m = chk s) ∨ (chk s = 0 ∧ s.st = n ∧ m = 0) ∨ (chk s = 0 ∧ ¬ s.st = n ∧ m = 15)) : m = inE s n := by
  unfold inE
  by_cases hc : chk s = 0
  · rw [if_neg (not_not_intro (chk_0.1 hc))]; split <;> omega
  · rw [if_pos (fun hg => hc (chk_0.2 hg))]; have := chk_6 hc; omega
theorem timeE_mk {s : Se} {n m : Int} (h : (¬ chk s = 0 ∧ m = chk s) ∨ (chk s = 0 ∧ n < 0 ∧ m = 7) ∨ (chk s = 0 ∧ 0 ≤ n ∧ m = 0)) : m = timeE s n := by
  unfold timeE
  by_cases hc : chk s = 0
  · rw [if_neg (not_not_intro (chk_0.1 hc))]; split <;> omega
  · rw [if_pos (fun hg => hc (chk_0.2 hg))]; have := chk_6 hc; omega
theorem mineE_mk {s : Se} {n m : Int} (h : (¬ inE s 1 = 0 ∧ m = inE s 1) ∨ (inE s 1 = 0 ∧ s.own = n ∧ m = 0) ∨ (inE s 1 = 0 ∧ ¬ s.own = n ∧ m = 14)) : m = mineE s n := by
  unfold mineE
  unfold inE at h
  by_cases hc : good s
  · rw [if_neg (not_not_intro hc)] at *
    by_cases h1 : s.st = 1
    · rw [if_pos h1] at h; rw [if_neg (not_not_intro h1)]; split <;> omega
    · rw [if_neg h1] at h; rw [if_pos h1]; omega
  · rw [if_pos hc] at *; omega
set_option maxHeartbeats 400000 in
theorem state_any (s : Se) (n : Int) (w : World) : Calls Try.prog 26 #[sv s, .int .i64 n] w (RetE w (inE s n)) := by
  go_enter Try.func26, Try.ntmps26
  go_wp2_with fail
  (with_reducible refine (check_any _ _).mono ?_)
  rintro e w1 ⟨rfl, hx1⟩
  have HX := hide hx1
  obtain ⟨hc1, hf1⟩ := ecell hx1
  clear hx1
  go_wp2_with fail
  all_goals
    clear hc1 hf1
    go_ret
    simp only [beq_iff_eq, beq_eq_false_iff_ne, bne_iff_ne, bne_eq_false_iff_eq, ne_eq] at *
    exact ⟨ret_int (inE_mk (by omega)), ((Ext.refl _).alloc _).trans HX.out⟩
set_option maxHeartbeats 400000 in
theorem time_any (s : Se) (n : Int) (w : World) : Calls Try.prog 41 #[sv s, .int .i64 n] w (RetE w (timeE s n)) := by
  go_enter Try.func41, Try.ntmps41
  go_wp2_with fail
  (with_reducible refine (check_any _ _).mono ?_)
  rintro e w1 ⟨rfl, hx1⟩
  have HX := hide hx1
  clear hx1
  go_wp2_with fail
  all_goals
    go_ret
    simp only [beq_iff_eq, beq_eq_false_iff_ne, bne_iff_ne, bne_eq_false_iff_eq, ne_eq] at *
    exact ⟨ret_int (timeE_mk (by omega)), ((Ext.refl _).alloc _).trans HX.out⟩
set_option maxHeartbeats 400000 in
theorem mine_any (s : Se) (n : Int) (w : World) : Calls Try.prog 27 #[sv s, .int .u32 n] w (RetE w (mineE s n)) := by
  go_enter Try.func27, Try.ntmps27
  go_wp2_with fail
  (with_reducible refine (state_any _ _ _).mono ?_)
  rintro e w1 ⟨rfl, hx1⟩
  have HX := hide hx1
  obtain ⟨hc1, hf1⟩ := ecell hx1
  clear hx1
  go_wp2_with fail
  all_goals
    clear hc1 hf1
    go_ret
    simp only [beq_iff_eq, beq_eq_false_iff_ne, bne_iff_ne, bne_eq_false_iff_eq, ne_eq] at *
    exact ⟨ret_int (mineE_mk (by omega)), ((Ext.refl _).alloc _).trans HX.out⟩
end Go.Proofs.Ytcmpkpldihnklaa
