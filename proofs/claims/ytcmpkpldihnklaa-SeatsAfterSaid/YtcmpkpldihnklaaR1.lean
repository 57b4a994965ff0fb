/- Seats: walks of the reference's functions. -/
import Derived.Test.YtcmpkpldihnklaaP5
namespace Go.Proofs.Ytcmpkpldihnklaa
open Go.RowKit Go.Gr Go.Seat
set_option linter.unusedVariables false
set_option linter.unusedSimpArgs false
set_option maxHeartbeats 400000 in
theorem rcheck_any (s : Se) (w : World) : Calls Try.prog 19 #[sv s] w (RetE w (chk s)) := by
  obtain ⟨a, b, c, d, e⟩ := s
  go_enter Try.func19, Try.ntmps19
  go_wp2_with fail
  all_goals
    go_ret
    simp only [beq_iff_eq, beq_eq_false_iff_ne, bne_iff_ne, bne_eq_false_iff_eq, ne_eq, Bool.not_eq_true', Bool.not_eq_false', decide_eq_true_eq, decide_eq_false_iff_not] at *
    exact ⟨ret_int (chk_mk (by omega)), (Ext.refl _).alloc _⟩
set_option maxHeartbeats 400000 in
theorem rin_any (s : Se) (n : Int) (w : World) : Calls Try.prog 39 #[sv s, .int .i64 n] w (RetE w (inE s n)) := by
  go_enter Try.func39, Try.ntmps39
  go_wp2_with fail
  (with_reducible refine (rcheck_any _ _).mono ?_)
  rintro e w1 ⟨rfl, hx1⟩
  have HX := hide hx1
  obtain ⟨hc1, hf1⟩ := ecell hx1
  clear hx1
  go_wp2_with fail
  all_goals
    clear hc1 hf1
    go_ret
    simp only [beq_iff_eq, beq_eq_false_iff_ne, bne_iff_ne, bne_eq_false_iff_eq, ne_eq] at *
    exact ⟨ret_int (inE_mk (by omega)), ((Ext.refl _).alloc _).trans HX.out⟩
set_option maxHeartbeats 400000 in
theorem rmine_any (s : Se) (n : Int) (w : World) : Calls Try.prog 43 #[sv s, .int .u32 n] w (RetE w (mineE s n)) := by
  go_enter Try.func43, Try.ntmps43
  go_wp2_with fail
  (with_reducible refine (rin_any _ _ _).mono ?_)
  rintro e w1 ⟨rfl, hx1⟩
  have HX := hide hx1
  obtain ⟨hc1, hf1⟩ := ecell hx1
  clear hx1
  go_wp2_with fail
  all_goals
    clear hc1 hf1
    go_ret
    simp only [beq_iff_eq, beq_eq_false_iff_ne, bne_iff_ne, bne_eq_false_iff_eq, ne_eq] at *
    exact ⟨ret_int (mineE_mk (by omega)), ((Ext.refl _).alloc _).trans HX.out⟩
set_option maxHeartbeats 400000 in
theorem rfree_any (s : Se) (w : World) : Calls Try.prog 44 #[sv s] w fun e w' => e = .returned (sv (openS s)) ∧ Ext w w' := by
  go_enter Try.func44, Try.ntmps44
  go_wp2_with fail
  refine bodyPost_ret (v := sv (openS s)) (by simp [results, Try.results44, go_sem, openS]) rfl ⟨rfl, ?_⟩
  exact ((Ext.refl _).alloc _).alloc _
set_option maxHeartbeats 400000 in
theorem rticket_any (s : Se) (n : Int) (w : World) : Calls Try.prog 17 #[sv s, .int .u32 n] w (RetT w (ticketS s n)) := by
  go_enter Try.func17, Try.ntmps17
  go_wp2_with fail
  (with_reducible refine (rin_any _ _ _).mono ?_)
  rintro e w1 ⟨rfl, hx1⟩
  have HX := hide hx1
  obtain ⟨hc1, hf1⟩ := ecell hx1
  have hz1 : w.heap.size + 2 ≤ w1.heap.size := by have := hx1.size; simp at this; omega
  clear hx1
  go_wp2_with fail
  · rw [ticket_1 (by simpa using ‹(inE s 2 != 0) = true›)]
    refine bodyPost_ret (v := .tuple #[tv ⟨0, 0, 0, 0⟩, .int .i64 (inE s 2)]) (by simp [results, Try.results17, go_sem, hc1, hf1]) rfl ⟨rfl, ?_⟩
    exact ext_set4 (((((Ext.refl _).alloc _).alloc _).trans HX.out)) _ (by omega) _ _ _ _
  · rw [ticket_2 (by simpa using ‹(inE s 2 != 0) = false›)]
    refine bodyPost_ret (v := .tuple #[tv ⟨n, s.own, s.ser, s.ep⟩, .int .i64 0]) (by simp [results, Try.results17, go_sem, hc1, hf1]) rfl ⟨rfl, ?_⟩
    exact ext_set4 (((((Ext.refl _).alloc _).alloc _).trans HX.out)) _ (by omega) _ _ _ _
theorem rvalid_mk {s : Se} {t : Ti} {m : Int} (h : (¬ inE s 2 = 0 ∧ m = inE s 2) ∨ (inE s 2 = 0 ∧ (t.own = s.own ∧ t.ser = s.ser ∧ t.ep = s.ep) ∧ m = 0) ∨ (inE s 2 = 0 ∧ ¬ (t.own = s.own ∧ t.ser = s.ser ∧ t.ep = s.ep) ∧ m = 16)) : m = validE s t := by
  unfold validE
  unfold inE at h
  by_cases hg : good s
  · rw [if_neg (not_not_intro hg)] at *
    by_cases h2 : s.st = 2
    · rw [if_pos h2] at h; rw [if_neg (not_not_intro h2)]; split <;> omega
    · rw [if_neg h2] at h; rw [if_pos h2]; omega
  · rw [if_pos hg] at *; omega
set_option maxHeartbeats 400000 in
theorem rvalid_any (s : Se) (t : Ti) (w : World) : Calls Try.prog 38 #[sv s, tv t] w (RetE w (validE s t)) := by
  go_enter Try.func38, Try.ntmps38
  go_wp2_with fail
  (with_reducible refine (rin_any _ _ _).mono ?_)
  rintro e w1 ⟨rfl, hx1⟩
  have HX := hide hx1
  obtain ⟨hc1, hf1⟩ := ecell hx1
  clear hx1
  go_wp2_with fail
  all_goals
    clear hc1 hf1
    go_ret
    simp only [beq_iff_eq, beq_eq_false_iff_ne, bne_iff_ne, bne_eq_false_iff_eq, ne_eq] at *
    exact ⟨ret_int (rvalid_mk (by omega)), (((Ext.refl _).alloc _).alloc _).trans HX.out⟩
end Go.Proofs.Ytcmpkpldihnklaa
