/- Seats: walks of the program's Revoke, Hold, Expire. -/
import Derived.Test.YtcmpkpldihnklaaP2
import Derived.Test.YtcmpkpldihnklaaMono
import Derived.Outline
namespace Go.Proofs.Ytcmpkpldihnklaa
open Go.RowKit Go.Gr Go.Seat
set_option linter.unusedVariables false
set_option linter.unusedSimpArgs false
theorem revoke_1 {s : Se} (h : ¬ inE s 2 = 0) : revokeS s = (s, inE s 2) := by
  unfold revokeS; unfold inE at *
  by_cases hg : good s
  · rw [if_neg (not_not_intro hg)] at *
    by_cases h2 : s.st = 2
    · rw [if_pos h2] at h; exact absurd rfl h
    · rw [if_neg h2, if_pos h2, if_neg (not_not_intro hg)]
  · rw [if_pos hg, if_pos hg]
theorem revoke_2 {s : Se} (h : inE s 2 = 0) : revokeS s = if s.ep = most then (s, 17) else (⟨0, 0, 0, s.ser, s.ep + 1⟩, 0) := by
  unfold revokeS; unfold inE at *
  by_cases hg : good s
  · rw [if_neg (not_not_intro hg)] at *
    by_cases h2 : s.st = 2
    · rw [if_neg (not_not_intro h2)]
    · rw [if_neg h2] at h; cases h
  · rw [if_pos hg] at h; cases h
set_option maxHeartbeats 400000 in
theorem revoke_any (s : Se) (w : World) (hs : s.ok) : Calls Try.prog 14 #[sv s] w (RetS w (revokeS s)) := by
  have hep := hs.ep
  unfold most at hep
  clear hs
  go_enter Try.func14, Try.ntmps14
  go_wp2_with fail
  (with_reducible refine (state_any _ _ _).mono ?_)
  rintro e w1 ⟨rfl, hx1⟩
  have HX := hide hx1
  obtain ⟨hc1, hf1⟩ := ecell hx1
  have hz1 : w.heap.size < w1.heap.size := by have := hx1.size; simp at this; omega
  have hz2 : w.heap.size + 1 < w1.heap.size := by have := hx1.size; simp at this; omega
  clear hx1
  have c4 : w1.cell? ⟨w.heap.size, 4, none⟩ = some (.int .u64 s.ep) := by rw [hc1 _ _ (by simp; omega)]; go_simp
  go_wp2_with fail
  · rw [revoke_1 (by simpa using ‹(inE s 2 != 0) = true›)]
    refine bodyPost_ret (v := .tuple #[sv s, .int .i64 (inE s 2)]) (by simp [results, Try.results14, go_sem, hc1, hf1]) rfl ⟨rfl, ?_⟩
    exact ext_set5 (((((Ext.refl _).alloc _).alloc _).trans HX.out)) _ (by omega) _ _ _ _ _
  · rw [revoke_2 (by simpa using ‹(inE s 2 != 0) = false›), if_pos (by simpa [most] using ‹(s.ep == 18446744073709551615) = true›)]
    refine bodyPost_ret (v := .tuple #[sv s, .int .i64 17]) (by simp [results, Try.results14, go_sem, hc1, hf1]) rfl ⟨rfl, ?_⟩
    exact ext_set5 (((((Ext.refl _).alloc _).alloc _).trans HX.out)) _ (by omega) _ _ _ _ _
  · have hne : ¬ s.ep = 18446744073709551615 := by simpa using ‹(s.ep == 18446744073709551615) = false›
    have HV := hide (revoke_2 (by simpa using ‹(inE s 2 != 0) = false›))
    rw [wrap_u64 (by omega) (by omega)]
    (with_reducible refine (open_any ⟨s.st, s.own, s.dl, s.ser, s.ep + 1⟩ _).mono ?_)
    rintro e w2 ⟨rfl, hx2⟩
    have HX2 := hide hx2
    obtain ⟨hc2, hf2⟩ := ecell hx2
    have hz4 : w.heap.size + 1 < w2.heap.size := by have := hx2.size; simp at this; omega
    clear hx2
    obtain ⟨r, HR⟩ : ∃ r, Hid (openS ⟨s.st, s.own, s.dl, s.ser, s.ep + 1⟩ = r) := ⟨_, hide rfl⟩
    rw [HR.out]
    go_wp2_with fail
    refine bodyPost_ret (v := .tuple #[sv r, .int .i64 0]) (by simp [results, Try.results14, go_sem, hc1, hf1, hc2, hf2, hz1, hz2, hz4]) rfl ?_
    rw [HV.out, if_neg (by simpa [most] using hne), ← HR.out]
    exact ⟨rfl, ext_set5 ((ext_set ((((Ext.refl _).alloc _).alloc _).trans HX.out) _ _ (by simp)).trans HX2.out) _ (by omega) _ _ _ _ _⟩
end Go.Proofs.Ytcmpkpldihnklaa
