/- Seats: walks of the program's functions that return seats and tickets. -/
import Derived.Test.YtcmpkpldihnklaaP1
namespace Go.Proofs.Ytcmpkpldihnklaa
open Go.RowKit Go.Gr Go.Seat
set_option linter.unusedVariables false
set_option linter.unusedSimpArgs false
theorem ext_set {a b : World} (h : Ext a b) (p : Addr) (v : Value) (hp : a.heap.size ≤ p.block) : Ext a (b.setCell p v) := Below.setCell h hp v
set_option maxHeartbeats 400000 in
theorem open_any (s : Se) (w : World) : Calls Try.prog 29 #[sv s] w fun e w' => e = .returned (sv (openS s)) ∧ Ext w w' := by
  go_enter Try.func29, Try.ntmps29
  go_wp2_with fail
  refine bodyPost_ret (v := sv (openS s)) (by simp [results, Try.results29, go_sem, openS]) rfl ⟨rfl, ?_⟩
  exact ((Ext.refl _).alloc _).alloc _
theorem wrap_u64 {n : Int} (h0 : 0 ≤ n) (h1 : n ≤ 18446744073709551615) : IntKind.u64.wrap n = n := by
  have := @IntKind.wrap_u64 n; omega
theorem issue_1 {s : Se} {n : Int} (h : s.ser = 18446744073709551615) : issueS s n = (s, 17) := by unfold issueS most; rw [if_pos h]
theorem issue_2 {s : Se} {n : Int} (h : ¬ s.ser = 18446744073709551615) (hs : s.ok) : issueS s n = (⟨2, n, 0, IntKind.u64.wrap (s.ser + 1), s.ep⟩, 0) := by
  have := hs.ser
  unfold issueS; unfold most at *; rw [if_neg h, wrap_u64 (by omega) (by omega)]
set_option maxHeartbeats 400000 in
theorem issue_any (s : Se) (n : Int) (w : World) (hs : s.ok) : Calls Try.prog 28 #[sv s, .int .u32 n] w (RetS w (issueS s n)) := by
  have HS := hide hs
  clear hs
  go_enter Try.func28, Try.ntmps28
  go_wp2_with fail
  · have h : s.ser = 18446744073709551615 := by simpa using ‹(s.ser == 18446744073709551615) = true›
    rw [issue_1 h]
    exact bodyPost_ret (v := .tuple #[sv s, .int .i64 17]) (by simp [results, Try.results28, go_sem]) rfl ⟨rfl, ((Ext.refl _).alloc _).alloc _⟩
  · have h : ¬ s.ser = 18446744073709551615 := by simpa using ‹(s.ser == 18446744073709551615) = false›
    rw [issue_2 h HS.out]
    exact bodyPost_ret (v := .tuple #[sv ⟨2, n, 0, IntKind.u64.wrap (s.ser + 1), s.ep⟩, .int .i64 0]) (by simp [results, Try.results28, go_sem]) rfl ⟨rfl, ((Ext.refl _).alloc _).alloc _⟩
/-- what this call itself made is written -/
theorem ext_set4 {a b : World} (h : Ext a b) (g : Nat) (hp : a.heap.size ≤ g) (v0 v1 v2 v3 : Value) : Ext a ((((b.setCell ⟨g, 0, none⟩ v0).setCell ⟨g, 1, none⟩ v1).setCell ⟨g, 2, none⟩ v2).setCell ⟨g, 3, none⟩ v3) :=
  ext_set (ext_set (ext_set (ext_set h _ _ hp) _ _ hp) _ _ hp) _ _ hp
theorem ext_set5 {a b : World} (h : Ext a b) (g : Nat) (hp : a.heap.size ≤ g) (v0 v1 v2 v3 v4 : Value) : Ext a (((((b.setCell ⟨g, 0, none⟩ v0).setCell ⟨g, 1, none⟩ v1).setCell ⟨g, 2, none⟩ v2).setCell ⟨g, 3, none⟩ v3).setCell ⟨g, 4, none⟩ v4) :=
  ext_set (ext_set4 h g hp _ _ _ _) _ _ hp
theorem ticket_1 {s : Se} {n : Int} (h : ¬ inE s 2 = 0) : ticketS s n = (⟨0, 0, 0, 0⟩, inE s 2) := by
  unfold ticketS; unfold inE at *
  by_cases hg : good s
  · rw [if_neg (not_not_intro hg)] at *
    by_cases h2 : s.st = 2
    · rw [if_pos h2] at h; exact absurd rfl h
    · rw [if_neg h2, if_pos h2, if_neg (not_not_intro hg)]
  · rw [if_pos hg, if_pos hg]
theorem ticket_2 {s : Se} {n : Int} (h : inE s 2 = 0) : ticketS s n = (⟨n, s.own, s.ser, s.ep⟩, 0) := by
  unfold ticketS; unfold inE at *
  by_cases hg : good s
  · rw [if_neg (not_not_intro hg)] at *
    by_cases h2 : s.st = 2
    · rw [if_neg (not_not_intro h2)]
    · rw [if_neg h2] at h; cases h
  · rw [if_pos hg] at h; cases h
set_option maxHeartbeats 400000 in
theorem ticket_any (s : Se) (n : Int) (w : World) : Calls Try.prog 11 #[sv s, .int .u32 n] w (RetT w (ticketS s n)) := by
  go_enter Try.func11, Try.ntmps11
  go_wp2_with fail
  (with_reducible refine (state_any _ _ _).mono ?_)
  rintro e w1 ⟨rfl, hx1⟩
  have HX := hide hx1
  obtain ⟨hc1, hf1⟩ := ecell hx1
  have hz1 : w.heap.size + 2 ≤ w1.heap.size := by have := hx1.size; simp at this; omega
  clear hx1
  go_wp2_with fail
  · rw [ticket_1 (by simpa using ‹(inE s 2 != 0) = true›)]
    refine bodyPost_ret (v := .tuple #[tv ⟨0, 0, 0, 0⟩, .int .i64 (inE s 2)]) (by simp [results, Try.results11, go_sem, hc1, hf1]) rfl ⟨rfl, ?_⟩
    exact ext_set4 (((((Ext.refl _).alloc _).alloc _).trans HX.out)) _ (by omega) _ _ _ _
  · rw [ticket_2 (by simpa using ‹(inE s 2 != 0) = false›)]
    refine bodyPost_ret (v := .tuple #[tv ⟨n, s.own, s.ser, s.ep⟩, .int .i64 0]) (by simp [results, Try.results11, go_sem, hc1, hf1]) rfl ⟨rfl, ?_⟩
    exact ext_set4 (((((Ext.refl _).alloc _).alloc _).trans HX.out)) _ (by omega) _ _ _ _
theorem validE_mk {s : Se} {t : Ti} {m : Int} (h : (¬ (ticketS s t.seat).2 = 0 ∧ m = (ticketS s t.seat).2) ∨ ((ticketS s t.seat).2 = 0 ∧ ((ticketS s t.seat).1.seat = t.seat ∧ (ticketS s t.seat).1.own = t.own ∧ (ticketS s t.seat).1.ser = t.ser ∧ (ticketS s t.seat).1.ep = t.ep) ∧ m = 0) ∨ ((ticketS s t.seat).2 = 0 ∧ ¬ ((ticketS s t.seat).1.seat = t.seat ∧ (ticketS s t.seat).1.own = t.own ∧ (ticketS s t.seat).1.ser = t.ser ∧ (ticketS s t.seat).1.ep = t.ep) ∧ m = 16)) : m = validE s t := by
  unfold validE
  by_cases hg : good s
  · rw [if_neg (not_not_intro hg)]
    by_cases h2 : s.st = 2
    · rw [if_neg (not_not_intro h2)]
      rw [ticket_2 (by unfold inE; rw [if_neg (not_not_intro hg), if_pos h2])] at h
      dsimp only at h
      split <;> omega
    · have e : ticketS s t.seat = (⟨0, 0, 0, 0⟩, 15) := by unfold ticketS; rw [if_neg (not_not_intro hg), if_pos h2]
      rw [e] at h; rw [if_pos h2]; dsimp only at h; omega
  · have e : ticketS s t.seat = (⟨0, 0, 0, 0⟩, 6) := by unfold ticketS; rw [if_pos hg]
    rw [e] at h; rw [if_pos hg]; dsimp only at h; omega
set_option maxHeartbeats 400000 in
theorem valid_any (s : Se) (t : Ti) (w : World) : Calls Try.prog 22 #[sv s, tv t] w (RetE w (validE s t)) := by
  go_enter Try.func22, Try.ntmps22
  go_wp2_with fail
  (with_reducible refine (ticket_any _ _ _).mono ?_)
  rintro e w1 ⟨rfl, hx1⟩
  have HX := hide hx1
  obtain ⟨hc1, hf1⟩ := ecell hx1
  have hz1 : w.heap.size + 2 ≤ w1.heap.size := by have := hx1.size; simp at this; omega
  clear hx1
  have hz2 : w.heap.size < w1.heap.size := by omega
  have hz3 : w.heap.size + 1 < w1.heap.size := by omega
  have HR : ∃ r, Hid (ticketS s t.seat = r) := ⟨_, hide rfl⟩
  obtain ⟨r, HR⟩ := HR
  rw [HR.out]
  go_wp2_with fail
  all_goals
    clear hc1 hf1
    go_ret
    simp only [bne_iff_ne, bne_eq_false_iff_eq, ne_eq] at *
    exact ⟨ret_int (validE_mk (by rw [HR.out]; omega)), by first | exact ((((Ext.refl _).alloc _).alloc _).trans HX.out) | exact (((((Ext.refl _).alloc _).alloc _).trans HX.out).alloc _)⟩
theorem transfer_1 {s : Se} {t : Ti} {o : Int} (h : ¬ validE s t = 0) : transferS s t o = (s, validE s t) := by unfold transferS; rw [if_pos h]
theorem transfer_2 {s : Se} {t : Ti} {o : Int} (h : validE s t = 0) : transferS s t o = issueS s o := by unfold transferS; rw [if_neg (not_not_intro h)]
theorem refund_1 {s : Se} {t : Ti} (h : ¬ validE s t = 0) : refundS s t = (s, validE s t) := by unfold refundS; rw [if_pos h]
theorem refund_2 {s : Se} {t : Ti} (h : validE s t = 0) : refundS s t = (openS s, 0) := by unfold refundS; rw [if_neg (not_not_intro h)]
theorem buy_1 {s : Se} {o : Int} (h : ¬ mineE s o = 0) : buyS s o = (s, mineE s o) := by unfold buyS; rw [if_pos h]
theorem buy_2 {s : Se} {o : Int} (h : mineE s o = 0) : buyS s o = issueS s o := by unfold buyS; rw [if_neg (not_not_intro h)]
theorem release_1 {s : Se} {o : Int} (h : ¬ mineE s o = 0) : releaseS s o = (s, mineE s o) := by unfold releaseS; rw [if_pos h]
theorem release_2 {s : Se} {o : Int} (h : mineE s o = 0) : releaseS s o = (openS s, 0) := by unfold releaseS; rw [if_neg (not_not_intro h)]
set_option maxHeartbeats 400000 in
theorem transfer_any (s : Se) (t : Ti) (o : Int) (w : World) (hs : s.ok) : Calls Try.prog 13 #[sv s, tv t, .int .u32 o] w (RetS w (transferS s t o)) := by
  have HS := hide hs
  clear hs
  go_enter Try.func13, Try.ntmps13
  go_wp2_with fail
  (with_reducible refine (valid_any _ _ _).mono ?_)
  rintro e w1 ⟨rfl, hx1⟩
  have HX := hide hx1
  obtain ⟨hc1, hf1⟩ := ecell hx1
  have hz1 : w.heap.size < w1.heap.size := by have := hx1.size; simp at this; omega
  have hz2 : w.heap.size + 1 < w1.heap.size := by have := hx1.size; simp at this; omega
  have hz3 : w.heap.size + 2 < w1.heap.size := by have := hx1.size; simp at this; omega
  clear hx1
  go_wp2_with fail
  · rw [transfer_1 (by simpa using ‹(validE s t != 0) = true›)]
    refine bodyPost_ret (v := .tuple #[sv s, .int .i64 (validE s t)]) (by simp [results, Try.results13, go_sem, hc1, hf1]) rfl ⟨rfl, ?_⟩
    exact ext_set5 ((((((Ext.refl _).alloc _).alloc _).alloc _).trans HX.out)) _ (by omega) _ _ _ _ _
  · have HV := hide (transfer_2 (o := o) (by simpa using ‹(validE s t != 0) = false›))
    (with_reducible refine (issue_any _ _ _ HS.out).mono ?_)
    rintro e w2 ⟨rfl, hx2⟩
    have HX2 := hide hx2
    obtain ⟨hc2, hf2⟩ := ecell hx2
    have hz4 : w.heap.size + 2 < w2.heap.size := by have := hx2.size; omega
    clear hx2
    obtain ⟨r, HR⟩ : ∃ r, Hid (issueS s o = r) := ⟨_, hide rfl⟩
    rw [HR.out]
    go_wp2_with fail
    refine bodyPost_ret (v := .tuple #[sv r.1, .int .i64 r.2]) (by simp [results, Try.results13, go_sem, hc1, hf1, hc2, hf2, hz1, hz2, hz3, hz4]) rfl ?_
    rw [HV.out, HR.out]
    exact ⟨rfl, ext_set5 ((((((Ext.refl _).alloc _).alloc _).alloc _).trans HX.out).trans HX2.out) _ (by omega) _ _ _ _ _⟩
set_option maxHeartbeats 400000 in
theorem refund_any (s : Se) (t : Ti) (w : World) : Calls Try.prog 30 #[sv s, tv t] w (RetS w (refundS s t)) := by
  go_enter Try.func30, Try.ntmps30
  go_wp2_with fail
  (with_reducible refine (valid_any _ _ _).mono ?_)
  rintro e w1 ⟨rfl, hx1⟩
  have HX := hide hx1
  obtain ⟨hc1, hf1⟩ := ecell hx1
  have hz1 : w.heap.size < w1.heap.size := by have := hx1.size; simp at this; omega
  have hz2 : w.heap.size + 1 < w1.heap.size := by have := hx1.size; simp at this; omega
  have hz3 : w.heap.size + 2 < w1.heap.size := by have := hx1.size; simp at this; omega
  clear hx1
  go_wp2_with fail
  · rw [refund_1 (by simpa using ‹(validE s t != 0) = true›)]
    refine bodyPost_ret (v := .tuple #[sv s, .int .i64 (validE s t)]) (by simp [results, Try.results30, go_sem, hc1, hf1]) rfl ⟨rfl, ?_⟩
    exact ext_set5 ((((((Ext.refl _).alloc _).alloc _).alloc _).trans HX.out)) _ (by omega) _ _ _ _ _
  · have HV := hide (refund_2 (by simpa using ‹(validE s t != 0) = false›))
    (with_reducible refine (open_any _ _).mono ?_)
    rintro e w2 ⟨rfl, hx2⟩
    have HX2 := hide hx2
    obtain ⟨hc2, hf2⟩ := ecell hx2
    have hz4 : w.heap.size + 2 < w2.heap.size := by have := hx2.size; omega
    clear hx2
    obtain ⟨r, HR⟩ : ∃ r, Hid (openS s = r) := ⟨_, hide rfl⟩
    rw [HR.out]
    go_wp2_with fail
    refine bodyPost_ret (v := .tuple #[sv r, .int .i64 0]) (by simp [results, Try.results30, go_sem, hc1, hf1, hc2, hf2, hz1, hz2, hz3, hz4]) rfl ?_
    rw [HV.out, HR.out]
    exact ⟨rfl, ext_set5 ((((((Ext.refl _).alloc _).alloc _).alloc _).trans HX.out).trans HX2.out) _ (by omega) _ _ _ _ _⟩
set_option maxHeartbeats 400000 in
theorem buy_any (s : Se) (o : Int) (w : World) (hs : s.ok) : Calls Try.prog 12 #[sv s, .int .u32 o] w (RetS w (buyS s o)) := by
  have HS := hide hs
  clear hs
  go_enter Try.func12, Try.ntmps12
  go_wp2_with fail
  (with_reducible refine (mine_any _ _ _).mono ?_)
  rintro e w1 ⟨rfl, hx1⟩
  have HX := hide hx1
  obtain ⟨hc1, hf1⟩ := ecell hx1
  have hz1 : w.heap.size < w1.heap.size := by have := hx1.size; simp at this; omega
  have hz2 : w.heap.size + 1 < w1.heap.size := by have := hx1.size; simp at this; omega
  clear hx1
  go_wp2_with fail
  · rw [buy_1 (by simpa using ‹(mineE s o != 0) = true›)]
    refine bodyPost_ret (v := .tuple #[sv s, .int .i64 (mineE s o)]) (by simp [results, Try.results12, go_sem, hc1, hf1]) rfl ⟨rfl, ?_⟩
    exact ext_set5 (((((Ext.refl _).alloc _).alloc _).trans HX.out)) _ (by omega) _ _ _ _ _
  · have HV := hide (buy_2 (by simpa using ‹(mineE s o != 0) = false›))
    (with_reducible refine (issue_any _ _ _ HS.out).mono ?_)
    rintro e w2 ⟨rfl, hx2⟩
    have HX2 := hide hx2
    obtain ⟨hc2, hf2⟩ := ecell hx2
    have hz4 : w.heap.size + 1 < w2.heap.size := by have := hx2.size; omega
    clear hx2
    obtain ⟨r, HR⟩ : ∃ r, Hid (issueS s o = r) := ⟨_, hide rfl⟩
    rw [HR.out]
    go_wp2_with fail
    refine bodyPost_ret (v := .tuple #[sv r.1, .int .i64 r.2]) (by simp [results, Try.results12, go_sem, hc1, hf1, hc2, hf2, hz1, hz2, hz4]) rfl ?_
    rw [HV.out, HR.out]
    exact ⟨rfl, ext_set5 (((((Ext.refl _).alloc _).alloc _).trans HX.out).trans HX2.out) _ (by omega) _ _ _ _ _⟩
set_option maxHeartbeats 400000 in
theorem release_any (s : Se) (o : Int) (w : World) : Calls Try.prog 24 #[sv s, .int .u32 o] w (RetS w (releaseS s o)) := by
  go_enter Try.func24, Try.ntmps24
  go_wp2_with fail
  (with_reducible refine (mine_any _ _ _).mono ?_)
  rintro e w1 ⟨rfl, hx1⟩
  have HX := hide hx1
  obtain ⟨hc1, hf1⟩ := ecell hx1
  have hz1 : w.heap.size < w1.heap.size := by have := hx1.size; simp at this; omega
  have hz2 : w.heap.size + 1 < w1.heap.size := by have := hx1.size; simp at this; omega
  clear hx1
  go_wp2_with fail
  · rw [release_1 (by simpa using ‹(mineE s o != 0) = true›)]
    refine bodyPost_ret (v := .tuple #[sv s, .int .i64 (mineE s o)]) (by simp [results, Try.results24, go_sem, hc1, hf1]) rfl ⟨rfl, ?_⟩
    exact ext_set5 (((((Ext.refl _).alloc _).alloc _).trans HX.out)) _ (by omega) _ _ _ _ _
  · have HV := hide (release_2 (by simpa using ‹(mineE s o != 0) = false›))
    (with_reducible refine (open_any _ _).mono ?_)
    rintro e w2 ⟨rfl, hx2⟩
    have HX2 := hide hx2
    obtain ⟨hc2, hf2⟩ := ecell hx2
    have hz4 : w.heap.size + 1 < w2.heap.size := by have := hx2.size; omega
    clear hx2
    obtain ⟨r, HR⟩ : ∃ r, Hid (openS s = r) := ⟨_, hide rfl⟩
    rw [HR.out]
    go_wp2_with fail
    refine bodyPost_ret (v := .tuple #[sv r, .int .i64 0]) (by simp [results, Try.results24, go_sem, hc1, hf1, hc2, hf2, hz1, hz2, hz4]) rfl ?_
    rw [HV.out, HR.out]
    exact ⟨rfl, ext_set5 (((((Ext.refl _).alloc _).alloc _).trans HX.out).trans HX2.out) _ (by omega) _ _ _ _ _⟩
end Go.Proofs.Ytcmpkpldihnklaa
