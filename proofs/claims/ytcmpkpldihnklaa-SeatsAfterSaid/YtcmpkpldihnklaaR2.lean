/- Seats: walks of the reference's functions that return seats. -/
import Derived.Test.YtcmpkpldihnklaaR1
import Derived.Test.YtcmpkpldihnklaaM2

namespace Go.Proofs.Ytcmpkpldihnklaa
open Go.RowKit Go.Gr Go.Seat
set_option linter.unusedVariables false
set_option linter.unusedSimpArgs false
abbrev z5 : List Value := sc ⟨0, 0, 0, 0, 0⟩
theorem sep2 (w : World) (e1 e2 : TypeId) (c1 c2 : List Value) : Sep No w ((w.alloc (.cells c1.toArray e1)).alloc (.cells c2.toArray e2)) [As.blk (w.heap.size + 1) e2 c2, As.blk w.heap.size e1 c1] := by
  have H1 := (Sep.refl No w).newB ((Ext.refl w).alloc (.cells c1.toArray e1)) (Blk.new w e1 c1) (Nat.le_refl _)
  have H2 := H1.newB ((Ext.refl _).alloc (.cells c2.toArray e2)) (Blk.new _ e2 c2) (Nat.le_refl _)
  rwa [show (w.alloc (.cells c1.toArray e1)).heap.size = w.heap.size + 1 by simp] at H2
theorem sep3 (w : World) (e1 e2 e3 : TypeId) (c1 c2 c3 : List Value) : Sep No w (((w.alloc (.cells c1.toArray e1)).alloc (.cells c2.toArray e2)).alloc (.cells c3.toArray e3)) [As.blk (w.heap.size + 2) e3 c3, As.blk (w.heap.size + 1) e2 c2, As.blk w.heap.size e1 c1] := by
  have H3 := (sep2 w e1 e2 c1 c2).newB ((Ext.refl _).alloc (.cells c3.toArray e3)) (Blk.new _ e3 c3) (Nat.le_refl _)
  rwa [show ((w.alloc (.cells c1.toArray e1)).alloc (.cells c2.toArray e2)).heap.size = w.heap.size + 2 by simp] at H3
theorem chkg {s : Se} (h : good s) : chk s = 0 := chk_0.2 h
theorem chkb {s : Se} (h : ¬ good s) : chk s = 6 := chk_6 (fun h' => h (chk_0.1 h'))
theorem rfree_flat (s : Se) (w : World) : Calls Try.prog 44 #[sv s] w fun e w' => e = .returned (.agg #[.int .i64 0, .int .u32 0, .int .i64 0, .int .u64 s.ser, .int .u64 s.ep]) ∧ Ext w w' := rfree_any s w
set_option maxHeartbeats 400000 in
theorem both_any (a b : Int) (w : World) : Calls Try.prog 47 #[.int .i64 a, .int .i64 b] w fun e w' => e = .returned (.int .i64 (passE a b).2) ∧ w = w' := by
  have e1 : (passE a b).2 = if a < 0 ∨ b < 0 then 7 else 0 := by unfold passE; split <;> rfl
  rw [e1]
  clear e1
  by_cases ha : a < 0
  · rw [if_pos (.inl ha)]
    go_enter Try.func47, Try.ntmps47
    go_wp2_with fail
    go_ret
    exact ⟨rfl, rfl⟩
  · have ha' : decide (a < 0) = false := by simpa using ha
    by_cases hb : b < 0
    · rw [if_pos (.inr hb)]
      go_enter Try.func47, Try.ntmps47
      go_wp2_with fail
      go_ret
      exact ⟨rfl, rfl⟩
    · rw [if_neg (by omega)]
      have hb' : decide (b < 0) = false := by simpa using hb
      go_enter Try.func47, Try.ntmps47
      go_wp2_with fail
      go_ret
      exact ⟨rfl, rfl⟩
set_option maxHeartbeats 400000 in
theorem rpassed_any (a b : Int) (w : World) : Calls Try.prog 45 #[.int .i64 a, .int .i64 b] w fun e w' => e = .returned (.tuple #[.bool (passE a b).1, .int .i64 (passE a b).2]) ∧ w = w' := by
  by_cases h : a < 0 ∨ b < 0
  · have e1 : passE a b = (false, 7) := by unfold passE; rw [if_pos h]
    have hb := both_any a b w
    rw [e1] at *
    have HB := hide hb
    clear h e1 hb
    go_enter Try.func45, Try.ntmps45
    go_wp2_with fail
    (with_reducible refine HB.out.mono ?_)
    rintro e w1 ⟨rfl, rfl⟩
    go_wp2_with fail
    go_ret2
    exact ⟨rfl, rfl⟩
  · have e1 : passE a b = (decide (a ≤ b), 0) := by unfold passE; rw [if_neg h]
    have hb := both_any a b w
    rw [e1] at *
    have HB := hide hb
    clear h e1 hb
    go_enter Try.func45, Try.ntmps45
    go_wp2_with fail
    (with_reducible refine HB.out.mono ?_)
    rintro e w1 ⟨rfl, rfl⟩
    go_wp2_with fail
    go_ret2
    exact ⟨rfl, rfl⟩
set_option maxHeartbeats 1000000 in
theorem rrelease_any (s : Se) (o : Int) (w : World) : Calls Try.prog 32 #[sv s, .int .u32 o] w (RetS w (releaseS s o)) := by
  by_cases h : mineE s o = 0
  · have E := hide (release_2 h)
    have EM := hide h
    clear h
    go_enter Try.func32, Try.ntmps32
    go_wp2_with fail
    (with_reducible refine (rmine_any _ _ _).mono ?_)
    rintro e w1 ⟨rfl, hx1⟩
    have H1 := (sep2 w 26 26 (sc s) (z5)).ext hx1
    clear hx1
    rw [EM.out]
    obtain ⟨b00, b01, b02, b03, b04, bf0, bs0⟩ := cells5 (H1.blk (.tail _ (.head _)))
    obtain ⟨b10, b11, b12, b13, b14, bf1, bs1⟩ := cells5 (H1.blk (.head _))
    have K1 := hide H1
    clear H1
    go_wp2_with fail
    (with_reducible refine (rfree_any _ _).mono ?_)
    rintro e w2 ⟨rfl, hx2⟩
    have H2 := K1.out.ext hx2
    clear b00 b01 b02 b03 b04 bf0 bs0 b10 b11 b12 b13 b14 bf1 bs1
    clear hx2
    obtain ⟨b00, b01, b02, b03, b04, bf0, bs0⟩ := cells5 (H2.blk (.tail _ (.head _)))
    obtain ⟨b10, b11, b12, b13, b14, bf1, bs1⟩ := cells5 (H2.blk (.head _))
    have K2 := hide H2
    clear H2
    go_wp2_with fail
    refine bodyPost_ret (v := .tuple #[sv (openS s), .int .i64 0]) (by simp [results, Try.results32, go_sem, b00, b01, b02, b03, b04, bf0, bs0, b10, b11, b12, b13, b14, bf1, bs1]) rfl ?_
    rw [E.out]
    refine ⟨rfl, ?_⟩
    repeat (first | with_reducible exact K2.out.toExt | refine ext_set ?_ _ _ (by first | exact Nat.le_refl _ | exact Nat.le_add_right _ _ | (dsimp only; omega)))
  · have E := hide (release_1 h)
    have h1 : (mineE s o != 0) = true := by simpa using h
    clear h
    go_enter Try.func32, Try.ntmps32
    go_wp2_with fail
    (with_reducible refine (rmine_any _ _ _).mono ?_)
    rintro e w1 ⟨rfl, hx1⟩
    have H1 := (sep2 w 26 26 (sc s) (z5)).ext hx1
    clear hx1
    obtain ⟨b00, b01, b02, b03, b04, bf0, bs0⟩ := cells5 (H1.blk (.tail _ (.head _)))
    obtain ⟨b10, b11, b12, b13, b14, bf1, bs1⟩ := cells5 (H1.blk (.head _))
    have K1 := hide H1
    clear H1
    go_wp2_with fail
    refine bodyPost_ret (v := .tuple #[sv s, .int .i64 (mineE s o)]) (by simp [results, Try.results32, go_sem, b00, b01, b02, b03, b04, bf0, bs0, b10, b11, b12, b13, b14, bf1, bs1]) rfl ?_
    rw [E.out]
    refine ⟨rfl, ?_⟩
    repeat (first | with_reducible exact K1.out.toExt | refine ext_set ?_ _ _ (by first | exact Nat.le_refl _ | exact Nat.le_add_right _ _ | (dsimp only; omega)))
set_option maxHeartbeats 1000000 in
theorem rrefund_any (s : Se) (t : Ti) (w : World) : Calls Try.prog 36 #[sv s, tv t] w (RetS w (refundS s t)) := by
  by_cases h : validE s t = 0
  · have E := hide (refund_2 h)
    have EM := hide h
    clear h
    go_enter Try.func36, Try.ntmps36
    go_wp2_with fail
    (with_reducible refine (rvalid_any _ _ _).mono ?_)
    rintro e w1 ⟨rfl, hx1⟩
    have H1 := (sep3 w 26 28 26 (sc s) (tc t) (z5)).ext hx1
    clear hx1
    rw [EM.out]
    obtain ⟨b00, b01, b02, b03, b04, bf0, bs0⟩ := cells5 (H1.blk (.tail _ (.tail _ (.head _))))
    obtain ⟨b10, b11, b12, b13, bf1, bs1⟩ := cells4 (H1.blk (.tail _ (.head _)))
    obtain ⟨b20, b21, b22, b23, b24, bf2, bs2⟩ := cells5 (H1.blk (.head _))
    have K1 := hide H1
    clear H1
    go_wp2_with fail
    (with_reducible refine (rfree_any _ _).mono ?_)
    rintro e w2 ⟨rfl, hx2⟩
    have H2 := K1.out.ext hx2
    clear b00 b01 b02 b03 b04 bf0 bs0 b10 b11 b12 b13 bf1 bs1 b20 b21 b22 b23 b24 bf2 bs2
    clear hx2
    obtain ⟨b00, b01, b02, b03, b04, bf0, bs0⟩ := cells5 (H2.blk (.tail _ (.tail _ (.head _))))
    obtain ⟨b10, b11, b12, b13, bf1, bs1⟩ := cells4 (H2.blk (.tail _ (.head _)))
    obtain ⟨b20, b21, b22, b23, b24, bf2, bs2⟩ := cells5 (H2.blk (.head _))
    have K2 := hide H2
    clear H2
    go_wp2_with fail
    refine bodyPost_ret (v := .tuple #[sv (openS s), .int .i64 0]) (by simp [results, Try.results36, go_sem, b00, b01, b02, b03, b04, bf0, bs0, b10, b11, b12, b13, bf1, bs1, b20, b21, b22, b23, b24, bf2, bs2]) rfl ?_
    rw [E.out]
    refine ⟨rfl, ?_⟩
    repeat (first | with_reducible exact K2.out.toExt | refine ext_set ?_ _ _ (by first | exact Nat.le_refl _ | exact Nat.le_add_right _ _ | (dsimp only; omega)))
  · have E := hide (refund_1 h)
    have h1 : (validE s t != 0) = true := by simpa using h
    clear h
    go_enter Try.func36, Try.ntmps36
    go_wp2_with fail
    (with_reducible refine (rvalid_any _ _ _).mono ?_)
    rintro e w1 ⟨rfl, hx1⟩
    have H1 := (sep3 w 26 28 26 (sc s) (tc t) (z5)).ext hx1
    clear hx1
    obtain ⟨b00, b01, b02, b03, b04, bf0, bs0⟩ := cells5 (H1.blk (.tail _ (.tail _ (.head _))))
    obtain ⟨b10, b11, b12, b13, bf1, bs1⟩ := cells4 (H1.blk (.tail _ (.head _)))
    obtain ⟨b20, b21, b22, b23, b24, bf2, bs2⟩ := cells5 (H1.blk (.head _))
    have K1 := hide H1
    clear H1
    go_wp2_with fail
    refine bodyPost_ret (v := .tuple #[sv s, .int .i64 (validE s t)]) (by simp [results, Try.results36, go_sem, b00, b01, b02, b03, b04, bf0, bs0, b10, b11, b12, b13, bf1, bs1, b20, b21, b22, b23, b24, bf2, bs2]) rfl ?_
    rw [E.out]
    refine ⟨rfl, ?_⟩
    repeat (first | with_reducible exact K1.out.toExt | refine ext_set ?_ _ _ (by first | exact Nat.le_refl _ | exact Nat.le_add_right _ _ | (dsimp only; omega)))
set_option maxHeartbeats 1000000 in
theorem rbuy_any (s : Se) (o : Int) (w : World) (hs : s.ok) : Calls Try.prog 34 #[sv s, .int .u32 o] w (RetS w (buyS s o)) := by
  have hser := hs.ser
  unfold most at hser
  by_cases h : mineE s o = 0
  · have hI := hs
    have hg : good s := by exact (mine_0 s o h).1
    by_cases hm : s.ser = 18446744073709551615
    · have E : buyS s o = (s, 17) := by rw [buy_2 h, issue_1 hm]
      have EE := hide E
      have EM := hide h
      have h2 : (s.ser == 18446744073709551615) = true := by simpa using hm
      clear h hm E hg hI hs
      go_enter Try.func34, Try.ntmps34
      go_wp2_with fail
      (with_reducible refine (rmine_any _ _ _).mono ?_)
      rintro e w1 ⟨rfl, hx1⟩
      have H1 := (sep2 w 26 26 (sc s) (z5)).ext hx1
      clear hx1
      rw [EM.out]
      obtain ⟨b00, b01, b02, b03, b04, bf0, bs0⟩ := cells5 (H1.blk (.tail _ (.head _)))
      obtain ⟨b10, b11, b12, b13, b14, bf1, bs1⟩ := cells5 (H1.blk (.head _))
      have K1 := hide H1
      clear H1
      go_wp2_with fail
      refine bodyPost_ret (v := .tuple #[sv s, .int .i64 17]) (by simp [results, Try.results34, go_sem, b00, b01, b02, b03, b04, bf0, bs0, b10, b11, b12, b13, b14, bf1, bs1]) rfl ?_
      rw [EE.out]
      refine ⟨rfl, ?_⟩
      repeat (first | with_reducible exact K1.out.toExt | refine ext_set ?_ _ _ (by first | exact Nat.le_refl _ | exact Nat.le_add_right _ _ | (dsimp only; omega)))
    · have E : buyS s o = (⟨2, o, 0, IntKind.u64.wrap (s.ser + 1), s.ep⟩, 0) := by rw [buy_2 h, issue_2 hm hs]
      have EE := hide E
      have EM := hide h
      have h2 : (s.ser == 18446744073709551615) = false := by simpa using hm
      have hsm : s.ser < 18446744073709551615 := by omega
      have EW : Hid (IntKind.u64.wrap (s.ser + 1) = s.ser + 1) := hide (wrap_u64 (by omega) (by omega))
      clear h hm E hg hI hs
      go_enter Try.func34, Try.ntmps34
      go_wp2_with fail
      (with_reducible refine (rmine_any _ _ _).mono ?_)
      rintro e w1 ⟨rfl, hx1⟩
      have H1 := (sep2 w 26 26 (sc s) (z5)).ext hx1
      clear hx1
      rw [EM.out]
      obtain ⟨b00, b01, b02, b03, b04, bf0, bs0⟩ := cells5 (H1.blk (.tail _ (.head _)))
      obtain ⟨b10, b11, b12, b13, b14, bf1, bs1⟩ := cells5 (H1.blk (.head _))
      have K1 := hide H1
      clear H1
      go_wp2_with fail
      refine bodyPost_ret (v := .tuple #[sv ⟨2, o, 0, s.ser + 1, s.ep⟩, .int .i64 0]) (by simp [results, Try.results34, go_sem, b00, b01, b02, b03, b04, bf0, bs0, b10, b11, b12, b13, b14, bf1, bs1]) rfl ?_
      rw [EE.out, EW.out]
      refine ⟨rfl, ?_⟩
      repeat (first | with_reducible exact K1.out.toExt | refine ext_set ?_ _ _ (by first | exact Nat.le_refl _ | exact Nat.le_add_right _ _ | (dsimp only; omega)))
  · have E := hide (buy_1 (o := o) h)
    have h1 : (mineE s o != 0) = true := by simpa using h
    have h2 : (mineE s o == 0) = false := by simpa using h
    clear h hs
    go_enter Try.func34, Try.ntmps34
    go_wp2_with fail
    (with_reducible refine (rmine_any _ _ _).mono ?_)
    rintro e w1 ⟨rfl, hx1⟩
    have H1 := (sep2 w 26 26 (sc s) (z5)).ext hx1
    clear hx1
    obtain ⟨b00, b01, b02, b03, b04, bf0, bs0⟩ := cells5 (H1.blk (.tail _ (.head _)))
    obtain ⟨b10, b11, b12, b13, b14, bf1, bs1⟩ := cells5 (H1.blk (.head _))
    have K1 := hide H1
    clear H1
    go_wp2_with fail
    refine bodyPost_ret (v := .tuple #[sv s, .int .i64 (mineE s o)]) (by simp [results, Try.results34, go_sem, b00, b01, b02, b03, b04, bf0, bs0, b10, b11, b12, b13, b14, bf1, bs1]) rfl ?_
    rw [E.out]
    refine ⟨rfl, ?_⟩
    repeat (first | with_reducible exact K1.out.toExt | refine ext_set ?_ _ _ (by first | exact Nat.le_refl _ | exact Nat.le_add_right _ _ | (dsimp only; omega)))
set_option maxHeartbeats 1000000 in
theorem rtransfer_any (s : Se) (t : Ti) (o : Int) (w : World) (hs : s.ok) : Calls Try.prog 35 #[sv s, tv t, .int .u32 o] w (RetS w (transferS s t o)) := by
  have hser := hs.ser
  unfold most at hser
  by_cases h : validE s t = 0
  · have hI := hs
    have hg : good s := by exact ((valid_0 s t).1 h).1
    by_cases hm : s.ser = 18446744073709551615
    · have E : transferS s t o = (s, 17) := by rw [transfer_2 h, issue_1 hm]
      have EE := hide E
      have EM := hide h
      have h2 : (s.ser == 18446744073709551615) = true := by simpa using hm
      clear h hm E hg hI hs
      go_enter Try.func35, Try.ntmps35
      go_wp2_with fail
      (with_reducible refine (rvalid_any _ _ _).mono ?_)
      rintro e w1 ⟨rfl, hx1⟩
      have H1 := (sep3 w 26 28 26 (sc s) (tc t) (z5)).ext hx1
      clear hx1
      rw [EM.out]
      obtain ⟨b00, b01, b02, b03, b04, bf0, bs0⟩ := cells5 (H1.blk (.tail _ (.tail _ (.head _))))
      obtain ⟨b10, b11, b12, b13, bf1, bs1⟩ := cells4 (H1.blk (.tail _ (.head _)))
      obtain ⟨b20, b21, b22, b23, b24, bf2, bs2⟩ := cells5 (H1.blk (.head _))
      have K1 := hide H1
      clear H1
      go_wp2_with fail
      refine bodyPost_ret (v := .tuple #[sv s, .int .i64 17]) (by simp [results, Try.results35, go_sem, b00, b01, b02, b03, b04, bf0, bs0, b10, b11, b12, b13, bf1, bs1, b20, b21, b22, b23, b24, bf2, bs2]) rfl ?_
      rw [EE.out]
      refine ⟨rfl, ?_⟩
      repeat (first | with_reducible exact K1.out.toExt | refine ext_set ?_ _ _ (by first | exact Nat.le_refl _ | exact Nat.le_add_right _ _ | (dsimp only; omega)))
    · have E : transferS s t o = (⟨2, o, 0, IntKind.u64.wrap (s.ser + 1), s.ep⟩, 0) := by rw [transfer_2 h, issue_2 hm hs]
      have EE := hide E
      have EM := hide h
      have h2 : (s.ser == 18446744073709551615) = false := by simpa using hm
      have h3 : s.st = 2 ∧ s.dl = 0 := by have := (valid_0 s t).1 h; unfold good at hg; omega
      have E3 : (⟨2, o, 0, IntKind.u64.wrap (s.ser + 1), s.ep⟩ : Se) = ⟨s.st, o, s.dl, IntKind.u64.wrap (s.ser + 1), s.ep⟩ := by rw [h3.1, h3.2]
      have EE3 := hide E3
      clear h3 E3
      have hsm : s.ser < 18446744073709551615 := by omega
      have EW : Hid (IntKind.u64.wrap (s.ser + 1) = s.ser + 1) := hide (wrap_u64 (by omega) (by omega))
      clear h hm E hg hI hs
      go_enter Try.func35, Try.ntmps35
      go_wp2_with fail
      (with_reducible refine (rvalid_any _ _ _).mono ?_)
      rintro e w1 ⟨rfl, hx1⟩
      have H1 := (sep3 w 26 28 26 (sc s) (tc t) (z5)).ext hx1
      clear hx1
      rw [EM.out]
      obtain ⟨b00, b01, b02, b03, b04, bf0, bs0⟩ := cells5 (H1.blk (.tail _ (.tail _ (.head _))))
      obtain ⟨b10, b11, b12, b13, bf1, bs1⟩ := cells4 (H1.blk (.tail _ (.head _)))
      obtain ⟨b20, b21, b22, b23, b24, bf2, bs2⟩ := cells5 (H1.blk (.head _))
      have K1 := hide H1
      clear H1
      go_wp2_with fail
      refine bodyPost_ret (v := .tuple #[sv ⟨s.st, o, s.dl, s.ser + 1, s.ep⟩, .int .i64 0]) (by simp [results, Try.results35, go_sem, b00, b01, b02, b03, b04, bf0, bs0, b10, b11, b12, b13, bf1, bs1, b20, b21, b22, b23, b24, bf2, bs2]) rfl ?_
      rw [EE.out, EE3.out, EW.out]
      refine ⟨rfl, ?_⟩
      repeat (first | with_reducible exact K1.out.toExt | refine ext_set ?_ _ _ (by first | exact Nat.le_refl _ | exact Nat.le_add_right _ _ | (dsimp only; omega)))
  · have E := hide (transfer_1 (o := o) h)
    have h1 : (validE s t != 0) = true := by simpa using h
    have h2 : (validE s t == 0) = false := by simpa using h
    clear h hs
    go_enter Try.func35, Try.ntmps35
    go_wp2_with fail
    (with_reducible refine (rvalid_any _ _ _).mono ?_)
    rintro e w1 ⟨rfl, hx1⟩
    have H1 := (sep3 w 26 28 26 (sc s) (tc t) (z5)).ext hx1
    clear hx1
    obtain ⟨b00, b01, b02, b03, b04, bf0, bs0⟩ := cells5 (H1.blk (.tail _ (.tail _ (.head _))))
    obtain ⟨b10, b11, b12, b13, bf1, bs1⟩ := cells4 (H1.blk (.tail _ (.head _)))
    obtain ⟨b20, b21, b22, b23, b24, bf2, bs2⟩ := cells5 (H1.blk (.head _))
    have K1 := hide H1
    clear H1
    go_wp2_with fail
    refine bodyPost_ret (v := .tuple #[sv s, .int .i64 (validE s t)]) (by simp [results, Try.results35, go_sem, b00, b01, b02, b03, b04, bf0, bs0, b10, b11, b12, b13, bf1, bs1, b20, b21, b22, b23, b24, bf2, bs2]) rfl ?_
    rw [E.out]
    refine ⟨rfl, ?_⟩
    repeat (first | with_reducible exact K1.out.toExt | refine ext_set ?_ _ _ (by first | exact Nat.le_refl _ | exact Nat.le_add_right _ _ | (dsimp only; omega)))
set_option maxHeartbeats 1000000 in
theorem rrevoke_any (s : Se) (w : World) (hs : s.ok) : Calls Try.prog 37 #[sv s] w (RetS w (revokeS s)) := by
  have hep := hs.ep
  unfold most at hep
  by_cases h : inE s 2 = 0
  · by_cases hm : s.ep = 18446744073709551615
    · have E := hide ((revoke_2 h).trans (if_pos hm))
      have EM := hide h
      have h2 : (s.ep == 18446744073709551615) = true := by simpa using hm
      clear h hm hs
      go_enter Try.func37, Try.ntmps37
      go_wp2_with fail
      (with_reducible refine (rin_any _ _ _).mono ?_)
      rintro e w1 ⟨rfl, hx1⟩
      have H1 := (sep2 w 26 26 (sc s) (z5)).ext hx1
      clear hx1
      rw [EM.out]
      obtain ⟨b00, b01, b02, b03, b04, bf0, bs0⟩ := cells5 (H1.blk (.tail _ (.head _)))
      obtain ⟨b10, b11, b12, b13, b14, bf1, bs1⟩ := cells5 (H1.blk (.head _))
      have K1 := hide H1
      clear H1
      go_wp2_with fail
      refine bodyPost_ret (v := .tuple #[sv s, .int .i64 17]) (by simp [results, Try.results37, go_sem, b00, b01, b02, b03, b04, bf0, bs0, b10, b11, b12, b13, b14, bf1, bs1]) rfl ?_
      rw [E.out]
      refine ⟨rfl, ?_⟩
      repeat (first | with_reducible exact K1.out.toExt | refine ext_set ?_ _ _ (by first | exact Nat.le_refl _ | exact Nat.le_add_right _ _ | (dsimp only; omega)))
    · have E := hide ((revoke_2 h).trans (if_neg hm))
      have EM := hide h
      have h2 : (s.ep == 18446744073709551615) = false := by simpa using hm
      have hsm : s.ep < 18446744073709551615 := by omega
      have EW : Hid (IntKind.u64.wrap (s.ep + 1) = s.ep + 1) := hide (wrap_u64 (by omega) (by omega))
      clear h hm hs
      go_enter Try.func37, Try.ntmps37
      go_wp2_with fail
      (with_reducible refine (rin_any _ _ _).mono ?_)
      rintro e w1 ⟨rfl, hx1⟩
      have H1 := (sep2 w 26 26 (sc s) (z5)).ext hx1
      clear hx1
      rw [EM.out]
      obtain ⟨b00, b01, b02, b03, b04, bf0, bs0⟩ := cells5 (H1.blk (.tail _ (.head _)))
      obtain ⟨b10, b11, b12, b13, b14, bf1, bs1⟩ := cells5 (H1.blk (.head _))
      have K1 := hide H1
      clear H1
      go_wp2_with fail
      (with_reducible refine (rfree_flat _ _).mono ?_)
      rintro e w2 ⟨rfl, hx2⟩
      have H2 := K1.out.ext hx2
      clear b00 b01 b02 b03 b04 bf0 bs0 b10 b11 b12 b13 b14 bf1 bs1
      clear hx2
      obtain ⟨b00, b01, b02, b03, b04, bf0, bs0⟩ := cells5 (H2.blk (.tail _ (.head _)))
      obtain ⟨b10, b11, b12, b13, b14, bf1, bs1⟩ := cells5 (H2.blk (.head _))
      have K2 := hide H2
      clear H2
      have H2 := K2.out
      have tok : True := trivial
      clear K1 K2 b00 b01 b02 b03 b04 bf0 bs0 b10 b11 b12 b13 b14 bf1 bs1
      go_wp2_with ((have zz := tok; clear zz tok; refine wpList_stS [As.blk (w.heap.size + 1) 26 z5] H2 rfl 26 (.tmp 1) (.tmp 19) rfl rfl (cs := [.int .i64 0, .int .u32 0, .int .i64 0, .int .u64 s.ser, .int .u64 s.ep]) rfl (by kernel_rfl) rfl (by simp [Value.oneCell']) ?_; intro w3 H3; dsimp only [List.nil_append, List.cons_append, List.set] at H3; clear H2; obtain ⟨b00, b01, b02, b03, b04, bf0, bs0⟩ := cells5 (H3.blk (.tail _ (.head _))); obtain ⟨b10, b11, b12, b13, b14, bf1, bs1⟩ := cells5 (H3.blk (.head _)); have K3 := hide H3; clear H3))
      refine bodyPost_ret (v := .tuple #[sv ⟨0, 0, 0, s.ser, s.ep + 1⟩, .int .i64 0]) (by simp [results, Try.results37, go_sem, b00, b01, b02, b03, b04, bf0, bs0, b10, b11, b12, b13, b14, bf1, bs1]) rfl ?_
      rw [E.out]
      refine ⟨rfl, ?_⟩
      repeat (first | with_reducible exact K3.out.toExt | refine ext_set ?_ _ _ (by first | exact Nat.le_refl _ | exact Nat.le_add_right _ _ | (dsimp only; omega)))
  · have E := hide (revoke_1 h)
    have h1 : (inE s 2 != 0) = true := by simpa using h
    have h2 : (inE s 2 == 0) = false := by simpa using h
    clear h hs
    go_enter Try.func37, Try.ntmps37
    go_wp2_with fail
    (with_reducible refine (rin_any _ _ _).mono ?_)
    rintro e w1 ⟨rfl, hx1⟩
    have H1 := (sep2 w 26 26 (sc s) (z5)).ext hx1
    clear hx1
    obtain ⟨b00, b01, b02, b03, b04, bf0, bs0⟩ := cells5 (H1.blk (.tail _ (.head _)))
    obtain ⟨b10, b11, b12, b13, b14, bf1, bs1⟩ := cells5 (H1.blk (.head _))
    have K1 := hide H1
    clear H1
    go_wp2_with fail
    refine bodyPost_ret (v := .tuple #[sv s, .int .i64 (inE s 2)]) (by simp [results, Try.results37, go_sem, b00, b01, b02, b03, b04, bf0, bs0, b10, b11, b12, b13, b14, bf1, bs1]) rfl ?_
    rw [E.out]
    refine ⟨rfl, ?_⟩
    repeat (first | with_reducible exact K1.out.toExt | refine ext_set ?_ _ _ (by first | exact Nat.le_refl _ | exact Nat.le_add_right _ _ | (dsimp only; omega)))
set_option maxHeartbeats 1000000 in
theorem rhold_any (s : Se) (o d : Int) (w : World) : Calls Try.prog 31 #[sv s, .int .u32 o, .int .i64 d] w (RetS w (holdS s o d)) := by
  by_cases hg : good s
  · have EG := hide (chkg hg)
    by_cases hd : d < 0
    · have E : Hid (holdS s o d = (s, 7)) := hide (by unfold holdS; rw [if_neg (not_not_intro hg), if_pos hd])
      clear hg
      go_enter Try.func31, Try.ntmps31
      go_wp2_with fail
      (with_reducible refine (rcheck_any _ _).mono ?_)
      rintro e w1 ⟨rfl, hx1⟩
      have H1 := (sep2 w 26 26 (sc s) (z5)).ext hx1
      clear hx1
      rw [EG.out]
      obtain ⟨b00, b01, b02, b03, b04, bf0, bs0⟩ := cells5 (H1.blk (.tail _ (.head _)))
      obtain ⟨b10, b11, b12, b13, b14, bf1, bs1⟩ := cells5 (H1.blk (.head _))
      have K1 := hide H1
      clear H1
      go_wp2_with fail
      refine bodyPost_ret (v := .tuple #[sv s, .int .i64 7]) (by simp [results, Try.results31, go_sem, b00, b01, b02, b03, b04, bf0, bs0, b10, b11, b12, b13, b14, bf1, bs1]) rfl ?_
      rw [E.out]
      refine ⟨rfl, ?_⟩
      repeat (first | with_reducible exact K1.out.toExt | refine ext_set ?_ _ _ (by first | exact Nat.le_refl _ | exact Nat.le_add_right _ _ | (dsimp only; omega)))
    · by_cases h1 : s.st = 0
      · have EI : Hid (inE s 0 = 0) := hide (by unfold inE; rw [if_neg (not_not_intro hg), if_pos h1])
        have hd0 : 0 ≤ d := by omega
        have E : Hid (holdS s o d = (⟨1, o, d, s.ser, s.ep⟩, 0)) := hide (by unfold holdS; rw [if_neg (not_not_intro hg), if_neg hd, if_neg (not_not_intro h1)])
        clear hg hd h1
        go_enter Try.func31, Try.ntmps31
        go_wp2_with fail
        (with_reducible refine (rcheck_any _ _).mono ?_)
        rintro e w1 ⟨rfl, hx1⟩
        have H1 := (sep2 w 26 26 (sc s) (z5)).ext hx1
        clear hx1
        rw [EG.out]
        obtain ⟨b00, b01, b02, b03, b04, bf0, bs0⟩ := cells5 (H1.blk (.tail _ (.head _)))
        obtain ⟨b10, b11, b12, b13, b14, bf1, bs1⟩ := cells5 (H1.blk (.head _))
        have K1 := hide H1
        clear H1
        go_wp2_with fail
        (with_reducible refine (rin_any _ _ _).mono ?_)
        rintro e w2 ⟨rfl, hx2⟩
        have H2 := K1.out.ext hx2
        clear b00 b01 b02 b03 b04 bf0 bs0 b10 b11 b12 b13 b14 bf1 bs1
        clear hx2
        rw [EI.out]
        obtain ⟨b00, b01, b02, b03, b04, bf0, bs0⟩ := cells5 (H2.blk (.tail _ (.head _)))
        obtain ⟨b10, b11, b12, b13, b14, bf1, bs1⟩ := cells5 (H2.blk (.head _))
        have K2 := hide H2
        clear H2
        go_wp2_with fail
        refine bodyPost_ret (v := .tuple #[sv ⟨1, o, d, s.ser, s.ep⟩, .int .i64 0]) (by simp [results, Try.results31, go_sem, b00, b01, b02, b03, b04, bf0, bs0, b10, b11, b12, b13, b14, bf1, bs1]) rfl ?_
        rw [E.out]
        refine ⟨rfl, ?_⟩
        repeat (first | with_reducible exact K2.out.toExt | refine ext_set ?_ _ _ (by first | exact Nat.le_refl _ | exact Nat.le_add_right _ _ | (dsimp only; omega)))
      · have EI : Hid (inE s 0 = 15) := hide (by unfold inE; rw [if_neg (not_not_intro hg), if_neg h1])
        have hd0 : 0 ≤ d := by omega
        have E : Hid (holdS s o d = (s, 15)) := hide (by unfold holdS; rw [if_neg (not_not_intro hg), if_neg hd, if_pos h1])
        clear hg hd h1
        go_enter Try.func31, Try.ntmps31
        go_wp2_with fail
        (with_reducible refine (rcheck_any _ _).mono ?_)
        rintro e w1 ⟨rfl, hx1⟩
        have H1 := (sep2 w 26 26 (sc s) (z5)).ext hx1
        clear hx1
        rw [EG.out]
        obtain ⟨b00, b01, b02, b03, b04, bf0, bs0⟩ := cells5 (H1.blk (.tail _ (.head _)))
        obtain ⟨b10, b11, b12, b13, b14, bf1, bs1⟩ := cells5 (H1.blk (.head _))
        have K1 := hide H1
        clear H1
        go_wp2_with fail
        (with_reducible refine (rin_any _ _ _).mono ?_)
        rintro e w2 ⟨rfl, hx2⟩
        have H2 := K1.out.ext hx2
        clear b00 b01 b02 b03 b04 bf0 bs0 b10 b11 b12 b13 b14 bf1 bs1
        clear hx2
        rw [EI.out]
        obtain ⟨b00, b01, b02, b03, b04, bf0, bs0⟩ := cells5 (H2.blk (.tail _ (.head _)))
        obtain ⟨b10, b11, b12, b13, b14, bf1, bs1⟩ := cells5 (H2.blk (.head _))
        have K2 := hide H2
        clear H2
        go_wp2_with fail
        refine bodyPost_ret (v := .tuple #[sv s, .int .i64 15]) (by simp [results, Try.results31, go_sem, b00, b01, b02, b03, b04, bf0, bs0, b10, b11, b12, b13, b14, bf1, bs1]) rfl ?_
        rw [E.out]
        refine ⟨rfl, ?_⟩
        repeat (first | with_reducible exact K2.out.toExt | refine ext_set ?_ _ _ (by first | exact Nat.le_refl _ | exact Nat.le_add_right _ _ | (dsimp only; omega)))
  · have EG := hide (chkb hg)
    have E : Hid (holdS s o d = (s, 6)) := hide (by unfold holdS; rw [if_pos hg])
    clear hg
    go_enter Try.func31, Try.ntmps31
    go_wp2_with fail
    (with_reducible refine (rcheck_any _ _).mono ?_)
    rintro e w1 ⟨rfl, hx1⟩
    have H1 := (sep2 w 26 26 (sc s) (z5)).ext hx1
    clear hx1
    rw [EG.out]
    obtain ⟨b00, b01, b02, b03, b04, bf0, bs0⟩ := cells5 (H1.blk (.tail _ (.head _)))
    obtain ⟨b10, b11, b12, b13, b14, bf1, bs1⟩ := cells5 (H1.blk (.head _))
    have K1 := hide H1
    clear H1
    go_wp2_with fail
    refine bodyPost_ret (v := .tuple #[sv s, .int .i64 6]) (by simp [results, Try.results31, go_sem, b00, b01, b02, b03, b04, bf0, bs0, b10, b11, b12, b13, b14, bf1, bs1]) rfl ?_
    rw [E.out]
    refine ⟨rfl, ?_⟩
    repeat (first | with_reducible exact K1.out.toExt | refine ext_set ?_ _ _ (by first | exact Nat.le_refl _ | exact Nat.le_add_right _ _ | (dsimp only; omega)))
set_option maxHeartbeats 1000000 in
theorem rexpire_any (s : Se) (d : Int) (w : World) : Calls Try.prog 33 #[sv s, .int .i64 d] w (RetS w (expireS s d)) := by
  by_cases hg : good s
  · have EG := hide (chkg hg)
    by_cases hd : d < 0
    · have E : Hid (expireS s d = (s, 7)) := hide (by unfold expireS; rw [if_neg (not_not_intro hg), if_pos hd])
      clear hg
      go_enter Try.func33, Try.ntmps33
      go_wp2_with fail
      (with_reducible refine (rcheck_any _ _).mono ?_)
      rintro e w1 ⟨rfl, hx1⟩
      have H1 := (sep2 w 26 26 (sc s) (z5)).ext hx1
      clear hx1
      rw [EG.out]
      obtain ⟨b00, b01, b02, b03, b04, bf0, bs0⟩ := cells5 (H1.blk (.tail _ (.head _)))
      obtain ⟨b10, b11, b12, b13, b14, bf1, bs1⟩ := cells5 (H1.blk (.head _))
      have K1 := hide H1
      clear H1
      go_wp2_with fail
      refine bodyPost_ret (v := .tuple #[sv s, .int .i64 7]) (by simp [results, Try.results33, go_sem, b00, b01, b02, b03, b04, bf0, bs0, b10, b11, b12, b13, b14, bf1, bs1]) rfl ?_
      rw [E.out]
      refine ⟨rfl, ?_⟩
      repeat (first | with_reducible exact K1.out.toExt | refine ext_set ?_ _ _ (by first | exact Nat.le_refl _ | exact Nat.le_add_right _ _ | (dsimp only; omega)))
    · by_cases h1 : s.st = 1
      · have EI : Hid (inE s 1 = 0) := hide (by unfold inE; rw [if_neg (not_not_intro hg), if_pos h1])
        have hd0 : 0 ≤ d := by omega
        have hdl : ¬ (s.dl < 0 ∨ d < 0) := by unfold good at hg; omega
        have EP : Hid (passE s.dl d = (decide (s.dl ≤ d), 0)) := hide (by unfold passE; rw [if_neg hdl])
        have E : Hid (expireS s d = if s.dl ≤ d then (openS s, 0) else (s, 9)) := hide (by unfold expireS; rw [if_neg (not_not_intro hg), if_neg hd, if_neg (not_not_intro h1)])
        clear hg hd h1 hdl
        by_cases hp : s.dl ≤ d
        · have ED : Hid (decide (s.dl ≤ d) = true) := hide (by simpa using hp)
          have HP := hide hp
          clear hp
          go_enter Try.func33, Try.ntmps33
          go_wp2_with fail
          (with_reducible refine (rcheck_any _ _).mono ?_)
          rintro e w1 ⟨rfl, hx1⟩
          have H1 := (sep2 w 26 26 (sc s) (z5)).ext hx1
          clear hx1
          rw [EG.out]
          obtain ⟨b00, b01, b02, b03, b04, bf0, bs0⟩ := cells5 (H1.blk (.tail _ (.head _)))
          obtain ⟨b10, b11, b12, b13, b14, bf1, bs1⟩ := cells5 (H1.blk (.head _))
          have K1 := hide H1
          clear H1
          go_wp2_with fail
          (with_reducible refine (rin_any _ _ _).mono ?_)
          rintro e w2 ⟨rfl, hx2⟩
          have H2 := K1.out.ext hx2
          clear b00 b01 b02 b03 b04 bf0 bs0 b10 b11 b12 b13 b14 bf1 bs1
          clear hx2
          rw [EI.out]
          obtain ⟨b00, b01, b02, b03, b04, bf0, bs0⟩ := cells5 (H2.blk (.tail _ (.head _)))
          obtain ⟨b10, b11, b12, b13, b14, bf1, bs1⟩ := cells5 (H2.blk (.head _))
          have K2 := hide H2
          clear H2
          go_wp2_with fail
          (with_reducible refine (rpassed_any _ _ _).mono ?_)
          rintro e w3 ⟨rfl, rfl⟩
          rw [EP.out, ED.out]
          go_wp2_with fail
          (with_reducible refine (rfree_any _ _).mono ?_)
          rintro e w3 ⟨rfl, hx3⟩
          have H3 := K2.out.ext hx3
          clear b00 b01 b02 b03 b04 bf0 bs0 b10 b11 b12 b13 b14 bf1 bs1
          clear hx3
          obtain ⟨b00, b01, b02, b03, b04, bf0, bs0⟩ := cells5 (H3.blk (.tail _ (.head _)))
          obtain ⟨b10, b11, b12, b13, b14, bf1, bs1⟩ := cells5 (H3.blk (.head _))
          have K3 := hide H3
          clear H3
          go_wp2_with fail
          refine bodyPost_ret (v := .tuple #[sv (openS s), .int .i64 0]) (by simp [results, Try.results33, go_sem, b00, b01, b02, b03, b04, bf0, bs0, b10, b11, b12, b13, b14, bf1, bs1]) rfl ?_
          rw [E.out, if_pos HP.out]
          refine ⟨rfl, ?_⟩
          repeat (first | with_reducible exact K3.out.toExt | refine ext_set ?_ _ _ (by first | exact Nat.le_refl _ | exact Nat.le_add_right _ _ | (dsimp only; omega)))
        · have ED : Hid (decide (s.dl ≤ d) = false) := hide (by simpa using hp)
          have HP := hide hp
          clear hp
          go_enter Try.func33, Try.ntmps33
          go_wp2_with fail
          (with_reducible refine (rcheck_any _ _).mono ?_)
          rintro e w1 ⟨rfl, hx1⟩
          have H1 := (sep2 w 26 26 (sc s) (z5)).ext hx1
          clear hx1
          rw [EG.out]
          obtain ⟨b00, b01, b02, b03, b04, bf0, bs0⟩ := cells5 (H1.blk (.tail _ (.head _)))
          obtain ⟨b10, b11, b12, b13, b14, bf1, bs1⟩ := cells5 (H1.blk (.head _))
          have K1 := hide H1
          clear H1
          go_wp2_with fail
          (with_reducible refine (rin_any _ _ _).mono ?_)
          rintro e w2 ⟨rfl, hx2⟩
          have H2 := K1.out.ext hx2
          clear b00 b01 b02 b03 b04 bf0 bs0 b10 b11 b12 b13 b14 bf1 bs1
          clear hx2
          rw [EI.out]
          obtain ⟨b00, b01, b02, b03, b04, bf0, bs0⟩ := cells5 (H2.blk (.tail _ (.head _)))
          obtain ⟨b10, b11, b12, b13, b14, bf1, bs1⟩ := cells5 (H2.blk (.head _))
          have K2 := hide H2
          clear H2
          go_wp2_with fail
          (with_reducible refine (rpassed_any _ _ _).mono ?_)
          rintro e w3 ⟨rfl, rfl⟩
          rw [EP.out, ED.out]
          go_wp2_with fail
          refine bodyPost_ret (v := .tuple #[sv s, .int .i64 9]) (by simp [results, Try.results33, go_sem, b00, b01, b02, b03, b04, bf0, bs0, b10, b11, b12, b13, b14, bf1, bs1]) rfl ?_
          rw [E.out, if_neg (by have := HP.out; omega)]
          refine ⟨rfl, ?_⟩
          repeat (first | with_reducible exact K2.out.toExt | refine ext_set ?_ _ _ (by first | exact Nat.le_refl _ | exact Nat.le_add_right _ _ | (dsimp only; omega)))
      · have EI : Hid (inE s 1 = 15) := hide (by unfold inE; rw [if_neg (not_not_intro hg), if_neg h1])
        have hd0 : 0 ≤ d := by omega
        have E : Hid (expireS s d = (s, 15)) := hide (by unfold expireS; rw [if_neg (not_not_intro hg), if_neg hd, if_pos h1])
        clear hg hd h1
        go_enter Try.func33, Try.ntmps33
        go_wp2_with fail
        (with_reducible refine (rcheck_any _ _).mono ?_)
        rintro e w1 ⟨rfl, hx1⟩
        have H1 := (sep2 w 26 26 (sc s) (z5)).ext hx1
        clear hx1
        rw [EG.out]
        obtain ⟨b00, b01, b02, b03, b04, bf0, bs0⟩ := cells5 (H1.blk (.tail _ (.head _)))
        obtain ⟨b10, b11, b12, b13, b14, bf1, bs1⟩ := cells5 (H1.blk (.head _))
        have K1 := hide H1
        clear H1
        go_wp2_with fail
        (with_reducible refine (rin_any _ _ _).mono ?_)
        rintro e w2 ⟨rfl, hx2⟩
        have H2 := K1.out.ext hx2
        clear b00 b01 b02 b03 b04 bf0 bs0 b10 b11 b12 b13 b14 bf1 bs1
        clear hx2
        rw [EI.out]
        obtain ⟨b00, b01, b02, b03, b04, bf0, bs0⟩ := cells5 (H2.blk (.tail _ (.head _)))
        obtain ⟨b10, b11, b12, b13, b14, bf1, bs1⟩ := cells5 (H2.blk (.head _))
        have K2 := hide H2
        clear H2
        go_wp2_with fail
        refine bodyPost_ret (v := .tuple #[sv s, .int .i64 15]) (by simp [results, Try.results33, go_sem, b00, b01, b02, b03, b04, bf0, bs0, b10, b11, b12, b13, b14, bf1, bs1]) rfl ?_
        rw [E.out]
        refine ⟨rfl, ?_⟩
        repeat (first | with_reducible exact K2.out.toExt | refine ext_set ?_ _ _ (by first | exact Nat.le_refl _ | exact Nat.le_add_right _ _ | (dsimp only; omega)))
  · have EG := hide (chkb hg)
    have E : Hid (expireS s d = (s, 6)) := hide (by unfold expireS; rw [if_pos hg])
    clear hg
    go_enter Try.func33, Try.ntmps33
    go_wp2_with fail
    (with_reducible refine (rcheck_any _ _).mono ?_)
    rintro e w1 ⟨rfl, hx1⟩
    have H1 := (sep2 w 26 26 (sc s) (z5)).ext hx1
    clear hx1
    rw [EG.out]
    obtain ⟨b00, b01, b02, b03, b04, bf0, bs0⟩ := cells5 (H1.blk (.tail _ (.head _)))
    obtain ⟨b10, b11, b12, b13, b14, bf1, bs1⟩ := cells5 (H1.blk (.head _))
    have K1 := hide H1
    clear H1
    go_wp2_with fail
    refine bodyPost_ret (v := .tuple #[sv s, .int .i64 6]) (by simp [results, Try.results33, go_sem, b00, b01, b02, b03, b04, bf0, bs0, b10, b11, b12, b13, b14, bf1, bs1]) rfl ?_
    rw [E.out]
    refine ⟨rfl, ?_⟩
    repeat (first | with_reducible exact K1.out.toExt | refine ext_set ?_ _ _ (by first | exact Nat.le_refl _ | exact Nat.le_add_right _ _ | (dsimp only; omega)))
end Go.Proofs.Ytcmpkpldihnklaa
