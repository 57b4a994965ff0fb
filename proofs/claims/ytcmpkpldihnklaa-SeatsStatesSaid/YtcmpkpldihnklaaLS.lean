/- Seats: the law SeatsSteps walked. -/
import Derived.Test.YtcmpkpldihnklaaLA

namespace Go.Proofs.Ytcmpkpldihnklaa
open Go.RowKit Go.Gr Go.Seat
set_option linter.unusedVariables false
set_option linter.unusedSimpArgs false
theorem cells10 {w : World} {g : Nat} {e : TypeId} {a b c d f h i j k l : Value} (H : Blk w g e [a, b, c, d, f, h, i, j, k, l]) :
    w.cell? ⟨g, 0, none⟩ = some a ∧ w.cell? ⟨g, 1, none⟩ = some b ∧ w.cell? ⟨g, 2, none⟩ = some c ∧ w.cell? ⟨g, 3, none⟩ = some d ∧ w.cell? ⟨g, 4, none⟩ = some f ∧ w.cell? ⟨g, 5, none⟩ = some h ∧ w.cell? ⟨g, 6, none⟩ = some i ∧ w.cell? ⟨g, 7, none⟩ = some j ∧ w.cell? ⟨g, 8, none⟩ = some k ∧ w.cell? ⟨g, 9, none⟩ = some l ∧ (∀ i, w.frozen? ⟨g, i, none⟩ = false) ∧ g < w.heap.size :=
  ⟨H.cell 0, H.cell 1, H.cell 2, H.cell 3, H.cell 4, H.cell 5, H.cell 6, H.cell 7, H.cell 8, H.cell 9, H.free, H.lt⟩
abbrev xw (x : Ca) (m : Int) : Ca := ⟨m, x.own, x.to, x.at_, x.old, x.which, x.t⟩
theorem xw_ok {x : Ca} (h : x.ok) {m : Int} (h0 : 0 ≤ m) (h1 : m < 256) : (xw x m).ok := ⟨⟨h0, h1⟩, h.own, h.to, h.at_, h.which, h.t⟩
attribute [local go_sem] rdOp rdAt rdUpon Cls
set_option maxRecDepth 100000 in
set_option maxHeartbeats 4000000 in
theorem steps_law (w : World) (v0 : Value) (h0 : ∃ cs, v0 = .agg cs ∧ Lvs Try.prog w [.int .i64, .int .u32, .int .i64, .int .u64, .int .u64] cs.toList)
    (v1 : Value) (h1 : ∃ cs, v1 = .agg cs ∧ Lvs Try.prog w [.int .u8, .int .u32, .int .u32, .int .i64, .bool, .int .u8, .int .u32, .int .u32, .int .u64, .int .u64] cs.toList) :
    Calls Try.prog 4 #[v0, v1] w fun e w' => e = .returned (.bool true) ∧ Ext w w' := by
  obtain ⟨s, rfl, hs⟩ := seatA h0
  obtain ⟨x, rfl, hx⟩ := callA h1
  have HS := hide hs
  have HX := hide hx
  have HM := hide hx.what
  clear h0 h1 hs hx
  go_enter Try.func4, Try.ntmps4
  go_wp2_with fail
  have H0 := sep2 w 26 38 (sc s) (xc x)
  go_loopw [5] (fun i wr => ∃ k : Nat, k ≤ 8 ∧ i = .int .i64 k ∧ ∃ m : Int, Hid (0 ≤ m ∧ m < 256) ∧ Sep No w wr [As.blk (w.heap.size + 1) 38 (xc (xw x m)), As.blk w.heap.size 26 (sc s)]) (fun i _ => 8 - (intOf i).toNat)
  case atStart => exact ⟨0, by omega, rfl, x.what, HM, H0⟩
  case round =>
    obtain ⟨k, hk, rfl, m, HMm, H⟩ := hrel
    obtain ⟨a0, a1, a2, a3, a4, a5, a6, a7, a8, a9, af, az⟩ := cells10 (H.blk (.head _))
    obtain ⟨b0, b1, b2, b3, b4, bf, bs⟩ := cells5 (H.blk (.tail _ (.head _)))
    have K0 := hide H
    clear H
    by_cases hlt : k < 8
    · go_wp2_with fail
      (with_reducible refine (done_any s (xw x k) x.t _ HS.out (xw_ok HX.out (by omega) (by omega))).mono ?_)
      rintro e w1 ⟨rfl, hx1⟩
      obtain ⟨r, HR⟩ : ∃ r, Hid (doneS s (xw x k) x.t = r) := ⟨_, hide rfl⟩
      rw [HR.out]
      have H1 : Sep No w w1 [As.blk (w.heap.size + 1) 38 (xc (xw x k)), As.blk w.heap.size 26 (sc s)] := (Sep.cell (L1 := []) K0.out 0 (.int .u8 k)).ext hx1
      clear a0 a1 a2 a3 a4 a5 a6 a7 a8 a9 af az b0 b1 b2 b3 b4 bf bs hx1 K0
      obtain ⟨a0, a1, a2, a3, a4, a5, a6, a7, a8, a9, af, az⟩ := cells10 (H1.blk (.head _))
      obtain ⟨b0, b1, b2, b3, b4, bf, bs⟩ := cells5 (H1.blk (.tail _ (.head _)))
      have K1 := hide H1
      clear H1
      go_wp2_with fail
      (with_reducible refine (told_any s (xw x k) x.t _ HS.out (xw_ok HX.out (by omega) (by omega))).mono ?_)
      rintro e w2 ⟨rfl, hx2⟩
      rw [HR.out]
      have H2 := (K1.out.add 26 (sc r.1)).ext hx2
      clear a0 a1 a2 a3 a4 a5 a6 a7 a8 a9 af az b0 b1 b2 b3 b4 bf bs hx2 K1
      obtain ⟨b0, b1, b2, b3, b4, bf, bs⟩ := cells5 (H2.blk (.head _))
      have K2 := hide (H2.add 26 (sc r.1))
      clear H2
      go_wp2_with fail
      go_roundw
      case rel => exact ⟨k + 1, by omega, by go_num, k, hide ⟨by omega, by omega⟩, K2.out.tail.tail⟩
      case measure => simp [intOf]; omega
    · obtain rfl : k = 8 := by omega
      go_wp2_with fail
      (with_reducible refine (ticket_any _ _ _).mono ?_)
      rintro e w1 ⟨rfl, hx1⟩
      obtain ⟨r, HR⟩ : ∃ r, Hid (ticketS s x.own = r) := ⟨_, hide rfl⟩
      rw [HR.out]
      have H1 := K0.out.ext hx1
      clear a0 a1 a2 a3 a4 a5 a6 a7 a8 a9 af az b0 b1 b2 b3 b4 bf bs hx1 K0
      obtain ⟨a0, a1, a2, a3, a4, a5, a6, a7, a8, a9, af, az⟩ := cells10 (H1.blk (.head _))
      obtain ⟨b0, b1, b2, b3, b4, bf, bs⟩ := cells5 (H1.blk (.tail _ (.head _)))
      have K1 := hide (H1.add 28 (tc r.1))
      clear H1
      go_wp2_with fail
      (with_reducible refine (rticket_any _ _ _).mono ?_)
      rintro e w2 ⟨rfl, hx2⟩
      rw [HR.out]
      have H2 := K1.out.ext hx2
      clear a0 a1 a2 a3 a4 a5 a6 a7 a8 a9 af az b0 b1 b2 b3 b4 bf bs hx2 K1
      have K2 := hide (H2.add 28 (tc r.1))
      clear H2
      go_wp2_with fail
      refine wp_region_wm [0, 2, 1, 3, 4, 5, 6, 7, 8, 9, 10, 11, 12, 13, 14, 15, 16, 17, 18] (by kernel_rfl) (by kernel_rfl) (by kernel_rfl) (by kernel_rfl) ?_
      have H3 := K2.out.drew
      clear K2
      generalize (World.alloc _ _).drew = wd at *
      refine wm_ldS H3 (.tail _ (.tail _ (.tail _ (.head _)))) rfl rfl 26 (.tmp 2) rfl rfl _ Try.underlying26 rfl (by kernel_rfl) ?_
      refine wm_ldS H3 (.tail _ (.tail _ (.tail _ (.head _)))) rfl rfl 26 (.tmp 2) rfl rfl _ Try.underlying26 rfl (by kernel_rfl) ?_
      refine wm_ext rfl rfl (fun K hK => ?_)
      go_simp
      go_at_call 18
      (with_reducible refine (check_any _ _).mono ?_)
      rintro e w3 ⟨rfl, hx3⟩
      refine hK _ _ hx3 ?_
      clear hK K
      have H4 := H3.ext hx3
      clear H3 hx3
      refine wm_ext rfl rfl (fun K hK => ?_)
      go_simp
      go_at_call 19
      (with_reducible refine (rcheck_any _ _).mono ?_)
      rintro e w4 ⟨rfl, hx4⟩
      refine hK _ _ hx4 ?_
      clear hK K
      have H5 := H4.ext hx4
      clear H4 hx4
      iterate 2 (refine wm_rd rfl rfl (fun K hK => ?_); go_simp; refine hK _ ?_; clear hK K)
      refine wm_ldS H5 (.tail _ (.head _)) rfl rfl 28 (.tmp 10) rfl rfl _ Try.underlying28 rfl (by kernel_rfl) ?_
      refine wm_ldS H5 (.head _) rfl rfl 28 (.tmp 12) rfl rfl _ Try.underlying28 rfl (by kernel_rfl) ?_
      iterate 8 (refine wm_rd rfl rfl (fun K hK => ?_); go_simp; refine hK _ ?_; clear hK K)
      refine wm_ext rfl rfl (fun K hK => ?_)
      go_simp
      go_at_call 10
      (with_reducible refine (awake_any _).mono ?_)
      rintro e w5 ⟨rfl, hx5⟩
      refine hK _ _ hx5 ?_
      clear hK K
      have H6 := H5.ext hx5
      clear H5 hx5
      iterate 2 (refine wm_rd rfl rfl (fun K hK => ?_); go_simp; refine hK _ ?_; clear hK K)
      refine wm_nil ?_
      go_wp2_with fail
      go_ret
      exact ⟨rfl, H6.toExt⟩
end Go.Proofs.Ytcmpkpldihnklaa
