/- The walks of the law's own times and cube. -/
import Derived.Test.YtmflanhcddehlaaDoorS4
namespace Go.Proofs.YtmflanhcddehlaaDoor
open Go.RowKit Go.Gr
set_option linter.unusedVariables false
attribute [local go_sem] rdOp rdAt rdUpon Cls
def lLo (a b : Int) : Int := a * b % 18446744073709551616
theorem lLo_range (a b : Int) : 0 ≤ lLo a b ∧ lLo a b < 18446744073709551616 := by unfold lLo; omega
theorem times_any (a b : Int) (w : World) (ha : 0 ≤ a ∧ a < 18446744073709551616) (hb : 0 ≤ b ∧ b < 18446744073709551616) :
    Calls Tryd.prog 25 #[.int .u64 a, .int .u64 b] w fun e w' => e = .returned (.agg #[.int .u64 (tHi a b), .int .u64 (lLo a b)]) ∧ Ext w w' := by
  have HA := hide ha
  have HB := hide hb
  obtain ⟨ha0, ha1⟩ := ha
  obtain ⟨hb0, hb1⟩ := hb
  go_enter Tryd.func25, Tryd.ntmps25
  go_wp2_with fail
  refine bodyPost_ret (results_cell_row rfl _ _ w.heap.size 44 _ (0, 0) _ rfl (heap_alloc_new w _) Tryd.underlying44 rfl (by kernel_rfl)) rfl ⟨?_, (Ext.refl _).alloc _⟩
  simp only [IntKind.wrap_u64, and32m, and32 a HA.out, and32 b HB.out]
  rfl
def cHi (x : Int) : Int := (tHi (lLo x x) x + tHi x x * x % 18446744073709551616) % 18446744073709551616
def cLo (x : Int) : Int := lLo (lLo x x) x
set_option maxHeartbeats 1000000 in
theorem cube_any (m : Int) (w : World) (hm : 0 ≤ m ∧ m < 18446744073709551616) :
    Calls Tryd.prog 24 #[.int .u64 m] w fun e w' => e = .returned (.agg #[.int .u64 (cHi m), .int .u64 (cLo m)]) ∧ Ext w w' := by
  have hl := lLo_range m m
  obtain ⟨p, hp⟩ : ∃ p, tHi m m = p := ⟨_, rfl⟩
  obtain ⟨q, hq⟩ : ∃ q, lLo m m = q := ⟨_, rfl⟩
  have HM := hide hm
  have HP := hide hp
  have HQ := hide hq
  rw [hq] at hl
  have HL := hide hl
  clear hp hq hm hl
  obtain ⟨r, hr⟩ : ∃ r, tHi q m = r := ⟨_, rfl⟩
  obtain ⟨s, hs⟩ : ∃ s, lLo q m = s := ⟨_, rfl⟩
  have HR := hide hr
  have HS := hide hs
  clear hr hs
  go_enter Tryd.func24, Tryd.ntmps24
  go_wp2_with fail
  (with_reducible refine (times_any m m _ HM.out HM.out).mono ?_)
  rintro e w1 ⟨rfl, hx1⟩
  rw [HP.out, HQ.out]
  have hB := hide ((Blk.new w 44 [.int .u64 0, .int .u64 0]).ext hx1)
  have HX := hide (((Ext.refl w).alloc _).trans hx1)
  have hlt : w.heap.size < w1.heap.size := by have := hx1.size; simp at this; omega
  clear hx1
  go_wp2_with fail
  (with_reducible refine (times_any q m _ HL.out HM.out).mono ?_)
  rintro e w2 ⟨rfl, hx2⟩
  rw [HR.out, HS.out]
  have hB2 := hide ((hB.out.alloc (.cells #[.int .u64 p, .int .u64 q] 44)).ext hx2)
  have hB3 := hide ((Blk.new w1 44 [.int .u64 p, .int .u64 q]).ext hx2)
  have HX2 := hide ((HX.out.alloc (.cells #[.int .u64 p, .int .u64 q] 44)).trans hx2)
  have hlt2 : w1.heap.size < w2.heap.size := by have := hx2.size; simp at this; omega
  clear hx2
  have d0 : w2.cell? ⟨w1.heap.size, 0, none⟩ = some (.int .u64 p) := hB3.out.cell 0
  have d1 : w2.cell? ⟨w1.heap.size, 1, none⟩ = some (.int .u64 q) := hB3.out.cell 1
  have c0 : w2.cell? ⟨w.heap.size, 0, none⟩ = some (.int .u64 0) := hB2.out.cell 0
  have c1 : w2.cell? ⟨w.heap.size, 1, none⟩ = some (.int .u64 0) := hB2.out.cell 1
  have f0 := hB2.out.free 0
  have f1 := hB2.out.free 1
  have hlt3 : w.heap.size < w2.heap.size := by omega
  go_wp2_with fail
  obtain ⟨x, hx⟩ : ∃ x, IntKind.u64.wrap (r + IntKind.u64.wrap (p * m)) = x := ⟨_, rfl⟩
  rw [hx]
  rw [IntKind.wrap_u64, IntKind.wrap_u64] at hx
  have HB5 := hide (((hB2.out.set 0 (.int .u64 x)).set 1 (.int .u64 s)).alloc (.cells #[.int .u64 r, .int .u64 s] 44))
  have HX5 := hide (Ext.alloc (show Ext w _ from Below.setCell (Below.setCell HX2.out (p := ⟨w.heap.size, 0, none⟩) (Nat.le_refl _) (.int .u64 x)) (p := ⟨w.heap.size, 1, none⟩) (Nat.le_refl _) (.int .u64 s)) (.cells #[.int .u64 r, .int .u64 s] 44))
  refine bodyPost_ret (results_cell_row rfl _ _ w.heap.size 44 #[.int .u64 x, .int .u64 s] (0, 0) _ rfl HB5.out Tryd.underlying44 rfl (by kernel_rfl)) rfl ⟨by rw [cHi, cLo, HP.out, HQ.out, HR.out, HS.out, hx], HX5.out⟩
end Go.Proofs.YtmflanhcddehlaaDoor
