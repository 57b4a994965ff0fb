/- The walks of the reference's numbers of 128 bits, roots and primes, and of the law's own: each returns what the plain function says. -/
import Derived.Test.YtamlngdjbmndlaaDoorS1
import Derived.Test.YtamlngdjbmndlaaDoorGa
import Derived.IntWalk
namespace Go.Proofs.YtamlngdjbmndlaaDoor
open Go.RowKit Go.Gr
set_option linter.unusedVariables false
attribute [local go_sem] rdOp rdAt rdUpon Cls
theorem and32 (x : Int) (h : 0 ≤ x ∧ x < 18446744073709551616) : bits .and .u64 x 4294967295 = x % 4294967296 := by
  rw [u64_and x 4294967295 h.1 h.2 (by decide) (by decide), show (4294967295 : Int).toNat = 2 ^ 32 - 1 from rfl, Nat.and_two_pow_sub_one_eq_mod]
  omega
theorem and32m (x : Int) : bits .and .u64 (x % 18446744073709551616) 4294967295 = x % 4294967296 := by
  rw [and32 _ (by omega)]; omega
def M64 : Int := 18446744073709551616
/-- the product's halves, as the reference has them -/
def tMid (a b : Int) : Int := ((a % 4294967296 * (b % 4294967296) % 18446744073709551616 / 4294967296 + a / 4294967296 * (b % 4294967296) % 4294967296) % 18446744073709551616 + a % 4294967296 * (b / 4294967296) % 4294967296) % 18446744073709551616
def tHi (a b : Int) : Int := (((a / 4294967296 * (b / 4294967296) % 18446744073709551616 + a / 4294967296 * (b % 4294967296) % 18446744073709551616 / 4294967296) % 18446744073709551616 + a % 4294967296 * (b / 4294967296) % 18446744073709551616 / 4294967296) % 18446744073709551616 + tMid a b / 4294967296) % 18446744073709551616
def tLo (a b : Int) : Int := (tMid a b * 4294967296 % 18446744073709551616 + a % 4294967296 * (b % 4294967296) % 4294967296) % 18446744073709551616
theorem tHi_range (a b : Int) : 0 ≤ tHi a b ∧ tHi a b < 18446744073709551616 := by unfold tHi; omega
theorem tLo_range (a b : Int) : 0 ≤ tLo a b ∧ tLo a b < 18446744073709551616 := by unfold tLo; omega
theorem rtimes_any (a b : Int) (w : World) (ha : 0 ≤ a ∧ a < 18446744073709551616) (hb : 0 ≤ b ∧ b < 18446744073709551616) :
    Calls Tryd.prog 107 #[.int .u64 a, .int .u64 b] w fun e w' => e = .returned (.agg #[.int .u64 (tHi a b), .int .u64 (tLo a b)]) ∧ Ext w w' := by
  have HA := hide ha
  have HB := hide hb
  obtain ⟨ha0, ha1⟩ := ha
  obtain ⟨hb0, hb1⟩ := hb
  go_enter Tryd.func107, Tryd.ntmps107
  go_wp2_with fail
  refine bodyPost_ret (results_cell_row rfl _ _ w.heap.size 152 _ (0, 0) _ rfl (heap_alloc_new w _) Tryd.underlying152 rfl (by kernel_rfl)) rfl ⟨?_, (Ext.refl _).alloc _⟩
  simp only [IntKind.wrap_u64, and32m, and32 a HA.out, and32 b HB.out]
  rfl
def lessB (h l h' l' : Int) : Bool := decide (h < h' ∨ h = h' ∧ l < l')
theorem rless_any (h l h' l' : Int) (w : World) :
    Calls Tryd.prog 105 #[.agg #[.int .u64 h, .int .u64 l], .agg #[.int .u64 h', .int .u64 l']] w fun e w' => e = .returned (.bool (lessB h l h' l')) ∧ Ext w w' := by
  rcases Int.lt_trichotomy h h' with c | c | c
  · have HV := hide (show lessB h l h' l' = true by simp [lessB, c])
    go_enter Tryd.func105, Tryd.ntmps105
    go_wp2_with fail
    go_ret
    exact ⟨by rw [HV.out]; rfl, ((Ext.refl _).alloc _).alloc _⟩
  · subst c
    have HV := hide (show lessB h l h l' = decide (l < l') by simp [lessB])
    go_enter Tryd.func105, Tryd.ntmps105
    go_wp2_with fail
    go_ret
    exact ⟨by rw [HV.out]; rfl, ((Ext.refl _).alloc _).alloc _⟩
  · have HV := hide (show lessB h l h' l' = false by simp [lessB]; omega)
    have c2 : (h == h') = false := by have : h ≠ h' := by omega
                                      simpa using this
    have c3 : decide (h < h') = false := by simp; omega
    go_enter Tryd.func105, Tryd.ntmps105
    go_wp2_with fail
    go_ret
    exact ⟨by rw [HV.out]; rfl, ((Ext.refl _).alloc _).alloc _⟩
def powHi (m : Int) (three : Bool) : Int := if three then (tHi (tLo m m) m + tHi m m * m % 18446744073709551616) % 18446744073709551616 else tHi m m
def powLo (m : Int) (three : Bool) : Int := if three then tLo (tLo m m) m else tLo m m
theorem rpower_any (m : Int) (three : Bool) (w : World) (hm : 0 ≤ m ∧ m < 18446744073709551616) :
    Calls Tryd.prog 106 #[.int .u64 m, .bool three] w fun e w' => e = .returned (.agg #[.int .u64 (powHi m three), .int .u64 (powLo m three)]) ∧ Ext w w' := by
  have hl := tLo_range m m
  obtain ⟨p, hp⟩ : ∃ p, tHi m m = p := ⟨_, rfl⟩
  obtain ⟨q, hq⟩ : ∃ q, tLo m m = q := ⟨_, rfl⟩
  have HM := hide hm
  have HP := hide hp
  have HQ := hide hq
  rw [hq] at hl
  have HL := hide hl
  clear hp hq hm hl
  cases three
  · go_enter Tryd.func106, Tryd.ntmps106
    go_wp2_with fail
    (with_reducible refine (rtimes_any m m _ HM.out HM.out).mono ?_)
    rintro e w1 ⟨rfl, hx1⟩
    rw [HP.out, HQ.out]
    have hB := hide ((Blk.new w 152 [.int .u64 0, .int .u64 0]).ext hx1)
    have HX := hide (((Ext.refl w).alloc _).trans hx1)
    have hlt : w.heap.size < w1.heap.size := by have := hx1.size; simp at this; omega
    have c0 := hB.out.cell 0
    have c1 := hB.out.cell 1
    have f0 := hB.out.free 0
    have f1 := hB.out.free 1
    clear hx1
    simp only [List.getElem?_cons_zero, List.getElem?_cons_succ] at c0 c1
    have HB2 := hide ((hB.out.set 0 (.int .u64 p)).set 1 (.int .u64 q))
    have HX2 := hide (Below.setCell (Below.setCell HX.out (p := ⟨w.heap.size, 0, none⟩) (Nat.le_refl _) (.int .u64 p)) (p := ⟨w.heap.size, 1, none⟩) (Nat.le_refl _) (.int .u64 q))
    go_wp2_with fail
    refine bodyPost_ret (results_cell_row rfl _ _ w.heap.size 152 #[.int .u64 p, .int .u64 q] (0, 0) _ rfl (HB2.out.alloc _) Tryd.underlying152 rfl (by kernel_rfl)) rfl ⟨by rw [powHi, powLo, if_neg (by decide), if_neg (by decide), HP.out, HQ.out], HX2.out.alloc (by simp [World.setCell]; omega) _⟩
  · obtain ⟨r, hr⟩ : ∃ r, tHi q m = r := ⟨_, rfl⟩
    obtain ⟨s, hs⟩ : ∃ s, tLo q m = s := ⟨_, rfl⟩
    have HR := hide hr
    have HS := hide hs
    clear hr hs
    go_enter Tryd.func106, Tryd.ntmps106
    go_wp2_with fail
    (with_reducible refine (rtimes_any m m _ HM.out HM.out).mono ?_)
    rintro e w1 ⟨rfl, hx1⟩
    rw [HP.out, HQ.out]
    have hB := hide ((Blk.new w 152 [.int .u64 0, .int .u64 0]).ext hx1)
    have HX := hide (((Ext.refl w).alloc _).trans hx1)
    have hlt : w.heap.size < w1.heap.size := by have := hx1.size; simp at this; omega
    clear hx1
    go_wp2_with fail
    (with_reducible refine (rtimes_any q m _ HL.out HM.out).mono ?_)
    rintro e w2 ⟨rfl, hx2⟩
    rw [HR.out, HS.out]
    have hB2 := hide ((hB.out.alloc (.cells #[.int .u64 p, .int .u64 q] 152)).ext hx2)
    have hB3 := hide ((Blk.new w1 152 [.int .u64 p, .int .u64 q]).ext hx2)
    have HX2 := hide ((HX.out.alloc (.cells #[.int .u64 p, .int .u64 q] 152)).trans hx2)
    have hlt2 : w1.heap.size < w2.heap.size := by have := hx2.size; simp at this; omega
    clear hx2
    have d0 : w2.cell? ⟨w1.heap.size, 0, none⟩ = some (.int .u64 p) := hB3.out.cell 0
    have d1 : w2.cell? ⟨w1.heap.size, 1, none⟩ = some (.int .u64 q) := hB3.out.cell 1
    have c0 : w2.cell? ⟨w.heap.size, 0, none⟩ = some (.int .u64 0) := hB2.out.cell 0
    have c1 : w2.cell? ⟨w.heap.size, 1, none⟩ = some (.int .u64 0) := hB2.out.cell 1
    have f0 := hB2.out.free 0
    have f1 := hB2.out.free 1
    have hlt3 : w.heap.size < w2.heap.size := by omega
    go_wp2_with fail
    obtain ⟨x, hx⟩ : ∃ x, IntKind.u64.wrap (r + IntKind.u64.wrap (p * m)) = x := ⟨_, rfl⟩
    rw [hx]
    rw [IntKind.wrap_u64, IntKind.wrap_u64] at hx
    have HB5 := hide (((hB2.out.set 0 (.int .u64 x)).set 1 (.int .u64 s)).alloc (.cells #[.int .u64 x, .int .u64 s] 152))
    have HX5 := hide (Ext.alloc (show Ext w _ from Below.setCell (Below.setCell HX2.out (p := ⟨w.heap.size, 0, none⟩) (Nat.le_refl _) (.int .u64 x)) (p := ⟨w.heap.size, 1, none⟩) (Nat.le_refl _) (.int .u64 s)) (.cells #[.int .u64 x, .int .u64 s] 152))
    refine bodyPost_ret (results_cell_row rfl _ _ w.heap.size 152 #[.int .u64 x, .int .u64 s] (0, 0) _ rfl HB5.out Tryd.underlying152 rfl (by kernel_rfl)) rfl ⟨by rw [powHi, powLo, if_pos rfl, if_pos rfl, HP.out, HQ.out, HR.out, HS.out, hx], HX5.out⟩
/-- the greatest number that fits, bit by bit -/
def rootF (hi : Int) (three : Bool) : Nat → Int → Int
  | 0, m => m
  | b + 1, m => rootF hi three b (if lessB hi 0 (powHi ((m + 2 ^ b) % 18446744073709551616) three) (powLo ((m + 2 ^ b) % 18446744073709551616) three) then m else (m + 2 ^ b) % 18446744073709551616)
def rootS (p : Int) (three : Bool) : Int := rootF (if three then p * 4294967296 % 18446744073709551616 else p) three 41 0
theorem rootF_range (hi : Int) (three : Bool) : ∀ (k : Nat) (m : Int), 0 ≤ m ∧ m < 18446744073709551616 → 0 ≤ rootF hi three k m ∧ rootF hi three k m < 18446744073709551616
  | 0, m, h => h
  | b + 1, m, h => by
    rw [rootF]
    refine rootF_range hi three b _ ?_
    split
    · exact h
    · omega
theorem nx_eq (m : Int) (q : Nat) (h : q ≤ 40) : IntKind.u64.wrap (m + IntKind.u64.wrap (2 ^ q)) = (m + 2 ^ q) % 18446744073709551616 := by
  rw [IntKind.wrap_u64, IntKind.wrap_u64]; omega
theorem lessB_two (a b c d : Int) : lessB a b c d = true ∨ lessB a b c d = false := by cases lessB a b c d <;> simp
set_option maxHeartbeats 1000000 in
theorem rroot_any (p : Int) (three : Bool) (w : World) (hp : 0 ≤ p ∧ p < 18446744073709551616) :
    Calls Tryd.prog 102 #[.int .u64 p, .bool three] w fun e w' => e = .returned (.int .u64 (rootS p three)) ∧ Ext w w' := by
  obtain ⟨h0, h1⟩ := hp
  obtain ⟨W, hW⟩ : ∃ W, (if three then p * 4294967296 % 18446744073709551616 else p) = W := ⟨_, rfl⟩
  have HS := hide (show rootS p three = rootF W three 41 0 by rw [rootS, hW])
  have HWW := hide hW
  clear hW
  cases three
  · have e := HWW.out
    simp only [Bool.false_eq_true, if_false] at e
    obtain rfl := e
    go_enter Tryd.func102, Tryd.ntmps102
    go_wp2_with fail
    skip
    go_loopw [6, 7] (fun m i wr => ∃ mm j : Int, m = .int .u64 mm ∧ i = .int .i64 j ∧ -1 ≤ j ∧ j ≤ 40 ∧ 0 ≤ mm ∧ mm < 18446744073709551616 ∧ Hid (rootF p false (j + 1).toNat mm = rootF p false 41 0) ∧ Hid (Blk wr w.heap.size 152 [.int .u64 p, .int .u64 0]) ∧ Hid (Ext w wr)) (fun _ i _ => (intOf i + 1).toNat)
    case atStart => exact ⟨0, 40, rfl, rfl, by omega, by omega, by omega, by omega, hide rfl, hide (Blk.new w _ _), hide ((Ext.refl w).alloc _)⟩
    case round =>
      obtain ⟨mm, j, rfl, rfl, hj0, hj1, hm0, hm1, HR, HB, HX⟩ := hrel
      by_cases hj : 0 ≤ j
      · obtain ⟨q, rfl⟩ := Int.eq_ofNat_of_zero_le hj
        have HQ := hide (nx_eq mm q (by omega))
        have HST : Hid (rootF p false ((q : Int) + 1).toNat mm = rootF p false q (if lessB p 0 (powHi ((mm + 2 ^ q) % 18446744073709551616) false) (powLo ((mm + 2 ^ q) % 18446744073709551616) false) then mm else (mm + 2 ^ q) % 18446744073709551616)) := by
          rw [show ((q : Int) + 1).toNat = q + 1 by omega]; exact hide rfl
        have hnx : 0 ≤ (mm + 2 ^ q) % 18446744073709551616 ∧ (mm + 2 ^ q) % 18446744073709551616 < 18446744073709551616 := by omega
        obtain ⟨nx, hnn⟩ : ∃ nx, (mm + 2 ^ q) % 18446744073709551616 = nx := ⟨_, rfl⟩
        rw [hnn] at HQ HST hnx
        have HNX := hide hnx
        obtain ⟨nx0, nx1⟩ := hnx
        clear hnn
        have c0 := fun p' => HB.out.cls 0 (show _ = some (Value.int .u64 p) from rfl) p'
        have c1 := fun p' => HB.out.cls 1 (show _ = some (Value.int .u64 0) from rfl) p'
        have HC := hide (lessB_two p 0 (powHi nx false) (powLo nx false))
        go_wp2_with fail
        rw [HQ.out]
        refine wp_region_wm [0, 1, 2, 3, 4, 5] (by kernel_rfl) (by kernel_rfl) (by kernel_rfl) (by kernel_rfl) ?_
        rcases HC.out with hc | hc
        all_goals
          have HCC := hide hc
          clear hc
          repeat (first
            | (refine wm_rd rfl rfl (fun K hK => ?_); go_simp; refine hK _ ?_; clear hK K)
            | (refine wm_ext rfl rfl (fun K hK => ?_); go_simp; first | (go_at_call 106; (with_reducible refine (rpower_any nx false _ HNX.out).mono ?_); rintro e wq ⟨rfl, hxq⟩; have HX1 := hide (HX.out.trans ((Ext.refl _).drew.trans hxq)); have HB1 := hide (HB.out.drew.ext hxq); refine hK _ _ hxq ?_; clear hK K hxq) | (go_at_call 105; (with_reducible refine (rless_any p 0 (powHi nx false) (powLo nx false) _).mono ?_); rintro e wq2 ⟨rfl, hxq⟩; rw [HCC.out]; have HX2 := hide (HX1.out.trans hxq); have HB2 := hide (HB1.out.ext hxq); refine hK _ _ hxq ?_; clear hK K hxq)))
          refine wm_nil ?_
          clear c0 c1
          go_wp2_with fail
          go_roundw
          case rel => exact ⟨_, (q : Int) - 1, rfl, rfl, by omega, by omega, by first | exact nx0 | exact hm0, by first | exact nx1 | exact hm1, by rw [show ((q : Int) - 1 + 1).toNat = q by omega, ← HR.out, HST.out, HCC.out]; exact hide rfl, HB2, HX2⟩
          case measure => simp [intOf]
      · obtain rfl : j = -1 := by omega
        go_wp2_with fail
        go_ret
        exact ⟨by rw [HS.out, ← HR.out]; rfl, HX.out⟩
  · have e := HWW.out
    simp only [if_true] at e
    have EE := hide e; clear e
    go_enter Tryd.func102, Tryd.ntmps102
    go_wp2_with fail
    rw [IntKind.wrap_u64, EE.out]
    go_loopw [6, 7] (fun m i wr => ∃ mm j : Int, m = .int .u64 mm ∧ i = .int .i64 j ∧ -1 ≤ j ∧ j ≤ 40 ∧ 0 ≤ mm ∧ mm < 18446744073709551616 ∧ Hid (rootF W true (j + 1).toNat mm = rootF W true 41 0) ∧ Hid (Blk wr w.heap.size 152 [.int .u64 W, .int .u64 0]) ∧ Hid (Ext w wr)) (fun _ i _ => (intOf i + 1).toNat)
    case atStart => exact ⟨0, 40, rfl, rfl, by omega, by omega, by omega, by omega, hide rfl, hide (Blk.new w _ _), hide ((Ext.refl w).alloc _)⟩
    case round =>
      obtain ⟨mm, j, rfl, rfl, hj0, hj1, hm0, hm1, HR, HB, HX⟩ := hrel
      by_cases hj : 0 ≤ j
      · obtain ⟨q, rfl⟩ := Int.eq_ofNat_of_zero_le hj
        have HQ := hide (nx_eq mm q (by omega))
        have HST : Hid (rootF W true ((q : Int) + 1).toNat mm = rootF W true q (if lessB W 0 (powHi ((mm + 2 ^ q) % 18446744073709551616) true) (powLo ((mm + 2 ^ q) % 18446744073709551616) true) then mm else (mm + 2 ^ q) % 18446744073709551616)) := by
          rw [show ((q : Int) + 1).toNat = q + 1 by omega]; exact hide rfl
        have hnx : 0 ≤ (mm + 2 ^ q) % 18446744073709551616 ∧ (mm + 2 ^ q) % 18446744073709551616 < 18446744073709551616 := by omega
        obtain ⟨nx, hnn⟩ : ∃ nx, (mm + 2 ^ q) % 18446744073709551616 = nx := ⟨_, rfl⟩
        rw [hnn] at HQ HST hnx
        have HNX := hide hnx
        obtain ⟨nx0, nx1⟩ := hnx
        clear hnn
        have c0 := fun p' => HB.out.cls 0 (show _ = some (Value.int .u64 W) from rfl) p'
        have c1 := fun p' => HB.out.cls 1 (show _ = some (Value.int .u64 0) from rfl) p'
        have HC := hide (lessB_two W 0 (powHi nx true) (powLo nx true))
        go_wp2_with fail
        rw [HQ.out]
        refine wp_region_wm [0, 1, 2, 3, 4, 5] (by kernel_rfl) (by kernel_rfl) (by kernel_rfl) (by kernel_rfl) ?_
        rcases HC.out with hc | hc
        all_goals
          have HCC := hide hc
          clear hc
          repeat (first
            | (refine wm_rd rfl rfl (fun K hK => ?_); go_simp; refine hK _ ?_; clear hK K)
            | (refine wm_ext rfl rfl (fun K hK => ?_); go_simp; first | (go_at_call 106; (with_reducible refine (rpower_any nx true _ HNX.out).mono ?_); rintro e wq ⟨rfl, hxq⟩; have HX1 := hide (HX.out.trans ((Ext.refl _).drew.trans hxq)); have HB1 := hide (HB.out.drew.ext hxq); refine hK _ _ hxq ?_; clear hK K hxq) | (go_at_call 105; (with_reducible refine (rless_any W 0 (powHi nx true) (powLo nx true) _).mono ?_); rintro e wq2 ⟨rfl, hxq⟩; rw [HCC.out]; have HX2 := hide (HX1.out.trans hxq); have HB2 := hide (HB1.out.ext hxq); refine hK _ _ hxq ?_; clear hK K hxq)))
          refine wm_nil ?_
          clear c0 c1
          go_wp2_with fail
          go_roundw
          case rel => exact ⟨_, (q : Int) - 1, rfl, rfl, by omega, by omega, by first | exact nx0 | exact hm0, by first | exact nx1 | exact hm1, by rw [show ((q : Int) - 1 + 1).toNat = q by omega, ← HR.out, HST.out, HCC.out]; exact hide rfl, HB2, HX2⟩
          case measure => simp [intOf]
      · obtain rfl : j = -1 := by omega
        go_wp2_with fail
        go_ret
        exact ⟨by rw [HS.out, ← HR.out]; rfl, HX.out⟩
end Go.Proofs.YtamlngdjbmndlaaDoor
