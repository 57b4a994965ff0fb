/- The law ShaRoots walked. -/
import Derived.Test.YtmflanhcddehlaaDoorS15
import Derived.Test.YtmflanhcddehlaaDoorS18
import Derived.Test.YtmflanhcddehlaaDoorS6
import Derived.Test.YtmflanhcddehlaaDoorFlat
import Derived.Test.YtmflanhcddehlaaDoorEqs
namespace Go.Proofs.YtmflanhcddehlaaDoor
open Go.RowKit Go.Gr
set_option linter.unusedVariables false
attribute [local go_sem] rdOp rdAt rdUpon Cls
/-- the cube root of this prime has these first bits -/
def okC (k r : Nat) : Bool :=
  let p := pT.getD k 0
  let x := (r : Int) * 4294967296 + kT.getD k 0
  !(decide ((r : Int) * r * r ≤ p) && decide (p < ((r : Int) + 1) * (r + 1) * (r + 1))) || (decide (cHi x < p * 4294967296) && (decide (p * 4294967296 < cHi (x + 1)) || (cHi (x + 1) == p * 4294967296 && decide (0 < cLo (x + 1)))))
def okS (k r : Nat) : Bool :=
  let p := pT.getD k 0
  let x := (r : Int) * 4294967296 + hT.getD k 0
  !(decide ((r : Int) * r ≤ p) && decide (p < ((r : Int) + 1) * (r + 1))) || (decide (tHi x x < p) && (tHi (x + 1) (x + 1) == p && decide (0 < lLo (x + 1) (x + 1))))
theorem okS_all : ((List.range 8).all fun k => (List.range 5).all fun r => okS k r) = true := by decide +kernel
theorem okC_all : ((List.range 64).all fun k => (List.range 7).all fun r => okC k r) = true := by decide +kernel
theorem okC_at {k r : Nat} (hk : k < 64) (hr : r < 7) (h1 : (r : Int) * r * r ≤ pT.getD k 0) (h2 : pT.getD k 0 < ((r : Int) + 1) * (r + 1) * (r + 1)) {x : Int} (hx : (r : Int) * 4294967296 + kT.getD k 0 = x) :
    cHi x < pT.getD k 0 * 4294967296 ∧ (pT.getD k 0 * 4294967296 < cHi (x + 1) ∨ (cHi (x + 1) = pT.getD k 0 * 4294967296 ∧ 0 < cLo (x + 1))) := by
  have h := List.all_eq_true.1 (List.all_eq_true.1 okC_all k (List.mem_range.2 hk)) r (List.mem_range.2 hr)
  subst hx
  unfold okC at h
  simp only [h1, h2, decide_true, Bool.and_self, Bool.not_true, Bool.false_or, Bool.and_eq_true, Bool.or_eq_true, decide_eq_true_eq, beq_iff_eq] at h
  exact h
theorem okS_at {k r : Nat} (hk : k < 8) (hr : r < 5) (h1 : (r : Int) * r ≤ pT.getD k 0) (h2 : pT.getD k 0 < ((r : Int) + 1) * (r + 1)) {x : Int} (hx : (r : Int) * 4294967296 + hT.getD k 0 = x) :
    tHi x x < pT.getD k 0 ∧ tHi (x + 1) (x + 1) = pT.getD k 0 ∧ 0 < lLo (x + 1) (x + 1) := by
  have h := List.all_eq_true.1 (List.all_eq_true.1 okS_all k (List.mem_range.2 hk)) r (List.mem_range.2 hr)
  subst hx
  unfold okS at h
  simp only [h1, h2, decide_true, Bool.and_self, Bool.not_true, Bool.false_or, Bool.and_eq_true, decide_eq_true_eq, beq_iff_eq] at h
  exact h
end Go.Proofs.YtmflanhcddehlaaDoor
namespace Go.Gr
open Go.RowKit
set_option linter.unusedVariables false
theorem Upd.trans' {B g g' : Nat} {a b c : World} (h : Upd g a b) (k : Upd g' b c) (h1 : B ≤ g) (h2 : B ≤ g') (h3 : B ≤ a.heap.size) : Below B a c :=
  Below.trans (h.below h1 h3) (k.below h2 (Nat.le_trans h3 h.size))
end Go.Gr
namespace Go.Proofs.YtmflanhcddehlaaDoor
open Go.RowKit Go.Gr
set_option linter.unusedVariables false
attribute [local go_sem] rdOp rdAt rdUpon Cls
def W2 (a b : Int) : List Value := [.int .u64 a, .int .u64 b]
theorem W2_one (a b : Int) : ∀ v ∈ W2 a b, v.oneCell' = true := by intro v hv; simp [W2] at hv; rcases hv with rfl | rfl <;> rfl
end Go.Proofs.YtmflanhcddehlaaDoor
namespace Go.Gr
open Go.RowKit
set_option linter.unusedVariables false
theorem Rd.cell_at {w : World} {ad : Addr} {xs : List Value} (h : Rd w (some ad) xs) (i : Nat) {u : Value} (hu : xs[i]? = some u) : w.cell? (ad.add i) = some u := by
  obtain ⟨ad', e, hc⟩ := h i u hu
  cases e; exact hc
end Go.Gr
namespace Go.Proofs.YtmflanhcddehlaaDoor
open Go.RowKit Go.Gr
set_option linter.unusedVariables false
attribute [local go_sem] rdOp rdAt rdUpon Cls
set_option maxRecDepth 20000 in
set_option maxHeartbeats 16000000 in
theorem roots_law (w : World) (hl : Laid w) (d : Int) (hd : 0 ≤ d ∧ d < 256) : Calls Tryd.prog 6 #[.int .u8 d] w fun e w' => e = .returned (.bool true) ∧ Ext w w' := by
  have HL := hide hl
  clear hl
  obtain ⟨hd0, hd1⟩ := hd
  obtain ⟨k, hk⟩ : ∃ k : Nat, d % 64 = k := ⟨(d % 64).toNat, by omega⟩
  obtain ⟨k8, hk8⟩ : ∃ k : Nat, d % 8 = k := ⟨(d % 8).toNat, by omega⟩
  have hk64 : k < 64 := by omega
  have hkk8 : k8 < 8 := by omega
  have t64 : Int.tmod d 64 = k := by rw [Int.tmod_eq_emod_of_nonneg hd0]; exact hk
  have t8 : Int.tmod d 8 = k8 := by rw [Int.tmod_eq_emod_of_nonneg hd0]; exact hk8
  go_enter Tryd.func6, Tryd.ntmps6
  go_wp2_with fail
  refine (primes_any 64 _ (by decide) (by decide)).mono ?_
  rintro e w1 ⟨pv, rfl, ho, hx1⟩
  obtain ⟨A, c, rfl, hr1, hlc, _⟩ := ho.form
  have HR1 := hide hr1
  have HX1 := hide hx1
  have HPL : Hid ((u64v (pT.take 64)).length = 64) := hide (by decide)
  rw [HPL.out]
  obtain ⟨ad, rfl, hcell⟩ := hr1 k _ (pT_take 64 k hk64 (by decide))
  have hcell8 := HR1.out.cell_at k8 (pT_take 64 k8 (by omega) (by decide))
  clear ho hr1 hx1
  obtain ⟨p, hp⟩ : ∃ p, pT.getD k 0 = p := ⟨_, rfl⟩
  obtain ⟨p8, hp8⟩ : ∃ p, pT.getD k8 0 = p := ⟨_, rfl⟩
  have hpr : 2 ≤ p ∧ p < 312 := by
    have h : ∀ k < 64, 2 ≤ pT.getD k 0 ∧ pT.getD k 0 < 312 := by decide +kernel
    rw [← hp]; exact h k hk64
  have hpr8 : 2 ≤ p8 ∧ p8 < 20 := by
    have h : ∀ k < 8, 2 ≤ pT.getD k 0 ∧ pT.getD k 0 < 20 := by decide +kernel
    rw [← hp8]; exact h k8 hkk8
  rw [hp] at hcell
  rw [hp8] at hcell8
  have HP := hide hp
  have HP8 := hide hp8
  have l64 : (k : Int) < 64 := by omega
  have l8 : (k8 : Int) < 64 := by omega
  clear hp hp8
  go_wp2_with fail
  go_loop [5] (fun v => ∃ r : Nat, v = .int .u64 r ∧ r < 7 ∧ Hid ((r : Int) * r * r ≤ p)) (fun v => 7 - (intOf v).toNat)
  case atStart => exact ⟨0, rfl, by omega, hide (by simp; omega)⟩
  case round =>
    obtain ⟨r, rfl, hr7, HR⟩ := hrel
    have hcz : ((r : Int) + 1) * (r + 1) ≤ 49 := by
      rcases (show r = 0 ∨ r = 1 ∨ r = 2 ∨ r = 3 ∨ r = 4 ∨ r = 5 ∨ r = 6 by omega) with rfl | rfl | rfl | rfl | rfl | rfl | rfl <;> decide
    have hcc : ((r : Int) + 1) * (r + 1) * (r + 1) ≤ 343 := by
      rcases (show r = 0 ∨ r = 1 ∨ r = 2 ∨ r = 3 ∨ r = 4 ∨ r = 5 ∨ r = 6 by omega) with rfl | rfl | rfl | rfl | rfl | rfl | rfl <;> decide
    have v1 : IntKind.u64.wrap ((r : Int) + 1) = (r : Int) + 1 := by simp only [IntKind.wrap_u64]; omega
    have v2 : IntKind.u64.wrap (((r : Int) + 1) * ((r : Int) + 1)) = ((r : Int) + 1) * ((r : Int) + 1) := by
      have : 0 ≤ ((r : Int) + 1) * ((r : Int) + 1) := Int.mul_nonneg (by omega) (by omega)
      simp only [IntKind.wrap_u64]; omega
    have v3 : IntKind.u64.wrap (((r : Int) + 1) * ((r : Int) + 1) * ((r : Int) + 1)) = ((r : Int) + 1) * ((r : Int) + 1) * ((r : Int) + 1) := by
      have : 0 ≤ ((r : Int) + 1) * ((r : Int) + 1) * ((r : Int) + 1) := Int.mul_nonneg (Int.mul_nonneg (by omega) (by omega)) (by omega)
      simp only [IntKind.wrap_u64]; omega
    by_cases hc : ((r : Int) + 1) * ((r : Int) + 1) * ((r : Int) + 1) ≤ p
    · have hr6 : r ≠ 6 := by
        rintro rfl
        have : ((6 : Nat) : Int) = 6 := rfl
        rw [this] at hc
        omega
      go_wp2_with fail
      go_round
      case rel => exact ⟨r + 1, by go_num, by omega, by rw [show ((r + 1 : Nat) : Int) = (r : Int) + 1 by omega]; exact hide hc⟩
      case measure => simp [intOf]; omega
    · obtain ⟨kk, hkk⟩ : ∃ q, kT.getD k 0 = q := ⟨_, rfl⟩
      have hkr := isW_at (l := kT) (by unfold isW; decide) k
      have hck : (u32v kT)[k]? = some (.int .u32 kk) := by rw [← hkk]; exact u32v_at kT k hk64
      rw [hkk] at hkr
      have HT := hide (okC_at hk64 hr7 (by rw [HP.out]; exact HR.out) (by rw [HP.out]; omega) (hkk ▸ rfl : (r : Int) * 4294967296 + kT.getD k 0 = (r : Int) * 4294967296 + kk))
      rw [HP.out] at HT
      clear hkk hcz hcc
      go_wp2_with fail
      (with_reducible refine (constants_any _ (HL.out.ext HX1.out)).mono ?_)
      rintro e w2 ⟨rfl, hx2⟩
      have HX2 : Hid (Ext w w2) := hide (HX1.out.trans hx2)
      have HY2 := hide hx2
      have HKL : Hid ((u32v kT).length = 64) := hide (by decide)
      have HN2 : Hid (Blk (w2.alloc (.cells (Z 64).toArray 26)) w2.heap.size 26 (Z 64)) := hide (Blk.new _ _ _)
      have hone : ∀ v ∈ u32v kT, v.oneCell' = true := u32v_one _
      generalize hX : (r : Int) * 4294967296 + kk = x at HT
      have hxr : 0 ≤ x ∧ x < 30064771072 := by omega
      have x1 : IntKind.u64.wrap ((r : Int) * 4294967296) = (r : Int) * 4294967296 := by simp only [IntKind.wrap_u64]; omega
      have x2 : IntKind.u64.wrap ((r : Int) * 4294967296 + kk) = x := by rw [hX]; simp only [IntKind.wrap_u64]; omega
      have x3 : IntKind.u64.wrap kk = kk := by simp only [IntKind.wrap_u64]; omega
      have x4 : IntKind.u64.wrap (x + 1) = x + 1 := by simp only [IntKind.wrap_u64]; omega
      have HXX := hide hX
      clear hX hx2
      go_wp2_with (refine wpList_storeH rfl 26 (.tmp 6) (.tmp 29) rfl HN2.out rfl rfl (by rw [HKL.out]; kernel_rfl) (by rw [HKL.out]; rfl) hone ?_; intro w3 hb3 hu3; have HX3 : Hid (Ext w w3) := hide (Upd.new (HX2.out.alloc _) HX2.out.size hu3); have HY3 : Hid (Ext w1 w3) := hide (Upd.new (HY2.out.alloc _) HY2.out.size hu3); have ck := (hb3.cell k).trans hck; clear hb3 hu3)
      obtain ⟨aH, haH⟩ : ∃ q, cHi x = q := ⟨_, rfl⟩
      obtain ⟨aL, haL⟩ : ∃ q, cLo x = q := ⟨_, rfl⟩
      obtain ⟨bH, hbH⟩ : ∃ q, cHi (x + 1) = q := ⟨_, rfl⟩
      obtain ⟨bL, hbL⟩ : ∃ q, cLo (x + 1) = q := ⟨_, rfl⟩
      have HC1 := hide (cube_any x w3 (by omega))
      rw [haH, haL] at HC1
      have HC2 := hide (fun v => cube_any (x + 1) v (by omega))
      simp only [haH, hbH, hbL] at HT
      simp only [hbH, hbL] at HC2
      clear haH haL hbH hbL
      (with_reducible refine HC1.out.mono ?_)
      rintro e w4 ⟨rfl, hx4⟩
      have HX4 : Hid (Ext w w4) := hide (HX3.out.trans hx4)
      have HY4 : Hid (Ext w1 w4) := hide (HY3.out.trans hx4)
      clear hx4
      go_wp2_with fail
      (with_reducible refine (HC2.out _).mono ?_)
      rintro e w5 ⟨rfl, hx5⟩
      have HX5 : Hid (Ext w w5) := hide (HX4.out.trans hx5)
      have HY5 : Hid (Ext w1 w5) := hide (HY4.out.trans hx5)
      clear hx5
      have HZ8 : Hid (Blk ((w5.alloc (.cells (W2 0 0).toArray 44)).alloc (.cells (W2 0 0).toArray 44)) w5.heap.size 44 (W2 0 0)) := hide ((Blk.new _ _ _).alloc _)
      have HZ9 : Hid (Blk ((w5.alloc (.cells (W2 0 0).toArray 44)).alloc (.cells (W2 0 0).toArray 44)) (w5.heap.size + 1) 44 (W2 0 0)) := hide (Blk.new' _ _ (by simp))
      have HXz : Hid (Ext w5 ((w5.alloc (.cells (W2 0 0).toArray 44)).alloc (.cells (W2 0 0).toArray 44))) := hide (((Ext.refl w5).alloc _).alloc _)
      have y1 : IntKind.u64.wrap (p * 4294967296) = p * 4294967296 := by simp only [IntKind.wrap_u64]; omega
      obtain ⟨P, hP⟩ : ∃ P, p * 4294967296 = P := ⟨_, rfl⟩
      rw [hP] at HT
      rw [hP] at y1
      have hPP := hP
      have g1 : decide (P < aH) = false := by have := HT.out.1; simp; omega
      have g2 : (aH == P) = false := by have := HT.out.1; have : aH ≠ P := by omega
                                        simpa using this
      have g3 : decide (bH < P) = false := by have := HT.out.2; simp; omega
      have g4 : (bH == P) = false ∨ ((bH == P) = true ∧ (bL == 0) = false) := by
        rcases HT.out.2 with h | ⟨h, h2⟩
        · left
          have : bH ≠ P := by omega
          simpa using this
        · right
          have : bL ≠ 0 := by omega
          exact ⟨by simpa using h, by simpa using this⟩
      have HG4 := hide g4
      clear g4 hPP
      have HSt : Hid (∀ (w7 : World), Ext w1 w7 → Ext w w7 → w7.cell? (ad.add k8) = some (.int .u64 p8)) := hide fun w7 h _ => (Below.cell h (cell_lt hcell8)).trans hcell8
      go_wp2_with (first
        | (refine wpList_storeH rfl 44 (.tmp 8) (.tmp 39) (cs := W2 aH aL) rfl HZ8.out rfl rfl (by kernel_rfl) rfl (W2_one _ _) ?_; intro w6 hb6 hu6)
        | (refine wpList_storeH rfl 44 (.tmp 9) (.tmp 42) (cs := W2 bH bL) rfl (HZ9.out.upd hu6 (by omega)) rfl rfl (by kernel_rfl) rfl (W2_one _ _) ?_; intro w7 hb7 hu7; have hb8 := hb6.upd hu7 (by omega); have ca0 : w7.cell? ⟨w5.heap.size, 0, none⟩ = some (.int .u64 aH) := hb8.cell 0; have ca1 : w7.cell? ⟨w5.heap.size, 1, none⟩ = some (.int .u64 aL) := hb8.cell 1; have cb0 : w7.cell? ⟨w5.heap.size + 1, 0, none⟩ = some (.int .u64 bH) := hb7.cell 0; have cb1 : w7.cell? ⟨w5.heap.size + 1, 1, none⟩ = some (.int .u64 bL) := hb7.cell 1; have HX7 : Hid (Ext w5 w7) := hide (Upd.new (Upd.new HXz.out (Nat.le_refl _) hu6) (by omega) hu7); have HB8 := hide hb8; have HB7 := hide hb7; have hc8 := HSt.out w7 (HY5.out.trans HX7.out) (HX5.out.trans HX7.out); clear hb6 hu6 hb7 hu7 hb8; rcases HG4.out with g4 | ⟨g4, g5⟩))
      all_goals
        have HX7w : Hid (Ext w w7) := hide (HX5.out.trans HX7.out)
        clear ca0 ca1 cb0 cb1 g1 g2 g3 y1 x1 x2 x3 x4
        go_wp2_with fail
        go_loop [5] (fun v => ∃ r : Nat, v = .int .u64 r ∧ r < 5 ∧ Hid ((r : Int) * r ≤ p8)) (fun v => 5 - (intOf v).toNat)
        case atStart => exact ⟨0, rfl, by omega, hide (by simp; omega)⟩
        case round =>
          obtain ⟨s, rfl, hs5, HRS⟩ := hrel
          have hcz : ((s : Int) + 1) * (s + 1) ≤ 25 := by
            rcases (show s = 0 ∨ s = 1 ∨ s = 2 ∨ s = 3 ∨ s = 4 by omega) with rfl | rfl | rfl | rfl | rfl <;> decide
          have z1 : IntKind.u64.wrap ((s : Int) + 1) = (s : Int) + 1 := by simp only [IntKind.wrap_u64]; omega
          have z2 : IntKind.u64.wrap (((s : Int) + 1) * ((s : Int) + 1)) = ((s : Int) + 1) * ((s : Int) + 1) := by
            have : 0 ≤ ((s : Int) + 1) * ((s : Int) + 1) := Int.mul_nonneg (by omega) (by omega)
            simp only [IntKind.wrap_u64]; omega
          by_cases hc2 : ((s : Int) + 1) * ((s : Int) + 1) ≤ p8
          · have hs4 : s ≠ 4 := by
              rintro rfl
              have : ((4 : Nat) : Int) = 4 := rfl
              rw [this] at hc2
              omega
            go_wp2_with fail
            go_round
            case rel => exact ⟨s + 1, by go_num, by omega, by rw [show ((s + 1 : Nat) : Int) = (s : Int) + 1 by omega]; exact hide hc2⟩
            case measure => simp [intOf]; omega
          · obtain ⟨hh, hhh⟩ : ∃ q, hT.getD k8 0 = q := ⟨_, rfl⟩
            have hhr := isW_at (l := hT) (by unfold isW; decide) k8
            have hch : (u32v hT)[k8]? = some (.int .u32 hh) := by rw [← hhh]; exact u32v_at hT k8 hkk8
            rw [hhh] at hhr
            have HT2 := hide (okS_at hkk8 hs5 (by rw [HP8.out]; exact HRS.out) (by rw [HP8.out]; omega) (hhh ▸ rfl : (s : Int) * 4294967296 + hT.getD k8 0 = (s : Int) * 4294967296 + hh))
            rw [HP8.out] at HT2
            clear hhh hcz
            go_wp2_with fail
            (with_reducible refine (start_any _ (HL.out.ext HX7w.out)).mono ?_)
            rintro e w8 ⟨rfl, hx8⟩
            have HX8 : Hid (Ext w w8) := hide (HX7w.out.trans hx8)
            have HBa8 := hide (HB8.out.ext hx8)
            have HBb8 := hide (HB7.out.ext hx8)
            have HHL : Hid ((u32v hT).length = 8) := hide (by decide)
            have HN8 : Hid (Blk (w8.alloc (.cells (Z 8).toArray 23)) w8.heap.size 23 (Z 8)) := hide (Blk.new _ _ _)
            have hgl := HBb8.out.lt
            have hgl2 : w5.heap.size < w8.heap.size := by omega
            have hone8 : ∀ v ∈ u32v hT, v.oneCell' = true := u32v_one _
            generalize hX8 : (s : Int) * 4294967296 + hh = y at HT2
            have hyr : 0 ≤ y ∧ y < 30064771072 := by omega
            have u1 : IntKind.u64.wrap ((s : Int) * 4294967296) = (s : Int) * 4294967296 := by simp only [IntKind.wrap_u64]; omega
            have u2 : IntKind.u64.wrap ((s : Int) * 4294967296 + hh) = y := by rw [hX8]; simp only [IntKind.wrap_u64]; omega
            have u3 : IntKind.u64.wrap hh = hh := by simp only [IntKind.wrap_u64]; omega
            have u4 : IntKind.u64.wrap (y + 1) = y + 1 := by simp only [IntKind.wrap_u64]; omega
            have HYY := hide hX8
            clear hX8 hx8
            go_wp2_with (refine wpList_storeH rfl 23 (.tmp 10) (.tmp 93) rfl HN8.out rfl rfl (by rw [HHL.out]; kernel_rfl) (by rw [HHL.out]; rfl) hone8 ?_; intro w9 hb9 hu9; have HX9 : Hid (Ext w w9) := hide (Upd.new (HX8.out.alloc _) HX8.out.size hu9); have HBa9 := hide ((HBa8.out.alloc _).upd hu9 (by omega)); have HBb9 := hide ((HBb8.out.alloc _).upd hu9 (by omega)); have ck9 := (hb9.cell k8).trans hch; clear hb9 hu9)
            obtain ⟨dH, hdH⟩ : ∃ q, tHi y y = q := ⟨_, rfl⟩
            obtain ⟨fH, hfH⟩ : ∃ q, tHi (y + 1) (y + 1) = q := ⟨_, rfl⟩
            obtain ⟨dL, hdL⟩ : ∃ q, lLo y y = q := ⟨_, rfl⟩
            obtain ⟨fL, hfL⟩ : ∃ q, lLo (y + 1) (y + 1) = q := ⟨_, rfl⟩
            have HC3 := hide (times_any y y w9 (by omega) (by omega))
            have HC4 := hide (fun v => times_any (y + 1) (y + 1) v (by omega) (by omega))
            simp only [hdH, hdL] at HC3
            simp only [hfH, hfL] at HC4
            simp only [hdH, hfH, hfL] at HT2
            clear hdH hfH hdL hfL
            (with_reducible refine HC3.out.mono ?_)
            rintro e wa ⟨rfl, hxa⟩
            have HXa : Hid (Ext w wa) := hide (HX9.out.trans hxa)
            have HBaa := hide (HBa9.out.ext hxa)
            have HBba := hide (HBb9.out.ext hxa)
            clear hxa
            go_wp2_with fail
            (with_reducible refine (HC4.out _).mono ?_)
            rintro e wb ⟨rfl, hxb⟩
            have HXb : Hid (Ext w wb) := hide (HXa.out.trans hxb)
            have HBab := hide (HBaa.out.ext hxb)
            have HBbb := hide (HBba.out.ext hxb)
            clear hxb
            have j1 : decide (dH < p8) = true := by simpa using HT2.out.1
            obtain ⟨_, hfe, hfl⟩ := HT2.out
            have j2 : decide (p8 < fH) = false := by simp; omega
            have j3 : (fH == p8) = true := by simpa using hfe
            have j4 : decide (0 < fL) = true := by simpa using hfl
            clear hfe hfl
            have hgb := HBbb.out.lt
            have hw5 := HX5.out.size
            have hwb := HXb.out.size
            have hgb2 : w5.heap.size < wb.heap.size := by omega
            clear u1 u2 u3 u4 z1 z2 v1 v2 v3 hyr hhr hc2
            dsimp only
            have tok : True := trivial
            go_wp2_with (have zz := tok; clear zz tok; refine wpList_storeH rfl 44 (.tmp 8) (.tmp 104) (cs := W2 dH dL) rfl HBab.out rfl rfl (by kernel_rfl) rfl (W2_one _ _) ?_; intro wc hbc huc; refine wpList_storeH rfl 44 (.tmp 9) (.tmp 109) (cs := W2 fH fL) rfl (HBbb.out.upd huc (by omega)) rfl rfl (by kernel_rfl) rfl (W2_one _ _) ?_; intro wd hbd hud; have hbe := hbc.upd hud (by omega); have ma0 : wd.cell? ⟨w5.heap.size, 0, none⟩ = some (.int .u64 dH) := hbe.cell 0; have ma1 : wd.cell? ⟨w5.heap.size, 1, none⟩ = some (.int .u64 dL) := hbe.cell 1; have mb0 : wd.cell? ⟨w5.heap.size + 1, 0, none⟩ = some (.int .u64 fH) := hbd.cell 0; have mb1 : wd.cell? ⟨w5.heap.size + 1, 1, none⟩ = some (.int .u64 fL) := hbd.cell 1; have HXd : Hid (Ext w wd) := hide (Below.trans HXb.out ((huc.trans' hud) (by omega) (by omega) (by omega))); clear hbc huc hbd hud hbe)
            (with_reducible refine (shown_any wd (HL.out.ext HXd.out)).mono ?_)
            rintro e we ⟨rfl, hxe⟩
            go_wp2_with fail
            go_ret
            exact ⟨rfl, HXd.out.trans hxe⟩
end Go.Proofs.YtmflanhcddehlaaDoor
