/- Lists of waiters: the reference's Owners, Same, place, limited, some. -/
import Derived.Test.YteecgieigjfjiaaW13
namespace Go.Proofs.Yteecgieigjfjiaa
open Go.RowKit Go.Gr Go.Wl
set_option linter.unusedVariables false
set_option linter.unusedSimpArgs false
attribute [local go_sem] rdOp rdAt rdUpon Cls forall_fr
theorem u32s_at {w : World} {A : Option Addr} {l : List Int} (h : Rd w A (u32s l)) {k : Nat} (hk : k < l.length) : ∃ ad, A = some ad ∧ w.cell? (ad.add k) = some (.int .u32 l[k]) := by
  obtain ⟨ad, e, hc⟩ := h.at_ (k := k) (by rw [u32s_len]; exact hk)
  rw [show (u32s l)[k]'(by rw [u32s_len]; exact hk) = .int .u32 l[k] by simp [u32s]] at hc
  exact ⟨ad, e, hc⟩
theorem i64s_at {w : World} {A : Option Addr} {l : List Int} (h : Rd w A (i64s l)) {k : Nat} (hk : k < l.length) : ∃ ad, A = some ad ∧ w.cell? (ad.add k) = some (.int .i64 l[k]) := by
  obtain ⟨ad, e, hc⟩ := h.at_ (k := k) (by rw [i64s_len]; exact hk)
  rw [show (i64s l)[k]'(by rw [i64s_len]; exact hk) = .int .i64 l[k] by simp [i64s]] at hc
  exact ⟨ad, e, hc⟩
theorem take_next {α : Type} {a b : List α} {k : Nat} (ha : k < a.length) (hb : k < b.length) : a.take k = b.take k ∧ a[k] = b[k] ↔ a.take (k + 1) = b.take (k + 1) := by
  rw [List.take_succ_eq_append_getElem ha, List.take_succ_eq_append_getElem hb]
  constructor
  · rintro ⟨h1, h2⟩
    rw [h1, h2]
  · intro h
    have := List.append_inj h (by simp; omega)
    exact ⟨this.1, by simpa using this.2⟩
set_option maxRecDepth 100000 in
theorem owners_any (a b : List Int) (A B : Option Addr) (ca cb : Nat) (w : World) (ha : Rd w A (u32s a)) (hb : Rd w B (u32s b)) (hla : a.length ≤ 1000000) (hlb : b.length ≤ 1000000) :
    Calls Try.prog 16 #[.slice A a.length ca, .slice B b.length cb] w fun e w' => e = .returned (.bool (decide (a = b))) ∧ Ext w w' := by
  have HA := hide ha
  have HB := hide hb
  clear ha hb
  by_cases hl : a.length = b.length
  · have hd : ((a.length : Int) != (b.length : Int)) = false := by rw [hl]; exact bne_self_eq_false _
    have HL := hide hl
    clear hl
    go_enter Try.func16, Try.ntmps16
    go_wp2_with fail
    go_loopw [5] (fun v wr => ∃ k : Nat, v = .int .i64 k ∧ k ≤ a.length ∧ Hid (a.take k = b.take k) ∧ Hid (Ext w wr)) (fun v _ => a.length - (intOf v).toNat)
    case atStart => exact ⟨0, rfl, by omega, hide rfl, hide (Ext.refl w)⟩
    case round =>
      obtain ⟨k, rfl, hk, HK, HX⟩ := hrel
      by_cases hlt : k < a.length
      · have hlti : (k : Int) < (a.length : Int) := by omega
        have hlt2 : k < b.length := by rw [← HL.out]; exact hlt
        have hlti2 : (k : Int) < (b.length : Int) := by omega
        have HX2 := hide (HX.out.trans ((Ext.refl wr).drew))
        obtain ⟨ad, hA, c1⟩ := u32s_at (HA.out.ext HX2.out) hlt
        obtain ⟨bd, hB, c2⟩ := u32s_at (HB.out.ext HX2.out) hlt2
        subst hA hB
        have HN := hide (take_next hlt hlt2)
        obtain ⟨x, hx⟩ : ∃ x, Hid (a[k] = x) := ⟨_, hide rfl⟩
        obtain ⟨y, hy⟩ : ∃ y, Hid (b[k] = y) := ⟨_, hide rfl⟩
        rw [hx.out] at c1 HN
        rw [hy.out] at c2 HN
        go_upto_region 6 with fail
        refine wp_region_wm [0, 1, 2, 3, 4, 5, 6, 7, 8] (by kernel_rfl) (by kernel_rfl) (by kernel_rfl) (by kernel_rfl) ?_
        generalize wr.drew = wd at *
        by_cases hxy : x = y
        · have e1 : (x == y) = true := beq_iff_eq.2 hxy
          have e2 : (x != y) = false := by rw [hxy]; exact bne_self_eq_false _
          have HK2 := hide (HN.out.1 ⟨HK.out, hxy⟩)
          clear hxy
          iterate 3 (refine wm_rd rfl rfl (fun K hK => ?_); go_simp; refine hK _ ?_; clear hK K)
          refine wm_ld1 rfl rfl 23 (.tmp 19) rfl rfl c1 _ Try.underlying23 rfl ?_
          iterate 3 (refine wm_rd rfl rfl (fun K hK => ?_); go_simp; refine hK _ ?_; clear hK K)
          refine wm_ld1 rfl rfl 23 (.tmp 23) rfl rfl c2 _ Try.underlying23 rfl ?_
          iterate 1 (refine wm_rd rfl rfl (fun K hK => ?_); go_simp; refine hK _ ?_; clear hK K)
          refine wm_nil ?_
          go_wp2_with fail
          go_roundw
          case rel => exact ⟨k + 1, by go_num, by omega, HK2, HX2⟩
          case measure => simp [intOf]; omega
        · have e1 : (x == y) = false := beq_eq_false_iff_ne.2 hxy
          have e2 : (x != y) = true := bne_iff_ne.2 hxy
          have HE : Hid (decide (a = b) = false) := hide (decide_eq_false (fun e => by
            have := HN.out.2 (by rw [e])
            exact hxy this.2))
          clear hxy
          iterate 3 (refine wm_rd rfl rfl (fun K hK => ?_); go_simp; refine hK _ ?_; clear hK K)
          refine wm_ld1 rfl rfl 23 (.tmp 19) rfl rfl c1 _ Try.underlying23 rfl ?_
          iterate 3 (refine wm_rd rfl rfl (fun K hK => ?_); go_simp; refine hK _ ?_; clear hK K)
          refine wm_ld1 rfl rfl 23 (.tmp 23) rfl rfl c2 _ Try.underlying23 rfl ?_
          iterate 1 (refine wm_rd rfl rfl (fun K hK => ?_); go_simp; refine hK _ ?_; clear hK K)
          refine wm_nil ?_
          go_wp2_with fail
          go_ret
          exact ⟨by rw [HE.out]; rfl, HX2.out⟩
      · obtain rfl : k = a.length := by omega
        have HE : Hid (decide (a = b) = true) := hide (decide_eq_true (by
          have h := HK.out
          rw [List.take_length, HL.out, List.take_length] at h
          exact h))
        go_wp2_with fail
        go_ret
        exact ⟨by rw [HE.out]; rfl, HX.out⟩
  · have hd : ((a.length : Int) != (b.length : Int)) = true := bne_iff_ne.2 (by omega)
    have HE : Hid (decide (a = b) = false) := hide (decide_eq_false (fun e => hl (by rw [e])))
    clear hl
    go_enter Try.func16, Try.ntmps16
    go_wp2_with fail
    go_ret
    exact ⟨by rw [HE.out]; rfl, Ext.refl _⟩
set_option maxRecDepth 100000 in
theorem same_any (a b : List (List Int)) (va vb : List Value) (A B : Option Addr) (ca cb : Nat) (w : World) (ha : (AsRows A va a).p w) (hb : (AsRows B vb b).p w) (hla : a.length ≤ 1000000) (hlb : b.length ≤ 1000000) (hra : ∀ r ∈ a, r.length ≤ 1000000) (hrb : ∀ r ∈ b, r.length ≤ 1000000) :
    Calls Try.prog 19 #[.slice A a.length ca, .slice B b.length cb] w fun e w' => e = .returned (.bool (decide (a = b))) ∧ Ext w w' := by
  have HA := hide ha
  have HB := hide hb
  clear ha hb
  by_cases hl : a.length = b.length
  · have hd : ((a.length : Int) != (b.length : Int)) = false := by rw [hl]; exact bne_self_eq_false _
    have HL := hide hl
    clear hl
    go_enter Try.func19, Try.ntmps19
    go_wp2_with fail
    go_loopw [5] (fun v wr => ∃ k : Nat, v = .int .i64 k ∧ k ≤ a.length ∧ Hid (a.take k = b.take k) ∧ Hid (Ext w wr)) (fun v _ => a.length - (intOf v).toNat)
    case atStart => exact ⟨0, rfl, by omega, hide rfl, hide (Ext.refl w)⟩
    case round =>
      obtain ⟨k, rfl, hk, HK, HX⟩ := hrel
      by_cases hlt : k < a.length
      · have hlti : (k : Int) < (a.length : Int) := by omega
        have hlt2 : k < b.length := by rw [← HL.out]; exact hlt
        have hlti2 : (k : Int) < (b.length : Int) := by omega
        have HX2 := hide (HX.out.trans ((Ext.refl wr).drew))
        obtain ⟨x, hx, Ax, cx, rfl, hcx, hrx⟩ := HA.out.2.get hlt
        obtain ⟨y, hy, By, cy, rfl, hcy, hry⟩ := HB.out.2.get hlt2
        obtain ⟨hjx, ex⟩ := List.getElem?_eq_some_iff.1 hx
        obtain ⟨hjy, ey⟩ := List.getElem?_eq_some_iff.1 hy
        obtain ⟨ad, hA, c1⟩ := (HA.out.1.ext HX2.out).at_ (k := k) hjx
        obtain ⟨bd, hB, c2⟩ := (HB.out.1.ext HX2.out).at_ (k := k) hjy
        rw [ex] at c1
        rw [ey] at c2
        subst hA hB
        have HN := hide (take_next hlt hlt2)
        have hlx := hra _ (List.getElem_mem hlt)
        have hly := hrb _ (List.getElem_mem hlt2)
        have HOW := hide (fun (x : World) (h : Ext w x) => owners_any a[k] b[k] Ax By cx cy x (hrx.ext h) (hry.ext h) hlx hly)
        clear hx hy hrx hry ex ey hlx hly hcx hcy
        go_upto_region 6 with fail
        refine wp_region_wm [0, 1, 2, 3, 4, 5, 6, 7, 8, 9] (by kernel_rfl) (by kernel_rfl) (by kernel_rfl) (by kernel_rfl) ?_
        generalize wr.drew = wd at *
        by_cases hxy : a[k] = b[k]
        · rw [show decide (a[k] = b[k]) = true from decide_eq_true hxy] at HOW
          have HK2 := hide (HN.out.1 ⟨HK.out, hxy⟩)
          clear hxy
          iterate 3 (refine wm_rd rfl rfl (fun K hK => ?_); go_simp; refine hK _ ?_; clear hK K)
          refine wm_ld1 rfl rfl 39 (.tmp 19) rfl rfl c1 _ Try.underlying39 rfl ?_
          iterate 3 (refine wm_rd rfl rfl (fun K hK => ?_); go_simp; refine hK _ ?_; clear hK K)
          refine wm_ld1 rfl rfl 39 (.tmp 23) rfl rfl c2 _ Try.underlying39 rfl ?_
          refine wm_ext rfl rfl (fun K hK => ?_)
          go_simp
          go_at_call 16
          (with_reducible refine (HOW.out _ HX2.out).mono ?_)
          rintro e w2 ⟨rfl, hx2⟩
          refine hK _ _ hx2 ?_
          clear hK K
          have HX3 := hide (HX2.out.trans hx2)
          clear hx2
          iterate 1 (refine wm_rd rfl rfl (fun K hK => ?_); go_simp; refine hK _ ?_; clear hK K)
          refine wm_nil ?_
          go_wp2_with fail
          go_roundw
          case rel => exact ⟨k + 1, by go_num, by omega, HK2, HX3⟩
          case measure => simp [intOf]; omega
        · rw [show decide (a[k] = b[k]) = false from decide_eq_false hxy] at HOW
          have HE : Hid (decide (a = b) = false) := hide (decide_eq_false (fun e => by
            have := HN.out.2 (by rw [e])
            exact hxy this.2))
          clear hxy
          iterate 3 (refine wm_rd rfl rfl (fun K hK => ?_); go_simp; refine hK _ ?_; clear hK K)
          refine wm_ld1 rfl rfl 39 (.tmp 19) rfl rfl c1 _ Try.underlying39 rfl ?_
          iterate 3 (refine wm_rd rfl rfl (fun K hK => ?_); go_simp; refine hK _ ?_; clear hK K)
          refine wm_ld1 rfl rfl 39 (.tmp 23) rfl rfl c2 _ Try.underlying39 rfl ?_
          refine wm_ext rfl rfl (fun K hK => ?_)
          go_simp
          go_at_call 16
          (with_reducible refine (HOW.out _ HX2.out).mono ?_)
          rintro e w2 ⟨rfl, hx2⟩
          refine hK _ _ hx2 ?_
          clear hK K
          have HX3 := hide (HX2.out.trans hx2)
          clear hx2
          iterate 1 (refine wm_rd rfl rfl (fun K hK => ?_); go_simp; refine hK _ ?_; clear hK K)
          refine wm_nil ?_
          go_wp2_with fail
          go_ret
          exact ⟨by rw [HE.out]; rfl, HX3.out⟩
      · obtain rfl : k = a.length := by omega
        have HE : Hid (decide (a = b) = true) := hide (decide_eq_true (by
          have h := HK.out
          rw [List.take_length, HL.out, List.take_length] at h
          exact h))
        go_wp2_with fail
        go_ret
        exact ⟨by rw [HE.out]; rfl, HX.out⟩
  · have hd : ((a.length : Int) != (b.length : Int)) = true := bne_iff_ne.2 (by omega)
    have HE : Hid (decide (a = b) = false) := hide (decide_eq_false (fun e => hl (by rw [e])))
    clear hl
    go_enter Try.func19, Try.ntmps19
    go_wp2_with fail
    go_ret
    exact ⟨by rw [HE.out]; rfl, Ext.refl _⟩
theorem rplace_any (a : List Int) (o : Int) (A : Option Addr) (c : Nat) (w : World) (ha : Rd w A (u32s a)) (hla : a.length ≤ 1000000) :
    Calls Try.prog 37 #[.slice A a.length c, .int .u32 o] w fun e w' => e = .returned (.int .i64 (fnd a o + 1)) ∧ w = w' := by
  have HA := hide ha
  clear ha
  go_enter Try.func37, Try.ntmps37
  go_wp2_with fail
  go_loopw [5] (fun v wr => ∃ k : Nat, v = .int .i64 k ∧ k ≤ a.length ∧ (∀ j, j < k → a[j]? ≠ some o) ∧ w = wr) (fun v _ => a.length - (intOf v).toNat)
  case atStart => exact ⟨0, rfl, by omega, fun j hj => by omega, rfl⟩
  case round =>
    obtain ⟨k, rfl, hk, hno, rfl⟩ := hrel
    have HNO := hide hno
    clear hno
    by_cases hlt : k < a.length
    · have hlti : (k : Int) < (a.length : Int) := by omega
      have hws := List.getElem?_eq_getElem hlt
      obtain ⟨ad, hA, c1⟩ := u32s_at HA.out hlt
      subst hA
      obtain ⟨x, hx⟩ : ∃ x, Hid (a[k] = x) := ⟨_, hide rfl⟩
      rw [hx.out] at c1 hws
      have HWS := hide hws
      clear hws
      by_cases hxo : x = o
      · have e1 : (x == o) = true := beq_iff_eq.2 hxo
        have HE := hide (fnd_some (hxo ▸ HWS.out) HNO.out)
        have hw : IntKind.i64.wrap ((k : Int) + 1) = (k : Int) + 1 := IntWalk.i64_in _ (by omega)
        clear hxo
        go_wp2_with fail
        go_ret
        exact ⟨by rw [HE.out]; rfl, rfl⟩
      · have e1 : (x == o) = false := beq_eq_false_iff_ne.2 hxo
        have HN2 : Hid (∀ j, j < k + 1 → a[j]? ≠ some o) := hide (fun j hj e => by
          rcases Nat.lt_or_ge j k with h | h
          · exact HNO.out j h e
          · obtain rfl : j = k := by omega
            rw [HWS.out] at e
            exact hxo (Option.some.inj e))
        clear hxo
        go_wp2_with fail
        go_roundw
        case rel => exact ⟨k + 1, by go_num, by omega, HN2.out, by first | rfl | trivial⟩
        case measure => simp [intOf]; omega
    · have hki : ¬ (k : Int) < (a.length : Int) := by omega
      have HE := hide (fnd_none (l := a) (o := o) (fun j hj => HNO.out j (by omega)))
      go_wp2_with fail
      go_ret
      exact ⟨by rw [HE.out]; rfl, rfl⟩
theorem limited_any (l : List Int) (A : Option Addr) (c : Nat) (w : World) (hr : Rd w A (i64s l)) (hlm : l.length ≤ 100000) :
    Calls Try.prog 30 #[.slice A l.length c] w fun e w' => e = .returned (.int .i64 (limE l)) ∧ w = w' := by
  have HR := hide hr
  clear hr
  by_cases h1 : l.length < 1
  · have HE : Hid (limE l = 3) := hide (by unfold limE; rw [if_pos (.inl h1)])
    have d1 : (l.length : Int) < 1 := by omega
    go_enter Try.func30, Try.ntmps30
    go_wp2_with fail
    go_ret
    exact ⟨by rw [HE.out]; rfl, rfl⟩
  · have d1 : ¬ (l.length : Int) < 1 := by omega
    by_cases h2 : 8 < l.length
    · have HE : Hid (limE l = 3) := hide (by unfold limE; rw [if_pos (.inr h2)])
      have d2 : (8 : Int) < (l.length : Int) := by omega
      go_enter Try.func30, Try.ntmps30
      go_wp2_with fail
      go_ret
      exact ⟨by rw [HE.out]; rfl, rfl⟩
    · have d2 : ¬ (8 : Int) < (l.length : Int) := by omega
      go_enter Try.func30, Try.ntmps30
      go_wp2_with fail
      go_loopw [3] (fun v wr => ∃ k : Nat, v = .int .i64 k ∧ k ≤ l.length ∧ (∀ j (hj : j < l.length), j < k → 0 ≤ l[j] ∧ l[j] ≤ 64) ∧ w = wr) (fun v _ => l.length - (intOf v).toNat)
      case atStart => exact ⟨0, rfl, by omega, fun j hj h => by omega, rfl⟩
      case round =>
        obtain ⟨k, rfl, hk, hgood, rfl⟩ := hrel
        have HG := hide hgood
        clear hgood
        by_cases hlt : k < l.length
        · have hlti : (k : Int) < (l.length : Int) := by omega
          obtain ⟨ad, hA, c1⟩ := i64s_at HR.out hlt
          subst hA
          obtain ⟨x, HX⟩ : ∃ x, Hid (l[k] = x) := ⟨_, hide rfl⟩
          rw [HX.out] at c1
          by_cases hx0 : x < 0
          · have HE : Hid (limE l = 7) := hide (limE_bad h1 h2 hlt (by rw [HX.out]; omega))
            go_wp2_with fail
            go_ret
            exact ⟨by rw [HE.out]; rfl, rfl⟩
          · by_cases hx1 : 64 < x
            · have HE : Hid (limE l = 7) := hide (limE_bad h1 h2 hlt (by rw [HX.out]; omega))
              go_wp2_with fail
              go_ret
              exact ⟨by rw [HE.out]; rfl, rfl⟩
            · have HG2 : Hid (∀ j (hj : j < l.length), j < k + 1 → 0 ≤ l[j] ∧ l[j] ≤ 64) := hide (fun j hj h => by
                rcases Nat.lt_or_ge j k with h' | h'
                · exact HG.out j hj h'
                · obtain rfl : j = k := by omega
                  rw [HX.out]; omega)
              go_wp2_with fail
              go_roundw
              case rel => exact ⟨k + 1, by go_num, by omega, HG2.out, by first | rfl | trivial⟩
              case measure => simp [intOf]; omega
        · obtain rfl : k = l.length := by omega
          have HE : Hid (limE l = 0) := hide (limE_good h1 h2 (fun j hj => HG.out j hj hj))
          go_wp2_with fail
          go_ret
          exact ⟨by rw [HE.out]; rfl, rfl⟩
def inB (n : Nat) (i : Int) : Bool := decide (0 ≤ i ∧ i < n)
theorem some_any {A B : Option Addr} {n c m d : Nat} (i : Int) (w : World) : Calls Try.prog 39 #[.agg #[.slice A n c, .slice B m d], .int .i64 i] w fun e w' => e = .returned (.bool (inB n i)) ∧ Ext w w' := by
  have HX : Hid (Ext w (w.alloc (.cells #[.slice A n c, .slice B m d] 45))) := hide ((Ext.refl w).alloc _)
  by_cases h0 : 0 ≤ i
  · by_cases h1 : i < n
    · have HE : Hid (inB n i = true) := hide (decide_eq_true ⟨h0, h1⟩)
      go_enter Try.func39, Try.ntmps39
      go_wp2_with fail
      go_ret
      exact ⟨by rw [HE.out]; rfl, HX.out⟩
    · have HE : Hid (inB n i = false) := hide (decide_eq_false (fun h => h1 h.2))
      go_enter Try.func39, Try.ntmps39
      go_wp2_with fail
      go_ret
      exact ⟨by rw [HE.out]; rfl, HX.out⟩
  · have HE : Hid (inB n i = false) := hide (decide_eq_false (fun h => h0 h.1))
    go_enter Try.func39, Try.ntmps39
    go_wp2_with fail
    go_ret
    exact ⟨by rw [HE.out]; rfl, HX.out⟩
end Go.Proofs.Yteecgieigjfjiaa
