/- Texts put together: Q6 Q7 Q8 Q9 Q10. -/
import Derived.Test.YtdmaephmkfmehaaGreatDoorGj
import Derived.Maps.OwnSet
namespace Go.Proofs.YtdmaephmkfmehaaGreatDoor
open Go.RowKit Go.Gr Go.Hp
set_option linter.unusedVariables false
set_option linter.unusedSimpArgs false
attribute [local go_sem] rdOp rdAt rdUpon Cls forall_fr
theorem meth_less (q : Nat) (w : World) : (method 350 178 (ptrV q) "Less").run Tryz.prog w = .ok (164, ptrV q) w := by kernel_rfl
theorem meth_swap (q : Nat) (w : World) : (method 350 178 (ptrV q) "Swap").run Tryz.prog w = .ok (167, ptrV q) w := by kernel_rfl
theorem meth_len (q : Nat) (w : World) : (method 350 178 (ptrV q) "Len").run Tryz.prog w = .ok (163, ptrV q) w := by kernel_rfl
theorem meth_push (q : Nat) (w : World) : (method 350 178 (ptrV q) "Push").run Tryz.prog w = .ok (166, ptrV q) w := by kernel_rfl
theorem meth_pop (q : Nat) (w : World) : (method 350 178 (ptrV q) "Pop").run Tryz.prog w = .ok (165, ptrV q) w := by kernel_rfl
/-- who was paired is paired -/
def Pr (gs : List Nat) (es : List En) (gs' : List Nat) (es' : List En) : Prop := ∀ (i g : Nat) (e : En), gs[i]? = some g → es[i]? = some e → ∃ j : Nat, gs'[j]? = some g ∧ es'[j]? = some e
theorem Pr.refl (gs : List Nat) (es : List En) : Pr gs es gs es := fun i g e h1 h2 => ⟨i, h1, h2⟩
theorem Pr.sw {gs gs' : List Nat} {es es' : List En} (h : Pr gs es gs' es') {i k gi gk : Nat} {a b : En} (hgi : gs'[i]? = some gi) (hgk : gs'[k]? = some gk) (hei : es'[i]? = some a) (hek : es'[k]? = some b) : Pr gs es (swG gs' i k) (swG es' i k) := fun j g e h1 h2 => by
  obtain ⟨l, h3, h4⟩ := h j g e h1 h2
  by_cases c1 : l = i
  · subst c1
    rw [hgi] at h3
    rw [hei] at h4
    cases h3; cases h4
    exact ⟨k, swG_right hgi hgk, swG_right hei hek⟩
  · by_cases c2 : l = k
    · subst c2
      rw [hgk] at h3
      rw [hek] at h4
      cases h3; cases h4
      exact ⟨i, swG_left hgi hgk, swG_left hei hek⟩
    · exact ⟨l, by rw [swG_other _ c1 c2]; exact h3, by rw [swG_other _ c1 c2]; exact h4⟩
theorem some_of {α : Type} {l : List α} {i : Nat} (h : i < l.length) : ∃ a, l[i]? = some a := ⟨_, List.getElem?_eq_getElem h⟩

set_option maxRecDepth 100000 in
set_option maxHeartbeats 2000000 in
theorem up_any {G : Nat → Prop} {w0 w : World} {L : List As} {q : Nat} {v : Value} {m n : Nat} {D : DataW Unit} {nx : Int} {gs : List Nat} {es : List En} {j : Nat} (hn : gs.length ≤ 100000) (hl : gs.length = es.length) (hj : j < es.length) (hu : HeapUp es j) (H : Sep G w0 w (As.blk q 173 [v, lessV, .map (some m), .int .i64 nx] :: As.own 174 v (gs.map ptrV) :: entsA gs es :: As.map Tryz.prog 2 anyR m n D :: L)) :
    Calls Tryz.prog 123 #[.iface 178 (ptrV q), .int .i64 j] w fun e w' => e = .returned (.tuple #[]) ∧ ∃ gs' es', gs'.length = gs.length ∧ es'.Perm es ∧ IsHeap es' es'.length ∧ Pr gs es gs' es' ∧ Sep G w0 w' (As.blk q 173 [v, lessV, .map (some m), .int .i64 nx] :: As.own 174 v (gs'.map ptrV) :: entsA gs' es' :: As.map Tryz.prog 2 anyR m n D :: L) := by
  have HN := hide hn
  have HHL := hide hl
  have HU0 := hide hu
  have hm1 := fun y => meth_less q y
  have hm2 := fun y => meth_swap q y
  have HS0 := hide H
  have HJ0 := hide hj
  clear hn hl hj hu H
  go_enter Tryz.func123, Tryz.ntmps123
  go_wp2_with fail
  go_loopw [1] (fun v1 wr => ∃ (j' : Nat) (gs' : List Nat) (es' : List En), v1 = .int .i64 j' ∧ j' < es'.length ∧ Hid (gs'.length = gs.length ∧ es'.Perm es ∧ HeapUp es' j') ∧ Hid (Pr gs es gs' es') ∧ Hid (Sep G w0 wr (As.blk q 173 [v, lessV, .map (some m), .int .i64 nx] :: As.own 174 v (gs'.map ptrV) :: entsA gs' es' :: As.map Tryz.prog 2 anyR m n D :: L))) (fun v1 _ => (intOf v1).toNat)
  case atStart => exact ⟨j, gs, es, rfl, HJ0.out, hide ⟨rfl, List.Perm.refl _, HU0.out⟩, hide (Pr.refl _ _), HS0⟩
  case round =>
    clear HU0 HS0
    obtain ⟨j', gs', es', rfl, hj, HU, HPR, HS⟩ := hrel
    have hlen : es'.length = es.length := HU.out.2.1.length_eq
    have hlen2 : gs'.length = es'.length := by have := HHL.out; have := HU.out.1; omega
    have hb1 : j' < 100000 := by have := HN.out; have := HU.out.1; omega
    by_cases hz : j' = 0
    · subst hz
      have HF : Hid (IsHeap es' es'.length) := hide (heapUp_zero HU.out.2.2)
      go_wp2_with fail
      go_end0
      exact ⟨rfl, gs', es', HU.out.1, HU.out.2.1, HF.out, HPR.out, HS.out⟩
    obtain ⟨p, hp⟩ : ∃ p, (j' - 1) / 2 = p := ⟨_, rfl⟩
    have hpj : p < j' := by omega
    have hdiv : ((j' : Int) - 1).tdiv 2 = (p : Int) := by rw [Int.tdiv_eq_ediv_of_nonneg (by omega)]; omega
    have hne : ((p : Int) == (j' : Int)) = false := beq_eq_false_iff_ne.2 (by omega)
    obtain ⟨gj, hgj⟩ := some_of (l := gs') (i := j') (by omega)
    obtain ⟨gp, hgp⟩ := some_of (l := gs') (i := p) (by omega)
    obtain ⟨a, ha⟩ := some_of (l := es') (i := j') (by omega)
    obtain ⟨b, hb⟩ := some_of (l := es') (i := p) (by omega)
    have HLS := hide (pile_less HS.out hgj hgp ha hb)
    have HP := hide hp
    have HGJ := hide hgj
    have HGP := hide hgp
    have HA := hide ha
    have HB := hide hb
    clear hgj hgp ha hb hp hlen hlen2
    go_wp2_with fail
    (with_reducible refine HLS.out.mono ?_)
    rintro e w1 ⟨rfl, hx⟩
    have HS1 := hide (HS.out.ext hx)
    clear hx HLS HS
    by_cases hbf : bef a b
    · rw [decide_eq_true hbf]
      have HSW := hide (pile_swap HS1.out HGP.out HGJ.out HB.out HA.out)
      have HU2 : Hid ((swG gs' p j').length = gs.length ∧ (swG es' p j').Perm es ∧ HeapUp (swG es' p j') p) := hide ⟨by rw [swG_len]; exact HU.out.1, (swG_perm HB.out HA.out).trans HU.out.2.1, by
        have h1 := heapUp_step HU.out.2.2 (by omega) HA.out (by rw [HP.out]; exact HB.out) hbf
        rw [HP.out] at h1
        exact h1⟩
      have HPR2 := hide (HPR.out.sw HGP.out HGJ.out HB.out HA.out)
      have HL2 : Hid (p < (swG es' p j').length) := hide (by rw [swG_len]; omega)
      clear hbf HS1 HU
      go_wp2_with fail
      (with_reducible refine HSW.out.mono ?_)
      rintro e w2 ⟨rfl, hs⟩
      have HS2 := hide hs
      clear hs HSW
      go_wp2_with fail
      go_roundw
      case rel => exact ⟨p, _, _, rfl, HL2.out, HU2, HPR2, HS2⟩
      case measure => simp [intOf]; omega
    · rw [decide_eq_false hbf]
      have HF : Hid (IsHeap es' es'.length) := hide (heapUp_stop HU.out.2.2 HA.out (by rw [HP.out]; exact HB.out) hbf)
      clear hbf
      go_wp2_with fail
      go_end0
      exact ⟨rfl, gs', es', HU.out.1, HU.out.2.1, HF.out, HPR.out, HS1.out⟩

set_option maxRecDepth 100000 in
set_option maxHeartbeats 2000000 in
theorem down_any {G : Nat → Prop} {w0 w : World} {L : List As} {q : Nat} {v : Value} {m n : Nat} {D : DataW Unit} {nx : Int} {gs : List Nat} {es : List En} {i nn : Nat} (hn : gs.length ≤ 100000) (hl : gs.length = es.length) (hi : i ≤ nn) (hnn : nn ≤ es.length) (hu : HeapDown es i nn) (H : Sep G w0 w (As.blk q 173 [v, lessV, .map (some m), .int .i64 nx] :: As.own 174 v (gs.map ptrV) :: entsA gs es :: As.map Tryz.prog 2 anyR m n D :: L)) :
    Calls Tryz.prog 116 #[.iface 178 (ptrV q), .int .i64 i, .int .i64 nn] w fun e w' => (∃ r, e = .returned (.bool r)) ∧ ∃ gs' es', gs'.length = gs.length ∧ es'.Perm es ∧ IsHeap es' nn ∧ (∀ k, nn ≤ k → es'[k]? = es[k]?) ∧ Sep G w0 w' (As.blk q 173 [v, lessV, .map (some m), .int .i64 nx] :: As.own 174 v (gs'.map ptrV) :: entsA gs' es' :: As.map Tryz.prog 2 anyR m n D :: L) := by
  have HN := hide hn
  have HHL := hide hl
  have HNN := hide hnn
  have HU0 := hide hu
  have HS0 := hide H
  have HI0 := hide hi
  have hm1 := fun y => meth_less q y
  have hm2 := fun y => meth_swap q y
  have hi1 : i ≤ 100000 := by omega
  have hnn1 : nn ≤ 100000 := by omega
  clear hn hl hi hu H hnn
  go_enter Tryz.func116, Tryz.ntmps116
  go_wp2_with fail
  go_loopw [7] (fun v7 wr => ∃ (i' : Nat) (gs' : List Nat) (es' : List En), v7 = .int .i64 i' ∧ i' ≤ nn ∧ Hid (gs'.length = gs.length ∧ es'.Perm es ∧ HeapDown es' i' nn ∧ ∀ k, nn ≤ k → es'[k]? = es[k]?) ∧ Hid (Sep G w0 wr (As.blk q 173 [v, lessV, .map (some m), .int .i64 nx] :: As.own 174 v (gs'.map ptrV) :: entsA gs' es' :: As.map Tryz.prog 2 anyR m n D :: L))) (fun v7 _ => nn - (intOf v7).toNat)
  case atStart => exact ⟨i, gs, es, rfl, HI0.out, hide ⟨rfl, List.Perm.refl _, HU0.out, fun _ _ => rfl⟩, HS0⟩
  case round =>
    clear HU0 HS0
    obtain ⟨i', gs', es', rfl, hin, HU, HS⟩ := hrel
    have hlen : es'.length = es.length := HU.out.2.1.length_eq
    have hlen2 : gs'.length = es'.length := by have := HHL.out; have := HU.out.1; omega
    have hle := HNN.out
    by_cases hz : nn ≤ 2 * i' + 1
    · have hzi : (nn : Int) ≤ 2 * (i' : Int) + 1 := by omega
      have HF : Hid (IsHeap es' nn) := hide (heapDown_leaf HU.out.2.2.1 hz)
      clear hlen hlen2 hle
      go_wp2_with fail
      go_ret
      exact ⟨⟨_, rfl⟩, gs', es', HU.out.1, HU.out.2.1, HF.out, HU.out.2.2.2, HS.out⟩
    have hzi : ¬ (nn : Int) ≤ 2 * (i' : Int) + 1 := by omega
    have hz2 : ¬ 2 * (i' : Int) + 1 < 0 := by omega
    obtain ⟨gi, hgi⟩ := some_of (l := gs') (i := i') (by omega)
    obtain ⟨x, hx⟩ := some_of (l := es') (i := i') (by omega)
    obtain ⟨g1, hg1⟩ := some_of (l := gs') (i := 2 * i' + 1) (by omega)
    obtain ⟨y1, hy1⟩ := some_of (l := es') (i := 2 * i' + 1) (by omega)
    have HGI := hide hgi
    have HEI := hide hx
    have HG1 := hide hg1
    have HE1 := hide hy1
    clear hgi hx hg1 hy1
    obtain ⟨j1, hj1⟩ : ∃ j1, 2 * i' + 1 = j1 := ⟨_, rfl⟩
    have ej1 : 2 * (i' : Int) + 1 = (j1 : Int) := by omega
    rw [hj1] at HG1 HE1
    by_cases hz3 : nn ≤ j1 + 1
    · have hzi3 : ¬ (j1 : Int) + 1 < (nn : Int) := by omega
      have HCH : Hid (Child es' i' nn j1) := hide ⟨.inl hj1.symm, by omega, fun k a b hk hkn ha hb => by
        obtain rfl : k = j1 := by omega
        rw [ha] at hb
        cases hb
        exact bef_irrefl _⟩
      clear hlen hlen2 hle hj1
      have HLS2 := hide (pile_less HS.out HG1.out HGI.out HE1.out HEI.out)
      go_wp2_with fail
      (with_reducible refine HLS2.out.mono ?_)
      rintro e w3 ⟨rfl, hx⟩
      have HS3 := hide (HS.out.ext hx)
      clear hx HLS2 HS
      by_cases hbf : bef y1 x
      · rw [decide_eq_true hbf]
        have HSW := hide (pile_swap HS3.out HGI.out HG1.out HEI.out HE1.out)
        have HU2 : Hid ((swG gs' i' j1).length = gs.length ∧ (swG es' i' j1).Perm es ∧ HeapDown (swG es' i' j1) j1 nn ∧ ∀ k, nn ≤ k → (swG es' i' j1)[k]? = es[k]?) := hide ⟨by rw [swG_len]; exact HU.out.1, (swG_perm HEI.out HE1.out).trans HU.out.2.1, heapDown_step HU.out.2.2.1 HCH.out HE1.out HEI.out hbf, fun k hk => by rw [swG_other _ (by omega) (by have := HCH.out.2.1; omega)]; exact HU.out.2.2.2 k hk⟩
        have HCN := hide HCH.out.2.1
        have HCI : Hid (i' < j1) := hide (by rcases HCH.out.1 with h | h <;> omega)
        clear hbf HS3 HU HCH
        go_wp2_with fail
        (with_reducible refine HSW.out.mono ?_)
        rintro e w4 ⟨rfl, hs⟩
        have HS4 := hide hs
        clear hs HSW
        go_wp2_with fail
        go_roundw
        case rel => exact ⟨j1, _, _, rfl, by have := HCN.out; omega, HU2, HS4⟩
        case measure => have := HCI.out; have := HCN.out; simp [intOf]; omega
      · rw [decide_eq_false hbf]
        have HF : Hid (IsHeap es' nn) := hide (heapDown_stop HU.out.2.2.1 HCH.out HE1.out HEI.out hbf)
        clear hbf
        go_wp2_with fail
        go_ret
        exact ⟨⟨_, rfl⟩, gs', es', HU.out.1, HU.out.2.1, HF.out, HU.out.2.2.2, HS3.out⟩
    have hzi3 : (j1 : Int) + 1 < (nn : Int) := by omega
    obtain ⟨j2, hj2⟩ : ∃ j2, j1 + 1 = j2 := ⟨_, rfl⟩
    have ej2 : (j1 : Int) + 1 = (j2 : Int) := by omega
    have ej3 : (j2 : Int) < (nn : Int) := by omega
    obtain ⟨g2, hg2⟩ := some_of (l := gs') (i := j2) (by omega)
    obtain ⟨y2, hy2⟩ := some_of (l := es') (i := j2) (by omega)
    have HG2 := hide hg2
    have HE2 := hide hy2
    have hj2n : j2 < nn := by omega
    have hj1n : j1 < nn := by omega
    clear hg2 hy2 hlen hlen2 hle
    have HLS := hide (pile_less HS.out HG2.out HG1.out HE2.out HE1.out)
    rw [ej2] at hzi3
    go_wp2_with fail
    (with_reducible refine HLS.out.mono ?_)
    rintro e w1 ⟨rfl, hx⟩
    have HS' := hide (HS.out.ext hx)
    clear hx HLS HS
    have HS := HS'
    clear HS'
    by_cases hb2 : bef y2 y1
    · rw [decide_eq_true hb2]
      have HCH : Hid (Child es' i' nn j2) := hide ⟨.inr (by omega), hj2n, fun k a b hk hkn ha hb => by
        rcases (by omega : k = j1 ∨ k = j2) with rfl | rfl
        · rw [HE1.out] at ha
          rw [HE2.out] at hb
          cases ha; cases hb
          exact bef_asymm hb2
        · rw [ha] at hb
          cases hb
          exact bef_irrefl _⟩
      clear hb2 hj1 hj2
      have HLS2 := hide (pile_less HS.out HG2.out HGI.out HE2.out HEI.out)
      go_wp2_with fail
      (with_reducible refine HLS2.out.mono ?_)
      rintro e w3 ⟨rfl, hx⟩
      have HS3 := hide (HS.out.ext hx)
      clear hx HLS2 HS
      by_cases hbf : bef y2 x
      · rw [decide_eq_true hbf]
        have HSW := hide (pile_swap HS3.out HGI.out HG2.out HEI.out HE2.out)
        have HU2 : Hid ((swG gs' i' j2).length = gs.length ∧ (swG es' i' j2).Perm es ∧ HeapDown (swG es' i' j2) j2 nn ∧ ∀ k, nn ≤ k → (swG es' i' j2)[k]? = es[k]?) := hide ⟨by rw [swG_len]; exact HU.out.1, (swG_perm HEI.out HE2.out).trans HU.out.2.1, heapDown_step HU.out.2.2.1 HCH.out HE2.out HEI.out hbf, fun k hk => by rw [swG_other _ (by omega) (by have := HCH.out.2.1; omega)]; exact HU.out.2.2.2 k hk⟩
        have HCN := hide HCH.out.2.1
        have HCI : Hid (i' < j2) := hide (by rcases HCH.out.1 with h | h <;> omega)
        clear hbf HS3 HU HCH
        go_wp2_with fail
        (with_reducible refine HSW.out.mono ?_)
        rintro e w4 ⟨rfl, hs⟩
        have HS4 := hide hs
        clear hs HSW
        go_wp2_with fail
        go_roundw
        case rel => exact ⟨j2, _, _, rfl, by have := HCN.out; omega, HU2, HS4⟩
        case measure => have := HCI.out; have := HCN.out; simp [intOf]; omega
      · rw [decide_eq_false hbf]
        have HF : Hid (IsHeap es' nn) := hide (heapDown_stop HU.out.2.2.1 HCH.out HE2.out HEI.out hbf)
        clear hbf
        go_wp2_with fail
        go_ret
        exact ⟨⟨_, rfl⟩, gs', es', HU.out.1, HU.out.2.1, HF.out, HU.out.2.2.2, HS3.out⟩
    · rw [decide_eq_false hb2]
      have HCH : Hid (Child es' i' nn j1) := hide ⟨.inl hj1.symm, hj1n, fun k a b hk hkn ha hb => by
        rcases (by omega : k = j1 ∨ k = j2) with rfl | rfl
        · rw [ha] at hb
          cases hb
          exact bef_irrefl _
        · rw [HE2.out] at ha
          rw [HE1.out] at hb
          cases ha; cases hb
          exact hb2⟩
      clear hb2 hj1 hj2
      have HLS2 := hide (pile_less HS.out HG1.out HGI.out HE1.out HEI.out)
      go_wp2_with fail
      (with_reducible refine HLS2.out.mono ?_)
      rintro e w3 ⟨rfl, hx⟩
      have HS3 := hide (HS.out.ext hx)
      clear hx HLS2 HS
      by_cases hbf : bef y1 x
      · rw [decide_eq_true hbf]
        have HSW := hide (pile_swap HS3.out HGI.out HG1.out HEI.out HE1.out)
        have HU2 : Hid ((swG gs' i' j1).length = gs.length ∧ (swG es' i' j1).Perm es ∧ HeapDown (swG es' i' j1) j1 nn ∧ ∀ k, nn ≤ k → (swG es' i' j1)[k]? = es[k]?) := hide ⟨by rw [swG_len]; exact HU.out.1, (swG_perm HEI.out HE1.out).trans HU.out.2.1, heapDown_step HU.out.2.2.1 HCH.out HE1.out HEI.out hbf, fun k hk => by rw [swG_other _ (by omega) (by have := HCH.out.2.1; omega)]; exact HU.out.2.2.2 k hk⟩
        have HCN := hide HCH.out.2.1
        have HCI : Hid (i' < j1) := hide (by rcases HCH.out.1 with h | h <;> omega)
        clear hbf HS3 HU HCH
        go_wp2_with fail
        (with_reducible refine HSW.out.mono ?_)
        rintro e w4 ⟨rfl, hs⟩
        have HS4 := hide hs
        clear hs HSW
        go_wp2_with fail
        go_roundw
        case rel => exact ⟨j1, _, _, rfl, by have := HCN.out; omega, HU2, HS4⟩
        case measure => have := HCI.out; have := HCN.out; simp [intOf]; omega
      · rw [decide_eq_false hbf]
        have HF : Hid (IsHeap es' nn) := hide (heapDown_stop HU.out.2.2.1 HCH.out HE1.out HEI.out hbf)
        clear hbf
        go_wp2_with fail
        go_ret
        exact ⟨⟨_, rfl⟩, gs', es', HU.out.1, HU.out.2.1, HF.out, HU.out.2.2.2, HS3.out⟩
end Go.Proofs.YtdmaephmkfmehaaGreatDoor
namespace Go.Proofs.YtdmaephmkfmehaaGreatDoor
open Go.RowKit Go.Gr Go.Hp
set_option linter.unusedVariables false
set_option linter.unusedSimpArgs false
attribute [local go_sem] rdOp rdAt rdUpon Cls forall_fr

set_option maxRecDepth 100000 in
set_option maxHeartbeats 2000000 in
theorem hpush_any {G : Nat → Prop} {w0 w : World} {L : List As} {q : Nat} {v : Value} {m n : Nat} {D : DataW Unit} {nx : Int} {gs : List Nat} {es : List En} {g : Nat} {x : En} {pl : Int} (hn : gs.length ≤ 99999) (hl : gs.length = es.length) (hh : IsHeap es es.length)
    (H : Sep G w0 w (As.blk g 176 (enC x pl) :: As.blk q 173 [v, lessV, .map (some m), .int .i64 nx] :: As.own 174 v (gs.map ptrV) :: entsA gs es :: As.map Tryz.prog 2 anyR m n D :: L)) :
    Calls Tryz.prog 115 #[.iface 178 (ptrV q), .iface 174 (ptrV g)] w fun e w' => e = .returned (.tuple #[]) ∧ ∃ v' gs' es', gs'.length = gs.length + 1 ∧ es'.Perm (es ++ [x]) ∧ IsHeap es' es'.length ∧ (∃ j : Nat, gs'[j]? = some g ∧ es'[j]? = some x) ∧ Sep G w0 w' (As.blk q 173 [v', lessV, .map (some m), .int .i64 nx] :: As.own 174 v' (gs'.map ptrV) :: entsA gs' es' :: As.map Tryz.prog 2 anyR m n D :: L) := by
  have HP := hide (pile_push (by omega) H)
  have hm1 := fun y => meth_push q y
  have hm2 := fun y => meth_len q y
  have HU := hide (heapUp_push hh x)
  have HL := hide hl
  have HN := hide hn
  have hn2 : (gs.length : Int) ≤ 99999 := by omega
  clear H hh hl hn
  go_enter Tryz.func115, Tryz.ntmps115
  go_wp2_with fail
  (with_reducible refine HP.out.mono ?_)
  rintro e w1 ⟨rfl, v1, hs⟩
  have HS := hide hs
  have HLN := hide (pile_len hs)
  clear hs HP
  go_wp2_with fail
  (with_reducible refine HLN.out.mono ?_)
  rintro e w2 ⟨rfl, rfl⟩
  have hll : ((gs ++ [g]).length : Int) = (gs.length : Int) + 1 := by rw [List.length_append, List.length_singleton]; omega
  rw [hll]
  clear hll HLN
  have HUP := hide (up_any (j := gs.length) (by rw [List.length_append, List.length_singleton]; have := HN.out; omega) (by rw [List.length_append, List.length_append, HL.out]; rfl) (by rw [List.length_append, List.length_singleton, HL.out]; omega) (by have := HU.out; rw [← HL.out] at this; exact this) HS.out)
  clear HS
  go_wp2_with fail
  (with_reducible refine HUP.out.mono ?_)
  rintro e w3 ⟨rfl, gs', es', h1, h2, h3, hpr, h4⟩
  have HX := hide (hpr gs.length g x (by rw [List.getElem?_append_right (Nat.le_refl _), Nat.sub_self]; rfl) (by rw [HL.out, List.getElem?_append_right (Nat.le_refl _), Nat.sub_self]; rfl))
  have HF := hide h4
  have H1 : Hid (gs'.length = gs.length + 1) := hide (by rw [h1, List.length_append, List.length_singleton])
  have H2 := hide h2
  have H3 := hide h3
  clear h1 h2 h3 h4 hpr HUP
  go_wp2_with fail
  go_end0
  exact ⟨rfl, v1, gs', es', H1.out, H2.out, H3.out, HX.out, HF.out⟩

set_option maxRecDepth 100000 in
set_option maxHeartbeats 2000000 in
theorem hpop_any {G : Nat → Prop} {w0 w : World} {L : List As} {q : Nat} {v : Value} {m n : Nat} {D : DataW Unit} {nx : Int} {gs : List Nat} {es : List En} {k : Nat} {r : En} (hn : gs.length ≤ 100000) (hl : gs.length = es.length) (hk : es.length = k + 1) (hr : es[0]? = some r) (hh : IsHeap es es.length) (H : Sep G w0 w (As.blk q 173 [v, lessV, .map (some m), .int .i64 nx] :: As.own 174 v (gs.map ptrV) :: entsA gs es :: As.map Tryz.prog 2 anyR m n D :: L)) :
    Calls Tryz.prog 94 #[.iface 178 (ptrV q)] w fun e w' => (∃ z, e = .returned z) ∧ ∃ v' gs' es', gs'.length = k ∧ (es' ++ [r]).Perm es ∧ IsHeap es' es'.length ∧ Sep G w0 w' (As.blk q 173 [v', lessV, .map (some m), .int .i64 nx] :: As.own 174 v' (gs'.map ptrV) :: entsA gs' es' :: As.map Tryz.prog 2 anyR m n D :: L) := by
  have hm1 := fun y => meth_len q y
  have hm2 := fun y => meth_swap q y
  have hm3 := fun y => meth_pop q y
  have hgl : gs.length = k + 1 := hl.trans hk
  have HLN := hide (pile_len H)
  rw [hgl] at HLN
  have hki : ((k + 1 : Nat) : Int) = (k : Int) + 1 := by omega
  rw [hki] at HLN
  obtain ⟨g0, hg0⟩ := some_of (l := gs) (i := 0) (by omega)
  obtain ⟨gk, hgk⟩ := some_of (l := gs) (i := k) (by omega)
  obtain ⟨y, hy⟩ := some_of (l := es) (i := k) (by omega)
  have HSW := hide (pile_swap H hg0 hgk hr hy)
  rw [show ((0 : Nat) : Int) = 0 from rfl] at HSW
  have HD : Hid (HeapDown (swG es 0 k) 0 k) := hide (heapDown_pop (by rw [hk] at hh; exact hh) hr hy)
  have HR := hide (swG_right hr hy)
  have HPM := hide (swG_perm hr hy)
  have HL : Hid (gs.length = k + 1 ∧ es.length = k + 1 ∧ gs.length ≤ 100000) := hide ⟨hgl, hk, hn⟩
  have hk2 : (k : Int) ≤ 100000 := by omega
  clear H hg0 hgk hy hr hh hl hk hn hgl hki
  go_enter Tryz.func94, Tryz.ntmps94
  go_wp2_with fail
  (with_reducible refine HLN.out.mono ?_)
  rintro e w1 ⟨rfl, rfl⟩
  clear HLN
  go_wp2_with fail
  (with_reducible refine HSW.out.mono ?_)
  rintro e w2 ⟨rfl, hs⟩
  have HDN := hide (down_any (nn := k) (by rw [swG_len]; exact HL.out.2.2) (by rw [swG_len, swG_len, HL.out.1, HL.out.2.1]) (Nat.zero_le _) (by rw [swG_len, HL.out.2.1]; omega) HD.out hs)
  clear hs HSW
  rw [show ((0 : Nat) : Int) = 0 from rfl] at HDN
  go_wp2_with fail
  (with_reducible refine HDN.out.mono ?_)
  rintro e w3 ⟨⟨z, rfl⟩, gs', es', h1, h2, h3, h4, h5⟩
  have hgl : gs'.length = k + 1 := by rw [h1, swG_len, HL.out.1]
  have hel : es'.length = k + 1 := by rw [h2.length_eq, swG_len, HL.out.2.1]
  obtain ⟨gl, hgk⟩ := some_of (l := gs') (i := k) (by omega)
  have HPP := hide (pile_pop (by rw [hgl]; have := HL.out; omega) hgl hgk h5)
  have HEQ : Hid ((es'.take k ++ [r]).Perm es) := hide (by
    have hk' := (h4 k (Nat.le_refl k)).trans HR.out
    have e2 : es' = es'.take k ++ [r] := by
      apply List.ext_getElem?
      intro i
      rcases Nat.lt_trichotomy i k with h | h | h
      · rw [List.getElem?_append_left (by rw [List.length_take]; omega), List.getElem?_take, if_pos h]
      · subst h
        rw [List.getElem?_append_right (by rw [List.length_take]; omega), List.length_take, Nat.min_eq_left (by omega), Nat.sub_self, hk']
        rfl
      · rw [List.getElem?_eq_none (by omega), List.getElem?_eq_none (by rw [List.length_append, List.length_take, List.length_singleton]; omega)]
    rw [← e2]
    exact h2.trans HPM.out)
  have HHP : Hid (IsHeap (es'.take k) (es'.take k).length) := hide (by rw [List.length_take, Nat.min_eq_left (by omega)]; exact heap_take h3)
  have HGL : Hid ((gs'.take k).length = k) := hide (by rw [List.length_take]; omega)
  clear h1 h2 h3 h4 h5 hgl hel hgk HDN
  go_wp2_with fail
  (with_reducible refine HPP.out.mono ?_)
  rintro e w4 ⟨rfl, v', hs⟩
  have HF := hide hs
  clear hs HPP
  go_wp2_with fail
  go_ret
  exact ⟨⟨_, rfl⟩, v', _, _, HGL.out, HEQ.out, HHP.out, HF.out⟩

end Go.Proofs.YtdmaephmkfmehaaGreatDoor
namespace Go.Proofs.YtdmaephmkfmehaaGreatDoor
open Go.RowKit Go.Gr Go.Hp
set_option linter.unusedVariables false
set_option linter.unusedSimpArgs false
attribute [local go_sem] rdOp rdAt rdUpon Cls forall_fr
theorem law64 : Maps.Keyed Tryz.prog 2 := Maps.int_keyed Tryz.underlying2
theorem wf_i64' {x : Int} (h0 : -9223372036854775808 ≤ x) (h1 : x ≤ 9223372036854775807) : (Lit.int .i64 x).wf = true := by simp [Lit.wf, IntKind.min, IntKind.max, IntKind.signed, IntKind.bits]; omega
theorem func_nil (w : World) : (binOp .eql 163 lessV .nilFunc).run Tryz.prog w = .ok (.bool false) w := by kernel_rfl

set_option maxRecDepth 100000 in
set_option maxHeartbeats 2000000 in
theorem qnew_any {G : Nat → Prop} {w0 w : World} {L : List As} (H : Sep G w0 w L) :
    Calls Tryz.prog 89 #[lessV] w fun e w' => ∃ q m, e = .returned (ptrV q) ∧ Sep G w0 w' (As.blk q 173 [.slice none 0 0, lessV, .map (some m), .int .i64 1] :: As.own 174 (.slice none 0 0) (([] : List Nat).map ptrV) :: entsA [] [] :: As.map Tryz.prog 2 anyR m 0 (.map []) :: L) := by
  have K0 := H.newMap Tryz.prog 2 anyR (H := Unit)
  have K1 := K0.new (B := entsA [] []) (Ext.refl _) ⟨rfl, List.nodup_nil, fun i g e h => by cases h⟩ (fun i hi => by cases hi)
  have K2 := K1.nilO 174
  have K3 := K2.newB ((Ext.refl _).alloc (.cells #[.slice none 0 0, lessV, .map (some w.heap.size), .int .i64 1] 173)) (Blk.new _ 173 [.slice none 0 0, lessV, .map (some w.heap.size), .int .i64 1]) (Nat.le_refl _)
  have hfn := func_nil w
  have hmm := fun (t : TypeId) (x : World) => run_makeMap (P := Tryz.prog) t x
  go_enter Tryz.func89, Tryz.ntmps89
  rw [show (w.alloc (.map #[] 0)).heap.size = w.heap.size + 1 by simp] at K3
  go_wp2_with fail
  go_ret
  exact ⟨_, _, rfl, K3⟩

set_option maxRecDepth 100000 in
set_option maxHeartbeats 2000000 in
theorem qpush_any {G : Nat → Prop} {w0 w : World} {L : List As} {q : Nat} {v : Value} {m n : Nat} {D : DataW Unit} {nx : Int} {gs : List Nat} {es : List En} {s1 d1 : Int} (hn : gs.length ≤ 4999) (hl : gs.length = es.length) (hh : IsHeap es es.length) (hx0 : 1 ≤ nx) (hx1 : nx < 100000) (hmn : n < 1000000) (H : Sep G w0 w (As.blk q 173 [v, lessV, .map (some m), .int .i64 nx] :: As.own 174 v (gs.map ptrV) :: entsA gs es :: As.map Tryz.prog 2 anyR m n D :: L)) :
    Calls Tryz.prog 92 #[ptrV q, hov s1 d1] w fun e w' => e = .returned (.tuple #[.int .i64 nx, .int .i64 0]) ∧ ∃ v' gs' es' D', gs'.length = gs.length + 1 ∧ es'.Perm (es ++ [⟨nx, s1, d1⟩]) ∧ IsHeap es' es'.length ∧
      Sep G w0 w' (As.blk q 173 [v', lessV, .map (some m), .int .i64 (nx + 1)] :: As.own 174 v' (gs'.map ptrV) :: entsA gs' es' :: As.map Tryz.prog 2 anyR m (n + 1) D' :: L) := by
  obtain ⟨A, c, rfl, -, hc, -⟩ := (H.owns (e := 174) (v := v) (xs := gs.map ptrV) (List.Mem.tail _ (List.Mem.head _))).form
  have hkI := Maps.keyOf_int_mk (P := Tryz.prog) Tryz.underlying2 (wf_i64' (x := nx) (by omega) (by omega))
  rw [List.length_map] at hc H
  have K0 := (H.newB ((Ext.refl w).alloc (.cells #[.int .i64 s1, .int .i64 d1] 39)) (Blk.new w 39 [.int .i64 s1, .int .i64 d1]) (Nat.le_refl _))
  have HN := hide hn
  have HL := hide hl
  have HH := hide hh
  have e1 : ¬ (5000 : Int) ≤ (gs.length : Int) := by omega
  have e2 : ¬ (1000000000000000 : Int) ≤ nx := by omega
  have HC := hide hc
  have hmn2 : n < maxLen := by unfold maxLen; omega
  clear hn hl hh H hc
  go_enter Tryz.func92, Tryz.ntmps92
  go_upto_region 1 with fail
  generalize w.alloc _ = w1 at K0 ⊢
  obtain ⟨gb, hgb⟩ : ∃ g, w.heap.size = g := ⟨_, rfl⟩
  rw [hgb] at K0 ⊢
  clear hgb
  have HMD := hide (made_any q _ m nx w1 (K0.blk (g := q) (e := 173) (List.Mem.tail _ (List.Mem.head _))))
  have KK := hide K0
  clear K0
  go_wp2_with fail
  (with_reducible refine HMD.out.mono ?_)
  rintro e w2 ⟨rfl, rfl⟩
  clear HMD
  have K0 := KK.out
  clear KK
  obtain ⟨c0, -, -, c3, cz⟩ := q4 (K0.blk (g := q) (e := 173) (List.Mem.tail _ (List.Mem.head _)))
  go_upto_region 5 with fail
  refine wp_region_wm [0, 1, 2, 3, 4, 5, 6, 7] (by kernel_rfl) (by kernel_rfl) (by kernel_rfl) (by kernel_rfl) ?_
  have KD := K0.drew
  clear K0 c0 c3 cz
  generalize World.drew _ = wd at *
  obtain ⟨c0, -, -, c3, cz⟩ := q4 (KD.blk (g := q) (e := 173) (List.Mem.tail _ (List.Mem.head _)))
  iterate 3 (refine wm_rd rfl rfl (fun K hK => ?_); go_simp; refine hK _ ?_; clear hK K)
  refine wm_ld1 rfl rfl 2 (.tmp 28) rfl rfl c3 _ Tryz.underlying2 rfl ?_
  refine wm_ldS KD (List.Mem.head _) rfl rfl 39 (.tmp 3) rfl rfl _ Tryz.underlying39 rfl (by kernel_rfl) ?_
  iterate 1 (refine wm_rd rfl rfl (fun K hK => ?_); go_simp; refine hK _ ?_; clear hK K)
  refine wm_ext rfl rfl (fun K hK => ?_)
  go_simp
  refine hK _ _ ((Ext.refl _).alloc _) ?_
  clear hK K c0 c3 cz
  have KE := hide ((KD.tail).add 176 (enC ⟨nx, s1, d1⟩ 0))
  iterate 1 (refine wm_rd rfl rfl (fun K hK => ?_); go_simp; refine hK _ ?_; clear hK K)
  refine wm_nil ?_
  obtain ⟨g6, hg6⟩ : ∃ g, wd.heap.size = g := ⟨_, rfl⟩
  rw [hg6] at KE ⊢
  generalize World.alloc _ _ = we at KE ⊢
  clear hg6 KD
  have hnw : IntKind.i64.wrap (nx + 1) = nx + 1 := IntWalk.i64_in _ (by omega)
  have KE' := KE.out
  clear KE
  obtain ⟨-, -, -, c3, cz⟩ := q4 (KE'.blk (g := q) (e := 173) (List.Mem.tail _ (List.Mem.head _)))
  have tok1 : True := trivial
  go_upto_region 7 with (have zz := tok1; clear zz tok1; refine wpList_st1S [_] KE' rfl 2 (.tmp 39) (.tmp 37) rfl (i := 3) rfl rfl (by kernel_rfl) (show _ < 4 by decide) rfl ?_; intro w7 K7; dsimp only [List.nil_append, List.cons_append, List.set] at K7; clear KE' c3 cz)
  clear hnw
  refine wp_region_wtR (RT.fr No) 9 [0, 1, 2, 3, 4, 5, 6, 7, 8] (by kernel_rfl) (by kernel_rfl) (by kernel_rfl) ?_
  have KD := K7.drew
  clear K7
  generalize World.drew _ = wf at *
  obtain ⟨-, -, c2, -, cz⟩ := q4 (KD.blk (g := q) (e := 173) (List.Mem.tail _ (List.Mem.head _)))
  obtain ⟨x0, -, -, -, xz⟩ := q4 (KD.blk (g := g6) (e := 176) (List.Mem.head _))
  iterate 3 (refine wr_rd rfl rfl (fun K hK => ?_); go_simp; refine hK _ ?_; clear hK K)
  refine wr_ld1 rfl rfl 171 (.tmp 42) rfl rfl (fun w' h => Fr.cell h c2 (fun h => h)) _ Tryz.underlying171 rfl ?_
  iterate 3 (refine wr_rd rfl rfl (fun K hK => ?_); go_simp; refine hK _ ?_; clear hK K)
  refine wr_ld1 rfl rfl 2 (.tmp 46) rfl rfl (fun w' h => Fr.cell h x0 (fun h => h)) _ Tryz.underlying2 rfl ?_
  iterate 1 (refine wr_rd rfl rfl (fun K hK => ?_); go_simp; refine hK _ ?_; clear hK K)
  refine wr_nil ?_
  simp only [List.drop_succ_cons, List.drop_zero]
  clear c2 cz x0 xz
  refine wpList_mapS [_, _, _, _] KD rfl _ _ _ 171 rfl 174 law64 Tryz.underlying171 rfl hmn2 _ _ _ rfl rfl hkI (.lit (.bool true)) [] rfl ?_
  intro w8 K8
  dsimp only [List.nil_append, List.cons_append] at K8
  clear KD
  have HPH := hide (hpush_any (x := ⟨nx, s1, d1⟩) (by have := HN.out; omega) HL.out HH.out K8)
  clear K8
  go_wp2_with fail
  refine NoPanic.normal ?_
  go_wp2_with fail
  (with_reducible refine HPH.out.mono ?_)
  rintro e w9 ⟨rfl, v', gs', es', h1, h2, h3, ⟨j, hx1', hx2'⟩, h4⟩
  obtain ⟨pl, hbx⟩ := (sep_ents (gs := gs') (es := es') h4 (List.Mem.tail _ (List.Mem.tail _ (List.Mem.head _)))).blk j g6 _ hx1' hx2'
  have cx := hbx.cell 0
  have cxz := hbx.lt
  have H1 := hide h1
  have H2 := hide h2
  have H3 := hide h3
  have H4 := hide h4
  clear h1 h2 h3 h4 hx1' hx2' hbx HPH
  go_wp2_with fail
  go_ret2
  exact ⟨rfl, v', gs', es', _, H1.out, H2.out, H3.out, H4.out⟩

end Go.Proofs.YtdmaephmkfmehaaGreatDoor
namespace Go.Gr
open Go.RowKit
set_option linter.unusedSimpArgs false
theorem results_tct {P : Program} {fn : Func} {s p u : Tmp} {ty : TypeId} (h : fn.results = #[.tmp s, .cell p ty, .tmp u]) (tmps : Array Value) (w : World) (g : Nat) (t : TypeId) (cs : List Value) (d : TypeDesc)
    (hp : tmps.getD p undef = .pointer (some ⟨g, 0, none⟩)) (hB : Blk w g t cs) (hu : P.underlying ty = some d) (hd : (match d with | .struct _ | .array _ _ => true | _ => false) = true) (hi : (P.info? ty).map (·.size) = some cs.length) {x y : Value} (hx : tmps.getD s undef = x) (hy : tmps.getD u undef = y) :
    (results fn tmps).run P w = .ok (.tuple #[x, .agg cs.toArray, y]) w := by
  subst hx hy
  have r1 := run_loadVar_row (P := P) w g t ty cs.toArray (0, 0) d hB hu hd (by simpa using hi)
  rw [Array.getD_eq_getD_getElem?] at hp
  simp only [results, h]
  simp [Sem.run_bind, Result.andThen, hp, asAddr, r1]
end Go.Gr
namespace Go.Proofs.YtdmaephmkfmehaaGreatDoor
open Go.RowKit Go.Gr Go.Hp
set_option linter.unusedVariables false
set_option linter.unusedSimpArgs false
attribute [local go_sem] rdOp rdAt rdUpon Cls forall_fr
theorem ho_one (s d : Int) : ∀ v ∈ ([.int .i64 s, .int .i64 d] : List Value), v.oneCell' = true := by
  intro v hv; simp at hv; rcases hv with rfl | rfl <;> rfl

set_option maxRecDepth 100000 in
set_option maxHeartbeats 2000000 in
theorem peek_none {G : Nat → Prop} {w0 w : World} {L : List As} {q : Nat} {v : Value} {m n : Nat} {D : DataW Unit} {nx : Int} {gs : List Nat} {es : List En} (hl : gs = []) (H : Sep G w0 w (As.blk q 173 [v, lessV, .map (some m), .int .i64 nx] :: As.own 174 v (gs.map ptrV) :: entsA gs es :: As.map Tryz.prog 2 anyR m n D :: L)) :
    Calls Tryz.prog 55 #[ptrV q] w fun e w' => e = .returned (.tuple #[.int .i64 0, hov 0 0, .int .i64 4]) ∧ Ext w w' := by
  subst hl
  obtain ⟨A, c, rfl, -, hc, -⟩ := (H.owns (e := 174) (v := v) (xs := ([] : List Nat).map ptrV) (List.Mem.tail _ (List.Mem.head _))).form
  have HB := hide (fun (x : World) (h : Ext w x) => (H.blk (g := q) (e := 173) (List.Mem.head _)).ext h)
  try dsimp only [List.map_nil, List.length_nil] at HB
  clear H hc
  have tok1 : True := trivial
  have tok2 : True := trivial
  go_enter Tryz.func55, Tryz.ntmps55
  go_upto_region 1 with (have zz := tok1; clear zz tok1; refine wpList_alS (Sep.refl No w) rfl 39 rfl [.int .i64 0, .int .i64 0] (by kernel_rfl) ?_; intro w1 hz1 K1; clear hz1)
  obtain ⟨g3, G3⟩ : ∃ g, w.heap.size = g := ⟨_, rfl⟩
  rw [G3] at K1 ⊢
  clear G3
  go_wp2_with fail
  (with_reducible refine (made_any q _ m nx w1 (HB.out _ K1.toExt)).mono ?_)
  rintro e w2 ⟨rfl, rfl⟩
  obtain ⟨c0, -, -, -, cz⟩ := q4 (HB.out _ K1.toExt)
  go_upto_region 4 with fail
  refine wp_region_wtR (RT.fr No) 2 [0, 1] (by kernel_rfl) (by kernel_rfl) (by kernel_rfl) ?_
  have KD := K1.drew
  clear K1 c0 cz
  generalize World.drew _ = wd at *
  have hB3 := KD.blk (g := g3) (e := 39) (cs := [.int .i64 0, .int .i64 0]) (List.Mem.head _)
  refine wr_ldR rfl rfl 39 (.tmp 3) rfl (whole := [.int .i64 0, .int .i64 0]) (cs := [.int .i64 0, .int .i64 0]) (fun w' h => hB3.ext h.ext) (fun j v h => by rw [Nat.zero_add]; exact h) rfl _ Tryz.underlying39 rfl (by kernel_rfl) ?_
  iterate 1 (refine wr_rd rfl rfl (fun K hK => ?_); go_simp; refine hK _ ?_; clear hK K)
  refine wr_nil ?_
  simp only [List.drop_succ_cons, List.drop_zero]
  clear hB3
  go_wp2_with (have zz := tok2; clear zz tok2; refine wpList_stS [] KD rfl 39 (.tmp 3) (.tmp 19) rfl rfl (cs := [.int .i64 0, .int .i64 0]) rfl (by kernel_rfl) rfl (ho_one 0 0) ?_; intro w4 K4; dsimp only [List.nil_append] at K4; clear KD)
  refine NoPanic.normal ?_
  go_wp2_with fail
  refine bodyPost_ret (v := .tuple #[.int .i64 0, hov 0 0, .int .i64 4]) (results_tct rfl _ _ g3 39 [.int .i64 0, .int .i64 0] _ rfl (K4.blk (g := g3) (e := 39) (cs := [.int .i64 0, .int .i64 0]) (List.Mem.head _)) Tryz.underlying39 rfl (by kernel_rfl) rfl rfl) rfl ?_
  exact ⟨rfl, K4.toExt⟩

set_option maxRecDepth 100000 in
set_option maxHeartbeats 2000000 in
theorem peek_some {G : Nat → Prop} {w0 w : World} {L : List As} {q : Nat} {v : Value} {m n : Nat} {D : DataW Unit} {nx : Int} {gs : List Nat} {es : List En} {r : En} (hl : gs.length = es.length) (hr : es[0]? = some r) (H : Sep G w0 w (As.blk q 173 [v, lessV, .map (some m), .int .i64 nx] :: As.own 174 v (gs.map ptrV) :: entsA gs es :: As.map Tryz.prog 2 anyR m n D :: L)) :
    Calls Tryz.prog 55 #[ptrV q] w fun e w' => e = .returned (.tuple #[.int .i64 r.h, hov r.s r.d, .int .i64 0]) ∧ Ext w w' := by
  have h0 := lt_of_some hr
  obtain ⟨gr, c, rfl, hc, hgr, hcell⟩ := own_at (H.owns (e := 174) (v := v) (xs := gs.map ptrV) (List.Mem.tail _ (List.Mem.head _))) (by rw [List.length_map]; omega)
  obtain ⟨g0, hg0⟩ := some_of (l := gs) (i := 0) (by omega)
  obtain ⟨pl, hb0⟩ := (sep_ents (gs := gs) (es := es) H (List.Mem.tail _ (List.Mem.tail _ (List.Mem.head _)))).blk 0 g0 r hg0 hr
  have cr := hcell 0 (ptrV g0) (by rw [List.getElem?_map, hg0]; rfl)
  rw [List.length_map] at hc H
  have HB := hide (fun (x : World) (h : Ext w x) => (H.blk (g := q) (e := 173) (List.Mem.head _)).ext h)
  have HE := hide (fun (x : World) (h : Ext w x) => hb0.ext h)
  have HCR := hide (fun (x : World) (h : Ext w x) => ((Below.cell h (cell_lt cr)).trans cr))
  have e0 : ((gs.length : Int) == 0) = false := beq_eq_false_iff_ne.2 (by omega)
  have e00 : (0 : Int) < (gs.length : Int) := by omega
  clear H hc hcell hb0 cr hg0 hr h0 hl
  have tok1 : True := trivial
  have tok2 : True := trivial
  go_enter Tryz.func55, Tryz.ntmps55
  go_upto_region 1 with (have zz := tok1; clear zz tok1; refine wpList_alS (Sep.refl No w) rfl 39 rfl [.int .i64 0, .int .i64 0] (by kernel_rfl) ?_; intro w1 hz1 K1; clear hz1)
  obtain ⟨g3, G3⟩ : ∃ g, w.heap.size = g := ⟨_, rfl⟩
  rw [G3] at K1 hgr ⊢
  clear G3
  go_wp2_with fail
  (with_reducible refine (made_any q _ m nx w1 (HB.out _ K1.toExt)).mono ?_)
  rintro e w2 ⟨rfl, rfl⟩
  obtain ⟨c0, -, -, -, cz⟩ := q4 (HB.out _ K1.toExt)
  have cr := HCR.out _ K1.toExt
  have crz := cell_lt cr
  go_upto_region 6 with fail
  refine wp_region_wtR (RT.fr No) 9 [0, 1, 2, 3, 4, 5, 6, 7, 8] (by kernel_rfl) (by kernel_rfl) (by kernel_rfl) ?_
  have KD := K1.drew
  clear K1 c0 cz cr crz
  generalize World.drew _ = wd at *
  have hb := HE.out _ KD.toExt
  have x0 := hb.cell 0
  have xz := hb.lt
  iterate 3 (refine wr_rd rfl rfl (fun K hK => ?_); go_simp; refine hK _ ?_; clear hK K)
  refine wr_ld1 rfl rfl 2 (.tmp 29) rfl rfl (fun w' h => Fr.cell h x0 (fun h => h)) _ Tryz.underlying2 rfl ?_
  iterate 3 (refine wr_rd rfl rfl (fun K hK => ?_); go_simp; refine hK _ ?_; clear hK K)
  refine wr_ldR rfl rfl 39 (.tmp 33) rfl (off := 1) (whole := enC r pl) (cs := [.int .i64 r.s, .int .i64 r.d]) (fun w' h => hb.ext h.ext) (fun j v h => by
    match j with
    | 0 => exact h
    | 1 => exact h
    | (n + 2) => simp at h) rfl _ Tryz.underlying39 rfl (by kernel_rfl) ?_
  iterate 1 (refine wr_rd rfl rfl (fun K hK => ?_); go_simp; refine hK _ ?_; clear hK K)
  refine wr_nil ?_
  simp only [List.drop_succ_cons, List.drop_zero]
  clear hb x0 xz
  go_wp2_with (have zz := tok2; clear zz tok2; refine wpList_stS [] KD rfl 39 (.tmp 3) (.tmp 34) rfl rfl (cs := [.int .i64 r.s, .int .i64 r.d]) rfl (by kernel_rfl) rfl (ho_one r.s r.d) ?_; intro w4 K4; dsimp only [List.nil_append] at K4; clear KD)
  refine NoPanic.normal ?_
  go_wp2_with fail
  refine bodyPost_ret (v := .tuple #[.int .i64 r.h, hov r.s r.d, .int .i64 0]) (results_tct rfl _ _ g3 39 [.int .i64 r.s, .int .i64 r.d] _ rfl (K4.blk (g := g3) (e := 39) (cs := [.int .i64 r.s, .int .i64 r.d]) (List.Mem.head _)) Tryz.underlying39 rfl (by kernel_rfl) rfl rfl) rfl ?_
  exact ⟨rfl, K4.toExt⟩

end Go.Proofs.YtdmaephmkfmehaaGreatDoor
namespace Go.Gr
open Go.RowKit Go.Sort
open Go.Maps (Keyed)
theorem Fr.of_turned {w w' : World} {b : Nat} (h : w.mapTurned w' b) : Fr (At b) w w' := by
  obtain ⟨es, clock, es', clock', hb, rfl⟩ := h
  refine ⟨rfl, rfl, rfl, by simp [Go.ChangeMaps.setBlock], fun i hi hn => ?_⟩
  have hne : b ≠ i := fun e => hn e.symm
  simp [Go.ChangeMaps.setBlock, hne]
theorem wpList_delS {H : Type} {P : Program} {k : TypeId} {R : Value → Option (DataW H × List MemPlace)} {w w0 : World} {G : Nat → Prop} {ops : Array Oper} {rest : List Oper} {o : Oper} {a : Act} {Q : Exit → Act → World → Prop} (L1 : List As) {L2 : List As} {b n : Nat} {D : DataW H} (HS : Sep G w0 w (L1 ++ As.map P k R b n D :: L2))
    (hg : o.guard = none) (m x : Operand) (t : TypeId) (hop : o.op = Op.call { callee := Callee.builtin Builtin.delete, args := #[m, x], argTypes := #[t, k] }) (e : TypeId) (K : Keyed P k) (ht : P.underlying t = some (.map k e))
    (hm : a.eval m = .map (some b)) (key : Value) (kl : Lit) (hx : a.eval x = key) (hkey : keyOf P k key = some kl)
    (h : ∀ w', Sep G w0 w' (L1 ++ As.map P k R b n (D.del kl) :: L2) → wpList P ops Q rest (a.put o.dst (.tuple #[])) w') : wpList P ops Q (o :: rest) a w :=
  wpList_delete_own (w := w) hg m x t k hop e K ht R b n D hm (HS.map (by simp)) key kl hx hkey fun w' h1 h2 =>
    h w' (HS.upd (B := As.map P k R b n (D.del kl)) (Fr.of_turned h2) (fun _ h => h) h1 (fun _ h => .inl h))
end Go.Gr
namespace Go.Proofs.YtdmaephmkfmehaaGreatDoor
open Go.RowKit Go.Gr Go.Hp
set_option linter.unusedVariables false
set_option linter.unusedSimpArgs false
attribute [local go_sem] rdOp rdAt rdUpon Cls forall_fr

set_option maxRecDepth 100000 in
set_option maxHeartbeats 2000000 in
theorem qpop_any {G : Nat → Prop} {w0 w : World} {L : List As} {q : Nat} {v : Value} {m n : Nat} {D : DataW Unit} {nx : Int} {gs : List Nat} {es : List En} {k : Nat} {r : En} (hn : gs.length ≤ 100000) (hl : gs.length = es.length) (hk : es.length = k + 1) (hr : es[0]? = some r) (hh : IsHeap es es.length) (hh0 : 0 ≤ r.h ∧ r.h < 1000000) (H : Sep G w0 w (As.blk q 173 [v, lessV, .map (some m), .int .i64 nx] :: As.own 174 v (gs.map ptrV) :: entsA gs es :: As.map Tryz.prog 2 anyR m n D :: L)) :
    Calls Tryz.prog 57 #[ptrV q] w fun e w' => e = .returned (.tuple #[.int .i64 r.h, hov r.s r.d, .int .i64 0]) ∧ ∃ v' gs' es' D', gs'.length = k ∧ (es' ++ [r]).Perm es ∧ IsHeap es' es'.length ∧
      Sep G w0 w' (As.blk q 173 [v', lessV, .map (some m), .int .i64 nx] :: As.own 174 v' (gs'.map ptrV) :: entsA gs' es' :: As.map Tryz.prog 2 anyR m n D' :: L) := by
  have hkI := Maps.keyOf_int_mk (P := Tryz.prog) Tryz.underlying2 (wf_i64' (x := r.h) (by omega) (by omega))
  have HN := hide hn
  have HL := hide hl
  have HK := hide hk
  have HR := hide hr
  have HH := hide hh
  have HS0 := hide H
  clear hn hl hk hr hh H hh0
  have tok1 : True := trivial
  have tok2 : True := trivial
  have tok3 : True := trivial
  have tok4 : True := trivial
  go_enter Tryz.func57, Tryz.ntmps57
  go_upto_region 1 with (have zz := tok1; clear zz tok1; refine wpList_alS HS0.out rfl 39 rfl [.int .i64 0, .int .i64 0] (by kernel_rfl) ?_; intro w1 hz1 K1; clear hz1 HS0)
  obtain ⟨g3, G3⟩ : ∃ g, w.heap.size = g := ⟨_, rfl⟩
  rw [G3] at K1 ⊢
  clear G3
  have HPK := hide (peek_some HL.out HR.out (K1.tail))
  have KK := hide K1
  clear K1
  go_wp2_with fail
  (with_reducible refine HPK.out.mono ?_)
  rintro e w2 ⟨rfl, hx⟩
  have K2 := KK.out.ext hx
  clear KK hx HPK
  go_upto_region 4 with (have zz := tok2; clear zz tok2; refine wpList_stS [] K2 rfl 39 (.tmp 3) (.tmp 9) rfl rfl (cs := [.int .i64 r.s, .int .i64 r.d]) rfl (by kernel_rfl) rfl (ho_one r.s r.d) ?_; intro w3 K3; dsimp only [List.nil_append] at K3; clear K2)
  have hq := (K3.blk (g := q) (e := 173) (List.Mem.tail _ (List.Mem.head _))).lt
  have P1 := K3.perm ((List.Perm.swap _ _ _).trans (List.Perm.cons _ ((List.Perm.swap _ _ _).trans (List.Perm.cons _ ((List.Perm.swap _ _ _).trans (List.Perm.cons _ (List.Perm.swap _ _ _)))))))
  have HPP := hide (hpop_any HN.out HL.out HK.out HR.out HH.out P1)
  clear K3 P1
  go_wp2_with fail
  (with_reducible refine HPP.out.mono ?_)
  rintro e w4 ⟨⟨z, rfl⟩, v', gs', es', h1, h2, h3, h4⟩
  have H1 := hide h1
  have H2 := hide h2
  have H3 := hide h3
  clear h1 h2 h3 hq HPP
  obtain ⟨-, -, c2, -, cz⟩ := q4 (h4.blk (g := q) (e := 173) (List.Mem.head _))
  go_upto_region 6 with (have zz := tok3; clear zz tok3; refine wpList_delS [_, _, _] h4 rfl _ _ 171 rfl 174 law64 Tryz.underlying171 rfl _ _ rfl hkI ?_; intro w5 K5; dsimp only [List.nil_append, List.cons_append] at K5; clear h4 c2 cz)
  refine wp_region_wtR (RT.fr No) 3 [0, 1, 2] (by kernel_rfl) (by kernel_rfl) (by kernel_rfl) ?_
  have KD := K5.drew
  clear K5
  generalize World.drew _ = wd at *
  have KE := KD.perm (L' := As.blk g3 39 [.int .i64 r.s, .int .i64 r.d] :: As.blk q 173 [v', lessV, .map (some m), .int .i64 nx] :: As.own 174 v' (gs'.map ptrV) :: entsA gs' es' :: As.map Tryz.prog 2 anyR m n (D.del (.int .i64 r.h)) :: L) (((List.Perm.cons _ (List.Perm.cons _ (List.Perm.cons _ (List.Perm.swap _ _ _)))).trans (List.Perm.cons _ (List.Perm.cons _ (List.Perm.swap _ _ _)))).trans ((List.Perm.cons _ (List.Perm.swap _ _ _)).trans (List.Perm.swap _ _ _)))
  have hB3 := KE.blk (g := g3) (e := 39) (cs := [.int .i64 r.s, .int .i64 r.d]) (List.Mem.head _)
  clear KD
  iterate 1 (refine wr_rd rfl rfl (fun K hK => ?_); go_simp; refine hK _ ?_; clear hK K)
  refine wr_ldR rfl rfl 39 (.tmp 3) rfl (whole := [.int .i64 r.s, .int .i64 r.d]) (cs := [.int .i64 r.s, .int .i64 r.d]) (fun w' h => hB3.ext h.ext) (fun j v h => by rw [Nat.zero_add]; exact h) rfl _ Tryz.underlying39 rfl (by kernel_rfl) ?_
  iterate 1 (refine wr_rd rfl rfl (fun K hK => ?_); go_simp; refine hK _ ?_; clear hK K)
  refine wr_nil ?_
  simp only [List.drop_succ_cons, List.drop_zero]
  clear hB3
  go_wp2_with (have zz := tok4; clear zz tok4; refine wpList_stS [] KE rfl 39 (.tmp 3) (.tmp 26) rfl rfl (cs := [.int .i64 r.s, .int .i64 r.d]) rfl (by kernel_rfl) rfl (ho_one r.s r.d) ?_; intro w7 K7; dsimp only [List.nil_append] at K7; clear KE)
  refine NoPanic.normal ?_
  go_wp2_with fail
  refine bodyPost_ret (v := .tuple #[.int .i64 r.h, hov r.s r.d, .int .i64 0]) (results_tct rfl _ _ g3 39 [.int .i64 r.s, .int .i64 r.d] _ rfl (K7.blk (g := g3) (e := 39) (cs := [.int .i64 r.s, .int .i64 r.d]) (List.Mem.head _)) Tryz.underlying39 rfl (by kernel_rfl) rfl rfl) rfl ?_
  exact ⟨rfl, v', gs', es', _, H1.out, H2.out, H3.out, K7.tail⟩

end Go.Proofs.YtdmaephmkfmehaaGreatDoor
