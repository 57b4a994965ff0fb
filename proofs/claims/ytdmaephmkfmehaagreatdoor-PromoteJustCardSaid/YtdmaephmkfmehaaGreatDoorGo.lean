/- Texts put together: Z4 Z5 Z6. -/
import Derived.Test.YtdmaephmkfmehaaGreatDoorGn
import Derived.Test.YtdmaephmkfmehaaGreatDoorGl
import Derived.Test.YtdmaephmkfmehaaGreatDoorGb
import Derived.Test.YtdmaephmkfmehaaGreatDoorGm
import Derived.Test.YtdmaephmkfmehaaGreatDoorGi
namespace Go.Proofs.YtdmaephmkfmehaaGreatDoor
open Go.RowKit Go.Gr Go.Hp Go.Ad Go.Wl Go.Pm
set_option linter.unusedVariables false
set_option linter.unusedSimpArgs false
attribute [local go_sem] rdOp rdAt rdUpon Cls forall_fr
/-- the cells of a house -/
abbrev hsC (g m : Nat) (dl : Int) (ve vg vw vf : Value) : List Value := [pt g, .map (some m), .int .i64 dl, ve, vg, vw, vf]
noncomputable abbrev secR : Value → Option (DataW Unit × List MemPlace) := plainElem Tryz.prog 3
/-- the map of seats to sections -/
structure IsSec (v : Vn) (D : DataW Unit) : Prop where
  has : ∀ x, Maps.has D (.int .i64 x) = decide (plE v x = 0)
  at_ : ∀ x, D.atKey (.int .i64 x) (.lit (.int .i64 0)) = .lit (.int .i64 (secOf v x))
  size : Maps.size D = sumS v.secs
theorem infoGt : (Tryz.prog.info? 43).map (fun i => (i.zero, i.size, i.bytes)) = some (some (.agg #[.int .i64 0, .int .i64 0, .int .u32 0, .int .i64 0]), 4, 32) := by kernel_rfl
theorem q7 {w : World} {g : Nat} {t : TypeId} {a b c d e f h : Value} (k : Blk w g t [a, b, c, d, e, f, h]) : w.cell? ⟨g, 0, none⟩ = some a ∧ w.cell? ⟨g, 1, none⟩ = some b ∧ w.cell? ⟨g, 2, none⟩ = some c ∧ w.cell? ⟨g, 3, none⟩ = some d ∧ w.cell? ⟨g, 4, none⟩ = some e ∧ w.cell? ⟨g, 5, none⟩ = some f ∧ w.cell? ⟨g, 6, none⟩ = some h ∧ g < w.heap.size := ⟨k.cell 0, k.cell 1, k.cell 2, k.cell 3, k.cell 4, k.cell 5, k.cell 6, k.lt⟩
theorem ownOne {w : World} {e : TypeId} {v : Value} {xs : List Value} (h : Go.Gr.Own 0 w e v xs) : v.oneCell' = true := by
  obtain ⟨A, c, rfl, _⟩ := h.form; rfl
theorem ownMOne {w : World} {e : TypeId} {k : Nat} {v : Value} {rows : List (List Value)} (h : OwnM w e k v rows) : v.oneCell' = true := by
  obtain ⟨A, c, rfl, _⟩ := h.form; rfl
/-- one more row, in a block of its own -/
theorem rdM_new (w : World) (e : TypeId) (r : List Value) : RdM (w.alloc (.cells r.toArray e)) (some ⟨w.heap.size, 0, none⟩) r.length [r] := fun i x hx => by
  have h0 : i = 0 := by
    have := (List.getElem?_eq_some_iff.1 hx).1
    simpa using this
  subst h0
  simp only [List.getElem?_cons_zero, Option.some.injEq] at hx
  subst hx
  refine ⟨_, rfl, fun j u hu => ?_⟩
  have hadd : (⟨w.heap.size, 0, none⟩ : Addr).add (0 * r.length + j) = ⟨w.heap.size, j, none⟩ := by unfold Addr.add; split <;> simp_all
  rw [hadd]
  have := (Blk.new w e r).cell j
  rw [this]; exact hu

set_option maxRecDepth 100000 in
set_option maxHeartbeats 4000000 in
theorem offer_any {G : Nat → Prop} {w0 w : World} {L : List As} {hb g gr m n : Nat} {v : Vn} {D : DataW Unit} {S : St} {dl : Int} {ve vg vw vf : Value} {gs : List Gt} {fs : List Int} (x : Int) (hD : IsSec v D) (hx : (Lit.int .i64 x).wf = true) (hfg : gs.length < 10000) (hff : fs.length < 10000)
    (H : Sep G w0 w (As.blk hb 68 (hsC g m dl ve vg vw vf) :: AsLs g gr S :: As.map Tryz.prog 3 secR m n D :: As.ownM 43 4 vg (gtV gs) :: As.own 3 vf (i64s fs) :: L)) :
    Calls Tryz.prog 58 #[ptrV hb, .int .i64 x] w fun e w' => ∃ vg' vf', e = .returned (.tuple #[]) ∧ Sep G w0 w' (As.blk hb 68 (hsC g m dl ve vg' vw vf') :: AsLs g gr (stepO v dl ⟨gs, S, fs⟩ x).S :: As.map Tryz.prog 3 secR m n D :: As.ownM 43 4 vg' (gtV (stepO v dl ⟨gs, S, fs⟩ x).gr) :: As.own 3 vf' (i64s (stepO v dl ⟨gs, S, fs⟩ x).fr) :: L) := by
  obtain ⟨i0, ki, kz0, kz1, kz2⟩ := info_parts infoGt
  obtain ⟨j0, mi, mz0, mz1, mz2⟩ := info_parts infoIq
  obtain ⟨c0, c1, c2, c3, c4, c5, c6, cz⟩ := q7 (H.blk (g := hb) (e := 68) (List.Mem.head _))
  obtain ⟨sec, hlk, hat, -⟩ := (H.map (b := m) (n := n) (D := D) (List.Mem.tail _ (List.Mem.tail _ (List.Mem.head _)))).lookup_int lawI Tryz.underlying66 Tryz.underlying3 (by kernel_rfl) (Maps.keyOf_int_mk (P := Tryz.prog) Tryz.underlying3 hx)
  rw [hD.at_ x] at hat
  have hsec : sec = secOf v x := by
    have := hat
    simp only [DataW.lit.injEq, Lit.int.injEq, true_and] at this
    exact this.symm
  subst hsec
  clear hat
  have HT := hide (take_any (i := secOf v x) (H.get (A := AsLs g gr S) (List.Mem.tail _ (List.Mem.head _))))
  have HFG := hide hfg
  have HFF : Hid ((i64s fs).length < 1000000000) := hide (by rw [i64s_len]; omega)
  have KK := hide H
  clear H hD hx hfg hff
  go_enter Tryz.func58, Tryz.ntmps58
  go_wp2_with fail
  (with_reducible refine HT.out.mono ?_)
  rintro e w1 ⟨rfl, hp, hu⟩
  have K1 := KK.out.upd (L1 := [_]) (A := AsLs g gr S) (B := AsLs g gr (takeS S (secOf v x)).1) (Fr.of_upd hu) (fun i hi => .inr hi) hp (fun i hi => .inl hi)
  dsimp only [List.cons_append, List.nil_append] at K1
  clear hp hu HT KK c0 c1 c2 c3 c4 c5 c6 cz hlk
  obtain ⟨c0, c1, c2, c3, c4, c5, c6, cz⟩ := q7 (K1.blk (g := hb) (e := 68) (List.Mem.head _))
  by_cases hc : (takeS S (secOf v x)).2.2 = 0
  rotate_left
  · have HE := hide (step_free (v := v) (dl := dl) (R := ⟨gs, S, fs⟩) (x := x) hc)
    rw [take_bad hc] at K1 ⊢
    clear hc
    have tok1 : True := trivial
    have tok2 : True := trivial
    go_wp2_with (first
      | (have zz := tok1; clear zz tok1; refine wpList_pushS [_, _, _, _] K1 rfl (.tmp 29) (.tmp 31) 32 rfl j0 _ 8 Tryz.underlying32 mi mz0 mz1 mz2 rfl rfl rfl (by rfl) HFF.out (by decide) ?_; intro vf' w2 K2; dsimp only [List.nil_append, List.cons_append] at K2; have hlt2 := (K2.blk (g := hb) (e := 68) (List.Mem.head _)).lt; clear K1 c0 c1 c2 c3 c4 c5 c6 cz)
      | (have zz := tok2; clear zz tok2; refine wpList_st1S [] K2 rfl 32 (.tmp 35) (.tmp 32) rfl (i := 6) rfl rfl (by kernel_rfl) (show 6 < 7 by decide) (ownOne (K2.owns (e := 3) (List.Mem.tail _ (List.Mem.tail _ (List.Mem.tail _ (List.Mem.tail _ (List.Mem.head _))))))) ?_; intro w3 K3; dsimp only [List.nil_append, List.cons_append, List.set] at K3; clear K2))
    refine bodyPost_ret (results_none rfl _ _ _) rfl ?_
    refine ⟨vg, vf', rfl, ?_⟩
    rw [HE.out]
    dsimp only
    rw [← i64s_snoc]
    exact K3
  · have HE := hide (step_got (v := v) (dl := dl) (R := ⟨gs, S, fs⟩) (x := x) hc)
    generalize (takeS S (secOf v x)).2.1 = o at *
    generalize (takeS S (secOf v x)).1 = S' at *
    rw [hc]
    clear hc
    go_upto_region 4 with fail
    refine wp_region_wtR (RT.fr (fun i => vg.ownBlock = some i)) 16 [0, 1, 2, 3, 4, 5, 6, 7, 8, 9, 10, 11, 12, 13, 14, 15] (by kernel_rfl) (by kernel_rfl) (by kernel_rfl) ?_
    have KD := K1.drew
    clear K1 c0 c1 c2 c3 c4 c5 c6 cz
    generalize World.drew _ = wd at *
    obtain ⟨c0, c1, c2, c3, c4, c5, c6, cz⟩ := q7 (KD.blk (g := hb) (e := 68) (List.Mem.head _))
    have hne : ¬ vg.ownBlock = some hb := (List.pairwise_cons.1 KD.dis).1 (As.ownM 43 4 vg (gtV gs)) (List.Mem.tail _ (List.Mem.tail _ (List.Mem.head _))) hb rfl
    iterate 5 (refine wr_rd rfl rfl (fun K hK => ?_); go_simp; refine hK _ ?_; clear hK K)
    refine wr_ld1 rfl rfl 31 (.tmp 40) rfl rfl (fun w' h => Fr.cell h c4 hne) _ Tryz.underlying31 rfl ?_
    iterate 6 (refine wr_rd rfl rfl (fun K hK => ?_); go_simp; refine hK _ ?_; clear hK K)
    refine wr_ld1 rfl rfl 2 (.tmp 47) rfl rfl (fun w' h => Fr.cell h c2 hne) _ Tryz.underlying2 rfl ?_
    iterate 1 (refine wr_rd rfl rfl (fun K hK => ?_); go_simp; refine hK _ ?_; clear hK K)
    clear c0 c1 c2 c3 c4 c5 c6 cz
    refine wr_ext rfl rfl (fun K hK => ?_)
    go_simp
    refine hK _ _ ((Fr.of_ext ((Ext.refl wd).alloc _)).mono (fun i h => h.elim)) ?_
    clear hK K
    have HN := hide (rdM_new wd 43 (gtC ⟨x, secOf v x, o, dl⟩))
    have KA := KD.ext ((Ext.refl wd).alloc (.cells (gtC ⟨x, secOf v x, o, dl⟩).toArray 43))
    clear KD
    refine wr_ext rfl rfl (fun K hK => ?_)
    rw [if_pos (show Region.wanted _ _ = true from rfl)]
    refine wp_apsM [_, _, _] KA (.tmp 41) (.tmp 50) 31 rfl i0 _ 32 Tryz.underlying31 ki kz0 kz1 kz2 rfl (by decide) rfl (A := some ⟨wd.heap.size, 0, none⟩) (m := 1) (c := 1) (news := [gtC ⟨x, secOf v x, o, dl⟩]) rfl rfl HN.out (by intro r hr; rw [List.mem_singleton] at hr; subst hr; rfl) (by intro r hr; rw [List.mem_singleton] at hr; subst hr; exact gtC_one _) (by rw [gtV_len]; have := HFG.out; simp; omega) (by decide) ?_
    intro vg' w4 K4 hg4
    dsimp only [List.nil_append, List.cons_append] at K4
    refine hK _ _ hg4.fr ?_
    clear hK K hg4 KA HN
    rw [gtV_snoc] at K4
    have hlt4 := (K4.blk (g := hb) (e := 68) (List.Mem.head _)).lt
    refine wr_nil ?_
    simp only [List.drop_succ_cons, List.drop_zero]
    have tok3 : True := trivial
    go_wp2_with (have zz := tok3; clear zz tok3; refine wpList_st1S [] K4 rfl 31 (.tmp 54) (.tmp 51) rfl (i := 4) rfl rfl (by kernel_rfl) (show 4 < 7 by decide) (ownMOne (K4.ownsM (e := 43) (k := 4) (List.Mem.tail _ (List.Mem.tail _ (List.Mem.tail _ (List.Mem.head _)))))) ?_; intro w5 K5; dsimp only [List.nil_append, List.cons_append, List.set] at K5; clear K4)
    refine NoPanic.normal ?_
    go_end0
    refine ⟨vg', vf, rfl, ?_⟩
    rw [HE.out]
    exact K5
end Go.Proofs.YtdmaephmkfmehaaGreatDoor
namespace Go.Proofs.YtdmaephmkfmehaaGreatDoor
open Go.RowKit Go.Gr Go.Hp Go.Ad Go.Wl Go.Pm
set_option linter.unusedVariables false
set_option linter.unusedSimpArgs false
attribute [local go_sem] rdOp rdAt rdUpon Cls forall_fr
theorem perm_back5 {α : Type} (a b c d e f : α) (L : List α) : (a :: b :: c :: d :: e :: f :: L).Perm (b :: c :: d :: e :: f :: a :: L) := by
  have := (List.perm_append_comm (l₁ := [a]) (l₂ := [b, c, d, e, f])).append_right L
  simpa using this
theorem perm_front5 {α : Type} (a b c d e f : α) (L : List α) : (b :: c :: d :: e :: f :: a :: L).Perm (a :: b :: c :: d :: e :: f :: L) := (perm_back5 a b c d e f L).symm
theorem rsC_one {w x y z : Value} (h1 : w.oneCell' = true) (h2 : x.oneCell' = true) (h3 : y.oneCell' = true) (h4 : z.oneCell' = true) : ∀ u ∈ [w, x, y, z], u.oneCell' = true := by
  intro u hu
  simp only [List.mem_cons, List.not_mem_nil, or_false] at hu
  rcases hu with rfl | rfl | rfl | rfl
  · exact h1
  · exact h2
  · exact h3
  · exact h4
theorem house_res {w : World} {hb : Nat} {t : TypeId} {a b c d e f h : Value} (k : Blk w hb t [a, b, c, d, e, f, h]) : At5 w hb 3 [d, e, f, h] := by
  intro j u hu
  have h2 : ([a, b, c, d, e, f, h] : List Value)[3 + j]? = some u := by
    rw [← hu, show ([a, b, c, d, e, f, h] : List Value) = [a, b, c] ++ [d, e, f, h] from rfl, List.getElem?_append_right (by simp)]
    simp
  rw [← h2]; exact k.cell _

set_option maxRecDepth 100000 in
set_option maxHeartbeats 4000000 in
theorem pall_any {G : Nat → Prop} {w0 w : World} {L : List As} {hb g gr m n : Nat} {v : Vn} {D : DataW Unit} {S : St} {dl : Int} {ve : Value} (l : List Int) (A : Option Addr) (c : Nat) (hD : IsSec v D) (hv1 : ve.oneCell' = true) (hwf : ∀ x ∈ l, (Lit.int .i64 x).wf = true) (hl : l.length ≤ 9000)
    (hc : l.length ≤ c) (hr : ∀ y L', Sep G w0 y (L' ++ L) → Rd y A (i64s l))
    (H : Sep G w0 w (As.blk hb 68 (hsC g m dl ve (.slice none 0 0) (.slice none 0 0) (.slice none 0 0)) :: AsLs g gr S :: As.map Tryz.prog 3 secR m n D :: L)) :
    Calls Tryz.prog 26 #[ptrV hb, .slice A l.length c] w fun e w' => ∃ vg B vs vf, e = .returned (.tuple #[.agg #[ve, vg, .slice B S.length S.length, vf], .int .i64 0]) ∧ Sep G w0 w' (AsRows B vs (rowsS (offO v dl S l).S) :: As.ownM 43 4 vg (gtV (offO v dl S l).gr) :: As.own 3 vf (i64s (offO v dl S l).fr) :: L) := by
  have HD := hide hD
  have HWF := hide hwf
  have HR := hide hr
  have HL : Hid (l.length ≤ 9000) := hide hl
  have hl2 : (l.length : Int) ≤ 9000 := by omega
  have HC := hide hc
  have HM := hide (offO_many v dl S)
  have K0 := (((H.nilO 3).nilM 43 4)).perm (L' := As.blk hb 68 (hsC g m dl ve (.slice none 0 0) (.slice none 0 0) (.slice none 0 0)) :: AsLs g gr S :: As.map Tryz.prog 3 secR m n D :: As.ownM 43 4 (.slice none 0 0) (gtV []) :: As.own 3 (.slice none 0 0) (i64s []) :: L) (by
    have := (List.perm_append_comm (l₁ := [As.ownM 43 4 (.slice none 0 0) [], As.own 3 (.slice none 0 0) []]) (l₂ := [As.blk hb 68 (hsC g m dl ve (.slice none 0 0) (.slice none 0 0) (.slice none 0 0)), AsLs g gr S, As.map Tryz.prog 3 secR m n D])).append_right L
    exact this)
  clear H hD hwf hr hc hl
  have tok1 : True := trivial
  go_enter Tryz.func26, Tryz.ntmps26
  go_upto_region 1 with (have zz := tok1; clear zz tok1; refine wpList_alS K0 rfl 34 rfl (rsC none none none none 0 0 0 0 0 0 0 0) (by kernel_rfl) ?_; intro w1 hz1 K1; clear hz1 K0)
  obtain ⟨g4, G4⟩ : ∃ g, w.heap.size = g := ⟨_, rfl⟩
  rw [G4] at K1 ⊢
  clear G4
  have K2 := hide (K1.perm (perm_back5 _ _ _ _ _ _ _))
  clear K1
  go_wp2_with fail
  go_loopw [13] (fun v13 wr => ∃ (i : Nat) (vg vf : Value), v13 = .int .i64 i ∧ i ≤ l.length ∧ Hid (Sep G w0 wr (As.blk hb 68 (hsC g m dl ve vg (.slice none 0 0) vf) :: AsLs g gr (offO v dl S (l.take i)).S :: As.map Tryz.prog 3 secR m n D :: As.ownM 43 4 vg (gtV (offO v dl S (l.take i)).gr) :: As.own 3 vf (i64s (offO v dl S (l.take i)).fr) :: As.blk g4 34 (rsC none none none none 0 0 0 0 0 0 0 0) :: L))) (fun v13 _ => l.length - (intOf v13).toNat)
  case atStart => exact ⟨0, _, _, rfl, Nat.zero_le _, K2⟩
  case round =>
    clear K2
    obtain ⟨i, vg, vf, rfl, hil, K3⟩ := hrel
    by_cases hlt : i < l.length
    · have hli : (i : Int) < (l.length : Int) := by omega
      have hic : (i : Int) < (c : Int) := by have := HC.out; omega
      obtain ⟨ad, rfl, x0⟩ := i64s_at (HR.out wr (As.blk hb 68 (hsC g m dl ve vg (.slice none 0 0) vf) :: AsLs g gr (offO v dl S (l.take i)).S :: As.map Tryz.prog 3 secR m n D :: As.ownM 43 4 vg (gtV (offO v dl S (l.take i)).gr) :: As.own 3 vf (i64s (offO v dl S (l.take i)).fr) :: [As.blk g4 34 (rsC none none none none 0 0 0 0 0 0 0 0)]) K3.out) hlt
      have xz := cell_lt x0
      obtain ⟨x, hx⟩ : ∃ x, l[i] = x := ⟨_, rfl⟩
      have hwx := HWF.out x (by rw [← hx]; exact List.getElem_mem hlt)
      have HE : Hid (offO v dl S (l.take (i + 1)) = stepO v dl (offO v dl S (l.take i)) x) := hide (by rw [← hx]; exact offO_snoc' hlt)
      rw [hx] at x0
      have hm1 := HM.out (l.take i)
      rw [List.length_take] at hm1
      have hl9 := HL.out
      have HO := hide (offer_any (v := v) x HD.out hwx (by omega) (by omega) K3.out)
      have HLT := hide hlt
      clear hwx hm1 hl9 hx hlt K3
      go_wp2_with fail
      (with_reducible refine HO.out.mono ?_)
      rintro e w2 ⟨vg', vf', rfl, K4⟩
      rw [show (⟨(offO v dl S (l.take i)).gr, (offO v dl S (l.take i)).S, (offO v dl S (l.take i)).fr⟩ : Rs) = offO v dl S (l.take i) from rfl, ← HE.out] at K4
      have K5 := hide K4
      clear K4 HO x0 xz
      go_wp2_with fail
      go_roundw
      case rel => exact ⟨i + 1, vg', vf', by go_num, HLT.out, K5⟩
      case measure => have := HLT.out; simp [intOf]; omega
    · have hli : ¬ (i : Int) < (l.length : Int) := by omega
      obtain rfl : i = l.length := by omega
      rw [List.take_length] at K3
      clear hlt
      have HSV := hide (save_any (K3.out.get (A := AsLs g gr (offO v dl S l).S) (List.Mem.tail _ (List.Mem.head _))))
      rw [offO_len] at HSV
      obtain ⟨c0, c1, c2, c3, c4, c5, c6, cz⟩ := q7 (K3.out.blk (g := hb) (e := 68) (List.Mem.head _))
      go_wp2_with fail
      (with_reducible refine HSV.out.mono ?_)
      rintro e w2 ⟨B, vs, rfl, hS⟩
      have K4 := (K3.out.joinW hS)
      dsimp only [List.cons_append, List.nil_append] at K4
      clear hS K3 HSV c0 c1 c2 c3 c4 c5 c6 cz
      have hlt4 := (K4.blk (g := hb) (e := 68) (List.Mem.tail _ (List.Mem.head _))).lt
      have hvg := ownMOne (K4.ownsM (e := 43) (k := 4) (v := vg) (List.Mem.tail _ (List.Mem.tail _ (List.Mem.tail _ (List.Mem.tail _ (List.Mem.head _))))))
      have hvf := ownOne (K4.owns (e := 3) (v := vf) (List.Mem.tail _ (List.Mem.tail _ (List.Mem.tail _ (List.Mem.tail _ (List.Mem.tail _ (List.Mem.head _)))))))
      have HV := hide (rsC_one hv1 hvg (show (Value.slice B S.length S.length).oneCell' = true from rfl) hvf)
      clear hvg hvf
      have tok2 : True := trivial
      have tok3 : True := trivial
      have tok4 : True := trivial
      go_wp2_with (first
        | (have zz := tok2; clear zz tok2; refine wpList_st1S [_] K4 rfl 25 (.tmp 29) (.tmp 26) rfl (i := 5) rfl rfl (by kernel_rfl) (show 5 < 7 by decide) rfl ?_; intro w3 K5; dsimp only [List.nil_append, List.cons_append, List.set] at K5; clear K4 hlt4; have hlt5 := (K5.blk (g := hb) (e := 68) (List.Mem.tail _ (List.Mem.head _))).lt)
        | (have zz := tok3; clear zz tok3; refine wpList_ldX rfl 34 (.tmp 32) rfl (house_res (K5.blk (g := hb) (e := 68) (List.Mem.tail _ (List.Mem.head _)))) rfl _ Tryz.underlying34 rfl (by kernel_rfl) ?_)
        | (have zz := tok4; clear zz tok4; refine wpList_stS [_, _, _, _, _, _] K5 rfl 34 (.tmp 4) (.tmp 33) rfl rfl (cs := [ve, vg, .slice B S.length S.length, vf]) rfl (by kernel_rfl) rfl HV.out ?_; intro w4 K6; dsimp only [List.nil_append, List.cons_append] at K6; clear K5 hlt5))
      refine bodyPost_ret (v := .tuple #[.agg #[ve, vg, .slice B S.length S.length, vf], .int .i64 0]) (results_ct rfl _ _ g4 34 [ve, vg, .slice B S.length S.length, vf] _ rfl (K6.blk (g := g4) (e := 34) (List.Mem.tail _ (List.Mem.tail _ (List.Mem.tail _ (List.Mem.tail _ (List.Mem.tail _ (List.Mem.tail _ (List.Mem.head _)))))))) Tryz.underlying34 rfl (by kernel_rfl) rfl) rfl ?_
      exact ⟨vg, B, vs, vf, rfl, K6.sub (.cons_cons _ (.cons _ (.cons _ (.cons _ (.cons_cons _ (.cons_cons _ (.cons _ (List.Sublist.refl _))))))))⟩
end Go.Proofs.YtdmaephmkfmehaaGreatDoor
namespace Go.Pm
open Go.Ad Go.Wl Go.Proofs.YtdmaephmkfmehaaGreatDoor
set_option linter.unusedVariables false
theorem fst0_next {ss : List Sc} {j : Nat} {s : Sc} (h : ss[j]? = some s) : fst0 ss (j + 1) = fst0 ss j + s.sum := by
  unfold fst0
  rw [List.take_add_one, h]
  simp [sumS]
theorem fst0_mono (ss : List Sc) {i j : Nat} (h : i ≤ j) : fst0 ss i ≤ fst0 ss j := by
  induction h with
  | refl => exact Nat.le_refl _
  | step h ih =>
    rename_i m
    refine Nat.le_trans ih ?_
    rcases Nat.lt_or_ge m ss.length with hm | hm
    · rw [fst0_next (List.getElem?_eq_getElem hm)]; omega
    · unfold fst0
      rw [List.take_of_length_le hm, List.take_of_length_le (by omega)]
      exact Nat.le_refl _
theorem fst0_end (ss : List Sc) : fst0 ss ss.length = sumS ss := by unfold fst0; rw [List.take_length]
theorem fst0_all (ss : List Sc) (i : Nat) : fst0 ss i ≤ sumS ss := by
  rcases Nat.le_total i ss.length with h | h
  · rw [← fst0_end]; exact fst0_mono ss h
  · unfold fst0; rw [List.take_of_length_le h]; exact Nat.le_refl _
theorem take_sum_lt : ∀ {l : List Nat} {q n t : Nat}, l[q]? = some n → t < n → (l.take q).sum + t < l.sum
  | [], _, _, _, h, _ => by simp at h
  | m :: l, 0, n, t, h, ht => by
    simp only [List.getElem?_cons_zero, Option.some.injEq] at h
    subst h
    simp; omega
  | m :: l, q + 1, n, t, h, ht => by
    rw [List.getElem?_cons_succ] at h
    have := take_sum_lt h ht
    simp; omega
/-- the section of a seat -/
theorem secOf_at {v : Vn} (hz : (chk v).2 = 0) {i t : Nat} {s : Sc} (hs : v.secs[i]? = some s) (ht : t < s.sum) : secOf v ((fst0 v.secs i + t : Nat) : Int) = i := by
  have h1 := fst0_next hs
  have h2 := fst0_all v.secs (i + 1)
  have hlt : fst0 v.secs i + t < sumS v.secs := by omega
  obtain ⟨x, hx⟩ : ∃ x, (places v)[fst0 v.secs i + t]? = some x := ⟨_, List.getElem?_eq_getElem (by rw [places_len]; exact hlt)⟩
  have hE : plE v ((fst0 v.secs i + t : Nat) : Int) = 0 := by unfold plE; rw [if_neg (by simpa using hz), if_neg (by omega)]
  have hX : plX v ((fst0 v.secs i + t : Nat) : Int) = x := by unfold plX; rw [if_pos hE, Int.toNat_natCast, hx]; rfl
  unfold secOf
  rw [hX]
  obtain ⟨s', n, e1, e2, e3, e4⟩ := place_inv hx
  have h3 := take_sum_lt e2 e3
  have h4 := fst0_next e1
  have h5 : s'.rowsN.sum = s'.sum := rfl
  have h6 : x.sec = i := by
    rcases Nat.lt_trichotomy x.sec i with h | h | h
    · have := fst0_mono v.secs (show x.sec + 1 ≤ i by omega); omega
    · exact h
    · have := fst0_mono v.secs (show i + 1 ≤ x.sec by omega); omega
  rw [h6]
theorem plE_iff {v : Vn} (hz : (chk v).2 = 0) (x : Int) : plE v x = 0 ↔ (0 ≤ x ∧ x < (sumS v.secs : Nat)) := by
  unfold plE
  rw [if_neg (by simpa using hz)]
  split
  · constructor
    · intro h; cases h
    · intro h; omega
  · constructor
    · intro _; omega
    · intro _; rfl
end Go.Pm
namespace Go.Proofs.YtdmaephmkfmehaaGreatDoor
open Go.RowKit Go.Gr Go.Hp Go.Ad Go.Wl Go.Pm
set_option linter.unusedVariables false
set_option linter.unusedSimpArgs false
attribute [local go_sem] rdOp rdAt rdUpon Cls forall_fr
/-- the map holds the first k seats -/
structure SecTo (v : Vn) (D : DataW Unit) (k : Nat) : Prop where
  has : ∀ x : Int, Maps.has D (.int .i64 x) = decide (0 ≤ x ∧ x < (k : Nat))
  at_ : ∀ x : Int, 0 ≤ x → x < (k : Nat) → ∀ z, D.atKey (.int .i64 x) z = .lit (.int .i64 (secOf v x))
  size : Maps.size D = k
theorem secTo_nil (v : Vn) : SecTo v (.map []) 0 := ⟨fun x => by
  rw [decide_eq_false (by omega)]; rfl, fun x h1 h2 => by omega, rfl⟩
theorem secTo_put {v : Vn} {D : DataW Unit} {k : Nat} (h : SecTo v D k) (ht : Maps.Tidy D) (hm : Maps.IsMap D) {i : Int} (hi : secOf v (k : Nat) = i) : SecTo v (D.put (.int .i64 (k : Nat)) (.lit (.int .i64 i))) (k + 1) := by
  refine ⟨fun y => ?_, fun y h1 h2 z => ?_, ?_⟩
  · by_cases e : y = (k : Nat)
    · subst e
      rw [Maps.has_put_same hm (show WideAt.IsKeyLit (.int .i64 ((k : Nat) : Int)) from trivial), decide_eq_true (by omega)]
    · rw [Maps.has_put_other (by intro he; cases he; exact e rfl), h.has y]
      have : (0 ≤ y ∧ y < (k : Nat)) ↔ (0 ≤ y ∧ y < ((k + 1 : Nat) : Int)) := by omega
      simp only [this]
  · by_cases e : y = (k : Nat)
    · subst e
      rw [Maps.atKey_put_same hm (show WideAt.IsKeyLit (.int .i64 ((k : Nat) : Int)) from trivial), hi]
    · rw [Maps.atKey_put_other (by intro he; cases he; exact e rfl)]
      exact h.at_ y h1 (by omega) z
  · rw [Maps.size_put ht, h.has, decide_eq_false (by omega), h.size]; rfl
theorem secTo_end {v : Vn} {D : DataW Unit} (hz : (chk v).2 = 0) (h : SecTo v D (sumS v.secs)) : IsSec v D := by
  refine ⟨fun x => ?_, fun x => ?_, h.size⟩
  · rw [h.has]
    have := plE_iff hz x
    simp only [this]
  · by_cases hx : 0 ≤ x ∧ x < (sumS v.secs : Nat)
    · exact h.at_ x hx.1 hx.2 _
    · rw [Maps.atKey_of_not_has (by rw [h.has, decide_eq_false hx])]
      have : plE v x ≠ 0 := fun e => hx ((plE_iff hz x).1 e)
      unfold secOf plX
      rw [if_neg this]; rfl
/-- what open answers -/
def OpenR (w : World) (v : Vn) (rows : List (List Int)) (now : Int) (e : Ending) (w' : World) : Prop :=
  (opE v rows now = 0 ∧ ∃ (hb g gr m n : Nat) (D : DataW Unit), e = .returned (.tuple #[ptrV hb, .int .i64 0]) ∧ IsSec v D ∧ Sep No w w' [As.blk hb 68 (hsC g m (addT now v.ttl) (.slice none 0 0) (.slice none 0 0) (.slice none 0 0) (.slice none 0 0)), AsLs g gr (loadS (qs v) rows), As.map Tryz.prog 3 secR m n D]) ∨
  (opE v rows now ≠ 0 ∧ e = .returned (.tuple #[.pointer none, .int .i64 (opE v rows now)]) ∧ Ext w w')
theorem openR_bad {w w' : World} {v : Vn} {rows : List (List Int)} {now : Int} {e : Ending} {k : Int} (h : opE v rows now = k) (hk : k ≠ 0) (he : e = .returned (.tuple #[.pointer none, .int .i64 k])) (hx : Ext w w') : OpenR w v rows now e w' := .inr ⟨by rw [h]; exact hk, by rw [h]; exact he, hx⟩

set_option maxRecDepth 100000 in
set_option maxHeartbeats 4000000 in
theorem open_any (v : Vn) (A : Option Addr) (c : Nat) (rows : List (List Int)) (B : Option Addr) (vs : List Value) (d : Nat) (now : Int) (w : World) (h : Secs w A v.secs) (hc : v.secs.length ≤ c) (hw : VnW v) (hB : (AsRows B vs rows).p w) (hrm : rows.length ≤ 100000) (hrl : ∀ r ∈ rows, r.length ≤ 1000000 ∧ ∀ x ∈ r, 0 ≤ x ∧ x < 4294967296) (hnow : now ≤ 9223372036854775807) :
    Calls Tryz.prog 23 #[.agg #[.int .i64 v.sh, .int .i64 v.ttl, .int .i64 v.ses, .slice A v.secs.length c], .slice B rows.length d, .int .i64 now] w (OpenR w v rows now) := by
  have HS := hide (fun (y : World) (k : Ext w y) => h.ext k)
  have HBB := hide (fun (y : World) (k : Ext w y) => asRows_x hB k)
  have HC := hide hc
  have HW := hide hw
  have HRL := hide hrl
  have HCK := hide (fun (y : World) (k : Ext w y) => venue_check v A c y (HS.out y k) hc hw)
  clear h hc hw hB hrl
  have K0 := (Sep.refl No w).add 24 (vnC v A c)
  go_enter Tryz.func23, Tryz.ntmps23
  go_upto_region 1 with fail
  generalize w.alloc _ = w1 at K0 ⊢
  obtain ⟨g3, G3⟩ : ∃ g, w.heap.size = g := ⟨_, rfl⟩
  rw [G3] at K0 ⊢
  clear G3
  have K1 := hide K0
  clear K0
  obtain ⟨c0, c1, c2, c3, cz⟩ := blk4 (K1.out.blk (g := g3) (e := 24) (List.Mem.head _))
  go_wp2_with fail
  (with_reducible refine (HCK.out _ K1.out.toExt).mono ?_)
  rintro e w2 ⟨rfl, hx⟩
  have K2 := hide (K1.out.ext hx)
  clear K1 hx HCK c0 c1 c2 c3 cz
  by_cases hz : (chk v).2 = 0
  rotate_left
  · have HE : Hid (opE v rows now = (chk v).2) := hide (by unfold opE; rw [if_pos hz])
    have hb : ((chk v).2 != 0) = true := bne_iff_ne.2 hz
    have HZ := hide hz
    clear hz
    go_wp2_with fail
    go_ret2
    exact openR_bad HE.out HZ.out rfl K2.out.toExt
  obtain ⟨hok, hch⟩ := chk_zero hz
  have HOK := hide hok
  have HZ := hide hz
  have h8 := hok.few
  have HQ := hide (fun (y : World) (k : Ext w y) => queues_any v A c y (HS.out y k) HC.out (by omega))
  have HQS : Hid (limE (qs v) = 0) := hide (qs_ok hok)
  rw [hch]
  clear hok hch hz
  obtain ⟨c0, c1, c2, c3, cz⟩ := blk4 (K2.out.blk (g := g3) (e := 24) (List.Mem.head _))
  go_wp2_with fail
  (with_reducible refine (HQ.out _ K2.out.toExt).mono ?_)
  rintro e w3 ⟨x, rfl, hS⟩
  have k3 := K2.out.joinW hS
  obtain ⟨A4, c4, rfl, hr4, -, -⟩ := (hS.owns (e := 3) (v := x) (List.Mem.head _)).form
  rw [i64s_len] at k3
  have K3 := hide k3
  clear k3
  have HLD := hide (load_any (qs v) A4 c4 rows B vs d w3 hr4 (HBB.out _ K3.out.toExt) (by rw [qs_len]; omega) hrm HRL.out)
  rw [i64s_len]
  clear hS hr4 K2 HQ c0 c1 c2 c3 cz
  go_wp2_with fail
  (with_reducible refine HLD.out.mono ?_)
  rintro e w4 ⟨hg, hbd⟩
  clear HLD
  by_cases hle : (loadE (qs v) rows).2 = 0
  rotate_left
  · obtain ⟨rfl, hx⟩ := hbd hle
    have HE : Hid (opE v rows now = (loadE (qs v) rows).2) := hide (by unfold opE; rw [if_neg (by simpa using HZ.out), if_pos hle])
    have HX := hide (K3.out.toExt.trans hx)
    have hb : ((loadE (qs v) rows).2 != 0) = true := bne_iff_ne.2 hle
    have HLE := hide hle
    clear hg hbd hle hx K3
    go_wp2_with fail
    go_ret2
    exact openR_bad HE.out HLE.out rfl HX.out
  obtain ⟨g, gr, rfl, hS4⟩ := hg hle
  have HLE := hide hle
  have K4 := (K3.out.joinW hS4)
  dsimp only [List.cons_append, List.nil_append] at K4
  clear hg hbd hle hS4 K3
  by_cases hn : now < 0
  · have HE : Hid (opE v rows now = 7) := hide (by unfold opE; rw [if_neg (by simpa using HZ.out), if_neg (by simpa using HLE.out), if_pos hn])
    have K5 := hide K4
    clear K4
    go_wp2_with fail
    go_ret2
    exact openR_bad HE.out (by decide) rfl K5.out.toExt
  have HE : Hid (opE v rows now = 0) := hide (by unfold opE; rw [if_neg (by simpa using HZ.out), if_neg (by simpa using HLE.out), if_neg hn])
  have ht := HOK.out.ttl
  have HAD := hide (fun (y : World) => add_any now v.ttl ⟨by omega, hnow⟩ ⟨by omega, by omega⟩ y)
  have hmm := fun (t : TypeId) (x : World) => run_makeMap (P := Tryz.prog) t x
  have K5 := hide (K4.newMap Tryz.prog 3 secR)
  have K6 := hide (K5.out.add 68 [pt g, .map (some w4.heap.size), .int .i64 0, .slice none 0 0, .slice none 0 0, .slice none 0 0, .slice none 0 0])
  clear K4 K5 ht
  go_upto_region 10 with fail
  obtain ⟨gm, hgm⟩ : ∃ g, w4.heap.size = g := ⟨_, rfl⟩
  obtain ⟨hb, hhb⟩ : ∃ g, (w4.alloc (.map #[] 0)).heap.size = g := ⟨_, rfl⟩
  rw [hhb, hgm] at K6
  try rw [show w4.heap.size + 1 = hb by rw [← hhb]; simp]
  try rw [hhb]
  try rw [hgm]
  clear hgm hhb hmm
  generalize World.alloc _ _ = w5 at K6 ⊢
  have K7 := K6.out
  clear K6
  obtain ⟨c0, c1, c2, c3, cz⟩ := blk4 (K7.blk (g := g3) (e := 24) (List.Mem.tail _ (List.Mem.tail _ (List.Mem.tail _ (List.Mem.tail _ (List.Mem.head _))))))
  have KK := hide K7
  clear K7
  go_wp2_with fail
  (with_reducible refine (HAD.out _).mono ?_)
  rintro e w6 ⟨rfl, hx⟩
  have K8 := KK.out.ext hx
  have hl8 := (K8.blk (g := hb) (e := 68) (List.Mem.head _)).lt
  have hv8 := (K8.blk (g := g3) (e := 24) (List.Mem.tail _ (List.Mem.tail _ (List.Mem.tail _ (List.Mem.tail _ (List.Mem.head _)))))).lt
  clear hx HAD KK c0 c1 c2 c3 cz
  have tok1 : True := trivial
  go_upto_region 11 with (have zz := tok1; clear zz tok1; refine wpList_st1S [] K8 rfl 2 (.tmp 55) (.tmp 52) rfl (i := 2) (v := .int .i64 (addT now v.ttl)) rfl rfl (by kernel_rfl) (show 2 < 7 by decide) rfl ?_; intro w7 K9; dsimp only [List.nil_append, List.cons_append, List.set] at K9; clear K8 hl8 hv8)
  have HV := hide (venue_of v A c)
  have K10 := hide (K9.swap)
  clear K9
  obtain ⟨c0, c1, c2, c3, cz⟩ := blk4 (K10.out.blk (g := g3) (e := 24) (List.Mem.tail _ (List.Mem.tail _ (List.Mem.tail _ (List.Mem.tail _ (List.Mem.head _))))))
  go_wp2_with fail
  clear c0 c1 c2 c3 cz
  go_loopw [59] (fun v59 wr => ∃ (i n : Nat) (D : DataW Unit), v59 = .int .i64 i ∧ i ≤ v.secs.length ∧ Hid (SecTo v D (fst0 v.secs i) ∧ n = fst0 v.secs i) ∧ Hid (Sep No w wr [As.map Tryz.prog 3 secR gm n D, As.blk hb 68 (hsC g gm (addT now v.ttl) (.slice none 0 0) (.slice none 0 0) (.slice none 0 0) (.slice none 0 0)), AsLs g gr (loadS (qs v) rows), As.own 3 (.slice A4 (qs v).length c4) (i64s (qs v)), As.blk g3 24 (vnC v A c)])) (fun v59 _ => v.secs.length - (intOf v59).toNat)
  case atStart => exact ⟨0, 0, .map [], rfl, Nat.zero_le _, hide ⟨secTo_nil v, rfl⟩, K10⟩
  case round =>
    clear K10
    obtain ⟨i, n, D, rfl, hil, HD, K11⟩ := hrel
    have hi8 : i ≤ 8 := by omega
    by_cases hlt : i < v.secs.length
    · have hli : (i : Int) < (v.secs.length : Int) := by omega
      obtain ⟨s, hs⟩ : ∃ s, v.secs[i]? = some s := ⟨_, List.getElem?_eq_getElem hlt⟩
      obtain ⟨f, hf⟩ : ∃ f, fst0 v.secs i = f := ⟨_, rfl⟩
      obtain ⟨mn, hmn⟩ : ∃ q, s.sum = q := ⟨_, rfl⟩
      have hnx := fst0_next hs
      rw [hf, hmn] at hnx
      have hle1 := fst0_all v.secs (i + 1)
      have hsum := HOK.out.sum
      have hof : ofE v (i : Nat) = (((f : Nat) : Int), ((mn : Nat) : Int), 0) := by
        unfold ofE
        rw [if_pos HZ.out, if_pos (by omega), Int.toNat_natCast, hs]
        simp only
        rw [hf, hmn]
      have HO := hide (fun (y : World) (k : Ext w y) => HV.out (i : Nat) y (HS.out y k) HC.out HW.out)
      rw [hof] at HO
      have hfb : f + mn ≤ 4096 := by omega
      have HSA : Hid (∀ t, t < mn → secOf v ((f + t : Nat) : Int) = i) := hide (fun t ht => by rw [← hf]; exact secOf_at HZ.out hs (by omega))
      rw [hf] at HD
      have HNX := hide hnx
      have HLT := hide hlt
      clear hof hs hf hmn hnx hle1 hsum hlt
      obtain ⟨c0, c1, c2, c3, cz⟩ := blk4 (K11.out.blk (g := g3) (e := 24) (List.Mem.tail _ (List.Mem.tail _ (List.Mem.tail _ (List.Mem.tail _ (List.Mem.head _))))))
      go_wp2_with fail
      (with_reducible refine (HO.out _ K11.out.toExt).mono ?_)
      rintro e w8 ⟨rfl, hx⟩
      have K12 := hide (K11.out.ext hx)
      clear hx K11 HO c0 c1 c2 c3 cz
      go_wp2_with fail
      go_loopw [70] (fun v70 wr => ∃ (t n : Nat) (D : DataW Unit), v70 = .int .i64 t ∧ t ≤ mn ∧ Hid (SecTo v D (f + t) ∧ n = f + t) ∧ Hid (Sep No w wr [As.map Tryz.prog 3 secR gm n D, As.blk hb 68 (hsC g gm (addT now v.ttl) (.slice none 0 0) (.slice none 0 0) (.slice none 0 0) (.slice none 0 0)), AsLs g gr (loadS (qs v) rows), As.own 3 (.slice A4 (qs v).length c4) (i64s (qs v)), As.blk g3 24 (vnC v A c)])) (fun v70 _ => mn - (intOf v70).toNat)
      case atStart => exact ⟨0, n, D, rfl, Nat.zero_le _, HD, K12⟩
      case round =>
        clear K12 HD
        obtain ⟨t, n, D, rfl, htl, HD, K13⟩ := hrel
        by_cases ht : t < mn
        · have hti : (t : Int) < (mn : Int) := by omega
          have hft : f ≤ 4096 := by omega
          have htt : t ≤ 4096 := by omega
          have hnm : n < maxLen := by have := HD.out.2; unfold maxLen; omega
          have hkI := Maps.keyOf_int_mk (P := Tryz.prog) Tryz.underlying3 (wf_i64' (x := (f : Int) + (t : Int)) (by omega) (by omega))
          have hvI := plainElem_int (H := Unit) (P := Tryz.prog) Tryz.underlying3 (wf_i64' (x := (i : Int)) (by omega) (by omega))
          obtain ⟨d0, d1, d2, d3, d4, d5, d6, dz⟩ := q7 (K13.out.blk (g := hb) (e := 68) (List.Mem.tail _ (List.Mem.head _)))
          have hwr : IntKind.i64.wrap ((f : Int) + (t : Int)) = (f : Int) + (t : Int) := IntWalk.i64_in _ (by omega)
          have tok2 : True := trivial
          go_wp2_with (have zz := tok2; clear zz tok2; refine wpList_mapS [] K13.out rfl _ _ _ 66 rfl 3 lawI Tryz.underlying66 rfl hnm _ _ _ rfl rfl hkI _ [] hvI ?_; intro w9 K14; dsimp only [List.nil_append, List.cons_append] at K14; clear d0 d1 d2 d3 d4 d5 d6 dz)
          have HD2 : Hid (SecTo v (D.put (.int .i64 ((f : Int) + (t : Int))) (.lit (.int .i64 (i : Int)))) (f + (t + 1)) ∧ n + 1 = f + (t + 1)) := hide (by
            have hm := K13.out.map (b := gm) (n := n) (D := D) (List.Mem.head _)
            have h2 := secTo_put HD.out.1 (hm.tidy lawI) hm.isMap (HSA.out t ht)
            rw [show (((f + t : Nat) : Nat) : Int) = (f : Int) + (t : Int) by omega] at h2
            exact ⟨h2, by have := HD.out.2; omega⟩)
          have K15 := hide K14
          have HT := hide ht
          clear K14 K13 hwr ht hti
          go_roundw
          case rel => exact ⟨t + 1, n + 1, _, by go_num, HT.out, HD2, K15⟩
          case measure => have := HT.out; simp [intOf]; omega
        · have hti : ¬ (t : Int) < (mn : Int) := by omega
          obtain rfl : t = mn := by omega
          rw [← HNX.out] at HD
          clear ht
          go_wp2_with fail
          go_roundw
          case rel => exact ⟨i + 1, n, D, by go_num, HLT.out, HD, K13⟩
          case measure => have := HLT.out; simp [intOf]; omega
    · have hli : ¬ (i : Int) < (v.secs.length : Int) := by omega
      obtain rfl : i = v.secs.length := by omega
      rw [fst0_end] at HD
      have HD2 : Hid (IsSec v D) := hide (secTo_end HZ.out HD.out.1)
      clear hlt HD
      go_wp2_with fail
      go_ret2
      exact .inl ⟨HE.out, hb, g, gr, gm, n, D, rfl, HD2.out, (K11.out.sub (.cons_cons _ (.cons_cons _ (.cons_cons _ (List.nil_sublist _))))).perm ((List.Perm.swap _ _ _).trans (List.Perm.cons _ (List.Perm.swap _ _ _)))⟩
end Go.Proofs.YtdmaephmkfmehaaGreatDoor
