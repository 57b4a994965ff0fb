/- Lists of waiters: Join, Leave, Take. -/
import Derived.Test.YteecgieigjfjiaaW10
namespace Go.Proofs.Yteecgieigjfjiaa
open Go.RowKit Go.Gr Go.Wl
set_option linter.unusedVariables false
set_option linter.unusedSimpArgs false
attribute [local go_sem] rdOp rdAt rdUpon Cls forall_fr
theorem upd_ext {g : Nat} {w w' : World} (h : Ext w w') : Upd g w w' := ((Fr.of_ext h).mono (fun _ h => h.elim)).upd
theorem upd_after {g : Nat} {w w1 w' : World} (h : Ext w w1) (k : Upd g w1 w') : Upd g w w' := ((Fr.of_upd (upd_ext h)).trans (Fr.of_upd k)).upd
theorem asls_ext {g gr : Nat} {S : St} {w w' : World} (h : (AsLs g gr S).p w) (k : Ext w w') : (AsLs g gr S).p w' := by
  obtain ⟨R, h, e⟩ := h
  exact ⟨R, h.ext k, e⟩
theorem join_in {R : List Rg} {s : Nat} (hs : s < R.length) (o : Int) : inS (stR R) s ∧ lm (stR R) s = R[s].lim ∧ wt (stR R) s = R[s].ws :=
  ⟨⟨by omega, by rw [stR_len]; omega⟩, stR_get (List.getElem?_eq_getElem hs)⟩
set_option maxHeartbeats 1000000 in
theorem join_any {g gr : Nat} {S : St} {i o : Int} {w : World} (h : (AsLs g gr S).p w) (ho : 0 ≤ o ∧ o < 4294967296) : Calls Try.prog 11 #[pt g, .int .i64 i, .int .u32 o] w fun e w' => e = .returned (.tuple #[.int .i64 (joinS S i o).2.1, .int .i64 (joinS S i o).2.2]) ∧ (AsLs g gr (joinS S i o).1).p w' ∧ Upd gr w w' := by
  have HA := hide (fun (w' : World) (k : Ext w w') => asls_ext h k)
  obtain ⟨R, h, rfl⟩ := h
  by_cases hin : inS (stR R) i
  · obtain ⟨s, rfl, hs⟩ := in_stR hin
    obtain ⟨_, hlm, hwt⟩ := join_in hs o
    have HO := hide (of_in h hs)
    have HR := hide (ls_ring h hs)
    have HD := hide (HR.out.ext ((Ext.refl w).drew))
    have c1 := HD.out.many
    have c2 := HD.out.lim
    have hlt := HD.out.B.lt
    have hml := HR.out.ok.mny
    have hl64 := HR.out.ok.lim
    have HF := hide (find_any HD.out o)
    have hx : Ext w w.drew := (Ext.refl w).drew
    by_cases hf : R[s].many = R[s].lim
    · have HE : Hid (joinS (stR R) s o = (stR R, 0, 5)) := hide (by
        unfold joinS
        rw [if_neg (fun h => h hin), hwt, hlm, if_pos (by rw [Rg.ws_length]; exact hf)])
      have hd : ((R[s].many : Int) == (R[s].lim : Int)) = true := by rw [hf]; exact beq_self_eq_true _
      have HL := hide h
      clear h hin hlm hwt hf
      go_enter Try.func11, Try.ntmps11
      go_wp2_with fail
      (with_reducible refine HO.out.mono ?_)
      rintro e w1 ⟨rfl, rfl⟩
      go_upto_region 4 with fail
      refine wp_region_wm [0, 1, 2, 3, 4, 5, 6, 7, 8, 9] (by kernel_rfl) (by kernel_rfl) (by kernel_rfl) (by kernel_rfl) ?_
      generalize w.drew = wd at *
      iterate 3 (refine wm_rd rfl rfl (fun K hK => ?_); go_simp; refine hK _ ?_; clear hK K)
      refine wm_ld1 rfl rfl 3 (.tmp 22) rfl rfl c1 _ Try.underlying3 rfl ?_
      iterate 3 (refine wm_rd rfl rfl (fun K hK => ?_); go_simp; refine hK _ ?_; clear hK K)
      refine wm_ld1 rfl rfl 3 (.tmp 26) rfl rfl c2 _ Try.underlying3 rfl ?_
      iterate 2 (refine wm_rd rfl rfl (fun K hK => ?_); go_simp; refine hK _ ?_; clear hK K)
      refine wm_nil ?_
      go_wp2_with fail
      go_ret2
      exact ⟨by rw [HE.out]; rfl, by rw [HE.out]; exact HA.out _ hx, upd_ext hx⟩
    · have hd : ((R[s].many : Int) == (R[s].lim : Int)) = false := beq_eq_false_iff_ne.2 (by omega)
      by_cases hom : o ∈ R[s].ws
      · have HE : Hid (joinS (stR R) s o = (stR R, 0, 8)) := hide (by
          unfold joinS
          rw [if_neg (fun h => h hin), hwt, hlm, if_neg (by rw [Rg.ws_length]; exact hf), if_pos hom])
        rw [fnd_in hom] at HF
        have hk0 : (0 : Int) ≤ ((R[s].ws.idxOf o : Nat) : Int) := by omega
        obtain ⟨k, hk⟩ : ∃ k : Int, ((R[s].ws.idxOf o : Nat) : Int) = k := ⟨_, rfl⟩
        rw [hk] at HF hk0
        clear h hin hlm hwt hf hk hom
        go_enter Try.func11, Try.ntmps11
        go_wp2_with fail
        (with_reducible refine HO.out.mono ?_)
        rintro e w1 ⟨rfl, rfl⟩
        go_upto_region 4 with fail
        refine wp_region_wm [0, 1, 2, 3, 4, 5, 6, 7, 8, 9] (by kernel_rfl) (by kernel_rfl) (by kernel_rfl) (by kernel_rfl) ?_
        generalize w.drew = wd at *
        iterate 3 (refine wm_rd rfl rfl (fun K hK => ?_); go_simp; refine hK _ ?_; clear hK K)
        refine wm_ld1 rfl rfl 3 (.tmp 22) rfl rfl c1 _ Try.underlying3 rfl ?_
        iterate 3 (refine wm_rd rfl rfl (fun K hK => ?_); go_simp; refine hK _ ?_; clear hK K)
        refine wm_ld1 rfl rfl 3 (.tmp 26) rfl rfl c2 _ Try.underlying3 rfl ?_
        iterate 2 (refine wm_rd rfl rfl (fun K hK => ?_); go_simp; refine hK _ ?_; clear hK K)
        refine wm_nil ?_
        go_wp2_with fail
        (with_reducible refine HF.out.mono ?_)
        rintro e w2 ⟨rfl, hx2⟩
        have HX := hide (hx.trans hx2)
        clear hx hx2 c1 c2
        go_wp2_with fail
        go_ret2
        exact ⟨by rw [HE.out]; rfl, by rw [HE.out]; exact HA.out _ HX.out, upd_ext HX.out⟩
      · have HE : Hid (joinS (stR R) s o = (put (stR R) s (R[s].push o).ws, (R[s].many : Int) + 1, 0)) := hide (by
          unfold joinS
          rw [if_neg (fun h => h hin), hwt, hlm, if_neg (by rw [Rg.ws_length]; exact hf), if_neg hom, Rg.ws_length, Rg.push_ws HR.out.ok (by omega)])
        have HOK : Hid (Ok (put (stR R) s (R[s].push o).ws)) := hide (by
          have := join_ok h.ok (s : Int) ho
          rw [HE.out] at this
          exact this)
        have HSET : Hid (∀ (w1 w' : World), Ext w w1 → Blk w' gr 66 (cellsR (R.set s (R[s].push o))) → Upd gr w1 w' → (AsLs g gr (put (stR R) s (R[s].push o).ws)).p w' ∧ w'.cell? ⟨gr, s * 67 + 66, none⟩ = some (.int .i64 ((R[s].many : Int) + 1))) := hide (fun w1 w' k hB hu => by
          obtain ⟨h1, h2⟩ := ls_set (h.ext k) (List.getElem?_eq_getElem hs) hB hu (Rg.push_ok HR.out.ok (by omega) ho) rfl HOK.out
          have hm := (ring_set HR.out hB (Rg.push_ok HR.out.ok (by omega) ho)).many
          exact ⟨⟨_, h1, h2⟩, hm⟩)
        rw [fnd_out hom] at HF
        have hmlt : R[s].many < 64 := by omega
        clear h hin hlm hwt hf hom
        go_enter Try.func11, Try.ntmps11
        go_wp2_with fail
        (with_reducible refine HO.out.mono ?_)
        rintro e w1 ⟨rfl, rfl⟩
        go_upto_region 4 with fail
        refine wp_region_wm [0, 1, 2, 3, 4, 5, 6, 7, 8, 9] (by kernel_rfl) (by kernel_rfl) (by kernel_rfl) (by kernel_rfl) ?_
        generalize w.drew = wd at *
        iterate 3 (refine wm_rd rfl rfl (fun K hK => ?_); go_simp; refine hK _ ?_; clear hK K)
        refine wm_ld1 rfl rfl 3 (.tmp 22) rfl rfl c1 _ Try.underlying3 rfl ?_
        iterate 3 (refine wm_rd rfl rfl (fun K hK => ?_); go_simp; refine hK _ ?_; clear hK K)
        refine wm_ld1 rfl rfl 3 (.tmp 26) rfl rfl c2 _ Try.underlying3 rfl ?_
        iterate 2 (refine wm_rd rfl rfl (fun K hK => ?_); go_simp; refine hK _ ?_; clear hK K)
        refine wm_nil ?_
        go_wp2_with fail
        (with_reducible refine HF.out.mono ?_)
        rintro e w2 ⟨rfl, hx2⟩
        have HX := hide (hx.trans hx2)
        have HR2 := hide (HD.out.ext hx2)
        clear hx hx2 c1 c2
        go_wp2_with fail
        (with_reducible refine (push_any HR2.out o (by omega)).mono ?_)
        rintro e w3 ⟨rfl, hB3, hu3⟩
        have hlt3 := hB3.lt
        obtain ⟨hp3, c3⟩ := HSET.out _ _ HX.out hB3 hu3
        have HP := hide (And.intro hp3 (upd_after HX.out hu3))
        clear hB3 hu3 hp3
        go_wp2_with fail
        go_ret2
        exact ⟨by rw [HE.out]; rfl, by rw [HE.out]; exact HP.out.1, HP.out.2⟩
  · have HE : Hid (joinS (stR R) i o = (stR R, 0, 4)) := hide (by unfold joinS; rw [if_pos hin])
    have HO := hide (of_out h (out_stR hin))
    clear h hin
    go_enter Try.func11, Try.ntmps11
    go_wp2_with fail
    (with_reducible refine HO.out.mono ?_)
    rintro e w1 ⟨rfl, rfl⟩
    go_wp2_with fail
    go_ret2
    exact ⟨by rw [HE.out]; rfl, by rw [HE.out]; exact HA.out _ (Ext.refl _), upd_ext (Ext.refl _)⟩
theorem place_in {R : List Rg} {s : Nat} (hs : s < R.length) {o : Int} (ho : o ∈ R[s].ws) : placeS (stR R) s o = ((R[s].ws.idxOf o : Int) + 1, 0) := by
  obtain ⟨hin, _, hwt⟩ := join_in hs o
  unfold placeS
  rw [if_neg (fun h => h hin), hwt, if_pos ho]
theorem place_no {S : St} {i o : Int} (h : ¬ (inS S i ∧ o ∈ wt S i)) : placeS S i o = (0, 4) ∧ leaveS S i o = (S, 4) := by
  unfold placeS leaveS
  by_cases hin : inS S i
  · have ho : ¬ o ∈ wt S i := fun ho => h ⟨hin, ho⟩
    have hn : ¬ ¬ inS S i := fun k => k hin
    rw [if_neg hn, if_neg hn, if_neg ho, if_neg ho]
    exact ⟨rfl, rfl⟩
  · rw [if_pos hin, if_pos hin]
    exact ⟨rfl, rfl⟩
set_option maxHeartbeats 1000000 in
theorem leave_any {g gr : Nat} {S : St} {i o : Int} {w : World} (h : (AsLs g gr S).p w) : Calls Try.prog 12 #[pt g, .int .i64 i, .int .u32 o] w fun e w' => e = .returned (.int .i64 (leaveS S i o).2) ∧ (AsLs g gr (leaveS S i o).1).p w' ∧ Upd gr w w' := by
  have HA := hide (fun (w' : World) (k : Ext w w') => asls_ext h k)
  have HP := hide (place_any (i := i) (o := o) h)
  by_cases hin : inS S i ∧ o ∈ wt S i
  · obtain ⟨R, h, rfl⟩ := h
    obtain ⟨hin, hom⟩ := hin
    obtain ⟨s, rfl, hs⟩ := in_stR hin
    obtain ⟨_, hlm, hwt⟩ := join_in hs o
    rw [hwt] at hom
    have hix := idxOf_lt hom
    rw [Rg.ws_length] at hix
    rw [place_in hs hom] at HP
    have HE : Hid (leaveS (stR R) s o = (put (stR R) s (R[s].drop (R[s].ws.idxOf o)).ws, 0)) := hide (by
      unfold leaveS
      rw [if_neg (fun h => h hin), hwt, if_pos hom, Rg.drop_ws (h.rok _ (List.getElem_mem hs)) hix])
    obtain ⟨k, hk⟩ : ∃ k, R[s].ws.idxOf o = k := ⟨_, rfl⟩
    rw [hk] at HE HP hix
    have hm64 := (ls_ring h hs).many64
    have HR := hide (ls_ring h hs)
    have HOK : Hid (Ok (put (stR R) s (R[s].drop k).ws)) := hide (by
      have := leave_ok h.ok (s : Int) o
      rw [HE.out] at this
      exact this)
    have HSET : Hid (∀ (w1 w' : World), Ext w w1 → Blk w' gr 66 (cellsR (R.set s (R[s].drop k))) → Upd gr w1 w' → (AsLs g gr (put (stR R) s (R[s].drop k).ws)).p w' ∧ Upd gr w w') := hide (fun w1 w' x hB hu => by
      obtain ⟨h1, h2⟩ := ls_set (h.ext x) (List.getElem?_eq_getElem hs) hB hu (Rg.drop_ok HR.out.ok k) (by unfold Rg.drop; split <;> rfl) HOK.out
      exact ⟨⟨_, h1, h2⟩, upd_after x hu⟩)
    have HL := hide h
    have hsi : (s : Int) < (R.length : Int) := by omega
    have hw : IntKind.i64.wrap ((k : Int) + 1 - 1) = (k : Int) := by rw [show (k : Int) + 1 - 1 = k by omega]; exact IntWalk.i64_in _ (by omega)
    have hw2 : (k : Int) + 1 - 1 = k := by omega
    clear h hin hom hlm hwt hk HA
    go_enter Try.func12, Try.ntmps12
    go_wp2_with fail
    (with_reducible refine HP.out.mono ?_)
    rintro e w1 ⟨rfl, hx⟩
    have c0 : w1.cell? ⟨g, 0, none⟩ = some (.slice (some ⟨gr, 0, none⟩) R.length R.length) := ((HL.out.ext hx).st).cell 0
    have hlt := (HL.out.ext hx).st.lt
    have HX := hide hx
    clear hx
    go_wp2_with fail
    (with_reducible refine (drop_any (HR.out.ext HX.out) k hix).mono ?_)
    rintro e w2 ⟨rfl, hB2, hu2⟩
    have HQ := hide (HSET.out _ _ HX.out hB2 hu2)
    clear hB2 hu2 c0 hlt
    go_wp2_with fail
    go_ret
    exact ⟨by rw [HE.out]; rfl, by rw [HE.out]; exact HQ.out.1, HQ.out.2⟩
  · obtain ⟨h1, h2⟩ := place_no hin
    rw [h1] at HP
    have HE := hide h2
    clear h hin h1 h2
    go_enter Try.func12, Try.ntmps12
    go_wp2_with fail
    (with_reducible refine HP.out.mono ?_)
    rintro e w1 ⟨rfl, hx⟩
    have HX := hide hx
    clear hx
    go_wp2_with fail
    go_ret
    exact ⟨by rw [HE.out]; rfl, by rw [HE.out]; exact HA.out _ HX.out, upd_ext HX.out⟩
theorem first_no {S : St} {i : Int} (h : ¬ (inS S i ∧ wt S i ≠ [])) : firstS S i = (0, 4) ∧ takeS S i = (S, 0, 4) := by
  unfold firstS takeS
  by_cases hin : inS S i
  · have ho : wt S i = [] := by
      rcases hq : wt S i with _ | ⟨x, t⟩
      · rfl
      · exact absurd ⟨hin, by rw [hq]; simp⟩ h
    have hn : ¬ ¬ inS S i := fun k => k hin
    rw [if_neg hn, if_neg hn, if_pos ho, if_pos ho]
    exact ⟨rfl, rfl⟩
  · rw [if_pos hin, if_pos hin]
    exact ⟨rfl, rfl⟩
set_option maxHeartbeats 1000000 in
theorem take_any {g gr : Nat} {S : St} {i : Int} {w : World} (h : (AsLs g gr S).p w) : Calls Try.prog 13 #[pt g, .int .i64 i] w fun e w' => e = .returned (.tuple #[.int .u32 (takeS S i).2.1, .int .i64 (takeS S i).2.2]) ∧ (AsLs g gr (takeS S i).1).p w' ∧ Upd gr w w' := by
  have HA := hide (fun (w' : World) (k : Ext w w') => asls_ext h k)
  have HP := hide (first_any (i := i) h)
  by_cases hin : inS S i ∧ wt S i ≠ []
  · obtain ⟨R, h, rfl⟩ := h
    obtain ⟨hin, hne⟩ := hin
    obtain ⟨s, rfl, hs⟩ := in_stR hin
    obtain ⟨_, hlm, hwt⟩ := join_in hs 0
    rw [hwt] at hne
    have hix : 0 < R[s].many := by
      have := List.length_pos_iff.2 hne
      rwa [Rg.ws_length] at this
    obtain ⟨x, HX0⟩ : ∃ x, Hid (R[s].ws.getD 0 0 = x) := ⟨_, hide rfl⟩
    have hfs : firstS (stR R) s = (x, 0) := by
      unfold firstS
      rw [if_neg (fun h => h hin), hwt, if_neg hne, HX0.out]
    rw [hfs] at HP
    have HE : Hid (takeS (stR R) s = (put (stR R) s (R[s].drop 0).ws, x, 0)) := hide (by
      unfold takeS
      rw [if_neg (fun h => h hin), hwt, if_neg hne, Rg.drop_ws (h.rok _ (List.getElem_mem hs)) hix, List.eraseIdx_zero, HX0.out])
    have HR := hide (ls_ring h hs)
    have HOK : Hid (Ok (put (stR R) s (R[s].drop 0).ws)) := hide (by
      have := take_ok h.ok (s : Int)
      rw [HE.out] at this
      exact this)
    have HSET : Hid (∀ (w1 w' : World), Ext w w1 → Blk w' gr 66 (cellsR (R.set s (R[s].drop 0))) → Upd gr w1 w' → (AsLs g gr (put (stR R) s (R[s].drop 0).ws)).p w' ∧ Upd gr w w') := hide (fun w1 w' x hB hu => by
      obtain ⟨h1, h2⟩ := ls_set (h.ext x) (List.getElem?_eq_getElem hs) hB hu (Rg.drop_ok HR.out.ok 0) (by unfold Rg.drop; split <;> rfl) HOK.out
      exact ⟨⟨_, h1, h2⟩, upd_after x hu⟩)
    have HL := hide h
    have hsi : (s : Int) < (R.length : Int) := by omega
    have HDR := hide (fun (w1 : World) (x : Ext w w1) => drop_any (HR.out.ext x) 0 hix)
    simp only [Int.natCast_zero] at HDR
    clear h hin hlm hwt HA hne hfs
    go_enter Try.func13, Try.ntmps13
    go_wp2_with fail
    (with_reducible refine HP.out.mono ?_)
    rintro e w1 ⟨rfl, hx⟩
    have c0 : w1.cell? ⟨g, 0, none⟩ = some (.slice (some ⟨gr, 0, none⟩) R.length R.length) := ((HL.out.ext hx).st).cell 0
    have hlt := (HL.out.ext hx).st.lt
    have HX := hide hx
    clear hx
    go_wp2_with fail
    (with_reducible refine (HDR.out _ HX.out).mono ?_)
    rintro e w2 ⟨rfl, hB2, hu2⟩
    have HQ := hide (HSET.out _ _ HX.out hB2 hu2)
    clear hB2 hu2 c0 hlt
    go_wp2_with fail
    go_ret2
    exact ⟨by rw [HE.out]; rfl, by rw [HE.out]; exact HQ.out.1, HQ.out.2⟩
  · obtain ⟨h1, h2⟩ := first_no hin
    rw [h1] at HP
    have HE := hide h2
    clear h hin h1 h2
    go_enter Try.func13, Try.ntmps13
    go_wp2_with fail
    (with_reducible refine HP.out.mono ?_)
    rintro e w1 ⟨rfl, hx⟩
    have HX := hide hx
    clear hx
    go_wp2_with fail
    go_ret2
    exact ⟨by rw [HE.out]; rfl, by rw [HE.out]; exact HA.out _ HX.out, upd_ext HX.out⟩
end Go.Proofs.Yteecgieigjfjiaa
