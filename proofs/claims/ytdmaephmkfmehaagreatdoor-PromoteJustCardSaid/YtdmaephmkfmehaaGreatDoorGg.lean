/- Texts put together: W10 W11 W12 W13 W14 W15 W16. -/
import Derived.Test.YtdmaephmkfmehaaGreatDoorGf
import Derived.Test.YtdmaephmkfmehaaGreatDoorGc
import Derived.Test.YtdmaephmkfmehaaGreatDoorGb
namespace Go.Proofs.YtdmaephmkfmehaaGreatDoor
open Go.RowKit Go.Gr Go.Wl
set_option linter.unusedVariables false
set_option linter.unusedSimpArgs false
attribute [local go_sem] rdOp rdAt rdUpon Cls forall_fr
abbrev pt (g : Nat) : Value := .pointer (some ⟨g, 0, none⟩)
theorem ls_ring {w : World} {g gr : Nat} {R : List Rg} (h : Ls w g gr R) {s : Nat} (hs : s < R.length) : Ring w gr (s * 67) s R R[s] := ⟨h.rg, h.lenR, List.getElem?_eq_getElem hs, rfl, h.rok _ (List.getElem_mem hs)⟩
theorem ls_set {w w' : World} {g gr s : Nat} {R : List Rg} {r r' : Rg} (h : Ls w g gr R) (hs : R[s]? = some r) (hB : Blk w' gr 133 (cellsR (R.set s r'))) (hu : Upd gr w w') (hok : r'.ok) (hlim : r'.lim = r.lim) (hO : Ok (put (stR R) s r'.ws)) :
    Ls w' g gr (R.set s r') ∧ stR (R.set s r') = put (stR R) s r'.ws := by
  have e := stR_set (R := R) hs hlim
  refine ⟨⟨?_, hB, fun x hx => ?_, by rw [e]; exact hO, h.ne⟩, e⟩
  · rw [List.length_set]
    exact (hu.block g h.st.lt (fun e => h.ne (by cases e; rfl))).trans h.st
  · rcases List.mem_or_eq_of_mem_set hx with hx | rfl
    · exact h.rok x hx
    · exact hok
theorem of_nil (i : Int) (w : World) : Calls Tryz.prog 102 #[.pointer none, .int .i64 i] w fun e w' => e = .returned (.tuple #[.pointer none, .int .i64 1]) ∧ w = w' := by
  go_enter Tryz.func102, Tryz.ntmps102
  go_wp2_with fail
  go_ret2
  exact ⟨rfl, rfl⟩
theorem of_none {g : Nat} (i : Int) {w : World} (h : Blk w g 130 [.slice none 0 0]) : Calls Tryz.prog 102 #[pt g, .int .i64 i] w fun e w' => e = .returned (.tuple #[.pointer none, .int .i64 1]) ∧ w = w' := by
  have c0 : w.cell? ⟨g, 0, none⟩ = some (.slice none 0 0) := h.cell 0
  have hlt := h.lt
  clear h
  go_enter Tryz.func102, Tryz.ntmps102
  go_wp2_with fail
  go_ret2
  exact ⟨rfl, rfl⟩
theorem of_in {w : World} {g gr : Nat} {R : List Rg} (h : Ls w g gr R) {s : Nat} (hs : s < R.length) : Calls Tryz.prog 102 #[pt g, .int .i64 s] w fun e w' => e = .returned (.tuple #[.pointer (some ⟨gr, s * 67, none⟩), .int .i64 0]) ∧ w = w' := by
  have c0 : w.cell? ⟨g, 0, none⟩ = some (.slice (some ⟨gr, 0, none⟩) R.length R.length) := h.st.cell 0
  have hlt := h.st.lt
  have e0 : ((R.length : Int) == 0) = false := beq_eq_false_iff_ne.2 (by omega)
  have d1 : ¬ (s : Int) < 0 := by omega
  have d2 : ¬ (R.length : Int) ≤ (s : Int) := by omega
  have d3 : (s : Int) < (R.length : Int) := by omega
  clear h
  go_enter Tryz.func102, Tryz.ntmps102
  go_wp2_with fail
  go_ret2
  exact ⟨rfl, rfl⟩
theorem of_out {w : World} {g gr : Nat} {R : List Rg} (h : Ls w g gr R) {i : Int} (hi : ¬ (0 ≤ i ∧ i < R.length)) : Calls Tryz.prog 102 #[pt g, .int .i64 i] w fun e w' => e = .returned (.tuple #[.pointer none, .int .i64 4]) ∧ w = w' := by
  have c0 : w.cell? ⟨g, 0, none⟩ = some (.slice (some ⟨gr, 0, none⟩) R.length R.length) := h.st.cell 0
  have hlt := h.st.lt
  have hp := h.ok.pos
  rw [stR_len] at hp
  have e0 : ((R.length : Int) == 0) = false := beq_eq_false_iff_ne.2 (by omega)
  clear h
  by_cases h0 : i < 0
  · go_enter Tryz.func102, Tryz.ntmps102
    go_wp2_with fail
    go_ret2
    exact ⟨rfl, rfl⟩
  · have d2 : (R.length : Int) ≤ i := by omega
    clear hi
    go_enter Tryz.func102, Tryz.ntmps102
    go_wp2_with fail
    go_ret2
    exact ⟨rfl, rfl⟩
theorem in_stR {R : List Rg} {i : Int} (h : inS (stR R) i) : ∃ s : Nat, i = s ∧ s < R.length := by
  obtain ⟨h0, h1⟩ := h
  rw [stR_len] at h1
  exact ⟨i.toNat, by omega, by omega⟩
theorem out_stR {R : List Rg} {i : Int} (h : ¬ inS (stR R) i) : ¬ (0 ≤ i ∧ i < R.length) := by
  intro hh
  exact h ⟨hh.1, by rw [stR_len]; exact hh.2⟩
theorem len_any {g gr : Nat} {S : St} {i : Int} {w : World} (h : (AsLs g gr S).p w) : Calls Tryz.prog 162 #[pt g, .int .i64 i] w fun e w' => e = .returned (.tuple #[.int .i64 (lenS S i).1, .int .i64 (lenS S i).2]) ∧ w = w' := by
  obtain ⟨R, h, rfl⟩ := h
  by_cases hin : inS (stR R) i
  · obtain ⟨s, rfl, hs⟩ := in_stR hin
    have HE : Hid (lenS (stR R) s = ((R[s].many : Int), 0)) := hide (by
      unfold lenS
      rw [if_neg (fun h => h hin), (stR_get (List.getElem?_eq_getElem hs)).2, Rg.ws_length])
    have c1 := (ls_ring h hs).many
    have hlt := h.rg.lt
    have HO := hide (of_in h hs)
    clear h hin
    go_enter Tryz.func162, Tryz.ntmps162
    go_wp2_with fail
    (with_reducible refine HO.out.mono ?_)
    rintro e w1 ⟨rfl, rfl⟩
    go_wp2_with fail
    go_ret2
    exact ⟨by rw [HE.out]; rfl, rfl⟩
  · have HE : Hid (lenS (stR R) i = (0, 4)) := hide (by unfold lenS; rw [if_pos hin])
    have HO := hide (of_out h (out_stR hin))
    clear h hin
    go_enter Tryz.func162, Tryz.ntmps162
    go_wp2_with fail
    (with_reducible refine HO.out.mono ?_)
    rintro e w1 ⟨rfl, rfl⟩
    go_wp2_with fail
    go_ret2
    exact ⟨by rw [HE.out]; rfl, rfl⟩
theorem place_any {g gr : Nat} {S : St} {i o : Int} {w : World} (h : (AsLs g gr S).p w) : Calls Tryz.prog 67 #[pt g, .int .i64 i, .int .u32 o] w fun e w' => e = .returned (.tuple #[.int .i64 (placeS S i o).1, .int .i64 (placeS S i o).2]) ∧ Ext w w' := by
  obtain ⟨R, h, rfl⟩ := h
  by_cases hin : inS (stR R) i
  · obtain ⟨s, rfl, hs⟩ := in_stR hin
    have hwt := (stR_get (List.getElem?_eq_getElem hs)).2
    have hmy := (ls_ring h hs).many64
    have HO := hide (of_in h hs)
    have HF := hide (find_any (ls_ring h hs) o)
    by_cases ho : o ∈ R[s].ws
    · have HE : Hid (placeS (stR R) s o = ((R[s].ws.idxOf o : Int) + 1, 0)) := hide (by
        unfold placeS
        rw [if_neg (fun h => h hin), hwt, if_pos ho])
      rw [fnd_in ho] at HF
      have hix := idxOf_lt ho
      rw [Rg.ws_length] at hix
      obtain ⟨k, hk⟩ : ∃ k, R[s].ws.idxOf o = k := ⟨_, rfl⟩
      rw [hk] at HE HF hix
      have hneg : ¬ (k : Int) < 0 := by omega
      have hw : IntKind.i64.wrap ((k : Int) + 1) = (k : Int) + 1 := IntWalk.i64_in _ (by omega)
      clear h hin hk ho hwt
      go_enter Tryz.func67, Tryz.ntmps67
      go_wp2_with fail
      (with_reducible refine HO.out.mono ?_)
      rintro e w1 ⟨rfl, rfl⟩
      go_wp2_with fail
      (with_reducible refine HF.out.mono ?_)
      rintro e w1 ⟨rfl, hx⟩
      go_wp2_with fail
      go_ret2
      exact ⟨by rw [HE.out]; rfl, hx⟩
    · have HE : Hid (placeS (stR R) s o = (0, 4)) := hide (by
        unfold placeS
        rw [if_neg (fun h => h hin), hwt, if_neg ho])
      rw [fnd_out ho] at HF
      clear h hin ho hwt
      go_enter Tryz.func67, Tryz.ntmps67
      go_wp2_with fail
      (with_reducible refine HO.out.mono ?_)
      rintro e w1 ⟨rfl, rfl⟩
      go_wp2_with fail
      (with_reducible refine HF.out.mono ?_)
      rintro e w1 ⟨rfl, hx⟩
      go_wp2_with fail
      go_ret2
      exact ⟨by rw [HE.out]; rfl, hx⟩
  · have HE : Hid (placeS (stR R) i o = (0, 4)) := hide (by unfold placeS; rw [if_pos hin])
    have HO := hide (of_out h (out_stR hin))
    clear h hin
    go_enter Tryz.func67, Tryz.ntmps67
    go_wp2_with fail
    (with_reducible refine HO.out.mono ?_)
    rintro e w1 ⟨rfl, rfl⟩
    go_wp2_with fail
    go_ret2
    exact ⟨by rw [HE.out]; rfl, Ext.refl _⟩
theorem wfirst_any {g gr : Nat} {S : St} {i : Int} {w : World} (h : (AsLs g gr S).p w) : Calls Tryz.prog 66 #[pt g, .int .i64 i] w fun e w' => e = .returned (.tuple #[.int .u32 (firstS S i).1, .int .i64 (firstS S i).2]) ∧ Ext w w' := by
  obtain ⟨R, h, rfl⟩ := h
  by_cases hin : inS (stR R) i
  · obtain ⟨s, rfl, hs⟩ := in_stR hin
    have hwt := (stR_get (List.getElem?_eq_getElem hs)).2
    have HR := hide (ls_ring h hs)
    have HO := hide (of_in h hs)
    have c1 := HR.out.many
    have hlt := HR.out.B.lt
    have hfs := HR.out.ok.fst
    have hfsi : (R[s].first : Int) < 64 := by omega
    by_cases h0 : R[s].many = 0
    · have HE : Hid (firstS (stR R) s = (0, 4)) := hide (by
        unfold firstS
        rw [if_neg (fun h => h hin), hwt, if_pos (by rw [← List.length_eq_zero_iff, Rg.ws_length, h0])])
      have hd : ((R[s].many : Int) == 0) = true := by rw [h0]; rfl
      clear h hin hwt h0
      go_enter Tryz.func66, Tryz.ntmps66
      go_wp2_with fail
      (with_reducible refine HO.out.mono ?_)
      rintro e w1 ⟨rfl, rfl⟩
      go_wp2_with fail
      go_ret2
      exact ⟨by rw [HE.out]; rfl, Ext.refl _⟩
    · have hd : ((R[s].many : Int) == 0) = false := beq_eq_false_iff_ne.2 (by omega)
      obtain ⟨x, HX⟩ : ∃ x, Hid (R[s].own.getD R[s].first 0 = x) := ⟨_, hide rfl⟩
      have HE : Hid (firstS (stR R) s = (x, 0)) := hide (by
        unfold firstS
        have e : R[s].at_ 0 = R[s].first := by unfold Rg.at_; omega
        rw [if_neg (fun h => h hin), hwt, if_neg (by rw [← List.length_eq_zero_iff, Rg.ws_length]; exact h0), Rg.ws_getD _ (by omega), e, HX.out])
      have HD := hide (HR.out.ext ((Ext.refl w).drew))
      have c2 := HD.out.first
      have c3 := HD.out.own hfs
      rw [HX.out] at c3
      have hlt2 := HD.out.B.lt
      clear h hin hwt h0
      go_enter Tryz.func66, Tryz.ntmps66
      go_wp2_with fail
      (with_reducible refine HO.out.mono ?_)
      rintro e w1 ⟨rfl, rfl⟩
      go_upto_region 6 with fail
      refine wp_region_wm [0, 1, 2, 3, 4, 5, 6, 7, 8, 9, 10] (by kernel_rfl) (by kernel_rfl) (by kernel_rfl) (by kernel_rfl) ?_
      have hx : Ext w w.drew := (Ext.refl w).drew
      generalize w.drew = wd at *
      iterate 4 (refine wm_rd rfl rfl (fun K hK => ?_); go_simp; refine hK _ ?_; clear hK K)
      refine wm_ld1 rfl rfl 3 (.tmp 27) rfl rfl c2 _ Tryz.underlying3 rfl ?_
      iterate 3 (refine wm_rd rfl rfl (fun K hK => ?_); go_simp; refine hK _ ?_; clear hK K)
      refine wm_ld1 rfl rfl 41 (.tmp 31) rfl rfl c3 _ Tryz.underlying41 rfl ?_
      iterate 2 (refine wm_rd rfl rfl (fun K hK => ?_); go_simp; refine hK _ ?_; clear hK K)
      refine wm_nil ?_
      go_wp2_with fail
      go_ret2
      exact ⟨by rw [HE.out]; rfl, hx⟩
  · have HE : Hid (firstS (stR R) i = (0, 4)) := hide (by unfold firstS; rw [if_pos hin])
    have HO := hide (of_out h (out_stR hin))
    clear h hin
    go_enter Tryz.func66, Tryz.ntmps66
    go_wp2_with fail
    (with_reducible refine HO.out.mono ?_)
    rintro e w1 ⟨rfl, rfl⟩
    go_wp2_with fail
    go_ret2
    exact ⟨by rw [HE.out]; rfl, Ext.refl _⟩
end Go.Proofs.YtdmaephmkfmehaaGreatDoor
namespace Go.Proofs.YtdmaephmkfmehaaGreatDoor
open Go.RowKit Go.Gr Go.Wl
set_option linter.unusedVariables false
set_option linter.unusedSimpArgs false
attribute [local go_sem] rdOp rdAt rdUpon Cls forall_fr
theorem upd_ext {g : Nat} {w w' : World} (h : Ext w w') : Upd g w w' := ((Fr.of_ext h).mono (fun _ h => h.elim)).upd
theorem upd_after {g : Nat} {w w1 w' : World} (h : Ext w w1) (k : Upd g w1 w') : Upd g w w' := ((Fr.of_upd (upd_ext h)).trans (Fr.of_upd k)).upd
theorem asls_ext {g gr : Nat} {S : St} {w w' : World} (h : (AsLs g gr S).p w) (k : Ext w w') : (AsLs g gr S).p w' := by
  obtain ⟨R, h, e⟩ := h
  exact ⟨R, h.ext k, e⟩
theorem join_in {R : List Rg} {s : Nat} (hs : s < R.length) (o : Int) : inS (stR R) s ∧ lm (stR R) s = R[s].lim ∧ wt (stR R) s = R[s].ws :=
  ⟨⟨by omega, by rw [stR_len]; omega⟩, stR_get (List.getElem?_eq_getElem hs)⟩
set_option maxHeartbeats 1000000 in
theorem join_any {g gr : Nat} {S : St} {i o : Int} {w : World} (h : (AsLs g gr S).p w) (ho : 0 ≤ o ∧ o < 4294967296) : Calls Tryz.prog 64 #[pt g, .int .i64 i, .int .u32 o] w fun e w' => e = .returned (.tuple #[.int .i64 (joinS S i o).2.1, .int .i64 (joinS S i o).2.2]) ∧ (AsLs g gr (joinS S i o).1).p w' ∧ Upd gr w w' := by
  have HA := hide (fun (w' : World) (k : Ext w w') => asls_ext h k)
  obtain ⟨R, h, rfl⟩ := h
  by_cases hin : inS (stR R) i
  · obtain ⟨s, rfl, hs⟩ := in_stR hin
    obtain ⟨_, hlm, hwt⟩ := join_in hs o
    have HO := hide (of_in h hs)
    have HR := hide (ls_ring h hs)
    have HD := hide (HR.out.ext ((Ext.refl w).drew))
    have c1 := HD.out.many
    have c2 := HD.out.lim
    have hlt := HD.out.B.lt
    have hml := HR.out.ok.mny
    have hl64 := HR.out.ok.lim
    have HF := hide (find_any HD.out o)
    have hx : Ext w w.drew := (Ext.refl w).drew
    by_cases hf : R[s].many = R[s].lim
    · have HE : Hid (joinS (stR R) s o = (stR R, 0, 5)) := hide (by
        unfold joinS
        rw [if_neg (fun h => h hin), hwt, hlm, if_pos (by rw [Rg.ws_length]; exact hf)])
      have hd : ((R[s].many : Int) == (R[s].lim : Int)) = true := by rw [hf]; exact beq_self_eq_true _
      have HL := hide h
      clear h hin hlm hwt hf
      go_enter Tryz.func64, Tryz.ntmps64
      go_wp2_with fail
      (with_reducible refine HO.out.mono ?_)
      rintro e w1 ⟨rfl, rfl⟩
      go_upto_region 4 with fail
      refine wp_region_wm [0, 1, 2, 3, 4, 5, 6, 7, 8, 9] (by kernel_rfl) (by kernel_rfl) (by kernel_rfl) (by kernel_rfl) ?_
      generalize w.drew = wd at *
      iterate 3 (refine wm_rd rfl rfl (fun K hK => ?_); go_simp; refine hK _ ?_; clear hK K)
      refine wm_ld1 rfl rfl 3 (.tmp 22) rfl rfl c1 _ Tryz.underlying3 rfl ?_
      iterate 3 (refine wm_rd rfl rfl (fun K hK => ?_); go_simp; refine hK _ ?_; clear hK K)
      refine wm_ld1 rfl rfl 3 (.tmp 26) rfl rfl c2 _ Tryz.underlying3 rfl ?_
      iterate 2 (refine wm_rd rfl rfl (fun K hK => ?_); go_simp; refine hK _ ?_; clear hK K)
      refine wm_nil ?_
      go_wp2_with fail
      go_ret2
      exact ⟨by rw [HE.out]; rfl, by rw [HE.out]; exact HA.out _ hx, upd_ext hx⟩
    · have hd : ((R[s].many : Int) == (R[s].lim : Int)) = false := beq_eq_false_iff_ne.2 (by omega)
      by_cases hom : o ∈ R[s].ws
      · have HE : Hid (joinS (stR R) s o = (stR R, 0, 8)) := hide (by
          unfold joinS
          rw [if_neg (fun h => h hin), hwt, hlm, if_neg (by rw [Rg.ws_length]; exact hf), if_pos hom])
        rw [fnd_in hom] at HF
        have hk0 : (0 : Int) ≤ ((R[s].ws.idxOf o : Nat) : Int) := by omega
        obtain ⟨k, hk⟩ : ∃ k : Int, ((R[s].ws.idxOf o : Nat) : Int) = k := ⟨_, rfl⟩
        rw [hk] at HF hk0
        clear h hin hlm hwt hf hk hom
        go_enter Tryz.func64, Tryz.ntmps64
        go_wp2_with fail
        (with_reducible refine HO.out.mono ?_)
        rintro e w1 ⟨rfl, rfl⟩
        go_upto_region 4 with fail
        refine wp_region_wm [0, 1, 2, 3, 4, 5, 6, 7, 8, 9] (by kernel_rfl) (by kernel_rfl) (by kernel_rfl) (by kernel_rfl) ?_
        generalize w.drew = wd at *
        iterate 3 (refine wm_rd rfl rfl (fun K hK => ?_); go_simp; refine hK _ ?_; clear hK K)
        refine wm_ld1 rfl rfl 3 (.tmp 22) rfl rfl c1 _ Tryz.underlying3 rfl ?_
        iterate 3 (refine wm_rd rfl rfl (fun K hK => ?_); go_simp; refine hK _ ?_; clear hK K)
        refine wm_ld1 rfl rfl 3 (.tmp 26) rfl rfl c2 _ Tryz.underlying3 rfl ?_
        iterate 2 (refine wm_rd rfl rfl (fun K hK => ?_); go_simp; refine hK _ ?_; clear hK K)
        refine wm_nil ?_
        go_wp2_with fail
        (with_reducible refine HF.out.mono ?_)
        rintro e w2 ⟨rfl, hx2⟩
        have HX := hide (hx.trans hx2)
        clear hx hx2 c1 c2
        go_wp2_with fail
        go_ret2
        exact ⟨by rw [HE.out]; rfl, by rw [HE.out]; exact HA.out _ HX.out, upd_ext HX.out⟩
      · have HE : Hid (joinS (stR R) s o = (put (stR R) s (R[s].push o).ws, (R[s].many : Int) + 1, 0)) := hide (by
          unfold joinS
          rw [if_neg (fun h => h hin), hwt, hlm, if_neg (by rw [Rg.ws_length]; exact hf), if_neg hom, Rg.ws_length, Rg.push_ws HR.out.ok (by omega)])
        have HOK : Hid (Ok (put (stR R) s (R[s].push o).ws)) := hide (by
          have := join_ok h.ok (s : Int) ho
          rw [HE.out] at this
          exact this)
        have HSET : Hid (∀ (w1 w' : World), Ext w w1 → Blk w' gr 133 (cellsR (R.set s (R[s].push o))) → Upd gr w1 w' → (AsLs g gr (put (stR R) s (R[s].push o).ws)).p w' ∧ w'.cell? ⟨gr, s * 67 + 66, none⟩ = some (.int .i64 ((R[s].many : Int) + 1))) := hide (fun w1 w' k hB hu => by
          obtain ⟨h1, h2⟩ := ls_set (h.ext k) (List.getElem?_eq_getElem hs) hB hu (Rg.push_ok HR.out.ok (by omega) ho) rfl HOK.out
          have hm := (ring_set HR.out hB (Rg.push_ok HR.out.ok (by omega) ho)).many
          exact ⟨⟨_, h1, h2⟩, hm⟩)
        rw [fnd_out hom] at HF
        have hmlt : R[s].many < 64 := by omega
        clear h hin hlm hwt hf hom
        go_enter Tryz.func64, Tryz.ntmps64
        go_wp2_with fail
        (with_reducible refine HO.out.mono ?_)
        rintro e w1 ⟨rfl, rfl⟩
        go_upto_region 4 with fail
        refine wp_region_wm [0, 1, 2, 3, 4, 5, 6, 7, 8, 9] (by kernel_rfl) (by kernel_rfl) (by kernel_rfl) (by kernel_rfl) ?_
        generalize w.drew = wd at *
        iterate 3 (refine wm_rd rfl rfl (fun K hK => ?_); go_simp; refine hK _ ?_; clear hK K)
        refine wm_ld1 rfl rfl 3 (.tmp 22) rfl rfl c1 _ Tryz.underlying3 rfl ?_
        iterate 3 (refine wm_rd rfl rfl (fun K hK => ?_); go_simp; refine hK _ ?_; clear hK K)
        refine wm_ld1 rfl rfl 3 (.tmp 26) rfl rfl c2 _ Tryz.underlying3 rfl ?_
        iterate 2 (refine wm_rd rfl rfl (fun K hK => ?_); go_simp; refine hK _ ?_; clear hK K)
        refine wm_nil ?_
        go_wp2_with fail
        (with_reducible refine HF.out.mono ?_)
        rintro e w2 ⟨rfl, hx2⟩
        have HX := hide (hx.trans hx2)
        have HR2 := hide (HD.out.ext hx2)
        clear hx hx2 c1 c2
        go_wp2_with fail
        (with_reducible refine (push_any HR2.out o (by omega)).mono ?_)
        rintro e w3 ⟨rfl, hB3, hu3⟩
        have hlt3 := hB3.lt
        obtain ⟨hp3, c3⟩ := HSET.out _ _ HX.out hB3 hu3
        have HP := hide (And.intro hp3 (upd_after HX.out hu3))
        clear hB3 hu3 hp3
        go_wp2_with fail
        go_ret2
        exact ⟨by rw [HE.out]; rfl, by rw [HE.out]; exact HP.out.1, HP.out.2⟩
  · have HE : Hid (joinS (stR R) i o = (stR R, 0, 4)) := hide (by unfold joinS; rw [if_pos hin])
    have HO := hide (of_out h (out_stR hin))
    clear h hin
    go_enter Tryz.func64, Tryz.ntmps64
    go_wp2_with fail
    (with_reducible refine HO.out.mono ?_)
    rintro e w1 ⟨rfl, rfl⟩
    go_wp2_with fail
    go_ret2
    exact ⟨by rw [HE.out]; rfl, by rw [HE.out]; exact HA.out _ (Ext.refl _), upd_ext (Ext.refl _)⟩
theorem place_in {R : List Rg} {s : Nat} (hs : s < R.length) {o : Int} (ho : o ∈ R[s].ws) : placeS (stR R) s o = ((R[s].ws.idxOf o : Int) + 1, 0) := by
  obtain ⟨hin, _, hwt⟩ := join_in hs o
  unfold placeS
  rw [if_neg (fun h => h hin), hwt, if_pos ho]
theorem place_no {S : St} {i o : Int} (h : ¬ (inS S i ∧ o ∈ wt S i)) : placeS S i o = (0, 4) ∧ leaveS S i o = (S, 4) := by
  unfold placeS leaveS
  by_cases hin : inS S i
  · have ho : ¬ o ∈ wt S i := fun ho => h ⟨hin, ho⟩
    have hn : ¬ ¬ inS S i := fun k => k hin
    rw [if_neg hn, if_neg hn, if_neg ho, if_neg ho]
    exact ⟨rfl, rfl⟩
  · rw [if_pos hin, if_pos hin]
    exact ⟨rfl, rfl⟩
set_option maxHeartbeats 1000000 in
theorem leave_any {g gr : Nat} {S : St} {i o : Int} {w : World} (h : (AsLs g gr S).p w) : Calls Tryz.prog 65 #[pt g, .int .i64 i, .int .u32 o] w fun e w' => e = .returned (.int .i64 (leaveS S i o).2) ∧ (AsLs g gr (leaveS S i o).1).p w' ∧ Upd gr w w' := by
  have HA := hide (fun (w' : World) (k : Ext w w') => asls_ext h k)
  have HP := hide (place_any (i := i) (o := o) h)
  by_cases hin : inS S i ∧ o ∈ wt S i
  · obtain ⟨R, h, rfl⟩ := h
    obtain ⟨hin, hom⟩ := hin
    obtain ⟨s, rfl, hs⟩ := in_stR hin
    obtain ⟨_, hlm, hwt⟩ := join_in hs o
    rw [hwt] at hom
    have hix := idxOf_lt hom
    rw [Rg.ws_length] at hix
    rw [place_in hs hom] at HP
    have HE : Hid (leaveS (stR R) s o = (put (stR R) s (R[s].drop (R[s].ws.idxOf o)).ws, 0)) := hide (by
      unfold leaveS
      rw [if_neg (fun h => h hin), hwt, if_pos hom, Rg.drop_ws (h.rok _ (List.getElem_mem hs)) hix])
    obtain ⟨k, hk⟩ : ∃ k, R[s].ws.idxOf o = k := ⟨_, rfl⟩
    rw [hk] at HE HP hix
    have hm64 := (ls_ring h hs).many64
    have HR := hide (ls_ring h hs)
    have HOK : Hid (Ok (put (stR R) s (R[s].drop k).ws)) := hide (by
      have := leave_ok h.ok (s : Int) o
      rw [HE.out] at this
      exact this)
    have HSET : Hid (∀ (w1 w' : World), Ext w w1 → Blk w' gr 133 (cellsR (R.set s (R[s].drop k))) → Upd gr w1 w' → (AsLs g gr (put (stR R) s (R[s].drop k).ws)).p w' ∧ Upd gr w w') := hide (fun w1 w' x hB hu => by
      obtain ⟨h1, h2⟩ := ls_set (h.ext x) (List.getElem?_eq_getElem hs) hB hu (Rg.drop_ok HR.out.ok k) (by unfold Rg.drop; split <;> rfl) HOK.out
      exact ⟨⟨_, h1, h2⟩, upd_after x hu⟩)
    have HL := hide h
    have hsi : (s : Int) < (R.length : Int) := by omega
    have hw : IntKind.i64.wrap ((k : Int) + 1 - 1) = (k : Int) := by rw [show (k : Int) + 1 - 1 = k by omega]; exact IntWalk.i64_in _ (by omega)
    have hw2 : (k : Int) + 1 - 1 = k := by omega
    clear h hin hom hlm hwt hk HA
    go_enter Tryz.func65, Tryz.ntmps65
    go_wp2_with fail
    (with_reducible refine HP.out.mono ?_)
    rintro e w1 ⟨rfl, hx⟩
    have c0 : w1.cell? ⟨g, 0, none⟩ = some (.slice (some ⟨gr, 0, none⟩) R.length R.length) := ((HL.out.ext hx).st).cell 0
    have hlt := (HL.out.ext hx).st.lt
    have HX := hide hx
    clear hx
    go_wp2_with fail
    (with_reducible refine (drop_any (HR.out.ext HX.out) k hix).mono ?_)
    rintro e w2 ⟨rfl, hB2, hu2⟩
    have HQ := hide (HSET.out _ _ HX.out hB2 hu2)
    clear hB2 hu2 c0 hlt
    go_wp2_with fail
    go_ret
    exact ⟨by rw [HE.out]; rfl, by rw [HE.out]; exact HQ.out.1, HQ.out.2⟩
  · obtain ⟨h1, h2⟩ := place_no hin
    rw [h1] at HP
    have HE := hide h2
    clear h hin h1 h2
    go_enter Tryz.func65, Tryz.ntmps65
    go_wp2_with fail
    (with_reducible refine HP.out.mono ?_)
    rintro e w1 ⟨rfl, hx⟩
    have HX := hide hx
    clear hx
    go_wp2_with fail
    go_ret
    exact ⟨by rw [HE.out]; rfl, by rw [HE.out]; exact HA.out _ HX.out, upd_ext HX.out⟩
theorem first_no {S : St} {i : Int} (h : ¬ (inS S i ∧ wt S i ≠ [])) : firstS S i = (0, 4) ∧ takeS S i = (S, 0, 4) := by
  unfold firstS takeS
  by_cases hin : inS S i
  · have ho : wt S i = [] := by
      rcases hq : wt S i with _ | ⟨x, t⟩
      · rfl
      · exact absurd ⟨hin, by rw [hq]; simp⟩ h
    have hn : ¬ ¬ inS S i := fun k => k hin
    rw [if_neg hn, if_neg hn, if_pos ho, if_pos ho]
    exact ⟨rfl, rfl⟩
  · rw [if_pos hin, if_pos hin]
    exact ⟨rfl, rfl⟩
set_option maxHeartbeats 1000000 in
theorem take_any {g gr : Nat} {S : St} {i : Int} {w : World} (h : (AsLs g gr S).p w) : Calls Tryz.prog 68 #[pt g, .int .i64 i] w fun e w' => e = .returned (.tuple #[.int .u32 (takeS S i).2.1, .int .i64 (takeS S i).2.2]) ∧ (AsLs g gr (takeS S i).1).p w' ∧ Upd gr w w' := by
  have HA := hide (fun (w' : World) (k : Ext w w') => asls_ext h k)
  have HP := hide (wfirst_any (i := i) h)
  by_cases hin : inS S i ∧ wt S i ≠ []
  · obtain ⟨R, h, rfl⟩ := h
    obtain ⟨hin, hne⟩ := hin
    obtain ⟨s, rfl, hs⟩ := in_stR hin
    obtain ⟨_, hlm, hwt⟩ := join_in hs 0
    rw [hwt] at hne
    have hix : 0 < R[s].many := by
      have := List.length_pos_iff.2 hne
      rwa [Rg.ws_length] at this
    obtain ⟨x, HX0⟩ : ∃ x, Hid (R[s].ws.getD 0 0 = x) := ⟨_, hide rfl⟩
    have hfs : firstS (stR R) s = (x, 0) := by
      unfold firstS
      rw [if_neg (fun h => h hin), hwt, if_neg hne, HX0.out]
    rw [hfs] at HP
    have HE : Hid (takeS (stR R) s = (put (stR R) s (R[s].drop 0).ws, x, 0)) := hide (by
      unfold takeS
      rw [if_neg (fun h => h hin), hwt, if_neg hne, Rg.drop_ws (h.rok _ (List.getElem_mem hs)) hix, List.eraseIdx_zero, HX0.out])
    have HR := hide (ls_ring h hs)
    have HOK : Hid (Ok (put (stR R) s (R[s].drop 0).ws)) := hide (by
      have := take_ok h.ok (s : Int)
      rw [HE.out] at this
      exact this)
    have HSET : Hid (∀ (w1 w' : World), Ext w w1 → Blk w' gr 133 (cellsR (R.set s (R[s].drop 0))) → Upd gr w1 w' → (AsLs g gr (put (stR R) s (R[s].drop 0).ws)).p w' ∧ Upd gr w w') := hide (fun w1 w' x hB hu => by
      obtain ⟨h1, h2⟩ := ls_set (h.ext x) (List.getElem?_eq_getElem hs) hB hu (Rg.drop_ok HR.out.ok 0) (by unfold Rg.drop; split <;> rfl) HOK.out
      exact ⟨⟨_, h1, h2⟩, upd_after x hu⟩)
    have HL := hide h
    have hsi : (s : Int) < (R.length : Int) := by omega
    have HDR := hide (fun (w1 : World) (x : Ext w w1) => drop_any (HR.out.ext x) 0 hix)
    simp only [Int.natCast_zero] at HDR
    clear h hin hlm hwt HA hne hfs
    go_enter Tryz.func68, Tryz.ntmps68
    go_wp2_with fail
    (with_reducible refine HP.out.mono ?_)
    rintro e w1 ⟨rfl, hx⟩
    have c0 : w1.cell? ⟨g, 0, none⟩ = some (.slice (some ⟨gr, 0, none⟩) R.length R.length) := ((HL.out.ext hx).st).cell 0
    have hlt := (HL.out.ext hx).st.lt
    have HX := hide hx
    clear hx
    go_wp2_with fail
    (with_reducible refine (HDR.out _ HX.out).mono ?_)
    rintro e w2 ⟨rfl, hB2, hu2⟩
    have HQ := hide (HSET.out _ _ HX.out hB2 hu2)
    clear hB2 hu2 c0 hlt
    go_wp2_with fail
    go_ret2
    exact ⟨by rw [HE.out]; rfl, by rw [HE.out]; exact HQ.out.1, HQ.out.2⟩
  · obtain ⟨h1, h2⟩ := first_no hin
    rw [h1] at HP
    have HE := hide h2
    clear h hin h1 h2
    go_enter Tryz.func68, Tryz.ntmps68
    go_wp2_with fail
    (with_reducible refine HP.out.mono ?_)
    rintro e w1 ⟨rfl, hx⟩
    have HX := hide hx
    clear hx
    go_wp2_with fail
    go_ret2
    exact ⟨by rw [HE.out]; rfl, by rw [HE.out]; exact HA.out _ HX.out, upd_ext HX.out⟩
end Go.Proofs.YtdmaephmkfmehaaGreatDoor
namespace Go.Gr
open Go.RowKit Go.Sort
set_option linter.unusedVariables false
section
variable {P : Program} {G : Nat → Prop} {w0 w : World} {L : List As} {o : Oper} {a : Act} {Q : Exit → Act → World → Prop}
/-- make([]T, C), whatever T -/
theorem wpList_mkK {ops : Array Oper} {rest : List Oper} (H : Sep G w0 w L) (hgd : o.guard = none) (l c : Operand) (t : TypeId) (hop : o.op = Op.makeSlice t l c)
    (e : TypeId) (i : TypeInfo) (z : Value) (h1 : P.underlying t = some (.slice e)) (h2 : P.info? e = some i) (h3 : i.zero = some z) (cs : List Value)
    {kl kc : IntKind} {C : Nat} (hcs : madeCells z.cells (C * i.size) = cs.toArray) (hl : a.eval l = .int kl C) (hc : a.eval c = .int kc C) (hC2 : C ≤ 1000000000) (hb : i.bytes ≤ 1000)
    (hK : ∀ w', Sep G w0 w' (As.blk w.heap.size e cs :: L) → wpList P ops Q rest (a.put o.dst (.slice (some ⟨w.heap.size, 0, none⟩) C C)) w') : wpList P ops Q (o :: rest) a w := by
  refine wpList_plain hgd fun K hk => ?_
  have hbb : (i.bytes : Int) * (C : Int) ≤ 281474976710656 := by
    have := Int.mul_le_mul_of_nonneg_right (show (i.bytes : Int) ≤ 1000 by omega) (show (0 : Int) ≤ C by omega)
    omega
  have hr := run_make (P := P) w t e i z h1 h2 h3 kl kc C C (by omega) (Int.le_refl _) hbb (by omega)
  rw [Int.toNat_natCast, hcs] at hr
  unfold Oper.wp execOp
  simp only [hop, hl, hc, Sem.run_bind, hr, Result.andThen_ok, Sem.run_pure]
  exact hk _ _ (hK _ (H.newB ((Ext.refl w).alloc _) (Blk.new w e _) (Nat.le_refl _)))
end
end Go.Gr
namespace Go.Proofs.YtdmaephmkfmehaaGreatDoor
open Go.RowKit Go.Gr Go.Wl
set_option linter.unusedVariables false
set_option linter.unusedSimpArgs false
attribute [local go_sem] rdOp rdAt rdUpon Cls forall_fr
theorem i64s_get (l : List Int) {j : Nat} (h : j < l.length) : (i64s l)[j]? = some (.int .i64 l[j]) := by simp [i64s, h]
theorem infoR : (Tryz.prog.info? 133).map (fun i => (i.zero.map (·.cells), i.size, i.bytes)) = some (some (Rg.zero 0).cells.toArray, 67, 280) := by kernel_rfl
theorem infoR_parts : ∃ i z, Tryz.prog.info? 133 = some i ∧ i.zero = some z ∧ z.cells = (Rg.zero 0).cells.toArray ∧ i.size = 67 ∧ i.bytes = 280 := by
  have h := infoR
  cases hq : Tryz.prog.info? 133 with
  | none => rw [hq] at h; cases h
  | some i =>
    rw [hq] at h
    simp only [Option.map_some, Option.some.injEq, Prod.mk.injEq] at h
    obtain ⟨h1, h2, h3⟩ := h
    cases hz : i.zero with
    | none => rw [hz] at h1; cases h1
    | some z =>
      rw [hz] at h1
      exact ⟨i, z, rfl, hz, by simpa using h1, h2, h3⟩
theorem made_rows {cs : List Value} (hp : 0 < cs.length) (C : Nat) : madeCells cs.toArray (C * cs.length) = ((List.replicate C cs).flatten).toArray := by
  have hl : ∀ r ∈ List.replicate C cs, r.length = cs.length := fun r hr => by rw [List.eq_of_mem_replicate hr]
  have hfl : ((List.replicate C cs).flatten).length = C * cs.length := by rw [flatten_len hl, List.length_replicate]
  apply Array.ext
  · rw [size_madeCells, List.size_toArray, hfl]
  · intro i h1 h2
    rw [size_madeCells] at h1
    have hq : i / cs.length < C := (Nat.div_lt_iff_lt_mul hp).2 h1
    have hr : i % cs.length < cs.length := Nat.mod_lt _ hp
    have hg := flatten_get hl (i / cs.length) (i % cs.length) (by rw [List.getElem?_replicate, if_pos hq]) (List.getElem?_eq_getElem hr)
    rw [Nat.div_add_mod' i cs.length] at hg
    have e1 : (madeCells cs.toArray (C * cs.length))[i]'(by rw [size_madeCells]; exact h1) = cs[i % cs.length] := by
      unfold madeCells
      simp [getElem!_pos, hr]
    rw [e1]
    have e2 : ((List.replicate C cs).flatten)[i]? = some (((List.replicate C cs).flatten.toArray)[i]) := by
      rw [List.getElem?_eq_getElem (by rw [hfl]; exact h1)]; simp
    exact Option.some.inj (hg.symm.trans e2)
theorem ring_made (C : Nat) : madeCells (Rg.zero 0).cells.toArray (C * 67) = (cellsR (List.replicate C (Rg.zero 0))).toArray := by
  have := made_rows (cs := (Rg.zero 0).cells) (by decide) C
  rw [Rg.cells_len (by simp [Rg.zero])] at this
  rw [this]
  unfold cellsR
  rw [List.map_replicate]
/-- the rings when the first limits are laid -/
def newAt (l : List Int) (k : Nat) : List Rg := newR (l.take k) ++ List.replicate (l.length - k) (Rg.zero 0)
theorem newAt_zero (l : List Int) : newAt l 0 = List.replicate l.length (Rg.zero 0) := by simp [newAt, newR]
theorem newAt_end (l : List Int) : newAt l l.length = newR l := by simp [newAt]
theorem newAt_len {l : List Int} {k : Nat} (h : k ≤ l.length) : (newAt l k).length = l.length := by simp [newAt, newR]; omega
theorem newAt_lenR (l : List Int) (k : Nat) : LenR (newAt l k) := by
  intro r hr
  rcases List.mem_append.1 hr with h | h
  · obtain ⟨n, _, rfl⟩ := List.mem_map.1 h
    simp [Rg.zero]
  · rw [List.eq_of_mem_replicate h]
    simp [Rg.zero]
theorem newR_take {l : List Int} {k : Nat} (h : k ≤ l.length) : (newR (l.take k)).length = k := by simp [newR]; omega
theorem newAt_get {l : List Int} {k : Nat} (h : k < l.length) : (newAt l k)[k]? = some (Rg.zero 0) := by
  unfold newAt
  have hl := newR_take (Nat.le_of_lt h)
  rw [List.getElem?_append_right (by omega), hl, Nat.sub_self, List.getElem?_replicate, if_pos (by omega)]
theorem newAt_set {l : List Int} {k : Nat} (h : k < l.length) : (newAt l k).set k (Rg.zero l[k].toNat) = newAt l (k + 1) := by
  unfold newAt
  have hl := newR_take (Nat.le_of_lt h)
  rw [List.set_append_right _ _ (by omega), hl, Nat.sub_self, show l.length - k = (l.length - (k + 1)) + 1 by omega, List.replicate_succ, List.set_cons_zero, List.take_succ_eq_append_getElem h]
  unfold newR
  rw [List.map_append, List.append_assoc]
  rfl
theorem limE_bad {l : List Int} {k : Nat} (h1 : ¬ l.length < 1) (h2 : ¬ 8 < l.length) (hk : k < l.length) (h : ¬ (0 ≤ l[k] ∧ l[k] ≤ 64)) : limE l = 7 := by
  unfold limE
  rw [if_neg (by omega), if_neg (fun hh => h (hh _ (List.getElem_mem hk)))]
theorem limE_good {l : List Int} (h1 : ¬ l.length < 1) (h2 : ¬ 8 < l.length) (h : ∀ j (hj : j < l.length), 0 ≤ l[j] ∧ l[j] ≤ 64) : limE l = 0 := by
  unfold limE
  rw [if_neg (by omega), if_pos (fun x hx => by
    obtain ⟨j, hj, rfl⟩ := List.getElem_of_mem hx
    exact h j hj)]
set_option maxRecDepth 100000 in
set_option maxHeartbeats 1000000 in
theorem new_any (l : List Int) (A : Option Addr) (c : Nat) (w : World) (hr : Rd w A (i64s l)) (hlm : l.length ≤ 100000) :
    Calls Tryz.prog 30 #[.slice A l.length c] w fun e w' => (limE l = 0 → ∃ g gr, e = .returned (.tuple #[pt g, .int .i64 0]) ∧ Sep No w w' [AsLs g gr (newS l)]) ∧ (limE l ≠ 0 → e = .returned (.tuple #[.pointer none, .int .i64 (limE l)]) ∧ Ext w w') := by
  by_cases h1 : l.length < 1
  · have HE : Hid (limE l = 3) := hide (by unfold limE; rw [if_pos (.inl h1)])
    have d1 : ((l.length : Int) == 0) = true := by rw [show l.length = 0 by omega]; rfl
    clear h1 hr
    go_enter Tryz.func30, Tryz.ntmps30
    go_wp2_with fail
    go_ret2
    exact ⟨fun h => absurd h (by rw [HE.out]; decide), fun _ => ⟨by rw [HE.out]; rfl, Ext.refl _⟩⟩
  · have d1 : ((l.length : Int) == 0) = false := beq_eq_false_iff_ne.2 (by omega)
    by_cases h2 : 8 < l.length
    · have HE : Hid (limE l = 3) := hide (by unfold limE; rw [if_pos (.inr h2)])
      have d2 : (8 : Int) < (l.length : Int) := by omega
      clear h1 h2 hr
      go_enter Tryz.func30, Tryz.ntmps30
      go_wp2_with fail
      go_ret2
      exact ⟨fun h => absurd h (by rw [HE.out]; decide), fun _ => ⟨by rw [HE.out]; rfl, Ext.refl _⟩⟩
    · have d2 : ¬ (8 : Int) < (l.length : Int) := by omega
      have HR := hide hr
      clear hr
      obtain ⟨i0, z0, hi, hz, hzc, hsz, hby⟩ := infoR_parts
      have hmk : madeCells z0.cells (l.length * i0.size) = (cellsR (newAt l 0)).toArray := by rw [hzc, hsz, newAt_zero]; exact ring_made _
      have tok : True := trivial
      go_enter Tryz.func30, Tryz.ntmps30
      go_upto_region 4 with (have zz := tok; clear zz tok; refine wpList_mkK (Sep.refl No w) rfl (.tmp 16) (.tmp 16) 128 rfl 133 i0 z0 Tryz.underlying128 hi hz (cellsR (newAt l 0)) hmk rfl rfl (by omega) (by rw [hby]; decide) ?_; intro w1 H1)
      obtain ⟨gr, hgr⟩ : ∃ g, w.heap.size = g := ⟨_, rfl⟩
      rw [hgr] at H1 ⊢
      have hlt1 := (H1.blk (g := gr) (e := 133) (List.Mem.head _)).lt
      have H2 := Sep.add H1 130 [.slice (some ⟨gr, 0, none⟩) l.length l.length]
      obtain ⟨g, hg⟩ : ∃ g, w1.heap.size = g := ⟨_, rfl⟩
      rw [hg] at H2 ⊢
      have hne : gr < g := by rw [← hg]; exact hlt1
      have K2 := hide H2
      clear H1 H2 hgr hg hlt1 hmk hi hz hzc
      go_wp2_with fail
      go_loopw [22] (fun v wr => ∃ k : Nat, v = .int .i64 k ∧ k ≤ l.length ∧ (∀ j (hj : j < l.length), j < k → 0 ≤ l[j] ∧ l[j] ≤ 64) ∧ Hid (Sep No w wr [As.blk g 130 [.slice (some ⟨gr, 0, none⟩) l.length l.length], As.blk gr 133 (cellsR (newAt l k))])) (fun v _ => l.length - (intOf v).toNat)
      case atStart => exact ⟨0, rfl, by omega, fun j hj h => by omega, K2⟩
      case round =>
        obtain ⟨k, rfl, hk, hgood, HK⟩ := hrel
        clear K2
        have HG := hide hgood
        clear hgood
        by_cases hlt : k < l.length
        · have hlti : (k : Int) < (l.length : Int) := by omega
          obtain ⟨ad, rfl, c1⟩ := (HK.out.rdN HR.out).at_ (k := k) (by rw [i64s_len]; exact hlt)
          rw [show (i64s l)[k]'(by rw [i64s_len]; exact hlt) = .int .i64 l[k] by simp [i64s]] at c1
          obtain ⟨x, HX⟩ : ∃ x, Hid (l[k] = x) := ⟨_, hide rfl⟩
          rw [HX.out] at c1
          have hB := HK.out.blk (g := g) (e := 130) (List.Mem.head _)
          have c0 : wr.cell? ⟨g, 0, none⟩ = some (.slice (some ⟨gr, 0, none⟩) l.length l.length) := hB.cell 0
          have hgl := hB.lt
          clear hB
          by_cases hx0 : x < 0
          · have HE : Hid (limE l = 7) := hide (limE_bad h1 h2 hlt (by rw [HX.out]; omega))
            go_wp2_with fail
            go_ret2
            exact ⟨fun h => absurd h (by rw [HE.out]; decide), fun _ => ⟨by rw [HE.out]; rfl, HK.out.toExt⟩⟩
          · by_cases hx1 : 64 < x
            · have HE : Hid (limE l = 7) := hide (limE_bad h1 h2 hlt (by rw [HX.out]; omega))
              go_wp2_with fail
              go_ret2
              exact ⟨fun h => absurd h (by rw [HE.out]; decide), fun _ => ⟨by rw [HE.out]; rfl, HK.out.toExt⟩⟩
            · have HS : Hid ((cellsR (newAt l k)).set (k * 67) (.int .i64 x) = cellsR (newAt l (k + 1))) := hide (by
                have hxn : x = ((l[k].toNat : Nat) : Int) := by rw [HX.out]; omega
                rw [hxn, cellsR_set_lim (newAt_lenR l k) (newAt_get hlt), ← newAt_set hlt]
                rfl)
              have HG2 : Hid (∀ j (hj : j < l.length), j < k + 1 → 0 ≤ l[j] ∧ l[j] ≤ 64) := hide (fun j hj h => by
                rcases Nat.lt_or_ge j k with h' | h'
                · exact HG.out j hj h'
                · obtain rfl : j = k := by omega
                  rw [HX.out]; omega)
              have HLN : Hid (k * 67 < (cellsR (newAt l k)).length) := hide (by rw [cellsR_len (newAt_lenR l k), newAt_len hk]; omega)
              have tok : True := trivial
              go_wp2_with (have zz := tok; clear zz tok; refine wpList_st1S [_] HK.out rfl 3 (.tmp 40) (.tmp 38) rfl (v := .int .i64 x) rfl rfl (by kernel_rfl) HLN.out rfl ?_; intro w4 H4; dsimp only [List.nil_append, List.cons_append] at H4; rw [HS.out] at H4; have K4 := hide H4; clear H4)
              go_roundw
              case rel => exact ⟨k + 1, by go_num, by omega, HG2.out, K4⟩
              case measure => simp [intOf]; omega
        · obtain rfl : k = l.length := by omega
          have HE : Hid (limE l = 0) := hide (limE_good h1 h2 (fun j hj => HG.out j hj hj))
          have KF : Hid (Sep No w wr [AsLs g gr (newS l)]) := hide (by
            have H := HK.out
            rw [newAt_end] at H
            refine H.merge (C := AsLs g gr (newS l)) (fun ha hb => ⟨newR l, ⟨?_, hb, newR_ok HE.out, by rw [stR_newR]; exact newS_ok HE.out, by omega⟩, stR_newR l⟩) (fun i hi => ?_)
            · have e : (newR l).length = l.length := by simp [newR]
              rw [e]; exact ha
            · rcases hi with rfl | rfl
              · exact .inl rfl
              · exact .inr rfl)
          go_wp2_with fail
          go_ret2
          exact ⟨fun _ => ⟨g, gr, rfl, KF.out⟩, fun h => absurd HE.out h⟩
end Go.Proofs.YtdmaephmkfmehaaGreatDoor
namespace Go.Proofs.YtdmaephmkfmehaaGreatDoor
open Go.RowKit Go.Gr Go.Wl
set_option linter.unusedVariables false
set_option linter.unusedSimpArgs false
attribute [local go_sem] rdOp rdAt rdUpon Cls forall_fr
/-- the blocks of rows -/
def insFp (vs : List Value) (k : Nat) : Prop := ∃ ad n c, Value.slice (some ad) n c ∈ vs ∧ 0 < n ∧ ad.block = k
/-- rows that are read -/
def AsIn (vs : List Value) (rows : List (List Int)) : As := ⟨insFp vs, fun w => AreRows w vs rows,
  fun {w} h k hk => by
    obtain ⟨ad, n, c, hm, hn, rfl⟩ := hk
    obtain ⟨j, hj, e⟩ := List.getElem_of_mem hm
    obtain ⟨A, c', e', _, hr⟩ := h.2 j _ (rows[j]'(by rw [← h.1]; exact hj)) (by rw [List.getElem?_eq_getElem hj, e]) (List.getElem?_eq_getElem _)
    cases e'
    exact (As.rd (some ad) _).lt hr _ ⟨fun h0 => by rw [u32s_nil h0] at hn; simp at hn, ad, rfl, rfl⟩,
  fun {w w'} h k => ⟨h.1, fun j v r hv hr => (h.2 j v r hv hr).frame fun ad n c e hn => k _ ⟨ad, n, c, e ▸ List.mem_of_getElem? hv, hn, rfl⟩⟩⟩
theorem own_row {w : World} {e : TypeId} {v : Value} {r : List Int} (h : Own 0 w e v (u32s r)) : IsRow w v r := by
  obtain ⟨A, c, rfl, h1, h2, _⟩ := h.form
  rw [u32s_len] at h2 ⊢
  exact ⟨A, c, rfl, h2, h1⟩
theorem sep_in_nil {G : Nat → Prop} {w0 w : World} {L : List As} (H : Sep G w0 w L) : Sep G w0 w (AsIn [] [] :: L) := H.new (B := AsIn [] []) (Ext.refl w) (AreRows.nil w) (fun i hi => by
  obtain ⟨ad, n, c, hm, _⟩ := hi
  simp at hm)
/-- a row of the call's own is one more of the rows -/
theorem sep_in_push {G : Nat → Prop} {w0 w : World} {L : List As} {e : TypeId} {v : Value} {r : List Int} {vs : List Value} {rows : List (List Int)} (H : Sep G w0 w (As.own e v (u32s r) :: AsIn vs rows :: L)) : Sep G w0 w (AsIn (vs ++ [v]) (rows ++ [r]) :: L) := by
  refine H.merge (C := AsIn (vs ++ [v]) (rows ++ [r])) (fun ha hb => hb.push (own_row ha)) (fun i hi => ?_)
  obtain ⟨ad, n, c, hm, hn, rfl⟩ := hi
  rcases List.mem_append.1 hm with h | h
  · exact .inr ⟨ad, n, c, h, hn, rfl⟩
  · rw [List.mem_singleton] at h
    subst h
    exact .inl rfl
/-- rows and the row of them -/
theorem sep_rows {G : Nat → Prop} {w0 w : World} {L : List As} {B : Option Addr} {vs : List Value} {rows : List (List Int)} (H : Sep G w0 w (As.rd B vs :: AsIn vs rows :: L)) : Sep G w0 w (AsRows B vs rows :: L) := by
  refine H.merge (C := AsRows B vs rows) (fun ha hb => ⟨ha, hb⟩) (fun i hi => ?_)
  rcases hi with ⟨hne, ad, e, hi⟩ | h
  · exact .inl ⟨hne, ad, e, hi⟩
  · exact .inr h
theorem clip_any (A : Option Addr) (n c : Nat) (w : World) (hn : 0 < n) (hc : n ≤ c) (ad : Addr) (hA : A = some ad) : Calls Tryz.prog 96 #[.slice A n c] w fun e w' => e = .returned (.slice A n n) ∧ w = w' := by
  subst hA
  have h1 : (n : Int) ≤ (c : Int) := by omega
  have h2 : ¬ n = 0 := by omega
  go_enter Tryz.func96, Tryz.ntmps96
  go_wp2_with fail
  go_ret
  exact ⟨rfl, rfl⟩
theorem clip_nil (w : World) : Calls Tryz.prog 96 #[.slice none 0 0] w fun e w' => e = .returned (.slice none 0 0) ∧ w = w' := by
  go_enter Tryz.func96, Tryz.ntmps96
  go_wp2_with fail
  go_ret
  exact ⟨rfl, rfl⟩
theorem info39 : (Tryz.prog.info? 47).map (fun i => (i.zero, i.size, i.bytes)) = some (some (.slice none 0 0), 1, 24) := by kernel_rfl
theorem save_nil (w : World) : Calls Tryz.prog 59 #[.pointer none] w fun e w' => e = .returned (.slice none 0 0) ∧ w = w' := by
  go_enter Tryz.func59, Tryz.ntmps59
  go_wp2_with fail
  go_ret
  exact ⟨rfl, rfl⟩
theorem save_none {g : Nat} {w : World} (h : Blk w g 130 [.slice none 0 0]) : Calls Tryz.prog 59 #[pt g] w fun e w' => e = .returned (.slice none 0 0) ∧ w = w' := by
  have c0 : w.cell? ⟨g, 0, none⟩ = some (.slice none 0 0) := h.cell 0
  have hlt := h.lt
  clear h
  go_enter Tryz.func59, Tryz.ntmps59
  go_wp2_with fail
  go_loopw [3, 12] (fun v3 v wr => v3 = .slice none 0 0 ∧ v = .int .i64 0 ∧ w = wr) (fun _ _ _ => 0)
  case atStart => exact ⟨rfl, rfl, rfl⟩
  case round =>
    obtain ⟨rfl, rfl, rfl⟩ := hrel
    go_wp2_with fail
    (with_reducible refine (clip_nil _).mono ?_)
    rintro e w1 ⟨rfl, rfl⟩
    go_wp2_with fail
    go_ret
    exact ⟨rfl, rfl⟩
set_option maxRecDepth 100000 in
set_option maxHeartbeats 1000000 in
theorem save_any {g gr : Nat} {S : St} {w : World} (h : (AsLs g gr S).p w) : Calls Tryz.prog 59 #[pt g] w fun e w' => ∃ B vs, e = .returned (.slice B S.length S.length) ∧ Sep No w w' [AsRows B vs (S.map (·.2))] := by
  obtain ⟨i0, hi, hz0, hz1, hz2⟩ := info_parts info39
  obtain ⟨R, h, rfl⟩ := h
  have H := hide h
  have hp := h.ok.pos
  rw [stR_len] at hp
  have c0 : w.cell? ⟨g, 0, none⟩ = some (.slice (some ⟨gr, 0, none⟩) R.length R.length) := h.st.cell 0
  have hlt := h.st.lt
  have h8 := h.ok.len
  rw [stR_len] at h8
  clear h
  have K0 := hide (sep_in_nil ((Sep.refl No w).nilO 47))
  go_enter Tryz.func59, Tryz.ntmps59
  go_wp2_with fail
  clear c0 hlt
  go_loopw [3, 12] (fun v3 v wr => ∃ (k : Nat) (vs : List Value), v = .int .i64 k ∧ k ≤ R.length ∧ Hid (Sep No w wr [AsIn vs (((stR R).map (·.2)).take k), As.own 47 v3 vs])) (fun _ v _ => R.length - (intOf v).toNat)
  case atStart => exact ⟨0, [], rfl, by omega, by rw [List.take_zero]; exact K0⟩
  case round =>
    obtain ⟨k, vs, rfl, hk, HK⟩ := hrel
    clear K0
    have hvl : vs.length = k := by
      have := (HK.out.get (A := AsIn vs (((stR R).map (·.2)).take k)) (List.Mem.head _)).1
      rw [this, List.length_take, List.length_map, stR_len]
      omega
    by_cases hlt : k < R.length
    · have hlti : (k : Int) < (R.length : Int) := by omega
      have HW := hide (H.out.ext HK.out.toExt)
      have c0 : wr.cell? ⟨g, 0, none⟩ = some (.slice (some ⟨gr, 0, none⟩) R.length R.length) := HW.out.st.cell 0
      have hgl := HW.out.st.lt
      have HN : Hid (((stR R).map (·.2)).take k ++ [R[k].ws] = ((stR R).map (·.2)).take (k + 1)) := hide (by
        have hk2 : k < ((stR R).map (·.2)).length := by rw [List.length_map, stR_len]; exact hlt
        rw [List.take_succ_eq_append_getElem hk2]
        simp [stR])
      go_wp2_with fail
      (with_reducible refine (all_any (ls_ring HW.out hlt)).mono ?_)
      rintro e w2 ⟨v, rfl, hS⟩
      have K2 := (HK.out.joinW hS).rot.rot
      obtain ⟨Av, cv, rfl, _, _⟩ := own_row (hS.owns (e := 41) (List.Mem.head _))
      clear hS HK HW c0
      have tok : True := trivial
      go_wp2_with (have zz := tok; clear zz tok; refine wpList_pushS [] K2 rfl (.tmp 15) (.tmp 23) 25 rfl i0 (.slice none 0 0) 24 Tryz.underlying25 hi hz0 hz1 hz2 rfl rfl rfl rfl (by omega) (by decide) ?_; intro v4 w4 H4; dsimp only [List.nil_append] at H4; have K4 := hide H4; clear H4 K2)
      go_roundw
      case rel =>
        exact ⟨k + 1, vs ++ [_], by go_num, by omega, hide (by
          have K5 := sep_in_push K4.out.rot
          rw [HN.out] at K5
          exact K5)⟩
      case measure => simp [intOf]; omega
    · obtain rfl : k = R.length := by omega
      obtain ⟨A, c, hv, hr, hc, _⟩ := (HK.out.owns (e := 47) (v := u3) (xs := vs) (List.Mem.tail _ (List.Mem.head _))).form
      subst hv
      obtain ⟨ad, hA, _⟩ := hr.at_ (k := 0) (by omega)
      have KF : Hid (Sep No w wr [AsRows A vs ((stR R).map (·.2))]) := hide (by
        have H := HK.out
        rw [List.take_of_length_le (by rw [List.length_map, stR_len]; exact Nat.le_refl _)] at H
        exact sep_rows (H.swap.weak [] (B := As.rd A vs) (fun _ => hr) (fun i ⟨hne, ad, e, hi⟩ => by subst e; subst hi; rfl)))
      rw [hvl] at hc ⊢
      clear hr HK
      subst hA
      go_wp2_with fail
      (with_reducible refine (clip_any (some ad) R.length c _ (by omega) hc ad rfl).mono ?_)
      rintro e w2 ⟨rfl, rfl⟩
      go_wp2_with fail
      go_ret
      exact ⟨some ad, vs, by rw [stR_len]; rfl, KF.out⟩
end Go.Proofs.YtdmaephmkfmehaaGreatDoor
namespace Go.Proofs.YtdmaephmkfmehaaGreatDoor
open Go.RowKit Go.Gr Go.Wl
set_option linter.unusedVariables false
set_option linter.unusedSimpArgs false
attribute [local go_sem] rdOp rdAt rdUpon Cls forall_fr
theorem u32s_at {w : World} {A : Option Addr} {l : List Int} (h : Rd w A (u32s l)) {k : Nat} (hk : k < l.length) : ∃ ad, A = some ad ∧ w.cell? (ad.add k) = some (.int .u32 l[k]) := by
  obtain ⟨ad, e, hc⟩ := h.at_ (k := k) (by rw [u32s_len]; exact hk)
  rw [show (u32s l)[k]'(by rw [u32s_len]; exact hk) = .int .u32 l[k] by simp [u32s]] at hc
  exact ⟨ad, e, hc⟩
theorem take_next {α : Type} {a b : List α} {k : Nat} (ha : k < a.length) (hb : k < b.length) : a.take k = b.take k ∧ a[k] = b[k] ↔ a.take (k + 1) = b.take (k + 1) := by
  rw [List.take_succ_eq_append_getElem ha, List.take_succ_eq_append_getElem hb]
  constructor
  · rintro ⟨h1, h2⟩
    rw [h1, h2]
  · intro h
    have := List.append_inj h (by simp; omega)
    exact ⟨this.1, by simpa using this.2⟩
set_option maxRecDepth 100000 in
theorem owners_any (a b : List Int) (A B : Option Addr) (ca cb : Nat) (w : World) (ha : Rd w A (u32s a)) (hb : Rd w B (u32s b)) (hla : a.length ≤ 1000000) (hlb : b.length ≤ 1000000) :
    Calls Tryz.prog 60 #[.slice A a.length ca, .slice B b.length cb] w fun e w' => e = .returned (.bool (decide (a = b))) ∧ Ext w w' := by
  have HA := hide ha
  have HB := hide hb
  clear ha hb
  by_cases hl : a.length = b.length
  · have hd : ((a.length : Int) != (b.length : Int)) = false := by rw [hl]; exact bne_self_eq_false _
    have HL := hide hl
    clear hl
    go_enter Tryz.func60, Tryz.ntmps60
    go_wp2_with fail
    go_loopw [5] (fun v wr => ∃ k : Nat, v = .int .i64 k ∧ k ≤ a.length ∧ Hid (a.take k = b.take k) ∧ Hid (Ext w wr)) (fun v _ => a.length - (intOf v).toNat)
    case atStart => exact ⟨0, rfl, by omega, hide rfl, hide (Ext.refl w)⟩
    case round =>
      obtain ⟨k, rfl, hk, HK, HX⟩ := hrel
      by_cases hlt : k < a.length
      · have hlti : (k : Int) < (a.length : Int) := by omega
        have hlt2 : k < b.length := by rw [← HL.out]; exact hlt
        have hlti2 : (k : Int) < (b.length : Int) := by omega
        have HX2 := hide (HX.out.trans ((Ext.refl wr).drew))
        obtain ⟨ad, hA, c1⟩ := u32s_at (HA.out.ext HX2.out) hlt
        obtain ⟨bd, hB, c2⟩ := u32s_at (HB.out.ext HX2.out) hlt2
        subst hA hB
        have HN := hide (take_next hlt hlt2)
        obtain ⟨x, hx⟩ : ∃ x, Hid (a[k] = x) := ⟨_, hide rfl⟩
        obtain ⟨y, hy⟩ : ∃ y, Hid (b[k] = y) := ⟨_, hide rfl⟩
        rw [hx.out] at c1 HN
        rw [hy.out] at c2 HN
        go_upto_region 6 with fail
        refine wp_region_wm [0, 1, 2, 3, 4, 5, 6, 7, 8] (by kernel_rfl) (by kernel_rfl) (by kernel_rfl) (by kernel_rfl) ?_
        generalize wr.drew = wd at *
        by_cases hxy : x = y
        · have e1 : (x == y) = true := beq_iff_eq.2 hxy
          have e2 : (x != y) = false := by rw [hxy]; exact bne_self_eq_false _
          have HK2 := hide (HN.out.1 ⟨HK.out, hxy⟩)
          clear hxy
          iterate 3 (refine wm_rd rfl rfl (fun K hK => ?_); go_simp; refine hK _ ?_; clear hK K)
          refine wm_ld1 rfl rfl 41 (.tmp 19) rfl rfl c1 _ Tryz.underlying41 rfl ?_
          iterate 3 (refine wm_rd rfl rfl (fun K hK => ?_); go_simp; refine hK _ ?_; clear hK K)
          refine wm_ld1 rfl rfl 41 (.tmp 23) rfl rfl c2 _ Tryz.underlying41 rfl ?_
          iterate 1 (refine wm_rd rfl rfl (fun K hK => ?_); go_simp; refine hK _ ?_; clear hK K)
          refine wm_nil ?_
          go_wp2_with fail
          go_roundw
          case rel => exact ⟨k + 1, by go_num, by omega, HK2, HX2⟩
          case measure => simp [intOf]; omega
        · have e1 : (x == y) = false := beq_eq_false_iff_ne.2 hxy
          have e2 : (x != y) = true := bne_iff_ne.2 hxy
          have HE : Hid (decide (a = b) = false) := hide (decide_eq_false (fun e => by
            have := HN.out.2 (by rw [e])
            exact hxy this.2))
          clear hxy
          iterate 3 (refine wm_rd rfl rfl (fun K hK => ?_); go_simp; refine hK _ ?_; clear hK K)
          refine wm_ld1 rfl rfl 41 (.tmp 19) rfl rfl c1 _ Tryz.underlying41 rfl ?_
          iterate 3 (refine wm_rd rfl rfl (fun K hK => ?_); go_simp; refine hK _ ?_; clear hK K)
          refine wm_ld1 rfl rfl 41 (.tmp 23) rfl rfl c2 _ Tryz.underlying41 rfl ?_
          iterate 1 (refine wm_rd rfl rfl (fun K hK => ?_); go_simp; refine hK _ ?_; clear hK K)
          refine wm_nil ?_
          go_wp2_with fail
          go_ret
          exact ⟨by rw [HE.out]; rfl, HX2.out⟩
      · obtain rfl : k = a.length := by omega
        have HE : Hid (decide (a = b) = true) := hide (decide_eq_true (by
          have h := HK.out
          rw [List.take_length, HL.out, List.take_length] at h
          exact h))
        go_wp2_with fail
        go_ret
        exact ⟨by rw [HE.out]; rfl, HX.out⟩
  · have hd : ((a.length : Int) != (b.length : Int)) = true := bne_iff_ne.2 (by omega)
    have HE : Hid (decide (a = b) = false) := hide (decide_eq_false (fun e => hl (by rw [e])))
    clear hl
    go_enter Tryz.func60, Tryz.ntmps60
    go_wp2_with fail
    go_ret
    exact ⟨by rw [HE.out]; rfl, Ext.refl _⟩
set_option maxRecDepth 100000 in
theorem same_any (a b : List (List Int)) (va vb : List Value) (A B : Option Addr) (ca cb : Nat) (w : World) (ha : (AsRows A va a).p w) (hb : (AsRows B vb b).p w) (hla : a.length ≤ 1000000) (hlb : b.length ≤ 1000000) (hra : ∀ r ∈ a, r.length ≤ 1000000) (hrb : ∀ r ∈ b, r.length ≤ 1000000) :
    Calls Tryz.prog 37 #[.slice A a.length ca, .slice B b.length cb] w fun e w' => e = .returned (.bool (decide (a = b))) ∧ Ext w w' := by
  have HA := hide ha
  have HB := hide hb
  clear ha hb
  by_cases hl : a.length = b.length
  · have hd : ((a.length : Int) != (b.length : Int)) = false := by rw [hl]; exact bne_self_eq_false _
    have HL := hide hl
    clear hl
    go_enter Tryz.func37, Tryz.ntmps37
    go_wp2_with fail
    go_loopw [5] (fun v wr => ∃ k : Nat, v = .int .i64 k ∧ k ≤ a.length ∧ Hid (a.take k = b.take k) ∧ Hid (Ext w wr)) (fun v _ => a.length - (intOf v).toNat)
    case atStart => exact ⟨0, rfl, by omega, hide rfl, hide (Ext.refl w)⟩
    case round =>
      obtain ⟨k, rfl, hk, HK, HX⟩ := hrel
      by_cases hlt : k < a.length
      · have hlti : (k : Int) < (a.length : Int) := by omega
        have hlt2 : k < b.length := by rw [← HL.out]; exact hlt
        have hlti2 : (k : Int) < (b.length : Int) := by omega
        have HX2 := hide (HX.out.trans ((Ext.refl wr).drew))
        obtain ⟨x, hx, Ax, cx, rfl, hcx, hrx⟩ := HA.out.2.get hlt
        obtain ⟨y, hy, By, cy, rfl, hcy, hry⟩ := HB.out.2.get hlt2
        obtain ⟨hjx, ex⟩ := List.getElem?_eq_some_iff.1 hx
        obtain ⟨hjy, ey⟩ := List.getElem?_eq_some_iff.1 hy
        obtain ⟨ad, hA, c1⟩ := (HA.out.1.ext HX2.out).at_ (k := k) hjx
        obtain ⟨bd, hB, c2⟩ := (HB.out.1.ext HX2.out).at_ (k := k) hjy
        rw [ex] at c1
        rw [ey] at c2
        subst hA hB
        have HN := hide (take_next hlt hlt2)
        have hlx := hra _ (List.getElem_mem hlt)
        have hly := hrb _ (List.getElem_mem hlt2)
        have HOW := hide (fun (x : World) (h : Ext w x) => owners_any a[k] b[k] Ax By cx cy x (hrx.ext h) (hry.ext h) hlx hly)
        clear hx hy hrx hry ex ey hlx hly hcx hcy
        go_upto_region 6 with fail
        refine wp_region_wm [0, 1, 2, 3, 4, 5, 6, 7, 8, 9] (by kernel_rfl) (by kernel_rfl) (by kernel_rfl) (by kernel_rfl) ?_
        generalize wr.drew = wd at *
        by_cases hxy : a[k] = b[k]
        · rw [show decide (a[k] = b[k]) = true from decide_eq_true hxy] at HOW
          have HK2 := hide (HN.out.1 ⟨HK.out, hxy⟩)
          clear hxy
          iterate 3 (refine wm_rd rfl rfl (fun K hK => ?_); go_simp; refine hK _ ?_; clear hK K)
          refine wm_ld1 rfl rfl 47 (.tmp 19) rfl rfl c1 _ Tryz.underlying47 rfl ?_
          iterate 3 (refine wm_rd rfl rfl (fun K hK => ?_); go_simp; refine hK _ ?_; clear hK K)
          refine wm_ld1 rfl rfl 47 (.tmp 23) rfl rfl c2 _ Tryz.underlying47 rfl ?_
          refine wm_ext rfl rfl (fun K hK => ?_)
          go_simp
          go_at_call 60
          (with_reducible refine (HOW.out _ HX2.out).mono ?_)
          rintro e w2 ⟨rfl, hx2⟩
          refine hK _ _ hx2 ?_
          clear hK K
          have HX3 := hide (HX2.out.trans hx2)
          clear hx2
          iterate 1 (refine wm_rd rfl rfl (fun K hK => ?_); go_simp; refine hK _ ?_; clear hK K)
          refine wm_nil ?_
          go_wp2_with fail
          go_roundw
          case rel => exact ⟨k + 1, by go_num, by omega, HK2, HX3⟩
          case measure => simp [intOf]; omega
        · rw [show decide (a[k] = b[k]) = false from decide_eq_false hxy] at HOW
          have HE : Hid (decide (a = b) = false) := hide (decide_eq_false (fun e => by
            have := HN.out.2 (by rw [e])
            exact hxy this.2))
          clear hxy
          iterate 3 (refine wm_rd rfl rfl (fun K hK => ?_); go_simp; refine hK _ ?_; clear hK K)
          refine wm_ld1 rfl rfl 47 (.tmp 19) rfl rfl c1 _ Tryz.underlying47 rfl ?_
          iterate 3 (refine wm_rd rfl rfl (fun K hK => ?_); go_simp; refine hK _ ?_; clear hK K)
          refine wm_ld1 rfl rfl 47 (.tmp 23) rfl rfl c2 _ Tryz.underlying47 rfl ?_
          refine wm_ext rfl rfl (fun K hK => ?_)
          go_simp
          go_at_call 60
          (with_reducible refine (HOW.out _ HX2.out).mono ?_)
          rintro e w2 ⟨rfl, hx2⟩
          refine hK _ _ hx2 ?_
          clear hK K
          have HX3 := hide (HX2.out.trans hx2)
          clear hx2
          iterate 1 (refine wm_rd rfl rfl (fun K hK => ?_); go_simp; refine hK _ ?_; clear hK K)
          refine wm_nil ?_
          go_wp2_with fail
          go_ret
          exact ⟨by rw [HE.out]; rfl, HX3.out⟩
      · obtain rfl : k = a.length := by omega
        have HE : Hid (decide (a = b) = true) := hide (decide_eq_true (by
          have h := HK.out
          rw [List.take_length, HL.out, List.take_length] at h
          exact h))
        go_wp2_with fail
        go_ret
        exact ⟨by rw [HE.out]; rfl, HX.out⟩
  · have hd : ((a.length : Int) != (b.length : Int)) = true := bne_iff_ne.2 (by omega)
    have HE : Hid (decide (a = b) = false) := hide (decide_eq_false (fun e => hl (by rw [e])))
    clear hl
    go_enter Tryz.func37, Tryz.ntmps37
    go_wp2_with fail
    go_ret
    exact ⟨by rw [HE.out]; rfl, Ext.refl _⟩
theorem rplace_any (a : List Int) (o : Int) (A : Option Addr) (c : Nat) (w : World) (ha : Rd w A (u32s a)) (hla : a.length ≤ 1000000) :
    Calls Tryz.prog 106 #[.slice A a.length c, .int .u32 o] w fun e w' => e = .returned (.int .i64 (fnd a o + 1)) ∧ w = w' := by
  have HA := hide ha
  clear ha
  go_enter Tryz.func106, Tryz.ntmps106
  go_wp2_with fail
  go_loopw [5] (fun v wr => ∃ k : Nat, v = .int .i64 k ∧ k ≤ a.length ∧ (∀ j, j < k → a[j]? ≠ some o) ∧ w = wr) (fun v _ => a.length - (intOf v).toNat)
  case atStart => exact ⟨0, rfl, by omega, fun j hj => by omega, rfl⟩
  case round =>
    obtain ⟨k, rfl, hk, hno, rfl⟩ := hrel
    have HNO := hide hno
    clear hno
    by_cases hlt : k < a.length
    · have hlti : (k : Int) < (a.length : Int) := by omega
      have hws := List.getElem?_eq_getElem hlt
      obtain ⟨ad, hA, c1⟩ := u32s_at HA.out hlt
      subst hA
      obtain ⟨x, hx⟩ : ∃ x, Hid (a[k] = x) := ⟨_, hide rfl⟩
      rw [hx.out] at c1 hws
      have HWS := hide hws
      clear hws
      by_cases hxo : x = o
      · have e1 : (x == o) = true := beq_iff_eq.2 hxo
        have HE := hide (fnd_some (hxo ▸ HWS.out) HNO.out)
        have hw : IntKind.i64.wrap ((k : Int) + 1) = (k : Int) + 1 := IntWalk.i64_in _ (by omega)
        clear hxo
        go_wp2_with fail
        go_ret
        exact ⟨by rw [HE.out]; rfl, rfl⟩
      · have e1 : (x == o) = false := beq_eq_false_iff_ne.2 hxo
        have HN2 : Hid (∀ j, j < k + 1 → a[j]? ≠ some o) := hide (fun j hj e => by
          rcases Nat.lt_or_ge j k with h | h
          · exact HNO.out j h e
          · obtain rfl : j = k := by omega
            rw [HWS.out] at e
            exact hxo (Option.some.inj e))
        clear hxo
        go_wp2_with fail
        go_roundw
        case rel => exact ⟨k + 1, by go_num, by omega, HN2.out, by first | rfl | trivial⟩
        case measure => simp [intOf]; omega
    · have hki : ¬ (k : Int) < (a.length : Int) := by omega
      have HE := hide (fnd_none (l := a) (o := o) (fun j hj => HNO.out j (by omega)))
      go_wp2_with fail
      go_ret
      exact ⟨by rw [HE.out]; rfl, rfl⟩
theorem limited_any (l : List Int) (A : Option Addr) (c : Nat) (w : World) (hr : Rd w A (i64s l)) (hlm : l.length ≤ 100000) :
    Calls Tryz.prog 80 #[.slice A l.length c] w fun e w' => e = .returned (.int .i64 (limE l)) ∧ w = w' := by
  have HR := hide hr
  clear hr
  by_cases h1 : l.length < 1
  · have HE : Hid (limE l = 3) := hide (by unfold limE; rw [if_pos (.inl h1)])
    have d1 : (l.length : Int) < 1 := by omega
    go_enter Tryz.func80, Tryz.ntmps80
    go_wp2_with fail
    go_ret
    exact ⟨by rw [HE.out]; rfl, rfl⟩
  · have d1 : ¬ (l.length : Int) < 1 := by omega
    by_cases h2 : 8 < l.length
    · have HE : Hid (limE l = 3) := hide (by unfold limE; rw [if_pos (.inr h2)])
      have d2 : (8 : Int) < (l.length : Int) := by omega
      go_enter Tryz.func80, Tryz.ntmps80
      go_wp2_with fail
      go_ret
      exact ⟨by rw [HE.out]; rfl, rfl⟩
    · have d2 : ¬ (8 : Int) < (l.length : Int) := by omega
      go_enter Tryz.func80, Tryz.ntmps80
      go_wp2_with fail
      go_loopw [3] (fun v wr => ∃ k : Nat, v = .int .i64 k ∧ k ≤ l.length ∧ (∀ j (hj : j < l.length), j < k → 0 ≤ l[j] ∧ l[j] ≤ 64) ∧ w = wr) (fun v _ => l.length - (intOf v).toNat)
      case atStart => exact ⟨0, rfl, by omega, fun j hj h => by omega, rfl⟩
      case round =>
        obtain ⟨k, rfl, hk, hgood, rfl⟩ := hrel
        have HG := hide hgood
        clear hgood
        by_cases hlt : k < l.length
        · have hlti : (k : Int) < (l.length : Int) := by omega
          obtain ⟨ad, hA, c1⟩ := i64s_at HR.out hlt
          subst hA
          obtain ⟨x, HX⟩ : ∃ x, Hid (l[k] = x) := ⟨_, hide rfl⟩
          rw [HX.out] at c1
          by_cases hx0 : x < 0
          · have HE : Hid (limE l = 7) := hide (limE_bad h1 h2 hlt (by rw [HX.out]; omega))
            go_wp2_with fail
            go_ret
            exact ⟨by rw [HE.out]; rfl, rfl⟩
          · by_cases hx1 : 64 < x
            · have HE : Hid (limE l = 7) := hide (limE_bad h1 h2 hlt (by rw [HX.out]; omega))
              go_wp2_with fail
              go_ret
              exact ⟨by rw [HE.out]; rfl, rfl⟩
            · have HG2 : Hid (∀ j (hj : j < l.length), j < k + 1 → 0 ≤ l[j] ∧ l[j] ≤ 64) := hide (fun j hj h => by
                rcases Nat.lt_or_ge j k with h' | h'
                · exact HG.out j hj h'
                · obtain rfl : j = k := by omega
                  rw [HX.out]; omega)
              go_wp2_with fail
              go_roundw
              case rel => exact ⟨k + 1, by go_num, by omega, HG2.out, by first | rfl | trivial⟩
              case measure => simp [intOf]; omega
        · obtain rfl : k = l.length := by omega
          have HE : Hid (limE l = 0) := hide (limE_good h1 h2 (fun j hj => HG.out j hj hj))
          go_wp2_with fail
          go_ret
          exact ⟨by rw [HE.out]; rfl, rfl⟩
def inB (n : Nat) (i : Int) : Bool := decide (0 ≤ i ∧ i < n)
theorem some_any {A B : Option Addr} {n c m d : Nat} (i : Int) (w : World) : Calls Tryz.prog 111 #[.agg #[.slice A n c, .slice B m d], .int .i64 i] w fun e w' => e = .returned (.bool (inB n i)) ∧ Ext w w' := by
  have HX : Hid (Ext w (w.alloc (.cells #[.slice A n c, .slice B m d] 82))) := hide ((Ext.refl w).alloc _)
  by_cases h0 : 0 ≤ i
  · by_cases h1 : i < n
    · have HE : Hid (inB n i = true) := hide (decide_eq_true ⟨h0, h1⟩)
      go_enter Tryz.func111, Tryz.ntmps111
      go_wp2_with fail
      go_ret
      exact ⟨by rw [HE.out]; rfl, HX.out⟩
    · have HE : Hid (inB n i = false) := hide (decide_eq_false (fun h => h1 h.2))
      go_enter Tryz.func111, Tryz.ntmps111
      go_wp2_with fail
      go_ret
      exact ⟨by rw [HE.out]; rfl, HX.out⟩
  · have HE : Hid (inB n i = false) := hide (decide_eq_false (fun h => h0 h.1))
    go_enter Tryz.func111, Tryz.ntmps111
    go_wp2_with fail
    go_ret
    exact ⟨by rw [HE.out]; rfl, HX.out⟩
end Go.Proofs.YtdmaephmkfmehaaGreatDoor
namespace Go.Proofs.YtdmaephmkfmehaaGreatDoor
open Go.RowKit Go.Gr Go.Wl
set_option linter.unusedVariables false
set_option linter.unusedSimpArgs false
attribute [local go_sem] rdOp rdAt rdUpon Cls forall_fr
theorem cells2 {w : World} {g : Nat} {e : TypeId} {x y : Value} (h : Blk w g e [x, y]) : w.cell? ⟨g, 0, none⟩ = some x ∧ w.cell? ⟨g, 1, none⟩ = some y ∧ g < w.heap.size := ⟨h.cell 0, h.cell 1, h.lt⟩
theorem add0 (a : Addr) : a.add 0 = a := by
  cases a with
  | mk b o p => cases p <;> simp [Addr.add]
def limsS (S : St) : List Int := S.map fun p => ((p.1 : Nat) : Int)
theorem limsS_len (S : St) : (limsS S).length = S.length := by simp [limsS]
theorem limsS_get {S : St} {s : Nat} (hs : s < S.length) : (limsS S)[s]'(by rw [limsS_len]; exact hs) = ((lm S s : Nat) : Int) := by
  unfold limsS lm
  simp [List.getD_eq_getElem?_getD, hs]
def rowsS (S : St) : List (List Int) := S.map (·.2)
theorem rowsS_len (S : St) : (rowsS S).length = S.length := by simp [rowsS]
theorem rowsS_get {S : St} {s : Nat} (hs : s < S.length) : (rowsS S)[s]'(by rw [rowsS_len]; exact hs) = wt S s := by
  unfold rowsS wt
  simp [List.getD_eq_getElem?_getD, hs]
theorem limsS_put {S : St} {s : Nat} (hs : s < S.length) (r : List Int) : limsS (put S s r) = limsS S := by
  unfold put limsS
  rw [List.map_set]
  apply List.ext_getElem?
  intro j
  by_cases e : s = j
  · subst e
    simp only [Int.toNat_natCast]
    rw [List.getElem?_set_self (by simpa using hs), List.getElem?_map, List.getElem?_eq_getElem hs]
    simp [lm, List.getD_eq_getElem?_getD, hs]
  · rw [List.getElem?_set_ne (by simpa using e)]
theorem rowsS_put (S : St) (s : Nat) (r : List Int) : rowsS (put S s r) = (rowsS S).set s r := by
  unfold put rowsS
  rw [List.map_set]; simp
theorem put_len (S : St) (i : Int) (r : List Int) : (put S i r).length = S.length := by simp [put]
/-- the reference's lists: the limits are read, the waiters are rows -/
def AsRf (A B : Option Addr) (vs : List Value) (S : St) : As := (As.rd A (i64s (limsS S))).and (AsRows B vs (rowsS S))
theorem rf_ext {A B : Option Addr} {vs : List Value} {S : St} {w w' : World} (h : (AsRf A B vs S).p w) (k : Ext w w') : (AsRf A B vs S).p w' := ⟨h.1.ext k, h.2.1.ext k, h.2.2.ext k⟩
theorem rf_lim {A B : Option Addr} {vs : List Value} {S : St} {w : World} (h : (AsRf A B vs S).p w) {s : Nat} (hs : s < S.length) : ∃ ad, A = some ad ∧ w.cell? (ad.add s) = some (.int .i64 ((lm S s : Nat) : Int)) := by
  obtain ⟨ad, e, hc⟩ := i64s_at h.1 (k := s) (by rw [limsS_len]; exact hs)
  rw [limsS_get hs] at hc
  exact ⟨ad, e, hc⟩
theorem rf_row {A B : Option Addr} {vs : List Value} {S : St} {w : World} (h : (AsRf A B vs S).p w) {s : Nat} (hs : s < S.length) : ∃ bd C cr, B = some bd ∧ w.cell? (bd.add s) = some (.slice C (wt S s).length cr) ∧ vs[s]? = some (.slice C (wt S s).length cr) ∧ (wt S s).length ≤ cr ∧ Rd w C (u32s (wt S s)) := by
  obtain ⟨v, hv, C, cr, rfl, hcr, hr⟩ := h.2.2.get (j := s) (by rw [rowsS_len]; exact hs)
  rw [rowsS_get hs] at hv hcr hr
  obtain ⟨bd, e, hc⟩ := h.2.1 s _ hv
  exact ⟨bd, C, cr, e, hc, hv, hcr, hr⟩
theorem inB_true {S : St} {i : Int} (h : inS S i) : inB S.length i = true ∧ ∃ s : Nat, i = s ∧ s < S.length := by
  obtain ⟨h0, h1⟩ := h
  exact ⟨decide_eq_true ⟨h0, h1⟩, i.toNat, by omega, by omega⟩
theorem inB_false {S : St} {i : Int} (h : ¬ inS S i) : inB S.length i = false := decide_eq_false h
abbrev rv (A B : Option Addr) (n c d : Nat) : Value := .agg #[.slice A n c, .slice B n d]
theorem rfirst_any {A B : Option Addr} {vs : List Value} {S : St} {c d : Nat} {i : Int} {w : World} (h : (AsRf A B vs S).p w) : Calls Tryz.prog 108 #[rv A B S.length c d, .int .i64 i] w fun e w' => e = .returned (.tuple #[.int .u32 (firstS S i).1, .int .i64 (firstS S i).2]) ∧ Ext w w' := by
  have H := hide h
  have H0 := (Sep.refl No w).newB ((Ext.refl w).alloc (.cells #[.slice A S.length c, .slice B S.length d] 82)) (Blk.new w 82 [.slice A S.length c, .slice B S.length d]) (Nat.le_refl _)
  have HSO := hide (fun (x : World) => some_any (A := A) (B := B) (n := S.length) (c := c) (m := S.length) (d := d) i x)
  clear h
  by_cases hin : inS S i
  · obtain ⟨hb, s, rfl, hs⟩ := inB_true hin
    rw [hb] at HSO
    have hsi : (s : Int) < (S.length : Int) := by omega
    by_cases hne : wt S s = []
    · have HE : Hid (firstS S s = (0, 4)) := hide (by unfold firstS; rw [if_neg (fun h => h hin), if_pos hne])
      have hl0 : (wt S s).length = 0 := by rw [hne]; rfl
      have HL0 := hide hl0
      clear hb hin hne hl0
      go_enter Tryz.func108, Tryz.ntmps108
      obtain ⟨c0, c1, hg0⟩ := cells2 (H0.blk (g := w.heap.size) (e := 82) (cs := [.slice A S.length c, .slice B S.length d]) (List.Mem.head _))
      go_wp2_with fail
      (with_reducible refine (HSO.out _).mono ?_)
      rintro e w1 ⟨rfl, hx1⟩
      have K1 := H0.ext hx1
      clear H0 hx1 c0 c1 hg0
      obtain ⟨c0, c1, hg0⟩ := cells2 (K1.blk (g := w.heap.size) (e := 82) (cs := [.slice A S.length c, .slice B S.length d]) (List.Mem.head _))
      obtain ⟨bd, C, cr, hB, c2, _, _, _⟩ := rf_row (rf_ext H.out K1.toExt) hs
      subst hB
      rw [HL0.out] at c2
      have HX := hide K1.toExt
      clear K1
      go_wp2_with fail
      go_ret2
      exact ⟨by rw [HE.out]; rfl, HX.out⟩
    · obtain ⟨x, HX0⟩ : ∃ x, Hid ((wt S s)[0]'(List.length_pos_iff.2 hne) = x) := ⟨_, hide rfl⟩
      have HE : Hid (firstS S s = (x, 0)) := hide (by
        unfold firstS
        rw [if_neg (fun h => h hin), if_neg hne, List.getD_eq_getElem?_getD, List.getElem?_eq_getElem (List.length_pos_iff.2 hne), ← HX0.out]; rfl)
      have hpos := List.length_pos_iff.2 hne
      have hl0 : (((wt S s).length : Int) == 0) = false := beq_eq_false_iff_ne.2 (by omega)
      have hl1 : (0 : Int) < ((wt S s).length : Int) := by omega
      clear hb hin
      go_enter Tryz.func108, Tryz.ntmps108
      obtain ⟨c0, c1, hg0⟩ := cells2 (H0.blk (g := w.heap.size) (e := 82) (cs := [.slice A S.length c, .slice B S.length d]) (List.Mem.head _))
      go_wp2_with fail
      (with_reducible refine (HSO.out _).mono ?_)
      rintro e w1 ⟨rfl, hx1⟩
      have K1 := H0.ext hx1
      clear H0 hx1 c0 c1 hg0
      obtain ⟨c0, c1, hg0⟩ := cells2 (K1.blk (g := w.heap.size) (e := 82) (cs := [.slice A S.length c, .slice B S.length d]) (List.Mem.head _))
      obtain ⟨bd, C, cr, hB, c2, _, _, hrr⟩ := rf_row (rf_ext H.out K1.toExt) hs
      subst hB
      obtain ⟨cd, hC, c3⟩ := u32s_at hrr (k := 0) hpos
      subst hC
      rw [HX0.out, add0] at c3
      have HX := hide K1.toExt
      clear K1 hrr
      go_wp2_with fail
      go_ret2
      exact ⟨by rw [HE.out]; rfl, HX.out⟩
  · have hb := inB_false hin
    rw [hb] at HSO
    have HE : Hid (firstS S i = (0, 4)) := hide (by unfold firstS; rw [if_pos hin])
    clear hb hin
    go_enter Tryz.func108, Tryz.ntmps108
    obtain ⟨c0, c1, hg0⟩ := cells2 (H0.blk (g := w.heap.size) (e := 82) (cs := [.slice A S.length c, .slice B S.length d]) (List.Mem.head _))
    go_wp2_with fail
    (with_reducible refine (HSO.out _).mono ?_)
    rintro e w1 ⟨rfl, hx1⟩
    have HX := hide (H0.ext hx1).toExt
    clear H0 hx1 c0 c1 hg0
    go_wp2_with fail
    go_ret2
    exact ⟨by rw [HE.out]; rfl, HX.out⟩
theorem place_fnd {S : St} {s : Nat} (hin : inS S s) (o : Int) : placeS S s o = if fnd (wt S s) o + 1 = 0 then (0, 4) else (fnd (wt S s) o + 1, 0) := by
  unfold placeS
  rw [if_neg (fun h => h hin)]
  by_cases ho : o ∈ wt S s
  · rw [if_pos ho, fnd_in ho, if_neg (by omega)]
  · rw [if_neg ho, fnd_out ho, if_pos (by omega)]
theorem rplaceL_any {A B : Option Addr} {vs : List Value} {S : St} {c d : Nat} {i o : Int} {w : World} (h : (AsRf A B vs S).p w) (hok : Ok S) : Calls Tryz.prog 83 #[rv A B S.length c d, .int .i64 i, .int .u32 o] w fun e w' => e = .returned (.tuple #[.int .i64 (placeS S i o).1, .int .i64 (placeS S i o).2]) ∧ Ext w w' := by
  have H := hide h
  have H0 := (Sep.refl No w).newB ((Ext.refl w).alloc (.cells #[.slice A S.length c, .slice B S.length d] 82)) (Blk.new w 82 [.slice A S.length c, .slice B S.length d]) (Nat.le_refl _)
  have HSO := hide (fun (x : World) => some_any (A := A) (B := B) (n := S.length) (c := c) (m := S.length) (d := d) i x)
  clear h
  by_cases hin : inS S i
  · obtain ⟨hb, s, rfl, hs⟩ := inB_true hin
    rw [hb] at HSO
    have hsi : (s : Int) < (S.length : Int) := by omega
    have hw64 : (wt S s).length ≤ 1000000 := by
      have h1 := (hok.get hin).len
      have h2 := (hok.get hin).lim
      simp only at h1 h2
      omega
    obtain ⟨q, HQ⟩ : ∃ q, Hid (fnd (wt S s) o + 1 = q) := ⟨_, hide rfl⟩
    have hpl := place_fnd hin o
    rw [HQ.out] at hpl
    have HPL := hide (fun (x : World) (C : Option Addr) (cr : Nat) (hr : Rd x C (u32s (wt S s))) => rplace_any (wt S s) o C cr x hr hw64)
    rw [HQ.out] at HPL
    by_cases hq : q = 0
    · rw [if_pos hq] at hpl
      have HE := hide hpl
      rw [hq] at HPL
      clear hb hin hpl hq
      go_enter Tryz.func83, Tryz.ntmps83
      obtain ⟨c0, c1, hg0⟩ := cells2 (H0.blk (g := w.heap.size) (e := 82) (cs := [.slice A S.length c, .slice B S.length d]) (List.Mem.head _))
      go_wp2_with fail
      (with_reducible refine (HSO.out _).mono ?_)
      rintro e w1 ⟨rfl, hx1⟩
      have K1 := H0.ext hx1
      clear H0 hx1 c0 c1 hg0
      obtain ⟨c0, c1, hg0⟩ := cells2 (K1.blk (g := w.heap.size) (e := 82) (cs := [.slice A S.length c, .slice B S.length d]) (List.Mem.head _))
      obtain ⟨bd, C, cr, hB, c2, _, _, hrr⟩ := rf_row (rf_ext H.out K1.toExt) hs
      subst hB
      have HRR := hide hrr
      have HX := hide K1.toExt
      clear K1 hrr
      go_wp2_with fail
      (with_reducible refine (HPL.out _ C cr HRR.out).mono ?_)
      rintro e w2 ⟨rfl, rfl⟩
      go_wp2_with fail
      go_ret2
      exact ⟨by rw [HE.out]; rfl, HX.out⟩
    · rw [if_neg hq] at hpl
      have HE := hide hpl
      have hq0 : (q == 0) = false := beq_eq_false_iff_ne.2 hq
      clear hb hin hpl
      go_enter Tryz.func83, Tryz.ntmps83
      obtain ⟨c0, c1, hg0⟩ := cells2 (H0.blk (g := w.heap.size) (e := 82) (cs := [.slice A S.length c, .slice B S.length d]) (List.Mem.head _))
      go_wp2_with fail
      (with_reducible refine (HSO.out _).mono ?_)
      rintro e w1 ⟨rfl, hx1⟩
      have K1 := H0.ext hx1
      clear H0 hx1 c0 c1 hg0
      obtain ⟨c0, c1, hg0⟩ := cells2 (K1.blk (g := w.heap.size) (e := 82) (cs := [.slice A S.length c, .slice B S.length d]) (List.Mem.head _))
      obtain ⟨bd, C, cr, hB, c2, _, _, hrr⟩ := rf_row (rf_ext H.out K1.toExt) hs
      subst hB
      have HRR := hide hrr
      have HX := hide K1.toExt
      clear K1 hrr
      go_wp2_with fail
      (with_reducible refine (HPL.out _ C cr HRR.out).mono ?_)
      rintro e w2 ⟨rfl, rfl⟩
      go_wp2_with fail
      (with_reducible refine (HPL.out _ C cr HRR.out).mono ?_)
      rintro e w2 ⟨rfl, rfl⟩
      go_wp2_with fail
      go_ret2
      exact ⟨by rw [HE.out]; rfl, HX.out⟩
  · have hb := inB_false hin
    rw [hb] at HSO
    have HE : Hid (placeS S i o = (0, 4)) := hide (by unfold placeS; rw [if_pos hin])
    clear hb hin
    go_enter Tryz.func83, Tryz.ntmps83
    obtain ⟨c0, c1, hg0⟩ := cells2 (H0.blk (g := w.heap.size) (e := 82) (cs := [.slice A S.length c, .slice B S.length d]) (List.Mem.head _))
    go_wp2_with fail
    (with_reducible refine (HSO.out _).mono ?_)
    rintro e w1 ⟨rfl, hx1⟩
    have HX := hide (H0.ext hx1).toExt
    clear H0 hx1 c0 c1 hg0
    go_wp2_with fail
    go_ret2
    exact ⟨by rw [HE.out]; rfl, HX.out⟩
end Go.Proofs.YtdmaephmkfmehaaGreatDoor
namespace Go.Proofs.YtdmaephmkfmehaaGreatDoor
open Go.RowKit Go.Gr Go.Wl
set_option linter.unusedVariables false
set_option linter.unusedSimpArgs false
attribute [local go_sem] rdOp rdAt rdUpon Cls forall_fr
/-- lists made of lists: what they hold is old or new -/
def RfTo (c : Nat) (w : World) (A B : Option Addr) (vs : List Value) (S : St) (w' : World) (v : Value) (S' : St) : Prop :=
  ∃ B' vs' d', v = rv A B' S'.length c d' ∧ (AsRf A B' vs' S').p w' ∧ Ext w w' ∧ ∀ k, (AsRf A B' vs' S').fp k → (AsRf A B vs S).fp k ∨ w.heap.size ≤ k
theorem bs0 {G : Nat → Prop} {w0 w : World} {L : List As} (H : Sep G w0 w L) (e : TypeId) : Sep G w0 (w.alloc (.cells #[] e)) (As.own e (.slice (some ⟨w.heap.size, 0, none⟩) 0 0) [] :: L) :=
  Sep.toOwn [] (H.newB ((Ext.refl w).alloc (.cells #[] e)) (Blk.new w e []) (Nat.le_refl _)) (by simp)
theorem one_vals {w : World} {vs : List Value} {rows : List (List Int)} (h : AreRows w vs rows) : ∀ u ∈ vs, u.oneCell' = true := by
  intro u hu
  obtain ⟨j, hj, e⟩ := List.getElem_of_mem hu
  obtain ⟨A, c, e', _⟩ := h.2 j u (rows[j]'(by rw [← h.1]; exact hj)) (by rw [List.getElem?_eq_getElem hj, e]) (List.getElem?_eq_getElem _)
  rw [e']; rfl
theorem refs_one (x y : Value) (hx : x.oneCell' = true) (hy : y.oneCell' = true) : ∀ v ∈ [x, y], v.oneCell' = true := by
  intro v hv
  simp at hv
  rcases hv with rfl | rfl
  · exact hx
  · exact hy
set_option maxRecDepth 100000 in
set_option maxHeartbeats 2000000 in
theorem with_any {A B : Option Addr} {vs : List Value} {S : St} {c d s : Nat} {w : World} (h : (AsRf A B vs S).p w) (hs : s < S.length) (hS8 : S.length ≤ 8) (r : List Int) (C : Option Addr) (cr : Nat) (hr : Rd w C (u32s r)) (hlr : r.length ≤ 1000000) :
    Calls Tryz.prog 109 #[rv A B S.length c d, .int .i64 s, .slice C r.length cr] w fun e w' => ∃ v, e = .returned v ∧ RfTo c w A B vs S w' v (put S s r) := by
  obtain ⟨i39, hi, hz0, hz1, hz2⟩ := info_parts info39
  obtain ⟨i32, ki, kz0, kz1, kz2⟩ := info_parts info32
  have H := hide h
  have HR := hide hr
  have hvl : vs.length = S.length := by rw [h.2.2.1, rowsS_len]
  have HV1 := hide (one_vals h.2.2)
  have HB16 : ([] : List Value).length + (u32s r).length ≤ 1000000000 := by rw [u32s_len, List.length_nil]; omega
  have HB7 : ([] : List Value).length + vs.length ≤ 1000000000 := by rw [hvl, List.length_nil]; omega
  have HL16 : Hid (r.length = (u32s r).length) := hide (u32s_len r).symm
  have hsi : (s : Int) < (S.length : Int) := by omega
  have H0 := (Sep.refl No w).newB ((Ext.refl w).alloc (.cells #[.slice A S.length c, .slice B S.length d] 82)) (Blk.new w 82 [.slice A S.length c, .slice B S.length d]) (Nat.le_refl _)
  clear h hr
  have tok1 : True := trivial
  have tok2 : True := trivial
  have tok3 : True := trivial
  have tok4 : True := trivial
  have tok5 : True := trivial
  have tok6 : True := trivial
  go_enter Tryz.func109, Tryz.ntmps109
  go_upto_region 1 with (have zz := tok1; clear zz tok1; refine wpList_alS H0 rfl 82 rfl [.slice none 0 0, .slice none 0 0] (by kernel_rfl) ?_; intro w1 hz1 K1; clear hz1 H0)
  rw [show (World.alloc w (.cells #[.slice A S.length c, .slice B S.length d] 82)).heap.size = w.heap.size + 1 by simp] at K1
  obtain ⟨g3, G3⟩ : ∃ g, w.heap.size = g := ⟨_, rfl⟩
  rw [G3] at K1 ⊢
  have hG3 := hide G3
  clear G3
  have KN := bs0 K1 47
  obtain ⟨c0, c1, hg0⟩ := cells2 (KN.blk (g := g3) (e := 82) (cs := [.slice A S.length c, .slice B S.length d]) (List.Mem.tail _ (List.Mem.tail _ (List.Mem.head _))))
  have hrv := KN.rdN H.out.2.1
  clear K1
  go_upto_region 2 with (have zz := tok2; clear zz tok2; with_reducible refine wpList_apS [] KN rfl (.tmp 8) (.tmp 10) 25 rfl i39 (.slice none 0 0) 24 Tryz.underlying25 hi hz0 hz1 hz2 rfl rfl (A := B) (m := S.length) (c := d) (news := vs) rfl hvl.symm hrv HV1.out HB7 (by decide) ?_; intro v7 w2 K2; dsimp only [List.nil_append] at K2; clear KN hrv c0 c1 hg0)
  obtain ⟨A7, c7, hv7, _, _, _⟩ := (K2.owns (e := 47) (v := v7) (xs := vs) (List.Mem.head _)).form
  subst hv7
  rw [hvl] at K2 ⊢
  have KN := bs0 K2 41
  have hrr := KN.rdN HR.out
  clear K2
  go_upto_region 3 with (have zz := tok3; clear zz tok3; (with_reducible refine wpList_apS [] KN rfl (.tmp 14) (.tmp 15) 47 rfl i32 (.int .u32 0) 4 Tryz.underlying47 ki kz0 kz1 kz2 rfl rfl (A := C) (m := r.length) (c := cr) (news := u32s r) rfl HL16.out hrr (u32s_one _) HB16 (by decide) ?_); intro v16 w3 K3; dsimp only [List.nil_append] at K3; obtain ⟨C16, c16, hv16, hc16, hr16⟩ := own_row (K3.owns (e := 41) (v := v16) (List.Mem.head _)); subst hv16; obtain ⟨g7, hA7, cc, ff, gg, K4⟩ := Sep.ownSet [_] K3 (i := s) (by rw [hvl]; exact hs) (.slice C16 r.length c16); subst hA7; dsimp only [List.nil_append, List.cons_append] at K4; have HR16 := hide (And.intro hc16 hr16); clear KN hrr hc16 hr16 K3)
  rw [hG3.out]
  go_wp2_with (first
    | (have zz := tok4; clear zz tok4; refine wpList_st1S [_, _, _] K4 rfl 25 (.tmp 19) (.tmp 18) rfl (v := .slice (some ⟨g7, 0, none⟩) S.length c7) rfl rfl (by kernel_rfl) (by simp) rfl ?_; intro w5 K5; dsimp only [List.nil_append, List.cons_append, List.set] at K5; clear K4 cc ff gg)
    | (have zz := tok5; clear zz tok5; refine wpList_ldS K5 (List.Mem.tail _ (List.Mem.tail _ (List.Mem.tail _ (List.Mem.head _)))) rfl 82 (.tmp 3) rfl rfl _ Tryz.underlying82 rfl (by kernel_rfl) ?_)
    | (have zz := tok6; clear zz tok6; refine wpList_stS [_, _] K5 rfl 82 (.tmp 6) (.tmp 20) rfl rfl (cs := [.slice A S.length c, .slice (some ⟨g7, 0, none⟩) S.length c7]) rfl (by kernel_rfl) rfl (refs_one _ _ rfl rfl) ?_; intro w6 K6; dsimp only [List.nil_append, List.cons_append] at K6; clear K5))
  have hp : (AsRf A (some ⟨g7, 0, none⟩) (vs.set s (.slice C16 r.length c16)) (put S s r)).p w6 := by
    refine ⟨?_, ?_, ?_⟩
    · rw [limsS_put hs]; exact K6.rdN H.out.1
    · obtain ⟨A', c', e', hrd, _⟩ := (K6.owns (e := 47) (List.Mem.tail _ (List.Mem.head _))).form
      rw [List.length_set, hvl] at e'
      cases e'
      exact hrd
    · rw [rowsS_put]
      exact (H.out.2.2.ext K6.toExt).set s (own_row (K6.owns (e := 41) (List.Mem.head _)))
  have hf : ∀ k, (AsRf A (some ⟨g7, 0, none⟩) (vs.set s (.slice C16 r.length c16)) (put S s r)).fp k → (AsRf A B vs S).fp k ∨ w.heap.size ≤ k := by
    intro k hk
    rcases hk with hk | ⟨hne, ad, e, rfl⟩ | ⟨ad, n, c', hm, hn, rfl⟩
    · rw [limsS_put hs] at hk
      exact .inl (.inl hk)
    · cases e
      rcases K6.own _ (List.Mem.tail _ (List.Mem.head _)) g7 rfl with h | h
      · exact h.elim
      · exact .inr h
    · rcases List.mem_or_eq_of_mem_set hm with hm | hm
      · exact .inl (.inr (.inr ⟨ad, n, c', hm, hn, rfl⟩))
      · rcases K6.own _ (List.Mem.head _) ad.block (by rw [← hm]; rfl) with h | h
        · exact h.elim
        · exact .inr h
  refine bodyPost_ret (v := rv A (some ⟨g7, 0, none⟩) S.length c c7) (results_cell_row rfl _ _ (g3 + 1) 82 #[.slice A S.length c, .slice (some ⟨g7, 0, none⟩) S.length c7] (0, 0) _ rfl (K6.blk (g := g3 + 1) (e := 82) (List.Mem.tail _ (List.Mem.tail _ (List.Mem.head _)))) Tryz.underlying82 rfl (by kernel_rfl)) rfl ⟨_, rfl, _, _, c7, by rw [put_len], hp, K6.toExt, hf⟩
end Go.Proofs.YtdmaephmkfmehaaGreatDoor
