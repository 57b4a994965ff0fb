/- Lists of waiters: the functions of lists. -/
import Derived.Test.YteecgieigjfjiaaW9
import Derived.Test.YteecgieigjfjiaaW6
namespace Go.Proofs.Yteecgieigjfjiaa
open Go.RowKit Go.Gr Go.Wl
set_option linter.unusedVariables false
set_option linter.unusedSimpArgs false
attribute [local go_sem] rdOp rdAt rdUpon Cls forall_fr
abbrev pt (g : Nat) : Value := .pointer (some ⟨g, 0, none⟩)
theorem ls_ring {w : World} {g gr : Nat} {R : List Rg} (h : Ls w g gr R) {s : Nat} (hs : s < R.length) : Ring w gr (s * 67) s R R[s] := ⟨h.rg, h.lenR, List.getElem?_eq_getElem hs, rfl, h.rok _ (List.getElem_mem hs)⟩
theorem ls_set {w w' : World} {g gr s : Nat} {R : List Rg} {r r' : Rg} (h : Ls w g gr R) (hs : R[s]? = some r) (hB : Blk w' gr 66 (cellsR (R.set s r'))) (hu : Upd gr w w') (hok : r'.ok) (hlim : r'.lim = r.lim) (hO : Ok (put (stR R) s r'.ws)) :
    Ls w' g gr (R.set s r') ∧ stR (R.set s r') = put (stR R) s r'.ws := by
  have e := stR_set (R := R) hs hlim
  refine ⟨⟨?_, hB, fun x hx => ?_, by rw [e]; exact hO, h.ne⟩, e⟩
  · rw [List.length_set]
    exact (hu.block g h.st.lt (fun e => h.ne (by cases e; rfl))).trans h.st
  · rcases List.mem_or_eq_of_mem_set hx with hx | rfl
    · exact h.rok x hx
    · exact hok
theorem of_nil (i : Int) (w : World) : Calls Try.prog 24 #[.pointer none, .int .i64 i] w fun e w' => e = .returned (.tuple #[.pointer none, .int .i64 1]) ∧ w = w' := by
  go_enter Try.func24, Try.ntmps24
  go_wp2_with fail
  go_ret2
  exact ⟨rfl, rfl⟩
theorem of_none {g : Nat} (i : Int) {w : World} (h : Blk w g 56 [.slice none 0 0]) : Calls Try.prog 24 #[pt g, .int .i64 i] w fun e w' => e = .returned (.tuple #[.pointer none, .int .i64 1]) ∧ w = w' := by
  have c0 : w.cell? ⟨g, 0, none⟩ = some (.slice none 0 0) := h.cell 0
  have hlt := h.lt
  clear h
  go_enter Try.func24, Try.ntmps24
  go_wp2_with fail
  go_ret2
  exact ⟨rfl, rfl⟩
theorem of_in {w : World} {g gr : Nat} {R : List Rg} (h : Ls w g gr R) {s : Nat} (hs : s < R.length) : Calls Try.prog 24 #[pt g, .int .i64 s] w fun e w' => e = .returned (.tuple #[.pointer (some ⟨gr, s * 67, none⟩), .int .i64 0]) ∧ w = w' := by
  have c0 : w.cell? ⟨g, 0, none⟩ = some (.slice (some ⟨gr, 0, none⟩) R.length R.length) := h.st.cell 0
  have hlt := h.st.lt
  have e0 : ((R.length : Int) == 0) = false := beq_eq_false_iff_ne.2 (by omega)
  have d1 : ¬ (s : Int) < 0 := by omega
  have d2 : ¬ (R.length : Int) ≤ (s : Int) := by omega
  have d3 : (s : Int) < (R.length : Int) := by omega
  clear h
  go_enter Try.func24, Try.ntmps24
  go_wp2_with fail
  go_ret2
  exact ⟨rfl, rfl⟩
theorem of_out {w : World} {g gr : Nat} {R : List Rg} (h : Ls w g gr R) {i : Int} (hi : ¬ (0 ≤ i ∧ i < R.length)) : Calls Try.prog 24 #[pt g, .int .i64 i] w fun e w' => e = .returned (.tuple #[.pointer none, .int .i64 4]) ∧ w = w' := by
  have c0 : w.cell? ⟨g, 0, none⟩ = some (.slice (some ⟨gr, 0, none⟩) R.length R.length) := h.st.cell 0
  have hlt := h.st.lt
  have hp := h.ok.pos
  rw [stR_len] at hp
  have e0 : ((R.length : Int) == 0) = false := beq_eq_false_iff_ne.2 (by omega)
  clear h
  by_cases h0 : i < 0
  · go_enter Try.func24, Try.ntmps24
    go_wp2_with fail
    go_ret2
    exact ⟨rfl, rfl⟩
  · have d2 : (R.length : Int) ≤ i := by omega
    clear hi
    go_enter Try.func24, Try.ntmps24
    go_wp2_with fail
    go_ret2
    exact ⟨rfl, rfl⟩
theorem in_stR {R : List Rg} {i : Int} (h : inS (stR R) i) : ∃ s : Nat, i = s ∧ s < R.length := by
  obtain ⟨h0, h1⟩ := h
  rw [stR_len] at h1
  exact ⟨i.toNat, by omega, by omega⟩
theorem out_stR {R : List Rg} {i : Int} (h : ¬ inS (stR R) i) : ¬ (0 ≤ i ∧ i < R.length) := by
  intro hh
  exact h ⟨hh.1, by rw [stR_len]; exact hh.2⟩
theorem len_any {g gr : Nat} {S : St} {i : Int} {w : World} (h : (AsLs g gr S).p w) : Calls Try.prog 20 #[pt g, .int .i64 i] w fun e w' => e = .returned (.tuple #[.int .i64 (lenS S i).1, .int .i64 (lenS S i).2]) ∧ w = w' := by
  obtain ⟨R, h, rfl⟩ := h
  by_cases hin : inS (stR R) i
  · obtain ⟨s, rfl, hs⟩ := in_stR hin
    have HE : Hid (lenS (stR R) s = ((R[s].many : Int), 0)) := hide (by
      unfold lenS
      rw [if_neg (fun h => h hin), (stR_get (List.getElem?_eq_getElem hs)).2, Rg.ws_length])
    have c1 := (ls_ring h hs).many
    have hlt := h.rg.lt
    have HO := hide (of_in h hs)
    clear h hin
    go_enter Try.func20, Try.ntmps20
    go_wp2_with fail
    (with_reducible refine HO.out.mono ?_)
    rintro e w1 ⟨rfl, rfl⟩
    go_wp2_with fail
    go_ret2
    exact ⟨by rw [HE.out]; rfl, rfl⟩
  · have HE : Hid (lenS (stR R) i = (0, 4)) := hide (by unfold lenS; rw [if_pos hin])
    have HO := hide (of_out h (out_stR hin))
    clear h hin
    go_enter Try.func20, Try.ntmps20
    go_wp2_with fail
    (with_reducible refine HO.out.mono ?_)
    rintro e w1 ⟨rfl, rfl⟩
    go_wp2_with fail
    go_ret2
    exact ⟨by rw [HE.out]; rfl, rfl⟩
theorem place_any {g gr : Nat} {S : St} {i o : Int} {w : World} (h : (AsLs g gr S).p w) : Calls Try.prog 14 #[pt g, .int .i64 i, .int .u32 o] w fun e w' => e = .returned (.tuple #[.int .i64 (placeS S i o).1, .int .i64 (placeS S i o).2]) ∧ Ext w w' := by
  obtain ⟨R, h, rfl⟩ := h
  by_cases hin : inS (stR R) i
  · obtain ⟨s, rfl, hs⟩ := in_stR hin
    have hwt := (stR_get (List.getElem?_eq_getElem hs)).2
    have hmy := (ls_ring h hs).many64
    have HO := hide (of_in h hs)
    have HF := hide (find_any (ls_ring h hs) o)
    by_cases ho : o ∈ R[s].ws
    · have HE : Hid (placeS (stR R) s o = ((R[s].ws.idxOf o : Int) + 1, 0)) := hide (by
        unfold placeS
        rw [if_neg (fun h => h hin), hwt, if_pos ho])
      rw [fnd_in ho] at HF
      have hix := idxOf_lt ho
      rw [Rg.ws_length] at hix
      obtain ⟨k, hk⟩ : ∃ k, R[s].ws.idxOf o = k := ⟨_, rfl⟩
      rw [hk] at HE HF hix
      have hneg : ¬ (k : Int) < 0 := by omega
      have hw : IntKind.i64.wrap ((k : Int) + 1) = (k : Int) + 1 := IntWalk.i64_in _ (by omega)
      clear h hin hk ho hwt
      go_enter Try.func14, Try.ntmps14
      go_wp2_with fail
      (with_reducible refine HO.out.mono ?_)
      rintro e w1 ⟨rfl, rfl⟩
      go_wp2_with fail
      (with_reducible refine HF.out.mono ?_)
      rintro e w1 ⟨rfl, hx⟩
      go_wp2_with fail
      go_ret2
      exact ⟨by rw [HE.out]; rfl, hx⟩
    · have HE : Hid (placeS (stR R) s o = (0, 4)) := hide (by
        unfold placeS
        rw [if_neg (fun h => h hin), hwt, if_neg ho])
      rw [fnd_out ho] at HF
      clear h hin ho hwt
      go_enter Try.func14, Try.ntmps14
      go_wp2_with fail
      (with_reducible refine HO.out.mono ?_)
      rintro e w1 ⟨rfl, rfl⟩
      go_wp2_with fail
      (with_reducible refine HF.out.mono ?_)
      rintro e w1 ⟨rfl, hx⟩
      go_wp2_with fail
      go_ret2
      exact ⟨by rw [HE.out]; rfl, hx⟩
  · have HE : Hid (placeS (stR R) i o = (0, 4)) := hide (by unfold placeS; rw [if_pos hin])
    have HO := hide (of_out h (out_stR hin))
    clear h hin
    go_enter Try.func14, Try.ntmps14
    go_wp2_with fail
    (with_reducible refine HO.out.mono ?_)
    rintro e w1 ⟨rfl, rfl⟩
    go_wp2_with fail
    go_ret2
    exact ⟨by rw [HE.out]; rfl, Ext.refl _⟩
theorem first_any {g gr : Nat} {S : St} {i : Int} {w : World} (h : (AsLs g gr S).p w) : Calls Try.prog 21 #[pt g, .int .i64 i] w fun e w' => e = .returned (.tuple #[.int .u32 (firstS S i).1, .int .i64 (firstS S i).2]) ∧ Ext w w' := by
  obtain ⟨R, h, rfl⟩ := h
  by_cases hin : inS (stR R) i
  · obtain ⟨s, rfl, hs⟩ := in_stR hin
    have hwt := (stR_get (List.getElem?_eq_getElem hs)).2
    have HR := hide (ls_ring h hs)
    have HO := hide (of_in h hs)
    have c1 := HR.out.many
    have hlt := HR.out.B.lt
    have hfs := HR.out.ok.fst
    have hfsi : (R[s].first : Int) < 64 := by omega
    by_cases h0 : R[s].many = 0
    · have HE : Hid (firstS (stR R) s = (0, 4)) := hide (by
        unfold firstS
        rw [if_neg (fun h => h hin), hwt, if_pos (by rw [← List.length_eq_zero_iff, Rg.ws_length, h0])])
      have hd : ((R[s].many : Int) == 0) = true := by rw [h0]; rfl
      clear h hin hwt h0
      go_enter Try.func21, Try.ntmps21
      go_wp2_with fail
      (with_reducible refine HO.out.mono ?_)
      rintro e w1 ⟨rfl, rfl⟩
      go_wp2_with fail
      go_ret2
      exact ⟨by rw [HE.out]; rfl, Ext.refl _⟩
    · have hd : ((R[s].many : Int) == 0) = false := beq_eq_false_iff_ne.2 (by omega)
      obtain ⟨x, HX⟩ : ∃ x, Hid (R[s].own.getD R[s].first 0 = x) := ⟨_, hide rfl⟩
      have HE : Hid (firstS (stR R) s = (x, 0)) := hide (by
        unfold firstS
        have e : R[s].at_ 0 = R[s].first := by unfold Rg.at_; omega
        rw [if_neg (fun h => h hin), hwt, if_neg (by rw [← List.length_eq_zero_iff, Rg.ws_length]; exact h0), Rg.ws_getD _ (by omega), e, HX.out])
      have HD := hide (HR.out.ext ((Ext.refl w).drew))
      have c2 := HD.out.first
      have c3 := HD.out.own hfs
      rw [HX.out] at c3
      have hlt2 := HD.out.B.lt
      clear h hin hwt h0
      go_enter Try.func21, Try.ntmps21
      go_wp2_with fail
      (with_reducible refine HO.out.mono ?_)
      rintro e w1 ⟨rfl, rfl⟩
      go_upto_region 6 with fail
      refine wp_region_wm [0, 1, 2, 3, 4, 5, 6, 7, 8, 9, 10] (by kernel_rfl) (by kernel_rfl) (by kernel_rfl) (by kernel_rfl) ?_
      have hx : Ext w w.drew := (Ext.refl w).drew
      generalize w.drew = wd at *
      iterate 4 (refine wm_rd rfl rfl (fun K hK => ?_); go_simp; refine hK _ ?_; clear hK K)
      refine wm_ld1 rfl rfl 3 (.tmp 27) rfl rfl c2 _ Try.underlying3 rfl ?_
      iterate 3 (refine wm_rd rfl rfl (fun K hK => ?_); go_simp; refine hK _ ?_; clear hK K)
      refine wm_ld1 rfl rfl 23 (.tmp 31) rfl rfl c3 _ Try.underlying23 rfl ?_
      iterate 2 (refine wm_rd rfl rfl (fun K hK => ?_); go_simp; refine hK _ ?_; clear hK K)
      refine wm_nil ?_
      go_wp2_with fail
      go_ret2
      exact ⟨by rw [HE.out]; rfl, hx⟩
  · have HE : Hid (firstS (stR R) i = (0, 4)) := hide (by unfold firstS; rw [if_pos hin])
    have HO := hide (of_out h (out_stR hin))
    clear h hin
    go_enter Try.func21, Try.ntmps21
    go_wp2_with fail
    (with_reducible refine HO.out.mono ?_)
    rintro e w1 ⟨rfl, rfl⟩
    go_wp2_with fail
    go_ret2
    exact ⟨by rw [HE.out]; rfl, Ext.refl _⟩
end Go.Proofs.Yteecgieigjfjiaa
