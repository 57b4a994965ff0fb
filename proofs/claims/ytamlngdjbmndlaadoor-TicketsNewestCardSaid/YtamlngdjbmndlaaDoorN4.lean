/- Tickets: Newest, by the reference. -/
import Derived.Test.YtamlngdjbmndlaaDoorN2
import Derived.Test.YtamlngdjbmndlaaDoorGd
import Derived.Test.YtamlngdjbmndlaaDoorGa
namespace Go.Proofs.YtamlngdjbmndlaaDoor
open Go.RowKit Go.Gr
set_option linter.unusedVariables false
set_option linter.unusedSimpArgs false
attribute [local go_sem] rdOp rdAt rdUpon Cls forall_fr
/-- the places, and the tickets, as values -/
def atV (P : List (Tk × Nat)) : List Value := nV (P.map (·.2))
def rowsV (P : List (Tk × Nat)) : List (List Value) := P.map fun p => tkc p.1.1 p.1.2.1 p.1.2.2.1 p.1.2.2.2
theorem atV_len (P : List (Tk × Nat)) : (atV P).length = P.length := by simp [atV, nV_len]
theorem rowsV_len (P : List (Tk × Nat)) : (rowsV P).length = P.length := by simp [rowsV]
theorem atV_snoc (P : List (Tk × Nat)) (t : Tk) (i : Nat) : atV (P ++ [(t, i)]) = atV P ++ [.int .i64 i] := by simp [atV, nV_snoc]
theorem rowsV_snoc (P : List (Tk × Nat)) (s o n e : Int) (i : Nat) : rowsV (P ++ [((s, o, n, e), i)]) = rowsV P ++ [tkc s o n e] := by simp [rowsV]
theorem rowsV_get {P : List (Tk × Nat)} {k : Nat} {p : Tk × Nat} (h : P[k]? = some p) : (rowsV P)[k]? = some (tkc p.1.1 p.1.2.1 p.1.2.2.1 p.1.2.2.2) := by simp [rowsV, h]
theorem atV_get {P : List (Tk × Nat)} {k : Nat} {p : Tk × Nat} (h : P[k]? = some p) : (atV P)[k]? = some (.int .i64 (p.2 : Int)) := by simp [atV, nV, h]
theorem ownM_at {w : World} {e : TypeId} {k g c n i : Nat} {rows : List (List Value)} {r : List Value} (h : OwnM w e k (.slice (some ⟨g, 0, none⟩) n c) rows) (hk : 0 < k) (hr : rows[i]? = some r) : Gr.At5 w g (i * k) r ∧ n = rows.length := by
  obtain ⟨g', c', hv, _, hat⟩ := h.at5 hk hr
  simp only [Value.slice.injEq, Option.some.injEq, Addr.mk.injEq] at hv
  obtain ⟨⟨rfl, _⟩, hn, _⟩ := hv
  exact ⟨hat, hn⟩
theorem at5_first {w : World} {g off : Nat} {a : Value} {cs : List Value} (h : Gr.At5 w g off (a :: cs)) : w.cell? ⟨g, off, none⟩ = some a := by
  have := h 0 a rfl
  rwa [Nat.add_zero] at this
theorem infoTT : (Tryd.prog.info? 25).map (fun i => (i.zero, i.size, i.bytes)) = some (some (tkv 0 0 0 0), 4, 24) := by kernel_rfl
set_option maxRecDepth 100000 in
set_option maxHeartbeats 2000000 in
theorem rnewest_any (key : List Int) (bs : List (List Int)) (A : Option Addr) (c : Nat) (B : Option Addr) (cb : Nat) (w : World) (hr : Rd w A (byt key)) (hb : isB key) (hc : key.length ≤ c) (hlen : key.length ≤ 100000)
    (hB : Blo w B bs) (hcb : bs.length ≤ cb) (hn : bs.length ≤ 1000000) :
    Calls Tryd.prog 22 #[.slice A key.length c, .slice B bs.length cb] w fun e w' => ∃ v, e = .returned (.tuple #[v, .int .i64 (newE key bs)]) ∧ Sep No w w' [As.own 3 v ((newV key bs).map (Value.int .i64))] := by
  have HR := hide hr
  have HB := hide hb
  have HBL := hide hB
  have HKY := hide (fun (x : World) => tkey_any key A c x)
  clear hr hb hB
  by_cases hk : keyOk key
  rotate_left
  · rw [if_neg hk] at HKY
    have HE : Hid (newE key bs = 2) := hide (by unfold newE; rw [if_neg hk])
    have HV : Hid (newV key bs = []) := hide (by unfold newV; rw [if_neg (by rw [HE.out]; decide)])
    clear hk
    go_enter Tryd.func22, Tryd.ntmps22
    go_wp2_with fail
    (with_reducible refine (HKY.out _).mono ?_)
    rintro e w2 ⟨rfl, rfl⟩
    go_wp2_with fail
    go_ret2
    exact ⟨.slice none 0 0, by rw [HE.out]; rfl, by rw [HV.out]; exact (Sep.refl No w).nilO _⟩
  rw [if_pos hk] at HKY
  by_cases h200 : bs.length ≤ 200
  rotate_left
  · have HE : Hid (newE key bs = 3) := hide (by unfold newE; rw [if_pos hk, if_neg h200])
    have HV : Hid (newV key bs = []) := hide (by unfold newV; rw [if_neg (by rw [HE.out]; decide)])
    have d : (200 : Int) < (bs.length : Int) := by omega
    clear hk h200
    go_enter Tryd.func22, Tryd.ntmps22
    go_wp2_with fail
    (with_reducible refine (HKY.out _).mono ?_)
    rintro e w2 ⟨rfl, rfl⟩
    go_wp2_with fail
    go_ret2
    exact ⟨.slice none 0 0, by rw [HE.out]; rfl, by rw [HV.out]; exact (Sep.refl No w).nilO _⟩
  have HE : Hid (newE key bs = 0) := hide (by unfold newE; rw [if_pos hk, if_pos h200])
  have HV : Hid (newV key bs = (newL (opns key bs)).map (fun n : Nat => (n : Int))) := hide (by unfold newV; rw [if_pos HE.out])
  have d : ¬ (200 : Int) < (bs.length : Int) := by omega
  have K0 := ((Sep.refl No w).nilM 25 4).nilO 3
  clear hk
  go_enter Tryd.func22, Tryd.ntmps22
  go_wp2_with fail
  (with_reducible refine (HKY.out _).mono ?_)
  rintro e w2 ⟨rfl, rfl⟩
  go_wp2_with fail
  have tok1 : True := trivial
  have tok2 : True := trivial
  have tok3 : True := trivial
  have tok4 : True := trivial
  have tok5 : True := trivial
  have tok6 : True := trivial
  obtain ⟨i0, hii, hz0, hz1, hz2⟩ := info_parts infoI
  obtain ⟨j0, jii, jz0, jz1, jz2⟩ := info_parts infoTT
  go_loopw [7, 8, 9] (fun v7 v8 v9 wr => ∃ (i : Nat), v9 = .int .i64 i ∧ i ≤ bs.length ∧ Sep No w wr [As.own 3 v8 (atV (opsTo (opns key bs) i)), As.ownM 25 4 v7 (rowsV (opsTo (opns key bs) i))]) (fun _ _ v9 _ => bs.length - (intOf v9).toNat)
  case atStart => exact ⟨0, rfl, by omega, K0⟩
  case round =>
    clear K0
    obtain ⟨i, rfl, hi, HS⟩ := hrel
    by_cases hin : i < bs.length
    rotate_left
    · have hie : i = bs.length := by omega
      obtain ⟨P, hP⟩ : ∃ P, opsTo (opns key bs) i = P := ⟨_, rfl⟩
      have HPE : Hid (outTo P P.length = newL (opns key bs)) := hide (by rw [← hP, hie, ← opns_len key bs]; exact outTo_end _)
      have HTB : Hid (∀ p, p ∈ P → TiB p.1.1 p.1.2.1 p.1.2.2.1 p.1.2.2.2) := hide (fun p hp => by
        rw [← hP] at hp
        obtain ⟨_, h2⟩ := opsTo_mem.1 hp
        unfold opns at h2
        rw [List.getElem?_map] at h2
        rcases hb : bs[p.2]? with _ | b
        · rw [hb] at h2; cases h2
        · rw [hb] at h2
          simp only [Option.map_some, Option.some.injEq] at h2
          obtain ⟨_, _, _, _, _, _, _, _, hbb, _⟩ := HBL.out p.2 b hb
          exact (opn_ok hbb h2).1)
      have HPS : Hid (P.Pairwise fun a b => a.2 < b.2) := hide (by rw [← hP]; exact opsTo_sorted _ _)
      have hPl : P.length ≤ 200 := by rw [← hP]; exact Nat.le_trans (opsTo_len _ _) (by omega)
      rw [hP] at HS
      clear hP hin jii jz0 jz1 jz2
      have hcb1 : ¬ (i : Int) < (bs.length : Int) := by omega
      clear hie
      obtain ⟨A7, c7, hv7, -, hc7, -⟩ := (HS.ownsM (e := 25) (k := 4) (v := u7) (rows := rowsV P) (List.Mem.tail _ (List.Mem.head _))).form
      rw [rowsV_len] at hv7 hc7
      subst hv7
      obtain ⟨A8, c8, hv8, -, hc8, -⟩ := (HS.owns (e := 3) (v := u8) (xs := atV P) (List.Mem.head _)).form
      rw [atV_len] at hv8 hc8
      subst hv8
      have K2 := HS.nilO 3
      clear HS
      go_wp2_with fail
      go_loopw [12, 13] (fun v12 v13 wx => ∃ (k : Nat), v13 = .int .i64 k ∧ k ≤ P.length ∧ Sep No w wx [As.own 3 v12 (nV (outTo P k)), As.own 3 (.slice A8 P.length c8) (atV P), As.ownM 25 4 (.slice A7 P.length c7) (rowsV P)]) (fun _ v13 _ => P.length - (intOf v13).toNat)
      case atStart => exact ⟨0, rfl, by omega, K2⟩
      case round =>
        clear K2
        obtain ⟨k, rfl, hk, HS⟩ := hrel
        by_cases hkp : k < P.length
        rotate_left
        · have hkl : k = P.length := by omega
          have hcb2 : ¬ (k : Int) < (P.length : Int) := by omega
          have K3 := hide (HS.sub (List.Sublist.cons_cons _ (List.nil_sublist _)))
          rw [hkl, HPE.out] at K3
          clear HS hkl HPE HPS
          go_wp2_with fail
          go_ret2
          exact ⟨_, by rw [HE.out]; rfl, by rw [HV.out]; exact K3.out⟩
        · obtain ⟨p, hp⟩ : ∃ p, P[k]? = some p := ⟨_, List.getElem?_eq_getElem hkp⟩
          obtain ⟨⟨s1, o1, n1, e1⟩, m⟩ := p
          obtain ⟨g7, c7', hv, -, hat⟩ := (HS.ownsM (e := 25) (k := 4) (v := .slice A7 P.length c7) (rows := rowsV P) (List.Mem.tail _ (List.Mem.tail _ (List.Mem.head _)))).at5 (by decide) (rowsV_get hp)
          simp only [Value.slice.injEq] at hv
          obtain ⟨hA, -⟩ := hv
          subst hA
          have hcb2 : (k : Int) < (P.length : Int) := by omega
          have HP := hide hp
          have K3 := hide HS
          clear hkp hp hat HS
          go_wp2_with fail
          go_loopw [14, 15] (fun v14 v15 wy => ∃ (i : Nat), v15 = .int .i64 i ∧ v14 = .bool (nwB (P.take i) ((s1, o1, n1, e1), m)) ∧ i ≤ P.length ∧ Sep No w wy [As.own 3 u12 (nV (outTo P k)), As.own 3 (.slice A8 P.length c8) (atV P), As.ownM 25 4 (.slice (some ⟨g7, 0, none⟩) P.length c7) (rowsV P)]) (fun _ v15 _ => P.length - (intOf v15).toNat)
          case atStart => exact ⟨0, rfl, rfl, by omega, K3.out⟩
          case round =>
            clear K3
            obtain ⟨j, rfl, rfl, hj, HS⟩ := hrel
            by_cases hjp : j < P.length
            rotate_left
            · have hjl : j = P.length := by omega
              have hcb3 : ¬ (j : Int) < (P.length : Int) := by omega
              rcases hnb : nwB P ((s1, o1, n1, e1), m) with _ | _
              · have K4 := hide HS
                have HO := hide (outTo_no HP.out hnb)
                rw [hjl, List.take_length, hnb]
                clear HS hjl hnb
                go_wp2_with fail
                go_roundw
                case rel => exact ⟨k + 1, by go_num, by omega, by rw [HO.out]; exact K4.out⟩
                case measure => simp [intOf]; omega
              · have HO := hide (outTo_yes HP.out hnb)
                have hol : (nV (outTo P k)).length < 1000000000 := by
                  have := outTo_len P k
                  rw [nV_len]; omega
                have HOL := hide hol
                rw [hjl, List.take_length, hnb]
                obtain ⟨g8, hA8, hcell, _, hg8, _⟩ := HS.ownSet [_] (i := k) (by rw [atV_len]; omega) undef
                have hcell2 := hcell.trans (List.getElem?_eq_getElem (by rw [atV_len]; omega : k < (atV P).length)).symm
                rw [atV_get HP.out] at hcell2
                subst hA8
                have K4 := hide HS
                clear HS hjl hnb hol hcell
                dsimp only at hcell2
                go_wp2_with (have zz := tok5; clear zz tok5; refine wpList_pushS [] K4.out rfl (.tmp 100) (.tmp 105) 48 rfl i0 (.int .i64 0) 8 Tryd.underlying48 hii hz0 hz1 hz2 rfl rfl rfl rfl HOL.out (by omega) ?_; intro v5 w5 K5; dsimp only [List.nil_append, List.cons_append] at K5; clear K4)
                clear hcell2
                go_roundw
                case rel => exact ⟨k + 1, by go_num, by omega, by rw [HO.out, nV_snoc]; exact K5⟩
                case measure => simp [intOf]; omega
            · obtain ⟨q, hq⟩ : ∃ q, P[j]? = some q := ⟨_, List.getElem?_eq_getElem hjp⟩
              obtain ⟨⟨s2, o2, n2, e2⟩, m2⟩ := q
              have hcb3 : (j : Int) < (P.length : Int) := by omega
              have HQ := hide hq
              have K4 := hide HS
              clear hjp hq HS
              have hmk := sorted_at HPS.out HP.out HQ.out
              obtain ⟨q, hq⟩ : ∃ q, cmpT (s1, o1, n1, e1) (s2, o2, n2, e2) = q := ⟨_, rfl⟩
              have HCM := hide (fun (x : World) => rtcmp_any s1 o1 n1 e1 s2 o2 n2 e2 x (HTB.out _ (List.mem_of_getElem? HP.out)) (HTB.out _ (List.mem_of_getElem? HQ.out)))
              rw [hq] at HCM
              go_upto_region 22 with fail
              refine wp_region_wm [0, 1, 2, 3, 4, 5, 6, 7, 8, 9] (by kernel_rfl) (by kernel_rfl) (by kernel_rfl) (by kernel_rfl) ?_
              have K5 := hide (K4.out.drew)
              clear K4
              generalize World.drew _ = wd at *
              have x0 := (ownM_at (K5.out.ownsM (e := 25) (k := 4) (v := .slice (some ⟨g7, 0, none⟩) P.length c7) (rows := rowsV P) (List.Mem.tail _ (List.Mem.tail _ (List.Mem.head _)))) (by decide) (rowsV_get HP.out)).1
              have y0 := (ownM_at (K5.out.ownsM (e := 25) (k := 4) (v := .slice (some ⟨g7, 0, none⟩) P.length c7) (rows := rowsV P) (List.Mem.tail _ (List.Mem.tail _ (List.Mem.head _)))) (by decide) (rowsV_get HQ.out)).1
              try dsimp only at x0 y0
              iterate 3 (refine wm_rd rfl rfl (fun K hK => ?_); go_simp; refine hK _ ?_; clear hK K)
              refine wm_ldX rfl rfl 25 (.tmp 68) rfl x0 rfl _ Tryd.underlying25 rfl (by kernel_rfl) ?_
              iterate 3 (refine wm_rd rfl rfl (fun K hK => ?_); go_simp; refine hK _ ?_; clear hK K)
              refine wm_ldX rfl rfl 25 (.tmp 72) rfl y0 rfl _ Tryd.underlying25 rfl (by kernel_rfl) ?_
              clear x0 y0
              refine wm_ext rfl rfl (fun K hK => ?_)
              go_simp
              go_at_call 36
              (with_reducible refine (HCM.out _).mono ?_)
              rintro e w5 ⟨rfl, hx5⟩
              refine hK _ _ hx5 ?_
              clear hK K
              have K6 := hide (K5.out.ext hx5)
              clear K5 hx5 HCM
              (refine wm_rd rfl rfl (fun K hK => ?_); go_simp; refine hK _ ?_; clear hK K)
              refine wm_nil ?_
              go_upto_region 23 with fail
              generalize hwx : w5 = wz at *
              clear hwx
              by_cases hs : s1 = s2
              rotate_left
              · have d1 : (s1 == s2) = false := beq_eq_false_iff_ne.2 hs
                have HLO0 : Hid (¬ s1 = s2) := hide hs
                clear hs
                have HLO : Hid (loB ((s1, o1, n1, e1), m) ((s2, o2, n2, e2), m2) = false) := hide (by
                  unfold loB
                  dsimp only
                  rw [hq]
                  rw [decide_eq_false HLO0.out, Bool.false_and])
                clear hmk hq
                refine wp_region_wm [0, 1, 2, 3, 4, 5, 6, 7, 8, 9, 10, 11, 12, 13, 14, 15, 16, 17, 18, 19, 20, 21, 22, 23] (by kernel_rfl) (by kernel_rfl) (by kernel_rfl) (by kernel_rfl) ?_
                have K7 := hide (K6.out.drew)
                clear K6
                generalize World.drew _ = wd at *
                have x0 := at5_first (ownM_at (K7.out.ownsM (e := 25) (k := 4) (v := .slice (some ⟨g7, 0, none⟩) P.length c7) (rows := rowsV P) (List.Mem.tail _ (List.Mem.tail _ (List.Mem.head _)))) (by decide) (rowsV_get HP.out)).1
                have y0 := at5_first (ownM_at (K7.out.ownsM (e := 25) (k := 4) (v := .slice (some ⟨g7, 0, none⟩) P.length c7) (rows := rowsV P) (List.Mem.tail _ (List.Mem.tail _ (List.Mem.head _)))) (by decide) (rowsV_get HQ.out)).1
                try dsimp only at x0 y0
                iterate 4 (refine wm_rd rfl rfl (fun K hK => ?_); go_simp; refine hK _ ?_; clear hK K)
                refine wm_ld1 rfl rfl 22 (.tmp 78) rfl rfl x0 _ Tryd.underlying22 rfl ?_
                iterate 4 (refine wm_rd rfl rfl (fun K hK => ?_); go_simp; refine hK _ ?_; clear hK K)
                refine wm_ld1 rfl rfl 22 (.tmp 83) rfl rfl y0 _ Tryd.underlying22 rfl ?_
                clear x0 y0
                iterate 14 (refine wm_rd rfl rfl (fun K hK => ?_); go_simp; refine hK _ ?_; clear hK K)
                refine wm_nil ?_
                go_wp2_with fail
                try go_frame
                go_roundw
                case rel => exact ⟨j + 1, by go_num, by rw [nwB_step HQ.out, HLO.out]; simp, by omega, K7.out⟩
                case measure => simp [intOf]; omega
              have d1 : (s1 == s2) = true := beq_iff_eq.2 hs
              have HS1 := hide hs
              clear hs
              by_cases hq1 : q < 0
              · have HQ1 := hide hq1
                have HLO : Hid (loB ((s1, o1, n1, e1), m) ((s2, o2, n2, e2), m2) = true) := hide (by
                  unfold loB
                  dsimp only
                  rw [hq]
                  rw [decide_eq_true HS1.out, decide_eq_true HQ1.out]; rfl)
                clear hmk hq
                refine wp_region_wm [0, 1, 2, 3, 4, 5, 6, 7, 8, 9, 10, 11, 12, 13, 14, 15, 16, 17, 18, 19, 20, 21, 22, 23] (by kernel_rfl) (by kernel_rfl) (by kernel_rfl) (by kernel_rfl) ?_
                have K7 := hide (K6.out.drew)
                clear K6
                generalize World.drew _ = wd at *
                have x0 := at5_first (ownM_at (K7.out.ownsM (e := 25) (k := 4) (v := .slice (some ⟨g7, 0, none⟩) P.length c7) (rows := rowsV P) (List.Mem.tail _ (List.Mem.tail _ (List.Mem.head _)))) (by decide) (rowsV_get HP.out)).1
                have y0 := at5_first (ownM_at (K7.out.ownsM (e := 25) (k := 4) (v := .slice (some ⟨g7, 0, none⟩) P.length c7) (rows := rowsV P) (List.Mem.tail _ (List.Mem.tail _ (List.Mem.head _)))) (by decide) (rowsV_get HQ.out)).1
                try dsimp only at x0 y0
                iterate 4 (refine wm_rd rfl rfl (fun K hK => ?_); go_simp; refine hK _ ?_; clear hK K)
                refine wm_ld1 rfl rfl 22 (.tmp 78) rfl rfl x0 _ Tryd.underlying22 rfl ?_
                iterate 4 (refine wm_rd rfl rfl (fun K hK => ?_); go_simp; refine hK _ ?_; clear hK K)
                refine wm_ld1 rfl rfl 22 (.tmp 83) rfl rfl y0 _ Tryd.underlying22 rfl ?_
                clear x0 y0
                iterate 14 (refine wm_rd rfl rfl (fun K hK => ?_); go_simp; refine hK _ ?_; clear hK K)
                refine wm_nil ?_
                go_wp2_with fail
                try go_frame
                go_roundw
                case rel => exact ⟨j + 1, by go_num, by rw [nwB_step HQ.out, HLO.out]; simp, by omega, K7.out⟩
                case measure => simp [intOf]; omega
              by_cases hq2 : q = 0
              rotate_left
              · have d2 : (q == 0) = false := beq_eq_false_iff_ne.2 hq2
                have HQ1 := hide hq1
                have HQ2 := hide hq2
                clear hq2
                have HLO : Hid (loB ((s1, o1, n1, e1), m) ((s2, o2, n2, e2), m2) = false) := hide (by
                  unfold loB
                  dsimp only
                  rw [hq]
                  rw [decide_eq_false HQ1.out, decide_eq_false HQ2.out]; simp)
                clear hmk hq
                refine wp_region_wm [0, 1, 2, 3, 4, 5, 6, 7, 8, 9, 10, 11, 12, 13, 14, 15, 16, 17, 18, 19, 20, 21, 22, 23] (by kernel_rfl) (by kernel_rfl) (by kernel_rfl) (by kernel_rfl) ?_
                have K7 := hide (K6.out.drew)
                clear K6
                generalize World.drew _ = wd at *
                have x0 := at5_first (ownM_at (K7.out.ownsM (e := 25) (k := 4) (v := .slice (some ⟨g7, 0, none⟩) P.length c7) (rows := rowsV P) (List.Mem.tail _ (List.Mem.tail _ (List.Mem.head _)))) (by decide) (rowsV_get HP.out)).1
                have y0 := at5_first (ownM_at (K7.out.ownsM (e := 25) (k := 4) (v := .slice (some ⟨g7, 0, none⟩) P.length c7) (rows := rowsV P) (List.Mem.tail _ (List.Mem.tail _ (List.Mem.head _)))) (by decide) (rowsV_get HQ.out)).1
                try dsimp only at x0 y0
                iterate 4 (refine wm_rd rfl rfl (fun K hK => ?_); go_simp; refine hK _ ?_; clear hK K)
                refine wm_ld1 rfl rfl 22 (.tmp 78) rfl rfl x0 _ Tryd.underlying22 rfl ?_
                iterate 4 (refine wm_rd rfl rfl (fun K hK => ?_); go_simp; refine hK _ ?_; clear hK K)
                refine wm_ld1 rfl rfl 22 (.tmp 83) rfl rfl y0 _ Tryd.underlying22 rfl ?_
                clear x0 y0
                iterate 14 (refine wm_rd rfl rfl (fun K hK => ?_); go_simp; refine hK _ ?_; clear hK K)
                refine wm_nil ?_
                go_wp2_with fail
                try go_frame
                go_roundw
                case rel => exact ⟨j + 1, by go_num, by rw [nwB_step HQ.out, HLO.out]; simp, by omega, K7.out⟩
                case measure => simp [intOf]; omega
              have d2 : (q == 0) = true := beq_iff_eq.2 hq2
              have HQ1 := hide hq1
              have HQ2 := hide hq2
              clear hq2
              by_cases hjk : j < k
              · have d3 : (j : Int) < (k : Int) := by omega
                have HM := hide (hmk.1 hjk)
                clear hjk
                have HLO : Hid (loB ((s1, o1, n1, e1), m) ((s2, o2, n2, e2), m2) = true) := hide (by
                  unfold loB
                  dsimp only
                  rw [hq]
                  rw [decide_eq_true HS1.out, decide_eq_true HQ2.out, decide_eq_true HM.out]; simp)
                clear hmk hq
                refine wp_region_wm [0, 1, 2, 3, 4, 5, 6, 7, 8, 9, 10, 11, 12, 13, 14, 15, 16, 17, 18, 19, 20, 21, 22, 23] (by kernel_rfl) (by kernel_rfl) (by kernel_rfl) (by kernel_rfl) ?_
                have K7 := hide (K6.out.drew)
                clear K6
                generalize World.drew _ = wd at *
                have x0 := at5_first (ownM_at (K7.out.ownsM (e := 25) (k := 4) (v := .slice (some ⟨g7, 0, none⟩) P.length c7) (rows := rowsV P) (List.Mem.tail _ (List.Mem.tail _ (List.Mem.head _)))) (by decide) (rowsV_get HP.out)).1
                have y0 := at5_first (ownM_at (K7.out.ownsM (e := 25) (k := 4) (v := .slice (some ⟨g7, 0, none⟩) P.length c7) (rows := rowsV P) (List.Mem.tail _ (List.Mem.tail _ (List.Mem.head _)))) (by decide) (rowsV_get HQ.out)).1
                try dsimp only at x0 y0
                iterate 4 (refine wm_rd rfl rfl (fun K hK => ?_); go_simp; refine hK _ ?_; clear hK K)
                refine wm_ld1 rfl rfl 22 (.tmp 78) rfl rfl x0 _ Tryd.underlying22 rfl ?_
                iterate 4 (refine wm_rd rfl rfl (fun K hK => ?_); go_simp; refine hK _ ?_; clear hK K)
                refine wm_ld1 rfl rfl 22 (.tmp 83) rfl rfl y0 _ Tryd.underlying22 rfl ?_
                clear x0 y0
                iterate 14 (refine wm_rd rfl rfl (fun K hK => ?_); go_simp; refine hK _ ?_; clear hK K)
                refine wm_nil ?_
                go_wp2_with fail
                try go_frame
                go_roundw
                case rel => exact ⟨j + 1, by go_num, by rw [nwB_step HQ.out, HLO.out]; simp, by omega, K7.out⟩
                case measure => simp [intOf]; omega
              · have d3 : ¬ (j : Int) < (k : Int) := by omega
                have HM := hide (fun h => hjk (hmk.2 h))
                clear hjk
                have HLO : Hid (loB ((s1, o1, n1, e1), m) ((s2, o2, n2, e2), m2) = false) := hide (by
                  unfold loB
                  dsimp only
                  rw [hq]
                  rw [decide_eq_false HQ1.out, decide_eq_false HM.out]; simp)
                clear hmk hq
                refine wp_region_wm [0, 1, 2, 3, 4, 5, 6, 7, 8, 9, 10, 11, 12, 13, 14, 15, 16, 17, 18, 19, 20, 21, 22, 23] (by kernel_rfl) (by kernel_rfl) (by kernel_rfl) (by kernel_rfl) ?_
                have K7 := hide (K6.out.drew)
                clear K6
                generalize World.drew _ = wd at *
                have x0 := at5_first (ownM_at (K7.out.ownsM (e := 25) (k := 4) (v := .slice (some ⟨g7, 0, none⟩) P.length c7) (rows := rowsV P) (List.Mem.tail _ (List.Mem.tail _ (List.Mem.head _)))) (by decide) (rowsV_get HP.out)).1
                have y0 := at5_first (ownM_at (K7.out.ownsM (e := 25) (k := 4) (v := .slice (some ⟨g7, 0, none⟩) P.length c7) (rows := rowsV P) (List.Mem.tail _ (List.Mem.tail _ (List.Mem.head _)))) (by decide) (rowsV_get HQ.out)).1
                try dsimp only at x0 y0
                iterate 4 (refine wm_rd rfl rfl (fun K hK => ?_); go_simp; refine hK _ ?_; clear hK K)
                refine wm_ld1 rfl rfl 22 (.tmp 78) rfl rfl x0 _ Tryd.underlying22 rfl ?_
                iterate 4 (refine wm_rd rfl rfl (fun K hK => ?_); go_simp; refine hK _ ?_; clear hK K)
                refine wm_ld1 rfl rfl 22 (.tmp 83) rfl rfl y0 _ Tryd.underlying22 rfl ?_
                clear x0 y0
                iterate 14 (refine wm_rd rfl rfl (fun K hK => ?_); go_simp; refine hK _ ?_; clear hK K)
                refine wm_nil ?_
                go_wp2_with fail
                try go_frame
                go_roundw
                case rel => exact ⟨j + 1, by go_num, by rw [nwB_step HQ.out, HLO.out]; simp, by omega, K7.out⟩
                case measure => simp [intOf]; omega
    · obtain ⟨b, hib⟩ : ∃ b, bs[i]? = some b := ⟨_, List.getElem?_eq_getElem hin⟩
      have hlb := opns_get (key := key) hib
      obtain ⟨g, o, Bi, ci, hBe, hcell, hci, hrb, hbb, hb5⟩ := (HBL.out.ext HS.toExt) i b hib
      have HOP := hide (fun (x : World) (h : Ext wr x) => rtopen_any key b A c Bi ci x (HR.out.ext (HS.toExt.trans h)) HB.out hc hlen (hrb.ext h) hbb hci hb5)
      have hg := cell_lt hcell
      dsimp only at hg
      obtain ⟨s1, o1, n1, e1, hV⟩ : ∃ s1 o1 n1 e1, opTV key b = (s1, o1, n1, e1) := ⟨_, _, _, _, rfl⟩
      rw [hV] at HOP
      have K1 := hide HS
      have HLB := hide hlb
      have hcb1 : (i : Int) < (bs.length : Int) := by omega
      subst hBe
      have HBB := hide hbb
      have HOL := opsTo_len (opns key bs) i
      have HL1 : Hid ((atV (opsTo (opns key bs) i)).length < 1000000000) := hide (by rw [atV_len]; omega)
      have HL2 : Hid ((rowsV (opsTo (opns key bs) i)).length < 100000) := hide (by rw [rowsV_len]; omega)
      clear HS hlb hib hrb hbb hin HOL
      go_wp2_with fail
      clear hcell
      (with_reducible refine (HOP.out _ (Ext.refl _)).mono ?_)
      rintro e w3 ⟨rfl, hx3⟩
      have K3 := K1.out.ext hx3
      clear K1 hx3 HOP
      obtain ⟨gt, hgt⟩ : ∃ g, w3.heap.size = g := ⟨_, rfl⟩
      rcases ho : opn key b with _ | t
      · have b1 : (opTE key b == 0) = false := beq_eq_false_iff_ne.2 (opn_no ho)
        rw [ho] at HLB
        have HN2 := hide (opsTo_none HLB.out)
        clear HLB hV ho
        go_wp2_with (first
          | (have zz := tok1; clear zz tok1; refine wpList_alS K3 rfl 25 rfl (tkc 0 0 0 0) (by kernel_rfl) ?_; intro w4 hz4 K4; clear hz4 K3)
          | (have zz := tok2; clear zz tok2; refine wpList_stS [] K4 rfl 25 (.tmp 10) (.tmp 42) rfl rfl (cs := tkc s1 o1 n1 e1) rfl (by kernel_rfl) rfl (tkc_one s1 o1 n1 e1) ?_; intro w5 K5; dsimp only [List.nil_append, List.cons_append] at K5; clear K4))
        go_roundw
        case rel => exact ⟨i + 1, by go_num, by omega, by rw [HN2.out]; exact K5.tail⟩
        case measure => simp [intOf]; omega
      · obtain ⟨hT, he, hv⟩ := opn_ok HBB.out ho
        rw [hV] at hv
        subst hv
        rw [ho] at HLB
        have b1 : (opTE key b == 0) = true := by rw [he]; rfl
        have HN2 := hide (opsTo_some HLB.out)
        clear hV ho he hT HLB
        go_upto_region 12 with (first
          | (have zz := tok1; clear zz tok1; refine wpList_alS K3 rfl 25 rfl (tkc 0 0 0 0) (by kernel_rfl) ?_; intro w4 hz4 K4; clear hz4 K3)
          | (have zz := tok2; clear zz tok2; refine wpList_stS [] K4 rfl 25 (.tmp 10) (.tmp 42) rfl rfl (cs := tkc s1 o1 n1 e1) rfl (by kernel_rfl) rfl (tkc_one s1 o1 n1 e1) ?_; intro w5 K5; dsimp only [List.nil_append, List.cons_append] at K5; clear K4))
        rw [hgt] at K5
        clear hgt
        obtain ⟨c0, c1, c2, c3, cz⟩ := tk4 (K5.blk (g := gt) (e := 25) (List.Mem.head _))
        go_wp2_with (first
          | (have zz := tok3; clear zz tok3; refine wpList_pushM [_, _] K5 rfl (.tmp 46) (.tmp 48) 74 rfl j0 _ 24 Tryd.underlying74 jii jz0 jz1 jz2 rfl (by decide) rfl rfl (r := tkc s1 o1 n1 e1) rfl (tkc_one s1 o1 n1 e1) HL2.out (by decide) ?_; intro v6 w6 K6; dsimp only [List.nil_append, List.cons_append] at K6; clear K5)
          | (have zz := tok4; clear zz tok4; refine wpList_pushS [_] K6 rfl (.tmp 50) (.tmp 52) 48 rfl i0 (.int .i64 0) 8 Tryd.underlying48 hii hz0 hz1 hz2 rfl rfl rfl rfl HL1.out (by omega) ?_; intro v7 w7 K7; dsimp only [List.nil_append, List.cons_append] at K7; clear K6))
        go_roundw
        case rel => exact ⟨i + 1, by go_num, by omega, by rw [HN2.out, atV_snoc, rowsV_snoc]; exact K7.tail⟩
        case measure => simp [intOf]; omega
end Go.Proofs.YtamlngdjbmndlaaDoor
