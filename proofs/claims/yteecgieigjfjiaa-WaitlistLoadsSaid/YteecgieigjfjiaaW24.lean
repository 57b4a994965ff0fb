/- Lists of waiters: the reference's Load. -/
import Derived.Test.YteecgieigjfjiaaW23
namespace Go.Proofs.Yteecgieigjfjiaa
open Go.RowKit Go.Gr Go.Wl
set_option linter.unusedVariables false
set_option linter.unusedSimpArgs false
attribute [local go_sem] rdOp rdAt rdUpon Cls forall_fr
theorem lims_load {l : List Int} {rows : List (List Int)} (h : limE l = 0) (hl : rows.length = l.length) : limsS (loadS l rows) = l := by
  unfold limsS loadS
  rw [List.map_map]
  refine (List.map_congr_left (g := Prod.fst) fun p hp => ?_).trans (List.map_fst_zip (by omega))
  have := (limE_zero h).2.2 p.1 (List.of_mem_zip hp).1
  show ((p.1.toNat : Nat) : Int) = p.1
  omega
theorem rows_load {l : List Int} {rows : List (List Int)} (hl : rows.length = l.length) : rowsS (loadS l rows) = rows := by
  unfold rowsS loadS
  rw [List.map_map]
  exact List.map_snd_zip (by omega)
theorem sep_load {w w' : World} {A' : Option Addr} {c' g : Nat} {vs : List Value} {l : List Int} {rows : List (List Int)} {S : St} (h1 : limsS S = l) (h2 : rowsS S = rows) (H : Sep No w w' [AsIn vs rows, As.own 3 (.slice A' l.length c') (i64s l), As.blk g 39 vs]) : Sep No w w' [AsRf A' (some ⟨g, 0, none⟩) vs S] := by
  subst h1 h2
  obtain ⟨A, c, e', hr, _⟩ := (H.owns (e := 3) (List.Mem.tail _ (List.Mem.head _))).form
  rw [i64s_len] at e'
  cases e'
  have H1 := (H.rot).weak [] (B := As.rd A' (i64s (limsS S))) (fun _ => hr) (fun i ⟨hne, ad, e, hi⟩ => by subst e; subst hi; rfl)
  have H2 := Sep.weak [_] H1 (B := As.rd (some ⟨g, 0, none⟩) vs) (fun hb => Blk.rd hb) (fun i ⟨hne, ad, e, hi⟩ => by cases e; subst hi; rfl)
  dsimp only [List.nil_append, List.cons_append] at H2
  have H3 := (sep_rows H2.rot).swap
  exact H3.merge (C := AsRf A' (some ⟨g, 0, none⟩) vs S) (fun ha hb => ⟨ha, hb⟩) (fun i hi => hi)
def RLdQ (l : List Int) (rows : List (List Int)) (w : World) (e : Ending) (w' : World) : Prop :=
  ((loadE l rows).2 = 0 → ∃ A' c' B' d' vs, e = .returned (.tuple #[rv A' B' l.length c' d', .int .i64 0, .int .i64 0]) ∧ Sep No w w' [AsRf A' B' vs (loadS l rows)]) ∧ ((loadE l rows).2 ≠ 0 → e = .returned (.tuple #[rv none none 0 0 0, .int .i64 (loadE l rows).1, .int .i64 (loadE l rows).2]) ∧ Ext w w')
theorem rldQ_bad {l : List Int} {rows : List (List Int)} {w w' : World} {a b : Int} (h : loadE l rows = (a, b)) (hb : b ≠ 0) (hx : Ext w w') : RLdQ l rows w (.returned (.tuple #[rv none none 0 0 0, .int .i64 a, .int .i64 b])) w' :=
  ⟨fun h0 => absurd (by rw [h] at h0; exact h0) hb, fun _ => ⟨by rw [h], hx⟩⟩
theorem set_next {vs : List Value} {n i : Nat} (h : vs.length = i) (hi : i < n) (v z : Value) : (vs ++ List.replicate (n - i) z).set i v = (vs ++ [v]) ++ List.replicate (n - (i + 1)) z := by
  subst h
  obtain ⟨m, rfl⟩ : ∃ m, n = vs.length + 1 + m := ⟨n - vs.length - 1, by omega⟩
  rw [show vs.length + 1 + m - vs.length = m + 1 by omega, show vs.length + 1 + m - (vs.length + 1) = m by omega, List.replicate_succ]
  simp
set_option maxRecDepth 100000 in
set_option maxHeartbeats 8000000 in
theorem rload_any (l : List Int) (A : Option Addr) (c : Nat) (rows : List (List Int)) (B : Option Addr) (vs : List Value) (d : Nat) (w : World) (hr : Rd w A (i64s l)) (hB : (AsRows B vs rows).p w) (hlm : l.length ≤ 100000) (hrm : rows.length ≤ 100000) (hrl : ∀ r ∈ rows, r.length ≤ 1000000 ∧ ∀ x ∈ r, 0 ≤ x ∧ x < 4294967296) :
    Calls Try.prog 23 #[.slice A l.length c, .slice B rows.length d] w (RLdQ l rows w) := by
  obtain ⟨i32, ki, kz0, kz1, kz2⟩ := info_parts info32
  have HR := hide hr
  have HB := hide hB
  have HRL := hide hrl
  have HN := hide (fun (y : World) (h : Ext w y) => rnew_own l A c y (hr.ext h) hlm)
  have tok1 : True := trivial
  have tok2 : True := trivial
  have tok3 : True := trivial
  have tok4 : True := trivial
  clear hr hB hrl
  by_cases h0 : limE l = 0
  · have HLIM := hide h0
    by_cases hl : rows.length = l.length
    · have HGO := hide (loadE_go h0 hl)
      have HLE := hide hl
      have e1 : (((rows.length : Nat) : Int) != ((l.length : Nat) : Int)) = false := by rw [hl]; exact bne_self_eq_false _
      clear h0 hl
      go_enter Try.func23, Try.ntmps23
      go_upto_region 1 with (have zz := tok1; clear zz tok1; refine wpList_alS (Sep.refl No w) rfl 45 rfl [.slice none 0 0, .slice none 0 0] (by kernel_rfl) ?_; intro w1 hz1 K1; clear hz1)
      obtain ⟨g4, G4⟩ : ∃ g, w.heap.size = g := ⟨_, rfl⟩
      rw [G4] at K1 ⊢
      have HG4 := hide G4
      have KK := hide K1
      clear K1 G4
      go_wp2_with fail
      (with_reducible refine (HN.out _ KK.out.toExt).mono ?_)
      rintro e w2 ⟨h2, _⟩
      obtain ⟨A', c', gB, rfl, hS2⟩ := h2 HLIM.out
      have K2 := KK.out.joinW hS2
      have hgB : gB < w2.heap.size := (hS2.blk (g := gB) (e := 39) (List.Mem.tail _ (List.Mem.head _))).lt
      have hwB : w.heap.size ≤ gB := by
        rcases K2.own _ (List.Mem.tail _ (List.Mem.head _)) gB rfl with h | h
        · exact h.elim
        · exact h
      clear KK h2 hS2 HN
      go_upto_region 6 with (first
        | (have zz := tok2; clear zz tok2; refine wpList_alS K2 rfl 45 rfl [.slice none 0 0, .slice none 0 0] (by kernel_rfl) ?_; intro w3 hz3 K3; clear hz3)
        | (have zz := tok3; clear zz tok3; refine wpList_stS [] K3 rfl 45 (.tmp 7) (.tmp 15) rfl rfl (cs := [.slice A' l.length c', .slice (some ⟨gB, 0, none⟩) l.length l.length]) rfl (by kernel_rfl) rfl (refs_one _ _ rfl rfl) ?_; intro w4 K4; dsimp only [List.nil_append] at K4))
      obtain ⟨g7, G7⟩ : ∃ g, w2.heap.size = g := ⟨_, rfl⟩
      rw [G7] at K4 hgB ⊢
      have K9 := hide K4
      clear K4 G7
      go_wp2_with fail
      go_loopw [9] (fun v9 wr => ∃ i : Nat, v9 = .int .i64 i ∧ i ≤ rows.length ∧ Hid (loadE l rows = loadG i ((l.zip rows).drop i)) ∧ Hid (Sep No w wr [As.blk g7 45 [.slice A' l.length c', .slice (some ⟨gB, 0, none⟩) l.length l.length], As.own 3 (.slice A' l.length c') (i64s l), As.blk gB 39 (List.replicate l.length (.slice none 0 0)), As.blk g4 45 [.slice none 0 0, .slice none 0 0]])) (fun v9 _ => rows.length - (intOf v9).toNat)
      case atStart => exact ⟨0, rfl, by omega, HGO, K9⟩
      case round =>
        obtain ⟨i, rfl, hi, HG, HK⟩ := hrel
        clear K9
        by_cases hlt : i < rows.length
        · have hlti : (i : Int) < (rows.length : Int) := by omega
          have hll : i < l.length := by rw [← HLE.out]; exact hlt
          have hlli : (i : Int) < (l.length : Int) := by omega
          obtain ⟨ad, hA, cl0⟩ := i64s_at HR.out hll
          obtain ⟨bd, C, cr, hB, cb0, hrow, hcr⟩ := rowsL_at HB.out hlt
          subst hA hB
          have HCL := hide (fun (z : World) (x : Ext w z) => cellX x cl0)
          have HCB := hide (fun (z : World) (x : Ext w z) => cellX x cb0)
          have hbsz : bd.block < w.heap.size := by have := cell_lt cb0; rwa [add_block] at this

          obtain ⟨hr1, hr2⟩ := HRL.out _ (List.getElem_mem hlt)
          have HGF := hide (loadG_full hll hlt)
          have HGT := hide (loadG_twice hll hlt)
          have HGN := hide (loadG_next hll hlt)
          obtain ⟨n, hn⟩ : ∃ n, l[i] = n := ⟨_, rfl⟩
          obtain ⟨r, hrr⟩ : ∃ r, rows[i] = r := ⟨_, rfl⟩
          rw [hrr] at hrow hcr hr1 hr2
          simp only [hrr, hn] at HGF HGT HGN HCL HCB
          have HRW := hide hrow
          clear hn hrr hrow hr2 cl0 cb0
          go_upto_region 9 with fail
          refine wp_region_wm [0, 1, 2, 3, 4, 5, 6, 7, 8, 9] (by kernel_rfl) (by kernel_rfl) (by kernel_rfl) (by kernel_rfl) ?_
          have H1 := HK.out.drew
          clear HK
          generalize World.drew _ = wd at *
          have CL := hide (HCL.out _ H1.toExt)
          have CB := hide (HCB.out _ H1.toExt)
          have KD := hide H1
          clear H1
          iterate 3 (refine wm_rd rfl rfl (fun K hK => ?_); go_simp; refine hK _ ?_; clear hK K)
          refine wm_ld1 rfl rfl 39 (.tmp 38) rfl rfl CB.out _ Try.underlying39 rfl ?_
          iterate 4 (refine wm_rd rfl rfl (fun K hK => ?_); go_simp; refine hK _ ?_; clear hK K)
          refine wm_ld1 rfl rfl 3 (.tmp 43) rfl rfl CL.out _ Try.underlying3 rfl ?_
          iterate 1 (refine wm_rd rfl rfl (fun K hK => ?_); go_simp; refine hK _ ?_; clear hK K)
          refine wm_nil ?_
          clear CL CB

          by_cases hful : n < (r.length : Int)
          · have HE := hide (HG.out.trans (HGF.out hful))
            have K4 := KD.out
            go_wp2_with (have zz := tok4; clear zz tok4; refine wpList_stS [_, _, _] K4 rfl 45 (.tmp 4) (.tmp 46) rfl rfl (cs := [.slice none 0 0, .slice none 0 0]) rfl (by kernel_rfl) rfl (refs_one _ _ rfl rfl) ?_; intro w5 K5; dsimp only [List.nil_append, List.cons_append] at K5)
            refine bodyPost_ret (v := .tuple #[rv none none 0 0 0, .int .i64 i, .int .i64 5]) (results_ctt rfl _ _ g4 45 [.slice none 0 0, .slice none 0 0] _ rfl (K5.blk (g := g4) (e := 45) (List.Mem.tail _ (List.Mem.tail _ (List.Mem.tail _ (List.Mem.head _))))) Try.underlying45 rfl (by kernel_rfl) rfl rfl) rfl (rldQ_bad HE.out (by decide) K5.toExt)
          · have HF := hide hful
            go_wp2_with fail
            go_loopw [10] (fun v10 wy => ∃ j : Nat, v10 = .int .i64 j ∧ j ≤ r.length ∧ Hid ((r.take j).Nodup) ∧ Hid (Sep No w wy [As.blk g7 45 [.slice A' l.length c', .slice (some ⟨gB, 0, none⟩) l.length l.length], As.own 3 (.slice A' l.length c') (i64s l), As.blk gB 39 (List.replicate l.length (.slice none 0 0)), As.blk g4 45 [.slice none 0 0, .slice none 0 0]])) (fun v10 _ => r.length - (intOf v10).toNat)
            case atStart => exact ⟨0, rfl, by omega, hide (by rw [List.take_zero]; exact List.nodup_nil), KD⟩
            case round =>
              obtain ⟨j, rfl, hj, HND, HK'⟩ := hrel
              clear KD
              have cbw := HCB.out _ HK'.out.toExt
              by_cases hjl : j < r.length
              · have hjli : (j : Int) < (r.length : Int) := by omega
                obtain ⟨cd, hC, co0⟩ := u32s_at HRW.out hjl
                subst hC
                have HND2 := hide (nodup_push hjl HND.out)
                have HNB := hide (nodup_bad hjl)
                have hjc : (j : Int) ≤ (cr : Int) := by omega
                have hc0 : ¬ cr = 0 := by omega
                have HTL : (r.take j).length = j := by rw [List.length_take]; omega
                have HPL := hide (fun (z : World) (x : Ext w z) => by
                  have e := rplace_any (r.take j) r[j] (some cd) cr z (by rw [← u32s_take]; exact (HRW.out.ext x).take_ j) (by rw [HTL]; omega)
                  rw [HTL] at e
                  exact e)
                obtain ⟨o, hoo⟩ : ∃ o, r[j] = o := ⟨_, rfl⟩
                simp only [hoo] at HND2 HNB HPL
                have HCO := hide (fun (z : World) (x : Ext w z) => cellX x co0)
                rw [hoo] at HCO
                obtain ⟨q, hq⟩ : ∃ q, fnd (r.take j) o + 1 = q := ⟨_, rfl⟩
                rw [hq] at HPL
                have HQ := hide hq
                clear hq hoo co0 HTL
                go_upto_region 14 with fail
                clear cbw
                refine wp_region_wm [0, 1, 2, 3, 4, 5, 6, 7, 8, 9, 10, 11, 12, 13, 14] (by kernel_rfl) (by kernel_rfl) (by kernel_rfl) (by kernel_rfl) ?_
                have H1 := HK'.out.drew
                clear HK'
                generalize World.drew _ = wd at *
                have CB := hide (HCB.out _ H1.toExt)
                have CO := hide (HCO.out _ H1.toExt)
                have JP := hide (HPL.out _ H1.toExt)
                have KD' := hide H1
                clear H1
                iterate 3 (refine wm_rd rfl rfl (fun K hK => ?_); go_simp; refine hK _ ?_; clear hK K)
                refine wm_ld1 rfl rfl 39 (.tmp 59) rfl rfl CB.out _ Try.underlying39 rfl ?_
                iterate 5 (refine wm_rd rfl rfl (fun K hK => ?_); go_simp; refine hK _ ?_; clear hK K)
                refine wm_ld1 rfl rfl 39 (.tmp 65) rfl rfl CB.out _ Try.underlying39 rfl ?_
                iterate 2 (refine wm_rd rfl rfl (fun K hK => ?_); go_simp; refine hK _ ?_; clear hK K)
                refine wm_ld1 rfl rfl 23 (.tmp 68) rfl rfl CO.out _ Try.underlying23 rfl ?_
                refine wm_ext rfl rfl (fun K hK => ?_)
                go_simp
                go_at_call 37
                (with_reducible refine JP.out.mono ?_)
                rintro e wz ⟨rfl, rfl⟩
                refine hK _ _ (Ext.refl _) ?_
                clear hK K CB CO JP
                iterate 1 (refine wm_rd rfl rfl (fun K hK => ?_); go_simp; refine hK _ ?_; clear hK K)
                refine wm_nil ?_
                by_cases hin : o ∈ r.take j
                · have hgt : 0 < q := by rw [← HQ.out, fnd_in hin]; omega
                  have HE := hide (HG.out.trans (HGT.out HF.out (HNB.out hin)))
                  clear hin
                  have K4 := KD'.out
                  have tok4 : True := trivial
                  go_wp2_with (have zz := tok4; clear zz tok4; refine wpList_stS [_, _, _] K4 rfl 45 (.tmp 4) (.tmp 72) rfl rfl (cs := [.slice none 0 0, .slice none 0 0]) rfl (by kernel_rfl) rfl (refs_one _ _ rfl rfl) ?_; intro w5 K5; dsimp only [List.nil_append, List.cons_append] at K5)
                  refine bodyPost_ret (v := .tuple #[rv none none 0 0 0, .int .i64 i, .int .i64 8]) (results_ctt rfl _ _ g4 45 [.slice none 0 0, .slice none 0 0] _ rfl (K5.blk (g := g4) (e := 45) (List.Mem.tail _ (List.Mem.tail _ (List.Mem.tail _ (List.Mem.head _))))) Try.underlying45 rfl (by kernel_rfl) rfl rfl) rfl (rldQ_bad HE.out (by decide) K5.toExt)
                · have hgt : ¬ 0 < q := by rw [← HQ.out, fnd_out hin]; omega
                  have HN2 := hide (HND2.out hin)
                  clear hin
                  go_wp2_with fail
                  go_roundw
                  case rel => first | exact ⟨j + 1, by go_num, by omega, HN2, KD'⟩ | exact ⟨j + 1, by omega, HN2, KD'⟩
                  case measure => simp [intOf]; omega
              · obtain rfl : j = r.length := by omega
                have hjli : ¬ ((r.length : Nat) : Int) < (r.length : Int) := by omega
                have HN3 : Hid r.Nodup := hide (by have := HND.out; rwa [List.take_length] at this)
                have HG3 := hide (HG.out.trans (HGN.out HF.out HN3.out))
                go_wp2_with fail
                go_roundw
                case rel => first | exact ⟨i + 1, by go_num, by omega, HG3, HK'⟩ | exact ⟨i + 1, by omega, HG3, HK'⟩
                case measure => simp [intOf]; omega
        · obtain rfl : i = rows.length := by omega
          have hlti : ¬ ((rows.length : Nat) : Int) < (rows.length : Int) := by omega
          have HE := hide (HG.out.trans (loadG_end (by rw [HLE.out]; exact Nat.le_refl _)))
          go_wp2_with fail
          go_loopw [11] (fun v11 wr => ∃ (i : Nat) (vs : List Value), v11 = .int .i64 i ∧ i ≤ rows.length ∧ vs.length = i ∧ Hid (Sep No w wr [AsIn vs (rows.take i), As.blk g7 45 [.slice A' l.length c', .slice (some ⟨gB, 0, none⟩) l.length l.length], As.own 3 (.slice A' l.length c') (i64s l), As.blk gB 39 (vs ++ List.replicate (l.length - i) (Value.slice none 0 0)), As.blk g4 45 [.slice none 0 0, .slice none 0 0]])) (fun v11 _ => rows.length - (intOf v11).toNat)
          case atStart => exact ⟨0, [], rfl, by omega, rfl, hide (by rw [List.take_zero, List.nil_append, Nat.sub_zero]; exact sep_in_nil HK.out)⟩
          case round =>
            obtain ⟨i, vs, rfl, hi, hvl, HK⟩ := hrel
            by_cases hlt : i < rows.length
            · have hlti : (i : Int) < (rows.length : Int) := by omega
              have hll : i < l.length := by rw [← HLE.out]; exact hlt
              have hlli : (i : Int) < (l.length : Int) := by omega
              obtain ⟨ad, hA, cl0⟩ := i64s_at HR.out hll
              obtain ⟨bd, C, cr, hB, cb0, hrow, hcr⟩ := rowsL_at HB.out hlt
              subst hA hB
              have HCL := hide (fun (z : World) (x : Ext w z) => cellX x cl0)
              have HCB := hide (fun (z : World) (x : Ext w z) => cellX x cb0)
              have hbsz : bd.block < w.heap.size := by have := cell_lt cb0; rwa [add_block] at this

              obtain ⟨hr1, hr2⟩ := HRL.out _ (List.getElem_mem hlt)
              have HTK : Hid (rows.take i ++ [rows[i]] = rows.take (i + 1)) := hide (List.take_succ_eq_append_getElem hlt).symm
              have HSN := hide (fun (v : Value) => set_next hvl hll v (Value.slice none 0 0))
              have HIL : Hid (i < (vs ++ List.replicate (l.length - i) (Value.slice none 0 0)).length) := hide (by rw [List.length_append, List.length_replicate]; omega)
              obtain ⟨r, hrr⟩ : ∃ r, rows[i] = r := ⟨_, rfl⟩
              rw [hrr] at hrow hcr hr1 hr2 HCB HTK
              have HRW := hide hrow
              have HRL1 := hide (u32s_len r).symm
              have HRB : Hid (([] : List Value).length + (u32s r).length ≤ 1000000000) := hide (by rw [u32s_len, List.length_nil]; omega)
              clear hrr hrow hr2 cl0 cb0 HCL
              go_upto_region 19 with fail
              refine wp_region_wmr (RT.fr fun k => wr.drew.heap.size ≤ k ∨ k = gB) [0, 1, 2, 4, 5, 6, 7, 3, 8, 9, 10] (by kernel_rfl) (by kernel_rfl) (by kernel_rfl) (by kernel_rfl) ?_
              have H1 := HK.out.drew
              clear HK
              generalize World.drew _ = wd at *
              have hB7 := H1.blk (g := g7) (e := 45) (cs := [.slice A' l.length c', .slice (some ⟨gB, 0, none⟩) l.length l.length]) (List.Mem.tail _ (List.Mem.head _))
              have hg7 := hB7.lt
              have hwsz := H1.fr.size
              have CB := hide (HCB.out _ H1.toExt)
              iterate 1 (refine wmr_rd rfl rfl (fun K hK => ?_); go_simp; refine hK _ ?_; clear hK K)
              refine wmr_ld1 rfl rfl 37 (.tmp 80) rfl rfl (fun w' h' => ((h'.blk hB7 (by omega)).cell 1).trans rfl) _ Try.underlying37 rfl ?_
              iterate 4 (refine wmr_rd rfl rfl (fun K hK => ?_); go_simp; refine hK _ ?_; clear hK K)
              refine wmr_ld1 rfl rfl 39 (.tmp 86) rfl rfl (fun w' h' => h'.cell CB.out (by rw [add_block]; omega)) _ Try.underlying39 rfl ?_
              clear hB7 CB
              refine wmr_ext rfl rfl (fun K hK => ?_)
              go_simp
              refine hK _ _ ((Fr.of_ext ((Ext.refl wd).alloc _)).mono (fun i h => h.elim)) ?_
              clear hK K
              have H2 := bs0 H1 23
              obtain ⟨wb, hwb⟩ : ∃ x, World.alloc wd (.cells #[] 23) = x := ⟨_, rfl⟩
              rw [hwb] at H2 ⊢
              have hszb : wd.heap.size ≤ wb.heap.size := by rw [← hwb]; simp
              clear hwb H1
              refine wmr_ext rfl rfl (fun K hK => ?_)
              rw [if_pos (show Region.wanted _ _ = true from rfl)]
              refine wp_apS [] H2 (.tmp 83) (.tmp 87) 39 rfl i32 (.int .u32 0) 4 Try.underlying39 ki kz0 kz1 kz2 rfl rfl (A := C) (m := r.length) (c := cr) (news := u32s r) rfl HRL1.out (HRW.out.ext H2.toExt) (u32s_one _) HRB.out (by decide) ?_
              intro v13 w4 H3 hf5 hv5
              dsimp only [List.nil_append, List.cons_append] at H3
              refine hK _ _ (hf5.mono (fun j hj => .inl (by cases hj; exact Nat.le_refl _))) ?_
              clear hK K hf5 hv5 H2
              obtain ⟨C16, c16, hv16, hc16, hr16⟩ := own_row (H3.owns (e := 23) (v := v13) (List.Mem.head _))
              subst hv16
              clear hc16 hr16
              iterate 1 (refine wmr_rd rfl rfl (fun K hK => ?_); go_simp; refine hK _ ?_; clear hK K)
              refine wmr_ext rfl rfl (fun K hK => ?_)
              rw [if_pos (show Region.wanted _ _ = true from rfl)]
              refine wp_st1S [_, _, _, _] H3 39 (.tmp 89) (.tmp 88) rfl (v := .slice C16 r.length c16) (i := i) (by first | rfl | simp [Addr.add]) rfl (by kernel_rfl) HIL.out rfl (fun w6 H4 hu4 => hK _ _ ((Fr.of_upd hu4).mono fun k hk => .inr hk) ?_)
              dsimp only [List.nil_append, List.cons_append] at H4
              clear hK K hu4 H3
              refine wmr_nil ?_
              have K4 : Hid (Sep No w w6 [AsIn (vs ++ [.slice C16 r.length c16]) (rows.take (i + 1)), As.blk g7 45 [.slice A' l.length c', .slice (some ⟨gB, 0, none⟩) l.length l.length], As.own 3 (.slice A' l.length c') (i64s l), As.blk gB 39 ((vs ++ [.slice C16 r.length c16]) ++ List.replicate (l.length - (i + 1)) (Value.slice none 0 0)), As.blk g4 45 [.slice none 0 0, .slice none 0 0]]) := hide (by
                have e := sep_in_push H4
                rw [HSN.out, HTK.out] at e
                exact e)
              clear H4
              go_wp2_with fail
              go_roundw
              case rel => first | exact ⟨i + 1, _, by go_num, by omega, by rw [List.length_append, hvl]; rfl, K4⟩ | exact ⟨i + 1, _, by omega, by rw [List.length_append, hvl]; rfl, K4⟩
              case measure => simp [intOf]; omega
            · obtain rfl : i = rows.length := by omega
              have hlti : ¬ ((rows.length : Nat) : Int) < (rows.length : Int) := by omega
              have K4 := HK.out
              rw [List.take_length, HLE.out, Nat.sub_self, List.replicate_zero, List.append_nil] at K4
              have tok5 : True := trivial
              have tok6 : True := trivial
              clear HK
              rw [HLE.out]
              go_wp2_with (first
                | (have zz := tok5; clear zz tok5; refine wpList_ldS K4 (List.Mem.tail _ (List.Mem.head _)) rfl 45 (.tmp 7) rfl rfl _ Try.underlying45 rfl (by kernel_rfl) ?_)
                | (have zz := tok6; clear zz tok6; refine wpList_stS [_, _, _, _] K4 rfl 45 (.tmp 4) (.tmp 90) rfl rfl (cs := [.slice A' l.length c', .slice (some ⟨gB, 0, none⟩) l.length l.length]) rfl (by kernel_rfl) rfl (refs_one _ _ rfl rfl) ?_; intro w6 K6; dsimp only [List.nil_append, List.cons_append] at K6; clear K4))
              refine bodyPost_ret (v := .tuple #[rv A' (some ⟨gB, 0, none⟩) l.length c' l.length, .int .i64 0, .int .i64 0]) (results_ctt rfl _ _ g4 45 [.slice A' l.length c', .slice (some ⟨gB, 0, none⟩) l.length l.length] _ rfl (K6.blk (g := g4) (e := 45) (List.Mem.tail _ (List.Mem.tail _ (List.Mem.tail _ (List.Mem.tail _ (List.Mem.head _)))))) Try.underlying45 rfl (by kernel_rfl) rfl rfl) rfl ⟨fun _ => ⟨_, _, _, _, vs, rfl, sep_load (lims_load HLIM.out HLE.out) (rows_load HLE.out) (K6.sub (List.Sublist.cons_cons _ (List.Sublist.cons _ (List.Sublist.cons_cons _ (List.Sublist.cons_cons _ (List.nil_sublist _))))))⟩, fun h => absurd (by rw [HE.out]) h⟩
    · have HE := hide (loadE_len h0 hl)
      have hli : (((rows.length : Nat) : Int) != ((l.length : Nat) : Int)) = true := bne_iff_ne.2 (by omega)
      clear h0 hl
      go_enter Try.func23, Try.ntmps23
      go_upto_region 1 with (have zz := tok1; clear zz tok1; refine wpList_alS (Sep.refl No w) rfl 45 rfl [.slice none 0 0, .slice none 0 0] (by kernel_rfl) ?_; intro w1 hz1 K1; clear hz1)
      obtain ⟨g4, G4⟩ : ∃ g, w.heap.size = g := ⟨_, rfl⟩
      rw [G4] at K1 ⊢
      have HG4 := hide G4
      have KK := hide K1
      clear K1 G4
      go_wp2_with fail
      (with_reducible refine (HN.out _ KK.out.toExt).mono ?_)
      rintro e w2 ⟨h2, _⟩
      obtain ⟨A', c', gB, rfl, hS2⟩ := h2 HLIM.out
      have K2 := KK.out.joinW hS2
      clear KK h2 hS2 HN
      go_wp2_with (first
        | (have zz := tok2; clear zz tok2; refine wpList_alS K2 rfl 45 rfl [.slice none 0 0, .slice none 0 0] (by kernel_rfl) ?_; intro w3 hz3 K3; clear hz3)
        | (have zz := tok3; clear zz tok3; refine wpList_stS [] K3 rfl 45 (.tmp 7) (.tmp 15) rfl rfl (cs := [.slice A' l.length c', .slice (some ⟨gB, 0, none⟩) l.length l.length]) rfl (by kernel_rfl) rfl (refs_one _ _ rfl rfl) ?_; intro w4 K4; dsimp only [List.nil_append] at K4)
        | (have zz := tok4; clear zz tok4; refine wpList_stS [_, _, _] K4 rfl 45 (.tmp 4) (.tmp 28) rfl rfl (cs := [.slice none 0 0, .slice none 0 0]) rfl (by kernel_rfl) rfl (refs_one _ _ rfl rfl) ?_; intro w5 K5; dsimp only [List.nil_append, List.cons_append] at K5))
      refine bodyPost_ret (v := .tuple #[rv none none 0 0 0, .int .i64 (-1), .int .i64 3]) (results_ctt rfl _ _ g4 45 [.slice none 0 0, .slice none 0 0] _ rfl (K5.blk (g := g4) (e := 45) (List.Mem.tail _ (List.Mem.tail _ (List.Mem.tail _ (List.Mem.head _))))) Try.underlying45 rfl (by kernel_rfl) rfl rfl) rfl (rldQ_bad HE.out (by decide) K5.toExt)
  · have HE := hide (loadE_bad (rows := rows) h0)
    obtain ⟨el, HEL⟩ : ∃ y, Hid (limE l = y) := ⟨_, hide rfl⟩
    have hel : el ≠ 0 := by rw [← HEL.out]; exact h0
    have HLIM := hide h0
    have e1 : (el != 0) = true := bne_iff_ne.2 hel
    have e2 : (el == 0) = false := beq_eq_false_iff_ne.2 hel
    rw [HEL.out] at HE
    clear h0
    go_enter Try.func23, Try.ntmps23
    go_upto_region 1 with (have zz := tok1; clear zz tok1; refine wpList_alS (Sep.refl No w) rfl 45 rfl [.slice none 0 0, .slice none 0 0] (by kernel_rfl) ?_; intro w1 hz1 K1; clear hz1)
    obtain ⟨g4, G4⟩ : ∃ g, w.heap.size = g := ⟨_, rfl⟩
    rw [G4] at K1 ⊢
    have HG4 := hide G4
    have KK := hide K1
    clear K1 G4
    go_wp2_with fail
    (with_reducible refine (HN.out _ KK.out.toExt).mono ?_)
    rintro e w2 ⟨_, h2⟩
    obtain ⟨rfl, hx2⟩ := h2 HLIM.out
    rw [HEL.out]
    have K2 := KK.out.ext hx2
    clear KK h2 hx2 HN
    go_wp2_with (first
      | (have zz := tok2; clear zz tok2; refine wpList_alS K2 rfl 45 rfl [.slice none 0 0, .slice none 0 0] (by kernel_rfl) ?_; intro w3 hz3 K3; clear hz3)
      | (have zz := tok3; clear zz tok3; refine wpList_stS [] K3 rfl 45 (.tmp 7) (.tmp 15) rfl rfl (cs := [.slice none 0 0, .slice none 0 0]) rfl (by kernel_rfl) rfl (refs_one _ _ rfl rfl) ?_; intro w4 K4; dsimp only [List.nil_append] at K4)
      | (have zz := tok4; clear zz tok4; refine wpList_stS [_] K4 rfl 45 (.tmp 4) (.tmp 28) rfl rfl (cs := [.slice none 0 0, .slice none 0 0]) rfl (by kernel_rfl) rfl (refs_one _ _ rfl rfl) ?_; intro w5 K5; dsimp only [List.nil_append, List.cons_append] at K5))
    refine bodyPost_ret (v := .tuple #[rv none none 0 0 0, .int .i64 (-1), .int .i64 el]) (results_ctt rfl _ _ g4 45 [.slice none 0 0, .slice none 0 0] _ rfl (K5.blk (g := g4) (e := 45) (List.Mem.tail _ (List.Mem.head _))) Try.underlying45 rfl (by kernel_rfl) rfl rfl) rfl (rldQ_bad HE.out hel K5.toExt)
end Go.Proofs.Yteecgieigjfjiaa

