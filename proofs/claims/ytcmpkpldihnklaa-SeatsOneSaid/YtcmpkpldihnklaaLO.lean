/- Seats: the law SeatsOne walked. -/
import Derived.Deep.DeepCutAuto
import Derived.Test.YtcmpkpldihnklaaLA
import Derived.Test.YtcmpkpldihnklaaMonoS

namespace Go.Proofs.Ytcmpkpldihnklaa
open Go.RowKit Go.Gr Go.Seat
set_option linter.unusedVariables false
set_option linter.unusedSimpArgs false
attribute [local go_sem] rdOp rdAt rdUpon Cls forall_fr
theorem at5_1 {w : World} {g off : Nat} {cs : List Value} (h : At5 w g off cs) (j : Nat) {v : Value} (hv : cs[j]? = some v) : w.cell? ⟨g, off + j, none⟩ = some v := h j v hv
set_option maxRecDepth 100000 in
set_option maxHeartbeats 8000000 in
theorem one_law (w : World) (v0 : Value) (h0 : ∃ cs, v0 = .agg cs ∧ Lvs Try.prog w [.int .i64, .int .u32, .int .i64, .int .u64, .int .u64] cs.toList)
    (v1 : Value) (h1 : LfOk Try.prog w (.slice 38) v1) :
    Calls Try.prog 6 #[v0, v1] w fun e w' => e = .returned (.bool true) ∧ Ext w w' := by
  obtain ⟨s, rfl, hs⟩ := seatA h0
  obtain ⟨A, l, c, rfl, hr, hok, hc, hm⟩ := callsA h1
  have HS := hide hs
  have HR := hide hr
  have HK := hide hok
  unfold maxLen at hm
  clear h0 h1 hs hr hok
  by_cases hlen : 100 < l.length
  · have hd : decide ((100 : Int) < (l.length : Int)) = true := by simp; omega
    go_enter Try.func6, Try.ntmps6
    go_wp2_with fail
    (with_reducible refine (awake_any _).mono ?_)
    rintro e w1 ⟨rfl, hx⟩
    go_wp2_with fail
    go_ret
    exact ⟨rfl, ((Ext.refl w).alloc _).trans hx⟩
  · have hd : decide ((100 : Int) < (l.length : Int)) = false := by simp; omega
    have hl100 : l.length ≤ 100 := by omega
    clear hlen
    by_cases hgd : good s
    · have HG := hide (chkg hgd)
      have HGD := hide hgd
      clear hgd
      go_enter Try.func6, Try.ntmps6
      go_wp2_with fail
      (with_reducible refine (check_any _ _).mono ?_)
      rintro e w0 ⟨rfl, hx0⟩
      rw [HG.out]
      have H0 := ((((Sep.refl No w).add 26 (sc s)).ext hx0).nilM 28 4).swap
      clear hx0
      obtain ⟨b0, b1, b2, b3, b4, bf, bz⟩ := cells5 (H0.blk (g := w.heap.size) (List.Mem.head _))
      have K0 := hide H0
      clear H0
      go_wp2_with fail
      clear hd
      (with_reducible refine (tickets_any s [] (.slice none 0 0) _ (K0.out.ownsM (List.Mem.tail _ (List.Mem.head _))) (by decide)).mono ?_)
      rintro e w1 ⟨v1, rfl, hO, hG⟩
      have H1 := Sep.grewM [As.blk w.heap.size 26 (sc s)] K0.out hG hO
      dsimp only [List.nil_append, List.cons_append] at H1
      clear K0 hO hG b0 b1 b2 b3 b4 bf bz
      have HI0 : Hid (s.ok ∧ good s ∧ Inv s (ticketsS s []) ∧ (ticketsS s []).length ≤ 0 + 1) := hide ⟨HS.out, HGD.out, (Mid.start s).tick HGD.out, by have := ticketsS_len s []; simpa using this⟩
      go_wp2_with fail
      go_loopw [5, 6] (fun v i wr => ∃ (k : Nat) (s' : Se) (old : List Ti), i = .int .i64 k ∧ k ≤ l.length ∧ Hid (s'.ok ∧ good s' ∧ Inv s' old ∧ old.length ≤ k + 1) ∧ Sep No w wr [As.blk w.heap.size 26 (sc s'), As.ownM 28 4 v (old.map tc)]) (fun _ i _ => l.length - (intOf i).toNat)
      case atStart => exact ⟨0, s, ticketsS s [], rfl, by omega, HI0, H1⟩
      case round =>
        obtain ⟨k, s', old, rfl, hk, HI, H⟩ := hrel
        by_cases hlt : k < l.length
        · have hrow : (l.map xc)[k]? = some (xc l[k]) := by rw [List.getElem?_map, List.getElem?_eq_getElem hlt]; rfl
          obtain ⟨g, off, rfl, h5⟩ := HR.out.at5 (fun r hr => by obtain ⟨t, _, rfl⟩ := List.mem_map.1 hr; simp) hrow
          have H5 := hide h5
          have HX := hide (HK.out _ (List.getElem_mem hlt))
          obtain ⟨x, HXE⟩ : ∃ x, Hid (l[k] = x) := ⟨_, hide rfl⟩
          rw [HXE.out] at H5 HX
          have hold := HI.out.2.2.2
          have HSO := hide HI.out.1
          clear h5 hrow
          have K1 := hide H
          clear H
          obtain ⟨t, HT⟩ : ∃ t, Hid (withS x old = t) := ⟨_, hide rfl⟩
          obtain ⟨n, HRR⟩ : ∃ n, Hid ((doneS s' x t).1 = n) := ⟨_, hide rfl⟩
          have HN : Hid (n.ok ∧ good n ∧ Mid n old) := hide (by rw [← HRR.out]; exact ⟨done_ok HSO.out HX.out, done_good HI.out.2.1, HI.out.2.2.1.done x t⟩)
          clear HI
          go_upto_region 7 with fail
          refine wp_region_ws (RT.fr No) 15 [0, 1, 2, 3, 4, 5, 6, 7, 8, 9, 10, 11, 12, 13, 14, 15] (by kernel_rfl) (by kernel_rfl) (by kernel_rfl) (by kernel_rfl) ?_
          have H2 := K1.out.drew
          generalize wr.drew = wd at *
          have hB1 := (H2.blk (g := w.heap.size) (e := 26) (cs := sc s') (List.Mem.head _))
          have HO := hide (H2.ownsM (e := 28) (k := 4) (v := u5) (rows := old.map tc) (List.Mem.tail _ (List.Mem.head _)))
          refine ws_ldX rfl rfl (by kernel_rfl) rfl 26 (.tmp 2) rfl (fun w' h' => hB1.at5.ext h'.ext) rfl _ Try.underlying26 rfl (by kernel_rfl) ?_
          iterate 3 (refine ws_pure rfl rfl rfl (fun K hK => ?_); go_simp; refine hK _ ?_; clear hK K)
          refine ws_ldX rfl rfl (by kernel_rfl) rfl 38 (.tmp 30) rfl (fun w' h' => (H5.out.ext H2.toExt).ext h'.ext) rfl _ Try.underlying38 rfl (by kernel_rfl) ?_
          iterate 3 (refine ws_pure rfl rfl rfl (fun K hK => ?_); go_simp; refine hK _ ?_; clear hK K)
          refine ws_ldX rfl rfl (by kernel_rfl) rfl 38 (.tmp 34) rfl (fun w' h' => (H5.out.ext H2.toExt).ext h'.ext) rfl _ Try.underlying38 rfl (by kernel_rfl) ?_
          iterate 1 (refine ws_pure rfl rfl rfl (fun K hK => ?_); go_simp; refine hK _ ?_; clear hK K)
          refine ws_ext rfl rfl rfl (fun K hK => ?_)
          go_simp
          go_at_call 20
          (with_reducible refine (with_any x old _ _ HX.out HO.out (by omega)).mono ?_)
          rintro e wa ⟨rfl, hxa⟩
          rw [HT.out]
          refine hK _ _ (Fr.of_ext hxa) ?_
          clear hK K
          have H3 := H2.ext hxa
          clear H2 hxa hB1 HO
          refine ws_ext rfl rfl rfl (fun K hK => ?_)
          go_simp
          go_at_call 15
          (with_reducible refine (done_any s' x t _ HSO.out HX.out).mono ?_)
          rintro e wb ⟨rfl, hxb⟩
          rw [HRR.out]
          refine hK _ _ (Fr.of_ext hxb) ?_
          clear hK K
          have H4 := H3.ext hxb
          clear H3 hxb
          iterate 3 (refine ws_pure rfl rfl rfl (fun K hK => ?_); go_simp; refine hK _ ?_; clear hK K)
          refine ws_at rfl (fun K hK => ?_)
          rw [if_pos (show Region.wanted _ _ = true from rfl)]
          refine wp_stS [] H4 26 (.tmp 2) (.tmp 39) rfl (cs := sc n) rfl rfl (by kernel_rfl) rfl (by simp [Value.oneCell']) (fun w4 H6 hu4 => ?_)
          refine hK _ _ ?_
          clear hK K hu4 H4 K1
          dsimp only [List.nil_append, List.cons_append] at H6
          refine wmr_nil ?_
          obtain ⟨b0, b1, b2, b3, b4, bf, bz⟩ := cells5 (H6.blk (g := w.heap.size) (List.Mem.head _))
          have K6 := hide H6
          clear H6
          go_wp2_with fail
          (with_reducible refine (tickets_any n old u5 _ (K6.out.ownsM (v := u5) (List.Mem.tail _ (List.Mem.head _))) (by omega)).mono ?_)
          rintro e w6 ⟨v', rfl, hO, hG⟩
          obtain ⟨A', c', rfl, hc', hA', hcell'⟩ := OwnT.form hO
          have H7 := Sep.grewM [As.blk w.heap.size 26 (sc n)] K6.out hG hO
          dsimp only [List.nil_append, List.cons_append] at H7
          have hlen' := ticketsS_len n old
          have HV := hide (HN.out.2.2.tick HN.out.2.1)
          obtain ⟨od, HOD⟩ : ∃ od, Hid (ticketsS n old = od) := ⟨_, hide rfl⟩
          rw [HOD.out] at H7 HV hlen' ⊢
          clear hG K6 b0 b1 b2 b3 b4 bf bz hA' hcell' hO hc'
          have K7 := hide H7
          clear H7
          go_wp2_with fail
          have HGn := hide HN.out.2.1
          have HOn := hide HN.out.1
          go_loopw [7, 8] (fun vv jj wr => ∃ j : Nat, jj = .int .i64 j ∧ j ≤ od.length ∧ vv = .int .i64 (vc n od j) ∧ Sep No w wr [As.blk w.heap.size 26 (sc n), As.ownM 28 4 (.slice A' od.length c') (od.map tc)]) (fun _ jj _ => od.length - (intOf jj).toNat)
          case atStart => exact ⟨0, rfl, by omega, by rw [vc_0 HV.out], K7.out⟩
          case round =>
            obtain ⟨j, rfl, hj, rfl, H⟩ := hrel
            clear K7
            by_cases hjl : j < od.length
            · have hrow2 : (od.map tc)[j]? = some (tc od[j]) := by rw [List.getElem?_map, List.getElem?_eq_getElem hjl]; rfl
              obtain ⟨g2, c2, hv2, hc2, h52⟩ := OwnM.at5 (H.ownsM (e := 28) (k := 4) (v := .slice A' od.length c') (rows := od.map tc) (List.Mem.tail _ (List.Mem.head _))) (by decide) hrow2
              rw [List.length_map] at hv2 hc2
              cases hv2
              have HVS := hide (vc_succ HV.out hjl)
              rw [vc_lt hjl]
              obtain ⟨u, HUE⟩ : ∃ u, Hid (od[j] = u) := ⟨_, hide rfl⟩
              rw [HUE.out] at h52 HVS
              have H52 := hide h52
              have hji : (j : Int) < (od.length : Int) := by omega
              clear h52 hrow2
              by_cases hv : validE n u = 0
              · have hvv := (valid_0 n u).1 hv
                have HVE := hide hv
                have t1 : (n.st != 2) = false := by rw [hvv.2.1]; rfl
                have t2 : (u.own != n.own) = false := by rw [hvv.2.2.1]; simp
                have t3 : (u.ser != n.ser) = false := by rw [hvv.2.2.2.1]; simp
                clear hv hvv
                go_wp2_with fail
                refine wp_region_wm [0, 1, 2, 3, 4, 5, 6] (by kernel_rfl) (by kernel_rfl) (by kernel_rfl) (by kernel_rfl) ?_
                have H2 := H.drew
                clear H
                generalize World.drew _ = wd at *
                refine wm_ldS H2 (List.Mem.head _) rfl rfl 26 (.tmp 2) rfl rfl _ Try.underlying26 rfl (by kernel_rfl) ?_
                iterate 3 (refine wm_rd rfl rfl (fun K hK => ?_); go_simp; refine hK _ ?_; clear hK K)
                have H53 : Hid (At5 wd g2 (j * 4) (tc u)) := hide (by
                  obtain ⟨g3, c3, hv3, hc3, h53⟩ := OwnM.at5 (H2.ownsM (e := 28) (k := 4) (v := .slice (some ⟨g2, 0, none⟩) od.length c') (rows := od.map tc) (List.Mem.tail _ (List.Mem.head _))) (by decide) (show (od.map tc)[j]? = some (tc od[j]) by rw [List.getElem?_map, List.getElem?_eq_getElem hjl]; rfl)
                  rw [HUE.out] at h53
                  rw [List.length_map] at hv3
                  cases hv3
                  exact h53)
                refine wm_ldX rfl rfl 28 (.tmp 53) rfl H53.out rfl _ Try.underlying28 rfl (by kernel_rfl) ?_
                refine wm_ext rfl rfl (fun K hK => ?_)
                go_simp
                go_at_call 22
                (with_reducible refine (valid_any n u _).mono ?_)
                rintro e w8 ⟨rfl, hx8⟩
                rw [HVE.out]
                refine hK _ _ hx8 ?_
                clear hK K
                have H3 := H2.ext hx8
                have H54 := hide (H53.out.ext hx8)
                clear H2 hx8 H53
                refine wm_rd rfl rfl (fun K hK => ?_); go_simp; refine hK _ ?_; clear hK K
                refine wm_nil ?_
                go_wp2_with fail
                refine wp_region_wm [0, 1, 2, 3, 4, 5, 6, 7, 8, 9, 10, 11, 12, 13, 14, 15, 16, 17, 18, 19, 20, 21, 22] (by kernel_rfl) (by kernel_rfl) (by kernel_rfl) (by kernel_rfl) ?_
                have H4 := H3.drew
                have H55 : Hid (At5 w8.drew g2 (j * 4) (tc u)) := hide (H54.out.ext ((Ext.refl _).drew))
                clear H3 H54
                generalize w8.drew = wd2 at *
                have hB := H4.blk (g := w.heap.size) (e := 26) (cs := sc n) (List.Mem.head _)
                refine wm_rd rfl rfl (fun K hK => ?_); go_simp; refine hK _ ?_; clear hK K
                refine wm_ld1 rfl rfl 3 (.tmp 59) rfl rfl (hB.cell 0) _ Try.underlying3 rfl ?_
                iterate 6 (refine wm_rd rfl rfl (fun K hK => ?_); go_simp; refine hK _ ?_; clear hK K)
                refine wm_ld1 rfl rfl 22 (.tmp 66) rfl rfl (at5_1 H55.out 1 rfl) _ Try.underlying22 rfl ?_
                refine wm_rd rfl rfl (fun K hK => ?_); go_simp; refine hK _ ?_; clear hK K
                refine wm_ld1 rfl rfl 22 (.tmp 68) rfl rfl (hB.cell 1) _ Try.underlying22 rfl ?_
                iterate 7 (refine wm_rd rfl rfl (fun K hK => ?_); go_simp; refine hK _ ?_; clear hK K)
                refine wm_ld1 rfl rfl 24 (.tmp 76) rfl rfl (at5_1 H55.out 2 rfl) _ Try.underlying24 rfl ?_
                refine wm_rd rfl rfl (fun K hK => ?_); go_simp; refine hK _ ?_; clear hK K
                refine wm_ld1 rfl rfl 24 (.tmp 78) rfl rfl (hB.cell 3) _ Try.underlying24 rfl ?_
                iterate 2 (refine wm_rd rfl rfl (fun K hK => ?_); go_simp; refine hK _ ?_; clear hK K)
                refine wm_nil ?_
                clear hB
                have K4 := hide H4
                clear H4
                go_wp2_with fail
                go_roundw
                case rel => exact ⟨j + 1, by go_num, by omega, by rw [HVS.out, if_pos HVE.out], K4.out⟩
                case measure => simp [intOf]; omega
              · have HVE := hide hv
                have t0 : (validE n u == 0) = false := by simpa using hv
                clear hv
                go_wp2_with fail
                refine wp_region_wm [0, 1, 2, 3, 4, 5, 6] (by kernel_rfl) (by kernel_rfl) (by kernel_rfl) (by kernel_rfl) ?_
                have H2 := H.drew
                clear H
                generalize World.drew _ = wd at *
                refine wm_ldS H2 (List.Mem.head _) rfl rfl 26 (.tmp 2) rfl rfl _ Try.underlying26 rfl (by kernel_rfl) ?_
                iterate 3 (refine wm_rd rfl rfl (fun K hK => ?_); go_simp; refine hK _ ?_; clear hK K)
                have H53 : Hid (At5 wd g2 (j * 4) (tc u)) := hide (by
                  obtain ⟨g3, c3, hv3, hc3, h53⟩ := OwnM.at5 (H2.ownsM (e := 28) (k := 4) (v := .slice (some ⟨g2, 0, none⟩) od.length c') (rows := od.map tc) (List.Mem.tail _ (List.Mem.head _))) (by decide) (show (od.map tc)[j]? = some (tc od[j]) by rw [List.getElem?_map, List.getElem?_eq_getElem hjl]; rfl)
                  rw [HUE.out] at h53
                  rw [List.length_map] at hv3
                  cases hv3
                  exact h53)
                refine wm_ldX rfl rfl 28 (.tmp 53) rfl H53.out rfl _ Try.underlying28 rfl (by kernel_rfl) ?_
                refine wm_ext rfl rfl (fun K hK => ?_)
                go_simp
                go_at_call 22
                (with_reducible refine (valid_any n u _).mono ?_)
                rintro e w8 ⟨rfl, hx8⟩
                refine hK _ _ hx8 ?_
                clear hK K
                have K4 := hide (H2.ext hx8)
                clear H2 hx8 H53
                refine wm_rd rfl rfl (fun K hK => ?_); go_simp; refine hK _ ?_; clear hK K
                refine wm_nil ?_
                go_wp2_with fail
                go_roundw
                case rel => exact ⟨j + 1, by go_num, by omega, by rw [HVS.out, if_neg HVE.out], K4.out⟩
                case measure => simp [intOf]; omega
            · obtain rfl : j = od.length := by omega
              obtain ⟨b0, b1, b2, b3, b4, bf, bz⟩ := cells5 (H.blk (g := w.heap.size) (List.Mem.head _))
              have K8 := hide H
              have HIn := hide (show n.ok ∧ good n ∧ Inv n od ∧ od.length ≤ k + 1 + 1 from ⟨HOn.out, HGn.out, HV.out, by omega⟩)
              clear H
              rw [vc_all HGn.out]
              by_cases h2 : n.st = 2
              · rw [if_pos h2]
                have t1 : (n.st == 2) = true := by simpa using h2
                clear h2
                go_wp2_with fail
                go_roundw
                case rel => exact ⟨k + 1, n, od, by go_num, by omega, HIn, K8.out⟩
                case measure => simp [intOf]; omega
              · rw [if_neg h2]
                have t1 : (n.st == 2) = false := by simpa using h2
                clear h2
                go_wp2_with fail
                go_roundw
                case rel => exact ⟨k + 1, n, od, by go_num, by omega, HIn, K8.out⟩
                case measure => simp [intOf]; omega
        · obtain rfl : k = l.length := by omega
          go_wp2_with fail
          (with_reducible refine (awake_any _).mono ?_)
          rintro e w1 ⟨rfl, hx⟩
          go_wp2_with fail
          go_ret
          exact ⟨rfl, H.toExt.trans hx⟩
    · have HG := hide (chkb hgd)
      clear hgd
      go_enter Try.func6, Try.ntmps6
      go_wp2_with fail
      (with_reducible refine (check_any _ _).mono ?_)
      rintro e w0 ⟨rfl, hx0⟩
      rw [HG.out]
      go_wp2_with fail
      (with_reducible refine (awake_any _).mono ?_)
      rintro e w1 ⟨rfl, hx⟩
      go_wp2_with fail
      go_ret
      exact ⟨rfl, (((Ext.refl w).alloc _).trans hx0).trans hx⟩
end Go.Proofs.Ytcmpkpldihnklaa
