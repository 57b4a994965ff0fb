/- Seats: the law SeatsAfter walked. -/
import Derived.Deep.DeepCutAuto
import Derived.Test.YtcmpkpldihnklaaLA
import Derived.Test.YtcmpkpldihnklaaMonoS

namespace Go.Proofs.Ytcmpkpldihnklaa
open Go.RowKit Go.Gr Go.Seat
set_option linter.unusedVariables false
set_option linter.unusedSimpArgs false
attribute [local go_sem] rdOp rdAt rdUpon Cls forall_fr
abbrev bc (d : List Bool) : List Value := d.map Value.bool
theorem bc_cell {w : World} {g : Nat} {e : TypeId} {d : List Bool} (h : Blk w g e (bc d)) (hl : d.length = 102) {j : Nat} (hj : j < 102) : w.cell? ⟨g, j, none⟩ = some (.bool (d.getD j false)) := by
  rw [h.cell j]
  unfold bc
  rw [List.getElem?_map, List.getElem?_eq_getElem (by omega), List.getD_eq_getElem?_getD, List.getElem?_eq_getElem (by omega)]
  rfl
theorem bc_set (d : List Bool) (j : Nat) (b : Bool) : (bc d).set j (.bool b) = bc (d.set j b) := by unfold bc; rw [List.map_set]
set_option maxRecDepth 100000 in
set_option maxHeartbeats 8000000 in
theorem after_law (w : World) (v0 : Value) (h0 : ∃ cs, v0 = .agg cs ∧ Lvs Try.prog w [.int .i64, .int .u32, .int .i64, .int .u64, .int .u64] cs.toList)
    (v1 : Value) (h1 : LfOk Try.prog w (.slice 38) v1) :
    Calls Try.prog 7 #[v0, v1] w fun e w' => e = .returned (.bool true) ∧ Ext w w' := by
  obtain ⟨s, rfl, hs⟩ := seatA h0
  obtain ⟨A, l, c, rfl, hr, hok, hc, hm⟩ := callsA h1
  have HS := hide hs
  have HR := hide hr
  have HK := hide hok
  unfold maxLen at hm
  clear h0 h1 hs hr hok
  by_cases hlen : 100 < l.length
  · have hd : decide ((100 : Int) < (l.length : Int)) = true := by simp; omega
    go_enter Try.func7, Try.ntmps7
    go_wp2_with fail
    (with_reducible refine (awake_any _).mono ?_)
    rintro e w1 ⟨rfl, hx⟩
    go_wp2_with fail
    go_ret
    exact ⟨rfl, ((Ext.refl w).alloc _).trans hx⟩
  · have hd : decide ((100 : Int) < (l.length : Int)) = false := by simp; omega
    have hl100 : l.length ≤ 100 := by omega
    clear hlen
    by_cases hgd : good s
    · have HG := hide (chkg hgd)
      have HGD := hide hgd
      clear hgd
      go_enter Try.func7, Try.ntmps7
      go_wp2_with fail
      (with_reducible refine (check_any _ _).mono ?_)
      rintro e w0 ⟨rfl, hx0⟩
      rw [HG.out]
      have H0 := ((((Sep.refl No w).add 26 (sc s)).ext hx0).nilM 28 4).swap
      clear hx0
      obtain ⟨b0, b1, b2, b3, b4, bf, bz⟩ := cells5 (H0.blk (g := w.heap.size) (List.Mem.head _))
      have K0 := hide H0
      clear H0
      go_wp2_with fail
      clear hd
      (with_reducible refine (tickets_any s [] (.slice none 0 0) _ (K0.out.ownsM (List.Mem.tail _ (List.Mem.head _))) (by decide)).mono ?_)
      rintro e w1 ⟨v1, rfl, hO, hG⟩
      have H1 := Sep.grewM [As.blk w.heap.size 26 (sc s)] K0.out hG hO
      dsimp only [List.nil_append, List.cons_append] at H1
      have tok : True := trivial
      clear K0 hO hG b0 b1 b2 b3 b4 bf bz
      have HI0 : Hid (s.ok ∧ good s ∧ Inv s (ticketsS s []) ∧ (ticketsS s []).length ≤ 0 + 1) := hide ⟨HS.out, HGD.out, (Mid.start s).tick HGD.out, by have := ticketsS_len s []; simpa using this⟩
      go_wp2_with ((have zz := tok; clear zz tok; refine wpList_alS H1 rfl 48 rfl (bc (List.replicate 102 false)) (by kernel_rfl) ?_; intro w2 hz2 H2; have hgd2 : w1.heap.size < w2.heap.size := (by omega); clear H1 hz2; have K2 := hide H2; clear H2))
      go_loopw [5, 7] (fun v i wr => ∃ (k : Nat) (s' : Se) (old : List Ti) (d : List Bool), i = .int .i64 k ∧ k ≤ l.length ∧ Hid (s'.ok ∧ good s' ∧ Inv s' old ∧ old.length ≤ k + 1 ∧ Dead s' old d) ∧ Sep No w wr [As.blk w1.heap.size 48 (bc d), As.blk w.heap.size 26 (sc s'), As.ownM 28 4 v (old.map tc)]) (fun _ i _ => l.length - (intOf i).toNat)
      case atStart => exact ⟨0, s, ticketsS s [], List.replicate 102 false, rfl, by omega, hide ⟨HI0.out.1, HI0.out.2.1, HI0.out.2.2.1, HI0.out.2.2.2, Dead.start _ _⟩, K2.out⟩
      case round =>
        obtain ⟨k, s', old, d, rfl, hk, HI, H⟩ := hrel
        by_cases hlt : k < l.length
        · have hrow : (l.map xc)[k]? = some (xc l[k]) := by rw [List.getElem?_map, List.getElem?_eq_getElem hlt]; rfl
          obtain ⟨g, off, rfl, h5⟩ := HR.out.at5 (fun r hr => by obtain ⟨t, _, rfl⟩ := List.mem_map.1 hr; simp) hrow
          have H5 := hide h5
          have HX := hide (HK.out _ (List.getElem_mem hlt))
          obtain ⟨x, HXE⟩ : ∃ x, Hid (l[k] = x) := ⟨_, hide rfl⟩
          rw [HXE.out] at H5 HX
          have hold := HI.out.2.2.2.1
          have HDd := hide HI.out.2.2.2.2
          have HIv := hide HI.out.2.2.1
          have HSO := hide HI.out.1
          clear h5 hrow
          have K1 := hide H
          clear H
          obtain ⟨t, HT⟩ : ∃ t, Hid (withS x old = t) := ⟨_, hide rfl⟩
          obtain ⟨n, HRR⟩ : ∃ n, Hid ((doneS s' x t).1 = n) := ⟨_, hide rfl⟩
          have HN : Hid (n.ok ∧ good n ∧ Mid n old) := hide (by rw [← HRR.out]; exact ⟨done_ok HSO.out HX.out, done_good HI.out.2.1, HI.out.2.2.1.done x t⟩)
          clear HI
          go_upto_region 8 with fail
          refine wp_region_ws (RT.fr No) 15 [0, 1, 2, 3, 4, 5, 6, 7, 8, 9, 10, 11, 12, 13, 14, 15] (by kernel_rfl) (by kernel_rfl) (by kernel_rfl) (by kernel_rfl) ?_
          have H2 := K1.out.drew
          generalize wr.drew = wd at *
          have hB1 := (H2.blk (g := w.heap.size) (e := 26) (cs := sc s') (List.Mem.tail _ (List.Mem.head _)))
          have HO := hide (H2.ownsM (e := 28) (k := 4) (v := u5) (rows := old.map tc) (List.Mem.tail _ (List.Mem.tail _ (List.Mem.head _))))
          refine ws_ldX rfl rfl (by kernel_rfl) rfl 26 (.tmp 2) rfl (fun w' h' => hB1.at5.ext h'.ext) rfl _ Try.underlying26 rfl (by kernel_rfl) ?_
          iterate 3 (refine ws_pure rfl rfl rfl (fun K hK => ?_); go_simp; refine hK _ ?_; clear hK K)
          refine ws_ldX rfl rfl (by kernel_rfl) rfl 38 (.tmp 31) rfl (fun w' h' => (H5.out.ext H2.toExt).ext h'.ext) rfl _ Try.underlying38 rfl (by kernel_rfl) ?_
          iterate 3 (refine ws_pure rfl rfl rfl (fun K hK => ?_); go_simp; refine hK _ ?_; clear hK K)
          refine ws_ldX rfl rfl (by kernel_rfl) rfl 38 (.tmp 35) rfl (fun w' h' => (H5.out.ext H2.toExt).ext h'.ext) rfl _ Try.underlying38 rfl (by kernel_rfl) ?_
          iterate 1 (refine ws_pure rfl rfl rfl (fun K hK => ?_); go_simp; refine hK _ ?_; clear hK K)
          refine ws_ext rfl rfl rfl (fun K hK => ?_)
          go_simp
          go_at_call 20
          (with_reducible refine (with_any x old _ _ HX.out HO.out (by omega)).mono ?_)
          rintro e wa ⟨rfl, hxa⟩
          rw [HT.out]
          refine hK _ _ (Fr.of_ext hxa) ?_
          clear hK K
          have H3 := H2.ext hxa
          clear H2 hxa hB1 HO
          refine ws_ext rfl rfl rfl (fun K hK => ?_)
          go_simp
          go_at_call 15
          (with_reducible refine (done_any s' x t _ HSO.out HX.out).mono ?_)
          rintro e wb ⟨rfl, hxb⟩
          rw [HRR.out]
          refine hK _ _ (Fr.of_ext hxb) ?_
          clear hK K
          have H4 := H3.ext hxb
          clear H3 hxb
          iterate 3 (refine ws_pure rfl rfl rfl (fun K hK => ?_); go_simp; refine hK _ ?_; clear hK K)
          refine ws_at rfl (fun K hK => ?_)
          rw [if_pos (show Region.wanted _ _ = true from rfl)]
          refine wp_stS [As.blk w1.heap.size 48 (bc d)] H4 26 (.tmp 2) (.tmp 40) rfl (cs := sc n) rfl rfl (by kernel_rfl) rfl (by simp [Value.oneCell']) (fun w4 H6 hu4 => ?_)
          refine hK _ _ ?_
          clear hK K hu4 H4 K1
          dsimp only [List.nil_append, List.cons_append] at H6
          refine wmr_nil ?_
          obtain ⟨A', c', hu5, hc', hA', hcell'⟩ := OwnT.form (H6.ownsM (e := 28) (k := 4) (v := u5) (rows := old.map tc) (List.Mem.tail _ (List.Mem.tail _ (List.Mem.head _))))
          subst hu5
          clear hc' hA' hcell'
          have K6 := hide H6
          clear H6
          go_wp2_with fail
          have HGn := hide HN.out.2.1
          have HOn := hide HN.out.1
          have HMd := hide HN.out.2.2
          have HNV : Hid (∀ j (hj : j < old.length), d.getD j false = true → validE n old[j] ≠ 0) := hide (fun j hj hd => by rw [← HRR.out]; exact HDd.out.never HIv.out x t hj hd)
          go_loopw [8] (fun jj wr => ∃ (j : Nat) (d' : List Bool), jj = .int .i64 j ∧ j ≤ old.length ∧ Hid (Marks s' n old j d' ∧ ∀ i, j ≤ i → d'.getD i false = d.getD i false) ∧ Sep No w wr [As.blk w1.heap.size 48 (bc d'), As.blk w.heap.size 26 (sc n), As.ownM 28 4 (.slice A' old.length c') (old.map tc)]) (fun jj _ => old.length - (intOf jj).toNat)
          case atStart => exact ⟨0, d, rfl, by omega, hide ⟨HDd.out.marks n, fun _ _ => rfl⟩, K6.out⟩
          case round =>
            obtain ⟨j, d', rfl, hj, HM, H⟩ := hrel
            clear K6
            by_cases hjl : j < old.length
            · have hrow2 : (old.map tc)[j]? = some (tc old[j]) := by rw [List.getElem?_map, List.getElem?_eq_getElem hjl]; rfl
              obtain ⟨g2, c2, hv2, hc2, h52⟩ := OwnM.at5 (H.ownsM (e := 28) (k := 4) (v := .slice A' old.length c') (rows := old.map tc) (List.Mem.tail _ (List.Mem.tail _ (List.Mem.head _)))) (by decide) hrow2
              rw [List.length_map] at hv2 hc2
              cases hv2
              have hdj : d'.getD j false = true → validE n old[j] ≠ 0 := fun h => HNV.out j hjl (by rw [← HM.out.2 j (Nat.le_refl _)]; exact h)
              have HMs := hide (HM.out.1.step hjl (by omega))
              have HMr : Hid (∀ (b : Bool) i, j + 1 ≤ i → (d'.set j b).getD i false = d.getD i false) := hide (fun b i hi => by
                rw [bgetD_set _ _ _ _ (by rw [HM.out.1.len]; omega), if_neg (by omega)]
                exact HM.out.2 i (by omega))
              have HL := hide HM.out.1.len
              clear HM
              obtain ⟨u, HUE⟩ : ∃ u, Hid (old[j] = u) := ⟨_, hide rfl⟩
              rw [HUE.out] at h52 hdj HMs
              have H52 := hide h52
              have hji : (j : Int) < (old.length : Int) := by omega
              have hj102 : j < 102 := by omega
              clear h52 hrow2
              by_cases hv : validE n u = 0
              all_goals
                obtain ⟨vb, HVB⟩ : ∃ vb : Bool, Hid ((validE n u == 0) = vb) := ⟨_, hide rfl⟩
                have HDJ : Hid (vb = true → d'.getD j false = false) := hide (fun h => by
                  have h1 : validE n u = 0 := by have := HVB.out; rw [h] at this; simpa using this
                  cases hd : d'.getD j false
                  · rfl
                  · exact absurd h1 (hdj hd))
                have HST : Hid ((!decide (validE n u = 0)) = !vb) := hide (by
                  rw [← HVB.out]; rfl)
                clear hv hdj
                go_wp2_with fail
                refine wp_region_wm [0, 1, 2, 3, 4, 5, 6, 7] (by kernel_rfl) (by kernel_rfl) (by kernel_rfl) (by kernel_rfl) ?_
                have H2 := H.drew
                clear H
                generalize World.drew _ = wd at *
                refine wm_ldS H2 (List.Mem.tail _ (List.Mem.head _)) rfl rfl 26 (.tmp 2) rfl rfl _ Try.underlying26 rfl (by kernel_rfl) ?_
                iterate 3 (refine wm_rd rfl rfl (fun K hK => ?_); go_simp; refine hK _ ?_; clear hK K)
                have H53 : Hid (At5 wd g2 (j * 4) (tc u)) := hide (by
                  obtain ⟨g3, c3, hv3, hc3, h53⟩ := OwnM.at5 (H2.ownsM (e := 28) (k := 4) (v := .slice (some ⟨g2, 0, none⟩) old.length c') (rows := old.map tc) (List.Mem.tail _ (List.Mem.tail _ (List.Mem.head _)))) (by decide) (show (old.map tc)[j]? = some (tc old[j]) by rw [List.getElem?_map, List.getElem?_eq_getElem hjl]; rfl)
                  rw [HUE.out] at h53
                  rw [List.length_map] at hv3
                  cases hv3
                  exact h53)
                refine wm_ldX rfl rfl 28 (.tmp 51) rfl H53.out rfl _ Try.underlying28 rfl (by kernel_rfl) ?_
                refine wm_ext rfl rfl (fun K hK => ?_)
                go_simp
                go_at_call 22
                (with_reducible refine (valid_any n u _).mono ?_)
                rintro e w8 ⟨rfl, hx8⟩
                refine hK _ _ hx8 ?_
                clear hK K
                have H3 := H2.ext hx8
                clear H2 hx8 H53
                refine wm_rd rfl rfl (fun K hK => ?_); go_simp; refine hK _ ?_; clear hK K
                refine wm_rd rfl rfl (fun K hK => ?_); go_simp; refine hK _ ?_; clear hK K
                refine wm_nil ?_
                rw [HVB.out]
                have hdc := bc_cell (H3.blk (g := w1.heap.size) (e := 48) (cs := bc d') (List.Mem.head _)) HL.out hj102
                have hfz := (H3.blk (g := w1.heap.size) (e := 48) (cs := bc d') (List.Mem.head _)).free
                cases vb
                · have H9 := Sep.cell (L1 := []) H3 j (.bool true)
                  dsimp only [List.nil_append] at H9
                  rw [bc_set] at H9
                  have K9 := hide H9
                  clear H9 H3
                  go_wp2_with fail
                  go_roundw
                  case rel => exact ⟨j + 1, d'.set j true, by go_num, by omega, hide ⟨by have := HMs.out; rw [HST.out] at this; exact this, HMr.out true⟩, K9.out⟩
                  case measure => simp [intOf]; omega
                · rw [HDJ.out rfl] at hdc
                  have H9 := Sep.cell (L1 := []) H3 j (.bool false)
                  dsimp only [List.nil_append] at H9
                  rw [bc_set] at H9
                  have K9 := hide H9
                  clear H9 H3
                  go_wp2_with fail
                  go_roundw
                  case rel => exact ⟨j + 1, d'.set j false, by go_num, by omega, hide ⟨by have := HMs.out; rw [HST.out] at this; exact this, HMr.out false⟩, K9.out⟩
                  case measure => simp [intOf]; omega
            · obtain rfl : j = old.length := by omega
              obtain ⟨b0, b1, b2, b3, b4, bf, bz⟩ := cells5 (H.blk (g := w.heap.size) (List.Mem.tail _ (List.Mem.head _)))
              have K8 := hide H
              have HDn := hide (HM.out.1.dead HMd.out HGn.out)
              clear H HM
              go_wp2_with fail
              (with_reducible refine (tickets_any n old (.slice A' old.length c') _ (K8.out.ownsM (List.Mem.tail _ (List.Mem.tail _ (List.Mem.head _)))) (by omega)).mono ?_)
              rintro e w6 ⟨v', rfl, hO, hG⟩
              have H7 := Sep.grewM [As.blk w1.heap.size 48 (bc d'), As.blk w.heap.size 26 (sc n)] K8.out hG hO
              dsimp only [List.nil_append, List.cons_append] at H7
              obtain ⟨A2, c2, rfl, _, _, _⟩ := OwnT.form hO
              have hlen' := ticketsS_len n old
              have HIn := hide (show n.ok ∧ good n ∧ Inv n (ticketsS n old) ∧ (ticketsS n old).length ≤ k + 1 + 1 ∧ Dead n (ticketsS n old) d' from ⟨HOn.out, HGn.out, HMd.out.tick HGn.out, by omega, HDn.out⟩)
              have K9 := hide H7
              clear H7 hO hG K8 b0 b1 b2 b3 b4 bf bz
              have hsmall : decide ((102 : Int) < ((ticketsS n old).length : Int)) = false := by simp; omega
              go_wp2_with fail
              go_roundw
              case rel => exact ⟨k + 1, n, ticketsS n old, d', by go_num, by omega, HIn, K9.out⟩
              case measure => simp [intOf]; omega
        · obtain rfl : k = l.length := by omega
          go_wp2_with fail
          (with_reducible refine (awake_any _).mono ?_)
          rintro e w1 ⟨rfl, hx⟩
          go_wp2_with fail
          go_ret
          exact ⟨rfl, H.toExt.trans hx⟩
    · have HG := hide (chkb hgd)
      clear hgd
      go_enter Try.func7, Try.ntmps7
      go_wp2_with fail
      (with_reducible refine (check_any _ _).mono ?_)
      rintro e w0 ⟨rfl, hx0⟩
      rw [HG.out]
      go_wp2_with fail
      (with_reducible refine (awake_any _).mono ?_)
      rintro e w1 ⟨rfl, hx⟩
      go_wp2_with fail
      go_ret
      exact ⟨rfl, (((Ext.refl w).alloc _).trans hx0).trans hx⟩
end Go.Proofs.Ytcmpkpldihnklaa
