/- Seats: the law SeatsPlays walked. -/
import Derived.Deep.DeepCutAuto
import Derived.Test.YtcmpkpldihnklaaLA
import Derived.Test.YtcmpkpldihnklaaMonoF

namespace Go.Proofs.Ytcmpkpldihnklaa
open Go.RowKit Go.Gr Go.Seat
set_option linter.unusedVariables false
set_option linter.unusedSimpArgs false
attribute [local go_sem] rdOp rdAt rdUpon Cls forall_fr
theorem own_len {w : World} {v : Value} {l : List Ti} (h : OwnT w v l) : l.length < 100000 → l.length < 100000 := id
set_option maxRecDepth 100000 in
set_option maxHeartbeats 4000000 in
theorem plays_law (w : World) (v0 : Value) (h0 : ∃ cs, v0 = .agg cs ∧ Lvs Try.prog w [.int .i64, .int .u32, .int .i64, .int .u64, .int .u64] cs.toList)
    (v1 : Value) (h1 : LfOk Try.prog w (.slice 38) v1) :
    Calls Try.prog 5 #[v0, v1] w fun e w' => e = .returned (.bool true) ∧ Ext w w' := by
  obtain ⟨s, rfl, hs⟩ := seatA h0
  obtain ⟨A, l, c, rfl, hr, hok, hc, hm⟩ := callsA h1
  have HS := hide hs
  have HR := hide hr
  have HK := hide hok
  unfold maxLen at hm
  clear h0 h1 hs hr hok
  by_cases hlen : 100 < l.length
  · have hd : decide ((100 : Int) < (l.length : Int)) = true := by simp; omega
    go_enter Try.func5, Try.ntmps5
    go_wp2_with fail
    (with_reducible refine (awake_any _).mono ?_)
    rintro e w1 ⟨rfl, hx⟩
    go_wp2_with fail
    go_ret
    exact ⟨rfl, ((Ext.refl w).alloc _).trans hx⟩
  · have hd : decide ((100 : Int) < (l.length : Int)) = false := by simp; omega
    have hl100 : l.length ≤ 100 := by omega
    clear hlen
    go_enter Try.func5, Try.ntmps5
    go_wp2_with fail
    clear hd
    have H0 := (((Sep.refl No w).add 26 (sc s)).nilM 28 4).swap
    go_loopw [5, 6] (fun v i wr => ∃ (k : Nat) (s' : Se) (old : List Ti), i = .int .i64 k ∧ k ≤ l.length ∧ Hid (s'.ok ∧ old.length ≤ k) ∧ Sep No w wr [As.blk w.heap.size 26 (sc s'), As.ownM 28 4 v (old.map tc)]) (fun _ i _ => l.length - (intOf i).toNat)
    case atStart => exact ⟨0, s, [], rfl, by omega, hide ⟨HS.out, by simp⟩, H0⟩
    case round =>
      obtain ⟨k, s', old, rfl, hk, HI, H⟩ := hrel
      by_cases hlt : k < l.length
      · have hrow : (l.map xc)[k]? = some (xc l[k]) := by rw [List.getElem?_map, List.getElem?_eq_getElem hlt]; rfl
        obtain ⟨g, off, rfl, h5⟩ := HR.out.at5 (fun r hr => by obtain ⟨t, _, rfl⟩ := List.mem_map.1 hr; simp) hrow
        have H5 := hide h5
        have hgw : g < w.heap.size := cell_lt (h5 0 _ rfl)
        have HX := hide (HK.out _ (List.getElem_mem hlt))
        obtain ⟨x, HXE⟩ : ∃ x, Hid (l[k] = x) := ⟨_, hide rfl⟩
        rw [HXE.out] at H5 HX
        have hold := HI.out.2
        have HSO := hide HI.out.1
        clear h5 hrow HI
        have tok : True := trivial
        have K0 := hide H
        clear H
        go_wp2_with ((have zz := tok; clear zz tok; refine wpList_ldX rfl 38 (.tmp 24) rfl (H5.out.ext K0.out.toExt) rfl _ Try.underlying38 rfl (by kernel_rfl) ?_))
        (with_reducible refine (with_any x old _ _ HX.out (K0.out.ownsM (v := u5) (List.Mem.tail _ (List.Mem.head _))) (by omega)).mono ?_)
        rintro e w1 ⟨rfl, hx1⟩
        obtain ⟨t, HT⟩ : ∃ t, Hid (withS x old = t) := ⟨_, hide rfl⟩
        rw [HT.out]
        have K1 := hide ((K0.out.ext hx1).add 28 (tc t))
        clear K0 hx1
        go_upto_region 8 with fail
        obtain ⟨r, HRR⟩ : ∃ r, Hid (doneS s' x t = r) := ⟨_, hide rfl⟩
        go_cut [8, 9] (fun v8 v9 wx => v9 = .int .i64 r.2 ∧ ∃ g8 : Nat, v8 = .pointer (some ⟨g8, 0, none⟩) ∧ Sep No w wx [As.blk g8 26 (sc r.1), As.blk w1.heap.size 28 (tc t), As.blk w.heap.size 26 (sc s'), As.ownM 28 4 u5 (old.map tc)])
        case first =>
          have H2 := K1.out.drew
          refine wp_region_wf (RT.up (World.alloc w1 (.cells (tc t).toArray 28)).drew.heap.size) 10 [0, 1, 2, 3, 4, 5, 6, 7, 8, 9, 10, 11, 12] (by kernel_rfl) (by kernel_rfl) (by kernel_rfl) (by kernel_rfl) (by kernel_rfl) ?_
          generalize (World.alloc _ _).drew = wd at *

          have hB1 := (H2.blk (g := w.heap.size) (e := 26) (cs := sc s') (List.Mem.tail _ (List.Mem.head _)))
          have hB2 := (H2.blk (g := w1.heap.size) (e := 28) (cs := tc t) (List.Mem.head _))
          refine wf_ldX rfl rfl rfl 26 (.tmp 2) rfl (fun w' h' => hB1.at5.fr h' (by have := hB1.lt; omega)) rfl _ Try.underlying26 rfl (by kernel_rfl) ?_
          iterate 3 (refine wf_rd rfl rfl rfl (fun K hK => ?_); go_simp; refine hK _ ?_; clear hK K)
          refine wf_ldX rfl rfl rfl 38 (.tmp 32) rfl (fun w' h' => (H5.out.ext H2.toExt).fr h' (by have := H2.le; omega)) rfl _ Try.underlying38 rfl (by kernel_rfl) ?_
          refine wf_ldX rfl rfl rfl 28 (.tmp 7) rfl (fun w' h' => hB2.at5.fr h' (by have := hB2.lt; omega)) rfl _ Try.underlying28 rfl (by kernel_rfl) ?_
          have hle := H2.le
          refine wf_ext rfl rfl rfl (fun K hK => ?_) ?_
          · go_simp
            go_at_call 15
            (with_reducible refine (done_any s' x t _ HSO.out HX.out).mono ?_)
            rintro e w2 ⟨rfl, hx2⟩
            rw [HRR.out]
            refine hK _ _ (hx2.up _) ?_
            clear hK K
            have H3 := H2.ext hx2
            have hz2 := hx2.size
            clear H2 hx2 hB1 hB2
            iterate 3 (refine wf_rd rfl rfl rfl (fun K hK => ?_); go_simp; refine hK _ ?_; clear hK K)
            refine wf_at rfl ?_
            refine wmr_ext rfl rfl (fun K hK => ?_)
            rw [if_pos (show Region.wanted _ _ = true from rfl)]
            refine wp_alS H3 26 rfl z5 (by kernel_rfl) (fun w3 hz3 hx3 H4 => ?_)
            refine hK _ _ (hx3.up _) ?_
            clear hK K H3 hx3
            refine wmr_ext rfl rfl (fun K hK => ?_)
            rw [if_pos (show Region.wanted _ _ = true from rfl)]
            refine wp_stS [] H4 26 (.tmp 8) (.tmp 36) rfl (cs := sc r.1) rfl rfl (by kernel_rfl) rfl (by simp [Value.oneCell']) (fun w4 H5' hu4 => ?_)
            refine hK _ _ (hu4.up (by omega)) ?_
            clear hK K H4 hu4
            refine wmr_rd rfl rfl (fun K hK => ?_); go_simp; refine hK _ ?_; clear hK K
            refine wmr_nil ?_
            go_wp2_with fail
            go_meet
            case rel => exact ⟨rfl, w2.heap.size, rfl, H5'⟩
          · refine wmr_ext rfl rfl (fun K hK => ?_)
            rw [if_pos (show Region.wanted _ _ = true from rfl)]
            refine wp_alS H2 26 rfl z5 (by kernel_rfl) (fun w3 hz3 hx3 H4 => ?_)
            refine hK _ _ (hx3.up _) ?_
            clear hK K H2 hx3 hB1 hB2
            refine wmr_ext rfl rfl (fun K hK => ?_)
            go_simp
            go_at_call 15
            (with_reducible refine (done_any s' x t _ HSO.out HX.out).mono ?_)
            rintro e w2 ⟨rfl, hx2⟩
            rw [HRR.out]
            refine hK _ _ (hx2.up _) ?_
            clear hK K
            have H3 := H4.ext hx2
            clear H4 hx2
            show WMR _ _ _ _ [7, 8, 9, 11, 12] _ _
            iterate 3 (refine wmr_rd rfl rfl (fun K hK => ?_); go_simp; refine hK _ ?_; clear hK K)
            refine wmr_ext rfl rfl (fun K hK => ?_)
            rw [if_pos (show Region.wanted _ _ = true from rfl)]
            refine wp_stS [] H3 26 (.tmp 8) (.tmp 36) rfl (cs := sc r.1) rfl rfl (by kernel_rfl) rfl (by simp [Value.oneCell']) (fun w4 H5' hu4 => ?_)
            refine hK _ _ (hu4.up (Nat.le_refl _)) ?_
            clear hK K H3 hu4
            refine wmr_rd rfl rfl (fun K hK => ?_); go_simp; refine hK _ ?_; clear hK K
            refine wmr_nil ?_
            go_wp2_with fail
            go_meet
            case rel => exact ⟨rfl, wd.heap.size, rfl, H5'⟩
        case rest =>
          obtain ⟨rfl, g8, rfl, H⟩ := hcut
          have K3 := hide H
          clear H K1
          go_upto_region 9 with fail
          go_cut [10, 11] (fun v10 v11 wx => v11 = .int .i64 r.2 ∧ ∃ g10 : Nat, v10 = .pointer (some ⟨g10, 0, none⟩) ∧ Sep No w wx [As.blk g10 26 (sc r.1), As.blk g8 26 (sc r.1), As.blk w1.heap.size 28 (tc t), As.blk w.heap.size 26 (sc s'), As.ownM 28 4 u5 (old.map tc)])
          case first =>
            have H2 := K3.out.drew
            refine wp_region_wf (RT.up wc.drew.heap.size) 10 [0, 1, 2, 3, 4, 5, 6, 7, 8, 9, 10, 11, 12] (by kernel_rfl) (by kernel_rfl) (by kernel_rfl) (by kernel_rfl) (by kernel_rfl) ?_
            generalize wc.drew = wd at *
  
            have hB1 := (H2.blk (g := w.heap.size) (e := 26) (cs := sc s') (List.Mem.tail _ (List.Mem.tail _ (List.Mem.head _))))
            have hB2 := (H2.blk (g := w1.heap.size) (e := 28) (cs := tc t) (List.Mem.tail _ (List.Mem.head _)))
            refine wf_ldX rfl rfl rfl 26 (.tmp 2) rfl (fun w' h' => hB1.at5.fr h' (by have := hB1.lt; omega)) rfl _ Try.underlying26 rfl (by kernel_rfl) ?_
            iterate 3 (refine wf_rd rfl rfl rfl (fun K hK => ?_); go_simp; refine hK _ ?_; clear hK K)
            refine wf_ldX rfl rfl rfl 38 (.tmp 42) rfl (fun w' h' => (H5.out.ext H2.toExt).fr h' (by have := H2.le; omega)) rfl _ Try.underlying38 rfl (by kernel_rfl) ?_
            refine wf_ldX rfl rfl rfl 28 (.tmp 7) rfl (fun w' h' => hB2.at5.fr h' (by have := hB2.lt; omega)) rfl _ Try.underlying28 rfl (by kernel_rfl) ?_
            have hle := H2.le
            refine wf_ext rfl rfl rfl (fun K hK => ?_) ?_
            · go_simp
              go_at_call 16
              (with_reducible refine (told_any s' x t _ HSO.out HX.out).mono ?_)
              rintro e w2 ⟨rfl, hx2⟩
              rw [HRR.out]
              refine hK _ _ (hx2.up _) ?_
              clear hK K
              have H3 := H2.ext hx2
              have hz2 := hx2.size
              clear H2 hx2 hB1 hB2
              iterate 3 (refine wf_rd rfl rfl rfl (fun K hK => ?_); go_simp; refine hK _ ?_; clear hK K)
              refine wf_at rfl ?_
              refine wmr_ext rfl rfl (fun K hK => ?_)
              rw [if_pos (show Region.wanted _ _ = true from rfl)]
              refine wp_alS H3 26 rfl z5 (by kernel_rfl) (fun w3 hz3 hx3 H4 => ?_)
              refine hK _ _ (hx3.up _) ?_
              clear hK K H3 hx3
              refine wmr_ext rfl rfl (fun K hK => ?_)
              rw [if_pos (show Region.wanted _ _ = true from rfl)]
              refine wp_stS [] H4 26 (.tmp 10) (.tmp 46) rfl (cs := sc r.1) rfl rfl (by kernel_rfl) rfl (by simp [Value.oneCell']) (fun w4 H5' hu4 => ?_)
              refine hK _ _ (hu4.up (by omega)) ?_
              clear hK K H4 hu4
              refine wmr_rd rfl rfl (fun K hK => ?_); go_simp; refine hK _ ?_; clear hK K
              refine wmr_nil ?_
              go_wp2_with fail
              go_meet
              case rel => exact ⟨rfl, w2.heap.size, rfl, H5'⟩
            · refine wmr_ext rfl rfl (fun K hK => ?_)
              rw [if_pos (show Region.wanted _ _ = true from rfl)]
              refine wp_alS H2 26 rfl z5 (by kernel_rfl) (fun w3 hz3 hx3 H4 => ?_)
              refine hK _ _ (hx3.up _) ?_
              clear hK K H2 hx3 hB1 hB2
              refine wmr_ext rfl rfl (fun K hK => ?_)
              go_simp
              go_at_call 16
              (with_reducible refine (told_any s' x t _ HSO.out HX.out).mono ?_)
              rintro e w2 ⟨rfl, hx2⟩
              rw [HRR.out]
              refine hK _ _ (hx2.up _) ?_
              clear hK K
              have H3 := H4.ext hx2
              clear H4 hx2
              show WMR _ _ _ _ [7, 8, 9, 11, 12] _ _
              iterate 3 (refine wmr_rd rfl rfl (fun K hK => ?_); go_simp; refine hK _ ?_; clear hK K)
              refine wmr_ext rfl rfl (fun K hK => ?_)
              rw [if_pos (show Region.wanted _ _ = true from rfl)]
              refine wp_stS [] H3 26 (.tmp 10) (.tmp 46) rfl (cs := sc r.1) rfl rfl (by kernel_rfl) rfl (by simp [Value.oneCell']) (fun w4 H5' hu4 => ?_)
              refine hK _ _ (hu4.up (Nat.le_refl _)) ?_
              clear hK K H3 hu4
              refine wmr_rd rfl rfl (fun K hK => ?_); go_simp; refine hK _ ?_; clear hK K
              refine wmr_nil ?_
              go_wp2_with fail
              go_meet
              case rel => exact ⟨rfl, wd.heap.size, rfl, H5'⟩
          case rest =>
            obtain ⟨rfl, g10, rfl, H⟩ := hcut
            clear K3
            obtain ⟨a0, a1, a2, a3, a4, af, az⟩ := cells5 (H.blk (g := g8) (List.Mem.tail _ (List.Mem.head _)))
            obtain ⟨b0, b1, b2, b3, b4, bf, bz⟩ := cells5 (H.blk (g := g10) (List.Mem.head _))
            have tok : True := trivial
            have hro := done_ok (t := t) HSO.out HX.out
            rw [HRR.out] at hro
            have HRO := hide hro
            clear hro
            go_wp2_with ((have zz := tok; clear zz tok; refine wpList_stS [As.blk g10 26 (sc r.1), As.blk g8 26 (sc r.1), As.blk w1.heap.size 28 (tc t)] H rfl 26 (.tmp 2) (.tmp 56) rfl rfl (cs := sc r.1) rfl (by kernel_rfl) rfl (by simp [Value.oneCell']) ?_; intro w5 H5'; dsimp only [List.nil_append, List.cons_append] at H5'; clear H a0 a1 a2 a3 a4 af az b0 b1 b2 b3 b4 bf bz; obtain ⟨a0, a1, a2, a3, a4, af, az⟩ := cells5 (H5'.blk (g := w.heap.size) (List.Mem.tail _ (List.Mem.tail _ (List.Mem.tail _ (List.Mem.head _))))); have K5 := hide H5'; clear H5'))
            (with_reducible refine (tickets_any r.1 old u5 _ (K5.out.ownsM (v := u5) (List.Mem.tail _ (List.Mem.tail _ (List.Mem.tail _ (List.Mem.tail _ (List.Mem.head _)))))) (by omega)).mono ?_)
            rintro e w6 ⟨v', rfl, hO, hG⟩
            have H6 := Sep.grewM [As.blk g10 26 (sc r.1), As.blk g8 26 (sc r.1), As.blk w1.heap.size 28 (tc t), As.blk w.heap.size 26 (sc r.1)] K5.out hG hO
            dsimp only [List.nil_append, List.cons_append] at H6
            have K6 := hide H6.tail.tail.tail
            clear H6 hO hG K5 a0 a1 a2 a3 a4 af az
            have hlen' := ticketsS_len r.1 old
            go_wp2_with fail
            go_roundw
            case rel => exact ⟨k + 1, r.1, ticketsS r.1 old, by go_num, by omega, hide ⟨HRO.out, by omega⟩, K6.out⟩
            case measure => simp [intOf]; omega
      · obtain rfl : k = l.length := by omega
        go_wp2_with fail
        (with_reducible refine (awake_any _).mono ?_)
        rintro e w1 ⟨rfl, hx⟩
        go_wp2_with fail
        go_ret
        exact ⟨rfl, H.toExt.trans hx⟩
end Go.Proofs.Ytcmpkpldihnklaa
