/- Seats: the law SeatsGrow walked. -/
import Derived.Deep.DeepCutAuto
import Derived.Test.YtcmpkpldihnklaaLA
import Derived.Test.YtcmpkpldihnklaaMonoF
namespace Go.Proofs.Ytcmpkpldihnklaa
open Go.RowKit Go.Gr Go.Seat
set_option linter.unusedVariables false
set_option linter.unusedSimpArgs false
attribute [local go_sem] rdOp rdAt rdUpon Cls forall_fr
/-- what a call does to serial and epoch -/
theorem grow_ways (s : Se) (x : Ca) (t : Ti) : ((doneS s x t).2 ≠ 0 ∧ (doneS s x t).1 = s)
    ∨ ((doneS s x t).2 = 0 ∧ (x.what % 8 = 3 ∨ x.what % 8 = 4) ∧ s.ser ≠ most ∧ (doneS s x t).1.ser = s.ser + 1 ∧ (doneS s x t).1.ep = s.ep)
    ∨ ((doneS s x t).2 = 0 ∧ x.what % 8 = 6 ∧ s.ep ≠ most ∧ (doneS s x t).1.ser = s.ser ∧ (doneS s x t).1.ep = s.ep + 1)
    ∨ ((doneS s x t).2 = 0 ∧ x.what % 8 ≠ 3 ∧ x.what % 8 ≠ 4 ∧ x.what % 8 ≠ 6 ∧ (doneS s x t).1.ser = s.ser ∧ (doneS s x t).1.ep = s.ep) := by
  rcases done_way s x t with h | ⟨h0, hg, h1 | h1 | h1 | h1 | h1 | h1 | h1 | h1⟩
  · exact .inl h
  · exact .inr (.inr (.inr ⟨h0, by omega, by omega, by omega, by rw [h1.2.2.2], by rw [h1.2.2.2]⟩))
  · exact .inr (.inr (.inr ⟨h0, by omega, by omega, by omega, by rw [h1.2.2.2]; rfl, by rw [h1.2.2.2]; rfl⟩))
  · exact .inr (.inr (.inr ⟨h0, by omega, by omega, by omega, by rw [h1.2.2.2]; rfl, by rw [h1.2.2.2]; rfl⟩))
  · exact .inr (.inl ⟨h0, .inl h1.1, h1.2.2.2.1, by rw [h1.2.2.2.2], by rw [h1.2.2.2.2]⟩)
  · exact .inr (.inl ⟨h0, .inr h1.1, h1.2.2.2.1, by rw [h1.2.2.2.2], by rw [h1.2.2.2.2]⟩)
  · exact .inr (.inr (.inr ⟨h0, by omega, by omega, by omega, by rw [h1.2.2.2]; rfl, by rw [h1.2.2.2]; rfl⟩))
  · exact .inr (.inr (.inl ⟨h0, h1.1, h1.2.2.1, by rw [h1.2.2.2], by rw [h1.2.2.2]⟩))
  · exact .inr (.inr (.inr ⟨h0, by omega, by omega, by omega, by rw [h1.2.2.2], by rw [h1.2.2.2]⟩))
set_option maxRecDepth 100000 in
set_option maxHeartbeats 8000000 in
theorem grow_law (w : World) (v0 : Value) (h0 : ∃ cs, v0 = .agg cs ∧ Lvs Try.prog w [.int .i64, .int .u32, .int .i64, .int .u64, .int .u64] cs.toList)
    (v1 : Value) (h1 : LfOk Try.prog w (.slice 38) v1) :
    Calls Try.prog 8 #[v0, v1] w fun e w' => e = .returned (.bool true) ∧ Ext w w' := by
  obtain ⟨s, rfl, hs⟩ := seatA h0
  obtain ⟨A, l, c, rfl, hr, hok, hc, hm⟩ := callsA h1
  have HS := hide hs
  have HR := hide hr
  have HK := hide hok
  unfold maxLen at hm
  clear h0 h1 hs hr hok
  by_cases hlen : 100 < l.length
  · have hd : decide ((100 : Int) < (l.length : Int)) = true := by simp; omega
    go_enter Try.func8, Try.ntmps8
    go_wp2_with fail
    (with_reducible refine (awake_any _).mono ?_)
    rintro e w1 ⟨rfl, hx⟩
    go_wp2_with fail
    go_ret
    exact ⟨rfl, ((Ext.refl w).alloc _).trans hx⟩
  · have hd : decide ((100 : Int) < (l.length : Int)) = false := by simp; omega
    have hl100 : l.length ≤ 100 := by omega
    clear hlen
    by_cases hgd : good s
    · have HG := hide (chkg hgd)
      clear hgd
      go_enter Try.func8, Try.ntmps8
      go_wp2_with fail
      (with_reducible refine (check_any _ _).mono ?_)
      rintro e w0 ⟨rfl, hx0⟩
      rw [HG.out]
      have H0 := ((((Sep.refl No w).add 26 (sc s)).ext hx0).nilM 28 4).swap
      clear hx0
      go_wp2_with fail
      clear hd
      go_loopw [5, 6] (fun v i wr => ∃ (k : Nat) (s' : Se) (old : List Ti), i = .int .i64 k ∧ k ≤ l.length ∧ Hid (s'.ok ∧ old.length ≤ k) ∧ Sep No w wr [As.blk w.heap.size 26 (sc s'), As.ownM 28 4 v (old.map tc)]) (fun _ i _ => l.length - (intOf i).toNat)
      case atStart => exact ⟨0, s, [], rfl, by omega, hide ⟨HS.out, by simp⟩, H0⟩
      case round =>
        obtain ⟨k, s', old, rfl, hk, HI, H⟩ := hrel
        by_cases hlt : k < l.length
        · have hrow : (l.map xc)[k]? = some (xc l[k]) := by rw [List.getElem?_map, List.getElem?_eq_getElem hlt]; rfl
          obtain ⟨g, off, rfl, h5⟩ := HR.out.at5 (fun r hr => by obtain ⟨t, _, rfl⟩ := List.mem_map.1 hr; simp) hrow
          have H5 := hide h5
          have hgw : g < w.heap.size := cell_lt (h5 0 _ rfl)
          have HX := hide (HK.out _ (List.getElem_mem hlt))
          obtain ⟨x, HXE⟩ : ∃ x, Hid (l[k] = x) := ⟨_, hide rfl⟩
          rw [HXE.out] at H5 HX
          have hold := HI.out.2
          have HSO := hide HI.out.1
          clear h5 hrow HI
          have K1 := hide H
          clear H
          obtain ⟨t, HT⟩ : ∃ t, Hid (withS x old = t) := ⟨_, hide rfl⟩
          obtain ⟨r, HRR⟩ : ∃ r, Hid (doneS s' x t = r) := ⟨_, hide rfl⟩
          go_upto_region 7 with fail
          go_cut [7, 8] (fun v7 v8 wx => v8 = .int .i64 r.2 ∧ ∃ g7 : Nat, v7 = .pointer (some ⟨g7, 0, none⟩) ∧ Sep No w wx [As.blk g7 26 (sc r.1), As.blk w.heap.size 26 (sc s'), As.ownM 28 4 u5 (old.map tc)])
          case first =>
            have H2 := K1.out.drew
            refine wp_region_wf (RT.up wr.drew.heap.size) 15 [0, 1, 2, 3, 4, 5, 6, 7, 8, 9, 10, 11, 12, 13, 14, 15, 16, 17] (by kernel_rfl) (by kernel_rfl) (by kernel_rfl) (by kernel_rfl) (by kernel_rfl) ?_
            generalize wr.drew = wd at *
            have hB1 := (H2.blk (g := w.heap.size) (e := 26) (cs := sc s') (List.Mem.head _))
            have hO := H2.ownsM (e := 28) (k := 4) (v := u5) (rows := old.map tc) (List.Mem.tail _ (List.Mem.head _))
            have hle := H2.le
            have HO := hide hO
            clear hO
            refine wf_ldX rfl rfl rfl 26 (.tmp 2) rfl (fun w' h' => hB1.at5.fr h' (by have := hB1.lt; omega)) rfl _ Try.underlying26 rfl (by kernel_rfl) ?_
            iterate 3 (refine wf_rd rfl rfl rfl (fun K hK => ?_); go_simp; refine hK _ ?_; clear hK K)
            refine wf_ldX rfl rfl rfl 38 (.tmp 31) rfl (fun w' h' => (H5.out.ext H2.toExt).fr h' (by omega)) rfl _ Try.underlying38 rfl (by kernel_rfl) ?_
            iterate 3 (refine wf_rd rfl rfl rfl (fun K hK => ?_); go_simp; refine hK _ ?_; clear hK K)
            refine wf_ldX rfl rfl rfl 38 (.tmp 35) rfl (fun w' h' => (H5.out.ext H2.toExt).fr h' (by omega)) rfl _ Try.underlying38 rfl (by kernel_rfl) ?_
            iterate 1 (refine wf_rd rfl rfl rfl (fun K hK => ?_); go_simp; refine hK _ ?_; clear hK K)
            clear hB1
            refine wf_ext rfl rfl rfl (fun K hK => ?_) ?_
            · go_simp
              go_at_call 20
              (with_reducible refine (with_any x old _ _ HX.out HO.out (by omega)).mono ?_)
              rintro e wa ⟨rfl, hxa⟩
              rw [HT.out]
              refine hK _ _ (hxa.up _) ?_
              clear hK K
              have H3 := H2.ext hxa
              have hza := hxa.size
              clear hxa
              refine wf_ext rfl rfl rfl (fun K hK => ?_) ?_
              · go_simp
                go_at_call 15
                (with_reducible refine (done_any s' x t _ HSO.out HX.out).mono ?_)
                rintro e wb ⟨rfl, hxb⟩
                rw [HRR.out]
                refine hK _ _ (hxb.up _) ?_
                clear hK K
                have H4 := H3.ext hxb
                have hzb := hxb.size
                clear hxb
                iterate 3 (refine wf_rd rfl rfl rfl (fun K hK => ?_); go_simp; refine hK _ ?_; clear hK K)
                refine wf_at rfl ?_
                refine wmr_ext rfl rfl (fun K hK => ?_)
                rw [if_pos (show Region.wanted _ _ = true from rfl)]
                refine wp_alS H4 26 rfl z5 (by kernel_rfl) (fun wc hzc hxc H6 => ?_)
                refine hK _ _ (hxc.up _) ?_
                clear hK K hxc
                refine wmr_ext rfl rfl (fun K hK => ?_)
                rw [if_pos (show Region.wanted _ _ = true from rfl)]
                refine wp_stS [] H6 26 (.tmp 7) (.tmp 40) rfl (cs := sc r.1) rfl rfl (by kernel_rfl) rfl (by simp [Value.oneCell']) (fun w4 H9 hu4 => ?_)
                refine hK _ _ (hu4.up (by omega)) ?_
                clear hK K hu4
                refine wmr_rd rfl rfl (fun K hK => ?_); go_simp; refine hK _ ?_; clear hK K
                refine wmr_nil ?_
                go_wp2_with fail
                go_meet
                case rel => exact ⟨rfl, _, rfl, H9⟩
              · refine wmr_ext rfl rfl (fun K hK => ?_)
                rw [if_pos (show Region.wanted _ _ = true from rfl)]
                refine wp_alS H3 26 rfl z5 (by kernel_rfl) (fun wc hzc hxc H4 => ?_)
                refine hK _ _ (hxc.up _) ?_
                clear hK K hxc
                refine wmr_ext rfl rfl (fun K hK => ?_)
                go_simp
                go_at_call 15
                (with_reducible refine (done_any s' x t _ HSO.out HX.out).mono ?_)
                rintro e wb ⟨rfl, hxb⟩
                rw [HRR.out]
                refine hK _ _ (hxb.up _) ?_
                clear hK K
                have H6 := H4.ext hxb
                have hzb := hxb.size
                clear hxb
                show WMR _ _ _ _ [12, 13, 14, 16, 17] _ _
                iterate 3 (refine wmr_rd rfl rfl (fun K hK => ?_); go_simp; refine hK _ ?_; clear hK K)
                refine wmr_ext rfl rfl (fun K hK => ?_)
                rw [if_pos (show Region.wanted _ _ = true from rfl)]
                refine wp_stS [] H6 26 (.tmp 7) (.tmp 40) rfl (cs := sc r.1) rfl rfl (by kernel_rfl) rfl (by simp [Value.oneCell']) (fun w4 H9 hu4 => ?_)
                refine hK _ _ (hu4.up (by omega)) ?_
                clear hK K hu4
                refine wmr_rd rfl rfl (fun K hK => ?_); go_simp; refine hK _ ?_; clear hK K
                refine wmr_nil ?_
                go_wp2_with fail
                go_meet
                case rel => exact ⟨rfl, _, rfl, H9⟩
            · refine wmr_ext rfl rfl (fun K hK => ?_)
              rw [if_pos (show Region.wanted _ _ = true from rfl)]
              refine wp_alS H2 26 rfl z5 (by kernel_rfl) (fun wc hzc hxc H3 => ?_)
              refine hK _ _ (hxc.up _) ?_
              clear hK K hxc
              refine wmr_ext rfl rfl (fun K hK => ?_)
              go_simp
              go_at_call 20
              (with_reducible refine (with_any x old _ _ HX.out (H3.ownsM (e := 28) (k := 4) (v := u5) (rows := old.map tc) (List.Mem.tail _ (List.Mem.tail _ (List.Mem.head _)))) (by omega)).mono ?_)
              rintro e wa ⟨rfl, hxa⟩
              rw [HT.out]
              refine hK _ _ (hxa.up _) ?_
              clear hK K
              have H4 := H3.ext hxa
              have hza := hxa.size
              clear hxa
              refine wmr_ext rfl rfl (fun K hK => ?_)
              go_simp
              go_at_call 15
              (with_reducible refine (done_any s' x t _ HSO.out HX.out).mono ?_)
              rintro e wb ⟨rfl, hxb⟩
              rw [HRR.out]
              refine hK _ _ (hxb.up _) ?_
              clear hK K
              have H6 := H4.ext hxb
              have hzb := hxb.size
              clear hxb
              show WMR _ _ _ _ [12, 13, 14, 16, 17] _ _
              iterate 3 (refine wmr_rd rfl rfl (fun K hK => ?_); go_simp; refine hK _ ?_; clear hK K)
              refine wmr_ext rfl rfl (fun K hK => ?_)
              rw [if_pos (show Region.wanted _ _ = true from rfl)]
              refine wp_stS [] H6 26 (.tmp 7) (.tmp 40) rfl (cs := sc r.1) rfl rfl (by kernel_rfl) rfl (by simp [Value.oneCell']) (fun w4 H9 hu4 => ?_)
              refine hK _ _ (hu4.up (by omega)) ?_
              clear hK K hu4
              refine wmr_rd rfl rfl (fun K hK => ?_); go_simp; refine hK _ ?_; clear hK K
              refine wmr_nil ?_
              go_wp2_with fail
              go_meet
              case rel => exact ⟨rfl, _, rfl, H9⟩
          case rest =>
            obtain ⟨rfl, g7, rfl, H⟩ := hcut
            clear K1
            have hro := done_ok (t := t) HSO.out HX.out
            rw [HRR.out] at hro
            have HRO := hide hro
            clear hro
            have H2 := H.drew
            go_wp2_with fail
            refine wp_region_wm [0, 1, 2, 3, 4, 5] (by kernel_rfl) (by kernel_rfl) (by kernel_rfl) (by kernel_rfl) ?_
            generalize wc.drew = wd at *
            have hB := H2.blk (g := w.heap.size) (e := 26) (cs := sc s') (List.Mem.tail _ (List.Mem.head _))
            refine wm_rd rfl rfl (fun K hK => ?_); go_simp; refine hK _ ?_; clear hK K
            refine wm_ld1 rfl rfl 24 (.tmp 42) rfl rfl (hB.cell 3) _ Try.underlying24 rfl ?_
            refine wm_rd rfl rfl (fun K hK => ?_); go_simp; refine hK _ ?_; clear hK K
            refine wm_ld1 rfl rfl 24 (.tmp 44) rfl rfl (hB.cell 4) _ Try.underlying24 rfl ?_
            iterate 2 (refine wm_rd rfl rfl (fun K hK => ?_); go_simp; refine hK _ ?_; clear hK K)
            refine wm_nil ?_
            clear hB H
            have hq0 : wd.cell? ⟨g, off + k * 10, none⟩ = some (.int .u8 x.what) := by have := (H5.out.ext H2.toExt) 0 _ rfl; simpa using this
            obtain ⟨a0, a1, a2, a3, a4, af, az⟩ := cells5 (H2.blk (g := g7) (List.Mem.head _))
            obtain ⟨b0, b1, b2, b3, b4, bf, bz⟩ := cells5 (H2.blk (g := w.heap.size) (List.Mem.tail _ (List.Mem.head _)))
            have hx0 : 0 ≤ x.what := HX.out.what.1
            have tok : True := trivial
            have hways := grow_ways s' x t
            rw [HRR.out] at hways
            have hs0 := HSO.out.ser
            have he0 := HSO.out.ep
            unfold most at hs0 he0 hways
            rcases hways with ⟨hm, hn⟩ | ⟨hm, hq, hmo, hn1, hn2⟩ | ⟨hm, hq, hmo, hn1, hn2⟩ | ⟨hm, hq1, hq2, hq3, hn1, hn2⟩
            · obtain ⟨n, m⟩ := r
              dsimp only at *
              subst hn
              have t1 : (m == 0) = false := by simpa using hm
              have t2 : (m != 0) = true := by simpa using hm
              clear hm hs0 he0
              go_wp2_with ((have zz := tok; clear zz tok; refine wpList_stS [As.blk g7 26 (sc n)] H2 rfl 26 (.tmp 2) (.tmp 95) rfl rfl (cs := sc n) rfl (by kernel_rfl) rfl (by simp [Value.oneCell']) ?_; intro w5 H6; dsimp only [List.nil_append, List.cons_append] at H6; clear H2 a0 a1 a2 a3 a4 af az b0 b1 b2 b3 b4 bf bz hq0; obtain ⟨a0, a1, a2, a3, a4, af, az⟩ := cells5 (H6.blk (g := w.heap.size) (List.Mem.tail _ (List.Mem.head _))); have K5 := hide H6; clear H6))
              (with_reducible refine (tickets_any n old u5 _ (K5.out.ownsM (v := u5) (List.Mem.tail _ (List.Mem.tail _ (List.Mem.head _)))) (by omega)).mono ?_)
              rintro e w6 ⟨v', rfl, hO, hG⟩
              have H6 := Sep.grewM [As.blk g7 26 (sc n), As.blk w.heap.size 26 (sc n)] K5.out hG hO
              dsimp only [List.nil_append, List.cons_append] at H6
              have K6 := hide H6.tail
              clear H6 hO hG K5 a0 a1 a2 a3 a4 af az
              have hlen' := ticketsS_len n old
              go_wp2_with fail
              go_roundw
              case rel => exact ⟨k + 1, n, ticketsS n old, by go_num, by omega, hide ⟨HRO.out, by omega⟩, K6.out⟩
              case measure => simp [intOf]; omega
            · have HEQ : Hid (r.2 = 0) := hide hm
              rw [hm]
              have t3 : (s'.ser == 18446744073709551615) = false := by simpa using hmo
              have t4 : (r.1.ser != IntKind.u64.wrap (s'.ser + 1)) = false := by rw [wrap_u64 (by omega) (by omega), hn1]; simp
              have t5 : (r.1.ep != s'.ep) = false := by rw [hn2]; simp
              have t6 : (x.what % 8 == 6) = false := by have : x.what % 8 ≠ 6 := by omega
                                                        simpa using this
              clear hm hmo hn1 hn2 hs0 he0
              rcases hq with hq | hq
              · have q3 : (x.what % 8 == 3) = true := by rw [hq]; rfl
                have q4 : (x.what % 8 == 4) = false := by rw [hq]; rfl
                clear hq
                go_wp2_with ((have zz := tok; clear zz tok; refine wpList_stS [As.blk g7 26 (sc r.1)] H2 rfl 26 (.tmp 2) (.tmp 95) rfl rfl (cs := sc r.1) rfl (by kernel_rfl) rfl (by simp [Value.oneCell']) ?_; intro w5 H6; dsimp only [List.nil_append, List.cons_append] at H6; clear H2 a0 a1 a2 a3 a4 af az b0 b1 b2 b3 b4 bf bz hq0; obtain ⟨a0, a1, a2, a3, a4, af, az⟩ := cells5 (H6.blk (g := w.heap.size) (List.Mem.tail _ (List.Mem.head _))); have K5 := hide H6; clear H6))
                (with_reducible refine (tickets_any r.1 old u5 _ (K5.out.ownsM (v := u5) (List.Mem.tail _ (List.Mem.tail _ (List.Mem.head _)))) (by omega)).mono ?_)
                rintro e w6 ⟨v', rfl, hO, hG⟩
                have H6 := Sep.grewM [As.blk g7 26 (sc r.1), As.blk w.heap.size 26 (sc r.1)] K5.out hG hO
                dsimp only [List.nil_append, List.cons_append] at H6
                have K6 := hide H6.tail
                clear H6 hO hG K5 a0 a1 a2 a3 a4 af az
                have hlen' := ticketsS_len r.1 old
                go_wp2_with fail
                go_roundw
                case rel => exact ⟨k + 1, r.1, ticketsS r.1 old, by go_num, by omega, hide ⟨HRO.out, by omega⟩, K6.out⟩
                case measure => simp [intOf]; omega
              · have q3 : (x.what % 8 == 3) = false := by rw [hq]; rfl
                have q4 : (x.what % 8 == 4) = true := by rw [hq]; rfl
                clear hq
                go_wp2_with ((have zz := tok; clear zz tok; refine wpList_stS [As.blk g7 26 (sc r.1)] H2 rfl 26 (.tmp 2) (.tmp 95) rfl rfl (cs := sc r.1) rfl (by kernel_rfl) rfl (by simp [Value.oneCell']) ?_; intro w5 H6; dsimp only [List.nil_append, List.cons_append] at H6; clear H2 a0 a1 a2 a3 a4 af az b0 b1 b2 b3 b4 bf bz hq0; obtain ⟨a0, a1, a2, a3, a4, af, az⟩ := cells5 (H6.blk (g := w.heap.size) (List.Mem.tail _ (List.Mem.head _))); have K5 := hide H6; clear H6))
                (with_reducible refine (tickets_any r.1 old u5 _ (K5.out.ownsM (v := u5) (List.Mem.tail _ (List.Mem.tail _ (List.Mem.head _)))) (by omega)).mono ?_)
                rintro e w6 ⟨v', rfl, hO, hG⟩
                have H6 := Sep.grewM [As.blk g7 26 (sc r.1), As.blk w.heap.size 26 (sc r.1)] K5.out hG hO
                dsimp only [List.nil_append, List.cons_append] at H6
                have K6 := hide H6.tail
                clear H6 hO hG K5 a0 a1 a2 a3 a4 af az
                have hlen' := ticketsS_len r.1 old
                go_wp2_with fail
                go_roundw
                case rel => exact ⟨k + 1, r.1, ticketsS r.1 old, by go_num, by omega, hide ⟨HRO.out, by omega⟩, K6.out⟩
                case measure => simp [intOf]; omega
            · have HEQ : Hid (r.2 = 0) := hide hm
              rw [hm]
              have q3 : (x.what % 8 == 3) = false := by rw [hq]; rfl
              have q4 : (x.what % 8 == 4) = false := by rw [hq]; rfl
              have q6 : (x.what % 8 == 6) = true := by rw [hq]; rfl
              have t3 : (s'.ep == 18446744073709551615) = false := by simpa using hmo
              have t4 : (r.1.ep != IntKind.u64.wrap (s'.ep + 1)) = false := by rw [wrap_u64 (by omega) (by omega), hn2]; simp
              have t5 : (r.1.ser != s'.ser) = false := by rw [hn1]; simp
              clear hm hmo hn1 hn2 hs0 he0 hq
              go_wp2_with ((have zz := tok; clear zz tok; refine wpList_stS [As.blk g7 26 (sc r.1)] H2 rfl 26 (.tmp 2) (.tmp 95) rfl rfl (cs := sc r.1) rfl (by kernel_rfl) rfl (by simp [Value.oneCell']) ?_; intro w5 H6; dsimp only [List.nil_append, List.cons_append] at H6; clear H2 a0 a1 a2 a3 a4 af az b0 b1 b2 b3 b4 bf bz hq0; obtain ⟨a0, a1, a2, a3, a4, af, az⟩ := cells5 (H6.blk (g := w.heap.size) (List.Mem.tail _ (List.Mem.head _))); have K5 := hide H6; clear H6))
              (with_reducible refine (tickets_any r.1 old u5 _ (K5.out.ownsM (v := u5) (List.Mem.tail _ (List.Mem.tail _ (List.Mem.head _)))) (by omega)).mono ?_)
              rintro e w6 ⟨v', rfl, hO, hG⟩
              have H6 := Sep.grewM [As.blk g7 26 (sc r.1), As.blk w.heap.size 26 (sc r.1)] K5.out hG hO
              dsimp only [List.nil_append, List.cons_append] at H6
              have K6 := hide H6.tail
              clear H6 hO hG K5 a0 a1 a2 a3 a4 af az
              have hlen' := ticketsS_len r.1 old
              go_wp2_with fail
              go_roundw
              case rel => exact ⟨k + 1, r.1, ticketsS r.1 old, by go_num, by omega, hide ⟨HRO.out, by omega⟩, K6.out⟩
              case measure => simp [intOf]; omega
            · have HEQ : Hid (r.2 = 0) := hide hm
              rw [hm]
              have q3 : (x.what % 8 == 3) = false := by simpa using hq1
              have q4 : (x.what % 8 == 4) = false := by simpa using hq2
              have q6 : (x.what % 8 == 6) = false := by simpa using hq3
              have t4 : (r.1.ep != s'.ep) = false := by rw [hn2]; simp
              have t5 : (r.1.ser != s'.ser) = false := by rw [hn1]; simp
              clear hm hn1 hn2 hs0 he0 hq1 hq2 hq3
              go_wp2_with ((have zz := tok; clear zz tok; refine wpList_stS [As.blk g7 26 (sc r.1)] H2 rfl 26 (.tmp 2) (.tmp 95) rfl rfl (cs := sc r.1) rfl (by kernel_rfl) rfl (by simp [Value.oneCell']) ?_; intro w5 H6; dsimp only [List.nil_append, List.cons_append] at H6; clear H2 a0 a1 a2 a3 a4 af az b0 b1 b2 b3 b4 bf bz hq0; obtain ⟨a0, a1, a2, a3, a4, af, az⟩ := cells5 (H6.blk (g := w.heap.size) (List.Mem.tail _ (List.Mem.head _))); have K5 := hide H6; clear H6))
              (with_reducible refine (tickets_any r.1 old u5 _ (K5.out.ownsM (v := u5) (List.Mem.tail _ (List.Mem.tail _ (List.Mem.head _)))) (by omega)).mono ?_)
              rintro e w6 ⟨v', rfl, hO, hG⟩
              have H6 := Sep.grewM [As.blk g7 26 (sc r.1), As.blk w.heap.size 26 (sc r.1)] K5.out hG hO
              dsimp only [List.nil_append, List.cons_append] at H6
              have K6 := hide H6.tail
              clear H6 hO hG K5 a0 a1 a2 a3 a4 af az
              have hlen' := ticketsS_len r.1 old
              go_wp2_with fail
              go_roundw
              case rel => exact ⟨k + 1, r.1, ticketsS r.1 old, by go_num, by omega, hide ⟨HRO.out, by omega⟩, K6.out⟩
              case measure => simp [intOf]; omega
        · obtain rfl : k = l.length := by omega
          go_wp2_with fail
          (with_reducible refine (awake_any _).mono ?_)
          rintro e w1 ⟨rfl, hx⟩
          go_wp2_with fail
          go_ret
          exact ⟨rfl, H.toExt.trans hx⟩
    · have HG := hide (chkb hgd)
      clear hgd
      go_enter Try.func8, Try.ntmps8
      go_wp2_with fail
      (with_reducible refine (check_any _ _).mono ?_)
      rintro e w0 ⟨rfl, hx0⟩
      rw [HG.out]
      go_wp2_with fail
      (with_reducible refine (awake_any _).mono ?_)
      rintro e w1 ⟨rfl, hx⟩
      go_wp2_with fail
      go_ret
      exact ⟨rfl, (((Ext.refl w).alloc _).trans hx0).trans hx⟩
end Go.Proofs.Ytcmpkpldihnklaa
