/- The walk of sha.Parse. -/
import Derived.Test.YtmflanhcddehlaaDoorS19
namespace Go.Proofs.YtmflanhcddehlaaDoor
open Go.RowKit Go.Gr
set_option linter.unusedVariables false
attribute [local go_sem] rdOp rdAt rdUpon Cls
theorem Z8_len (n : Nat) : (Z8 n).length = n := by simp [Z8]
set_option maxHeartbeats 1000000 in
theorem parse_len (s : ByteArray) (w : World) (h : s.size ≠ 64) : Calls Tryd.prog 32 #[.string s] w fun e w' => e = .returned (.tuple #[.agg (byt (zr 32)).toArray, .int .i64 6]) ∧ Ext w w' := by
  have hs : ((s.size : Int) != 64) = true := by simp; omega
  have HB0 : Hid (Blk ((w.alloc (.cells (byt (zr 32)).toArray 32)).alloc (.cells (byt (zr 32)).toArray 32)) w.heap.size 32 (byt (zr 32))) := hide ((Blk.new _ _ _).alloc _)
  have HB1 : Hid (Blk ((w.alloc (.cells (byt (zr 32)).toArray 32)).alloc (.cells (byt (zr 32)).toArray 32)) (w.heap.size + 1) 32 (byt (zr 32))) := hide (Blk.new' _ _ (by simp))
  have HX0 : Hid (Ext w ((w.alloc (.cells (byt (zr 32)).toArray 32)).alloc (.cells (byt (zr 32)).toArray 32))) := hide (((Ext.refl w).alloc _).alloc _)
  go_enter Tryd.func32, Tryd.ntmps32
  go_wp2_with (first
    | (refine wpList_loadB rfl 32 (.tmp 4) rfl HB1.out rfl _ Tryd.underlying32 rfl (by kernel_rfl) ?_)
    | (refine wpList_storeB rfl 32 (.tmp 2) (.tmp 11) rfl HB0.out rfl rfl (by kernel_rfl) rfl (byt_one _) ?_))
  refine bodyPost_ret (v := .tuple #[.agg (byt (zr 32)).toArray, .int .i64 6]) (results_row_tmp rfl _ _ w.heap.size 32 (byt (zr 32)).toArray (0, 0) _ rfl (HB0.out.setRow _) Tryd.underlying32 rfl (by kernel_rfl) rfl) rfl ⟨rfl, Below.setRow HX0.out (Nat.le_refl _) _⟩
set_option maxHeartbeats 2000000 in
theorem parse_64 (s : ByteArray) (w : World) (h : s.size = 64) : Calls Tryd.prog 32 #[.string s] w fun e w' => e = .returned (.tuple #[.agg (byt (parseV (sb s))).toArray, .int .i64 (parseE (sb s))]) ∧ Ext w w' := by
  have hs : ((s.size : Int) != 64) = false := by simp [h]
  have hl : (sb s).length = 64 := by simp [h]
  obtain ⟨l, hl'⟩ : ∃ l, sb s = l := ⟨_, rfl⟩
  have hb : isB l := hl' ▸ sb_isB s
  have HB0 : Hid (Blk ((w.alloc (.cells (byt (zr 32)).toArray 32)).alloc (.cells (byt (zr 32)).toArray 32)) w.heap.size 32 (byt (zr 32))) := hide ((Blk.new _ _ _).alloc _)
  have HB1 : Hid (Blk ((w.alloc (.cells (byt (zr 32)).toArray 32)).alloc (.cells (byt (zr 32)).toArray 32)) (w.heap.size + 1) 32 (byt (zr 32))) := hide (Blk.new' _ _ (by simp))
  have HX0 : Hid (Ext w ((w.alloc (.cells (byt (zr 32)).toArray 32)).alloc (.cells (byt (zr 32)).toArray 32))) := hide (((Ext.refl w).alloc _).alloc _)
  have HH := hide h
  rw [hl'] at hl
  rw [hl']
  have HL' := hide hl'
  have HLn := hide hl
  have HBy := hide hb
  clear h hl' hl hb
  have HG : okH l 64 = true ∨ okH l 64 = false := by cases okH l 64 <;> simp
  have HV : Hid (okH l 64 = true → parseV l = prs l 32 ∧ parseE l = 0) := hide fun hg => by unfold parseV parseE; simp [HLn.out, hg]
  have HF : Hid (okH l 64 = false → parseV l = zr 32 ∧ parseE l = 6) := hide fun hg => by unfold parseV parseE; simp [HLn.out, hg]
  have HG := hide HG
  go_enter Tryd.func32, Tryd.ntmps32
  go_wp2_with (refine wpList_convS rfl _ rfl rfl ?_; intro c w1 hx1 hr1; rw [HL'.out] at hr1; have HR : Hid (Rd w1 (some ⟨w.heap.size + 2, 0, none⟩) (byt l)) := hide (by simpa using hr1); have HB0' := hide (HB0.out.ext hx1); have HB1' := hide (HB1.out.ext hx1); have HX1 := hide (HX0.out.trans hx1); clear hx1 hr1 HB0 HB1 HX0; rw [HH.out])
  clear hs
  go_loopw [15] (fun i wr => ∃ k : Nat, i = .int .i64 k ∧ k ≤ 64 ∧ Hid (∀ j < k, 0 ≤ nb l j) ∧ Hid (Blk wr w.heap.size 32 (byt (zr 32))) ∧ Hid (Blk wr (w.heap.size + 1) 32 (byt (pw l k))) ∧ Hid (Rd wr (some ⟨w.heap.size + 2, 0, none⟩) (byt l)) ∧ Hid (Ext w wr)) (fun i _ => 64 - (intOf i).toNat)
  case atStart => exact ⟨0, rfl, by omega, hide (fun j hj => by omega), HB0', HB1', HR, HX1⟩
  case round =>
    obtain ⟨k, rfl, hk, HK, HA0, HA1, HRr, HX⟩ := hrel
    by_cases hlt : k < 64
    · obtain ⟨q, hq⟩ : ∃ q, k / 2 = q := ⟨_, rfl⟩
      have hq2 : q < 32 := by omega
      have hpl := pw_length l k (by omega)
      have cc := HRr.out.cell0 k (byt_at l k (by rw [HLn.out]; exact hlt))
      have cx := (HA1.out.cell q).trans (byt_at (pw l k) q (by rw [hpl]; exact hq2))
      have cf := HA1.out.free q
      have hpa := pw_at l k hlt HK.out
      have hcr := isB_at HBy.out k
      have HS : Hid (0 ≤ nb l k → (pw l k).set q (or8 ((pw l k).getD q 0) (nb l k)) = pw l (k + 1)) := hide fun hv => by rw [← hq]; exact pw_step l k hlt (fun j hj => by rcases Nat.lt_or_ge j k with h | h; exact HK.out j h; rw [show j = k by omega]; exact hv)
      have HNB : Hid (nb l k = hexv (l.getD k 0)) := hide rfl
      rw [hq] at hpa
      generalize hx : (pw l k).getD q 0 = x at *
      generalize hc : l.getD k 0 = ch at *
      have q1 : Int.tdiv (k : Int) 2 = q := by rw [Int.tdiv_eq_ediv_of_nonneg (by omega)]; omega
      have q2 : (k : Int) / 2 = q := by omega
      have l2 : (q : Int) < 32 := by omega
      have l3 : (k : Int) < 64 := by omega
      clear hx hc hq hpl
      by_cases h1 : 48 ≤ ch ∧ ch ≤ 57
      · obtain ⟨h1a, h1b⟩ := h1
        have hn : nb l k = ch - 48 := by rw [HNB.out, hexv, if_pos ⟨h1a, h1b⟩]
        have HN0 : Hid (0 ≤ nb l k) := hide (by omega)
        have HNX : Hid (Blk (wr.setCell ⟨w.heap.size + 1, q, none⟩ (.int .u8 (bits .or .u8 (x * 16) (ch - 48)))) (w.heap.size + 1) 32 (byt (pw l (k + 1)))) := hide (by
          have h := HA1.out.set q (.int .u8 (bits .or .u8 (x * 16) (ch - 48)))
          rw [byt_set] at h
          have := HS.out HN0.out
          rw [hn] at this
          rw [← this]; exact h)
        have t1 : decide (48 ≤ ch) = true := by simpa using h1a
        have t2 : decide (ch ≤ 57) = true := by simpa using h1b
        clear hn
        go_wp2_with fail
        go_roundw
        case rel => exact ⟨k + 1, by go_num, by omega, hide (fun j hj => by rcases Nat.lt_or_ge j k with h | h; exact HK.out j h; rw [show j = k by omega]; exact HN0.out), hide (HA0.out.far (by show w.heap.size ≠ w.heap.size + 1; omega) _), HNX, hide (HRr.out.upd ((Upd.refl (w.heap.size + 1) wr).cell q _) (by intro ad e; cases e; show w.heap.size + 2 ≠ w.heap.size + 1; omega)), hide (Below.setCell HX.out (by show w.heap.size ≤ w.heap.size + 1; omega) _)⟩
        case measure => simp [intOf]; omega
      · by_cases h2 : 97 ≤ ch ∧ ch ≤ 102
        · obtain ⟨h2a, h2b⟩ := h2
          have hn : nb l k = ch - 87 := by rw [HNB.out, hexv, if_neg h1, if_pos ⟨h2a, h2b⟩]
          have HN0 : Hid (0 ≤ nb l k) := hide (by omega)
          have HNX : Hid (Blk (wr.setCell ⟨w.heap.size + 1, q, none⟩ (.int .u8 (bits .or .u8 (x * 16) (ch - 97 + 10)))) (w.heap.size + 1) 32 (byt (pw l (k + 1)))) := hide (by
            have h := HA1.out.set q (.int .u8 (bits .or .u8 (x * 16) (ch - 97 + 10)))
            rw [byt_set] at h
            have := HS.out HN0.out
            rw [hn, show ch - 87 = ch - 97 + 10 by omega] at this
            rw [← this]; exact h)
          have t1 : decide (48 ≤ ch) = true := by simp; omega
          have t2 : decide (ch ≤ 57) = false := by simp; omega
          have t3 : decide (97 ≤ ch) = true := by simp; omega
          have t4 : decide (ch ≤ 102) = true := by simp; omega
          have t5 : IntKind.u8.wrap (ch - 97 + 10) = ch - 97 + 10 := by simp only [IntKind.wrap_u8]; omega
          clear hn h1
          go_wp2_with fail
          go_roundw
          case rel => exact ⟨k + 1, by go_num, by omega, hide (fun j hj => by rcases Nat.lt_or_ge j k with h | h; exact HK.out j h; rw [show j = k by omega]; exact HN0.out), hide (HA0.out.far (by show w.heap.size ≠ w.heap.size + 1; omega) _), HNX, hide (HRr.out.upd ((Upd.refl (w.heap.size + 1) wr).cell q _) (by intro ad e; cases e; show w.heap.size + 2 ≠ w.heap.size + 1; omega)), hide (Below.setCell HX.out (by show w.heap.size ≤ w.heap.size + 1; omega) _)⟩
          case measure => simp [intOf]; omega
        · have hn : nb l k = -1 := by rw [HNB.out, hexv, if_neg h1, if_neg h2]
          have hbad : okH l 64 = false := by
            cases hh : okH l 64 with
            | false => rfl
            | true => have := (okH_iff l 64).1 hh k hlt; omega
          have HVV := hide (HF.out hbad)
          clear hn hbad
          rcases (show ch < 48 ∨ (57 < ch ∧ ch < 97) ∨ 102 < ch by omega) with h3 | ⟨h3, h4⟩ | h3
          · have t1 : decide (48 ≤ ch) = false := by simp; omega
            have t3 : decide (97 ≤ ch) = false := by simp; omega
            clear h1 h2
            go_wp2_with (refine wpList_storeB rfl 32 (.tmp 2) (.tmp 20) (cs := byt (zr 32)) rfl HA0.out rfl rfl (by kernel_rfl) rfl (byt_one _) ?_)
            refine bodyPost_ret (v := .tuple #[.agg (byt (zr 32)).toArray, .int .i64 6]) (results_row_tmp rfl _ _ w.heap.size 32 (byt (zr 32)).toArray (0, 0) _ rfl (HA0.out.setRow _) Tryd.underlying32 rfl (by kernel_rfl) rfl) rfl ⟨by rw [HVV.out.1, HVV.out.2], Below.setRow HX.out (Nat.le_refl _) _⟩
          · have t1 : decide (48 ≤ ch) = true := by simp; omega
            have t2 : decide (ch ≤ 57) = false := by simp; omega
            have t3 : decide (97 ≤ ch) = false := by simp; omega
            clear h1 h2
            go_wp2_with (refine wpList_storeB rfl 32 (.tmp 2) (.tmp 20) (cs := byt (zr 32)) rfl HA0.out rfl rfl (by kernel_rfl) rfl (byt_one _) ?_)
            refine bodyPost_ret (v := .tuple #[.agg (byt (zr 32)).toArray, .int .i64 6]) (results_row_tmp rfl _ _ w.heap.size 32 (byt (zr 32)).toArray (0, 0) _ rfl (HA0.out.setRow _) Tryd.underlying32 rfl (by kernel_rfl) rfl) rfl ⟨by rw [HVV.out.1, HVV.out.2], Below.setRow HX.out (Nat.le_refl _) _⟩
          · have t1 : decide (48 ≤ ch) = true := by simp; omega
            have t2 : decide (ch ≤ 57) = false := by simp; omega
            have t3 : decide (97 ≤ ch) = true := by simp; omega
            have t4 : decide (ch ≤ 102) = false := by simp; omega
            clear h1 h2
            go_wp2_with (refine wpList_storeB rfl 32 (.tmp 2) (.tmp 20) (cs := byt (zr 32)) rfl HA0.out rfl rfl (by kernel_rfl) rfl (byt_one _) ?_)
            refine bodyPost_ret (v := .tuple #[.agg (byt (zr 32)).toArray, .int .i64 6]) (results_row_tmp rfl _ _ w.heap.size 32 (byt (zr 32)).toArray (0, 0) _ rfl (HA0.out.setRow _) Tryd.underlying32 rfl (by kernel_rfl) rfl) rfl ⟨by rw [HVV.out.1, HVV.out.2], Below.setRow HX.out (Nat.le_refl _) _⟩
    · obtain rfl : k = 64 := by omega
      rw [show ((64 : Nat) : Int) = 64 from rfl]
      have HVV := hide (HV.out ((okH_iff l 64).2 HK.out))
      have HA : Hid (Blk wr (w.heap.size + 1) 32 (byt (prs l 32))) := hide (by
        have h := HA1.out
        have e : pw l 64 = prs l 32 := by unfold pw; simp [zr]
        rw [e] at h; exact h)
      have HPL : Hid ((byt (prs l 32)).length = 32) := hide (by rw [byt_length, prs_length])
      go_wp2_with (first
        | (refine wpList_loadB rfl 32 (.tmp 4) rfl HA.out rfl _ Tryd.underlying32 rfl (by rw [HPL.out]; kernel_rfl) ?_)
        | (refine wpList_storeB rfl 32 (.tmp 2) (.tmp 51) rfl HA0.out rfl rfl (by rw [HPL.out]; kernel_rfl) (by rw [HPL.out]; rfl) (byt_one _) ?_))
      refine bodyPost_ret (v := .tuple #[.agg (byt (prs l 32)).toArray, .int .i64 0]) (results_row_tmp rfl _ _ w.heap.size 32 (byt (prs l 32)).toArray (0, 0) _ rfl (HA0.out.setRow _) Tryd.underlying32 rfl (by rw [List.size_toArray, HPL.out]; kernel_rfl) rfl) rfl ⟨by rw [HVV.out.1, HVV.out.2], Below.setRow HX.out (Nat.le_refl _) _⟩
theorem parse_any (s : ByteArray) (w : World) : Calls Tryd.prog 32 #[.string s] w fun e w' => e = .returned (.tuple #[.agg (byt (parseV (sb s))).toArray, .int .i64 (parseE (sb s))]) ∧ Ext w w' := by
  by_cases h : s.size = 64
  · exact parse_64 s w h
  · have e1 : parseV (sb s) = zr 32 := by unfold parseV; rw [if_neg (by rw [sb_length]; exact fun h' => h h'.1)]
    have e2 : parseE (sb s) = 6 := by unfold parseE; rw [if_neg (by rw [sb_length]; exact fun h' => h h'.1)]
    rw [e1, e2]; exact parse_len s w h
end Go.Proofs.YtmflanhcddehlaaDoor
