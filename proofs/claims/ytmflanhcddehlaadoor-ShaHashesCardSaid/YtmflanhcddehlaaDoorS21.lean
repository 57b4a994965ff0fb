/- The walks of the reference's digit, Parse and Hex. -/
import Derived.Test.YtmflanhcddehlaaDoorS20
namespace Go.Proofs.YtmflanhcddehlaaDoor
open Go.RowKit Go.Gr
set_option linter.unusedVariables false
attribute [local go_sem] rdOp rdAt rdUpon Cls
theorem hex_at64 (d : Nat) (h1 : d < 16) (w : World) : (Instr.index 9 (.string { data := #[48, 49, 50, 51, 52, 53, 54, 55, 56, 57, 97, 98, 99, 100, 101, 102] }) (.int .i64 (d : Int))).run Tryd.prog w = .ok (.int .u8 (hexd d)) w := by
  rcases (show d = 0 ∨ d = 1 ∨ d = 2 ∨ d = 3 ∨ d = 4 ∨ d = 5 ∨ d = 6 ∨ d = 7 ∨ d = 8 ∨ d = 9 ∨ d = 10 ∨ d = 11 ∨ d = 12 ∨ d = 13 ∨ d = 14 ∨ d = 15 by omega) with rfl | rfl | rfl | rfl | rfl | rfl | rfl | rfl | rfl | rfl | rfl | rfl | rfl | rfl | rfl | rfl <;> kernel_rfl
theorem hexv_hexd (d : Nat) (h : d < 16) : hexv (hexd d) = d := by
  unfold hexd hexv; split <;> split <;> (try split) <;> omega
theorem hexv_none (c : Int) (h : ∀ j : Nat, j < 16 → hexd j ≠ c) : hexv c = -1 := by
  unfold hexv
  rw [if_neg, if_neg]
  · intro hc
    refine h (c - 87).toNat (by omega) ?_
    unfold hexd; rw [if_neg (by omega)]; omega
  · intro hc
    refine h (c - 48).toNat (by omega) ?_
    unfold hexd; rw [if_pos (by omega)]; omega
set_option maxHeartbeats 400000 in
theorem digit_any (c : Int) (w : World) : Calls Tryd.prog 42 #[.int .u8 c] w fun e w' => e = .returned (.int .i64 (hexv c)) ∧ w' = w := by
  go_enter Tryd.func42, Tryd.ntmps42
  go_wp2_with fail
  go_loop [3] (fun i => ∃ k : Nat, i = .int .i64 k ∧ k ≤ 16 ∧ Hid (∀ j : Nat, j < k → hexd j ≠ c)) (fun i => 16 - (intOf i).toNat)
  case atStart => exact ⟨0, rfl, by omega, hide (fun j hj => by omega)⟩
  case round =>
    obtain ⟨k, rfl, hk, HK⟩ := hrel
    by_cases hlt : k < 16
    · have hix := hex_at64 k hlt
      have l3 : (k : Int) < 16 := by omega
      by_cases hc : hexd k = c
      · have HV : Hid (hexv c = k) := hide (by rw [← hc]; exact hexv_hexd k hlt)
        have t1 : (hexd k == c) = true := by simpa using hc
        clear hc
        go_wp2_with fail
        go_ret
        exact ⟨by rw [HV.out]; rfl, rfl⟩
      · have t1 : (hexd k == c) = false := by simpa using hc
        go_wp2_with fail
        go_round
        case rel => exact ⟨k + 1, by go_num, by omega, hide (fun j hj => by rcases Nat.lt_or_ge j k with h | h; exact HK.out j h; rw [show j = k by omega]; exact hc)⟩
        case measure => simp [intOf]; omega
    · obtain rfl : k = 16 := by omega
      rw [show ((16 : Nat) : Int) = 16 from rfl]
      have HV := hide (hexv_none c HK.out)
      go_wp2_with fail
      go_ret
      exact ⟨by rw [HV.out]; rfl, rfl⟩
theorem str_at (s : ByteArray) (k : Nat) (h : k < s.size) (i : Int) (hi : i = k) (w : World) : (Instr.index 9 (.string s) (.int .i64 i)).run Tryd.prog w = .ok (.int .u8 ((sb s).getD k 0)) w := by
  subst hi
  rw [run_index_string w 9 s .i64 (k : Int) Tryd.underlying9, dif_pos ⟨by omega, by omega⟩, sb_getD s k h]
  rfl
theorem prs_next {w : World} {g : Nat} {l : List Int} {k : Nat} (hB : Blk w g 32 (byt (prs l k ++ zr (32 - k)))) (hk : k < 32) {x : Int} (hx : x = 16 * nb l (2 * k) + nb l (2 * k + 1)) :
    w.cell? ⟨g, k, none⟩ = some (.int .u8 0) ∧ Blk (w.setCell ⟨g, k, none⟩ (.int .u8 x)) g 32 (byt (prs l (k + 1) ++ zr (32 - (k + 1)))) := by
  subst hx
  have e : zr (32 - k) = 0 :: zr (31 - k) := by
    have : 32 - k = (31 - k) + 1 := by omega
    rw [this]; rfl
  rw [e] at hB
  refine ⟨(hB.cell k).trans ?_, ?_⟩
  · rw [byt_at _ k (by simp [prs_length]), get_mid _ _ _ _ (prs_length l k)]
  · have h := hB.set k (.int .u8 (16 * nb l (2 * k) + nb l (2 * k + 1)))
    rw [byt_set, set_mid _ _ _ _ _ (prs_length l k)] at h
    have e2 : prs l (k + 1) ++ zr (32 - (k + 1)) = prs l k ++ (16 * nb l (2 * k) + nb l (2 * k + 1)) :: zr (31 - k) := by
      rw [prs, show 32 - (k + 1) = 31 - k by omega]; simp
    rw [e2]; exact h
set_option maxHeartbeats 1000000 in
theorem rparse_len (s : ByteArray) (w : World) (h : s.size ≠ 64) : Calls Tryd.prog 33 #[.string s] w fun e w' => e = .returned (.tuple #[.agg (byt (zr 32)).toArray, .int .i64 6]) ∧ Ext w w' := by
  have hs : ((s.size : Int) != 64) = true := by simp; omega
  have HB0 : Hid (Blk ((w.alloc (.cells (byt (zr 32)).toArray 32)).alloc (.cells (byt (zr 32)).toArray 32)) w.heap.size 32 (byt (zr 32))) := hide ((Blk.new _ _ _).alloc _)
  have HB1 : Hid (Blk ((w.alloc (.cells (byt (zr 32)).toArray 32)).alloc (.cells (byt (zr 32)).toArray 32)) (w.heap.size + 1) 32 (byt (zr 32))) := hide (Blk.new' _ _ (by simp))
  have HX0 : Hid (Ext w ((w.alloc (.cells (byt (zr 32)).toArray 32)).alloc (.cells (byt (zr 32)).toArray 32))) := hide (((Ext.refl w).alloc _).alloc _)
  go_enter Tryd.func33, Tryd.ntmps33
  go_wp2_with (first
    | (refine wpList_loadB rfl 32 (.tmp 4) rfl HB1.out rfl _ Tryd.underlying32 rfl (by kernel_rfl) ?_)
    | (refine wpList_storeB rfl 32 (.tmp 2) (.tmp 11) rfl HB0.out rfl rfl (by kernel_rfl) rfl (byt_one _) ?_))
  refine bodyPost_ret (v := .tuple #[.agg (byt (zr 32)).toArray, .int .i64 6]) (results_row_tmp rfl _ _ w.heap.size 32 (byt (zr 32)).toArray (0, 0) _ rfl (HB0.out.setRow _) Tryd.underlying32 rfl (by kernel_rfl) rfl) rfl ⟨rfl, Below.setRow HX0.out (Nat.le_refl _) _⟩
set_option maxHeartbeats 2000000 in
theorem rparse_64 (s : ByteArray) (w : World) (h : s.size = 64) : Calls Tryd.prog 33 #[.string s] w fun e w' => e = .returned (.tuple #[.agg (byt (parseV (sb s))).toArray, .int .i64 (parseE (sb s))]) ∧ Ext w w' := by
  have hs : ((s.size : Int) != 64) = false := by simp [h]
  have hl : (sb s).length = 64 := by simp [h]
  have HIX : Hid (∀ (k : Nat) (i : Int) (x : World), k < 64 → i = k → (Instr.index 9 (.string s) (.int .i64 i)).run Tryd.prog x = .ok (.int .u8 ((sb s).getD k 0)) x) := hide fun k i x hk hi => str_at s k (by omega) i hi x
  generalize sb s = l at *
  have HB0 : Hid (Blk ((w.alloc (.cells (byt (zr 32)).toArray 32)).alloc (.cells (byt (zr 32)).toArray 32)) w.heap.size 32 (byt (zr 32))) := hide ((Blk.new _ _ _).alloc _)
  have HB1 : Hid (Blk ((w.alloc (.cells (byt (zr 32)).toArray 32)).alloc (.cells (byt (zr 32)).toArray 32)) (w.heap.size + 1) 32 (byt (prs l 0 ++ zr (32 - 0)))) := hide (Blk.new' _ _ (by simp))
  have HX0 : Hid (Ext w ((w.alloc (.cells (byt (zr 32)).toArray 32)).alloc (.cells (byt (zr 32)).toArray 32))) := hide (((Ext.refl w).alloc _).alloc _)
  have HH := hide h
  have HLn := hide hl
  clear h hl
  have HV : Hid (okH l 64 = true → parseV l = prs l 32 ∧ parseE l = 0) := hide fun hg => by unfold parseV parseE; simp [HLn.out, hg]
  have HF : Hid (okH l 64 = false → parseV l = zr 32 ∧ parseE l = 6) := hide fun hg => by unfold parseV parseE; simp [HLn.out, hg]
  go_enter Tryd.func33, Tryd.ntmps33
  go_wp2_with fail
  clear hs
  go_loopw [5] (fun i wr => ∃ k : Nat, i = .int .i64 k ∧ k ≤ 32 ∧ Hid (∀ j < 2 * k, 0 ≤ nb l j) ∧ Hid (Blk wr w.heap.size 32 (byt (zr 32))) ∧ Hid (Blk wr (w.heap.size + 1) 32 (byt (prs l k ++ zr (32 - k)))) ∧ Hid (Ext w wr)) (fun i _ => 32 - (intOf i).toNat)
  case atStart => exact ⟨0, rfl, by omega, hide (fun j hj => by omega), HB0, HB1, HX0⟩
  case round =>
    obtain ⟨k, rfl, hk, HK, HA0, HA1, HX⟩ := hrel
    by_cases hlt : k < 32
    · have hi1 := fun x => HIX.out (2 * k) (2 * (k : Int)) x (by omega) (by omega)
      have hi2 := fun x => HIX.out (2 * k + 1) (2 * (k : Int) + 1) x (by omega) (by omega)
      have hr1 := hexv_range (l.getD (2 * k) 0)
      have hr2 := hexv_range (l.getD (2 * k + 1) 0)
      have HBAD : Hid (hexv (l.getD (2 * k) 0) < 0 ∨ hexv (l.getD (2 * k + 1) 0) < 0 → parseV l = zr 32 ∧ parseE l = 6) := hide fun hh => HF.out (by
        cases h : okH l 64 with
        | false => rfl
        | true => have := (okH_iff l 64).1 h; have h1 := this (2 * k) (by omega); have h2 := this (2 * k + 1) (by omega); unfold nb at h1 h2; omega)
      have HNX : Hid (0 ≤ hexv (l.getD (2 * k) 0) → 0 ≤ hexv (l.getD (2 * k + 1) 0) → ∀ j < 2 * (k + 1), 0 ≤ nb l j) := hide fun h1 h2 j hj => by
        rcases (show j < 2 * k ∨ j = 2 * k ∨ j = 2 * k + 1 by omega) with h | rfl | rfl
        · exact HK.out j h
        · exact h1
        · exact h2
      have HPP : Hid (∀ n : Nat, Blk ((wr.drewN n).setCell ⟨w.heap.size + 1, k, none⟩ (.int .u8 (16 * hexv (l.getD (2 * k) 0) + hexv (l.getD (2 * k + 1) 0)))) (w.heap.size + 1) 32 (byt (prs l (k + 1) ++ zr (32 - (k + 1))))) := hide fun n => (prs_next (HA1.out.drewN n) hlt rfl).2
      have cx := (prs_next HA1.out hlt rfl).1
      generalize l.getD (2 * k) 0 = ca at *
      generalize l.getD (2 * k + 1) 0 = cb at *
      have hda := digit_any ca
      have hdb := digit_any cb
      generalize hexv ca = a at *
      generalize hexv cb = b at *
      have HDA := hide hda
      have HDB := hide hdb
      clear hda hdb
      have cf := HA1.out.free k
      have w1 : IntKind.i64.wrap (2 * (k : Int)) = 2 * (k : Int) := IntWalk.i64_in _ (by omega)
      have w2 : IntKind.i64.wrap (2 * (k : Int) + 1) = 2 * (k : Int) + 1 := IntWalk.i64_in _ (by omega)
      have l3 : (k : Int) < 32 := by omega
      by_cases ha : a < 0
      · have t1 : decide (a < 0) = true := by simpa using ha
        have HVV := hide (HBAD.out (.inl ha))
        clear ha cx cf
        go_wp2_with fail
        go_quiet (first | (go_at_call_of 42 (Value.int IntKind.u8 ca); exact Calls.quiet_of_same (HDA.out _)) | exact Calls.quiet_of_same (HDB.out _))
        go_wp2_with (refine wpList_storeB rfl 32 (.tmp 2) (.tmp 33) (cs := byt (zr 32)) rfl (HA0.out.drewN nq) rfl rfl (by kernel_rfl) rfl (byt_one _) ?_)
        refine bodyPost_ret (v := .tuple #[.agg (byt (zr 32)).toArray, .int .i64 6]) (results_row_tmp rfl _ _ w.heap.size 32 (byt (zr 32)).toArray (0, 0) _ rfl ((HA0.out.drewN nq).setRow _) Tryd.underlying32 rfl (by kernel_rfl) rfl) rfl ⟨by rw [HVV.out.1, HVV.out.2], Below.setRow (HX.out.drewN nq) (Nat.le_refl _) _⟩
      · have t1 : decide (a < 0) = false := by simpa using ha
        by_cases hb : b < 0
        · have t2 : decide (b < 0) = true := by simpa using hb
          have HVV := hide (HBAD.out (.inr hb))
          clear ha hb cx cf
          go_wp2_with fail
          go_quiet (first | (go_at_call_of 42 (Value.int IntKind.u8 ca); exact Calls.quiet_of_same (HDA.out _)) | exact Calls.quiet_of_same (HDB.out _))
          go_wp2_with (refine wpList_storeB rfl 32 (.tmp 2) (.tmp 33) (cs := byt (zr 32)) rfl (HA0.out.drewN nq) rfl rfl (by kernel_rfl) rfl (byt_one _) ?_)
          refine bodyPost_ret (v := .tuple #[.agg (byt (zr 32)).toArray, .int .i64 6]) (results_row_tmp rfl _ _ w.heap.size 32 (byt (zr 32)).toArray (0, 0) _ rfl ((HA0.out.drewN nq).setRow _) Tryd.underlying32 rfl (by kernel_rfl) rfl) rfl ⟨by rw [HVV.out.1, HVV.out.2], Below.setRow (HX.out.drewN nq) (Nat.le_refl _) _⟩
        · have t2 : decide (b < 0) = false := by simpa using hb
          have w3 : IntKind.u8.wrap (16 * a + b) = 16 * a + b := by simp only [IntKind.wrap_u8]; omega
          have w4 : IntKind.i64.wrap (16 * a) = 16 * a := IntWalk.i64_in _ (by omega)
          have w5 : IntKind.i64.wrap (16 * a + b) = 16 * a + b := IntWalk.i64_in _ (by omega)
          have HNN := hide (HNX.out (by omega) (by omega))
          clear ha hb
          go_wp2_with fail
          go_quiet (first | (go_at_call_of 42 (Value.int IntKind.u8 ca); exact Calls.quiet_of_same (HDA.out _)) | exact Calls.quiet_of_same (HDB.out _))
          go_wp2_with fail
          go_roundw
          case rel => exact ⟨k + 1, by go_num, by omega, HNN, hide ((HA0.out.drewN nq).far (by show w.heap.size ≠ w.heap.size + 1; omega) _), hide (HPP.out nq), hide (Below.setCell (HX.out.drewN nq) (by show w.heap.size ≤ w.heap.size + 1; omega) _)⟩
          case measure => simp [intOf]; omega
    · obtain rfl : k = 32 := by omega
      rw [show ((32 : Nat) : Int) = 32 from rfl]
      have HVV := hide (HV.out ((okH_iff l 64).2 (fun j hj => HK.out j (by omega))))
      have HA : Hid (Blk wr (w.heap.size + 1) 32 (byt (prs l 32))) := hide (by
        have h := HA1.out
        have e : prs l 32 ++ zr (32 - 32) = prs l 32 := by simp [zr]
        rw [e] at h; exact h)
      have HPL : Hid ((byt (prs l 32)).length = 32) := hide (by rw [byt_length, prs_length])
      go_wp2_with (first
        | (refine wpList_loadB rfl 32 (.tmp 4) rfl HA.out rfl _ Tryd.underlying32 rfl (by rw [HPL.out]; kernel_rfl) ?_)
        | (refine wpList_storeB rfl 32 (.tmp 2) (.tmp 41) rfl HA0.out rfl rfl (by rw [HPL.out]; kernel_rfl) (by rw [HPL.out]; rfl) (byt_one _) ?_))
      refine bodyPost_ret (v := .tuple #[.agg (byt (prs l 32)).toArray, .int .i64 0]) (results_row_tmp rfl _ _ w.heap.size 32 (byt (prs l 32)).toArray (0, 0) _ rfl (HA0.out.setRow _) Tryd.underlying32 rfl (by rw [List.size_toArray, HPL.out]; kernel_rfl) rfl) rfl ⟨by rw [HVV.out.1, HVV.out.2], Below.setRow HX.out (Nat.le_refl _) _⟩
theorem rparse_any (s : ByteArray) (w : World) : Calls Tryd.prog 33 #[.string s] w fun e w' => e = .returned (.tuple #[.agg (byt (parseV (sb s))).toArray, .int .i64 (parseE (sb s))]) ∧ Ext w w' := by
  by_cases h : s.size = 64
  · exact rparse_64 s w h
  · have e1 : parseV (sb s) = zr 32 := by unfold parseV; rw [if_neg (by rw [sb_length]; exact fun h' => h h'.1)]
    have e2 : parseE (sb s) = 6 := by unfold parseE; rw [if_neg (by rw [sb_length]; exact fun h' => h h'.1)]
    rw [e1, e2]; exact rparse_len s w h
theorem strOfNums_append (a b : List Int) : strOfNums a ++ strOfNums b = strOfNums (a ++ b) := by
  apply ByteArray.ext
  simp [strOfNums]
theorem add_str (a b : List Int) (h : a.length + b.length ≤ 1000000) (w : World) : (Op.stringOp .add (strOfNums a) (strOfNums b)).run Tryd.prog w = .ok (.string (strOfNums (a ++ b))) w := by
  rw [run_string_add_sum w _ _ (by rw [strOfNums_size, strOfNums_size]; omega), strOfNums_append]
theorem digs_at (d : Int) (h0 : 0 ≤ d) (h1 : d < 16) (w : World) : (Instr.slice 9 (.string { data := #[48, 49, 50, 51, 52, 53, 54, 55, 56, 57, 97, 98, 99, 100, 101, 102] }) (some (.int .u8 d)) (some (.int .u8 (d + 1))) none).run Tryd.prog w = .ok (.string (strOfNums [hexd d])) w := by
  rcases (show d = 0 ∨ d = 1 ∨ d = 2 ∨ d = 3 ∨ d = 4 ∨ d = 5 ∨ d = 6 ∨ d = 7 ∨ d = 8 ∨ d = 9 ∨ d = 10 ∨ d = 11 ∨ d = 12 ∨ d = 13 ∨ d = 14 ∨ d = 15 by omega) with rfl | rfl | rfl | rfl | rfl | rfl | rfl | rfl | rfl | rfl | rfl | rfl | rfl | rfl | rfl | rfl <;> kernel_rfl
set_option maxHeartbeats 1000000 in
theorem rhex_any (l : List Int) (w : World) (hl : l.length = 32) (hb : isB l) : Calls Tryd.prog 35 #[.agg (byt l).toArray] w fun e w' => e = .returned (.string (strOfNums (hexB l))) ∧ Ext w w' := by
  have HLn := hide hl
  have HBy := hide hb
  clear hl hb
  go_enter Tryd.func35, Tryd.ntmps35
  have HB0 : Hid (Blk (w.alloc (.cells (byt l).toArray 32)) w.heap.size 32 (byt l)) := hide (Blk.new _ _ _)
  have HX0 : Hid (Ext w (w.alloc (.cells (byt l).toArray 32))) := hide ((Ext.refl w).alloc _)
  go_wp2_with fail
  go_loopw [3, 4] (fun v i wr => ∃ k : Nat, i = .int .i64 k ∧ k ≤ 32 ∧ v = .string (strOfNums (hexB (l.take k))) ∧ Hid (Blk wr w.heap.size 32 (byt l)) ∧ Hid (Ext w wr)) (fun _ i _ => 32 - (intOf i).toNat)
  case atStart => exact ⟨0, rfl, by omega, rfl, HB0, HX0⟩
  case round =>
    obtain ⟨k, rfl, hk, rfl, HB, HX⟩ := hrel
    by_cases hlt : k < 32
    · have cx := (HB.out.cell k).trans (byt_at l k (by rw [HLn.out]; exact hlt))
      have hx := isB_at HBy.out k
      have HN := hide (hexB_next l k (by rw [HLn.out]; exact hlt))
      have hpl : (hexB (l.take k)).length ≤ 64 := by rw [hexB_length, List.length_take]; omega
      generalize l.getD k 0 = x at *
      generalize hexB (l.take k) = p at *
      have ha1 := add_str p [hexd (x / 16)] (by simp; omega)
      have ha2 := add_str (p ++ [hexd (x / 16)]) [hexd (x % 16)] (by simp; omega)
      clear hpl
      have hd1 := digs_at (x / 16) (by omega) (by omega)
      have hd2 := digs_at (x % 16) (by omega) (by omega)
      have l3 : (k : Int) < 32 := by omega
      have w1 : Int.tdiv x 16 = x / 16 := Int.tdiv_eq_ediv_of_nonneg (by omega)
      have w2 : Int.tmod x 16 = x % 16 := Int.tmod_eq_emod_of_nonneg (by omega)
      have w3 : IntKind.u8.wrap (x / 16 + 1) = x / 16 + 1 := by simp only [IntKind.wrap_u8]; omega
      have w4 : IntKind.u8.wrap (x % 16 + 1) = x % 16 + 1 := by simp only [IntKind.wrap_u8]; omega
      have w5 : IntKind.u8.wrap (x / 16) = x / 16 := by simp only [IntKind.wrap_u8]; omega
      go_wp2_with fail
      go_quiet (fail)
      go_wp2_with fail
      go_roundw
      case rel => exact ⟨k + 1, by go_num, by omega, by rw [HN.out], hide (HB.out.drewN nq), hide (HX.out.drewN nq)⟩
      case measure => simp [intOf]; omega
    · obtain rfl : k = 32 := by omega
      rw [show ((32 : Nat) : Int) = 32 from rfl]
      have HE : Hid (hexB (l.take 32) = hexB l) := hide (by rw [List.take_of_length_le (by rw [HLn.out]; exact Nat.le_refl _)])
      go_wp2_with fail
      go_ret
      exact ⟨by rw [HE.out]; rfl, HX.out⟩
end Go.Proofs.YtmflanhcddehlaaDoor
