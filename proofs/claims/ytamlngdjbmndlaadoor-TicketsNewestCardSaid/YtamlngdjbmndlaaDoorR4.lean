/- Hmac: the reference's Tag. -/
import Derived.Test.YtamlngdjbmndlaaDoorR3
namespace Go.Proofs.YtamlngdjbmndlaaDoor
open Go.RowKit Go.Gr
set_option linter.unusedVariables false
set_option linter.unusedSimpArgs false
theorem isB_append {a b : List Int} (h : isB a) (k : isB b) : isB (a ++ b) := fun x hx => (List.mem_append.1 hx).elim (h x) (k x)
set_option maxRecDepth 100000 in
set_option maxHeartbeats 2000000 in
theorem rtag_any (key l : List Int) (A : Option Addr) (c : Nat) (B : Option Addr) (cb : Nat) (w : World) (hr : Rd w A (byt key)) (hb : isB key) (hc : key.length ≤ c) (hlen : key.length ≤ 100000)
    (hrb : Rd w B (byt l)) (hbb : isB l) (hlb : l.length ≤ 100000) :
    Calls Tryd.prog 45 #[.slice A key.length c, .slice B l.length cb] w fun e w' => e = .returned (.agg (byt (tagB key l)).toArray) ∧ Ext w w' := by
  obtain ⟨i0, hi, hz0, hz1, hz2⟩ := info_parts info8
  have HR := hide hr
  have HB := hide hb
  have HRB := hide hrb
  obtain ⟨t, HT⟩ : ∃ t, Hid (tagB key l = t) := ⟨_, hide rfl⟩
  have HTL : Hid ((byt t).length = 32) := hide (by rw [byt_length, ← HT.out, tagB_len])
  obtain ⟨m, HM⟩ : ∃ m, Hid (xorB 54 (keyB key) ++ l = m) := ⟨_, hide rfl⟩
  have HMB : Hid (isB m) := hide (by rw [← HM.out]; exact isB_append (xorB_isB (by decide) (keyB_isB hb)) hbb)
  have HML : Hid (m.length ≤ 100064) := hide (by rw [← HM.out, List.length_append, ik_len]; omega)
  obtain ⟨d, HD⟩ : ∃ d, Hid (digest m = d) := ⟨_, hide rfl⟩
  have HDL : Hid ((byt d).length = 32) := hide (by rw [byt_length, ← HD.out, digest_len])
  have HDN : Hid (d.length = 32) := hide (by rw [← HD.out, digest_len])
  have HDB : Hid (isB d) := hide (by rw [← HD.out]; exact digest_isB m)
  have HT2 : Hid (digest (xorB 92 (keyB key) ++ d) = t) := hide (by rw [← HT.out, ← HD.out, ← HM.out]; rfl)
  rw [HT.out]
  clear hr hb hrb hbb
  have tok : True := trivial
  go_enter Tryd.func45, Tryd.ntmps45
  go_wp2_with ((have zz := tok; clear zz tok; refine wpList_alS (Sep.refl No w) rfl 36 rfl (Z8 32) (by kernel_rfl) ?_; intro w1 _ H1))
  (with_reducible refine (rpadded_any key l A c B cb 54 _ (H1.rdN HR.out) HB.out hc hlen (H1.rdN HRB.out) hlb (by decide)).mono ?_)
  rintro e w2 ⟨v, rfl, H2'⟩
  rw [HM.out] at H2'
  have H2 := H1.join H2'
  dsimp only [List.nil_append, List.cons_append] at H2
  clear H1 H2'
  obtain ⟨Av, cv, rfl, hrv, hlv⟩ := own_form (H2.owns (List.Mem.head _))
  have HS := hide (rsum_any m Av cv w2 hrv HMB.out hlv (by have := HML.out; omega))
  rw [HD.out] at HS
  clear hrv
  go_wp2_with fail
  (with_reducible refine HS.out.mono ?_)
  rintro e w3 ⟨rfl, hx3⟩
  have H3 := (H2.ext hx3).tail
  have hs3 : w.heap.size < w3.heap.size := (H3.blk (g := w.heap.size) (e := 36) (cs := Z8 32) (List.Mem.head _)).lt
  clear H2 hx3 HS
  have tok2 : True := trivial
  have tok3 : True := trivial
  go_wp2_with (first
    | (have zz := tok2; clear zz tok2; refine wpList_alS H3 rfl 36 rfl (Z8 32) (by kernel_rfl) ?_; intro w4 _ H4; clear H3)
    | (have zz := tok3; clear zz tok3; refine wpList_stS [] H4 rfl 36 (.tmp 5) (.tmp 11) rfl rfl (cs := byt d) rfl (by rw [HDL.out]; kernel_rfl) (by rw [HDL.out]; rfl) (byt_one _) ?_; intro w5 H5; dsimp only [List.nil_append] at H5; have K5 := hide H5; clear H4 H5))
  go_loopw [6, 7] (fun v i wr => ∃ k : Nat, i = .int .i64 k ∧ k ≤ 32 ∧ Hid (Sep No w wr [As.own 5 v (byt (d.take k)), As.blk w3.heap.size 36 (byt d), As.blk w.heap.size 36 (Z8 32)])) (fun _ i _ => 32 - (intOf i).toNat)
  case atStart => exact ⟨0, rfl, by omega, hide (K5.out.nilO 5)⟩
  case round =>
    obtain ⟨k, rfl, hk, HS⟩ := hrel
    clear K5
    by_cases hlt : k < 32
    · have hkd : k < d.length := by rw [HDN.out]; exact hlt
      have c1 : wr.cell? ⟨w3.heap.size, k, none⟩ = some (.int .u8 d[k]) := by
        rw [(HS.out.blk (g := w3.heap.size) (e := 36) (cs := byt d) (List.Mem.tail _ (List.Mem.head _))).cell k, byt, List.getElem?_map, List.getElem?_eq_getElem hkd, Option.map_some]
      have hk32 : (k : Int) < 32 := by omega
      have HN : Hid (d.take (k + 1) = d.take k ++ [d[k]]) := hide (List.take_succ_eq_append_getElem hkd)
      have HLE : Hid ((byt (d.take k)).length < 1000000000) := hide (by rw [byt_length, List.length_take]; omega)
      obtain ⟨y, HY⟩ : ∃ y, Hid (d[k] = y) := ⟨_, hide rfl⟩
      rw [HY.out] at c1 HN
      have tok4 : True := trivial
      go_wp2_with (have zz := tok4; clear zz tok4; refine wpList_pushS [] HS.out rfl (.tmp 16) (.tmp 20) 26 rfl i0 (.int .u8 0) 1 Tryd.underlying26 hi hz0 hz1 hz2 rfl rfl rfl rfl HLE.out (by omega) ?_; intro v4 w4 H4; dsimp only [List.nil_append] at H4; have K4 := hide H4; clear H4)
      go_roundw
      case rel => exact ⟨k + 1, by go_num, by omega, hide (by rw [HN.out, byt_append]; exact K4.out)⟩
      case measure => simp [intOf]; omega
    · obtain rfl : k = 32 := by omega
      have H6 := HS.out
      rw [List.take_of_length_le (by rw [HDN.out]; exact Nat.le_refl _)] at H6
      clear HS
      obtain ⟨Av, cv, rfl, hrv, hlv⟩ := own_form (H6.owns (List.Mem.head _))
      have HRV := hide hrv
      clear hrv
      go_wp2_with fail
      (with_reducible refine (rpadded_any key d A c Av cv 92 _ (H6.rdN HR.out) HB.out hc hlen HRV.out (by have := HDN.out; omega) (by decide)).mono ?_)
      rintro e w7 ⟨v, rfl, H7'⟩
      obtain ⟨m2, HM2⟩ : ∃ m, Hid (xorB 92 (keyB key) ++ d = m) := ⟨_, hide rfl⟩
      have HMB2 : Hid (isB m2) := hide (by rw [← HM2.out]; exact isB_append (xorB_isB (by decide) (keyB_isB HB.out)) HDB.out)
      have HML2 : Hid (m2.length ≤ 100064) := hide (by rw [← HM2.out, List.length_append, xorB_len, keyB_len]; have := HDN.out; omega)
      rw [HM2.out] at H7' HT2
      have H7 := H6.join H7'
      dsimp only [List.nil_append, List.cons_append] at H7
      clear H6 H7' HRV
      obtain ⟨Au, cu, rfl, hru, hlu⟩ := own_form (H7.owns (List.Mem.head _))
      have HS := hide (rsum_any m2 Au cu w7 hru HMB2.out hlu (by have := HML2.out; omega))
      rw [HT2.out] at HS
      clear hru
      go_wp2_with fail
      (with_reducible refine HS.out.mono ?_)
      rintro e w8 ⟨rfl, hx8⟩
      have H8 := H7.ext hx8
      clear H7 hx8 HS
      have tok5 : True := trivial
      go_wp2_with (have zz := tok5; clear zz tok5; refine wpList_stS [_, _, _] H8 rfl 36 (.tmp 4) (.tmp 25) rfl rfl (cs := byt t) rfl (by rw [HTL.out]; kernel_rfl) (by rw [HTL.out]; rfl) (byt_one _) ?_; intro w9 H9; dsimp only [List.nil_append, List.cons_append] at H9; clear H8)
      have hB := H9.blk (g := w.heap.size) (e := 36) (cs := byt t) (List.Mem.tail _ (List.Mem.tail _ (List.Mem.tail _ (List.Mem.head _))))
      refine bodyPost_ret (v := .agg (byt t).toArray) (results_cell_row rfl _ _ w.heap.size 36 (byt t).toArray (0, 0) _ rfl hB Tryd.underlying36 rfl (by rw [List.size_toArray, HTL.out]; kernel_rfl)) rfl ⟨rfl, H9.toExt⟩
end Go.Proofs.YtamlngdjbmndlaaDoor
