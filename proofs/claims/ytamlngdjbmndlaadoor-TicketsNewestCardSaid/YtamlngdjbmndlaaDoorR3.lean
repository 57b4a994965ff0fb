/- Hmac: the reference's padded. -/
import Derived.Test.YtamlngdjbmndlaaDoorH8
import Derived.Test.YtamlngdjbmndlaaDoorGa
namespace Go.Proofs.YtamlngdjbmndlaaDoor
open Go.RowKit Go.Gr
set_option linter.unusedVariables false
set_option linter.unusedSimpArgs false
/-- it returns new bytes -/
def OwnB (w : World) (l : List Int) (e : Ending) (w' : World) : Prop := ∃ v, e = .returned v ∧ Sep No w w' [As.own 5 v (byt l)]
set_option maxRecDepth 100000 in
set_option maxHeartbeats 2000000 in
theorem rpadded_any (key l : List Int) (A : Option Addr) (c : Nat) (B : Option Addr) (cb : Nat) (x : Int) (w : World) (hr : Rd w A (byt key)) (hb : isB key) (hc : key.length ≤ c) (hlen : key.length ≤ 100000)
    (hrb : Rd w B (byt l)) (hlb : l.length ≤ 100000) (hx : 0 ≤ x ∧ x < 256) :
    Calls Tryd.prog 65 #[.slice A key.length c, .int .u8 x, .slice B l.length cb] w (OwnB w (xorB x (keyB key) ++ l)) := by
  obtain ⟨i0, hi, hz0, hz1, hz2⟩ := info_parts info8
  have HRB := hide hrb
  have HB := hide (rmblock_any key A c w hr hb hc hlen)
  obtain ⟨kb, HK⟩ : ∃ kb, Hid (keyB key = kb) := ⟨_, hide rfl⟩
  have HKL : Hid ((byt kb).length = 64) := hide (by rw [byt_length, ← HK.out, keyB_len])
  have HKN : Hid (kb.length = 64) := hide (by rw [← HK.out, keyB_len])
  have HKB : Hid (isB kb) := hide (by rw [← HK.out]; exact keyB_isB hb)
  rw [HK.out] at HB ⊢
  clear hr hb hrb
  have tok : True := trivial
  have tok2 : True := trivial
  go_enter Tryd.func65, Tryd.ntmps65
  go_wp2_with fail
  (with_reducible refine HB.out.mono ?_)
  rintro e w1 ⟨rfl, hx1⟩
  have H1 := (Sep.refl No w).ext hx1
  have hs1 := hx1.size
  clear HB hx1
  go_wp2_with (first
    | (have zz := tok; clear zz tok; refine wpList_alS H1 rfl 121 rfl (Z8 64) (by kernel_rfl) ?_; intro w2 _ H2)
    | (have zz := tok2; clear zz tok2; refine wpList_stS [] H2 rfl 121 (.tmp 7) (.tmp 11) rfl rfl (cs := byt kb) rfl (by rw [HKL.out]; kernel_rfl) (by rw [HKL.out]; rfl) (byt_one _) ?_; intro w3 H3; dsimp only [List.nil_append] at H3; have K3 := hide H3; clear H2 H1 H3))
  go_loopw [8, 9] (fun v i wr => ∃ k : Nat, i = .int .i64 k ∧ k ≤ 64 ∧ Hid (Sep No w wr [As.own 5 v (byt (xorB x (kb.take k))), As.blk w1.heap.size 121 (byt kb)])) (fun _ i _ => 64 - (intOf i).toNat)
  case atStart => exact ⟨0, rfl, by omega, hide (K3.out.nilO 5)⟩
  case round =>
    obtain ⟨k, rfl, hk, HS⟩ := hrel
    clear K3
    by_cases hlt : k < 64
    · have hkd : k < kb.length := by rw [HKN.out]; exact hlt
      have c1 : wr.cell? ⟨w1.heap.size, k, none⟩ = some (.int .u8 kb[k]) := by
        rw [(HS.out.blk (g := w1.heap.size) (e := 121) (cs := byt kb) (List.Mem.tail _ (List.Mem.head _))).cell k, byt, List.getElem?_map, List.getElem?_eq_getElem hkd, Option.map_some]
      have hk64 : (k : Int) < 64 := by omega
      have HN : Hid (xorB x (kb.take (k + 1)) = xorB x (kb.take k) ++ [bits .xor .u8 kb[k] x]) := hide (by rw [List.take_succ_eq_append_getElem hkd]; unfold xorB; rw [List.map_append]; rfl)
      have HLE : Hid ((byt (xorB x (kb.take k))).length < 1000000000) := hide (by rw [byt_length, xorB_len, List.length_take]; omega)
      obtain ⟨y, HY⟩ : ∃ y, Hid (kb[k] = y) := ⟨_, hide rfl⟩
      rw [HY.out] at c1 HN
      have tok3 : True := trivial
      go_wp2_with (have zz := tok3; clear zz tok3; refine wpList_pushS [] HS.out rfl (.tmp 16) (.tmp 22) 26 rfl i0 (.int .u8 0) 1 Tryd.underlying26 hi hz0 hz1 hz2 rfl rfl rfl rfl HLE.out (by omega) ?_; intro v4 w4 H4; dsimp only [List.nil_append] at H4; have K4 := hide H4; clear H4)
      go_roundw
      case rel => exact ⟨k + 1, by go_num, by omega, hide (by rw [HN.out, byt_append]; exact K4.out)⟩
      case measure => simp [intOf]; omega
    · obtain rfl : k = 64 := by omega
      have H6 := HS.out
      rw [List.take_of_length_le (by rw [HKN.out]; exact Nat.le_refl _)] at H6
      have HXL : Hid ((byt (xorB x kb)).length = 64) := hide (by rw [byt_length, xorB_len, HKN.out])
      have tok3 : True := trivial
      clear HS
      go_wp2_with (have zz := tok3; clear zz tok3; refine wpList_apS [] H6 rfl (.tmp 24) (.tmp 25) 26 rfl i0 (.int .u8 0) 1 Tryd.underlying26 hi hz0 hz1 hz2 rfl rfl (A := B) (m := l.length) (c := cb) (news := byt l) rfl (by simp) (H6.rdN HRB.out) (byt_one _) (by rw [HXL.out, byt_length]; omega) (by omega) ?_; intro v7 w7 H7; dsimp only [List.nil_append] at H7; rw [← byt_append] at H7; have K7 := hide H7; clear H6 H7)
      go_ret
      exact ⟨_, rfl, K7.out.sub (List.cons_sublist_cons.2 (List.nil_sublist _))⟩
end Go.Proofs.YtamlngdjbmndlaaDoor
