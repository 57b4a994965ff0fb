/- The walks of the reference's digit, Parse and Hex. -/
import Derived.Test.YtoinnkjifmlbiaaDoorS20
namespace Go.Proofs.YtoinnkjifmlbiaaDoor
open Go.RowKit Go.Gr
set_option linter.unusedVariables false
attribute [local go_sem] rdOp rdAt rdUpon Cls
theorem hex_at64 (d : Nat) (h1 : d < 16) (w : World) : (Instr.index 9 (.string { data := #[48, 49, 50, 51, 52, 53, 54, 55, 56, 57, 97, 98, 99, 100, 101, 102] }) (.int .i64 (d : Int))).run Tryd.prog w = .ok (.int .u8 (hexd d)) w := by
  rcases (show d = 0 ∨ d = 1 ∨ d = 2 ∨ d = 3 ∨ d = 4 ∨ d = 5 ∨ d = 6 ∨ d = 7 ∨ d = 8 ∨ d = 9 ∨ d = 10 ∨ d = 11 ∨ d = 12 ∨ d = 13 ∨ d = 14 ∨ d = 15 by omega) with rfl | rfl | rfl | rfl | rfl | rfl | rfl | rfl | rfl | rfl | rfl | rfl | rfl | rfl | rfl | rfl <;> kernel_rfl
theorem hexv_hexd (d : Nat) (h : d < 16) : hexv (hexd d) = d := by
  unfold hexd hexv; split <;> split <;> (try split) <;> omega
theorem hexv_none (c : Int) (h : ∀ j : Nat, j < 16 → hexd j ≠ c) : hexv c = -1 := by
  unfold hexv
  rw [if_neg, if_neg]
  · intro hc
    refine h (c - 87).toNat (by omega) ?_
    unfold hexd; rw [if_neg (by omega)]; omega
  · intro hc
    refine h (c - 48).toNat (by omega) ?_
    unfold hexd; rw [if_pos (by omega)]; omega
theorem str_at (s : ByteArray) (k : Nat) (h : k < s.size) (i : Int) (hi : i = k) (w : World) : (Instr.index 9 (.string s) (.int .i64 i)).run Tryd.prog w = .ok (.int .u8 ((sb s).getD k 0)) w := by
  subst hi
  rw [run_index_string w 9 s .i64 (k : Int) Tryd.underlying9, dif_pos ⟨by omega, by omega⟩, sb_getD s k h]
  rfl
theorem prs_next {w : World} {g : Nat} {l : List Int} {k : Nat} (hB : Blk w g 26 (byt (prs l k ++ zr (32 - k)))) (hk : k < 32) {x : Int} (hx : x = 16 * nb l (2 * k) + nb l (2 * k + 1)) :
    w.cell? ⟨g, k, none⟩ = some (.int .u8 0) ∧ Blk (w.setCell ⟨g, k, none⟩ (.int .u8 x)) g 26 (byt (prs l (k + 1) ++ zr (32 - (k + 1)))) := by
  subst hx
  have e : zr (32 - k) = 0 :: zr (31 - k) := by
    have : 32 - k = (31 - k) + 1 := by omega
    rw [this]; rfl
  rw [e] at hB
  refine ⟨(hB.cell k).trans ?_, ?_⟩
  · rw [byt_at _ k (by simp [prs_length]), get_mid _ _ _ _ (prs_length l k)]
  · have h := hB.set k (.int .u8 (16 * nb l (2 * k) + nb l (2 * k + 1)))
    rw [byt_set, set_mid _ _ _ _ _ (prs_length l k)] at h
    have e2 : prs l (k + 1) ++ zr (32 - (k + 1)) = prs l k ++ (16 * nb l (2 * k) + nb l (2 * k + 1)) :: zr (31 - k) := by
      rw [prs, show 32 - (k + 1) = 31 - k by omega]; simp
    rw [e2]; exact h
theorem strOfNums_append (a b : List Int) : strOfNums a ++ strOfNums b = strOfNums (a ++ b) := by
  apply ByteArray.ext
  simp [strOfNums]
theorem add_str (a b : List Int) (h : a.length + b.length ≤ 1000000) (w : World) : (Op.stringOp .add (strOfNums a) (strOfNums b)).run Tryd.prog w = .ok (.string (strOfNums (a ++ b))) w := by
  rw [run_string_add_sum w _ _ (by rw [strOfNums_size, strOfNums_size]; omega), strOfNums_append]
theorem digs_at (d : Int) (h0 : 0 ≤ d) (h1 : d < 16) (w : World) : (Instr.slice 9 (.string { data := #[48, 49, 50, 51, 52, 53, 54, 55, 56, 57, 97, 98, 99, 100, 101, 102] }) (some (.int .u8 d)) (some (.int .u8 (d + 1))) none).run Tryd.prog w = .ok (.string (strOfNums [hexd d])) w := by
  rcases (show d = 0 ∨ d = 1 ∨ d = 2 ∨ d = 3 ∨ d = 4 ∨ d = 5 ∨ d = 6 ∨ d = 7 ∨ d = 8 ∨ d = 9 ∨ d = 10 ∨ d = 11 ∨ d = 12 ∨ d = 13 ∨ d = 14 ∨ d = 15 by omega) with rfl | rfl | rfl | rfl | rfl | rfl | rfl | rfl | rfl | rfl | rfl | rfl | rfl | rfl | rfl | rfl <;> kernel_rfl
set_option maxHeartbeats 1000000 in
theorem rhex_any (l : List Int) (w : World) (hl : l.length = 32) (hb : isB l) : Calls Tryd.prog 26 #[.agg (byt l).toArray] w fun e w' => e = .returned (.string (strOfNums (hexB l))) ∧ Ext w w' := by
  have HLn := hide hl
  have HBy := hide hb
  clear hl hb
  go_enter Tryd.func26, Tryd.ntmps26
  have HB0 : Hid (Blk (w.alloc (.cells (byt l).toArray 26)) w.heap.size 26 (byt l)) := hide (Blk.new _ _ _)
  have HX0 : Hid (Ext w (w.alloc (.cells (byt l).toArray 26))) := hide ((Ext.refl w).alloc _)
  go_wp2_with fail
  go_loopw [3, 4] (fun v i wr => ∃ k : Nat, i = .int .i64 k ∧ k ≤ 32 ∧ v = .string (strOfNums (hexB (l.take k))) ∧ Hid (Blk wr w.heap.size 26 (byt l)) ∧ Hid (Ext w wr)) (fun _ i _ => 32 - (intOf i).toNat)
  case atStart => exact ⟨0, rfl, by omega, rfl, HB0, HX0⟩
  case round =>
    obtain ⟨k, rfl, hk, rfl, HB, HX⟩ := hrel
    by_cases hlt : k < 32
    · have cx := (HB.out.cell k).trans (byt_at l k (by rw [HLn.out]; exact hlt))
      have hx := isB_at HBy.out k
      have HN := hide (hexB_next l k (by rw [HLn.out]; exact hlt))
      have hpl : (hexB (l.take k)).length ≤ 64 := by rw [hexB_length, List.length_take]; omega
      generalize l.getD k 0 = x at *
      generalize hexB (l.take k) = p at *
      have ha1 := add_str p [hexd (x / 16)] (by simp; omega)
      have ha2 := add_str (p ++ [hexd (x / 16)]) [hexd (x % 16)] (by simp; omega)
      clear hpl
      have hd1 := digs_at (x / 16) (by omega) (by omega)
      have hd2 := digs_at (x % 16) (by omega) (by omega)
      have l3 : (k : Int) < 32 := by omega
      have w1 : Int.tdiv x 16 = x / 16 := Int.tdiv_eq_ediv_of_nonneg (by omega)
      have w2 : Int.tmod x 16 = x % 16 := Int.tmod_eq_emod_of_nonneg (by omega)
      have w3 : IntKind.u8.wrap (x / 16 + 1) = x / 16 + 1 := by simp only [IntKind.wrap_u8]; omega
      have w4 : IntKind.u8.wrap (x % 16 + 1) = x % 16 + 1 := by simp only [IntKind.wrap_u8]; omega
      have w5 : IntKind.u8.wrap (x / 16) = x / 16 := by simp only [IntKind.wrap_u8]; omega
      go_wp2_with fail
      go_quiet (fail)
      go_wp2_with fail
      go_roundw
      case rel => exact ⟨k + 1, by go_num, by omega, by rw [HN.out], hide (HB.out.drewN nq), hide (HX.out.drewN nq)⟩
      case measure => simp [intOf]; omega
    · obtain rfl : k = 32 := by omega
      rw [show ((32 : Nat) : Int) = 32 from rfl]
      have HE : Hid (hexB (l.take 32) = hexB l) := hide (by rw [List.take_of_length_le (by rw [HLn.out]; exact Nat.le_refl _)])
      go_wp2_with fail
      go_ret
      exact ⟨by rw [HE.out]; rfl, HX.out⟩
end Go.Proofs.YtoinnkjifmlbiaaDoor
