/- The walks of ints.PutVar and of the reference: the bytes of the number stand behind those that came in (at most 1000 of them). -/
import Derived.Test.YteebnoegeoenbaaPut2
import Derived.Test.YteebnoegeoenbaaNV
namespace Go.Proofs.Yteebnoegeoenbaa
open Go.RowKit Go.Gr
set_option linter.unusedVariables false
theorem vbF_stop (f : Nat) (n : Int) (h : n < 128) : vbF (f + 1) n = [n] := by rw [vbF, if_pos h]
theorem vbF_go (f : Nat) (n : Int) (h : 128 ≤ n) : vbF (f + 1) n = (128 + n % 128) :: vbF f (n / 128) := by rw [vbF, if_neg (by omega)]
set_option maxHeartbeats 800000 in
theorem putvar_any (A : Option Addr) (c : Nat) (l : List Int) (n : Int) (w : World) (hr : Rd w A (byt l)) (hl : l.length ≤ 1000) (h0 : 0 ≤ n) (h64 : n < 18446744073709551616) :
    Calls Try.prog 13 #[.slice A l.length c, .int .u64 n] w fun e w' => ∃ v, e = .returned v ∧ Own w.heap.size w' 5 v (byt (l ++ vb n)) ∧ Ext w w' := by
  obtain ⟨i0, hi, hz0, hz1, hz2⟩ := info_parts info5
  have HR := hide hr
  clear hr
  go_enter Try.func13, Try.ntmps13
  go_wp2_with (first
    | (at_make; refine wpList_make0 rfl _ _ 23 rfl 5 i0 (.int .u8 0) 1 Try.underlying23 hi hz0 hz1 hz2 rfl rfl (by omega) (by omega) (by omega) ?_; intro v1 w1 ho hb; have HO := hide ho; have HX := hide hb; clear ho hb)
    | (at_builtin; refine wpList_app rfl (.tmp 9) (.tmp 10) 23 rfl 5 i0 (.int .u8 0) 1 Try.underlying23 hi hz0 hz1 hz2 rfl rfl HO.out rfl (byt_length l).symm (HR.out.ext HX.out) (byt_one l) (by simp; omega) (by omega) HX.out.size ?_; intro v1 w1 ho hb _; have HO := hide ho; have HX := hide (HX.out.trans hb); clear ho hb))
  go_loopw [1, 5] (fun x v wr => ∃ (nn : Int) (f : Nat) (pre : List Int), x = .int .u64 nn ∧ 0 ≤ nn ∧ nn < 18446744073709551616 ∧ f + pre.length = 9 ∧ Hid (nn < 128 ^ (f + 1)) ∧ Hid (pre ++ vbF (f + 1) nn = vb n) ∧ Hid (Own w.heap.size wr 5 v (byt (l ++ pre))) ∧ Hid (Below w.heap.size w wr)) (fun x _ _ => (intOf x).toNat)
  case atStart => exact ⟨n, 9, [], rfl, h0, h64, by simp, hide (by have : (128 : Int) ^ (9 + 1) = 1180591620717411303424 := rfl; omega), hide (by rw [vb]; rfl), by have := HO.out; simp only [List.append_nil, List.nil_append] at *; exact hide this, HX⟩
  case round =>
    obtain ⟨nn, f, pre, rfl, hn0, hn1, hf, HB, HP, HOj, HXj⟩ := hrel
    by_cases hgo : 128 ≤ nn
    · obtain ⟨q, rfl⟩ : ∃ q, f = q + 1 := ⟨f - 1, by
        rcases Nat.eq_zero_or_pos f with h | h
        · subst h; have := HB.out; simp at this; omega
        · omega⟩
      go_wp2_with (first
        | (at_builtin; refine wpList_push rfl _ _ 23 rfl 5 i0 (.int .u8 0) 1 Try.underlying23 hi hz0 hz1 hz2 rfl rfl HOj.out rfl rfl (by simp; omega) (by omega) HXj.out.size ?_; intro v1 w1 ho hb _; have HO2 := hide ho; have HX2 := hide (HXj.out.trans hb); clear ho hb))
      go_roundw
      case rel =>
        refine ⟨nn / 128, q, pre ++ [128 + nn % 128], rfl, by omega, by omega, by simp; omega, hide ?_, hide ?_, hide ?_, HX2⟩
        · have := HB.out; rw [Int.pow_succ] at this; omega
        · rw [← HP.out, vbF_go _ _ hgo]; simp
        · have := HO2.out; rw [or128 _ hn0] at this; simpa [byt] using this
      case measure => simp [intOf]; omega
    · have HF := hide (vbF_stop f nn (by omega))
      go_wp2_with (first
        | (at_builtin; refine wpList_push rfl _ _ 23 rfl 5 i0 (.int .u8 0) 1 Try.underlying23 hi hz0 hz1 hz2 rfl rfl HOj.out rfl rfl (by simp; omega) (by omega) HXj.out.size ?_; intro v1 w1 ho hb _; have HO2 := hide ho; have HX2 := hide (HXj.out.trans hb); clear ho hb))
      go_ret
      refine ⟨_, rfl, ?_, HX2.out⟩
      have h2 := HO2.out
      have h3 := HP.out
      rw [HF.out] at h3
      rw [← h3]
      simpa [byt] using h2
set_option maxHeartbeats 800000 in
theorem rputvar_any (A : Option Addr) (c : Nat) (l : List Int) (n : Int) (w : World) (hr : Rd w A (byt l)) (hl : l.length ≤ 1000) (h0 : 0 ≤ n) (h64 : n < 18446744073709551616) :
    Calls Try.prog 17 #[.slice A l.length c, .int .u64 n] w fun e w' => ∃ v, e = .returned v ∧ Own w.heap.size w' 5 v (byt (l ++ vb n)) ∧ Ext w w' := by
  obtain ⟨i0, hi, hz0, hz1, hz2⟩ := info_parts info5
  have HR := hide hr
  clear hr
  go_enter Try.func17, Try.ntmps17
  go_wp2_with (first
    | (at_builtin; refine wpList_app rfl _ _ 23 rfl 5 i0 (.int .u8 0) 1 Try.underlying23 hi hz0 hz1 hz2 rfl rfl ((Blk.new w 5 []).own (B := w.heap.size) (Nat.le_refl _) (by decide)) rfl (byt_length l).symm (HR.out.ext ((Ext.refl _).alloc _)) (byt_one l) (by simp; omega) (by omega) (by simp) ?_; intro v1 w1 ho hb _; have HO := hide ho; have HX := hide (Below.trans (Below.alloc (Below.refl _ _) (Nat.le_refl _) _) hb); clear ho hb))
  go_loopw [1, 5] (fun x v wr => ∃ (nn : Int) (f : Nat) (pre : List Int), x = .int .u64 nn ∧ 0 ≤ nn ∧ nn < 18446744073709551616 ∧ f + pre.length = 9 ∧ Hid (nn < 128 ^ (f + 1)) ∧ Hid (pre ++ vbF (f + 1) nn = vb n) ∧ Hid (Own w.heap.size wr 5 v (byt (l ++ pre))) ∧ Hid (Below w.heap.size w wr)) (fun x _ _ => (intOf x).toNat)
  case atStart => exact ⟨n, 9, [], rfl, h0, h64, by simp, hide (by have : (128 : Int) ^ (9 + 1) = 1180591620717411303424 := rfl; omega), hide (by rw [vb]; rfl), by have := HO.out; simp only [List.append_nil, List.nil_append] at *; exact hide this, HX⟩
  case round =>
    obtain ⟨nn, f, pre, rfl, hn0, hn1, hf, HB, HP, HOj, HXj⟩ := hrel
    by_cases hgo : 128 ≤ nn
    · obtain ⟨q, rfl⟩ : ∃ q, f = q + 1 := ⟨f - 1, by
        rcases Nat.eq_zero_or_pos f with h | h
        · subst h; have := HB.out; simp at this; omega
        · omega⟩
      go_wp2_with (first
        | (at_builtin; refine wpList_push rfl _ _ 23 rfl 5 i0 (.int .u8 0) 1 Try.underlying23 hi hz0 hz1 hz2 rfl rfl HOj.out rfl rfl (by simp; omega) (by omega) HXj.out.size ?_; intro v1 w1 ho hb _; have HO2 := hide ho; have HX2 := hide (HXj.out.trans hb); clear ho hb))
      go_roundw
      case rel =>
        refine ⟨nn / 128, q, pre ++ [128 + nn % 128], rfl, by omega, by omega, by simp; omega, hide ?_, hide ?_, hide ?_, HX2⟩
        · have := HB.out; rw [Int.pow_succ] at this; omega
        · rw [← HP.out, vbF_go _ _ hgo]; simp
        · have := HO2.out; simpa [byt] using this
      case measure => simp [intOf]; omega
    · have HF := hide (vbF_stop f nn (by omega))
      go_wp2_with (first
        | (at_builtin; refine wpList_push rfl _ _ 23 rfl 5 i0 (.int .u8 0) 1 Try.underlying23 hi hz0 hz1 hz2 rfl rfl HOj.out rfl rfl (by simp; omega) (by omega) HXj.out.size ?_; intro v1 w1 ho hb _; have HO2 := hide ho; have HX2 := hide (HXj.out.trans hb); clear ho hb))
      go_ret
      refine ⟨_, rfl, ?_, HX2.out⟩
      have h2 := HO2.out
      have h3 := HP.out
      rw [HF.out] at h3
      rw [← h3]
      simpa [byt] using h2
end Go.Proofs.Yteebnoegeoenbaa
