/- The walks of sha.Pad and of the reference's: the bytes are those of the plain list. -/
import Derived.Test.YtamlngdjbmndlaaDoorGa
import Derived.Test.YtamlngdjbmndlaaDoorS0
import Derived.Test.YtamlngdjbmndlaaDoorRows
import Derived.IntWalk
import Derived.Outline
namespace Go.Proofs.YtamlngdjbmndlaaDoor
open Go.RowKit Go.Gr
set_option linter.unusedVariables false
attribute [local go_sem] rdOp rdAt rdUpon Cls
theorem info8 : (Tryd.prog.info? 5).map (fun i => (i.zero, i.size, i.bytes)) = some (some (.int .u8 0), 1, 1) := by kernel_rfl
def be : Nat → Int → List Int
  | 0, _ => []
  | k + 1, n => be k (n / 256) ++ [n % 256]
theorem be_length : ∀ k n, (be k n).length = k
  | 0, _ => rfl
  | k + 1, n => by simp [be, be_length k]
theorem be_cons : ∀ (k : Nat) (n : Int), be (k + 1) n = (n / 256 ^ k % 256) :: be k n
  | 0, n => by simp [be]
  | k + 1, n => by
    rw [be, be_cons k (n / 256), be, List.cons_append, Int.ediv_ediv_of_nonneg (by decide), Int.pow_succ, Int.mul_comm 256]
theorem be_isB : ∀ (k : Nat) (n : Int), isB (be k n)
  | 0, n => by intro x hx; simp [be] at hx
  | k + 1, n => by
    intro x hx
    rw [be, List.mem_append, List.mem_singleton] at hx
    rcases hx with hx | rfl
    · exact be_isB k _ x hx
    · omega
def padE (n : Int) : Int := if n < 0 ∨ 1152921504606846976 < n then 7 else 0
def padZ (n : Int) : Nat := ((119 - n) % 64).toNat
def padB (n : Int) : List Int := if padE n = 0 then 128 :: (List.replicate (padZ n) 0 ++ be 8 (n * 8)) else []
theorem pad_step (z k : Nat) (n : Int) (hk : k < 8) : (byt (128 :: (List.replicate (z + 8 - k) 0 ++ be k (n * 8))))[z + 8 - k]? = some (.int .u8 0) ∧
    (byt (128 :: (List.replicate (z + 8 - k) 0 ++ be k (n * 8)))).set (z + 8 - k) (.int .u8 (n * 8 / 256 ^ k % 256)) = byt (128 :: (List.replicate (z + 8 - (k + 1)) 0 ++ be (k + 1) (n * 8))) := by
  obtain ⟨m, hm⟩ : ∃ m, z + 8 - k = m + 1 := ⟨z + 7 - k, by omega⟩
  rw [hm, show z + 8 - (k + 1) = m by omega, be_cons, List.replicate_succ']
  refine ⟨?_, ?_⟩
  · simp [byt]
  · simp [byt, List.set_cons_succ]
theorem pad_val (n : Int) (k : Nat) (h0 : 0 ≤ n) (h1 : n ≤ 1152921504606846976) : n * 8 / 2 ^ (8 * k) = n * 8 / 256 ^ k := by
  rw [Int.pow_mul]; rfl
theorem padE_two (n : Int) : padE n = 7 ∨ padE n = 0 := by unfold padE; split <;> simp
def RetP (w : World) (l : List Int) (er : Int) (e : Ending) (w' : World) : Prop := ∃ v, e = .returned (.tuple #[v, .int .i64 er]) ∧ Own w.heap.size w' 5 v (byt l) ∧ Ext w w'
theorem pad_bad (n : Int) (w : World) (h : n < 0 ∨ 1152921504606846976 < n) : Calls Tryd.prog 80 #[.int .i64 n] w (RetP w (padB n) (padE n)) := by
  have e : padE n = 7 := by rw [padE, if_pos h]
  have HG := hide (show RetP w (padB n) (padE n) (.returned (.tuple #[.slice none 0 0, .int .i64 7])) w from ⟨_, by rw [e], by rw [padB, e, if_neg (by decide)]; exact Own.nil _ _ _, Ext.refl _⟩)
  rcases h with h | h
  all_goals
    go_enter Tryd.func80, Tryd.ntmps80
    go_wp2_with fail
    go_ret2
    exact HG.out
theorem rpad_bad (n : Int) (w : World) (h : n < 0 ∨ 1152921504606846976 < n) : Calls Tryd.prog 86 #[.int .i64 n] w (RetP w (padB n) (padE n)) := by
  have e : padE n = 7 := by rw [padE, if_pos h]
  have HG := hide (show RetP w (padB n) (padE n) (.returned (.tuple #[.slice none 0 0, .int .i64 7])) w from ⟨_, by rw [e], by rw [padB, e, if_neg (by decide)]; exact Own.nil _ _ _, Ext.refl _⟩)
  rcases h with h | h
  all_goals
    go_enter Tryd.func86, Tryd.ntmps86
    go_wp2_with fail
    go_ret2
    exact HG.out
set_option maxRecDepth 100000 in
theorem pad_any (n : Int) (w : World) (hn1 : -9223372036854775808 ≤ n) (hn2 : n ≤ 9223372036854775807) : Calls Tryd.prog 80 #[.int .i64 n] w (RetP w (padB n) (padE n)) := by
  by_cases h : n < 0 ∨ 1152921504606846976 < n
  · exact pad_bad n w h
  · obtain ⟨i0, hi, hz0, hz1, hz2⟩ := info_parts info8
    have h0 : 0 ≤ n := by omega
    have h1 : n ≤ 1152921504606846976 := by omega
    have e : padE n = 0 := by rw [padE, if_neg h]
    have HE := hide e
    obtain ⟨z, hz⟩ : ∃ z, padZ n = z := ⟨_, rfl⟩
    have hzz : (119 - n) % 64 = (z : Int) := by rw [← hz, padZ]; omega
    have hz63 : z ≤ 63 := by omega
    have HB := hide (show padB n = 128 :: (List.replicate z 0 ++ be 8 (n * 8)) by rw [padB, if_pos e, hz])
    have HZ := hide hzz
    clear h e hz hzz
    go_enter Tryd.func80, Tryd.ntmps80
    have hq := HZ.out
    go_wp2_with (at_make; refine wpList_makeN rfl _ _ 26 rfl 5 i0 (.int .u8 0) 1 Tryd.underlying26 hi hz0 hz1 hz2 rfl rfl rfl (by omega) (by omega) (by omega) ?_; intro w1 hb hx; rw [show (1 + (z : Int) + 8).toNat = z + 9 by omega] at hb ⊢; have HB1 := hide hb; have HX := hide hx; have c0 := (hb.cell 0).trans (show _ = some (Value.int .u8 0) from rfl); have f0 := hb.free 0; clear hb hx)
    have HB2 := hide (HB1.out.set 0 (.int .u8 128))
    rw [show (List.replicate (z + 9) (Value.int .u8 0)).set 0 (.int .u8 128) = byt (128 :: (List.replicate (z + 8 - 0) 0 ++ be 0 (n * 8))) by simp [byt, be, List.replicate_succ]] at HB2
    have HX2 := hide (show Ext w _ from Below.setCell HX.out (p := ⟨w.heap.size, 0, none⟩) (Nat.le_refl _) (.int .u8 128))
    clear HB1 HX c0 f0
    go_loopw [23] (fun i wr => ∃ k : Nat, i = .int .i64 k ∧ k ≤ 8 ∧ Hid (Blk wr w.heap.size 5 (byt (128 :: (List.replicate (z + 8 - k) 0 ++ be k (n * 8))))) ∧ Hid (Ext w wr)) (fun i _ => 8 - (intOf i).toNat)
    case atStart => exact ⟨0, rfl, by omega, HB2, HX2⟩
    case round =>
      obtain ⟨k, rfl, hk, HBk, HXk⟩ := hrel
      by_cases hlt : k < 8
      · have hs := pad_step z k n hlt
        have c0 := (HBk.out.cell (z + 8 - k)).trans hs.1
        have f0 := HBk.out.free (z + 8 - k)
        have HS := hide hs.2
        clear hs
        have HV := hide (pad_val n k h0 h1)
        go_wp2_with fail
        go_roundw
        case rel => exact ⟨k + 1, by go_num, by omega, by rw [← HS.out, ← HV.out]; exact hide (HBk.out.set _ _), hide (Below.setCell HXk.out (Nat.le_refl _) _)⟩
        case measure => simp [intOf]; omega
      · obtain rfl : k = 8 := by omega
        go_wp2_with fail
        go_ret2
        refine ⟨_, by rw [HE.out]; rfl, ?_, HXk.out⟩
        have := HBk.out.own (B := w.heap.size) (Nat.le_refl _) (by simp [be_length]; omega)
        rw [HB.out]
        have e : (byt (128 :: (List.replicate (z + 8 - 8) 0 ++ be 8 (n * 8)))).length = z + 9 := by simp [be_length]
        rw [e] at this
        exact this
def lenOf : Value → Nat | .slice _ l _ => l | _ => 0
set_option maxRecDepth 100000 in
theorem rpad_any (n : Int) (w : World) (hn1 : -9223372036854775808 ≤ n) (hn2 : n ≤ 9223372036854775807) : Calls Tryd.prog 86 #[.int .i64 n] w (RetP w (padB n) (padE n)) := by
  by_cases h : n < 0 ∨ 1152921504606846976 < n
  · exact rpad_bad n w h
  · obtain ⟨i0, hi, hz0, hz1, hz2⟩ := info_parts info8
    have h0 : 0 ≤ n := by omega
    have h1 : n ≤ 1152921504606846976 := by omega
    have e : padE n = 0 := by rw [padE, if_neg h]
    have HE := hide e
    obtain ⟨z, hz⟩ : ∃ z, padZ n = z := ⟨_, rfl⟩
    have hzz : (119 - n) % 64 = (z : Int) := by rw [← hz, padZ]; omega
    have hz63 : z ≤ 63 := by omega
    have HB := hide (show padB n = 128 :: (List.replicate z 0 ++ be 8 (n * 8)) by rw [padB, if_pos e, hz])
    have HZ := hide hzz
    clear h e hz hzz
    go_enter Tryd.func86, Tryd.ntmps86
    go_wp2_with fail
    go_loopw [4] (fun v wr => ∃ (j : Nat) (A : Option Addr) (c : Nat), v = .slice A (j + 1) c ∧ j ≤ z ∧ Hid (Own w.heap.size wr 5 (.slice A (j + 1) c) (byt (128 :: List.replicate j 0))) ∧ Hid (Ext w wr)) (fun v _ => z + 1 - lenOf v)
    case atStart => exact ⟨0, _, _, rfl, by omega, hide ((Blk.new w _ (byt [128])).own (Nat.le_refl _) (by decide)), hide ((Ext.refl w).alloc _)⟩
    case round =>
      obtain ⟨j, A, c, rfl, hj, HO, HX⟩ := hrel
      by_cases hlt : j < z
      · have hq := HZ.out
        have ht : ((n + ((j : Int) + 1) + 8) % 64 == 0) = false := by
          have : ¬ (n + ((j : Int) + 1) + 8) % 64 = 0 := by omega
          simpa using this
        clear hq
        go_wp2_with (first
          | (at_builtin; refine wpList_push rfl _ _ 26 rfl 5 i0 (.int .u8 0) 1 Tryd.underlying26 hi hz0 hz1 hz2 rfl rfl HO.out rfl rfl (by simp; omega) (by omega) HX.out.size ?_; intro v1 w1 ho hb _; have HO2 := hide ho; have HX2 := hide (show Ext w w1 from Below.trans HX.out hb); clear ho hb))
        have hown : Own w.heap.size w1 5 v1 (byt (128 :: List.replicate (j + 1) 0)) := by
          have := HO2.out
          rw [show byt (128 :: List.replicate j 0) ++ [Value.int .u8 0] = byt (128 :: List.replicate (j + 1) 0) by simp [byt, List.replicate_succ']] at this
          exact this
        obtain ⟨A2, c2, rfl, _⟩ := hown.form
        rw [show (byt (128 :: List.replicate (j + 1) 0)).length = j + 1 + 1 by simp] at hown ⊢
        have HO3 := hide hown
        clear hown
        go_roundw
        case rel => exact ⟨j + 1, A2, c2, rfl, by omega, HO3, HX2⟩
        case measure => simp [lenOf]; omega
      · obtain rfl : j = z := by omega
        have hq := HZ.out
        have ht : (n + ((j : Int) + 1) + 8) % 64 = 0 := by omega
        clear hq
        go_wp2_with fail
        clear ht
        go_loopw [4, 6] (fun v i wr => ∃ (q : Nat) (t : List Int) (A : Option Addr) (c : Nat) (i0 : Int), i = .int .i64 i0 ∧ i0 + 1 = q ∧ v = .slice A (j + 1 + t.length) c ∧ t.length + q = 8 ∧ Hid (t ++ be q (n * 8) = be 8 (n * 8)) ∧ Hid (Own w.heap.size wr 5 (.slice A (j + 1 + t.length) c) (byt (128 :: (List.replicate j 0 ++ t)))) ∧ Hid (Ext w wr)) (fun _ i _ => (intOf i + 1).toNat)
        case atStart => exact ⟨8, [], A, c, 7, rfl, rfl, rfl, rfl, hide rfl, by rw [List.append_nil]; exact HO, HX⟩
        case round =>
          obtain ⟨q, t, A, c, ii, rfl, hq, rfl, htl, HT, HO, HX⟩ := hrel
          by_cases hq0 : 0 < q
          · obtain ⟨p, rfl⟩ : ∃ p, q = p + 1 := ⟨q - 1, by omega⟩
            obtain rfl : ii = (p : Int) := by omega
            have HV := hide (pad_val n p h0 h1)
            go_wp2_with (first
              | (at_builtin; refine wpList_push rfl _ _ 26 rfl 5 i0 (.int .u8 0) 1 Tryd.underlying26 hi hz0 hz1 hz2 rfl rfl HO.out rfl rfl (by simp; omega) (by omega) HX.out.size ?_; intro v1 w1 ho hb _; have HO2 := hide ho; have HX2 := hide (show Ext w w1 from Below.trans HX.out hb); clear ho hb))
            have hown : Own w.heap.size w1 5 v1 (byt (128 :: (List.replicate j 0 ++ (t ++ [n * 8 / 256 ^ p % 256])))) := by
              have := HO2.out
              rw [HV.out] at this
              rw [show byt (128 :: (List.replicate j 0 ++ t)) ++ [Value.int .u8 (n * 8 / 256 ^ p % 256)] = byt (128 :: (List.replicate j 0 ++ (t ++ [n * 8 / 256 ^ p % 256]))) by simp [byt]] at this
              exact this
            obtain ⟨A2, c2, rfl, _⟩ := hown.form
            have e : (byt (128 :: (List.replicate j 0 ++ (t ++ [n * 8 / 256 ^ p % 256])))).length = j + 1 + (t ++ [n * 8 / 256 ^ p % 256]).length := by simp; omega
            rw [e] at hown ⊢
            have HO3 := hide hown
            have HT2 : Hid ((t ++ [n * 8 / 256 ^ p % 256]) ++ be p (n * 8) = be 8 (n * 8)) := by
              have := HT.out
              rw [be_cons] at this
              rw [← this]; simp
              exact hide trivial
            clear hown e
            go_roundw
            case rel => exact ⟨p, t ++ [n * 8 / 256 ^ p % 256], A2, c2, (p : Int) - 1, rfl, by omega, rfl, by simp; omega, HT2, HO3, HX2⟩
            case measure => simp [intOf]
          · obtain rfl : q = 0 := by omega
            obtain rfl : ii = -1 := by omega
            go_wp2_with fail
            go_ret2
            have e : t = be 8 (n * 8) := by have := HT.out; simpa [be] using this
            refine ⟨_, by rw [HE.out]; rfl, ?_, HX.out⟩
            rw [HB.out, ← e]
            exact HO.out
end Go.Proofs.YtamlngdjbmndlaaDoor
