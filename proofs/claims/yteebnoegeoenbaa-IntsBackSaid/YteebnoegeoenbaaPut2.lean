/- The walk of the reference Put where the number fits: the bytes of the number stand behind those that came in (at most 1000 of them). -/
import Derived.Test.YteebnoegeoenbaaN4
namespace Go.Proofs.Yteebnoegeoenbaa
open Go.RowKit Go.Gr
set_option linter.unusedVariables false
theorem info5 : (Try.prog.info? 5).map (fun i => (i.zero, i.size, i.bytes)) = some (some (.int .u8 0), 1, 1) := by kernel_rfl
def be : Nat → Int → List Int
  | 0, _ => []
  | k + 1, n => be k (n / 256) ++ [n % 256]
theorem be_length : ∀ k n, (be k n).length = k
  | 0, _ => rfl
  | k + 1, n => by simp [be, be_length k]
theorem be_snoc (j : Nat) (n x : Int) (t : List Int) : be (j + 1) n ++ t = be j (n / 256) ++ (n % 256 :: t) := by simp [be]
theorem set_top (j : Nat) (x : Value) (t : List Value) (z : Value) : (List.replicate (j + 1) z ++ t).set j x = List.replicate j z ++ x :: t := by
  rw [List.replicate_succ', List.append_assoc, List.set_append_right _ _ (by simp)]; simp
theorem get_top (j : Nat) (t : List Value) (z : Value) : (List.replicate (j + 1) z ++ t)[j]? = some z := by
  rw [List.getElem?_append_left (by simp), List.getElem?_replicate]; simp
set_option maxHeartbeats 800000 in
theorem rput_ok (A : Option Addr) (c : Nat) (l : List Int) (n : Int) (m : Nat) (w : World) (hr : Rd w A (byt l)) (hl : l.length ≤ 1000) (h0 : 0 ≤ n) (h64 : n < 18446744073709551616) (hm1 : 1 ≤ m) (hm : m ≤ 8) (h1 : n < 2 ^ (8 * m)) :
    Calls Try.prog 26 #[.slice A l.length c, .int .u64 n, .int .i64 m] w fun e w' => ∃ v, e = .returned (.tuple #[v, .int .i64 0]) ∧ Own w.heap.size w' 5 v (byt (l ++ be m n)) ∧ Ext w w' := by
  obtain ⟨i0, hi, hz0, hz1, hz2⟩ := info_parts info5
  have HR := hide hr
  have HN := hide h1
  clear hr h1
  go_enter Try.func26, Try.ntmps26
  go_wp2_with (first
    | (go_at_call 42; refine (below_y _ _ _ (8 * m) ?_ ?_ ?_ ?_ HN.out).mono ?_ <;> (try omega); rintro e w1 ⟨rfl, rfl⟩)
    | (at_make; refine wpList_makeN rfl _ _ 23 rfl 5 i0 (.int .u8 0) 1 Try.underlying23 hi hz0 hz1 hz2 rfl rfl rfl (by omega) (by omega) (by omega) ?_; intro w1 hb hx; have HB := hide hb; have HX := hide hx; clear hb hx))
  go_loopw [1, 9] (fun x i wr => ∃ (nn : Int) (j : Nat) (t : List Int), j ≤ m ∧ x = .int .u64 nn ∧ i = .int .i64 ((j : Int) - 1) ∧ 0 ≤ nn ∧ nn < 18446744073709551616 ∧ Hid (be j nn ++ t = be m n) ∧ Hid (Blk wr w.heap.size 5 (List.replicate j (.int .u8 0) ++ byt t)) ∧ Hid (Below w.heap.size w wr)) (fun _ i _ => (intOf i + 1).toNat)
  case atStart => exact ⟨n, m, [], Nat.le_refl _, rfl, rfl, h0, h64, hide (by simp), by have := HB.out; simpa [byt] using hide this, HX⟩
  case round =>
    obtain ⟨nn, j, t, hj, rfl, rfl, hn0, hn1, HE, HBj, HXj⟩ := hrel
    by_cases hjp : 0 < j
    · obtain ⟨q, rfl⟩ : ∃ q, j = q + 1 := ⟨j - 1, by omega⟩
      have hc := (HBj.out.cell q).trans (get_top q _ _)
      have hf := HBj.out.free q
      have HS := hide (HBj.out.set q (.int .u8 (nn % 256)))
      go_wp2
      go_roundw
      case rel =>
        refine ⟨nn / 256, q, nn % 256 :: t, by omega, rfl, by first | rfl | (congr 1; omega), by omega, by omega, ?_, ?_, hide (HXj.out.setCell (Nat.le_refl _) _)⟩
        · exact hide ((be_snoc q nn 0 t).symm.trans HE.out)
        · have := HS.out; rw [set_top] at this; exact hide this
      case measure => simp [intOf]
    · obtain rfl : j = 0 := by omega
      have HT : Hid (t = be m n) := by have := HE.out; simp only [be, List.nil_append] at this; exact hide this
      have HBl : Hid (Blk wr w.heap.size 5 (byt t)) := hide (by have := HBj.out; simpa using this)
      have HL : Hid (m = (byt t).length) := hide (by rw [byt_length, HT.out, be_length])
      have hlt := HBl.out.lt
      have ht8 : t.length ≤ 8 := by rw [HT.out, be_length]; exact hm
      go_wp2_with (first
        | (at_builtin; refine wpList_app rfl (.tmp 39) (.tmp 40) 23 rfl 5 i0 (.int .u8 0) 1 Try.underlying23 hi hz0 hz1 hz2 rfl rfl ((Blk.new wr 5 []).own (B := w.heap.size) HXj.out.size (by decide)) rfl (byt_length l).symm ((HR.out.ext HXj.out).ext ((Ext.refl _).alloc _)) (byt_one l) (by simp; omega) (by omega) (by simp; omega) ?_; intro v1 w2 ho hb hg; have HO := hide ho; have HX2 := hide hb; have HG := hide (show World.grownBy (wr.alloc (.cells #[] 5)) w2 (some wr.heap.size) from hg); clear ho hb hg)
        | (at_builtin; refine wpList_app rfl (.tmp 41) (.tmp 42) 23 rfl 5 i0 (.int .u8 0) 1 Try.underlying23 hi hz0 hz1 hz2 rfl rfl HO.out rfl HL.out ((HBl.out.alloc _).grown HG.out (by simp; omega)).rd (byt_one t) (by simp; omega) (by omega) (Nat.le_trans HXj.out.size (Nat.le_trans (by simp) HX2.out.size)) ?_; intro v3 w3 ho hb hg; have HO3 := hide ho; have HX3 := hide hb; clear ho hb hg))
      go_ret2
      refine ⟨_, rfl, ?_, (HXj.out.alloc HXj.out.size _).trans (HX2.out.trans HX3.out)⟩
      have := HO3.out
      rw [HT.out] at this
      simpa [byt] using this
theorem pow_28 (m : Nat) : (2 : Int) ^ (8 * m) = 256 ^ m := by rw [Int.pow_mul]; rfl
end Go.Proofs.Yteebnoegeoenbaa
