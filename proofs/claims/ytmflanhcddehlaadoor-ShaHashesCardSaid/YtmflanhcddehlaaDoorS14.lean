/- The walk of sha.Hex. -/
import Derived.Test.YtmflanhcddehlaaDoorS13
namespace Go.Proofs.YtmflanhcddehlaaDoor
open Go.RowKit Go.Gr
set_option linter.unusedVariables false
attribute [local go_sem] rdOp rdAt rdUpon Cls
def hexd (d : Int) : Int := if d < 10 then 48 + d else 87 + d
def hexB (l : List Int) : List Int := l.flatMap fun x => [hexd (x / 16), hexd (x % 16)]
theorem hexB_length (l : List Int) : (hexB l).length = 2 * l.length := by
  unfold hexB
  induction l with
  | nil => rfl
  | cons x r ih => rw [List.flatMap_cons, List.length_append, ih]; simp; omega
theorem hexB_append (a b : List Int) : hexB (a ++ b) = hexB a ++ hexB b := by simp [hexB]
theorem hexB_next (l : List Int) (k : Nat) (h : k < l.length) : hexB (l.take (k + 1)) = hexB (l.take k) ++ [hexd (l.getD k 0 / 16), hexd (l.getD k 0 % 16)] := by
  rw [take_next l k h, hexB_append]; rfl
theorem hex_at (d : Int) (h0 : 0 ≤ d) (h1 : d < 16) (w : World) : (Instr.index 9 (.string { data := #[48, 49, 50, 51, 52, 53, 54, 55, 56, 57, 97, 98, 99, 100, 101, 102] }) (.int .u8 d)).run Tryd.prog w = .ok (.int .u8 (hexd d)) w := by
  rcases (show d = 0 ∨ d = 1 ∨ d = 2 ∨ d = 3 ∨ d = 4 ∨ d = 5 ∨ d = 6 ∨ d = 7 ∨ d = 8 ∨ d = 9 ∨ d = 10 ∨ d = 11 ∨ d = 12 ∨ d = 13 ∨ d = 14 ∨ d = 15 by omega) with rfl | rfl | rfl | rfl | rfl | rfl | rfl | rfl | rfl | rfl | rfl | rfl | rfl | rfl | rfl | rfl <;> kernel_rfl
theorem and15 (x : Int) (h0 : 0 ≤ x) (h1 : x < 256) : bits .and .u8 x 15 = x % 16 := by
  have : ∀ n : Fin 256, bits .and .u8 (n.val : Int) 15 = (n.val : Int) % 16 := by decide +kernel
  have := this ⟨x.toNat, by omega⟩
  simpa [Int.toNat_of_nonneg h0] using this
set_option maxHeartbeats 1000000 in
theorem hex_any (l : List Int) (w : World) (hl : l.length = 32) (hb : isB l) : Calls Tryd.prog 34 #[.agg (byt l).toArray] w fun e w' => e = .returned (.string (strOfNums (hexB l))) ∧ Ext w w' := by
  obtain ⟨i0, hi, hz0, hz1, hz2⟩ := info_parts info8
  have HLn := hide hl
  have HBy := hide hb
  clear hl hb
  have HDL : Hid ((byt l).length = 32) := hide (by rw [byt_length]; exact HLn.out)
  go_enter Tryd.func34, Tryd.ntmps34
  have HB0 : Hid (Blk (w.alloc (.cells (byt l).toArray 32)) w.heap.size 32 (byt l)) := hide (Blk.new _ _ _)
  have HX0 : Hid (Ext w (w.alloc (.cells (byt l).toArray 32))) := hide ((Ext.refl w).alloc _)
  go_wp2_with (first
    | (at_make; refine wpList_make0 rfl _ _ 31 rfl 5 i0 (.int .u8 0) 1 Tryd.underlying31 hi hz0 hz1 hz2 rfl rfl (by omega) (by omega) (by omega) ?_; intro v1 w1 ho1 hx1)
    | (refine wpList_loadB rfl 32 (.tmp 1) rfl (HB0.out.ext hx1) rfl _ Tryd.underlying32 rfl (by rw [HDL.out]; kernel_rfl) ?_))
  have HX1 : Hid (Ext w w1) := hide (HX0.out.trans hx1)
  have HO1 : Hid (Own w.heap.size w1 5 v1 (byt (hexB (l.take 0)))) := hide ⟨ho1.1, by
    rcases ho1.2 with h | ⟨g', cap, cur, rfl, hb, r⟩
    · exact .inl h
    · exact .inr ⟨g', cap, cur, rfl, by simp at hb; omega, r⟩⟩
  clear ho1 hx1 HB0 HX0
  go_loopw [3, 8] (fun v i wr => ∃ k : Nat, i = .int .i64 k ∧ k ≤ 32 ∧ Hid (Own w.heap.size wr 5 v (byt (hexB (l.take k)))) ∧ Hid (Ext w wr)) (fun _ i _ => 32 - (intOf i).toNat)
  case atStart => exact ⟨0, rfl, by omega, HO1, HX1⟩
  case round =>
    obtain ⟨k, rfl, hk, HO, HX⟩ := hrel
    by_cases hlt : k < 32
    · have hll := HLn.out
      have hix := fun (x : World) => run_index_agg (P := Tryd.prog) (w := x) Tryd.underlying32 Tryd.underlying5 (by kernel_rfl) (byt l).toArray .i64 k hlt (show _ = some (Value.int .u8 (l.getD k 0)) from by rw [List.getElem?_toArray]; exact byt_at l k (by omega))
      have hx := isB_at HBy.out k
      have HN := hide (hexB_next l k (by omega))
      clear hll
      generalize l.getD k 0 = x at *
      have hd1 := hex_at (x / 16) (by omega) (by omega)
      have hd2 := hex_at (x % 16) (by omega) (by omega)
      have ha := and15 x hx.1 hx.2
      go_wp2_with fail
      refine wp_region_tail 8 [0, 1, 2, 3, 4, 5, 6, 7] (by kernel_rfl) (by kernel_rfl) (by kernel_rfl) ?_
      iterate 7 (refine wt_rd rfl rfl (fun K hK => ?_); go_simp; refine hK _ ?_; clear hK K)
      refine wt_ext rfl rfl (fun K hK => ?_)
      go_simp
      refine hK _ _ ((Ext.refl wr.drew).alloc _) ?_
      clear hK K
      refine wt_nil ?_
      simp only [List.drop_succ_cons, List.drop_zero]
      have HXa : Hid (Ext wr (wr.alloc (.cells #[.int .u8 (hexd (x / 16)), .int .u8 (hexd (x % 16))] 5)).drew) := hide (((Ext.refl wr).alloc _).drew)
      have HRn : Hid (Rd (wr.alloc (.cells #[.int .u8 (hexd (x / 16)), .int .u8 (hexd (x % 16))] 5)).drew (some ⟨wr.heap.size, 0, none⟩) [.int .u8 (hexd (x / 16)), .int .u8 (hexd (x % 16))]) := hide ((Blk.new wr 5 [.int .u8 (hexd (x / 16)), .int .u8 (hexd (x % 16))]).rd.drew)
      refine wpList_app rfl (.tmp 11) (.tmp 18) 31 rfl 5 i0 (.int .u8 0) 1 Tryd.underlying31 hi hz0 hz1 hz2 rfl rfl (HO.out.ext HXa.out) rfl rfl HRn.out (by intro u hu; simp at hu; rcases hu with rfl | rfl <;> rfl) (by rw [byt_length, hexB_length, List.length_take]; simp; omega) (by omega) (HX.out.trans HXa.out).size ?_
      intro v2 w2 ho2 hb2 _
      have HO2 : Hid (Own w.heap.size w2 5 v2 (byt (hexB (l.take (k + 1))))) := by
        rw [HN.out, byt_append]
        exact hide ho2
      have HX2 : Hid (Ext w w2) := hide (Below.trans (HX.out.trans HXa.out) hb2)
      clear ho2 hb2
      go_wp2_with fail
      refine NoPanic.normal ?_
      go_wp2_with fail
      go_roundw
      case rel => exact ⟨k + 1, by go_num, by omega, HO2, HX2⟩
      case measure => simp [intOf]; omega
    · obtain rfl : k = 32 := by omega
      rw [show ((32 : Nat) : Int) = 32 from rfl]
      have ho := HO.out
      rw [List.take_of_length_le (by rw [HLn.out]; exact Nat.le_refl _)] at ho
      obtain ⟨A, c, rfl, hr, _, _⟩ := ho.form
      have hcv := conv_bytes (P := Tryd.prog) hr 31 5 9 c _ (byt_length _) Tryd.underlying31 Tryd.underlying5 Tryd.underlying9
      rw [byt_length] at hcv ⊢
      clear ho hr
      go_wp2_with fail
      go_ret
      exact ⟨rfl, HX.out⟩
end Go.Proofs.YtmflanhcddehlaaDoor
