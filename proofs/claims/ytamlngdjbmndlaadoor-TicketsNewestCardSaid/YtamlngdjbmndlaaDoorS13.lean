/- The walk of sha.Sum. -/
import Derived.Test.YtamlngdjbmndlaaDoorS12
namespace Go.Proofs.YtamlngdjbmndlaaDoor
open Go.RowKit Go.Gr
set_option linter.unusedVariables false
attribute [local go_sem] rdOp rdAt rdUpon Cls
theorem new_ex (w : World) (hl : Laid w) : Calls Tryd.prog 60 #[] w fun e w' => ∃ g, e = .returned (.pointer (some ⟨g, 0, none⟩)) ∧ g = w.heap.size ∧ HashAt w' g [] ∧ Ext w w' :=
  (new_any w hl).mono fun e w' ⟨a, b, c⟩ => ⟨_, a, rfl, b, c⟩
theorem rd_before {w : World} {A : Option Addr} {xs : List Value} (h : Rd w A xs) (h0 : 0 < xs.length) : ∀ ad, A = some ad → ad.block < w.heap.size := by
  intro ad e
  obtain ⟨ad', e', hc⟩ := h.at_ h0
  have := cell_lt hc
  rw [add_block] at this
  rw [e] at e'
  cases e'
  exact this
set_option maxHeartbeats 1000000 in
theorem sum_any (l : List Int) (A : Option Addr) (c : Nat) (w : World) (hl : Laid w) (hr : Rd w A (byt l)) (hb : isB l) (hc : l.length ≤ c) (hlen : l.length ≤ 1152921504606846976) :
    Calls Tryd.prog 100 #[.slice A l.length c] w fun e w' => e = .returned (.agg (byt (digest l)).toArray) ∧ Ext w w' := by
  have HL := hide hl
  have HR := hide hr
  have HBy := hide hb
  have h2 := hl.two
  clear hl hr hb
  go_enter Tryd.func100, Tryd.ntmps100
  go_wp2_with fail
  have HB0 : Hid (Blk (w.alloc (.cells (Z8 32).toArray 36)) w.heap.size 36 (Z8 32)) := hide (Blk.new _ _ _)
  have HX0 : Hid (Ext w (w.alloc (.cells (Z8 32).toArray 36))) := hide ((Ext.refl w).alloc _)
  refine (new_ex _ ?_).mono ?_
  · exact HL.out.ext HX0.out
  rintro e w1 ⟨g, rfl, hg, hh1, hx1⟩
  have hg3 : w.heap.size + 1 ≤ g := Nat.le_of_eq (hg.trans (show (w.alloc (.cells (Z8 32).toArray 36)).heap.size = w.heap.size + 1 by simp)).symm
  have HX1 : Hid (Ext w w1) := hide (HX0.out.trans hx1)
  have HB1 : Hid (Blk w1 w.heap.size 36 (Z8 32)) := hide (HB0.out.ext hx1)
  have HH1 := hide hh1
  clear hg hh1 hx1 HB0 HX0
  have HF : Hid (0 < l.length → ∀ ad, A = some ad → ad.block ≠ g) := hide (fun h0 ad e => by have := rd_before HR.out (by simpa using h0) ad e; omega)
  go_wp2_with fail
  (with_reducible refine (write_any g [] l A c w1 (HL.out.ext HX1.out) (by omega) HH1.out (HR.out.ext HX1.out) HF.out HBy.out hc (by simp; omega)).mono ?_)
  rintro e w2 ⟨rfl, hh2, hu2⟩
  rw [List.nil_append] at hh2
  have HH2 := hide hh2
  have HX2 : Hid (Ext w w2) := hide (Upd.new HX1.out (by omega) hu2)
  have HB2 : Hid (Blk w2 w.heap.size 36 (Z8 32)) := hide (HB1.out.upd hu2 (by omega))
  clear hh2 hu2 HF HH1
  go_wp2_with fail
  (with_reducible refine (hsum_any g l w2 (HL.out.ext HX2.out) HH2.out hlen).mono ?_)
  rintro e w3 ⟨rfl, hx3⟩
  have HX3 : Hid (Ext w w3) := hide (HX2.out.trans hx3)
  have HB3 : Hid (Blk w3 w.heap.size 36 (Z8 32)) := hide (HB2.out.ext hx3)
  clear hx3
  have HDL : Hid ((byt (digest l)).length = 32) := hide (by rw [byt_length, digest, dig_length])
  have HN : Hid (Blk (w3.alloc (.cells (Z8 32).toArray 36)) w3.heap.size 36 (Z8 32)) := hide (Blk.new _ _ _)
  have hw3 := HB3.out.lt
  have hne : ¬ w.heap.size = w3.heap.size := by omega
  go_wp2_with (first
    | (refine wpList_storeB rfl 36 (.tmp 4) (.tmp 13) rfl HN.out rfl rfl (by rw [HDL.out]; kernel_rfl) (by rw [HDL.out]; rfl) (byt_one _) ?_)
    | (refine wpList_loadB rfl 36 (.tmp 4) rfl (HN.out.setRow _) rfl _ Tryd.underlying36 rfl (by rw [HDL.out]; kernel_rfl) ?_)
    | (refine wpList_storeB rfl 36 (.tmp 2) (.tmp 15) rfl ((HB3.out.alloc _).rowFar hne _) rfl rfl (by rw [HDL.out]; kernel_rfl) (by rw [HDL.out]; rfl) (byt_one _) ?_))
  refine bodyPost_ret (v := .agg (byt (digest l)).toArray) (results_cell_row rfl _ _ w.heap.size 36 (byt (digest l)).toArray (0, 0) _ rfl (((HB3.out.alloc _).rowFar hne _).setRow _) Tryd.underlying36 rfl (by rw [List.size_toArray, HDL.out]; kernel_rfl)) rfl ⟨rfl, Below.setRow (Below.setRow (HX3.out.alloc _) (by omega) _) (Nat.le_refl _) _⟩
end Go.Proofs.YtamlngdjbmndlaaDoor
