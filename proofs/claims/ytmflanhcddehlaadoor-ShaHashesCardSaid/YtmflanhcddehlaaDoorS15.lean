/- The walk of the law's own look at known values: it answers true. -/
import Derived.Lib.SlBytesConst
import Derived.Test.YtmflanhcddehlaaDoorS14
namespace Go.Proofs.YtmflanhcddehlaaDoor
open Go.RowKit Go.Gr
set_option linter.unusedVariables false
attribute [local go_sem] rdOp rdAt rdUpon Cls
theorem digest_len (l : List Int) : (digest l).length = 32 := dig_length _ _
theorem digest_isB (l : List Int) : isB (digest l) := dig_isB _ _
theorem abc_hex : hexB (digest [97, 98, 99]) = [98, 97, 55, 56, 49, 54, 98, 102, 56, 102, 48, 49, 99, 102, 101, 97, 52, 49, 52, 49, 52, 48, 100, 101, 53, 100, 97, 101, 50, 50, 50, 51, 98, 48, 48, 51, 54, 49, 97, 51, 57, 54, 49, 55, 55, 97, 57, 99, 98, 52, 49, 48, 102, 102, 54, 49, 102, 50, 48, 48, 49, 53, 97, 100] := by decide +kernel
theorem empty_hex : hexB (digest []) = [101, 51, 98, 48, 99, 52, 52, 50, 57, 56, 102, 99, 49, 99, 49, 52, 57, 97, 102, 98, 102, 52, 99, 56, 57, 57, 54, 102, 98, 57, 50, 52, 50, 55, 97, 101, 52, 49, 101, 52, 54, 52, 57, 98, 57, 51, 52, 99, 97, 52, 57, 53, 57, 57, 49, 98, 55, 56, 53, 50, 98, 56, 53, 53] := by decide +kernel
/-- a sum whose letters are these -/
def SumIs (w : World) (s : ByteArray) (e : Ending) (w' : World) : Prop := ∃ d : List Int, d.length = 32 ∧ isB d ∧ strOfNums (hexB d) = s ∧ e = .returned (.agg (byt d).toArray) ∧ Ext w w'
theorem sum_abc (A : Option Addr) (w : World) (hl : Laid w) (hr : Rd w A (byt [97, 98, 99])) : Calls Tryd.prog 19 #[.slice A 3 3] w (SumIs w { data := #[98, 97, 55, 56, 49, 54, 98, 102, 56, 102, 48, 49, 99, 102, 101, 97, 52, 49, 52, 49, 52, 48, 100, 101, 53, 100, 97, 101, 50, 50, 50, 51, 98, 48, 48, 51, 54, 49, 97, 51, 57, 54, 49, 55, 55, 97, 57, 99, 98, 52, 49, 48, 102, 102, 54, 49, 102, 50, 48, 48, 49, 53, 97, 100] }) :=
  (sum_any [97, 98, 99] A 3 w hl hr (by unfold isB; decide) (by decide) (by decide)).mono fun e w' ⟨h1, h2⟩ => ⟨_, digest_len _, digest_isB _, by rw [abc_hex]; rfl, h1, h2⟩
theorem sum_empty (w : World) (hl : Laid w) : Calls Tryd.prog 19 #[.slice none 0 0] w (SumIs w { data := #[101, 51, 98, 48, 99, 52, 52, 50, 57, 56, 102, 99, 49, 99, 49, 52, 57, 97, 102, 98, 102, 52, 99, 56, 57, 57, 54, 102, 98, 57, 50, 52, 50, 55, 97, 101, 52, 49, 101, 52, 54, 52, 57, 98, 57, 51, 52, 99, 97, 52, 57, 53, 57, 57, 49, 98, 55, 56, 53, 50, 98, 56, 53, 53] }) :=
  (sum_any [] none 0 w hl (Rd.nil _ _) (by unfold isB; decide) (by decide) (by decide)).mono fun e w' ⟨h1, h2⟩ => ⟨_, digest_len _, digest_isB _, by rw [empty_hex]; rfl, h1, h2⟩
theorem hex_is (d : List Int) (w : World) (s : ByteArray) (hl : d.length = 32) (hb : isB d) (hs : strOfNums (hexB d) = s) : Calls Tryd.prog 34 #[.agg (byt d).toArray] w fun e w' => e = .returned (.string s) ∧ Ext w w' := by
  rw [← hs]; exact hex_any d w hl hb
theorem pad_is (n : Int) (m : Nat) (w : World) (h1 : -9223372036854775808 ≤ n) (h2 : n ≤ 9223372036854775807) (he : padE n = 0) (hm : (padB n).length = m) : Calls Tryd.prog 21 #[.int .i64 n] w fun e w' => ∃ A c, e = .returned (.tuple #[.slice A m c, .int .i64 0]) ∧ Ext w w' :=
  (pad_any n w h1 h2).mono fun e w' ⟨v, h3, ho, hx⟩ => by
    obtain ⟨A, c, rfl, _⟩ := ho.form
    rw [byt_length, hm, he] at h3
    exact ⟨A, c, h3, hx⟩
theorem eval_agg {P : Program} {w : World} {t e : TypeId} {n : Nat} {ke : IntKind} (h : P.underlying t = some (.array n e)) (he : P.underlying e = some (.int ke)) (hi : (P.info? e).map (·.size) = some 1) (cs : Array Value) (hn : 0 < n) {u : Value} (hu : cs[0]? = some u) :
    (Instr.index t (.agg cs) (.int .i64 0)).run P w = .ok u w := run_index_agg h he hi cs .i64 0 hn hu
theorem rd_marked (w : World) (e : TypeId) (cs : List Value) (fr : Nat × Nat) : Rd (w.alloc (.cells cs.toArray e fr)) (some ⟨w.heap.size, 0, none⟩) cs := fun j u hu => ⟨_, rfl, by
  have h := heap_alloc_new w (.cells cs.toArray e fr)
  rw [add0]
  unfold World.cell?
  simp only
  rw [h]
  simpa using hu⟩
set_option maxHeartbeats 1000000 in
theorem shown_any (w : World) (hl : Laid w) : Calls Tryd.prog 18 #[] w fun e w' => e = .returned (.bool true) ∧ Ext w w' := by
  obtain ⟨i0, hi, hz0, hz1, hz2⟩ := info_parts info8
  have HL := hide hl
  clear hl
  go_enter Tryd.func18, Tryd.ntmps18
  go_wp2_with fail
  (with_reducible refine (pad_is 0 64 _ (by decide) (by decide) (by decide) (by decide)).mono ?_)
  rintro e w1 ⟨A1, c1, rfl, hx1⟩
  go_wp2_with fail
  (with_reducible refine (pad_is 55 9 _ (by decide) (by decide) (by decide) (by decide)).mono ?_)
  rintro e w2 ⟨A2, c2, rfl, hx2⟩
  go_wp2_with fail
  (with_reducible refine (pad_is 56 72 _ (by decide) (by decide) (by decide) (by decide)).mono ?_)
  rintro e w3 ⟨A3, c3, rfl, hx3⟩
  have HX3 : Hid (Ext w w3) := hide ((hx1.trans hx2).trans hx3)
  clear hx1 hx2 hx3
  have hcv := Lib.run_convert_bytes_const (P := Tryd.prog) w3 31 5 #[.int .u8 97, .int .u8 98, .int .u8 99] 3 3 Tryd.underlying31 Tryd.underlying5
  go_wp2_with fail
  have HX4 : Hid (Ext w (w3.alloc (.cells #[.int .u8 97, .int .u8 98, .int .u8 99] 5 (3, 4)))) := hide (HX3.out.alloc _)
  have HR4 : Hid (Rd (w3.alloc (.cells #[.int .u8 97, .int .u8 98, .int .u8 99] 5 (3, 4))) (some ⟨w3.heap.size, 0, none⟩) (byt [97, 98, 99])) := hide (rd_marked w3 5 (byt [97, 98, 99]) (3, 4))
  (with_reducible refine (sum_abc _ _ (HL.out.ext HX4.out) HR4.out).mono ?_)
  rintro e w4 ⟨d1, hd1, hb1, hs1, rfl, hx4⟩
  have HX5 : Hid (Ext w w4) := hide (HX4.out.trans hx4)
  have HH1 := hide (hex_is d1 w4 _ hd1 hb1 hs1)
  clear hd1 hb1 hs1 hx4
  go_wp2_with fail
  (with_reducible refine HH1.out.mono ?_)
  rintro e w5 ⟨rfl, hx5⟩
  have HX6 : Hid (Ext w w5) := hide (HX5.out.trans hx5)
  clear hx5
  go_wp2_with fail
  (with_reducible refine (sum_empty _ (HL.out.ext HX6.out)).mono ?_)
  rintro e w6 ⟨d2, hd2, hb2, hs2, rfl, hx6⟩
  have HX7 : Hid (Ext w w6) := hide (HX6.out.trans hx6)
  have HH2 := hide (hex_is d2 w6 _ hd2 hb2 hs2)
  clear hd2 hb2 hs2 hx6
  go_wp2_with fail
  (with_reducible refine HH2.out.mono ?_)
  rintro e w7 ⟨rfl, hx7⟩
  have HX8 : Hid (Ext w w7) := hide (HX7.out.trans hx7)
  clear hx7
  go_wp2_with fail
  (with_reducible refine (constants_any _ (HL.out.ext HX8.out)).mono ?_)
  rintro e w8 ⟨rfl, hx8⟩
  have HX9 : Hid (Ext w w8) := hide (HX8.out.trans hx8)
  have hi1 := fun (x : World) => eval_agg (P := Tryd.prog) (w := x) Tryd.underlying26 Tryd.underlying22 (by kernel_rfl) (u32v kT).toArray (by omega) (show _ = some (Value.int .u32 1116352408) from rfl)
  clear hx8
  go_wp2_with fail
  (with_reducible refine (start_any _ (HL.out.ext HX9.out)).mono ?_)
  rintro e w9 ⟨rfl, hx9⟩
  have HXa : Hid (Ext w w9) := hide (HX9.out.trans hx9)
  have hi2 := fun (x : World) => eval_agg (P := Tryd.prog) (w := x) Tryd.underlying23 Tryd.underlying22 (by kernel_rfl) (u32v hT).toArray (by omega) (show _ = some (Value.int .u32 1779033703) from rfl)
  clear hx9
  go_wp2_with fail
  go_ret
  exact ⟨rfl, HXa.out⟩
end Go.Proofs.YtmflanhcddehlaaDoor
