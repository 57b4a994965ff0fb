/- Hmac: the law's own look at the examples: it answers true. -/
import Derived.Lib.SlBytesConst
import Derived.Test.YtoinnkjifmlbiaaDoorR5
import Derived.Test.YtoinnkjifmlbiaaDoorS21
namespace Go.Proofs.YtoinnkjifmlbiaaDoor
open Go.RowKit Go.Gr
set_option linter.unusedVariables false
set_option linter.unusedSimpArgs false
theorem hi_hex : hexB (tagB (List.replicate 20 11) [72, 105, 32, 84, 104, 101, 114, 101]) = [98, 48, 51, 52, 52, 99, 54, 49, 100, 56, 100, 98, 51, 56, 53, 51, 53, 99, 97, 56, 97, 102, 99, 101, 97, 102, 48, 98, 102, 49, 50, 98, 56, 56, 49, 100, 99, 50, 48, 48, 99, 57, 56, 51, 51, 100, 97, 55, 50, 54, 101, 57, 51, 55, 54, 99, 50, 101, 51, 50, 99, 102, 102, 55] := by decide +kernel
theorem jefe_hex : hexB (tagB [74, 101, 102, 101] [119, 104, 97, 116, 32, 100, 111, 32, 121, 97, 32, 119, 97, 110, 116, 32, 102, 111, 114, 32, 110, 111, 116, 104, 105, 110, 103, 63]) = [53, 98, 100, 99, 99, 49, 52, 54, 98, 102, 54, 48, 55, 53, 52, 101, 54, 97, 48, 52, 50, 52, 50, 54, 48, 56, 57, 53, 55, 53, 99, 55, 53, 97, 48, 48, 51, 102, 48, 56, 57, 100, 50, 55, 51, 57, 56, 51, 57, 100, 101, 99, 53, 56, 98, 57, 54, 52, 101, 99, 51, 56, 52, 51] := by decide +kernel
/-- a tag whose letters are these -/
def TagIs (w : World) (s : ByteArray) (e : Ending) (w' : World) : Prop := ∃ d : List Int, d.length = 32 ∧ isB d ∧ strOfNums (hexB d) = s ∧ e = .returned (.agg (byt d).toArray) ∧ Ext w w'
theorem tag_hi (A B : Option Addr) (c : Nat) (w : World) (hl : Laid w) (hc : 20 ≤ c) (hr : Rd w A (byt (List.replicate 20 11))) (hrb : Rd w B (byt [72, 105, 32, 84, 104, 101, 114, 101])) :
    Calls Tryd.prog 14 #[.slice A 20 c, .slice B 8 8] w (TagIs w { data := #[98, 48, 51, 52, 52, 99, 54, 49, 100, 56, 100, 98, 51, 56, 53, 51, 53, 99, 97, 56, 97, 102, 99, 101, 97, 102, 48, 98, 102, 49, 50, 98, 56, 56, 49, 100, 99, 50, 48, 48, 99, 57, 56, 51, 51, 100, 97, 55, 50, 54, 101, 57, 51, 55, 54, 99, 50, 101, 51, 50, 99, 102, 102, 55] }) :=
  (htag_any (List.replicate 20 11) [72, 105, 32, 84, 104, 101, 114, 101] A c B 8 w hl hr (by unfold isB; decide) hc (by decide) hrb (by unfold isB; decide) (by decide) (by decide)).mono fun e w' ⟨h1, h2⟩ => ⟨_, tagB_len _ _, tagB_isB _ _, by rw [hi_hex]; rfl, h1, h2⟩
theorem tag_jefe (A B : Option Addr) (w : World) (hl : Laid w) (hr : Rd w A (byt [74, 101, 102, 101])) (hrb : Rd w B (byt [119, 104, 97, 116, 32, 100, 111, 32, 121, 97, 32, 119, 97, 110, 116, 32, 102, 111, 114, 32, 110, 111, 116, 104, 105, 110, 103, 63])) :
    Calls Tryd.prog 14 #[.slice A 4 4, .slice B 28 28] w (TagIs w { data := #[53, 98, 100, 99, 99, 49, 52, 54, 98, 102, 54, 48, 55, 53, 52, 101, 54, 97, 48, 52, 50, 52, 50, 54, 48, 56, 57, 53, 55, 53, 99, 55, 53, 97, 48, 48, 51, 102, 48, 56, 57, 100, 50, 55, 51, 57, 56, 51, 57, 100, 101, 99, 53, 56, 98, 57, 54, 52, 101, 99, 51, 56, 52, 51] }) :=
  (htag_any [74, 101, 102, 101] [119, 104, 97, 116, 32, 100, 111, 32, 121, 97, 32, 119, 97, 110, 116, 32, 102, 111, 114, 32, 110, 111, 116, 104, 105, 110, 103, 63] A 4 B 28 w hl hr (by unfold isB; decide) (by decide) (by decide) hrb (by unfold isB; decide) (by decide) (by decide)).mono fun e w' ⟨h1, h2⟩ => ⟨_, tagB_len _ _, tagB_isB _ _, by rw [jefe_hex]; rfl, h1, h2⟩
theorem rhex_is (d : List Int) (w : World) (s : ByteArray) (hl : d.length = 32) (hb : isB d) (hs : strOfNums (hexB d) = s) : Calls Tryd.prog 26 #[.agg (byt d).toArray] w fun e w' => e = .returned (.string s) ∧ Ext w w' := by
  rw [← hs]; exact rhex_any d w hl hb
theorem equal_1 (A B : Option Addr) (w : World) (ha : Rd w A (byt [97, 98, 99])) (hb : Rd w B (byt [97, 98, 100])) : Calls Tryd.prog 16 #[.slice A 3 3, .slice B 3 3] w fun e w' => e = .returned (.tuple #[.bool false, .int .i64 3]) ∧ Ext w w' := by
  have h := equal_any [97, 98, 99] [97, 98, 100] A B 3 3 w ha hb (by unfold isB; decide) (by unfold isB; decide) (by decide) (by decide)
  rw [show decide (([97, 98, 99] : List Int) = [97, 98, 100]) = false from by decide] at h
  exact h
theorem equal_2 (A B : Option Addr) (w : World) (ha : Rd w A (byt [97, 98, 99])) (hb : Rd w B (byt [97, 98])) : Calls Tryd.prog 16 #[.slice A 3 3, .slice B 2 2] w fun e w' => e = .returned (.tuple #[.bool false, .int .i64 3]) ∧ Ext w w' := by
  have h := equal_any [97, 98, 99] [97, 98] A B 3 2 w ha hb (by unfold isB; decide) (by unfold isB; decide) (by decide) (by decide)
  rw [show decide (([97, 98, 99] : List Int) = [97, 98]) = false from by decide] at h
  exact h
theorem own_rd {w : World} {e : TypeId} {A : Option Addr} {n c : Nat} {l : List Int} (h : Own 0 w e (.slice A n c) (byt l)) : Rd w A (byt l) := by
  obtain ⟨A', c', e', h1, _⟩ := h.form
  cases e'; exact h1
/-- bytes that stand in the text, laid -/
theorem sep_lit {G : Nat → Prop} {w0 w : World} {L : List As} (H : Sep G w0 w L) (l : List Int) (fr : Nat × Nat) : Sep G w0 (w.alloc (.cells (byt l).toArray 5 fr)) (As.rd (some ⟨w.heap.size, 0, none⟩) (byt l) :: L) :=
  H.new (B := As.rd (some ⟨w.heap.size, 0, none⟩) (byt l)) ((Ext.refl w).alloc _) (rd_marked w 5 (byt l) fr) (fun i hi => by obtain ⟨_, ad, e, rfl⟩ := hi; cases e; exact Nat.le_refl _)
/-- the conversion of bytes that stand in the text, just laid -/
theorem wpList_litS {G : Nat → Prop} {w0 w : World} {L : List As} {ops : Array Oper} {rest : List Oper} {o : Oper} {a : Act} {Q : Exit → Act → World → Prop} (H : Sep G w0 w L) (l : List Int) (hgd : o.guard = none) (x : Operand)
    (ho : o.op = .convert 22 22 x) (n c : Nat) (hx : a.eval x = .slice (some ⟨w.heap.size, 0, none⟩) n c)
    (h : ∀ w', Sep G w0 w' (As.rd (some ⟨w.heap.size, 0, none⟩) (byt l) :: L) → wpList Tryd.prog ops Q rest (a.put o.dst (.slice (some ⟨w.heap.size, 0, none⟩) n c)) w') : wpList Tryd.prog ops Q (o :: rest) a (w.alloc (.cells (byt l).toArray 5)) := by
  refine wpList_plain hgd fun K hK => ?_
  have hr := Lib.run_convert_bytes_const (P := Tryd.prog) w 22 5 (byt l).toArray n c Tryd.underlying22 Tryd.underlying5
  unfold Oper.wp execOp
  simp only [ho, hx, Sem.run_bind, hr, Result.andThen_ok, Sem.run_pure]
  exact hK _ _ (h _ (sep_lit H l _))
set_option maxRecDepth 100000 in
set_option maxHeartbeats 2000000 in
theorem shown_any (w : World) (hl : Laid w) : Calls Tryd.prog 11 #[] w fun e w' => e = .returned (.bool true) ∧ Ext w w' := by
  obtain ⟨i0, hi, hz0, hz1, hz2⟩ := info_parts info8
  have HL := hide hl
  clear hl
  go_enter Tryd.func11, Tryd.ntmps11
  go_wp2_with fail
  go_loopw [1, 2] (fun v i wr => ∃ k : Nat, i = .int .i64 k ∧ k ≤ 20 ∧ Hid (Sep No w wr [As.own 5 v (byt (List.replicate k 11))])) (fun _ i _ => 20 - (intOf i).toNat)
  case atStart => exact ⟨0, rfl, by omega, hide ((Sep.refl No w).nilO 5)⟩
  case round =>
    obtain ⟨k, rfl, hk, HS⟩ := hrel
    by_cases hlt : k < 20
    · have hk20 : (k : Int) < 20 := by omega
      have HN : Hid (List.replicate (k + 1) (11 : Int) = List.replicate k 11 ++ [11]) := hide List.replicate_succ'
      have HLE : Hid ((byt (List.replicate k 11)).length < 1000000000) := hide (by rw [byt_length, List.length_replicate]; omega)
      have tok3 : True := trivial
      go_wp2_with (have zz := tok3; clear zz tok3; refine wpList_pushS [] HS.out rfl (.tmp 13) (.tmp 14) 22 rfl i0 (.int .u8 0) 1 Tryd.underlying22 hi hz0 hz1 hz2 rfl rfl rfl rfl HLE.out (by omega) ?_; intro v4 w4 H4; dsimp only [List.nil_append] at H4; have K4 := hide H4; clear H4)
      go_roundw
      case rel => exact ⟨k + 1, by go_num, by omega, hide (by rw [HN.out, byt_append]; exact K4.out)⟩
      case measure => simp [intOf]; omega
    · obtain rfl : k = 20 := by omega
      have H0 := HS.out
      clear HS
      obtain ⟨Av, cv, rfl, hrv, hlv⟩ := own_form (H0.owns (List.Mem.head _))
      have HRV := hide hrv
      have HLV := hide (show 20 ≤ cv from hlv)
      clear hrv hlv
      have tok0 : True := trivial
      go_wp2_with (have zz := tok0; clear zz tok0; refine wpList_litS H0 [72, 105, 32, 84, 104, 101, 114, 101] rfl (.tmp 17) rfl 8 8 rfl ?_; intro wb K1)
      (with_reducible refine (tag_hi Av _ cv _ (HL.out.ext K1.toExt) HLV.out (own_rd (K1.owns (List.Mem.tail _ (List.Mem.head _)))) (K1.get (List.Mem.head _))).mono ?_)
      rintro e w1 ⟨d, hd, hdb, hds, rfl, hx1⟩
      have H1 := (Sep.refl No w).ext (K1.toExt.trans hx1)
      have HDL : Hid ((byt d).length = 32) := hide (by rw [byt_length, hd])
      have HHX := hide (fun (x : World) => rhex_is d x _ hd hdb hds)
      clear hd hdb hds hx1 K1 H0 HRV HLV
      have tok1 : True := trivial
      have tok2 : True := trivial
      have tok3 : True := trivial
      have tok4 : True := trivial
      go_wp2_with (first
        | (have zz := tok1; clear zz tok1; refine wpList_alS H1 rfl 26 rfl (Z8 32) (by kernel_rfl) ?_; intro w2 _ H2; clear H1)
        | (have zz := tok2; clear zz tok2; refine wpList_stS [] H2 rfl 26 (.tmp 3) (.tmp 19) rfl rfl (cs := byt d) rfl (by rw [HDL.out]; kernel_rfl) (by rw [HDL.out]; rfl) (byt_one _) ?_; intro w3 H3; dsimp only [List.nil_append] at H3; clear H2)
        | (have zz := tok3; clear zz tok3; refine wpList_litS H3 [74, 101, 102, 101] rfl (.tmp 20) rfl 4 4 rfl ?_; intro w4 H4; clear H3)
        | (have zz := tok4; clear zz tok4; refine wpList_litS H4 [119, 104, 97, 116, 32, 100, 111, 32, 121, 97, 32, 119, 97, 110, 116, 32, 102, 111, 114, 32, 110, 111, 116, 104, 105, 110, 103, 63] rfl (.tmp 22) rfl 28 28 rfl ?_; intro w5 H5; clear H4))
      (with_reducible refine (tag_jefe _ _ _ (HL.out.ext H5.toExt) (H5.get (List.Mem.tail _ (List.Mem.head _))) (H5.get (List.Mem.head _))).mono ?_)
      rintro e w6 ⟨d2, hd, hdb, hds, rfl, hx6⟩
      have H6 := ((H5.ext hx6).tail).tail
      have HDL2 : Hid ((byt d2).length = 32) := hide (by rw [byt_length, hd])
      have HHX2 := hide (fun (x : World) => rhex_is d2 x _ hd hdb hds)
      clear hd hdb hds hx6 H5
      have tok5 : True := trivial
      have tok6 : True := trivial
      have tok7 : True := trivial
      have tok8 : True := trivial
      go_wp2_with (first
        | (have zz := tok5; clear zz tok5; refine wpList_alS H6 rfl 26 rfl (Z8 32) (by kernel_rfl) ?_; intro w7 _ H7; clear H6)
        | (have zz := tok6; clear zz tok6; refine wpList_stS [] H7 rfl 26 (.tmp 4) (.tmp 24) rfl rfl (cs := byt d2) rfl (by rw [HDL2.out]; kernel_rfl) (by rw [HDL2.out]; rfl) (byt_one _) ?_; intro w8 H8; dsimp only [List.nil_append] at H8; clear H7)
        | (have zz := tok7; clear zz tok7; refine wpList_litS H8 [97, 98, 99] rfl (.tmp 26) rfl 3 3 rfl ?_; intro w9 H9; clear H8)
        | (have zz := tok8; clear zz tok8; refine wpList_litS H9 [97, 98, 100] rfl (.tmp 28) rfl 3 3 rfl ?_; intro wa Ha; clear H9))
      (with_reducible refine (equal_1 _ _ _ (Ha.get (List.Mem.tail _ (List.Mem.head _))) (Ha.get (List.Mem.head _))).mono ?_)
      rintro e wb1 ⟨rfl, hxb⟩
      have Hb := ((Ha.ext hxb).tail).tail
      clear hxb Ha
      have tok9 : True := trivial
      have tok10 : True := trivial
      go_wp2_with (first
        | (have zz := tok9; clear zz tok9; refine wpList_litS Hb [97, 98, 99] rfl (.tmp 34) rfl 3 3 rfl ?_; intro wc Hc; clear Hb)
        | (have zz := tok10; clear zz tok10; refine wpList_litS Hc [97, 98] rfl (.tmp 36) rfl 2 2 rfl ?_; intro wd Hd; clear Hc))
      (with_reducible refine (equal_2 _ _ _ (Hd.get (List.Mem.tail _ (List.Mem.head _))) (Hd.get (List.Mem.head _))).mono ?_)
      rintro e we ⟨rfl, hxe⟩
      have He := ((Hd.ext hxe).tail).tail
      clear hxe Hd
      have tok11 : True := trivial
      have tok12 : True := trivial
      go_wp2_with (have zz := tok11; clear zz tok11; refine wpList_ldS He (List.Mem.tail _ (List.Mem.head _)) rfl 26 (.tmp 3) rfl rfl _ Tryd.underlying26 rfl (by rw [HDL.out]; kernel_rfl) ?_)
      (with_reducible refine (HHX.out _).mono ?_)
      rintro e wf ⟨rfl, hxf⟩
      have Hf := He.ext hxf
      clear hxf He HHX
      go_wp2_with (have zz := tok12; clear zz tok12; refine wpList_ldS Hf (List.Mem.head _) rfl 26 (.tmp 4) rfl rfl _ Tryd.underlying26 rfl (by rw [HDL2.out]; kernel_rfl) ?_)
      (with_reducible refine (HHX2.out _).mono ?_)
      rintro e wg ⟨rfl, hxg⟩
      have Hg := hide (Hf.ext hxg).toExt
      clear hxg Hf HHX2
      go_wp2_with fail
      go_ret
      exact ⟨rfl, Hg.out⟩
end Go.Proofs.YtoinnkjifmlbiaaDoor
