/- The law ShaParts walked. -/
import Derived.Test.YtmflanhcddehlaaDoorS15
import Derived.Test.YtmflanhcddehlaaDoorLHexes
import Derived.Test.YtmflanhcddehlaaDoorRows2
import Derived.Test.YtmflanhcddehlaaDoorSep
namespace Go.Proofs.YtmflanhcddehlaaDoor
open Go.RowKit Go.Gr
set_option linter.unusedVariables false
attribute [local go_sem] rdOp rdAt rdUpon Cls
theorem bytesA {w : World} {v : Value} (h : LfOk Tryd.prog w (.slice 5) v) : ∃ A l c, v = .slice A l.length c ∧ Rd w A (byt l) ∧ isB l ∧ l.length ≤ c ∧ c ≤ maxLen := by
  obtain ⟨A, l, c, rfl, h1, h2, h3, h4⟩ := slice_ints Tryd.underlying5 (by kernel_rfl) h
  exact ⟨A, l, c, rfl, h1, fun x hx => wf_u8 (h2 x hx), h3, h4⟩
/-- block g is a hash to which l has been written -/
def AsHash (g : Nat) (l : List Int) : As := ⟨At g, fun w => HashAt w g l, fun h k hk => by cases hk; exact h.lt, fun h k => by
  obtain ⟨r, a, b, c, d⟩ := h
  exact ⟨r, a, b, c, (k g rfl).trans d⟩⟩
theorem sep_write {w0 w w' : World} {L1 L2 : List As} {g : Nat} {l l' : List Int} {G : Nat → Prop} (H : Sep G w0 w (L1 ++ AsHash g l :: L2)) (h : HashAt w' g l') (u : Upd g w w') : Sep G w0 w' (L1 ++ AsHash g l' :: L2) :=
  H.upd (B := AsHash g l') (Fr.of_upd u) (fun _ h => h) h (fun _ h => .inl h)
theorem sep_hash {w0 w : World} {L : List As} {g : Nat} {l : List Int} {G : Nat → Prop} (H : Sep G w0 w L) (h : AsHash g l ∈ L) : HashAt w g l := H.get h
theorem own_form {w : World} {e : TypeId} {v : Value} {l : List Int} (h : Own 0 w e v (byt l)) : ∃ A c, v = .slice A l.length c ∧ Rd w A (byt l) ∧ l.length ≤ c := by
  obtain ⟨A, c, rfl, h1, h2, _⟩ := h.form
  rw [byt_length] at h2 ⊢
  exact ⟨A, c, rfl, h1, h2⟩
theorem isB_append {a b : List Int} (h : isB a) (k : isB b) : isB (a ++ b) := fun x hx => by
  rcases List.mem_append.1 hx with hx | hx
  · exact h x hx
  · exact k x hx
set_option maxHeartbeats 4000000 in
theorem parts_law (w : World) (hl : Laid w) (v0 : Value) (h0 : LfOk Tryd.prog w (.slice 31) v0) : Calls Tryd.prog 8 #[v0] w fun e w' => e = .returned (.bool true) ∧ Ext w w' := by
  obtain ⟨i0, hi, hz0, hz1, hz2⟩ := info_parts info8
  obtain ⟨A, xs, c, rfl, hr, hx, hc, hm⟩ := slice_lf (l := .slice 5) 8 (by kernel_rfl) (by kernel_rfl) h0
  have HL := hide hl
  have HR := hide hr
  have HX := hide hx
  have h2 := hl.two
  unfold maxLen at hm
  clear hl hr h0 hx
  by_cases hlt : 10 < xs.length
  · have hlt' : decide ((10 : Int) < (xs.length : Int)) = true := by simp; omega
    go_enter Tryd.func8, Tryd.ntmps8
    go_wp2_with fail
    (with_reducible refine (shown_any _ HL.out).mono ?_)
    rintro e w1 ⟨rfl, hx1⟩
    go_wp2_with fail
    go_ret
    exact ⟨rfl, hx1⟩
  · have hlt' : decide ((10 : Int) < (xs.length : Int)) = false := by simp; omega
    have hn10 : xs.length ≤ 10 := by omega
    go_enter Tryd.func8, Tryd.ntmps8
    go_wp2_with fail
    (with_reducible refine (new_ex _ HL.out).mono ?_)
    rintro e w1 ⟨g, rfl, hg, hh1, hx1⟩
    have H1 := (Sep.refl No w).new (B := AsHash g []) hx1 hh1 (fun i hi => by cases hi; exact Nat.le_of_eq hg.symm)
    have HG : Hid (w.heap.size ≤ g) := hide (Nat.le_of_eq hg.symm)
    have H1 := (H1.nilO 5).swap
    clear hg hh1 hx1
    go_wp2_with fail
    clear hlt hlt'
    go_loopw [4, 5] (fun v i wr => ∃ (k : Nat) (acc : List Int), i = .int .i64 k ∧ k ≤ xs.length ∧ Hid (isB acc ∧ acc.length ≤ 300 * k) ∧ Sep No w wr [AsHash g acc, As.own 5 v (byt acc)]) (fun _ i _ => xs.length - (intOf i).toNat)
    case atStart => exact ⟨0, [], rfl, by omega, hide ⟨by unfold isB; simp, by simp⟩, H1⟩
    case round =>
      obtain ⟨k, acc, rfl, hk, HA, H⟩ := hrel
      by_cases hlt : k < xs.length
      · obtain ⟨ad, rfl, hcell⟩ := (H.rdN HR.out).at_ hlt
        obtain ⟨Ax, lx, cx, hxe, hrx, hbx, hcx, _⟩ := bytesA (HX.out _ (List.getElem_mem hlt))
        have HRk : Hid (∀ w', Ext w w' → w'.cell? (ad.add k) = some (.slice Ax lx.length cx)) := hide (fun w' h => by
          obtain ⟨ad', e, hc'⟩ := (HR.out.ext h).at_ hlt
          cases e
          rw [hxe] at hc'; exact hc')
        rw [hxe] at hcell
        have HRx := hide hrx
        have HBx := hide hbx
        have HNe : Hid (0 < lx.length → ∀ ad, Ax = some ad → ad.block ≠ g) := hide (fun h0 ad e => by have := rd_before HRx.out (by simpa using h0) ad e; have := HG.out; omega)
        clear hxe hrx hbx
        by_cases hlt3 : 300 < lx.length
        · have hd3 : decide ((300 : Int) < (lx.length : Int)) = true := by simp; omega
          go_wp2_with fail
          (with_reducible refine (shown_any _ (HL.out.ext H.toExt)).mono ?_)
          rintro e w2 ⟨rfl, hx2⟩
          go_wp2_with fail
          go_ret
          exact ⟨rfl, H.toExt.trans hx2⟩
        · have hd3 : decide ((300 : Int) < (lx.length : Int)) = false := by simp; omega
          have hal := HA.out.2
          have HAB := hide HA.out.1
          go_wp2_with fail
          (with_reducible refine (write_any g acc lx Ax cx _ (HL.out.ext H.toExt) (by have := HG.out; omega) (sep_hash H (by simp)) (H.rdN HRx.out) HNe.out HBx.out hcx (by omega)).mono ?_)
          rintro e w2 ⟨rfl, hh2, hu2⟩
          have H2 := sep_write (L1 := []) H hh2 hu2
          dsimp only [List.nil_append] at H2
          clear hh2 hu2 H hcell
          have hcell2 := HRk.out w2 H2.toExt
          go_wp2_with ((with_reducible refine wpList_apS [AsHash g (acc ++ lx)] H2 rfl (.tmp 35) (.tmp 39) 31 rfl i0 (.int .u8 0) 1 Tryd.underlying31 hi hz0 hz1 hz2 rfl rfl (A := Ax) (m := lx.length) (c := cx) (news := byt lx) rfl (by simp) (H2.rdN HRx.out) (byt_one _) (by simp; omega) (by omega) ?_); intro v3 w3 H3; rw [← byt_append] at H3; dsimp only [List.cons_append, List.nil_append] at H3; clear H2 hcell2)
          (with_reducible refine (hsum_any g (acc ++ lx) _ (HL.out.ext H3.toExt) (sep_hash H3 (by simp)) (by simp; omega)).mono ?_)
          rintro e w4 ⟨rfl, hx4⟩
          have H4 := H3.ext hx4
          clear hx4 H3
          obtain ⟨acc', hacc⟩ : ∃ acc', acc ++ lx = acc' := ⟨_, rfl⟩
          have hal' : acc'.length ≤ 300 * (k + 1) := by rw [← hacc, List.length_append]; omega
          have HAB' : Hid (isB acc') := hide (by rw [← hacc]; exact isB_append HAB.out HBx.out)
          rw [hacc] at H4
          rw [hacc]
          have HDL : Hid ((byt (digest acc')).length = 32) := hide (by rw [byt_length, digest_len])
          have H5 := H4.newB ((Ext.refl w4).alloc (.cells (Z8 32).toArray 32)) (Blk.new w4 32 (Z8 32)) (Nat.le_refl _)
          clear hacc
          go_wp2_with (refine wpList_stS [] H5 rfl 32 (.tmp 7) (.tmp 44) rfl rfl (cs := byt (digest acc')) rfl (by rw [HDL.out]; kernel_rfl) (by rw [HDL.out]; rfl) (byt_one _) ?_; intro w6 H6; dsimp only [List.nil_append] at H6; clear H5 H4)
          (with_reducible refine (len_any g acc' _ (sep_hash H6 (by simp))).mono ?_)
          rintro e w7 ⟨rfl, rfl⟩
          go_wp2_with fail
          refine wp_region_wm [0, 1, 2, 3, 4, 5, 6, 7, 8, 9, 10, 11, 12, 13, 14, 15, 16, 17, 18, 19, 20, 21] (by kernel_rfl) (by kernel_rfl) (by kernel_rfl) (by kernel_rfl) ?_
          have H7 := H6.drew
          clear H6
          generalize w6.drew = wd at *
          obtain ⟨Ao, co, rfl, hro, hlo⟩ := own_form (H7.owns (.tail _ (.tail _ (.head _))))
          have HSU := hide (sum_any acc' Ao co wd (HL.out.ext H7.toExt) hro HAB'.out hlo (by omega))
          have hne := neq32 (digest acc') (digest_len _)
          clear hro
          iterate 11 (refine wm_rd rfl rfl (fun K hK => ?_); go_simp; refine hK _ ?_; clear hK K)
          refine wm_ldS H7 (.head _) rfl rfl 32 (.tmp 7) rfl rfl _ Tryd.underlying32 rfl (by rw [HDL.out]; kernel_rfl) ?_
          iterate 1 (refine wm_rd rfl rfl (fun K hK => ?_); go_simp; refine hK _ ?_; clear hK K)
          refine wm_ext rfl rfl (fun K hK => ?_)
          go_simp
          go_at_call 19
          (with_reducible refine HSU.out.mono ?_)
          rintro e w8 ⟨rfl, hx8⟩
          refine hK _ _ hx8 ?_
          clear hK K
          have H8 := H7.ext hx8
          clear H7 hx8 HSU
          iterate 8 (refine wm_rd rfl rfl (fun K hK => ?_); go_simp; refine hK _ ?_; clear hK K)
          refine wm_nil ?_
          have H9 := H8.tail
          have hal2 : acc'.length ≤ 300 * (k + 1) := hal'
          clear H8 hne
          go_wp2_with fail
          go_roundw
          case rel => exact ⟨k + 1, acc', by go_num, by omega, hide ⟨HAB'.out, hal2⟩, H9⟩
          case measure => simp [intOf]; omega
      · obtain rfl : k = xs.length := by omega
        go_wp2_with fail
        (with_reducible refine (shown_any _ (HL.out.ext H.toExt)).mono ?_)
        rintro e w2 ⟨rfl, hx2⟩
        go_wp2_with fail
        go_ret
        exact ⟨rfl, H.toExt.trans hx2⟩
end Go.Proofs.YtmflanhcddehlaaDoor
