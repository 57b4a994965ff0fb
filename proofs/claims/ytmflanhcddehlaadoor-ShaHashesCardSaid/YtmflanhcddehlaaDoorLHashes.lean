/- The law ShaHashes walked. -/
import Derived.Test.YtmflanhcddehlaaDoorS22
import Derived.Test.YtmflanhcddehlaaDoorS17
import Derived.Test.YtmflanhcddehlaaDoorArms
import Derived.Deep.DeepCutAuto
import Derived.Deep.CutBlock
namespace Go.Proofs.YtmflanhcddehlaaDoor
open Go.RowKit Go.Gr
set_option linter.unusedVariables false
attribute [local go_sem] rdOp rdAt rdUpon Cls forall_fr
abbrev ptr (g : Nat) : Value := .pointer (some ⟨g, 0, none⟩)
def Rds (A0 : Option Addr) (l0 : List Int) (A1 : Option Addr) (l1 : List Int) : As := (As.rd A0 (byt l0)).and (As.rd A1 (byt l1))
def Lst (bH bB g0 g1 : Nat) (A0 A1 : Option Addr) (c0 c1 : Nat) (l0 l1 : List Int) : List As :=
  [As.blk bH 58 [ptr g0, ptr g1], As.blk bB 59 [.slice A0 l0.length c0, .slice A1 l1.length c1], AsHash g0 l0, AsHash g1 l1, Rds A0 l0 A1 l1]
theorem sep_hash_le {w0 w : World} {L : List As} {g : Nat} {l : List Int} (H : Sep No w0 w L) (h : AsHash g l ∈ L) : w0.heap.size ≤ g := by
  rcases H.own _ h g rfl with h1 | h1
  · exact h1.elim
  · exact h1
theorem own_rd {w : World} {e : TypeId} {A : Option Addr} {n c : Nat} {l : List Int} (h : Own 0 w e (.slice A n c) (byt l)) : Rd w A (byt l) := by
  obtain ⟨A', c', e', h1, _⟩ := h.form
  cases e'; exact h1
theorem own_fp {e : TypeId} {A : Option Addr} {n c : Nat} {xs : List Value} (i : Nat) (h : (As.rd A xs).fp i) : (As.own e (.slice A n c) xs).fp i := by
  obtain ⟨_, ad, rfl, rfl⟩ := h
  rfl
theorem two_one (a b : Nat) : ∀ v ∈ [ptr a, ptr b], v.oneCell' = true := by intro v hv; simp at hv; rcases hv with rfl | rfl <;> rfl
/-- what stands behind an act -/
def HRel (w wx : World) (bH bB k : Nat) : Prop := ∃ (g0 g1 : Nat) (A0 A1 : Option Addr) (c0 c1 : Nat) (l0 l1 : List Int), Hid (isB l0 ∧ isB l1 ∧ l0.length ≤ 200 * (k + 1) ∧ l1.length ≤ 200 * (k + 1) ∧ l0.length ≤ c0 ∧ l1.length ≤ c1) ∧ Sep No w wx (Lst bH bB g0 g1 A0 A1 c0 c1 l0 l1)
set_option maxRecDepth 100000 in
set_option maxHeartbeats 64000000 in
theorem hashes_law (w : World) (hl : Laid w) (v0 : Value) (h0 : LfOk Tryd.prog w (.slice 61) v0) : Calls Tryd.prog 9 #[v0] w fun e w' => e = .returned (.bool true) ∧ Ext w w' := by
  obtain ⟨i0, hi, hz0, hz1, hz2⟩ := info_parts info8
  obtain ⟨A, rows, c, rfl, hr, hx, hc, hm⟩ := slice_lvs (L := [.int .u8, .bool, .slice 5]) 8 (by kernel_rfl) (by kernel_rfl) h0
  have HL := hide hl
  have HR := hide hr
  have HX := hide hx
  have h2 := hl.two
  unfold maxLen at hm
  clear hl hr h0 hx
  by_cases hlt : 20 < rows.length
  · have hlt' : decide ((20 : Int) < (rows.length : Int)) = true := by simp; omega
    go_enter Tryd.func9, Tryd.ntmps9
    go_wp2_with fail
    (with_reducible refine (shown_any _ HL.out).mono ?_)
    rintro e w1 ⟨rfl, hx1⟩
    go_wp2_with fail
    go_ret
    exact ⟨rfl, hx1⟩
  · have hlt' : decide ((20 : Int) < (rows.length : Int)) = false := by simp; omega
    have hn20 : rows.length ≤ 20 := by omega
    go_enter Tryd.func9, Tryd.ntmps9
    go_wp2_with fail
    (with_reducible refine (new_ex _ HL.out).mono ?_)
    rintro e w1 ⟨g0, rfl, hg, hh1, hx1⟩
    have H1 := (Sep.refl No w).new (B := AsHash g0 []) hx1 hh1 (fun i hi => by cases hi; exact Nat.le_of_eq hg.symm)
    clear hg hh1 hx1
    go_wp2_with fail
    (with_reducible refine (new_ex _ (HL.out.ext H1.toExt)).mono ?_)
    rintro e w2 ⟨g1, rfl, hg, hh1, hx1⟩
    have H2 := H1.new (B := AsHash g1 []) hx1 hh1 (fun i hi => by cases hi; exact Nat.le_of_eq hg.symm)
    clear hg hh1 hx1 H1
    have H2 := H2.swap
    have H3 := H2.newB ((Ext.refl w2).alloc (.cells #[.pointer none, .pointer none] 58)) (Blk.new w2 58 [.pointer none, .pointer none]) (Nat.le_refl _)
    clear H2
    go_wp2_with (refine wpList_stS [] H3 rfl 58 (.tmp 3) (.tmp 20) rfl rfl (cs := [ptr g0, ptr g1]) rfl (by kernel_rfl) rfl (two_one _ _) ?_; intro w4 H4; dsimp only [List.nil_append] at H4; clear H3)
    have hsz := H4.blk (List.Mem.head _) |>.lt
    generalize w2.heap.size = bH at *
    have H5 := H4.newB ((Ext.refl w4).alloc (.cells #[.slice none 0 0, .slice none 0 0] 59)) (Blk.new w4 59 [.slice none 0 0, .slice none 0 0]) (Nat.le_refl _)
    have H5 := H5.swap
    have H6 := H5.new (B := Rds none [] none []) (Ext.refl _) ⟨Rd.nil _ _, Rd.nil _ _⟩ (fun i hi => by rcases hi with ⟨_, _, h, _⟩ | ⟨_, _, h, _⟩ <;> cases h)
    have H7 : Sep No w (w4.alloc (.cells #[.slice none 0 0, .slice none 0 0] 59)) (Lst bH w4.heap.size g0 g1 none none 0 0 [] []) := H6.perm (List.perm_append_comm (l₁ := [_]))
    clear H4 H5 H6 hsz
    generalize w4.heap.size = bB at *
    clear hlt hlt'
    go_loopw [5] (fun i wr => ∃ (k g0 g1 : Nat) (A0 A1 : Option Addr) (c0 c1 : Nat) (l0 l1 : List Int), i = .int .i64 k ∧ k ≤ rows.length ∧ Hid (isB l0 ∧ isB l1 ∧ l0.length ≤ 200 * k ∧ l1.length ≤ 200 * k ∧ l0.length ≤ c0 ∧ l1.length ≤ c1) ∧ Sep No w wr (Lst bH bB g0 g1 A0 A1 c0 c1 l0 l1)) (fun i _ => rows.length - (intOf i).toNat)
    case atStart => exact ⟨0, g0, g1, none, none, 0, 0, [], [], rfl, by omega, hide ⟨by unfold isB; simp, by unfold isB; simp, by simp, by simp, by simp, by simp⟩, H7⟩
    case round =>
      clear H7
      obtain ⟨k, g0, g1, A0, A1, c0, c1, l0, l1, rfl, hk, HA, H⟩ := hrel
      dsimp only [Lst] at H
      by_cases hlt : k < rows.length
      · have hrow := HX.out _ (List.getElem_mem hlt)
        obtain ⟨v1, U1, hU1, ⟨m0, rfl, hm0⟩, hUa⟩ := hrow.cons
        obtain ⟨v2, U2, rfl, ⟨sec, rfl⟩, hUb⟩ := hUa.cons
        obtain ⟨v3, U3, rfl, hb3, hUc⟩ := hUb.cons
        obtain rfl := Lvs.nil_ hUc
        obtain ⟨Ax, lx, cx, rfl, hrx, hbx, hcx, _⟩ := bytesA hb3
        obtain ⟨hm1, hm2⟩ := wf_u8 hm0
        obtain ⟨b, off, rfl, hcell⟩ := HR.out.at_ (lvs_pos HX.out (by decide)) (List.getElem?_eq_getElem hlt)
        rw [hU1] at hcell
        have HCE : Hid (∀ w', Ext w w' → w'.cell? ⟨b, off + k * 3, none⟩ = some (.int .u8 m0) ∧ w'.cell? ⟨b, off + k * 3 + 1, none⟩ = some (.bool sec) ∧ w'.cell? ⟨b, off + k * 3 + 2, none⟩ = some (.slice Ax lx.length cx)) := hide (fun w' h => ⟨(Below.cell h (cell_lt (hcell 0 _ rfl))).trans (hcell 0 _ rfl), (Below.cell h (cell_lt (hcell 1 _ rfl))).trans (hcell 1 _ rfl), (Below.cell h (cell_lt (hcell 2 _ rfl))).trans (hcell 2 _ rfl)⟩)
        have HRx := hide hrx
        have HBx := hide hbx
        have HAX : Hid (∀ g, w.heap.size ≤ g → 0 < lx.length → ∀ ad, Ax = some ad → ad.block ≠ g) := hide (fun g hg h0 ad e => by have := rd_before HRx.out (by simpa using h0) ad e; omega)
        clear hU1 hUa hUb hUc hb3 hrx hbx hm0 hcell hrow
        obtain ⟨hc0, hc1, hc2⟩ := HCE.out _ H.toExt
        by_cases hlt3 : 200 < lx.length
        · have hd3 : decide ((200 : Int) < (lx.length : Int)) = true := by simp; omega
          go_wp2_with fail
          (with_reducible refine (shown_any _ (HL.out.ext H.toExt)).mono ?_)
          rintro e w2 ⟨rfl, hx2⟩
          go_wp2_with fail
          go_ret
          exact ⟨rfl, H.toExt.trans hx2⟩
        · have hd3 : decide ((200 : Int) < (lx.length : Int)) = false := by simp; omega
          obtain ⟨m, hmm⟩ : ∃ m : Nat, m0 % 8 = m := ⟨(m0 % 8).toNat, by omega⟩
          have hmt : Int.tmod m0 8 = m := by rw [Int.tmod_eq_emod_of_nonneg hm1]; exact hmm
          have hm8 : m < 8 := by omega
          cases sec

          · go_upto_block 2 with fail
            go_cut [7] (fun s7 wx => s7 = .int .i64 0 ∧ HRel w wx bH bB k)
            case rest =>
              obtain ⟨rfl, hrel⟩ := hcut
              obtain ⟨G0, G1, B0, B1, C0, C1, M0, M1, HA2, HZ⟩ := hrel
              dsimp only [Lst] at HZ
              clear H hc0 hc1 hc2
              obtain ⟨hb0, hb1, hl0, hl1, hcc0, hcc1⟩ := HA2.out
              have HBk := hide hb0
              have cH := ((HZ.blk (List.Mem.head _)).cell 0).trans rfl
              clear hb0 hb1
              have HSM := hide (hsum_any G0 M0 wc (HL.out.ext HZ.toExt) (sep_hash HZ (List.Mem.tail _ (List.Mem.tail _ (List.Mem.head _)))) (by omega))
              have HRS := hide (fun (A : Option Addr) (c : Nat) (x : World) (hr : Rd x A (byt M0)) (hc : (M0 : List Int).length ≤ c) => rsum_any M0 A c x hr HBk.out hc (by omega))
              have hD := digest_len (M0 : List Int)
              generalize digest (M0 : List Int) = D at HSM HRS hD
              go_wp2_with fail
              (with_reducible refine HSM.out.mono ?_)
              rintro e wa ⟨rfl, hxa⟩
              have HZa := HZ.ext hxa
              clear hxa HZ cH HSM
              have HDL : Hid ((byt D).length = 32) := hide (by rw [byt_length, hD])
              have HZb := HZa.newB ((Ext.refl wa).alloc (.cells (Z8 32).toArray 32)) (Blk.new wa 32 (Z8 32)) (Nat.le_refl _)
              go_wp2_with (refine wpList_stS [] HZb rfl 32 (.tmp 10) (.tmp 106) rfl rfl (cs := byt D) rfl (by rw [HDL.out]; kernel_rfl) (by rw [HDL.out]; rfl) (byt_one _) ?_; intro wb HZc; dsimp only [List.nil_append] at HZc; have cHc := ((HZc.blk (List.Mem.tail _ (List.Mem.head _))).cell 0).trans rfl; clear HZb HZa)
              (with_reducible refine (len_any G0 M0 _ (sep_hash HZc (List.Mem.tail _ (List.Mem.tail _ (List.Mem.tail _ (List.Mem.head _)))))).mono ?_)
              rintro e wc ⟨rfl, rfl⟩
              clear cHc
              go_wp2_with fail
              refine wp_region_wm [0, 1, 2, 3, 4, 5, 6, 7, 8, 9, 10, 11, 12, 13, 14, 15, 16, 17, 18, 19, 20, 21, 22, 23, 24, 25] (by kernel_rfl) (by kernel_rfl) (by kernel_rfl) (by kernel_rfl) ?_
              have HZd := HZc.drew
              clear HZc
              generalize wb.drew = wd at *
              have hrr := (show Rd wd B0 (byt M0) ∧ Rd wd B1 (byt M1) from HZd.get (A := Rds B0 M0 B1 M1) (List.Mem.tail _ (List.Mem.tail _ (List.Mem.tail _ (List.Mem.tail _ (List.Mem.tail _ (List.Mem.head _))))))).1
              have HSU := hide (HRS.out B0 C0 wd hrr hcc0)
              try simp only [List.length_nil] at HSU
              have hne := neq32 D hD
              clear hrr
              iterate 11 (refine wm_rd rfl rfl (fun K hK => ?_); go_simp; refine hK _ ?_; clear hK K)
              refine wm_ldS HZd (List.Mem.head _) rfl rfl 32 (.tmp 10) rfl rfl _ Tryd.underlying32 rfl (by rw [HDL.out]; kernel_rfl) ?_
              iterate 2 (refine wm_rd rfl rfl (fun K hK => ?_); go_simp; refine hK _ ?_; clear hK K)
              refine wm_ld1 rfl rfl 31 (.tmp 128) rfl rfl (((HZd.blk (List.Mem.tail _ (List.Mem.tail _ (List.Mem.head _)))).cell 0).trans rfl) _ Tryd.underlying31 rfl ?_
              refine wm_ext rfl rfl (fun K hK => ?_)
              go_simp
              go_at_call 20
              (with_reducible refine HSU.out.mono ?_)
              rintro e we ⟨rfl, hxe⟩
              refine hK _ _ hxe ?_
              clear hK K
              have HZe := HZd.ext hxe
              clear HZd hxe HSU
              iterate 6 (refine wm_rd rfl rfl (fun K hK => ?_); go_simp; refine hK _ ?_; clear hK K)
              refine wm_ld1 rfl rfl 31 (.tmp 136) rfl rfl (((HZe.blk (List.Mem.tail _ (List.Mem.tail _ (List.Mem.head _)))).cell 0).trans rfl) _ Tryd.underlying31 rfl ?_
              iterate 3 (refine wm_rd rfl rfl (fun K hK => ?_); go_simp; refine hK _ ?_; clear hK K)
              refine wm_nil ?_
              have HZf := HZe.tail
              clear HZe hne
              go_wp2_with fail
              go_roundw
              case rel => exact ⟨k + 1, G0, G1, B0, B1, C0, C1, M0, M1, by go_num, by omega, HA2, HZf⟩
              case measure => simp [intOf]; omega
            case first =>
             rcases (show m = 0 ∨ m = 1 ∨ m = 2 ∨ m = 3 ∨ m = 4 ∨ m = 5 ∨ m = 6 ∨ m = 7 by omega) with rfl | rfl | rfl | rfl | rfl | rfl | rfl | rfl
             · go_wp2_with fail
               refine wp_region_wtR (RT.fr No) 8 [0, 1, 2, 3, 4, 5, 6, 7] (by kernel_rfl) (by kernel_rfl) (by kernel_rfl) ?_
               have H1 := H.drew
               clear hc0 hc1 hc2 H
               generalize wr.drew = wd at *
               obtain ⟨_, _, hd2⟩ := HCE.out _ H1.toExt
               iterate 2 (refine wr_rd rfl rfl (fun K hK => ?_); go_simp; refine hK _ ?_; clear hK K)
               refine wr_ld1 rfl rfl 49 (.tmp 52) rfl rfl (fun w' h => Fr.cell h (((H1.blk (List.Mem.head _)).cell 0).trans rfl) (fun h => h)) _ Tryd.underlying49 rfl ?_
               iterate 4 (refine wr_rd rfl rfl (fun K hK => ?_); go_simp; refine hK _ ?_; clear hK K)
               refine wr_ld1 rfl rfl 31 (.tmp 57) rfl rfl (fun w' h => Fr.cell h hd2 (fun h => h)) _ Tryd.underlying31 rfl ?_
               refine wr_nil ?_
               simp only [List.drop_succ_cons, List.drop_zero]
               clear hd2
               go_wp2_with fail
               (with_reducible refine (write_any g0 l0 lx Ax cx _ (HL.out.ext H1.toExt) (by have := sep_hash_le H1 (l := l0) (List.Mem.tail _ (List.Mem.tail _ (List.Mem.head _))); omega) (sep_hash H1 (List.Mem.tail _ (List.Mem.tail _ (List.Mem.head _)))) (H1.rdN HRx.out) (HAX.out _ (sep_hash_le H1 (List.Mem.tail _ (List.Mem.tail _ (List.Mem.head _))))) HBx.out hcx (by have := HA.out; omega)).mono ?_)
               rintro e w2 ⟨rfl, hh2, hu2⟩
               have H2 := sep_write (L1 := [_, _]) H1 hh2 hu2
               dsimp only [List.nil_append, List.cons_append] at H2
               clear hh2 hu2 H1
               go_wp2_with fail
               try refine NoPanic.normal ?_
               go_wp2_with fail
               obtain ⟨SB, hSB⟩ : ∃ SB, w2.heap.size = SB := ⟨_, rfl⟩
               refine wp_region_wtR (RT.fr (fun i => SB ≤ i)) 13 [0, 2, 3, 4, 6, 7, 8, 9, 10, 1, 5, 11, 12] (by kernel_rfl) (by kernel_rfl) (by kernel_rfl) ?_
               have H3 := H2.drew
               have hSB' : w2.drew.heap.size = SB := hSB
               clear H2 hSB
               generalize w2.drew = wd2 at *
               have hbB : bB < SB := by rw [← hSB']; exact (H3.blk (List.Mem.tail _ (List.Mem.head _))).lt
               obtain ⟨_, _, he2⟩ := HCE.out _ H3.toExt
               have hbb : b < SB := by rw [← hSB']; exact cell_lt he2
               have HSB := hide hSB'
               clear hSB'
               iterate 3 (refine wr_rd rfl rfl (fun K hK => ?_); go_simp; refine hK _ ?_; clear hK K)
               refine wr_ld1 rfl rfl 31 (.tmp 63) rfl rfl (fun w' h => Fr.cell h (((H3.blk (List.Mem.tail _ (List.Mem.head _))).cell 0).trans rfl) (by show ¬ SB ≤ bB; omega)) _ Tryd.underlying31 rfl ?_
               iterate 4 (refine wr_rd rfl rfl (fun K hK => ?_); go_simp; refine hK _ ?_; clear hK K)
               refine wr_ld1 rfl rfl 31 (.tmp 69) rfl rfl (fun w' h => Fr.cell h he2 (by show ¬ SB ≤ b; omega)) _ Tryd.underlying31 rfl ?_
               clear he2
               refine wr_ext rfl rfl (fun K hK => ?_)
               go_simp
               refine hK _ _ ((Fr.of_ext ((Ext.refl wd2).alloc _)).mono (fun i h => h.elim)) ?_
               clear hK K
               have H4 := (H3.newB ((Ext.refl wd2).alloc (.cells #[] 5)) (Blk.new wd2 5 []) (Nat.le_refl _)).toOwn [] (by simp)
               dsimp only [List.nil_append, List.length_nil] at H4
               have hs4 : SB ≤ (wd2.alloc (.cells #[] 5)).heap.size := by rw [← HSB.out]; simp
               clear H3
               refine wr_ext rfl rfl (fun K hK => ?_)
               rw [if_pos (show Region.wanted _ _ = true from rfl)]
               have hrd := (show Rd (wd2.alloc (.cells #[] 5)) A0 (byt l0) ∧ Rd (wd2.alloc (.cells #[] 5)) A1 (byt l1) from H4.get (A := Rds A0 l0 A1 l1) (List.Mem.tail _ (List.Mem.tail _ (List.Mem.tail _ (List.Mem.tail _ (List.Mem.tail _ (List.Mem.head _))))))).1
               have hla := HA.out.2.2.1
               refine wp_apS [] H4 (.tmp 61) (.tmp 64) 31 rfl i0 (.int .u8 0) 1 Tryd.underlying31 hi hz0 hz1 hz2 rfl rfl (A := A0) (m := l0.length) (c := c0) (news := byt l0) rfl (by simp) hrd (byt_one _) (by simp; omega) (by omega) ?_
               intro v1 w4 H5 hf5 hv5
               dsimp only [List.nil_append] at H5
               have hv5' : ∀ i, v1.ownBlock = some i → SB ≤ i := fun i hi => (hv5 i hi).elim (fun h => by cases h; exact Nat.le_of_eq HSB.out.symm) (fun h => Nat.le_trans hs4 h)
               refine hK _ _ (hf5.mono (fun i hi => by cases hi; exact Nat.le_of_eq HSB.out.symm)) ?_
               clear hK K hf5 hv5 hrd H4 hs4
               refine wr_ext rfl rfl (fun K hK => ?_)
               rw [if_pos (show Region.wanted _ _ = true from rfl)]
               refine wp_apS [] H5 (.tmp 65) (.tmp 70) 31 rfl i0 (.int .u8 0) 1 Tryd.underlying31 hi hz0 hz1 hz2 rfl rfl (A := Ax) (m := lx.length) (c := cx) (news := byt lx) rfl (by simp) (H5.rdN HRx.out) (byt_one _) (by simp; omega) (by omega) ?_
               intro v2 w5 H6 hf6 _
               rw [← byt_append] at H6
               dsimp only [List.nil_append] at H6
               refine hK _ _ (hf6.mono hv5') ?_
               clear hK K hf6 hv5' H5
               iterate 1 (refine wr_rd rfl rfl (fun K hK => ?_); go_simp; refine hK _ ?_; clear hK K)
               refine wr_nil ?_
               simp only [List.drop_succ_cons, List.drop_zero]
               obtain ⟨M0, hM0⟩ : ∃ M, l0 ++ lx = M := ⟨_, rfl⟩
               have hML : M0.length = l0.length + lx.length := by rw [← hM0, List.length_append]
               have hMB : isB M0 := by rw [← hM0]; exact isB_append HA.out.1 HBx.out
               rw [hM0] at H6
               obtain ⟨B0, C0, rfl, hro, hcC⟩ := own_form (H6.owns (List.Mem.head _))
               have HML := hide hML
               have HMk := hide hM0
               have cB := ((H6.blk (List.Mem.tail _ (List.Mem.tail _ (List.Mem.head _)))).cell 0).trans rfl
               have fB := (H6.blk (List.Mem.tail _ (List.Mem.tail _ (List.Mem.head _)))).free 0
               clear hro hML hM0
               go_wp2_with fail
               refine NoPanic.normal ?_
               have H7 := Sep.cell (L1 := [_, _]) H6 0 (.slice B0 M0.length C0)
               dsimp only [List.nil_append, List.cons_append, List.set] at H7
               generalize w5.setCell ⟨bB, 0, none⟩ (.slice B0 M0.length C0) = wz at *
               clear cB fB H6
               have HZ0 := H7.front [_, _, _, _, _]
               dsimp only [List.nil_append, List.cons_append] at HZ0
               have HZ1 := HZ0.merge (C := Rds B0 M0 A1 l1) (fun hR hO => ⟨own_rd hO, hR.2⟩) (fun i hi => hi.elim (fun h => .inr (own_fp i h)) (fun h => .inl (.inr h)))
               have HZ := HZ1.back [_, _, _, _]
               dsimp only [List.nil_append, List.cons_append] at HZ
               have HA2 : Hid (isB M0 ∧ isB l1 ∧ M0.length ≤ 200 * (k + 1) ∧ l1.length ≤ 200 * (k + 1) ∧ M0.length ≤ C0 ∧ l1.length ≤ c1) := hide (by
                 obtain ⟨x1, x2, x3, x4, x5, x6⟩ := HA.out
                 have := HML.out
                 exact ⟨by first | exact hMB | exact x1, by first | exact x2 | exact hMB, by omega, by omega, by omega, by omega⟩)
               clear HZ0 HZ1 H7 hMB hcC HML HMk hla
               go_wp2_with fail
               go_meet
               exact ⟨rfl, g0, g1, B0, A1, C0, c1, M0, l1, HA2, HZ⟩
             · go_wp2_with fail
               refine wp_region_wtR (RT.fr No) 8 [0, 1, 2, 3, 4, 5, 6, 7] (by kernel_rfl) (by kernel_rfl) (by kernel_rfl) ?_
               have H1 := H.drew
               clear hc0 hc1 hc2 H
               generalize wr.drew = wd at *
               obtain ⟨_, _, hd2⟩ := HCE.out _ H1.toExt
               iterate 2 (refine wr_rd rfl rfl (fun K hK => ?_); go_simp; refine hK _ ?_; clear hK K)
               refine wr_ld1 rfl rfl 49 (.tmp 52) rfl rfl (fun w' h => Fr.cell h (((H1.blk (List.Mem.head _)).cell 0).trans rfl) (fun h => h)) _ Tryd.underlying49 rfl ?_
               iterate 4 (refine wr_rd rfl rfl (fun K hK => ?_); go_simp; refine hK _ ?_; clear hK K)
               refine wr_ld1 rfl rfl 31 (.tmp 57) rfl rfl (fun w' h => Fr.cell h hd2 (fun h => h)) _ Tryd.underlying31 rfl ?_
               refine wr_nil ?_
               simp only [List.drop_succ_cons, List.drop_zero]
               clear hd2
               go_wp2_with fail
               (with_reducible refine (write_any g0 l0 lx Ax cx _ (HL.out.ext H1.toExt) (by have := sep_hash_le H1 (l := l0) (List.Mem.tail _ (List.Mem.tail _ (List.Mem.head _))); omega) (sep_hash H1 (List.Mem.tail _ (List.Mem.tail _ (List.Mem.head _)))) (H1.rdN HRx.out) (HAX.out _ (sep_hash_le H1 (List.Mem.tail _ (List.Mem.tail _ (List.Mem.head _))))) HBx.out hcx (by have := HA.out; omega)).mono ?_)
               rintro e w2 ⟨rfl, hh2, hu2⟩
               have H2 := sep_write (L1 := [_, _]) H1 hh2 hu2
               dsimp only [List.nil_append, List.cons_append] at H2
               clear hh2 hu2 H1
               go_wp2_with fail
               try refine NoPanic.normal ?_
               go_wp2_with fail
               obtain ⟨SB, hSB⟩ : ∃ SB, w2.heap.size = SB := ⟨_, rfl⟩
               refine wp_region_wtR (RT.fr (fun i => SB ≤ i)) 13 [0, 2, 3, 4, 6, 7, 8, 9, 10, 1, 5, 11, 12] (by kernel_rfl) (by kernel_rfl) (by kernel_rfl) ?_
               have H3 := H2.drew
               have hSB' : w2.drew.heap.size = SB := hSB
               clear H2 hSB
               generalize w2.drew = wd2 at *
               have hbB : bB < SB := by rw [← hSB']; exact (H3.blk (List.Mem.tail _ (List.Mem.head _))).lt
               obtain ⟨_, _, he2⟩ := HCE.out _ H3.toExt
               have hbb : b < SB := by rw [← hSB']; exact cell_lt he2
               have HSB := hide hSB'
               clear hSB'
               iterate 3 (refine wr_rd rfl rfl (fun K hK => ?_); go_simp; refine hK _ ?_; clear hK K)
               refine wr_ld1 rfl rfl 31 (.tmp 63) rfl rfl (fun w' h => Fr.cell h (((H3.blk (List.Mem.tail _ (List.Mem.head _))).cell 0).trans rfl) (by show ¬ SB ≤ bB; omega)) _ Tryd.underlying31 rfl ?_
               iterate 4 (refine wr_rd rfl rfl (fun K hK => ?_); go_simp; refine hK _ ?_; clear hK K)
               refine wr_ld1 rfl rfl 31 (.tmp 69) rfl rfl (fun w' h => Fr.cell h he2 (by show ¬ SB ≤ b; omega)) _ Tryd.underlying31 rfl ?_
               clear he2
               refine wr_ext rfl rfl (fun K hK => ?_)
               go_simp
               refine hK _ _ ((Fr.of_ext ((Ext.refl wd2).alloc _)).mono (fun i h => h.elim)) ?_
               clear hK K
               have H4 := (H3.newB ((Ext.refl wd2).alloc (.cells #[] 5)) (Blk.new wd2 5 []) (Nat.le_refl _)).toOwn [] (by simp)
               dsimp only [List.nil_append, List.length_nil] at H4
               have hs4 : SB ≤ (wd2.alloc (.cells #[] 5)).heap.size := by rw [← HSB.out]; simp
               clear H3
               refine wr_ext rfl rfl (fun K hK => ?_)
               rw [if_pos (show Region.wanted _ _ = true from rfl)]
               have hrd := (show Rd (wd2.alloc (.cells #[] 5)) A0 (byt l0) ∧ Rd (wd2.alloc (.cells #[] 5)) A1 (byt l1) from H4.get (A := Rds A0 l0 A1 l1) (List.Mem.tail _ (List.Mem.tail _ (List.Mem.tail _ (List.Mem.tail _ (List.Mem.tail _ (List.Mem.head _))))))).1
               have hla := HA.out.2.2.1
               refine wp_apS [] H4 (.tmp 61) (.tmp 64) 31 rfl i0 (.int .u8 0) 1 Tryd.underlying31 hi hz0 hz1 hz2 rfl rfl (A := A0) (m := l0.length) (c := c0) (news := byt l0) rfl (by simp) hrd (byt_one _) (by simp; omega) (by omega) ?_
               intro v1 w4 H5 hf5 hv5
               dsimp only [List.nil_append] at H5
               have hv5' : ∀ i, v1.ownBlock = some i → SB ≤ i := fun i hi => (hv5 i hi).elim (fun h => by cases h; exact Nat.le_of_eq HSB.out.symm) (fun h => Nat.le_trans hs4 h)
               refine hK _ _ (hf5.mono (fun i hi => by cases hi; exact Nat.le_of_eq HSB.out.symm)) ?_
               clear hK K hf5 hv5 hrd H4 hs4
               refine wr_ext rfl rfl (fun K hK => ?_)
               rw [if_pos (show Region.wanted _ _ = true from rfl)]
               refine wp_apS [] H5 (.tmp 65) (.tmp 70) 31 rfl i0 (.int .u8 0) 1 Tryd.underlying31 hi hz0 hz1 hz2 rfl rfl (A := Ax) (m := lx.length) (c := cx) (news := byt lx) rfl (by simp) (H5.rdN HRx.out) (byt_one _) (by simp; omega) (by omega) ?_
               intro v2 w5 H6 hf6 _
               rw [← byt_append] at H6
               dsimp only [List.nil_append] at H6
               refine hK _ _ (hf6.mono hv5') ?_
               clear hK K hf6 hv5' H5
               iterate 1 (refine wr_rd rfl rfl (fun K hK => ?_); go_simp; refine hK _ ?_; clear hK K)
               refine wr_nil ?_
               simp only [List.drop_succ_cons, List.drop_zero]
               obtain ⟨M0, hM0⟩ : ∃ M, l0 ++ lx = M := ⟨_, rfl⟩
               have hML : M0.length = l0.length + lx.length := by rw [← hM0, List.length_append]
               have hMB : isB M0 := by rw [← hM0]; exact isB_append HA.out.1 HBx.out
               rw [hM0] at H6
               obtain ⟨B0, C0, rfl, hro, hcC⟩ := own_form (H6.owns (List.Mem.head _))
               have HML := hide hML
               have HMk := hide hM0
               have cB := ((H6.blk (List.Mem.tail _ (List.Mem.tail _ (List.Mem.head _)))).cell 0).trans rfl
               have fB := (H6.blk (List.Mem.tail _ (List.Mem.tail _ (List.Mem.head _)))).free 0
               clear hro hML hM0
               go_wp2_with fail
               refine NoPanic.normal ?_
               have H7 := Sep.cell (L1 := [_, _]) H6 0 (.slice B0 M0.length C0)
               dsimp only [List.nil_append, List.cons_append, List.set] at H7
               generalize w5.setCell ⟨bB, 0, none⟩ (.slice B0 M0.length C0) = wz at *
               clear cB fB H6
               have HZ0 := H7.front [_, _, _, _, _]
               dsimp only [List.nil_append, List.cons_append] at HZ0
               have HZ1 := HZ0.merge (C := Rds B0 M0 A1 l1) (fun hR hO => ⟨own_rd hO, hR.2⟩) (fun i hi => hi.elim (fun h => .inr (own_fp i h)) (fun h => .inl (.inr h)))
               have HZ := HZ1.back [_, _, _, _]
               dsimp only [List.nil_append, List.cons_append] at HZ
               have HA2 : Hid (isB M0 ∧ isB l1 ∧ M0.length ≤ 200 * (k + 1) ∧ l1.length ≤ 200 * (k + 1) ∧ M0.length ≤ C0 ∧ l1.length ≤ c1) := hide (by
                 obtain ⟨x1, x2, x3, x4, x5, x6⟩ := HA.out
                 have := HML.out
                 exact ⟨by first | exact hMB | exact x1, by first | exact x2 | exact hMB, by omega, by omega, by omega, by omega⟩)
               clear HZ0 HZ1 H7 hMB hcC HML HMk hla
               go_wp2_with fail
               go_meet
               exact ⟨rfl, g0, g1, B0, A1, C0, c1, M0, l1, HA2, HZ⟩
             · go_wp2_with fail
               refine wp_region_wtR (RT.fr No) 8 [0, 1, 2, 3, 4, 5, 6, 7] (by kernel_rfl) (by kernel_rfl) (by kernel_rfl) ?_
               have H1 := H.drew
               clear hc0 hc1 hc2 H
               generalize wr.drew = wd at *
               obtain ⟨_, _, hd2⟩ := HCE.out _ H1.toExt
               iterate 2 (refine wr_rd rfl rfl (fun K hK => ?_); go_simp; refine hK _ ?_; clear hK K)
               refine wr_ld1 rfl rfl 49 (.tmp 52) rfl rfl (fun w' h => Fr.cell h (((H1.blk (List.Mem.head _)).cell 0).trans rfl) (fun h => h)) _ Tryd.underlying49 rfl ?_
               iterate 4 (refine wr_rd rfl rfl (fun K hK => ?_); go_simp; refine hK _ ?_; clear hK K)
               refine wr_ld1 rfl rfl 31 (.tmp 57) rfl rfl (fun w' h => Fr.cell h hd2 (fun h => h)) _ Tryd.underlying31 rfl ?_
               refine wr_nil ?_
               simp only [List.drop_succ_cons, List.drop_zero]
               clear hd2
               go_wp2_with fail
               (with_reducible refine (write_any g0 l0 lx Ax cx _ (HL.out.ext H1.toExt) (by have := sep_hash_le H1 (l := l0) (List.Mem.tail _ (List.Mem.tail _ (List.Mem.head _))); omega) (sep_hash H1 (List.Mem.tail _ (List.Mem.tail _ (List.Mem.head _)))) (H1.rdN HRx.out) (HAX.out _ (sep_hash_le H1 (List.Mem.tail _ (List.Mem.tail _ (List.Mem.head _))))) HBx.out hcx (by have := HA.out; omega)).mono ?_)
               rintro e w2 ⟨rfl, hh2, hu2⟩
               have H2 := sep_write (L1 := [_, _]) H1 hh2 hu2
               dsimp only [List.nil_append, List.cons_append] at H2
               clear hh2 hu2 H1
               go_wp2_with fail
               try refine NoPanic.normal ?_
               go_wp2_with fail
               obtain ⟨SB, hSB⟩ : ∃ SB, w2.heap.size = SB := ⟨_, rfl⟩
               refine wp_region_wtR (RT.fr (fun i => SB ≤ i)) 13 [0, 2, 3, 4, 6, 7, 8, 9, 10, 1, 5, 11, 12] (by kernel_rfl) (by kernel_rfl) (by kernel_rfl) ?_
               have H3 := H2.drew
               have hSB' : w2.drew.heap.size = SB := hSB
               clear H2 hSB
               generalize w2.drew = wd2 at *
               have hbB : bB < SB := by rw [← hSB']; exact (H3.blk (List.Mem.tail _ (List.Mem.head _))).lt
               obtain ⟨_, _, he2⟩ := HCE.out _ H3.toExt
               have hbb : b < SB := by rw [← hSB']; exact cell_lt he2
               have HSB := hide hSB'
               clear hSB'
               iterate 3 (refine wr_rd rfl rfl (fun K hK => ?_); go_simp; refine hK _ ?_; clear hK K)
               refine wr_ld1 rfl rfl 31 (.tmp 63) rfl rfl (fun w' h => Fr.cell h (((H3.blk (List.Mem.tail _ (List.Mem.head _))).cell 0).trans rfl) (by show ¬ SB ≤ bB; omega)) _ Tryd.underlying31 rfl ?_
               iterate 4 (refine wr_rd rfl rfl (fun K hK => ?_); go_simp; refine hK _ ?_; clear hK K)
               refine wr_ld1 rfl rfl 31 (.tmp 69) rfl rfl (fun w' h => Fr.cell h he2 (by show ¬ SB ≤ b; omega)) _ Tryd.underlying31 rfl ?_
               clear he2
               refine wr_ext rfl rfl (fun K hK => ?_)
               go_simp
               refine hK _ _ ((Fr.of_ext ((Ext.refl wd2).alloc _)).mono (fun i h => h.elim)) ?_
               clear hK K
               have H4 := (H3.newB ((Ext.refl wd2).alloc (.cells #[] 5)) (Blk.new wd2 5 []) (Nat.le_refl _)).toOwn [] (by simp)
               dsimp only [List.nil_append, List.length_nil] at H4
               have hs4 : SB ≤ (wd2.alloc (.cells #[] 5)).heap.size := by rw [← HSB.out]; simp
               clear H3
               refine wr_ext rfl rfl (fun K hK => ?_)
               rw [if_pos (show Region.wanted _ _ = true from rfl)]
               have hrd := (show Rd (wd2.alloc (.cells #[] 5)) A0 (byt l0) ∧ Rd (wd2.alloc (.cells #[] 5)) A1 (byt l1) from H4.get (A := Rds A0 l0 A1 l1) (List.Mem.tail _ (List.Mem.tail _ (List.Mem.tail _ (List.Mem.tail _ (List.Mem.tail _ (List.Mem.head _))))))).1
               have hla := HA.out.2.2.1
               refine wp_apS [] H4 (.tmp 61) (.tmp 64) 31 rfl i0 (.int .u8 0) 1 Tryd.underlying31 hi hz0 hz1 hz2 rfl rfl (A := A0) (m := l0.length) (c := c0) (news := byt l0) rfl (by simp) hrd (byt_one _) (by simp; omega) (by omega) ?_
               intro v1 w4 H5 hf5 hv5
               dsimp only [List.nil_append] at H5
               have hv5' : ∀ i, v1.ownBlock = some i → SB ≤ i := fun i hi => (hv5 i hi).elim (fun h => by cases h; exact Nat.le_of_eq HSB.out.symm) (fun h => Nat.le_trans hs4 h)
               refine hK _ _ (hf5.mono (fun i hi => by cases hi; exact Nat.le_of_eq HSB.out.symm)) ?_
               clear hK K hf5 hv5 hrd H4 hs4
               refine wr_ext rfl rfl (fun K hK => ?_)
               rw [if_pos (show Region.wanted _ _ = true from rfl)]
               refine wp_apS [] H5 (.tmp 65) (.tmp 70) 31 rfl i0 (.int .u8 0) 1 Tryd.underlying31 hi hz0 hz1 hz2 rfl rfl (A := Ax) (m := lx.length) (c := cx) (news := byt lx) rfl (by simp) (H5.rdN HRx.out) (byt_one _) (by simp; omega) (by omega) ?_
               intro v2 w5 H6 hf6 _
               rw [← byt_append] at H6
               dsimp only [List.nil_append] at H6
               refine hK _ _ (hf6.mono hv5') ?_
               clear hK K hf6 hv5' H5
               iterate 1 (refine wr_rd rfl rfl (fun K hK => ?_); go_simp; refine hK _ ?_; clear hK K)
               refine wr_nil ?_
               simp only [List.drop_succ_cons, List.drop_zero]
               obtain ⟨M0, hM0⟩ : ∃ M, l0 ++ lx = M := ⟨_, rfl⟩
               have hML : M0.length = l0.length + lx.length := by rw [← hM0, List.length_append]
               have hMB : isB M0 := by rw [← hM0]; exact isB_append HA.out.1 HBx.out
               rw [hM0] at H6
               obtain ⟨B0, C0, rfl, hro, hcC⟩ := own_form (H6.owns (List.Mem.head _))
               have HML := hide hML
               have HMk := hide hM0
               have cB := ((H6.blk (List.Mem.tail _ (List.Mem.tail _ (List.Mem.head _)))).cell 0).trans rfl
               have fB := (H6.blk (List.Mem.tail _ (List.Mem.tail _ (List.Mem.head _)))).free 0
               clear hro hML hM0
               go_wp2_with fail
               refine NoPanic.normal ?_
               have H7 := Sep.cell (L1 := [_, _]) H6 0 (.slice B0 M0.length C0)
               dsimp only [List.nil_append, List.cons_append, List.set] at H7
               generalize w5.setCell ⟨bB, 0, none⟩ (.slice B0 M0.length C0) = wz at *
               clear cB fB H6
               have HZ0 := H7.front [_, _, _, _, _]
               dsimp only [List.nil_append, List.cons_append] at HZ0
               have HZ1 := HZ0.merge (C := Rds B0 M0 A1 l1) (fun hR hO => ⟨own_rd hO, hR.2⟩) (fun i hi => hi.elim (fun h => .inr (own_fp i h)) (fun h => .inl (.inr h)))
               have HZ := HZ1.back [_, _, _, _]
               dsimp only [List.nil_append, List.cons_append] at HZ
               have HA2 : Hid (isB M0 ∧ isB l1 ∧ M0.length ≤ 200 * (k + 1) ∧ l1.length ≤ 200 * (k + 1) ∧ M0.length ≤ C0 ∧ l1.length ≤ c1) := hide (by
                 obtain ⟨x1, x2, x3, x4, x5, x6⟩ := HA.out
                 have := HML.out
                 exact ⟨by first | exact hMB | exact x1, by first | exact x2 | exact hMB, by omega, by omega, by omega, by omega⟩)
               clear HZ0 HZ1 H7 hMB hcC HML HMk hla
               go_wp2_with fail
               go_meet
               exact ⟨rfl, g0, g1, B0, A1, C0, c1, M0, l1, HA2, HZ⟩
             · go_wp2_with fail
               refine wp_region_wtR (RT.fr No) 8 [0, 1, 2, 3, 4, 5, 6, 7] (by kernel_rfl) (by kernel_rfl) (by kernel_rfl) ?_
               have H1 := H.drew
               clear hc0 hc1 hc2 H
               generalize wr.drew = wd at *
               obtain ⟨_, _, hd2⟩ := HCE.out _ H1.toExt
               iterate 2 (refine wr_rd rfl rfl (fun K hK => ?_); go_simp; refine hK _ ?_; clear hK K)
               refine wr_ld1 rfl rfl 49 (.tmp 52) rfl rfl (fun w' h => Fr.cell h (((H1.blk (List.Mem.head _)).cell 0).trans rfl) (fun h => h)) _ Tryd.underlying49 rfl ?_
               iterate 4 (refine wr_rd rfl rfl (fun K hK => ?_); go_simp; refine hK _ ?_; clear hK K)
               refine wr_ld1 rfl rfl 31 (.tmp 57) rfl rfl (fun w' h => Fr.cell h hd2 (fun h => h)) _ Tryd.underlying31 rfl ?_
               refine wr_nil ?_
               simp only [List.drop_succ_cons, List.drop_zero]
               clear hd2
               go_wp2_with fail
               (with_reducible refine (write_any g0 l0 lx Ax cx _ (HL.out.ext H1.toExt) (by have := sep_hash_le H1 (l := l0) (List.Mem.tail _ (List.Mem.tail _ (List.Mem.head _))); omega) (sep_hash H1 (List.Mem.tail _ (List.Mem.tail _ (List.Mem.head _)))) (H1.rdN HRx.out) (HAX.out _ (sep_hash_le H1 (List.Mem.tail _ (List.Mem.tail _ (List.Mem.head _))))) HBx.out hcx (by have := HA.out; omega)).mono ?_)
               rintro e w2 ⟨rfl, hh2, hu2⟩
               have H2 := sep_write (L1 := [_, _]) H1 hh2 hu2
               dsimp only [List.nil_append, List.cons_append] at H2
               clear hh2 hu2 H1
               go_wp2_with fail
               try refine NoPanic.normal ?_
               go_wp2_with fail
               obtain ⟨SB, hSB⟩ : ∃ SB, w2.heap.size = SB := ⟨_, rfl⟩
               refine wp_region_wtR (RT.fr (fun i => SB ≤ i)) 13 [0, 2, 3, 4, 6, 7, 8, 9, 10, 1, 5, 11, 12] (by kernel_rfl) (by kernel_rfl) (by kernel_rfl) ?_
               have H3 := H2.drew
               have hSB' : w2.drew.heap.size = SB := hSB
               clear H2 hSB
               generalize w2.drew = wd2 at *
               have hbB : bB < SB := by rw [← hSB']; exact (H3.blk (List.Mem.tail _ (List.Mem.head _))).lt
               obtain ⟨_, _, he2⟩ := HCE.out _ H3.toExt
               have hbb : b < SB := by rw [← hSB']; exact cell_lt he2
               have HSB := hide hSB'
               clear hSB'
               iterate 3 (refine wr_rd rfl rfl (fun K hK => ?_); go_simp; refine hK _ ?_; clear hK K)
               refine wr_ld1 rfl rfl 31 (.tmp 63) rfl rfl (fun w' h => Fr.cell h (((H3.blk (List.Mem.tail _ (List.Mem.head _))).cell 0).trans rfl) (by show ¬ SB ≤ bB; omega)) _ Tryd.underlying31 rfl ?_
               iterate 4 (refine wr_rd rfl rfl (fun K hK => ?_); go_simp; refine hK _ ?_; clear hK K)
               refine wr_ld1 rfl rfl 31 (.tmp 69) rfl rfl (fun w' h => Fr.cell h he2 (by show ¬ SB ≤ b; omega)) _ Tryd.underlying31 rfl ?_
               clear he2
               refine wr_ext rfl rfl (fun K hK => ?_)
               go_simp
               refine hK _ _ ((Fr.of_ext ((Ext.refl wd2).alloc _)).mono (fun i h => h.elim)) ?_
               clear hK K
               have H4 := (H3.newB ((Ext.refl wd2).alloc (.cells #[] 5)) (Blk.new wd2 5 []) (Nat.le_refl _)).toOwn [] (by simp)
               dsimp only [List.nil_append, List.length_nil] at H4
               have hs4 : SB ≤ (wd2.alloc (.cells #[] 5)).heap.size := by rw [← HSB.out]; simp
               clear H3
               refine wr_ext rfl rfl (fun K hK => ?_)
               rw [if_pos (show Region.wanted _ _ = true from rfl)]
               have hrd := (show Rd (wd2.alloc (.cells #[] 5)) A0 (byt l0) ∧ Rd (wd2.alloc (.cells #[] 5)) A1 (byt l1) from H4.get (A := Rds A0 l0 A1 l1) (List.Mem.tail _ (List.Mem.tail _ (List.Mem.tail _ (List.Mem.tail _ (List.Mem.tail _ (List.Mem.head _))))))).1
               have hla := HA.out.2.2.1
               refine wp_apS [] H4 (.tmp 61) (.tmp 64) 31 rfl i0 (.int .u8 0) 1 Tryd.underlying31 hi hz0 hz1 hz2 rfl rfl (A := A0) (m := l0.length) (c := c0) (news := byt l0) rfl (by simp) hrd (byt_one _) (by simp; omega) (by omega) ?_
               intro v1 w4 H5 hf5 hv5
               dsimp only [List.nil_append] at H5
               have hv5' : ∀ i, v1.ownBlock = some i → SB ≤ i := fun i hi => (hv5 i hi).elim (fun h => by cases h; exact Nat.le_of_eq HSB.out.symm) (fun h => Nat.le_trans hs4 h)
               refine hK _ _ (hf5.mono (fun i hi => by cases hi; exact Nat.le_of_eq HSB.out.symm)) ?_
               clear hK K hf5 hv5 hrd H4 hs4
               refine wr_ext rfl rfl (fun K hK => ?_)
               rw [if_pos (show Region.wanted _ _ = true from rfl)]
               refine wp_apS [] H5 (.tmp 65) (.tmp 70) 31 rfl i0 (.int .u8 0) 1 Tryd.underlying31 hi hz0 hz1 hz2 rfl rfl (A := Ax) (m := lx.length) (c := cx) (news := byt lx) rfl (by simp) (H5.rdN HRx.out) (byt_one _) (by simp; omega) (by omega) ?_
               intro v2 w5 H6 hf6 _
               rw [← byt_append] at H6
               dsimp only [List.nil_append] at H6
               refine hK _ _ (hf6.mono hv5') ?_
               clear hK K hf6 hv5' H5
               iterate 1 (refine wr_rd rfl rfl (fun K hK => ?_); go_simp; refine hK _ ?_; clear hK K)
               refine wr_nil ?_
               simp only [List.drop_succ_cons, List.drop_zero]
               obtain ⟨M0, hM0⟩ : ∃ M, l0 ++ lx = M := ⟨_, rfl⟩
               have hML : M0.length = l0.length + lx.length := by rw [← hM0, List.length_append]
               have hMB : isB M0 := by rw [← hM0]; exact isB_append HA.out.1 HBx.out
               rw [hM0] at H6
               obtain ⟨B0, C0, rfl, hro, hcC⟩ := own_form (H6.owns (List.Mem.head _))
               have HML := hide hML
               have HMk := hide hM0
               have cB := ((H6.blk (List.Mem.tail _ (List.Mem.tail _ (List.Mem.head _)))).cell 0).trans rfl
               have fB := (H6.blk (List.Mem.tail _ (List.Mem.tail _ (List.Mem.head _)))).free 0
               clear hro hML hM0
               go_wp2_with fail
               refine NoPanic.normal ?_
               have H7 := Sep.cell (L1 := [_, _]) H6 0 (.slice B0 M0.length C0)
               dsimp only [List.nil_append, List.cons_append, List.set] at H7
               generalize w5.setCell ⟨bB, 0, none⟩ (.slice B0 M0.length C0) = wz at *
               clear cB fB H6
               have HZ0 := H7.front [_, _, _, _, _]
               dsimp only [List.nil_append, List.cons_append] at HZ0
               have HZ1 := HZ0.merge (C := Rds B0 M0 A1 l1) (fun hR hO => ⟨own_rd hO, hR.2⟩) (fun i hi => hi.elim (fun h => .inr (own_fp i h)) (fun h => .inl (.inr h)))
               have HZ := HZ1.back [_, _, _, _]
               dsimp only [List.nil_append, List.cons_append] at HZ
               have HA2 : Hid (isB M0 ∧ isB l1 ∧ M0.length ≤ 200 * (k + 1) ∧ l1.length ≤ 200 * (k + 1) ∧ M0.length ≤ C0 ∧ l1.length ≤ c1) := hide (by
                 obtain ⟨x1, x2, x3, x4, x5, x6⟩ := HA.out
                 have := HML.out
                 exact ⟨by first | exact hMB | exact x1, by first | exact x2 | exact hMB, by omega, by omega, by omega, by omega⟩)
               clear HZ0 HZ1 H7 hMB hcC HML HMk hla
               go_wp2_with fail
               go_meet
               exact ⟨rfl, g0, g1, B0, A1, C0, c1, M0, l1, HA2, HZ⟩
             · have HZ := H
               have HA2 : Hid (isB l0 ∧ isB l1 ∧ l0.length ≤ 200 * (k + 1) ∧ l1.length ≤ 200 * (k + 1) ∧ l0.length ≤ c0 ∧ l1.length ≤ c1) := hide (by
                 obtain ⟨x1, x2, x3, x4, x5, x6⟩ := HA.out
                 exact ⟨x1, x2, by omega, by omega, x5, x6⟩)
               clear H
               go_wp2_with fail
               go_meet
               exact ⟨rfl, g0, g1, A0, A1, c0, c1, l0, l1, HA2, HZ⟩
             · have HZ := H
               have HA2 : Hid (isB l0 ∧ isB l1 ∧ l0.length ≤ 200 * (k + 1) ∧ l1.length ≤ 200 * (k + 1) ∧ l0.length ≤ c0 ∧ l1.length ≤ c1) := hide (by
                 obtain ⟨x1, x2, x3, x4, x5, x6⟩ := HA.out
                 exact ⟨x1, x2, by omega, by omega, x5, x6⟩)
               clear H
               go_wp2_with fail
               go_meet
               exact ⟨rfl, g0, g1, A0, A1, c0, c1, l0, l1, HA2, HZ⟩
             · have cH := ((H.blk (List.Mem.head _)).cell 0).trans rfl
               go_wp2_with fail
               (with_reducible refine (reset_any g0 l0 _ (HL.out.ext H.toExt) (sep_hash H (List.Mem.tail _ (List.Mem.tail _ (List.Mem.head _))))).mono ?_)
               rintro e w2 ⟨rfl, hh2, hu2⟩
               have H2 := sep_write (L1 := [_, _]) H hh2 hu2
               dsimp only [List.nil_append, List.cons_append] at H2
               clear hh2 hu2 H cH
               have tok : True := trivial
               go_wp2_with (have zz := tok; clear zz tok; refine wpList_st1S [_] H2 rfl 31 (.tmp 80) (.const (.slice none 0 0)) rfl (i := 0) rfl rfl (by kernel_rfl) (by simp) rfl ?_; intro w3 H3; dsimp only [List.nil_append, List.cons_append, List.set] at H3; have cZ := ((H3.blk (List.Mem.head _)).cell 0).trans rfl)
               clear H2 cZ
               have HZ := Sep.weak (B := Rds none [] A1 l1) [_, _, _, _] H3 (fun hR => ⟨Rd.nil _ _, hR.2⟩) (fun i hi => hi.elim (fun h => (h.1 rfl).elim) .inr)
               dsimp only [List.nil_append, List.cons_append] at HZ
               have HA2 : Hid (isB ([] : List Int) ∧ isB (l1 : List Int) ∧ ([] : List Int).length ≤ 200 * (k + 1) ∧ (l1 : List Int).length ≤ 200 * (k + 1) ∧ ([] : List Int).length ≤ 0 ∧ (l1 : List Int).length ≤ c1) := hide (by
                 obtain ⟨x1, x2, x3, x4, x5, x6⟩ := HA.out
                 have x7 : isB ([] : List Int) := by unfold isB; simp
                 exact ⟨x7, x2, by simp, by omega, by simp, x6⟩)
               clear H3
               go_wp2_with fail
               go_meet
               exact ⟨rfl, g0, g1, none, A1, 0, c1, [], l1, HA2, HZ⟩
             · have cH := ((H.blk (List.Mem.head _)).cell 0).trans rfl
               go_wp2_with fail
               (with_reducible refine (copy_ex g0 l0 _ (sep_hash H (List.Mem.tail _ (List.Mem.tail _ (List.Mem.head _))))).mono ?_)
               rintro e w2 ⟨gn, rfl, hgn, hh2, hx2⟩
               have H2 := (H.new (B := AsHash gn l0) hx2 hh2 (fun i hi => by cases hi; exact Nat.le_of_eq hgn.symm))
               clear hgn hh2 hx2 H cH
               go_wp2_with fail
               have hbHB : bH ≠ bB := by
                 intro e
                 have h1 := (List.pairwise_cons.1 (List.pairwise_cons.1 H2.dis).2).1 _ (List.Mem.head _) bH rfl
                 exact h1 e
               refine wp_region_wtR (RT.keep (fun i => i = bH ∨ i = bB) ⟨bB, 0, none⟩) 13 [0, 1, 2, 3, 4, 5, 6, 7, 8, 9, 10, 11, 12] (by kernel_rfl) (by kernel_rfl) (by kernel_rfl) ?_
               have H3 := H2.drew
               clear H2
               generalize w2.drew = wd at *
               have wk1 : IntKind.i64.wrap 1 = 1 := by decide
               have wk0 : IntKind.i64.wrap 0 = 0 := by decide
               iterate 7 (refine wr_rd rfl rfl (fun K hK => ?_); go_simp; refine hK _ ?_; clear hK K)
               refine wr_ld1 rfl rfl 31 (.tmp 96) rfl rfl (fun w' h => h.2 _ (((H3.blk (List.Mem.tail _ (List.Mem.tail _ (List.Mem.head _)))).cell 0).trans rfl)) _ Tryd.underlying31 rfl ?_
               iterate 2 (refine wr_rd rfl rfl (fun K hK => ?_); go_simp; refine hK _ ?_; clear hK K)
               refine wr_ext rfl rfl (fun K hK => ?_)
               rw [if_pos (show Region.wanted _ _ = true from rfl)]
               refine wp_st1S [_] H3 49 (.tmp 99) (.tmp 94) rfl (i := 1) rfl rfl (by kernel_rfl) (by simp) rfl ?_
               intro w3 H4 hu4
               dsimp only [List.nil_append, List.cons_append, List.set] at H4
               refine hK _ _ ⟨(Fr.of_upd hu4).mono (fun i h => .inl h), fun v hv => (World.cell?_of_block (hu4.block bB (H3.blk (List.Mem.tail _ (List.Mem.tail _ (List.Mem.head _)))).lt (fun e => hbHB (by cases e; rfl)))).trans hv⟩ ?_
               clear hK K H3 hu4
               iterate 1 (refine wr_rd rfl rfl (fun K hK => ?_); go_simp; refine hK _ ?_; clear hK K)
               refine wr_ext rfl rfl (fun K hK => ?_)
               rw [if_pos (show Region.wanted _ _ = true from rfl)]
               refine wp_st1S [_, _] H4 31 (.tmp 100) (.tmp 97) rfl (i := 1) rfl rfl (by kernel_rfl) (by simp) rfl ?_
               intro w4 H5 hu5
               dsimp only [List.nil_append, List.cons_append, List.set] at H5
               refine hK _ _ ⟨(Fr.of_upd hu5).mono (fun i h => .inr h), fun v hv => ?_⟩ ?_
               · exact (((H5.blk (List.Mem.tail _ (List.Mem.tail _ (List.Mem.head _)))).cell 0).trans rfl).trans ((((H4.blk (List.Mem.tail _ (List.Mem.tail _ (List.Mem.head _)))).cell 0).trans rfl).symm.trans hv)
               clear hK K H4 hu5 wk1 wk0
               refine wr_nil ?_
               simp only [List.drop_succ_cons, List.drop_zero]
               go_wp2_with fail
               refine NoPanic.normal ?_
               have HZ0 := (H5.front [_, _, _, _]).tail
               dsimp only [List.nil_append, List.cons_append] at HZ0
               have HZ1 := HZ0.back [_, _, _]
               dsimp only [List.nil_append, List.cons_append] at HZ1
               have HZ := Sep.weak (B := Rds A0 l0 A0 l0) [_, _, _, _] HZ1 (fun hR => ⟨hR.1, hR.1⟩) (fun i hi => hi.elim .inl .inl)
               dsimp only [List.nil_append, List.cons_append] at HZ
               have HA2 : Hid (isB l0 ∧ isB l0 ∧ l0.length ≤ 200 * (k + 1) ∧ l0.length ≤ 200 * (k + 1) ∧ l0.length ≤ c0 ∧ l0.length ≤ c0) := hide (by
                 obtain ⟨x1, x2, x3, x4, x5, x6⟩ := HA.out
                 exact ⟨x1, x1, by omega, by omega, x5, x5⟩)
               clear HZ0 HZ1 H5 hbHB
               go_wp2_with fail
               go_meet
               exact ⟨rfl, g0, gn, A0, A0, c0, c0, l0, l0, HA2, HZ⟩
          · go_upto_block 2 with fail
            go_cut [7] (fun s7 wx => s7 = .int .i64 0 ∧ HRel w wx bH bB k)
            case rest =>
              obtain ⟨rfl, hrel⟩ := hcut
              obtain ⟨G0, G1, B0, B1, C0, C1, M0, M1, HA2, HZ⟩ := hrel
              dsimp only [Lst] at HZ
              clear H hc0 hc1 hc2
              obtain ⟨hb0, hb1, hl0, hl1, hcc0, hcc1⟩ := HA2.out
              have HBk := hide hb1
              have cH := ((HZ.blk (List.Mem.head _)).cell 1).trans rfl
              clear hb0 hb1
              have HSM := hide (hsum_any G1 M1 wc (HL.out.ext HZ.toExt) (sep_hash HZ (List.Mem.tail _ (List.Mem.tail _ (List.Mem.tail _ (List.Mem.head _))))) (by omega))
              have HRS := hide (fun (A : Option Addr) (c : Nat) (x : World) (hr : Rd x A (byt M1)) (hc : (M1 : List Int).length ≤ c) => rsum_any M1 A c x hr HBk.out hc (by omega))
              have hD := digest_len (M1 : List Int)
              generalize digest (M1 : List Int) = D at HSM HRS hD
              go_wp2_with fail
              (with_reducible refine HSM.out.mono ?_)
              rintro e wa ⟨rfl, hxa⟩
              have HZa := HZ.ext hxa
              clear hxa HZ cH HSM
              have HDL : Hid ((byt D).length = 32) := hide (by rw [byt_length, hD])
              have HZb := HZa.newB ((Ext.refl wa).alloc (.cells (Z8 32).toArray 32)) (Blk.new wa 32 (Z8 32)) (Nat.le_refl _)
              go_wp2_with (refine wpList_stS [] HZb rfl 32 (.tmp 10) (.tmp 106) rfl rfl (cs := byt D) rfl (by rw [HDL.out]; kernel_rfl) (by rw [HDL.out]; rfl) (byt_one _) ?_; intro wb HZc; dsimp only [List.nil_append] at HZc; have cHc := ((HZc.blk (List.Mem.tail _ (List.Mem.head _))).cell 1).trans rfl; clear HZb HZa)
              (with_reducible refine (len_any G1 M1 _ (sep_hash HZc (List.Mem.tail _ (List.Mem.tail _ (List.Mem.tail _ (List.Mem.tail _ (List.Mem.head _))))))).mono ?_)
              rintro e wc ⟨rfl, rfl⟩
              clear cHc
              go_wp2_with fail
              refine wp_region_wm [0, 1, 2, 3, 4, 5, 6, 7, 8, 9, 10, 11, 12, 13, 14, 15, 16, 17, 18, 19, 20, 21, 22, 23, 24, 25] (by kernel_rfl) (by kernel_rfl) (by kernel_rfl) (by kernel_rfl) ?_
              have HZd := HZc.drew
              clear HZc
              generalize wb.drew = wd at *
              have hrr := (show Rd wd B0 (byt M0) ∧ Rd wd B1 (byt M1) from HZd.get (A := Rds B0 M0 B1 M1) (List.Mem.tail _ (List.Mem.tail _ (List.Mem.tail _ (List.Mem.tail _ (List.Mem.tail _ (List.Mem.head _))))))).2
              have HSU := hide (HRS.out B1 C1 wd hrr hcc1)
              try simp only [List.length_nil] at HSU
              have hne := neq32 D hD
              clear hrr
              iterate 11 (refine wm_rd rfl rfl (fun K hK => ?_); go_simp; refine hK _ ?_; clear hK K)
              refine wm_ldS HZd (List.Mem.head _) rfl rfl 32 (.tmp 10) rfl rfl _ Tryd.underlying32 rfl (by rw [HDL.out]; kernel_rfl) ?_
              iterate 2 (refine wm_rd rfl rfl (fun K hK => ?_); go_simp; refine hK _ ?_; clear hK K)
              refine wm_ld1 rfl rfl 31 (.tmp 128) rfl rfl (((HZd.blk (List.Mem.tail _ (List.Mem.tail _ (List.Mem.head _)))).cell 1).trans rfl) _ Tryd.underlying31 rfl ?_
              refine wm_ext rfl rfl (fun K hK => ?_)
              go_simp
              go_at_call 20
              (with_reducible refine HSU.out.mono ?_)
              rintro e we ⟨rfl, hxe⟩
              refine hK _ _ hxe ?_
              clear hK K
              have HZe := HZd.ext hxe
              clear HZd hxe HSU
              iterate 6 (refine wm_rd rfl rfl (fun K hK => ?_); go_simp; refine hK _ ?_; clear hK K)
              refine wm_ld1 rfl rfl 31 (.tmp 136) rfl rfl (((HZe.blk (List.Mem.tail _ (List.Mem.tail _ (List.Mem.head _)))).cell 1).trans rfl) _ Tryd.underlying31 rfl ?_
              iterate 3 (refine wm_rd rfl rfl (fun K hK => ?_); go_simp; refine hK _ ?_; clear hK K)
              refine wm_nil ?_
              have HZf := HZe.tail
              clear HZe hne
              go_wp2_with fail
              go_roundw
              case rel => exact ⟨k + 1, G0, G1, B0, B1, C0, C1, M0, M1, by go_num, by omega, HA2, HZf⟩
              case measure => simp [intOf]; omega
            case first =>
             rcases (show m = 0 ∨ m = 1 ∨ m = 2 ∨ m = 3 ∨ m = 4 ∨ m = 5 ∨ m = 6 ∨ m = 7 by omega) with rfl | rfl | rfl | rfl | rfl | rfl | rfl | rfl
             · go_wp2_with fail
               refine wp_region_wtR (RT.fr No) 8 [0, 1, 2, 3, 4, 5, 6, 7] (by kernel_rfl) (by kernel_rfl) (by kernel_rfl) ?_
               have H1 := H.drew
               clear hc0 hc1 hc2 H
               generalize wr.drew = wd at *
               obtain ⟨_, _, hd2⟩ := HCE.out _ H1.toExt
               iterate 2 (refine wr_rd rfl rfl (fun K hK => ?_); go_simp; refine hK _ ?_; clear hK K)
               refine wr_ld1 rfl rfl 49 (.tmp 52) rfl rfl (fun w' h => Fr.cell h (((H1.blk (List.Mem.head _)).cell 1).trans rfl) (fun h => h)) _ Tryd.underlying49 rfl ?_
               iterate 4 (refine wr_rd rfl rfl (fun K hK => ?_); go_simp; refine hK _ ?_; clear hK K)
               refine wr_ld1 rfl rfl 31 (.tmp 57) rfl rfl (fun w' h => Fr.cell h hd2 (fun h => h)) _ Tryd.underlying31 rfl ?_
               refine wr_nil ?_
               simp only [List.drop_succ_cons, List.drop_zero]
               clear hd2
               go_wp2_with fail
               (with_reducible refine (write_any g1 l1 lx Ax cx _ (HL.out.ext H1.toExt) (by have := sep_hash_le H1 (l := l1) (List.Mem.tail _ (List.Mem.tail _ (List.Mem.tail _ (List.Mem.head _)))); omega) (sep_hash H1 (List.Mem.tail _ (List.Mem.tail _ (List.Mem.tail _ (List.Mem.head _))))) (H1.rdN HRx.out) (HAX.out _ (sep_hash_le H1 (List.Mem.tail _ (List.Mem.tail _ (List.Mem.tail _ (List.Mem.head _)))))) HBx.out hcx (by have := HA.out; omega)).mono ?_)
               rintro e w2 ⟨rfl, hh2, hu2⟩
               have H2 := sep_write (L1 := [_, _, _]) H1 hh2 hu2
               dsimp only [List.nil_append, List.cons_append] at H2
               clear hh2 hu2 H1
               go_wp2_with fail
               try refine NoPanic.normal ?_
               go_wp2_with fail
               obtain ⟨SB, hSB⟩ : ∃ SB, w2.heap.size = SB := ⟨_, rfl⟩
               refine wp_region_wtR (RT.fr (fun i => SB ≤ i)) 13 [0, 2, 3, 4, 6, 7, 8, 9, 10, 1, 5, 11, 12] (by kernel_rfl) (by kernel_rfl) (by kernel_rfl) ?_
               have H3 := H2.drew
               have hSB' : w2.drew.heap.size = SB := hSB
               clear H2 hSB
               generalize w2.drew = wd2 at *
               have hbB : bB < SB := by rw [← hSB']; exact (H3.blk (List.Mem.tail _ (List.Mem.head _))).lt
               obtain ⟨_, _, he2⟩ := HCE.out _ H3.toExt
               have hbb : b < SB := by rw [← hSB']; exact cell_lt he2
               have HSB := hide hSB'
               clear hSB'
               iterate 3 (refine wr_rd rfl rfl (fun K hK => ?_); go_simp; refine hK _ ?_; clear hK K)
               refine wr_ld1 rfl rfl 31 (.tmp 63) rfl rfl (fun w' h => Fr.cell h (((H3.blk (List.Mem.tail _ (List.Mem.head _))).cell 1).trans rfl) (by show ¬ SB ≤ bB; omega)) _ Tryd.underlying31 rfl ?_
               iterate 4 (refine wr_rd rfl rfl (fun K hK => ?_); go_simp; refine hK _ ?_; clear hK K)
               refine wr_ld1 rfl rfl 31 (.tmp 69) rfl rfl (fun w' h => Fr.cell h he2 (by show ¬ SB ≤ b; omega)) _ Tryd.underlying31 rfl ?_
               clear he2
               refine wr_ext rfl rfl (fun K hK => ?_)
               go_simp
               refine hK _ _ ((Fr.of_ext ((Ext.refl wd2).alloc _)).mono (fun i h => h.elim)) ?_
               clear hK K
               have H4 := (H3.newB ((Ext.refl wd2).alloc (.cells #[] 5)) (Blk.new wd2 5 []) (Nat.le_refl _)).toOwn [] (by simp)
               dsimp only [List.nil_append, List.length_nil] at H4
               have hs4 : SB ≤ (wd2.alloc (.cells #[] 5)).heap.size := by rw [← HSB.out]; simp
               clear H3
               refine wr_ext rfl rfl (fun K hK => ?_)
               rw [if_pos (show Region.wanted _ _ = true from rfl)]
               have hrd := (show Rd (wd2.alloc (.cells #[] 5)) A0 (byt l0) ∧ Rd (wd2.alloc (.cells #[] 5)) A1 (byt l1) from H4.get (A := Rds A0 l0 A1 l1) (List.Mem.tail _ (List.Mem.tail _ (List.Mem.tail _ (List.Mem.tail _ (List.Mem.tail _ (List.Mem.head _))))))).2
               have hla := HA.out.2.2.2
               refine wp_apS [] H4 (.tmp 61) (.tmp 64) 31 rfl i0 (.int .u8 0) 1 Tryd.underlying31 hi hz0 hz1 hz2 rfl rfl (A := A1) (m := l1.length) (c := c1) (news := byt l1) rfl (by simp) hrd (byt_one _) (by simp; omega) (by omega) ?_
               intro v1 w4 H5 hf5 hv5
               dsimp only [List.nil_append] at H5
               have hv5' : ∀ i, v1.ownBlock = some i → SB ≤ i := fun i hi => (hv5 i hi).elim (fun h => by cases h; exact Nat.le_of_eq HSB.out.symm) (fun h => Nat.le_trans hs4 h)
               refine hK _ _ (hf5.mono (fun i hi => by cases hi; exact Nat.le_of_eq HSB.out.symm)) ?_
               clear hK K hf5 hv5 hrd H4 hs4
               refine wr_ext rfl rfl (fun K hK => ?_)
               rw [if_pos (show Region.wanted _ _ = true from rfl)]
               refine wp_apS [] H5 (.tmp 65) (.tmp 70) 31 rfl i0 (.int .u8 0) 1 Tryd.underlying31 hi hz0 hz1 hz2 rfl rfl (A := Ax) (m := lx.length) (c := cx) (news := byt lx) rfl (by simp) (H5.rdN HRx.out) (byt_one _) (by simp; omega) (by omega) ?_
               intro v2 w5 H6 hf6 _
               rw [← byt_append] at H6
               dsimp only [List.nil_append] at H6
               refine hK _ _ (hf6.mono hv5') ?_
               clear hK K hf6 hv5' H5
               iterate 1 (refine wr_rd rfl rfl (fun K hK => ?_); go_simp; refine hK _ ?_; clear hK K)
               refine wr_nil ?_
               simp only [List.drop_succ_cons, List.drop_zero]
               obtain ⟨M1, hM1⟩ : ∃ M, l1 ++ lx = M := ⟨_, rfl⟩
               have hML : M1.length = l1.length + lx.length := by rw [← hM1, List.length_append]
               have hMB : isB M1 := by rw [← hM1]; exact isB_append HA.out.2.1 HBx.out
               rw [hM1] at H6
               obtain ⟨B1, C1, rfl, hro, hcC⟩ := own_form (H6.owns (List.Mem.head _))
               have HML := hide hML
               have HMk := hide hM1
               have cB := ((H6.blk (List.Mem.tail _ (List.Mem.tail _ (List.Mem.head _)))).cell 1).trans rfl
               have fB := (H6.blk (List.Mem.tail _ (List.Mem.tail _ (List.Mem.head _)))).free 1
               clear hro hML hM1
               go_wp2_with fail
               refine NoPanic.normal ?_
               have H7 := Sep.cell (L1 := [_, _]) H6 1 (.slice B1 M1.length C1)
               dsimp only [List.nil_append, List.cons_append, List.set] at H7
               generalize w5.setCell ⟨bB, 1, none⟩ (.slice B1 M1.length C1) = wz at *
               clear cB fB H6
               have HZ0 := H7.front [_, _, _, _, _]
               dsimp only [List.nil_append, List.cons_append] at HZ0
               have HZ1 := HZ0.merge (C := Rds A0 l0 B1 M1) (fun hR hO => ⟨hR.1, own_rd hO⟩) (fun i hi => hi.elim (fun h => .inl (.inl h)) (fun h => .inr (own_fp i h)))
               have HZ := HZ1.back [_, _, _, _]
               dsimp only [List.nil_append, List.cons_append] at HZ
               have HA2 : Hid (isB l0 ∧ isB M1 ∧ l0.length ≤ 200 * (k + 1) ∧ M1.length ≤ 200 * (k + 1) ∧ l0.length ≤ c0 ∧ M1.length ≤ C1) := hide (by
                 obtain ⟨x1, x2, x3, x4, x5, x6⟩ := HA.out
                 have := HML.out
                 exact ⟨by first | exact hMB | exact x1, by first | exact x2 | exact hMB, by omega, by omega, by omega, by omega⟩)
               clear HZ0 HZ1 H7 hMB hcC HML HMk hla
               go_wp2_with fail
               go_meet
               exact ⟨rfl, g0, g1, A0, B1, c0, C1, l0, M1, HA2, HZ⟩
             · go_wp2_with fail
               refine wp_region_wtR (RT.fr No) 8 [0, 1, 2, 3, 4, 5, 6, 7] (by kernel_rfl) (by kernel_rfl) (by kernel_rfl) ?_
               have H1 := H.drew
               clear hc0 hc1 hc2 H
               generalize wr.drew = wd at *
               obtain ⟨_, _, hd2⟩ := HCE.out _ H1.toExt
               iterate 2 (refine wr_rd rfl rfl (fun K hK => ?_); go_simp; refine hK _ ?_; clear hK K)
               refine wr_ld1 rfl rfl 49 (.tmp 52) rfl rfl (fun w' h => Fr.cell h (((H1.blk (List.Mem.head _)).cell 1).trans rfl) (fun h => h)) _ Tryd.underlying49 rfl ?_
               iterate 4 (refine wr_rd rfl rfl (fun K hK => ?_); go_simp; refine hK _ ?_; clear hK K)
               refine wr_ld1 rfl rfl 31 (.tmp 57) rfl rfl (fun w' h => Fr.cell h hd2 (fun h => h)) _ Tryd.underlying31 rfl ?_
               refine wr_nil ?_
               simp only [List.drop_succ_cons, List.drop_zero]
               clear hd2
               go_wp2_with fail
               (with_reducible refine (write_any g1 l1 lx Ax cx _ (HL.out.ext H1.toExt) (by have := sep_hash_le H1 (l := l1) (List.Mem.tail _ (List.Mem.tail _ (List.Mem.tail _ (List.Mem.head _)))); omega) (sep_hash H1 (List.Mem.tail _ (List.Mem.tail _ (List.Mem.tail _ (List.Mem.head _))))) (H1.rdN HRx.out) (HAX.out _ (sep_hash_le H1 (List.Mem.tail _ (List.Mem.tail _ (List.Mem.tail _ (List.Mem.head _)))))) HBx.out hcx (by have := HA.out; omega)).mono ?_)
               rintro e w2 ⟨rfl, hh2, hu2⟩
               have H2 := sep_write (L1 := [_, _, _]) H1 hh2 hu2
               dsimp only [List.nil_append, List.cons_append] at H2
               clear hh2 hu2 H1
               go_wp2_with fail
               try refine NoPanic.normal ?_
               go_wp2_with fail
               obtain ⟨SB, hSB⟩ : ∃ SB, w2.heap.size = SB := ⟨_, rfl⟩
               refine wp_region_wtR (RT.fr (fun i => SB ≤ i)) 13 [0, 2, 3, 4, 6, 7, 8, 9, 10, 1, 5, 11, 12] (by kernel_rfl) (by kernel_rfl) (by kernel_rfl) ?_
               have H3 := H2.drew
               have hSB' : w2.drew.heap.size = SB := hSB
               clear H2 hSB
               generalize w2.drew = wd2 at *
               have hbB : bB < SB := by rw [← hSB']; exact (H3.blk (List.Mem.tail _ (List.Mem.head _))).lt
               obtain ⟨_, _, he2⟩ := HCE.out _ H3.toExt
               have hbb : b < SB := by rw [← hSB']; exact cell_lt he2
               have HSB := hide hSB'
               clear hSB'
               iterate 3 (refine wr_rd rfl rfl (fun K hK => ?_); go_simp; refine hK _ ?_; clear hK K)
               refine wr_ld1 rfl rfl 31 (.tmp 63) rfl rfl (fun w' h => Fr.cell h (((H3.blk (List.Mem.tail _ (List.Mem.head _))).cell 1).trans rfl) (by show ¬ SB ≤ bB; omega)) _ Tryd.underlying31 rfl ?_
               iterate 4 (refine wr_rd rfl rfl (fun K hK => ?_); go_simp; refine hK _ ?_; clear hK K)
               refine wr_ld1 rfl rfl 31 (.tmp 69) rfl rfl (fun w' h => Fr.cell h he2 (by show ¬ SB ≤ b; omega)) _ Tryd.underlying31 rfl ?_
               clear he2
               refine wr_ext rfl rfl (fun K hK => ?_)
               go_simp
               refine hK _ _ ((Fr.of_ext ((Ext.refl wd2).alloc _)).mono (fun i h => h.elim)) ?_
               clear hK K
               have H4 := (H3.newB ((Ext.refl wd2).alloc (.cells #[] 5)) (Blk.new wd2 5 []) (Nat.le_refl _)).toOwn [] (by simp)
               dsimp only [List.nil_append, List.length_nil] at H4
               have hs4 : SB ≤ (wd2.alloc (.cells #[] 5)).heap.size := by rw [← HSB.out]; simp
               clear H3
               refine wr_ext rfl rfl (fun K hK => ?_)
               rw [if_pos (show Region.wanted _ _ = true from rfl)]
               have hrd := (show Rd (wd2.alloc (.cells #[] 5)) A0 (byt l0) ∧ Rd (wd2.alloc (.cells #[] 5)) A1 (byt l1) from H4.get (A := Rds A0 l0 A1 l1) (List.Mem.tail _ (List.Mem.tail _ (List.Mem.tail _ (List.Mem.tail _ (List.Mem.tail _ (List.Mem.head _))))))).2
               have hla := HA.out.2.2.2
               refine wp_apS [] H4 (.tmp 61) (.tmp 64) 31 rfl i0 (.int .u8 0) 1 Tryd.underlying31 hi hz0 hz1 hz2 rfl rfl (A := A1) (m := l1.length) (c := c1) (news := byt l1) rfl (by simp) hrd (byt_one _) (by simp; omega) (by omega) ?_
               intro v1 w4 H5 hf5 hv5
               dsimp only [List.nil_append] at H5
               have hv5' : ∀ i, v1.ownBlock = some i → SB ≤ i := fun i hi => (hv5 i hi).elim (fun h => by cases h; exact Nat.le_of_eq HSB.out.symm) (fun h => Nat.le_trans hs4 h)
               refine hK _ _ (hf5.mono (fun i hi => by cases hi; exact Nat.le_of_eq HSB.out.symm)) ?_
               clear hK K hf5 hv5 hrd H4 hs4
               refine wr_ext rfl rfl (fun K hK => ?_)
               rw [if_pos (show Region.wanted _ _ = true from rfl)]
               refine wp_apS [] H5 (.tmp 65) (.tmp 70) 31 rfl i0 (.int .u8 0) 1 Tryd.underlying31 hi hz0 hz1 hz2 rfl rfl (A := Ax) (m := lx.length) (c := cx) (news := byt lx) rfl (by simp) (H5.rdN HRx.out) (byt_one _) (by simp; omega) (by omega) ?_
               intro v2 w5 H6 hf6 _
               rw [← byt_append] at H6
               dsimp only [List.nil_append] at H6
               refine hK _ _ (hf6.mono hv5') ?_
               clear hK K hf6 hv5' H5
               iterate 1 (refine wr_rd rfl rfl (fun K hK => ?_); go_simp; refine hK _ ?_; clear hK K)
               refine wr_nil ?_
               simp only [List.drop_succ_cons, List.drop_zero]
               obtain ⟨M1, hM1⟩ : ∃ M, l1 ++ lx = M := ⟨_, rfl⟩
               have hML : M1.length = l1.length + lx.length := by rw [← hM1, List.length_append]
               have hMB : isB M1 := by rw [← hM1]; exact isB_append HA.out.2.1 HBx.out
               rw [hM1] at H6
               obtain ⟨B1, C1, rfl, hro, hcC⟩ := own_form (H6.owns (List.Mem.head _))
               have HML := hide hML
               have HMk := hide hM1
               have cB := ((H6.blk (List.Mem.tail _ (List.Mem.tail _ (List.Mem.head _)))).cell 1).trans rfl
               have fB := (H6.blk (List.Mem.tail _ (List.Mem.tail _ (List.Mem.head _)))).free 1
               clear hro hML hM1
               go_wp2_with fail
               refine NoPanic.normal ?_
               have H7 := Sep.cell (L1 := [_, _]) H6 1 (.slice B1 M1.length C1)
               dsimp only [List.nil_append, List.cons_append, List.set] at H7
               generalize w5.setCell ⟨bB, 1, none⟩ (.slice B1 M1.length C1) = wz at *
               clear cB fB H6
               have HZ0 := H7.front [_, _, _, _, _]
               dsimp only [List.nil_append, List.cons_append] at HZ0
               have HZ1 := HZ0.merge (C := Rds A0 l0 B1 M1) (fun hR hO => ⟨hR.1, own_rd hO⟩) (fun i hi => hi.elim (fun h => .inl (.inl h)) (fun h => .inr (own_fp i h)))
               have HZ := HZ1.back [_, _, _, _]
               dsimp only [List.nil_append, List.cons_append] at HZ
               have HA2 : Hid (isB l0 ∧ isB M1 ∧ l0.length ≤ 200 * (k + 1) ∧ M1.length ≤ 200 * (k + 1) ∧ l0.length ≤ c0 ∧ M1.length ≤ C1) := hide (by
                 obtain ⟨x1, x2, x3, x4, x5, x6⟩ := HA.out
                 have := HML.out
                 exact ⟨by first | exact hMB | exact x1, by first | exact x2 | exact hMB, by omega, by omega, by omega, by omega⟩)
               clear HZ0 HZ1 H7 hMB hcC HML HMk hla
               go_wp2_with fail
               go_meet
               exact ⟨rfl, g0, g1, A0, B1, c0, C1, l0, M1, HA2, HZ⟩
             · go_wp2_with fail
               refine wp_region_wtR (RT.fr No) 8 [0, 1, 2, 3, 4, 5, 6, 7] (by kernel_rfl) (by kernel_rfl) (by kernel_rfl) ?_
               have H1 := H.drew
               clear hc0 hc1 hc2 H
               generalize wr.drew = wd at *
               obtain ⟨_, _, hd2⟩ := HCE.out _ H1.toExt
               iterate 2 (refine wr_rd rfl rfl (fun K hK => ?_); go_simp; refine hK _ ?_; clear hK K)
               refine wr_ld1 rfl rfl 49 (.tmp 52) rfl rfl (fun w' h => Fr.cell h (((H1.blk (List.Mem.head _)).cell 1).trans rfl) (fun h => h)) _ Tryd.underlying49 rfl ?_
               iterate 4 (refine wr_rd rfl rfl (fun K hK => ?_); go_simp; refine hK _ ?_; clear hK K)
               refine wr_ld1 rfl rfl 31 (.tmp 57) rfl rfl (fun w' h => Fr.cell h hd2 (fun h => h)) _ Tryd.underlying31 rfl ?_
               refine wr_nil ?_
               simp only [List.drop_succ_cons, List.drop_zero]
               clear hd2
               go_wp2_with fail
               (with_reducible refine (write_any g1 l1 lx Ax cx _ (HL.out.ext H1.toExt) (by have := sep_hash_le H1 (l := l1) (List.Mem.tail _ (List.Mem.tail _ (List.Mem.tail _ (List.Mem.head _)))); omega) (sep_hash H1 (List.Mem.tail _ (List.Mem.tail _ (List.Mem.tail _ (List.Mem.head _))))) (H1.rdN HRx.out) (HAX.out _ (sep_hash_le H1 (List.Mem.tail _ (List.Mem.tail _ (List.Mem.tail _ (List.Mem.head _)))))) HBx.out hcx (by have := HA.out; omega)).mono ?_)
               rintro e w2 ⟨rfl, hh2, hu2⟩
               have H2 := sep_write (L1 := [_, _, _]) H1 hh2 hu2
               dsimp only [List.nil_append, List.cons_append] at H2
               clear hh2 hu2 H1
               go_wp2_with fail
               try refine NoPanic.normal ?_
               go_wp2_with fail
               obtain ⟨SB, hSB⟩ : ∃ SB, w2.heap.size = SB := ⟨_, rfl⟩
               refine wp_region_wtR (RT.fr (fun i => SB ≤ i)) 13 [0, 2, 3, 4, 6, 7, 8, 9, 10, 1, 5, 11, 12] (by kernel_rfl) (by kernel_rfl) (by kernel_rfl) ?_
               have H3 := H2.drew
               have hSB' : w2.drew.heap.size = SB := hSB
               clear H2 hSB
               generalize w2.drew = wd2 at *
               have hbB : bB < SB := by rw [← hSB']; exact (H3.blk (List.Mem.tail _ (List.Mem.head _))).lt
               obtain ⟨_, _, he2⟩ := HCE.out _ H3.toExt
               have hbb : b < SB := by rw [← hSB']; exact cell_lt he2
               have HSB := hide hSB'
               clear hSB'
               iterate 3 (refine wr_rd rfl rfl (fun K hK => ?_); go_simp; refine hK _ ?_; clear hK K)
               refine wr_ld1 rfl rfl 31 (.tmp 63) rfl rfl (fun w' h => Fr.cell h (((H3.blk (List.Mem.tail _ (List.Mem.head _))).cell 1).trans rfl) (by show ¬ SB ≤ bB; omega)) _ Tryd.underlying31 rfl ?_
               iterate 4 (refine wr_rd rfl rfl (fun K hK => ?_); go_simp; refine hK _ ?_; clear hK K)
               refine wr_ld1 rfl rfl 31 (.tmp 69) rfl rfl (fun w' h => Fr.cell h he2 (by show ¬ SB ≤ b; omega)) _ Tryd.underlying31 rfl ?_
               clear he2
               refine wr_ext rfl rfl (fun K hK => ?_)
               go_simp
               refine hK _ _ ((Fr.of_ext ((Ext.refl wd2).alloc _)).mono (fun i h => h.elim)) ?_
               clear hK K
               have H4 := (H3.newB ((Ext.refl wd2).alloc (.cells #[] 5)) (Blk.new wd2 5 []) (Nat.le_refl _)).toOwn [] (by simp)
               dsimp only [List.nil_append, List.length_nil] at H4
               have hs4 : SB ≤ (wd2.alloc (.cells #[] 5)).heap.size := by rw [← HSB.out]; simp
               clear H3
               refine wr_ext rfl rfl (fun K hK => ?_)
               rw [if_pos (show Region.wanted _ _ = true from rfl)]
               have hrd := (show Rd (wd2.alloc (.cells #[] 5)) A0 (byt l0) ∧ Rd (wd2.alloc (.cells #[] 5)) A1 (byt l1) from H4.get (A := Rds A0 l0 A1 l1) (List.Mem.tail _ (List.Mem.tail _ (List.Mem.tail _ (List.Mem.tail _ (List.Mem.tail _ (List.Mem.head _))))))).2
               have hla := HA.out.2.2.2
               refine wp_apS [] H4 (.tmp 61) (.tmp 64) 31 rfl i0 (.int .u8 0) 1 Tryd.underlying31 hi hz0 hz1 hz2 rfl rfl (A := A1) (m := l1.length) (c := c1) (news := byt l1) rfl (by simp) hrd (byt_one _) (by simp; omega) (by omega) ?_
               intro v1 w4 H5 hf5 hv5
               dsimp only [List.nil_append] at H5
               have hv5' : ∀ i, v1.ownBlock = some i → SB ≤ i := fun i hi => (hv5 i hi).elim (fun h => by cases h; exact Nat.le_of_eq HSB.out.symm) (fun h => Nat.le_trans hs4 h)
               refine hK _ _ (hf5.mono (fun i hi => by cases hi; exact Nat.le_of_eq HSB.out.symm)) ?_
               clear hK K hf5 hv5 hrd H4 hs4
               refine wr_ext rfl rfl (fun K hK => ?_)
               rw [if_pos (show Region.wanted _ _ = true from rfl)]
               refine wp_apS [] H5 (.tmp 65) (.tmp 70) 31 rfl i0 (.int .u8 0) 1 Tryd.underlying31 hi hz0 hz1 hz2 rfl rfl (A := Ax) (m := lx.length) (c := cx) (news := byt lx) rfl (by simp) (H5.rdN HRx.out) (byt_one _) (by simp; omega) (by omega) ?_
               intro v2 w5 H6 hf6 _
               rw [← byt_append] at H6
               dsimp only [List.nil_append] at H6
               refine hK _ _ (hf6.mono hv5') ?_
               clear hK K hf6 hv5' H5
               iterate 1 (refine wr_rd rfl rfl (fun K hK => ?_); go_simp; refine hK _ ?_; clear hK K)
               refine wr_nil ?_
               simp only [List.drop_succ_cons, List.drop_zero]
               obtain ⟨M1, hM1⟩ : ∃ M, l1 ++ lx = M := ⟨_, rfl⟩
               have hML : M1.length = l1.length + lx.length := by rw [← hM1, List.length_append]
               have hMB : isB M1 := by rw [← hM1]; exact isB_append HA.out.2.1 HBx.out
               rw [hM1] at H6
               obtain ⟨B1, C1, rfl, hro, hcC⟩ := own_form (H6.owns (List.Mem.head _))
               have HML := hide hML
               have HMk := hide hM1
               have cB := ((H6.blk (List.Mem.tail _ (List.Mem.tail _ (List.Mem.head _)))).cell 1).trans rfl
               have fB := (H6.blk (List.Mem.tail _ (List.Mem.tail _ (List.Mem.head _)))).free 1
               clear hro hML hM1
               go_wp2_with fail
               refine NoPanic.normal ?_
               have H7 := Sep.cell (L1 := [_, _]) H6 1 (.slice B1 M1.length C1)
               dsimp only [List.nil_append, List.cons_append, List.set] at H7
               generalize w5.setCell ⟨bB, 1, none⟩ (.slice B1 M1.length C1) = wz at *
               clear cB fB H6
               have HZ0 := H7.front [_, _, _, _, _]
               dsimp only [List.nil_append, List.cons_append] at HZ0
               have HZ1 := HZ0.merge (C := Rds A0 l0 B1 M1) (fun hR hO => ⟨hR.1, own_rd hO⟩) (fun i hi => hi.elim (fun h => .inl (.inl h)) (fun h => .inr (own_fp i h)))
               have HZ := HZ1.back [_, _, _, _]
               dsimp only [List.nil_append, List.cons_append] at HZ
               have HA2 : Hid (isB l0 ∧ isB M1 ∧ l0.length ≤ 200 * (k + 1) ∧ M1.length ≤ 200 * (k + 1) ∧ l0.length ≤ c0 ∧ M1.length ≤ C1) := hide (by
                 obtain ⟨x1, x2, x3, x4, x5, x6⟩ := HA.out
                 have := HML.out
                 exact ⟨by first | exact hMB | exact x1, by first | exact x2 | exact hMB, by omega, by omega, by omega, by omega⟩)
               clear HZ0 HZ1 H7 hMB hcC HML HMk hla
               go_wp2_with fail
               go_meet
               exact ⟨rfl, g0, g1, A0, B1, c0, C1, l0, M1, HA2, HZ⟩
             · go_wp2_with fail
               refine wp_region_wtR (RT.fr No) 8 [0, 1, 2, 3, 4, 5, 6, 7] (by kernel_rfl) (by kernel_rfl) (by kernel_rfl) ?_
               have H1 := H.drew
               clear hc0 hc1 hc2 H
               generalize wr.drew = wd at *
               obtain ⟨_, _, hd2⟩ := HCE.out _ H1.toExt
               iterate 2 (refine wr_rd rfl rfl (fun K hK => ?_); go_simp; refine hK _ ?_; clear hK K)
               refine wr_ld1 rfl rfl 49 (.tmp 52) rfl rfl (fun w' h => Fr.cell h (((H1.blk (List.Mem.head _)).cell 1).trans rfl) (fun h => h)) _ Tryd.underlying49 rfl ?_
               iterate 4 (refine wr_rd rfl rfl (fun K hK => ?_); go_simp; refine hK _ ?_; clear hK K)
               refine wr_ld1 rfl rfl 31 (.tmp 57) rfl rfl (fun w' h => Fr.cell h hd2 (fun h => h)) _ Tryd.underlying31 rfl ?_
               refine wr_nil ?_
               simp only [List.drop_succ_cons, List.drop_zero]
               clear hd2
               go_wp2_with fail
               (with_reducible refine (write_any g1 l1 lx Ax cx _ (HL.out.ext H1.toExt) (by have := sep_hash_le H1 (l := l1) (List.Mem.tail _ (List.Mem.tail _ (List.Mem.tail _ (List.Mem.head _)))); omega) (sep_hash H1 (List.Mem.tail _ (List.Mem.tail _ (List.Mem.tail _ (List.Mem.head _))))) (H1.rdN HRx.out) (HAX.out _ (sep_hash_le H1 (List.Mem.tail _ (List.Mem.tail _ (List.Mem.tail _ (List.Mem.head _)))))) HBx.out hcx (by have := HA.out; omega)).mono ?_)
               rintro e w2 ⟨rfl, hh2, hu2⟩
               have H2 := sep_write (L1 := [_, _, _]) H1 hh2 hu2
               dsimp only [List.nil_append, List.cons_append] at H2
               clear hh2 hu2 H1
               go_wp2_with fail
               try refine NoPanic.normal ?_
               go_wp2_with fail
               obtain ⟨SB, hSB⟩ : ∃ SB, w2.heap.size = SB := ⟨_, rfl⟩
               refine wp_region_wtR (RT.fr (fun i => SB ≤ i)) 13 [0, 2, 3, 4, 6, 7, 8, 9, 10, 1, 5, 11, 12] (by kernel_rfl) (by kernel_rfl) (by kernel_rfl) ?_
               have H3 := H2.drew
               have hSB' : w2.drew.heap.size = SB := hSB
               clear H2 hSB
               generalize w2.drew = wd2 at *
               have hbB : bB < SB := by rw [← hSB']; exact (H3.blk (List.Mem.tail _ (List.Mem.head _))).lt
               obtain ⟨_, _, he2⟩ := HCE.out _ H3.toExt
               have hbb : b < SB := by rw [← hSB']; exact cell_lt he2
               have HSB := hide hSB'
               clear hSB'
               iterate 3 (refine wr_rd rfl rfl (fun K hK => ?_); go_simp; refine hK _ ?_; clear hK K)
               refine wr_ld1 rfl rfl 31 (.tmp 63) rfl rfl (fun w' h => Fr.cell h (((H3.blk (List.Mem.tail _ (List.Mem.head _))).cell 1).trans rfl) (by show ¬ SB ≤ bB; omega)) _ Tryd.underlying31 rfl ?_
               iterate 4 (refine wr_rd rfl rfl (fun K hK => ?_); go_simp; refine hK _ ?_; clear hK K)
               refine wr_ld1 rfl rfl 31 (.tmp 69) rfl rfl (fun w' h => Fr.cell h he2 (by show ¬ SB ≤ b; omega)) _ Tryd.underlying31 rfl ?_
               clear he2
               refine wr_ext rfl rfl (fun K hK => ?_)
               go_simp
               refine hK _ _ ((Fr.of_ext ((Ext.refl wd2).alloc _)).mono (fun i h => h.elim)) ?_
               clear hK K
               have H4 := (H3.newB ((Ext.refl wd2).alloc (.cells #[] 5)) (Blk.new wd2 5 []) (Nat.le_refl _)).toOwn [] (by simp)
               dsimp only [List.nil_append, List.length_nil] at H4
               have hs4 : SB ≤ (wd2.alloc (.cells #[] 5)).heap.size := by rw [← HSB.out]; simp
               clear H3
               refine wr_ext rfl rfl (fun K hK => ?_)
               rw [if_pos (show Region.wanted _ _ = true from rfl)]
               have hrd := (show Rd (wd2.alloc (.cells #[] 5)) A0 (byt l0) ∧ Rd (wd2.alloc (.cells #[] 5)) A1 (byt l1) from H4.get (A := Rds A0 l0 A1 l1) (List.Mem.tail _ (List.Mem.tail _ (List.Mem.tail _ (List.Mem.tail _ (List.Mem.tail _ (List.Mem.head _))))))).2
               have hla := HA.out.2.2.2
               refine wp_apS [] H4 (.tmp 61) (.tmp 64) 31 rfl i0 (.int .u8 0) 1 Tryd.underlying31 hi hz0 hz1 hz2 rfl rfl (A := A1) (m := l1.length) (c := c1) (news := byt l1) rfl (by simp) hrd (byt_one _) (by simp; omega) (by omega) ?_
               intro v1 w4 H5 hf5 hv5
               dsimp only [List.nil_append] at H5
               have hv5' : ∀ i, v1.ownBlock = some i → SB ≤ i := fun i hi => (hv5 i hi).elim (fun h => by cases h; exact Nat.le_of_eq HSB.out.symm) (fun h => Nat.le_trans hs4 h)
               refine hK _ _ (hf5.mono (fun i hi => by cases hi; exact Nat.le_of_eq HSB.out.symm)) ?_
               clear hK K hf5 hv5 hrd H4 hs4
               refine wr_ext rfl rfl (fun K hK => ?_)
               rw [if_pos (show Region.wanted _ _ = true from rfl)]
               refine wp_apS [] H5 (.tmp 65) (.tmp 70) 31 rfl i0 (.int .u8 0) 1 Tryd.underlying31 hi hz0 hz1 hz2 rfl rfl (A := Ax) (m := lx.length) (c := cx) (news := byt lx) rfl (by simp) (H5.rdN HRx.out) (byt_one _) (by simp; omega) (by omega) ?_
               intro v2 w5 H6 hf6 _
               rw [← byt_append] at H6
               dsimp only [List.nil_append] at H6
               refine hK _ _ (hf6.mono hv5') ?_
               clear hK K hf6 hv5' H5
               iterate 1 (refine wr_rd rfl rfl (fun K hK => ?_); go_simp; refine hK _ ?_; clear hK K)
               refine wr_nil ?_
               simp only [List.drop_succ_cons, List.drop_zero]
               obtain ⟨M1, hM1⟩ : ∃ M, l1 ++ lx = M := ⟨_, rfl⟩
               have hML : M1.length = l1.length + lx.length := by rw [← hM1, List.length_append]
               have hMB : isB M1 := by rw [← hM1]; exact isB_append HA.out.2.1 HBx.out
               rw [hM1] at H6
               obtain ⟨B1, C1, rfl, hro, hcC⟩ := own_form (H6.owns (List.Mem.head _))
               have HML := hide hML
               have HMk := hide hM1
               have cB := ((H6.blk (List.Mem.tail _ (List.Mem.tail _ (List.Mem.head _)))).cell 1).trans rfl
               have fB := (H6.blk (List.Mem.tail _ (List.Mem.tail _ (List.Mem.head _)))).free 1
               clear hro hML hM1
               go_wp2_with fail
               refine NoPanic.normal ?_
               have H7 := Sep.cell (L1 := [_, _]) H6 1 (.slice B1 M1.length C1)
               dsimp only [List.nil_append, List.cons_append, List.set] at H7
               generalize w5.setCell ⟨bB, 1, none⟩ (.slice B1 M1.length C1) = wz at *
               clear cB fB H6
               have HZ0 := H7.front [_, _, _, _, _]
               dsimp only [List.nil_append, List.cons_append] at HZ0
               have HZ1 := HZ0.merge (C := Rds A0 l0 B1 M1) (fun hR hO => ⟨hR.1, own_rd hO⟩) (fun i hi => hi.elim (fun h => .inl (.inl h)) (fun h => .inr (own_fp i h)))
               have HZ := HZ1.back [_, _, _, _]
               dsimp only [List.nil_append, List.cons_append] at HZ
               have HA2 : Hid (isB l0 ∧ isB M1 ∧ l0.length ≤ 200 * (k + 1) ∧ M1.length ≤ 200 * (k + 1) ∧ l0.length ≤ c0 ∧ M1.length ≤ C1) := hide (by
                 obtain ⟨x1, x2, x3, x4, x5, x6⟩ := HA.out
                 have := HML.out
                 exact ⟨by first | exact hMB | exact x1, by first | exact x2 | exact hMB, by omega, by omega, by omega, by omega⟩)
               clear HZ0 HZ1 H7 hMB hcC HML HMk hla
               go_wp2_with fail
               go_meet
               exact ⟨rfl, g0, g1, A0, B1, c0, C1, l0, M1, HA2, HZ⟩
             · have HZ := H
               have HA2 : Hid (isB l0 ∧ isB l1 ∧ l0.length ≤ 200 * (k + 1) ∧ l1.length ≤ 200 * (k + 1) ∧ l0.length ≤ c0 ∧ l1.length ≤ c1) := hide (by
                 obtain ⟨x1, x2, x3, x4, x5, x6⟩ := HA.out
                 exact ⟨x1, x2, by omega, by omega, x5, x6⟩)
               clear H
               go_wp2_with fail
               go_meet
               exact ⟨rfl, g0, g1, A0, A1, c0, c1, l0, l1, HA2, HZ⟩
             · have HZ := H
               have HA2 : Hid (isB l0 ∧ isB l1 ∧ l0.length ≤ 200 * (k + 1) ∧ l1.length ≤ 200 * (k + 1) ∧ l0.length ≤ c0 ∧ l1.length ≤ c1) := hide (by
                 obtain ⟨x1, x2, x3, x4, x5, x6⟩ := HA.out
                 exact ⟨x1, x2, by omega, by omega, x5, x6⟩)
               clear H
               go_wp2_with fail
               go_meet
               exact ⟨rfl, g0, g1, A0, A1, c0, c1, l0, l1, HA2, HZ⟩
             · have cH := ((H.blk (List.Mem.head _)).cell 1).trans rfl
               go_wp2_with fail
               (with_reducible refine (reset_any g1 l1 _ (HL.out.ext H.toExt) (sep_hash H (List.Mem.tail _ (List.Mem.tail _ (List.Mem.tail _ (List.Mem.head _)))))).mono ?_)
               rintro e w2 ⟨rfl, hh2, hu2⟩
               have H2 := sep_write (L1 := [_, _, _]) H hh2 hu2
               dsimp only [List.nil_append, List.cons_append] at H2
               clear hh2 hu2 H cH
               have tok : True := trivial
               go_wp2_with (have zz := tok; clear zz tok; refine wpList_st1S [_] H2 rfl 31 (.tmp 80) (.const (.slice none 0 0)) rfl (i := 1) rfl rfl (by kernel_rfl) (by simp) rfl ?_; intro w3 H3; dsimp only [List.nil_append, List.cons_append, List.set] at H3; have cZ := ((H3.blk (List.Mem.head _)).cell 1).trans rfl)
               clear H2 cZ
               have HZ := Sep.weak (B := Rds A0 l0 none []) [_, _, _, _] H3 (fun hR => ⟨hR.1, Rd.nil _ _⟩) (fun i hi => hi.elim .inl (fun h => (h.1 rfl).elim))
               dsimp only [List.nil_append, List.cons_append] at HZ
               have HA2 : Hid (isB (l0 : List Int) ∧ isB ([] : List Int) ∧ (l0 : List Int).length ≤ 200 * (k + 1) ∧ ([] : List Int).length ≤ 200 * (k + 1) ∧ (l0 : List Int).length ≤ c0 ∧ ([] : List Int).length ≤ 0) := hide (by
                 obtain ⟨x1, x2, x3, x4, x5, x6⟩ := HA.out
                 have x7 : isB ([] : List Int) := by unfold isB; simp
                 exact ⟨x1, x7, by omega, by simp, x5, by simp⟩)
               clear H3
               go_wp2_with fail
               go_meet
               exact ⟨rfl, g0, g1, A0, none, c0, 0, l0, [], HA2, HZ⟩
             · have cH := ((H.blk (List.Mem.head _)).cell 1).trans rfl
               go_wp2_with fail
               (with_reducible refine (copy_ex g1 l1 _ (sep_hash H (List.Mem.tail _ (List.Mem.tail _ (List.Mem.tail _ (List.Mem.head _)))))).mono ?_)
               rintro e w2 ⟨gn, rfl, hgn, hh2, hx2⟩
               have H2 := (H.new (B := AsHash gn l1) hx2 hh2 (fun i hi => by cases hi; exact Nat.le_of_eq hgn.symm))
               clear hgn hh2 hx2 H cH
               go_wp2_with fail
               have hbHB : bH ≠ bB := by
                 intro e
                 have h1 := (List.pairwise_cons.1 (List.pairwise_cons.1 H2.dis).2).1 _ (List.Mem.head _) bH rfl
                 exact h1 e
               refine wp_region_wtR (RT.keep (fun i => i = bH ∨ i = bB) ⟨bB, 1, none⟩) 13 [0, 1, 2, 3, 4, 5, 6, 7, 8, 9, 10, 11, 12] (by kernel_rfl) (by kernel_rfl) (by kernel_rfl) ?_
               have H3 := H2.drew
               clear H2
               generalize w2.drew = wd at *
               have wk1 : IntKind.i64.wrap 1 = 1 := by decide
               have wk0 : IntKind.i64.wrap 0 = 0 := by decide
               iterate 7 (refine wr_rd rfl rfl (fun K hK => ?_); go_simp; refine hK _ ?_; clear hK K)
               refine wr_ld1 rfl rfl 31 (.tmp 96) rfl rfl (fun w' h => h.2 _ (((H3.blk (List.Mem.tail _ (List.Mem.tail _ (List.Mem.head _)))).cell 1).trans rfl)) _ Tryd.underlying31 rfl ?_
               iterate 2 (refine wr_rd rfl rfl (fun K hK => ?_); go_simp; refine hK _ ?_; clear hK K)
               refine wr_ext rfl rfl (fun K hK => ?_)
               rw [if_pos (show Region.wanted _ _ = true from rfl)]
               refine wp_st1S [_] H3 49 (.tmp 99) (.tmp 94) rfl (i := 0) rfl rfl (by kernel_rfl) (by simp) rfl ?_
               intro w3 H4 hu4
               dsimp only [List.nil_append, List.cons_append, List.set] at H4
               refine hK _ _ ⟨(Fr.of_upd hu4).mono (fun i h => .inl h), fun v hv => (World.cell?_of_block (hu4.block bB (H3.blk (List.Mem.tail _ (List.Mem.tail _ (List.Mem.head _)))).lt (fun e => hbHB (by cases e; rfl)))).trans hv⟩ ?_
               clear hK K H3 hu4
               iterate 1 (refine wr_rd rfl rfl (fun K hK => ?_); go_simp; refine hK _ ?_; clear hK K)
               refine wr_ext rfl rfl (fun K hK => ?_)
               rw [if_pos (show Region.wanted _ _ = true from rfl)]
               refine wp_st1S [_, _] H4 31 (.tmp 100) (.tmp 97) rfl (i := 0) rfl rfl (by kernel_rfl) (by simp) rfl ?_
               intro w4 H5 hu5
               dsimp only [List.nil_append, List.cons_append, List.set] at H5
               refine hK _ _ ⟨(Fr.of_upd hu5).mono (fun i h => .inr h), fun v hv => ?_⟩ ?_
               · exact (((H5.blk (List.Mem.tail _ (List.Mem.tail _ (List.Mem.head _)))).cell 1).trans rfl).trans ((((H4.blk (List.Mem.tail _ (List.Mem.tail _ (List.Mem.head _)))).cell 1).trans rfl).symm.trans hv)
               clear hK K H4 hu5 wk1 wk0
               refine wr_nil ?_
               simp only [List.drop_succ_cons, List.drop_zero]
               go_wp2_with fail
               refine NoPanic.normal ?_
               have HZ0 := (H5.front [_, _, _]).tail
               dsimp only [List.nil_append, List.cons_append] at HZ0
               have HZ1 := HZ0.back [_, _]
               dsimp only [List.nil_append, List.cons_append] at HZ1
               have HZ := Sep.weak (B := Rds A1 l1 A1 l1) [_, _, _, _] HZ1 (fun hR => ⟨hR.2, hR.2⟩) (fun i hi => hi.elim .inr .inr)
               dsimp only [List.nil_append, List.cons_append] at HZ
               have HA2 : Hid (isB l1 ∧ isB l1 ∧ l1.length ≤ 200 * (k + 1) ∧ l1.length ≤ 200 * (k + 1) ∧ l1.length ≤ c1 ∧ l1.length ≤ c1) := hide (by
                 obtain ⟨x1, x2, x3, x4, x5, x6⟩ := HA.out
                 exact ⟨x2, x2, by omega, by omega, x6, x6⟩)
               clear HZ0 HZ1 H5 hbHB
               go_wp2_with fail
               go_meet
               exact ⟨rfl, gn, g1, A1, A1, c1, c1, l1, l1, HA2, HZ⟩
      · obtain rfl : k = rows.length := by omega
        go_wp2_with fail
        (with_reducible refine (shown_any _ (HL.out.ext H.toExt)).mono ?_)
        rintro e w2 ⟨rfl, hx2⟩
        go_wp2_with fail
        go_ret
        exact ⟨rfl, H.toExt.trans hx2⟩
end Go.Proofs.YtmflanhcddehlaaDoor
