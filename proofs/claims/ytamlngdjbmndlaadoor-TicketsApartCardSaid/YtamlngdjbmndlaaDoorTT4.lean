/- Tickets: the law TicketsApart walked: a token is no ticket, a ticket no token. -/
import Derived.Test.YtamlngdjbmndlaaDoorTT3
import Derived.Test.YtamlngdjbmndlaaDoorTkD
namespace Go.Proofs.YtamlngdjbmndlaaDoor
open Go.RowKit Go.Gr
set_option linter.unusedVariables false
set_option linter.unusedSimpArgs false
attribute [local go_sem] rdOp rdAt rdUpon Cls forall_fr
theorem opT_len {key b : List Int} (hk : keyOk key) (h : b.length ≠ 56) : opTE key b = 11 ∧ opTV key b = (0, 0, 0, 0) := by
  have he : opTE key b = 11 := by
    have : parTE b = 11 := by unfold parTE; rw [if_neg h]
    unfold opTE
    rw [if_pos hk, if_neg (by rw [this]; decide)]
  exact ⟨he, by unfold opTV; rw [if_neg (by rw [he]; decide)]⟩
theorem opK_len {key b : List Int} (hk : keyOk key) (h : b.length ≠ 44) : openE key b = 11 ∧ openV key b = (0, 0) := by
  have he : openE key b = 11 := by
    have : parseE b = 11 := by unfold parseE; rw [if_neg h]
    unfold openE
    rw [if_pos hk, if_neg (by rw [this]; decide)]
  exact ⟨he, open_bad (by rw [he]; decide)⟩
theorem opT_of {key r t : List Int} (hk : keyOk key) (hr : r.length = 24) (ht : t.length = 32) (hd : decTE r = 0) : opTE key (r ++ t) = if tagTi key r = t then 0 else 12 := by
  have h1 : (r ++ t).take 24 = r := List.take_left' hr
  have h2 : (r ++ t).drop 24 = t := List.drop_left' hr
  have h3 : parTE (r ++ t) = 0 := by unfold parTE; rw [if_pos (by rw [List.length_append, hr, ht]), h1, hd]
  unfold opTE
  rw [if_pos hk, if_pos h3, h1, h2]
theorem opK_of {key r t : List Int} (hk : keyOk key) (hr : r.length = 12) (ht : t.length = 32) (hd : decE r = 0) : openE key (r ++ t) = if tokT key r = t then 0 else 12 := by
  have h1 : (r ++ t).take 12 = r := List.take_left' hr
  have h2 : (r ++ t).drop 12 = t := List.drop_left' hr
  have h3 : parseE (r ++ t) = 0 := by unfold parseE; rw [if_pos (by rw [List.length_append, hr, ht]), h1, hd]
  unfold openE
  rw [if_pos hk, if_pos h3, h1, h2]
theorem rd_drop {w : World} {g : Nat} {l : List Int} (h : Rd w (some ⟨g, 0, none⟩) (byt l)) (h0 : 0 < l.length) (d : Nat) : Rd w (some ⟨g, d, none⟩) (byt (l.drop d)) := by
  obtain ⟨g', o, e, h5⟩ := rd_spot h (by rw [byt_length]; exact h0)
  cases e
  have := rd_part h5 d (l.drop d).length
  rw [List.take_length, Nat.zero_add] at this
  exact this
set_option maxRecDepth 100000 in
set_option maxHeartbeats 4000000 in
theorem apart_a (k r t u v : List Int) (A : Option Addr) (c : Nat) (s1 o1 n1 e1 o2 u2 p q r3 s p2 q2 : Int) (w : World) (hl : Laid w) (hk : keyOk k) (hs1 : s1 < 4096) (hn1 : n1 ≠ 0) (hu2 : ¬ u2 < 0)
    (hr : r.length = 24) (ht : t.length = 32) (hu : u.length = 12) (hv : v.length = 32) (htB : isB t) (hvB : isB v)
    (hiss : ∀ x, Ext w x → Calls Tryd.prog 15 #[.slice A k.length c, tkv s1 o1 n1 e1] x (RetO x (r ++ t) 0))
    (htok : ∀ x, Ext w x → Calls Tryd.prog 23 #[.slice A k.length c, ses o2 u2] x fun e w' => ∃ g, e = .returned (.tuple #[.slice (some ⟨g, 0, none⟩) 44 44, .int .i64 0]) ∧ Sep No x w' [As.blk g 81 (byt (u ++ v))])
    (ho1 : ∀ B cb x, 44 ≤ cb → Ext w x → Rd x B (byt (u ++ v)) → Calls Tryd.prog 19 #[.slice A k.length c, .slice B 44 cb] x fun e w' => e = .returned (.tuple #[tkv 0 0 0 0, .int .i64 11]) ∧ Ext x w')
    (ho2 : ∀ B cb x, 56 ≤ cb → Ext w x → Rd x B (byt (r ++ t)) → Calls Tryd.prog 24 #[.slice A k.length c, .slice B 56 cb] x fun e w' => e = .returned (.tuple #[ses 0 0, .int .i64 11]) ∧ Ext x w')
    (ho3 : ∀ B cb x, 56 ≤ cb → Ext w x → Rd x B (byt (r ++ v)) → Calls Tryd.prog 19 #[.slice A k.length c, .slice B 56 cb] x fun e w' => e = .returned (.tuple #[tkv p q r3 s, .int .i64 0]) ∧ Ext x w')
    (ho4 : ∀ B cb x, 44 ≤ cb → Ext w x → Rd x B (byt (u ++ t)) → Calls Tryd.prog 24 #[.slice A k.length c, .slice B 44 cb] x fun e w' => e = .returned (.tuple #[ses p2 q2, .int .i64 0]) ∧ Ext x w')
    (htv : t = v) :
    Calls Tryd.prog 9 #[.slice A k.length c, tkv s1 o1 n1 e1, ses o2 u2] w fun e w' => e = .returned (.bool true) ∧ Ext w w' := by
  obtain ⟨i0, hi, hz0, hz1, hz2⟩ := info_parts info8
  have HL := hide hl
  have HIS := hide hiss
  have HTK := hide htok
  have HO1 := hide ho1
  have HO2 := hide ho2
  have HO3 := hide ho3
  have HO4 := hide ho4
  have dk1 : ¬ (k.length : Int) < 1 := by have := hk.1; omega
  have dk2 : ¬ (64 : Int) < (k.length : Int) := by have := hk.2; omega
  have ds1 : ¬ (4096 : Int) ≤ s1 := by omega
  have dn1 : (n1 == 0) = false := beq_eq_false_iff_ne.2 hn1
  have HRL := hide hr
  have HTL := hide ht
  have HUL := hide hu
  have HVL := hide hv
  have HTV := hide htv
  have HRT : Hid ((r ++ t).length = 56) := hide (by rw [List.length_append, hr, ht])
  have HUV : Hid ((u ++ v).length = 44) := hide (by rw [List.length_append, hu, hv])
  have HRV : Hid ((r ++ v).length = 56) := hide (by rw [List.length_append, hr, hv])
  have HUT : Hid ((u ++ t).length = 44) := hide (by rw [List.length_append, hu, ht])
  have HTB := hide htB
  have HVB := hide hvB
  have H0 := (Sep.refl No w).add2 25 53 (tkc s1 o1 n1 e1) [.int .u32 o2, .int .i64 u2]
  clear hl hiss htok ho1 ho2 ho3 ho4 hr ht hu hv htv htB hvB hk hs1 hn1
  go_enter Tryd.func9, Tryd.ntmps9
  go_upto_region 1 with fail
  generalize World.alloc _ _ = w1 at H0 ⊢
  obtain ⟨g4, hg4⟩ : ∃ g, w.heap.size = g := ⟨_, rfl⟩
  obtain ⟨g5, hg5⟩ : ∃ g2, g4 + 1 = g2 := ⟨_, rfl⟩
  rw [hg4, hg5] at H0 ⊢
  clear hg4 hg5
  obtain ⟨c0, c1, c2, c3, hg0⟩ := tk4 (H0.blk (g := g4) (e := 25) (cs := tkc s1 o1 n1 e1) (List.Mem.tail _ (List.Mem.head _)))
  obtain ⟨e0, e1_, hg1⟩ := cells2 (H0.blk (g := g5) (e := 53) (cs := [.int .u32 o2, .int .i64 u2]) (List.Mem.head _))
  have KK := hide H0
  clear H0
  go_wp2_with fail
  (with_reducible refine (HIS.out _ KK.out.toExt).mono ?_)
  rintro e w2 ⟨v7, rfl, hS⟩
  have K2 := KK.out.join hS
  dsimp only [List.nil_append, List.cons_append] at K2
  clear KK hS c0 c1 c2 c3 hg0 e0 e1_ hg1
  obtain ⟨A7, c7, rfl, hr7, hc7⟩ := own_form (K2.owns (List.Mem.head _))
  rw [HRT.out] at hc7 K2 ⊢
  obtain ⟨g7, hA7, -⟩ := Sep.ownSet [] K2 (i := 0) (by rw [byt_length, HRT.out]; decide) undef
  subst hA7
  have hc7i : (24 : Int) ≤ (c7 : Int) := by omega
  have hc7j : (56 : Int) ≤ (c7 : Int) := by omega
  have hc7k : ¬ c7 = 24 := by omega
  have HC7 := hide hc7
  clear hc7 hr7
  obtain ⟨e0, e1_, hg1⟩ := cells2 (K2.blk (g := g5) (e := 53) (cs := [.int .u32 o2, .int .i64 u2]) (List.Mem.tail _ (List.Mem.head _)))
  have KK := hide K2
  clear K2
  go_wp2_with fail
  (with_reducible refine (HTK.out _ KK.out.toExt).mono ?_)
  rintro e w3 ⟨g9, rfl, hS⟩
  have K3 := KK.out.join hS
  dsimp only [List.nil_append, List.cons_append] at K3
  clear KK hS e0 e1_ hg1
  have KK := hide K3
  have HB9 := hide (K3.blk (g := g9) (e := 81) (cs := byt (u ++ v)) (List.Mem.head _)).rd
  have HA7 := hide (own_rdL (K3.owns (e := 5) (v := .slice (some ⟨g7, 0, none⟩) 56 c7) (xs := byt (r ++ t)) (List.Mem.tail _ (List.Mem.head _)))).1
  clear K3
  go_wp2_with fail
  (with_reducible refine (HO1.out _ _ _ (Nat.le_refl _) KK.out.toExt HB9.out).mono ?_)
  rintro e w4 ⟨rfl, hx⟩
  have K4 := KK.out.ext hx
  have HA7' := hide (HA7.out.ext hx)
  clear KK HA7 HB9 hx
  have KK := hide K4
  clear K4
  go_wp2_with fail
  (with_reducible refine (HO2.out _ _ _ HC7.out KK.out.toExt HA7'.out).mono ?_)
  rintro e w5 ⟨rfl, hx⟩
  have K5 := KK.out.ext hx
  clear KK HA7' hx
  have KK := hide K5
  clear K5
  go_upto_region 11 with fail

  obtain ⟨SB, hSB⟩ : ∃ SB, w5.heap.size = SB := ⟨_, rfl⟩
  refine wp_region_wtR (RT.fr (fun i => SB ≤ i)) 7 [1, 2, 4, 5, 0, 3, 6] (by kernel_rfl) (by kernel_rfl) (by kernel_rfl) ?_
  have H3 := KK.out.drew
  have hSB' : (w5.drew).heap.size = SB := hSB
  clear KK hSB
  generalize w5.drew = wd at *
  have F1 : Rd wd (some ⟨g7, 0, none⟩) (byt r) := by have := Rd.take_ (own_rdL (H3.owns (e := 5) (v := .slice (some ⟨g7, 0, none⟩) 56 c7) (xs := byt (r ++ t)) (List.Mem.tail _ (List.Mem.head _)))).1 24; rw [byt_take, List.take_left' HRL.out] at this; exact this
  have F2 : Rd wd (some ⟨g9, 12, none⟩) (byt v) := by have := rd_drop (H3.blk (g := g9) (e := 81) (cs := byt (u ++ v)) (List.Mem.head _)).rd (by rw [HUV.out]; decide) 12; rw [List.drop_left' HUL.out] at this; exact this
  have HF1 := hide F1
  have HF2 := hide F2
  clear F1 F2
  have HSB := hide hSB'
  clear hSB'
  iterate 4 (refine wr_rd rfl rfl (fun K hK => ?_); go_simp; refine hK _ ?_; clear hK K)
  refine wr_ext rfl rfl (fun K hK => ?_)
  go_simp
  refine hK _ _ ((Fr.of_ext ((Ext.refl wd).alloc _)).mono (fun i h => h.elim)) ?_
  clear hK K
  have H4 := (H3.newB ((Ext.refl wd).alloc (.cells #[] 5)) (Blk.new wd 5 []) (Nat.le_refl _)).toOwn [] (by simp)
  dsimp only [List.nil_append, List.length_nil] at H4
  have hs4 : SB ≤ (wd.alloc (.cells #[] 5)).heap.size := by rw [← HSB.out]; simp
  have HX4 := hide ((Ext.refl wd).alloc (.cells #[] 5))
  clear H3
  refine wr_ext rfl rfl (fun K hK => ?_)
  rw [if_pos (show Region.wanted _ _ = true from rfl)]
  refine wp_apS [] H4 (.tmp 74) (.tmp 76) 26 rfl i0 (.int .u8 0) 1 Tryd.underlying26 hi hz0 hz1 hz2 rfl rfl (A := some ⟨g7, 0, none⟩) (m := 24) (c := c7) (news := byt r) rfl (by rw [byt_length, HRL.out]) (HF1.out.ext HX4.out) (byt_one _) (by rw [byt_length, HRL.out, List.length_nil]; decide) (by decide) ?_
  intro v1 w6' H5 hf5 hv5
  dsimp only [List.nil_append] at H5
  have hv5' : ∀ i, v1.ownBlock = some i → SB ≤ i := fun i hi => (hv5 i hi).elim (fun h => by cases h; exact Nat.le_of_eq HSB.out.symm) (fun h => Nat.le_trans hs4 h)
  have HF2' := hide (HF2.out.ext HX4.out)
  refine hK _ _ (hf5.mono (fun i hi => by cases hi; exact Nat.le_of_eq HSB.out.symm)) ?_
  clear hK K hv5 hs4
  refine wr_ext rfl rfl (fun K hK => ?_)
  rw [if_pos (show Region.wanted _ _ = true from rfl)]

  clear hf5 H4 HF2' HF2 HF1 HX4
  have F2 : Rd w6' (some ⟨g9, 12, none⟩) (byt v) := by have := rd_drop (H5.blk (g := g9) (e := 81) (cs := byt (u ++ v)) (List.Mem.tail _ (List.Mem.head _))).rd (by rw [HUV.out]; decide) 12; rw [List.drop_left' HUL.out] at this; exact this
  refine wp_apS [] H5 (.tmp 77) (.tmp 79) 26 rfl i0 (.int .u8 0) 1 Tryd.underlying26 hi hz0 hz1 hz2 rfl rfl (A := some ⟨g9, 12, none⟩) (m := 32) (c := 32) (news := byt v) rfl (by rw [byt_length, HVL.out]) F2 (byt_one _) (by rw [byt_length, byt_length, HRL.out, HVL.out]; decide) (by decide) ?_
  intro v11 w6 H6 hf6 _
  rw [← byt_append] at H6
  dsimp only [List.nil_append] at H6
  refine hK _ _ (hf6.mono hv5') ?_
  clear hK K hf6 hv5' H5 F2 HSB
  refine wr_nil ?_
  simp only [List.drop_succ_cons, List.drop_zero]
  have KK := hide H6
  clear H6
  go_wp2_with fail
  refine NoPanic.normal ?_
  go_upto_region 12 with fail
  obtain ⟨SB, hSB⟩ : ∃ SB, w6.heap.size = SB := ⟨_, rfl⟩
  refine wp_region_wtR (RT.fr (fun i => SB ≤ i)) 7 [1, 2, 4, 5, 0, 3, 6] (by kernel_rfl) (by kernel_rfl) (by kernel_rfl) ?_
  have H3 := KK.out.drew
  have hSB' : (w6.drew).heap.size = SB := hSB
  clear KK hSB
  generalize w6.drew = wd at *
  have F1 : Rd wd (some ⟨g9, 0, none⟩) (byt u) := by have := Rd.take_ (H3.blk (g := g9) (e := 81) (cs := byt (u ++ v)) (List.Mem.tail _ (List.Mem.head _))).rd 12; rw [byt_take, List.take_left' HUL.out] at this; exact this
  have F2 : Rd wd (some ⟨g7, 24, none⟩) (byt t) := by have := rd_drop (own_rdL (H3.owns (e := 5) (v := .slice (some ⟨g7, 0, none⟩) 56 c7) (xs := byt (r ++ t)) (List.Mem.tail _ (List.Mem.tail _ (List.Mem.head _))))).1 (by rw [HRT.out]; decide) 24; rw [List.drop_left' HRL.out] at this; exact this
  have HF1 := hide F1
  have HF2 := hide F2
  clear F1 F2
  have HSB := hide hSB'
  clear hSB'
  iterate 4 (refine wr_rd rfl rfl (fun K hK => ?_); go_simp; refine hK _ ?_; clear hK K)
  refine wr_ext rfl rfl (fun K hK => ?_)
  go_simp
  refine hK _ _ ((Fr.of_ext ((Ext.refl wd).alloc _)).mono (fun i h => h.elim)) ?_
  clear hK K
  have H4 := (H3.newB ((Ext.refl wd).alloc (.cells #[] 5)) (Blk.new wd 5 []) (Nat.le_refl _)).toOwn [] (by simp)
  dsimp only [List.nil_append, List.length_nil] at H4
  have hs4 : SB ≤ (wd.alloc (.cells #[] 5)).heap.size := by rw [← HSB.out]; simp
  have HX4 := hide ((Ext.refl wd).alloc (.cells #[] 5))
  clear H3
  refine wr_ext rfl rfl (fun K hK => ?_)
  rw [if_pos (show Region.wanted _ _ = true from rfl)]
  refine wp_apS [] H4 (.tmp 81) (.tmp 83) 26 rfl i0 (.int .u8 0) 1 Tryd.underlying26 hi hz0 hz1 hz2 rfl rfl (A := some ⟨g9, 0, none⟩) (m := 12) (c := 44) (news := byt u) rfl (by rw [byt_length, HUL.out]) (HF1.out.ext HX4.out) (byt_one _) (by rw [byt_length, HUL.out, List.length_nil]; decide) (by decide) ?_
  intro v1 w6' H5 hf5 hv5
  dsimp only [List.nil_append] at H5
  have hv5' : ∀ i, v1.ownBlock = some i → SB ≤ i := fun i hi => (hv5 i hi).elim (fun h => by cases h; exact Nat.le_of_eq HSB.out.symm) (fun h => Nat.le_trans hs4 h)
  have HF2' := hide (HF2.out.ext HX4.out)
  refine hK _ _ (hf5.mono (fun i hi => by cases hi; exact Nat.le_of_eq HSB.out.symm)) ?_
  clear hK K hv5 hs4
  refine wr_ext rfl rfl (fun K hK => ?_)
  rw [if_pos (show Region.wanted _ _ = true from rfl)]

  clear hf5 H4 HF2' HF2 HF1 HX4
  have F2 : Rd w6' (some ⟨g7, 24, none⟩) (byt t) := by have := rd_drop (own_rdL (H5.owns (e := 5) (v := .slice (some ⟨g7, 0, none⟩) 56 c7) (xs := byt (r ++ t)) (List.Mem.tail _ (List.Mem.tail _ (List.Mem.tail _ (List.Mem.head _)))))).1 (by rw [HRT.out]; decide) 24; rw [List.drop_left' HRL.out] at this; exact this
  refine wp_apS [] H5 (.tmp 84) (.tmp 86) 26 rfl i0 (.int .u8 0) 1 Tryd.underlying26 hi hz0 hz1 hz2 rfl rfl (A := some ⟨g7, 24, none⟩) (m := 32) (c := _) (news := byt t) rfl (by rw [byt_length, HTL.out]) F2 (byt_one _) (by rw [byt_length, byt_length, HUL.out, HTL.out]; decide) (by decide) ?_
  intro v12 w7 H6 hf6 _
  rw [← byt_append] at H6
  dsimp only [List.nil_append] at H6
  refine hK _ _ (hf6.mono hv5') ?_
  clear hK K hf6 hv5' H5 F2 HSB
  refine wr_nil ?_
  simp only [List.drop_succ_cons, List.drop_zero]
  have KK := hide H6
  clear H6
  go_wp2_with fail
  refine NoPanic.normal ?_
  obtain ⟨A11, c11, rfl, hr11, hc11⟩ := own_form (KK.out.owns (e := 5) (xs := byt (r ++ v)) (List.Mem.tail _ (List.Mem.head _)))
  obtain ⟨A12, c12, rfl, hr12, hc12⟩ := own_form (KK.out.owns (e := 5) (xs := byt (u ++ t)) (List.Mem.head _))
  have K6 := KK.out
  clear KK
  rw [HRV.out] at hc11 K6
  rw [HUT.out] at hc12 K6
  rw [HRV.out, HUT.out]
  have KK := hide K6
  have HR12 := hide hr12
  have HR11 := hide hr11
  have HC12 := hide hc12
  have HC11 := hide hc11
  clear K6 hr11 hr12 hc11 hc12
  go_wp2_with fail
  (with_reducible refine (HO3.out _ _ _ HC11.out KK.out.toExt HR11.out).mono ?_)
  rintro e w8 ⟨rfl, hx⟩
  have K8 := KK.out.ext hx
  have HR12' := hide (HR12.out.ext hx)
  clear KK HR12 HR11 HC11 hx
  have KK := hide K8
  clear K8
  go_wp2_with fail
  (with_reducible refine (HO4.out _ _ _ HC12.out KK.out.toExt HR12'.out).mono ?_)
  rintro e w9 ⟨rfl, hx⟩
  have K9 := KK.out.ext hx
  clear KK HR12' HC12 hx
  have KK := hide K9
  clear K9
  go_upto_region 16 with fail
  refine wp_region_wm [0, 1, 2, 3, 4, 5, 6] (by kernel_rfl) (by kernel_rfl) (by kernel_rfl) (by kernel_rfl) ?_
  have H3 := KK.out.drew
  clear KK
  generalize w9.drew = wd at *
  have F1 : Rd wd (some ⟨g7, 24, none⟩) (byt t) := by have := rd_drop (own_rdL (H3.owns (e := 5) (v := .slice (some ⟨g7, 0, none⟩) 56 c7) (xs := byt (r ++ t)) (List.Mem.tail _ (List.Mem.tail _ (List.Mem.tail _ (List.Mem.head _)))))).1 (by rw [HRT.out]; decide) 24; rw [List.drop_left' HRL.out] at this; exact this
  have F2 : Rd wd (some ⟨g9, 12, none⟩) (byt v) := by have := rd_drop (H3.blk (g := g9) (e := 81) (cs := byt (u ++ v)) (List.Mem.tail _ (List.Mem.tail _ (List.Mem.head _)))).rd (by rw [HUV.out]; decide) 12; rw [List.drop_left' HUL.out] at this; exact this
  have hcv1 := fun (p : Regrown) (cc : Nat) => str56 (w := Sort.grow (redrawn wd p.d) p.os) cc 32 HTL.out (F1.ext (below_regrown wd p.d p.os))
  have hcv2 := fun (p : Regrown) (cc : Nat) => str56 (w := Sort.grow (redrawn wd p.d) p.os) cc 32 HVL.out (F2.ext (below_regrown wd p.d p.os))
  rw [HTV.out] at hcv1
  generalize strOfNums v = sT at hcv1 hcv2
  have KK := hide H3.toExt
  clear H3 F1 F2
  iterate 7 (refine wm_rd rfl rfl (fun K hK => ?_); go_simp; refine hK _ ?_; clear hK K)
  refine wm_nil ?_
  clear hcv1 hcv2
  go_wp2_with fail
  (with_reducible refine (tshown_any _ (HL.out.ext KK.out)).mono ?_)
  rintro e wg ⟨rfl, hxe⟩
  go_wp2_with fail
  go_ret
  exact ⟨rfl, KK.out.trans hxe⟩
set_option maxRecDepth 100000 in
set_option maxHeartbeats 4000000 in
theorem apart_b (k r t u v : List Int) (A : Option Addr) (c : Nat) (s1 o1 n1 e1 o2 u2 p q r3 s p2 q2 : Int) (w : World) (hl : Laid w) (hk : keyOk k) (hs1 : s1 < 4096) (hn1 : n1 ≠ 0) (hu2 : ¬ u2 < 0)
    (hr : r.length = 24) (ht : t.length = 32) (hu : u.length = 12) (hv : v.length = 32) (htB : isB t) (hvB : isB v)
    (hiss : ∀ x, Ext w x → Calls Tryd.prog 15 #[.slice A k.length c, tkv s1 o1 n1 e1] x (RetO x (r ++ t) 0))
    (htok : ∀ x, Ext w x → Calls Tryd.prog 23 #[.slice A k.length c, ses o2 u2] x fun e w' => ∃ g, e = .returned (.tuple #[.slice (some ⟨g, 0, none⟩) 44 44, .int .i64 0]) ∧ Sep No x w' [As.blk g 81 (byt (u ++ v))])
    (ho1 : ∀ B cb x, 44 ≤ cb → Ext w x → Rd x B (byt (u ++ v)) → Calls Tryd.prog 19 #[.slice A k.length c, .slice B 44 cb] x fun e w' => e = .returned (.tuple #[tkv 0 0 0 0, .int .i64 11]) ∧ Ext x w')
    (ho2 : ∀ B cb x, 56 ≤ cb → Ext w x → Rd x B (byt (r ++ t)) → Calls Tryd.prog 24 #[.slice A k.length c, .slice B 56 cb] x fun e w' => e = .returned (.tuple #[ses 0 0, .int .i64 11]) ∧ Ext x w')
    (ho3 : ∀ B cb x, 56 ≤ cb → Ext w x → Rd x B (byt (r ++ v)) → Calls Tryd.prog 19 #[.slice A k.length c, .slice B 56 cb] x fun e w' => e = .returned (.tuple #[tkv p q r3 s, .int .i64 12]) ∧ Ext x w')
    (ho4 : ∀ B cb x, 44 ≤ cb → Ext w x → Rd x B (byt (u ++ t)) → Calls Tryd.prog 24 #[.slice A k.length c, .slice B 44 cb] x fun e w' => e = .returned (.tuple #[ses p2 q2, .int .i64 12]) ∧ Ext x w')
    (htv : t ≠ v) :
    Calls Tryd.prog 9 #[.slice A k.length c, tkv s1 o1 n1 e1, ses o2 u2] w fun e w' => e = .returned (.bool true) ∧ Ext w w' := by
  obtain ⟨i0, hi, hz0, hz1, hz2⟩ := info_parts info8
  have HL := hide hl
  have HIS := hide hiss
  have HTK := hide htok
  have HO1 := hide ho1
  have HO2 := hide ho2
  have HO3 := hide ho3
  have HO4 := hide ho4
  have dk1 : ¬ (k.length : Int) < 1 := by have := hk.1; omega
  have dk2 : ¬ (64 : Int) < (k.length : Int) := by have := hk.2; omega
  have ds1 : ¬ (4096 : Int) ≤ s1 := by omega
  have dn1 : (n1 == 0) = false := beq_eq_false_iff_ne.2 hn1
  have HRL := hide hr
  have HTL := hide ht
  have HUL := hide hu
  have HVL := hide hv
  have HTV := hide htv
  have HRT : Hid ((r ++ t).length = 56) := hide (by rw [List.length_append, hr, ht])
  have HUV : Hid ((u ++ v).length = 44) := hide (by rw [List.length_append, hu, hv])
  have HRV : Hid ((r ++ v).length = 56) := hide (by rw [List.length_append, hr, hv])
  have HUT : Hid ((u ++ t).length = 44) := hide (by rw [List.length_append, hu, ht])
  have HTB := hide htB
  have HVB := hide hvB
  have H0 := (Sep.refl No w).add2 25 53 (tkc s1 o1 n1 e1) [.int .u32 o2, .int .i64 u2]
  clear hl hiss htok ho1 ho2 ho3 ho4 hr ht hu hv htv htB hvB hk hs1 hn1
  go_enter Tryd.func9, Tryd.ntmps9
  go_upto_region 1 with fail
  generalize World.alloc _ _ = w1 at H0 ⊢
  obtain ⟨g4, hg4⟩ : ∃ g, w.heap.size = g := ⟨_, rfl⟩
  obtain ⟨g5, hg5⟩ : ∃ g2, g4 + 1 = g2 := ⟨_, rfl⟩
  rw [hg4, hg5] at H0 ⊢
  clear hg4 hg5
  obtain ⟨c0, c1, c2, c3, hg0⟩ := tk4 (H0.blk (g := g4) (e := 25) (cs := tkc s1 o1 n1 e1) (List.Mem.tail _ (List.Mem.head _)))
  obtain ⟨e0, e1_, hg1⟩ := cells2 (H0.blk (g := g5) (e := 53) (cs := [.int .u32 o2, .int .i64 u2]) (List.Mem.head _))
  have KK := hide H0
  clear H0
  go_wp2_with fail
  (with_reducible refine (HIS.out _ KK.out.toExt).mono ?_)
  rintro e w2 ⟨v7, rfl, hS⟩
  have K2 := KK.out.join hS
  dsimp only [List.nil_append, List.cons_append] at K2
  clear KK hS c0 c1 c2 c3 hg0 e0 e1_ hg1
  obtain ⟨A7, c7, rfl, hr7, hc7⟩ := own_form (K2.owns (List.Mem.head _))
  rw [HRT.out] at hc7 K2 ⊢
  obtain ⟨g7, hA7, -⟩ := Sep.ownSet [] K2 (i := 0) (by rw [byt_length, HRT.out]; decide) undef
  subst hA7
  have hc7i : (24 : Int) ≤ (c7 : Int) := by omega
  have hc7j : (56 : Int) ≤ (c7 : Int) := by omega
  have hc7k : ¬ c7 = 24 := by omega
  have HC7 := hide hc7
  clear hc7 hr7
  obtain ⟨e0, e1_, hg1⟩ := cells2 (K2.blk (g := g5) (e := 53) (cs := [.int .u32 o2, .int .i64 u2]) (List.Mem.tail _ (List.Mem.head _)))
  have KK := hide K2
  clear K2
  go_wp2_with fail
  (with_reducible refine (HTK.out _ KK.out.toExt).mono ?_)
  rintro e w3 ⟨g9, rfl, hS⟩
  have K3 := KK.out.join hS
  dsimp only [List.nil_append, List.cons_append] at K3
  clear KK hS e0 e1_ hg1
  have KK := hide K3
  have HB9 := hide (K3.blk (g := g9) (e := 81) (cs := byt (u ++ v)) (List.Mem.head _)).rd
  have HA7 := hide (own_rdL (K3.owns (e := 5) (v := .slice (some ⟨g7, 0, none⟩) 56 c7) (xs := byt (r ++ t)) (List.Mem.tail _ (List.Mem.head _)))).1
  clear K3
  go_wp2_with fail
  (with_reducible refine (HO1.out _ _ _ (Nat.le_refl _) KK.out.toExt HB9.out).mono ?_)
  rintro e w4 ⟨rfl, hx⟩
  have K4 := KK.out.ext hx
  have HA7' := hide (HA7.out.ext hx)
  clear KK HA7 HB9 hx
  have KK := hide K4
  clear K4
  go_wp2_with fail
  (with_reducible refine (HO2.out _ _ _ HC7.out KK.out.toExt HA7'.out).mono ?_)
  rintro e w5 ⟨rfl, hx⟩
  have K5 := KK.out.ext hx
  clear KK HA7' hx
  have KK := hide K5
  clear K5
  go_upto_region 11 with fail

  obtain ⟨SB, hSB⟩ : ∃ SB, w5.heap.size = SB := ⟨_, rfl⟩
  refine wp_region_wtR (RT.fr (fun i => SB ≤ i)) 7 [1, 2, 4, 5, 0, 3, 6] (by kernel_rfl) (by kernel_rfl) (by kernel_rfl) ?_
  have H3 := KK.out.drew
  have hSB' : (w5.drew).heap.size = SB := hSB
  clear KK hSB
  generalize w5.drew = wd at *
  have F1 : Rd wd (some ⟨g7, 0, none⟩) (byt r) := by have := Rd.take_ (own_rdL (H3.owns (e := 5) (v := .slice (some ⟨g7, 0, none⟩) 56 c7) (xs := byt (r ++ t)) (List.Mem.tail _ (List.Mem.head _)))).1 24; rw [byt_take, List.take_left' HRL.out] at this; exact this
  have F2 : Rd wd (some ⟨g9, 12, none⟩) (byt v) := by have := rd_drop (H3.blk (g := g9) (e := 81) (cs := byt (u ++ v)) (List.Mem.head _)).rd (by rw [HUV.out]; decide) 12; rw [List.drop_left' HUL.out] at this; exact this
  have HF1 := hide F1
  have HF2 := hide F2
  clear F1 F2
  have HSB := hide hSB'
  clear hSB'
  iterate 4 (refine wr_rd rfl rfl (fun K hK => ?_); go_simp; refine hK _ ?_; clear hK K)
  refine wr_ext rfl rfl (fun K hK => ?_)
  go_simp
  refine hK _ _ ((Fr.of_ext ((Ext.refl wd).alloc _)).mono (fun i h => h.elim)) ?_
  clear hK K
  have H4 := (H3.newB ((Ext.refl wd).alloc (.cells #[] 5)) (Blk.new wd 5 []) (Nat.le_refl _)).toOwn [] (by simp)
  dsimp only [List.nil_append, List.length_nil] at H4
  have hs4 : SB ≤ (wd.alloc (.cells #[] 5)).heap.size := by rw [← HSB.out]; simp
  have HX4 := hide ((Ext.refl wd).alloc (.cells #[] 5))
  clear H3
  refine wr_ext rfl rfl (fun K hK => ?_)
  rw [if_pos (show Region.wanted _ _ = true from rfl)]
  refine wp_apS [] H4 (.tmp 74) (.tmp 76) 26 rfl i0 (.int .u8 0) 1 Tryd.underlying26 hi hz0 hz1 hz2 rfl rfl (A := some ⟨g7, 0, none⟩) (m := 24) (c := c7) (news := byt r) rfl (by rw [byt_length, HRL.out]) (HF1.out.ext HX4.out) (byt_one _) (by rw [byt_length, HRL.out, List.length_nil]; decide) (by decide) ?_
  intro v1 w6' H5 hf5 hv5
  dsimp only [List.nil_append] at H5
  have hv5' : ∀ i, v1.ownBlock = some i → SB ≤ i := fun i hi => (hv5 i hi).elim (fun h => by cases h; exact Nat.le_of_eq HSB.out.symm) (fun h => Nat.le_trans hs4 h)
  have HF2' := hide (HF2.out.ext HX4.out)
  refine hK _ _ (hf5.mono (fun i hi => by cases hi; exact Nat.le_of_eq HSB.out.symm)) ?_
  clear hK K hv5 hs4
  refine wr_ext rfl rfl (fun K hK => ?_)
  rw [if_pos (show Region.wanted _ _ = true from rfl)]

  clear hf5 H4 HF2' HF2 HF1 HX4
  have F2 : Rd w6' (some ⟨g9, 12, none⟩) (byt v) := by have := rd_drop (H5.blk (g := g9) (e := 81) (cs := byt (u ++ v)) (List.Mem.tail _ (List.Mem.head _))).rd (by rw [HUV.out]; decide) 12; rw [List.drop_left' HUL.out] at this; exact this
  refine wp_apS [] H5 (.tmp 77) (.tmp 79) 26 rfl i0 (.int .u8 0) 1 Tryd.underlying26 hi hz0 hz1 hz2 rfl rfl (A := some ⟨g9, 12, none⟩) (m := 32) (c := 32) (news := byt v) rfl (by rw [byt_length, HVL.out]) F2 (byt_one _) (by rw [byt_length, byt_length, HRL.out, HVL.out]; decide) (by decide) ?_
  intro v11 w6 H6 hf6 _
  rw [← byt_append] at H6
  dsimp only [List.nil_append] at H6
  refine hK _ _ (hf6.mono hv5') ?_
  clear hK K hf6 hv5' H5 F2 HSB
  refine wr_nil ?_
  simp only [List.drop_succ_cons, List.drop_zero]
  have KK := hide H6
  clear H6
  go_wp2_with fail
  refine NoPanic.normal ?_
  go_upto_region 12 with fail
  obtain ⟨SB, hSB⟩ : ∃ SB, w6.heap.size = SB := ⟨_, rfl⟩
  refine wp_region_wtR (RT.fr (fun i => SB ≤ i)) 7 [1, 2, 4, 5, 0, 3, 6] (by kernel_rfl) (by kernel_rfl) (by kernel_rfl) ?_
  have H3 := KK.out.drew
  have hSB' : (w6.drew).heap.size = SB := hSB
  clear KK hSB
  generalize w6.drew = wd at *
  have F1 : Rd wd (some ⟨g9, 0, none⟩) (byt u) := by have := Rd.take_ (H3.blk (g := g9) (e := 81) (cs := byt (u ++ v)) (List.Mem.tail _ (List.Mem.head _))).rd 12; rw [byt_take, List.take_left' HUL.out] at this; exact this
  have F2 : Rd wd (some ⟨g7, 24, none⟩) (byt t) := by have := rd_drop (own_rdL (H3.owns (e := 5) (v := .slice (some ⟨g7, 0, none⟩) 56 c7) (xs := byt (r ++ t)) (List.Mem.tail _ (List.Mem.tail _ (List.Mem.head _))))).1 (by rw [HRT.out]; decide) 24; rw [List.drop_left' HRL.out] at this; exact this
  have HF1 := hide F1
  have HF2 := hide F2
  clear F1 F2
  have HSB := hide hSB'
  clear hSB'
  iterate 4 (refine wr_rd rfl rfl (fun K hK => ?_); go_simp; refine hK _ ?_; clear hK K)
  refine wr_ext rfl rfl (fun K hK => ?_)
  go_simp
  refine hK _ _ ((Fr.of_ext ((Ext.refl wd).alloc _)).mono (fun i h => h.elim)) ?_
  clear hK K
  have H4 := (H3.newB ((Ext.refl wd).alloc (.cells #[] 5)) (Blk.new wd 5 []) (Nat.le_refl _)).toOwn [] (by simp)
  dsimp only [List.nil_append, List.length_nil] at H4
  have hs4 : SB ≤ (wd.alloc (.cells #[] 5)).heap.size := by rw [← HSB.out]; simp
  have HX4 := hide ((Ext.refl wd).alloc (.cells #[] 5))
  clear H3
  refine wr_ext rfl rfl (fun K hK => ?_)
  rw [if_pos (show Region.wanted _ _ = true from rfl)]
  refine wp_apS [] H4 (.tmp 81) (.tmp 83) 26 rfl i0 (.int .u8 0) 1 Tryd.underlying26 hi hz0 hz1 hz2 rfl rfl (A := some ⟨g9, 0, none⟩) (m := 12) (c := 44) (news := byt u) rfl (by rw [byt_length, HUL.out]) (HF1.out.ext HX4.out) (byt_one _) (by rw [byt_length, HUL.out, List.length_nil]; decide) (by decide) ?_
  intro v1 w6' H5 hf5 hv5
  dsimp only [List.nil_append] at H5
  have hv5' : ∀ i, v1.ownBlock = some i → SB ≤ i := fun i hi => (hv5 i hi).elim (fun h => by cases h; exact Nat.le_of_eq HSB.out.symm) (fun h => Nat.le_trans hs4 h)
  have HF2' := hide (HF2.out.ext HX4.out)
  refine hK _ _ (hf5.mono (fun i hi => by cases hi; exact Nat.le_of_eq HSB.out.symm)) ?_
  clear hK K hv5 hs4
  refine wr_ext rfl rfl (fun K hK => ?_)
  rw [if_pos (show Region.wanted _ _ = true from rfl)]

  clear hf5 H4 HF2' HF2 HF1 HX4
  have F2 : Rd w6' (some ⟨g7, 24, none⟩) (byt t) := by have := rd_drop (own_rdL (H5.owns (e := 5) (v := .slice (some ⟨g7, 0, none⟩) 56 c7) (xs := byt (r ++ t)) (List.Mem.tail _ (List.Mem.tail _ (List.Mem.tail _ (List.Mem.head _)))))).1 (by rw [HRT.out]; decide) 24; rw [List.drop_left' HRL.out] at this; exact this
  refine wp_apS [] H5 (.tmp 84) (.tmp 86) 26 rfl i0 (.int .u8 0) 1 Tryd.underlying26 hi hz0 hz1 hz2 rfl rfl (A := some ⟨g7, 24, none⟩) (m := 32) (c := _) (news := byt t) rfl (by rw [byt_length, HTL.out]) F2 (byt_one _) (by rw [byt_length, byt_length, HUL.out, HTL.out]; decide) (by decide) ?_
  intro v12 w7 H6 hf6 _
  rw [← byt_append] at H6
  dsimp only [List.nil_append] at H6
  refine hK _ _ (hf6.mono hv5') ?_
  clear hK K hf6 hv5' H5 F2 HSB
  refine wr_nil ?_
  simp only [List.drop_succ_cons, List.drop_zero]
  have KK := hide H6
  clear H6
  go_wp2_with fail
  refine NoPanic.normal ?_
  obtain ⟨A11, c11, rfl, hr11, hc11⟩ := own_form (KK.out.owns (e := 5) (xs := byt (r ++ v)) (List.Mem.tail _ (List.Mem.head _)))
  obtain ⟨A12, c12, rfl, hr12, hc12⟩ := own_form (KK.out.owns (e := 5) (xs := byt (u ++ t)) (List.Mem.head _))
  have K6 := KK.out
  clear KK
  rw [HRV.out] at hc11 K6
  rw [HUT.out] at hc12 K6
  rw [HRV.out, HUT.out]
  have KK := hide K6
  have HR12 := hide hr12
  have HR11 := hide hr11
  have HC12 := hide hc12
  have HC11 := hide hc11
  clear K6 hr11 hr12 hc11 hc12
  go_wp2_with fail
  (with_reducible refine (HO3.out _ _ _ HC11.out KK.out.toExt HR11.out).mono ?_)
  rintro e w8 ⟨rfl, hx⟩
  have K8 := KK.out.ext hx
  have HR12' := hide (HR12.out.ext hx)
  clear KK HR12 HR11 HC11 hx
  have KK := hide K8
  clear K8
  go_wp2_with fail
  (with_reducible refine (HO4.out _ _ _ HC12.out KK.out.toExt HR12'.out).mono ?_)
  rintro e w9 ⟨rfl, hx⟩
  have K9 := KK.out.ext hx
  clear KK HR12' HC12 hx
  have KK := hide K9
  clear K9
  go_upto_region 16 with fail
  refine wp_region_wm [0, 1, 2, 3, 4, 5, 6] (by kernel_rfl) (by kernel_rfl) (by kernel_rfl) (by kernel_rfl) ?_
  have H3 := KK.out.drew
  clear KK
  generalize w9.drew = wd at *
  have F1 : Rd wd (some ⟨g7, 24, none⟩) (byt t) := by have := rd_drop (own_rdL (H3.owns (e := 5) (v := .slice (some ⟨g7, 0, none⟩) 56 c7) (xs := byt (r ++ t)) (List.Mem.tail _ (List.Mem.tail _ (List.Mem.tail _ (List.Mem.head _)))))).1 (by rw [HRT.out]; decide) 24; rw [List.drop_left' HRL.out] at this; exact this
  have F2 : Rd wd (some ⟨g9, 12, none⟩) (byt v) := by have := rd_drop (H3.blk (g := g9) (e := 81) (cs := byt (u ++ v)) (List.Mem.tail _ (List.Mem.tail _ (List.Mem.head _)))).rd (by rw [HUV.out]; decide) 12; rw [List.drop_left' HUL.out] at this; exact this
  have hcv1 := fun (p : Regrown) (cc : Nat) => str56 (w := Sort.grow (redrawn wd p.d) p.os) cc 32 HTL.out (F1.ext (below_regrown wd p.d p.os))
  have hcv2 := fun (p : Regrown) (cc : Nat) => str56 (w := Sort.grow (redrawn wd p.d) p.os) cc 32 HVL.out (F2.ext (below_regrown wd p.d p.os))
  have hsne : ¬ strOfNums t = strOfNums v := fun e => HTV.out (str_inj HTB.out HVB.out e)
  generalize strOfNums v = sT at hcv1 hcv2 hsne
  generalize strOfNums t = sO at hcv1 hsne
  have hs1 : (sO.toList == sT.toList) = false := beq_eq_false_iff_ne.2 (fun e => hsne (ByteArray.ext (Array.toList_inj.1 (by rwa [ByteArray.toList_eq, ByteArray.toList_eq] at e))))
  clear hsne
  have KK := hide H3.toExt
  clear H3 F1 F2
  iterate 7 (refine wm_rd rfl rfl (fun K hK => ?_); go_simp; refine hK _ ?_; clear hK K)
  refine wm_nil ?_
  clear hcv1 hcv2
  go_wp2_with fail
  (with_reducible refine (tshown_any _ (HL.out.ext KK.out)).mono ?_)
  rintro e wg ⟨rfl, hxe⟩
  go_wp2_with fail
  go_ret
  exact ⟨rfl, KK.out.trans hxe⟩
set_option maxRecDepth 100000 in
set_option maxHeartbeats 1000000 in
theorem apart_law (w : World) (hl : Laid w) (v0 : Value) (h0 : LfOk Tryd.prog w (.slice 5) v0) (v1 : Value) (h1 : ∃ cs, v1 = .agg cs ∧ Lvs Tryd.prog w [.int .u32, .int .u32, .int .u64, .int .u64] cs.toList) (v2 : Value) (h2 : ∃ cs, v2 = .agg cs ∧ Lvs Tryd.prog w [.int .u32, .int .i64] cs.toList) : Calls Tryd.prog 9 #[v0, v1, v2] w fun e w' => e = .returned (.bool true) ∧ Ext w w' := by
  obtain ⟨A, k, c, rfl, hr, hb, hc, hm⟩ := bytes_arg h0
  obtain ⟨s1, o1, n1, e1, rfl, ht⟩ := tickA h1
  obtain ⟨o, u, rfl, ho, hu⟩ := sesA h2
  clear h0 h1 h2
  have HL := hide hl
  have H0 := (Sep.refl No w).add2 25 53 (tkc s1 o1 n1 e1) [.int .u32 o, .int .i64 u]
  by_cases hk1 : k.length < 1
  · have d1 : (k.length : Int) < 1 := by omega
    clear hl hr hb hk1
    go_enter Tryd.func9, Tryd.ntmps9
    go_upto_region 1 with fail
    generalize World.alloc _ _ = w1 at H0 ⊢
    obtain ⟨g4, hg4⟩ : ∃ g, w.heap.size = g := ⟨_, rfl⟩
    obtain ⟨g5, hg5⟩ : ∃ g2, g4 + 1 = g2 := ⟨_, rfl⟩
    rw [hg4, hg5] at H0 ⊢
    clear hg4 hg5
    obtain ⟨c0, c1, c2, c3, hg0⟩ := tk4 (H0.blk (g := g4) (e := 25) (cs := tkc s1 o1 n1 e1) (List.Mem.tail _ (List.Mem.head _)))
    obtain ⟨e0, e1_, hg1⟩ := cells2 (H0.blk (g := g5) (e := 53) (cs := [.int .u32 o, .int .i64 u]) (List.Mem.head _))
    have HX := hide H0.toExt
    clear H0
    go_wp2_with fail
    (with_reducible refine (tshown_any _ (HL.out.ext HX.out)).mono ?_)
    rintro e wz ⟨rfl, hx⟩
    go_wp2_with fail
    go_ret
    exact ⟨rfl, HX.out.trans hx⟩
  have d1 : ¬ (k.length : Int) < 1 := by omega
  by_cases hk2 : 64 < k.length
  · have d2 : (64 : Int) < (k.length : Int) := by omega
    clear hl hr hb hk1 hk2
    go_enter Tryd.func9, Tryd.ntmps9
    go_upto_region 1 with fail
    generalize World.alloc _ _ = w1 at H0 ⊢
    obtain ⟨g4, hg4⟩ : ∃ g, w.heap.size = g := ⟨_, rfl⟩
    obtain ⟨g5, hg5⟩ : ∃ g2, g4 + 1 = g2 := ⟨_, rfl⟩
    rw [hg4, hg5] at H0 ⊢
    clear hg4 hg5
    obtain ⟨c0, c1, c2, c3, hg0⟩ := tk4 (H0.blk (g := g4) (e := 25) (cs := tkc s1 o1 n1 e1) (List.Mem.tail _ (List.Mem.head _)))
    obtain ⟨e0, e1_, hg1⟩ := cells2 (H0.blk (g := g5) (e := 53) (cs := [.int .u32 o, .int .i64 u]) (List.Mem.head _))
    have HX := hide H0.toExt
    clear H0
    go_wp2_with fail
    (with_reducible refine (tshown_any _ (HL.out.ext HX.out)).mono ?_)
    rintro e wz ⟨rfl, hx⟩
    go_wp2_with fail
    go_ret
    exact ⟨rfl, HX.out.trans hx⟩
  have d2 : ¬ (64 : Int) < (k.length : Int) := by omega
  by_cases hs4 : (4096 : Int) ≤ s1
  · clear hl hr hb hk1 hk2
    go_enter Tryd.func9, Tryd.ntmps9
    go_upto_region 1 with fail
    generalize World.alloc _ _ = w1 at H0 ⊢
    obtain ⟨g4, hg4⟩ : ∃ g, w.heap.size = g := ⟨_, rfl⟩
    obtain ⟨g5, hg5⟩ : ∃ g2, g4 + 1 = g2 := ⟨_, rfl⟩
    rw [hg4, hg5] at H0 ⊢
    clear hg4 hg5
    obtain ⟨c0, c1, c2, c3, hg0⟩ := tk4 (H0.blk (g := g4) (e := 25) (cs := tkc s1 o1 n1 e1) (List.Mem.tail _ (List.Mem.head _)))
    obtain ⟨e0, e1_, hg1⟩ := cells2 (H0.blk (g := g5) (e := 53) (cs := [.int .u32 o, .int .i64 u]) (List.Mem.head _))
    have HX := hide H0.toExt
    clear H0
    go_wp2_with fail
    (with_reducible refine (tshown_any _ (HL.out.ext HX.out)).mono ?_)
    rintro e wz ⟨rfl, hx⟩
    go_wp2_with fail
    go_ret
    exact ⟨rfl, HX.out.trans hx⟩
  by_cases hn0 : n1 = 0
  · have dn : (n1 == 0) = true := by rw [hn0]; rfl
    clear hl hr hb hk1 hk2 ht
    have hn0' := hide hn0
    clear hn0
    go_enter Tryd.func9, Tryd.ntmps9
    go_upto_region 1 with fail
    generalize World.alloc _ _ = w1 at H0 ⊢
    obtain ⟨g4, hg4⟩ : ∃ g, w.heap.size = g := ⟨_, rfl⟩
    obtain ⟨g5, hg5⟩ : ∃ g2, g4 + 1 = g2 := ⟨_, rfl⟩
    rw [hg4, hg5] at H0 ⊢
    clear hg4 hg5
    obtain ⟨c0, c1, c2, c3, hg0⟩ := tk4 (H0.blk (g := g4) (e := 25) (cs := tkc s1 o1 n1 e1) (List.Mem.tail _ (List.Mem.head _)))
    obtain ⟨e0, e1_, hg1⟩ := cells2 (H0.blk (g := g5) (e := 53) (cs := [.int .u32 o, .int .i64 u]) (List.Mem.head _))
    have HX := hide H0.toExt
    clear H0
    go_wp2_with fail
    (with_reducible refine (tshown_any _ (HL.out.ext HX.out)).mono ?_)
    rintro e wz ⟨rfl, hx⟩
    go_wp2_with fail
    go_ret
    exact ⟨rfl, HX.out.trans hx⟩
  by_cases hneg : u < 0
  · have dn : (n1 == 0) = false := beq_eq_false_iff_ne.2 hn0
    clear hl hr hb hk1 hk2 ht hn0
    go_enter Tryd.func9, Tryd.ntmps9
    go_upto_region 1 with fail
    generalize World.alloc _ _ = w1 at H0 ⊢
    obtain ⟨g4, hg4⟩ : ∃ g, w.heap.size = g := ⟨_, rfl⟩
    obtain ⟨g5, hg5⟩ : ∃ g2, g4 + 1 = g2 := ⟨_, rfl⟩
    rw [hg4, hg5] at H0 ⊢
    clear hg4 hg5
    obtain ⟨c0, c1, c2, c3, hg0⟩ := tk4 (H0.blk (g := g4) (e := 25) (cs := tkc s1 o1 n1 e1) (List.Mem.tail _ (List.Mem.head _)))
    obtain ⟨e0, e1_, hg1⟩ := cells2 (H0.blk (g := g5) (e := 53) (cs := [.int .u32 o, .int .i64 u]) (List.Mem.head _))
    have HX := hide H0.toExt
    clear H0
    go_wp2_with fail
    (with_reducible refine (tshown_any _ (HL.out.ext HX.out)).mono ?_)
    rintro e wz ⟨rfl, hx⟩
    go_wp2_with fail
    go_ret
    exact ⟨rfl, HX.out.trans hx⟩
  clear H0 d1 d2
  have hk : keyOk k := ⟨by omega, by omega⟩
  have hz : s1 < 4096 ∧ n1 ≠ 0 := ⟨by omega, hn0⟩
  have hu0 : 0 ≤ u ∧ u < 9223372036854775808 := by omega
  have hiss := fun (x : World) (h : Ext w x) => tissue_any k A c s1 o1 n1 e1 x (hl.ext h) (hr.ext h) hb hc (by omega) ht
  rw [show issTB k s1 o1 n1 e1 = recT s1 o1 n1 e1 ++ tagTi k (recT s1 o1 n1 e1) by unfold issTB bloB; rw [if_pos hk, if_pos hz], show issTE k s1 n1 = 0 by unfold issTE encTE; rw [if_pos hk, if_pos hz]] at hiss
  have htok := fun (x : World) (h : Ext w x) => issue_ok k A c o u x (hl.ext h) (hr.ext h) hb hc (by omega) ho hu hk hneg
  rw [show tokB k (recB o u) = recB o u ++ tokT k (recB o u) from rfl] at htok
  have hr24 := recT_len s1 o1 n1 e1
  have hr12 := recB_len o u
  have hrB := recT_isB s1 o1 n1 e1
  have huB := recB_isB o u
  have hdT := (decT_rec ht hz.1 hz.2).1
  have hdK := decE_rec ho hu0
  have htl := tagTi_len k (recT s1 o1 n1 e1)
  have hvl := tokT_len k (recB o u)
  have htB := tagTi_isB k (recT s1 o1 n1 e1)
  have hvB := tokT_isB k (recB o u)
  have hT := fun (t' : List Int) (hl' : t'.length = 32) => opT_of (t := t') hk hr24 hl' hdT
  have hK := fun (t' : List Int) (hl' : t'.length = 32) => opK_of (t := t') hk hr12 hl' hdK
  generalize recT s1 o1 n1 e1 = r at *
  generalize recB o u = v at *
  generalize tagTi k r = t at *
  generalize tokT k v = y at *
  have hopT := fun (n : Nat) (T : List Int) (hTl : T.length = n) (hTB : isB T) (hn : n ≤ 100) (B : Option Addr) (cb : Nat) (x : World) (hcb : n ≤ cb) (h : Ext w x) (hR : Rd x B (byt T)) => (by have h := topen_any k T A c B cb x (hl.ext h) (hr.ext h) hb hc (by omega) hR hTB (by omega) (by omega); rw [hTl] at h; exact h : Calls Tryd.prog 19 #[.slice A k.length c, .slice B n cb] x fun e w' => e = .returned (.tuple #[tkt (opTV k T), .int .i64 (opTE k T)]) ∧ Ext x w')
  have hopK := fun (n : Nat) (T : List Int) (hTl : T.length = n) (hTB : isB T) (hn : n ≤ 100) (B : Option Addr) (cb : Nat) (x : World) (hcb : n ≤ cb) (h : Ext w x) (hR : Rd x B (byt T)) => (by have h := open_any k T A c B cb x (hl.ext h) (hr.ext h) hb hc (by omega) hR hTB (by omega) (by omega); rw [hTl] at h; exact h : Calls Tryd.prog 24 #[.slice A k.length c, .slice B n cb] x fun e w' => e = .returned (.tuple #[ses (openV k T).1 (openV k T).2, .int .i64 (openE k T)]) ∧ Ext x w')
  have hvy : (v ++ y).length = 44 := by rw [List.length_append, hr12, hvl]
  have hrt : (r ++ t).length = 56 := by rw [List.length_append, hr24, htl]
  have hry : (r ++ y).length = 56 := by rw [List.length_append, hr24, hvl]
  have hvt : (v ++ t).length = 44 := by rw [List.length_append, hr12, htl]
  have ho1 := hopT 44 (v ++ y) hvy (isB_append huB hvB) (by decide)
  rw [(opT_len hk (b := v ++ y) (by rw [hvy]; decide)).1, (opT_len hk (b := v ++ y) (by rw [hvy]; decide)).2] at ho1
  have ho2 := hopK 56 (r ++ t) hrt (isB_append hrB htB) (by decide)
  rw [(opK_len hk (b := r ++ t) (by rw [hrt]; decide)).1, (opK_len hk (b := r ++ t) (by rw [hrt]; decide)).2] at ho2
  have ho3 := hopT 56 (r ++ y) hry (isB_append hrB hvB) (by decide)
  have ho4 := hopK 44 (v ++ t) hvt (isB_append huB htB) (by decide)
  have hT' := hT y hvl
  have hK' := hK t htl
  by_cases hty : t = y
  · rw [if_pos hty] at hT'
    rw [if_pos hty.symm] at hK'
    rw [hT'] at ho3
    rw [hK'] at ho4
    exact apart_a k r t v y A c s1 o1 n1 e1 o u _ _ _ _ _ _ w hl hk hz.1 hz.2 hneg hr24 htl hr12 hvl htB hvB hiss htok ho1 ho2 ho3 ho4 hty
  · rw [if_neg hty] at hT'
    rw [if_neg (fun e => hty e.symm)] at hK'
    rw [hT'] at ho3
    rw [hK'] at ho4
    exact apart_b k r t v y A c s1 o1 n1 e1 o u _ _ _ _ _ _ w hl hk hz.1 hz.2 hneg hr24 htl hr12 hvl htB hvB hiss htok ho1 ho2 ho3 ho4 hty
end Go.Proofs.YtamlngdjbmndlaaDoor
