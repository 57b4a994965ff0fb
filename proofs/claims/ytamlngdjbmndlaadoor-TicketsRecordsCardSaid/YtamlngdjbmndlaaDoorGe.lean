/- Texts put together: Q1 Q2 TT0. -/
import Derived.Test.YtamlngdjbmndlaaDoorN4
import Derived.Test.YtamlngdjbmndlaaDoorTkC
import Derived.Test.YtamlngdjbmndlaaDoorGa
namespace Go.Proofs.YtamlngdjbmndlaaDoor
open Go.RowKit Go.Gr
set_option linter.unusedVariables false
set_option linter.unusedSimpArgs false
theorem keyX : keyOk [107] := by unfold keyOk; decide
theorem tiB1 : TiB 2 7 1 0 := ⟨by decide, by decide, by decide, by decide, by decide, by decide, by decide, by decide⟩
theorem tiB2 : TiB 2 7 2 0 := ⟨by decide, by decide, by decide, by decide, by decide, by decide, by decide, by decide⟩
theorem tiB3 : TiB 2 7 1 1 := ⟨by decide, by decide, by decide, by decide, by decide, by decide, by decide, by decide⟩
def bloX : List Int := bloB [107] (recT 2 7 1 0)
def bloY : List Int := bloB [107] (recT 2 7 2 0)
def bloZ : List Int := bloB [107] (recT 2 7 1 1)
theorem bloX_len : bloX.length = 56 := bloB_len (recT_len _ _ _ _)
theorem bloY_len : bloY.length = 56 := bloB_len (recT_len _ _ _ _)
theorem bloZ_len : bloZ.length = 56 := bloB_len (recT_len _ _ _ _)
theorem bloX_isB : isB bloX := bloB_isB (recT_isB _ _ _ _)
theorem bloY_isB : isB bloY := bloB_isB (recT_isB _ _ _ _)
theorem bloZ_isB : isB bloZ := bloB_isB (recT_isB _ _ _ _)
theorem bloX_open : opTE [107] bloX = 0 ∧ opTV [107] bloX = (2, 7, 1, 0) := opT_issue keyX tiB1 (by decide) (by decide)
theorem bloY_open : opTE [107] bloY = 0 ∧ opTV [107] bloY = (2, 7, 2, 0) := opT_issue keyX tiB2 (by decide) (by decide)
theorem bloZ_open : opTE [107] bloZ = 0 ∧ opTV [107] bloZ = (2, 7, 1, 1) := opT_issue keyX tiB3 (by decide) (by decide)
theorem tagTi_differ : tagTi [106] (recT 2 7 1 0) ≠ tagTi [107] (recT 2 7 1 0) := by decide +kernel
theorem opTV_bad {key b : List Int} (h : opTE key b ≠ 0) : opTV key b = (0, 0, 0, 0) := by unfold opTV; rw [if_neg h]
theorem bloX_j : opTE [106] bloX = 12 ∧ opTV [106] bloX = (0, 0, 0, 0) := by
  have h : opTE [106] bloX = 12 := by
    unfold opTE
    rw [if_pos (show keyOk [106] by unfold keyOk; decide), if_pos (opTE_par bloX_open.1), if_neg]
    unfold bloX
    rw [bloB_take (recT_len _ _ _ _), bloB_drop (recT_len _ _ _ _)]
    exact tagTi_differ
  exact ⟨h, opTV_bad (by rw [h]; decide)⟩
theorem bloX_55 : opTE [107] (bloX.take 55) = 11 ∧ opTV [107] (bloX.take 55) = (0, 0, 0, 0) := by
  have h : opTE [107] (bloX.take 55) = 11 := by
    have hp : parTE (bloX.take 55) = 11 := by unfold parTE; rw [if_neg (by rw [List.length_take, bloX_len]; decide)]
    unfold opTE
    rw [if_pos keyX, if_neg (by rw [hp]; decide)]
  exact ⟨h, opTV_bad (by rw [h]; decide)⟩
theorem bloX_nil : opTE [] bloX = 2 ∧ opTV [] bloX = (0, 0, 0, 0) := by
  have h : opTE [] bloX = 2 := by unfold opTE; rw [if_neg (by unfold keyOk; decide)]
  exact ⟨h, opTV_bad (by rw [h]; decide)⟩
theorem opnsX : opns [107] [bloX, bloY, bloZ] = [some (2, 7, 1, 0), some (2, 7, 2, 0), some (2, 7, 1, 1)] := by
  simp only [opns, List.map_cons, List.map_nil, opn]
  rw [if_pos bloX_open.1, if_pos bloY_open.1, if_pos bloZ_open.1, bloX_open.2, bloY_open.2, bloZ_open.2]
theorem newX : newE [107] [bloX, bloY, bloZ] = 0 ∧ newV [107] [bloX, bloY, bloZ] = [2] := by
  have h : newE [107] [bloX, bloY, bloZ] = 0 := by unfold newE; rw [if_pos keyX, if_pos (by decide)]
  refine ⟨h, ?_⟩
  unfold newV
  rw [if_pos h, opnsX, ← outTo_end]
  rw [show outTo (opsTo [some (2, 7, 1, 0), some (2, 7, 2, 0), some (2, 7, 1, 1)] [some ((2, 7, 1, 0) : Tk), some (2, 7, 2, 0), some (2, 7, 1, 1)].length) (opsTo [some (2, 7, 1, 0), some (2, 7, 2, 0), some (2, 7, 1, 1)] [some ((2, 7, 1, 0) : Tk), some (2, 7, 2, 0), some (2, 7, 1, 1)].length).length = [2] by decide]
  rfl
theorem isB107 : isB [107] := by unfold isB; decide
theorem s_tenc (x : World) : Calls Tryd.prog 11 #[tkv 2 7 1 0] x (RetS x [0, 0, 0, 2, 0, 0, 0, 7, 0, 0, 0, 0, 0, 0, 0, 1, 0, 0, 0, 0, 0, 0, 0, 0] 0) := by
  have h := tenc_any 2 7 1 0 x tiB1
  rw [show encTB 2 7 1 0 = [0, 0, 0, 2, 0, 0, 0, 7, 0, 0, 0, 0, 0, 0, 0, 1, 0, 0, 0, 0, 0, 0, 0, 0] by decide, show encTE 2 1 = 0 from rfl] at h
  exact h
theorem s_tissue (b : List Int) (s o n e : Int) (hb : b = bloB [107] (recT s o n e)) (ht : TiB s o n e) (hs : s < 4096 ∧ n ≠ 0) (g : Nat) (x : World) (hl : Laid x) (hr : Rd x (some ⟨g, 0, none⟩) (byt [107])) : Calls Tryd.prog 15 #[.slice (some ⟨g, 0, none⟩) 1 1, tkv s o n e] x (RetO x b 0) := by
  have h := tissue_any [107] (some ⟨g, 0, none⟩) 1 s o n e x hl hr isB107 (by decide) (by decide) ht
  rw [(issT_ok (o := o) (e := e) keyX hs).2, show issTB [107] s o n e = b by rw [(issT_ok (o := o) (e := e) keyX hs).1, hb]; rfl] at h
  exact h
theorem s_tissX (g : Nat) (x : World) (hl : Laid x) (hr : Rd x (some ⟨g, 0, none⟩) (byt [107])) : Calls Tryd.prog 15 #[.slice (some ⟨g, 0, none⟩) 1 1, tkv 2 7 1 0] x (RetO x bloX 0) := s_tissue bloX 2 7 1 0 rfl tiB1 (by decide) g x hl hr
theorem s_tissY (g : Nat) (x : World) (hl : Laid x) (hr : Rd x (some ⟨g, 0, none⟩) (byt [107])) : Calls Tryd.prog 15 #[.slice (some ⟨g, 0, none⟩) 1 1, tkv 2 7 2 0] x (RetO x bloY 0) := s_tissue bloY 2 7 2 0 rfl tiB2 (by decide) g x hl hr
theorem s_tissZ (g : Nat) (x : World) (hl : Laid x) (hr : Rd x (some ⟨g, 0, none⟩) (byt [107])) : Calls Tryd.prog 15 #[.slice (some ⟨g, 0, none⟩) 1 1, tkv 2 7 1 1] x (RetO x bloZ 0) := s_tissue bloZ 2 7 1 1 rfl tiB3 (by decide) g x hl hr
theorem s_topen (g : Nat) (A : Option Addr) (c : Nat) (x : World) (hl : Laid x) (hr : Rd x (some ⟨g, 0, none⟩) (byt [107])) (hb : Rd x A (byt bloX)) (hc : 56 ≤ c) : Calls Tryd.prog 19 #[.slice (some ⟨g, 0, none⟩) 1 1, .slice A 56 c] x fun e w' => e = .returned (.tuple #[tkv 2 7 1 0, .int .i64 0]) ∧ Ext x w' := by
  have h := topen_any [107] bloX (some ⟨g, 0, none⟩) 1 A c x hl hr isB107 (by decide) (by decide) hb bloX_isB (by rw [bloX_len]; exact hc) (by rw [bloX_len]; decide)
  rw [bloX_open.1, bloX_open.2, bloX_len] at h
  exact h
theorem s_topenj (g : Nat) (A : Option Addr) (c : Nat) (x : World) (hl : Laid x) (hr : Rd x (some ⟨g, 0, none⟩) (byt [106])) (hb : Rd x A (byt bloX)) (hc : 56 ≤ c) : Calls Tryd.prog 19 #[.slice (some ⟨g, 0, none⟩) 1 1, .slice A 56 c] x fun e w' => e = .returned (.tuple #[tkv 0 0 0 0, .int .i64 12]) ∧ Ext x w' := by
  have h := topen_any [106] bloX (some ⟨g, 0, none⟩) 1 A c x hl hr (by unfold isB; decide) (by decide) (by decide) hb bloX_isB (by rw [bloX_len]; exact hc) (by rw [bloX_len]; decide)
  rw [bloX_j.1, bloX_j.2, bloX_len] at h
  exact h
theorem s_topen55 (g : Nat) (A : Option Addr) (c : Nat) (x : World) (hl : Laid x) (hr : Rd x (some ⟨g, 0, none⟩) (byt [107])) (hb : Rd x A (byt bloX)) (hc : 56 ≤ c) : Calls Tryd.prog 19 #[.slice (some ⟨g, 0, none⟩) 1 1, .slice A 55 c] x fun e w' => e = .returned (.tuple #[tkv 0 0 0 0, .int .i64 11]) ∧ Ext x w' := by
  have hl55 : (bloX.take 55).length = 55 := by rw [List.length_take, bloX_len]; rfl
  have h := topen_any [107] (bloX.take 55) (some ⟨g, 0, none⟩) 1 A c x hl hr isB107 (by decide) (by decide) (rd_take hb 55) (isB_take bloX_isB 55) (by omega) (by omega)
  rw [bloX_55.1, bloX_55.2, hl55] at h
  exact h
theorem s_topennil (A : Option Addr) (c : Nat) (x : World) (hl : Laid x) (hb : Rd x A (byt bloX)) (hc : 56 ≤ c) : Calls Tryd.prog 19 #[.slice none 0 0, .slice A 56 c] x fun e w' => e = .returned (.tuple #[tkv 0 0 0 0, .int .i64 2]) ∧ Ext x w' := by
  have h := topen_any [] bloX none 0 A c x hl (Rd.nil _ _) (by unfold isB; simp) (by decide) (by decide) hb bloX_isB (by rw [bloX_len]; exact hc) (by rw [bloX_len]; decide)
  rw [bloX_nil.1, bloX_nil.2, bloX_len] at h
  exact h
theorem s_tnew (g gB : Nat) (t : TypeId) (A4 A11 A13 : Option Addr) (c4 c11 c13 : Nat) (x : World) (hl : Laid x) (hr : Rd x (some ⟨g, 0, none⟩) (byt [107])) (hB : Blk x gB t [.slice A4 56 c4, .slice A11 56 c11, .slice A13 56 c13])
    (h4 : Rd x A4 (byt bloX)) (h11 : Rd x A11 (byt bloY)) (h13 : Rd x A13 (byt bloZ)) (d4 : 56 ≤ c4) (d11 : 56 ≤ c11) (d13 : 56 ≤ c13) :
    Calls Tryd.prog 21 #[.slice (some ⟨g, 0, none⟩) 1 1, .slice (some ⟨gB, 0, none⟩) 3 3] x fun e w' => ∃ v, e = .returned (.tuple #[v, .int .i64 0]) ∧ Sep No x w' [As.own 3 v [.int .i64 2]] := by
  have hBlo : Blo x (some ⟨gB, 0, none⟩) [bloX, bloY, bloZ] := by
    intro i b hib
    match i with
    | 0 => cases hib; exact ⟨gB, 0, A4, c4, rfl, by rw [bloX_len]; exact hB.cell 0, by rw [bloX_len]; exact d4, h4, bloX_isB, by rw [bloX_len]; decide⟩
    | 1 => cases hib; exact ⟨gB, 0, A11, c11, rfl, by rw [bloY_len]; exact hB.cell 1, by rw [bloY_len]; exact d11, h11, bloY_isB, by rw [bloY_len]; decide⟩
    | 2 => cases hib; exact ⟨gB, 0, A13, c13, rfl, by rw [bloZ_len]; exact hB.cell 2, by rw [bloZ_len]; exact d13, h13, bloZ_isB, by rw [bloZ_len]; decide⟩
    | k + 3 => cases hib
  have h := tnewest_any [107] [bloX, bloY, bloZ] (some ⟨g, 0, none⟩) 1 (some ⟨gB, 0, none⟩) 3 x hl hr isB107 (by decide) (by decide) hBlo (by decide) (by decide)
  rw [newX.1, newX.2] at h
  exact h
/-- a row of the call's own, from now on read only -/
theorem own_rd {G : Nat → Prop} {w0 w : World} (L1 : List As) {L2 : List As} {e : TypeId} {v : Value} {l : List Int} (H : Sep G w0 w (L1 ++ As.own e v (byt l) :: L2)) : ∃ A c, v = .slice A l.length c ∧ l.length ≤ c ∧ Sep G w0 w (L1 ++ As.rd A (byt l) :: L2) := by
  have hown := H.owns (e := e) (v := v) (xs := byt l) (by simp)
  obtain ⟨A, c, rfl, hr, hc⟩ := own_form hown
  refine ⟨A, c, rfl, hc, H.weak L1 (B := As.rd A (byt l)) (fun _ => hr) (fun i hi => ?_)⟩
  obtain ⟨hne, ad, rfl, rfl⟩ := hi
  rcases hown.2 with ⟨h0, _⟩ | ⟨g, cap, cur, hv, _⟩
  · cases h0
  · have hA := (Value.slice.inj hv).1
    cases hA; rfl
end Go.Proofs.YtamlngdjbmndlaaDoor
namespace Go.Proofs.YtamlngdjbmndlaaDoor
open Go.RowKit Go.Gr
set_option linter.unusedVariables false
set_option linter.unusedSimpArgs false
set_option maxRecDepth 100000 in
set_option maxHeartbeats 4000000 in
theorem tshown_any (w : World) (hl : Laid w) : Calls Tryd.prog 10 #[] w fun e w' => e = .returned (.bool true) ∧ Ext w w' := by
  have HL := hide hl
  clear hl
  have tok1 : True := trivial
  have tok2 : True := trivial
  have tok3 : True := trivial
  go_enter Tryd.func10, Tryd.ntmps10
  go_wp2_with (first
    | (have zz := tok1; clear zz tok1; refine wpList_alS (Sep.refl No w) rfl 25 rfl (tkc 0 0 0 0) (by kernel_rfl) ?_; intro w1 hz1 K1; clear hz1)
    | (have zz := tok2; clear zz tok2; refine wpList_stS [] K1 rfl 25 (.tmp 1) (.tmp 17) rfl rfl (cs := tkc 2 7 1 0) rfl (by kernel_rfl) rfl (tkc_one 2 7 1 0) ?_; intro w2 K2; dsimp only [List.nil_append] at K2; clear K1)
    | (have zz := tok3; clear zz tok3; refine wpList_ldS K2 (List.Mem.head _) rfl 25 (.tmp 1) rfl rfl _ Tryd.underlying25 rfl (by kernel_rfl) ?_))
  obtain ⟨g1, G1⟩ : ∃ g, w.heap.size = g := ⟨_, rfl⟩
  rw [G1] at K2 ⊢
  clear G1
  (with_reducible refine (s_tenc _).mono ?_)
  rintro e w3 ⟨A2, c2, rfl, hc2, hS⟩
  have K3 := K2.join hS
  dsimp only [List.nil_append, List.cons_append] at K3
  clear K2 hS
  have tok4 : True := trivial
  have tok5 : True := trivial
  go_wp2_with (first
    | (have zz := tok4; clear zz tok4; refine wpList_litS K3 [107] rfl (.tmp 24) rfl 1 1 rfl ?_; intro w4 K4; clear K3)
    | (have zz := tok5; clear zz tok5; refine wpList_ldS K4 (List.Mem.tail _ (List.Mem.tail _ (List.Mem.head _))) rfl 25 (.tmp 1) rfl rfl _ Tryd.underlying25 rfl (by kernel_rfl) ?_))
  (with_reducible refine (s_tissX _ _ (HL.out.ext K4.toExt) (K4.get (List.Mem.head _))).mono ?_)
  rintro e w5 ⟨v4, rfl, hS⟩
  have K5' := K4.join hS
  dsimp only [List.nil_append, List.cons_append] at K5'
  clear K4 hS
  obtain ⟨A4, c4, rfl, hc4, K5⟩ := own_rd [] K5'
  dsimp only [List.nil_append] at K5
  rw [bloX_len] at hc4 ⊢
  clear K5'
  have hcv := str_of c2 (K5.get (A := As.rd A2 (byt [0, 0, 0, 2, 0, 0, 0, 7, 0, 0, 0, 0, 0, 0, 0, 1, 0, 0, 0, 0, 0, 0, 0, 0])) (List.Mem.tail _ (List.Mem.tail _ (List.Mem.head _))))
  have hcv2 : (convert 26 9 (.slice A2 24 c2)).run Tryd.prog w5 = .ok (.string { data := #[0, 0, 0, 2, 0, 0, 0, 7, 0, 0, 0, 0, 0, 0, 0, 1, 0, 0, 0, 0, 0, 0, 0, 0] }) w5 := hcv
  clear hcv
  have h55 : (55 : Int) ≤ (c4 : Int) := by omega
  have K7 : Sep No w w5 [As.rd A4 (byt bloX), As.blk g1 25 (tkc 2 7 1 0)] := K5.sub (List.Sublist.cons_cons _ (List.Sublist.cons _ (List.Sublist.cons _ (List.Sublist.refl _))))
  have Kh := hide K7
  clear K5 K7

  have toka1 : True := trivial
  go_wp2_with (have zz := toka1; clear zz toka1; refine wpList_litS Kh.out [107] rfl (.tmp 47) rfl 1 1 rfl ?_; intro wa1 Ka1)
  have HA1 : Hid (Rd wa1 A4 (byt bloX)) := hide (Ka1.get (A := As.rd A4 (byt bloX)) (List.Mem.tail _ (List.Mem.head _)))
  (with_reducible refine (s_topen _ A4 c4 _ (HL.out.ext Ka1.toExt) (Ka1.get (List.Mem.head _)) HA1.out hc4).mono ?_)
  rintro e wb1 ⟨rfl, hxb1⟩
  have Kb1 := (Ka1.ext hxb1).tail
  clear Ka1 hxb1
  have tokb1 : True := trivial
  have tokc1 : True := trivial
  go_upto_region 7 with (first
    | (have zz := tokb1; clear zz tokb1; refine wpList_alS Kb1 rfl 25 rfl (tkc 0 0 0 0) (by kernel_rfl) ?_; intro wc1 hzc Kc1; clear hzc Kb1)
    | (have zz := tokc1; clear zz tokc1; refine wpList_stS [] Kc1 rfl 25 (.tmp 6) (.tmp 51) rfl rfl (cs := tkc 2 7 1 0) rfl (by kernel_rfl) rfl (tkc_one 2 7 1 0) ?_; intro wd1 Kd1; dsimp only [List.nil_append] at Kd1; clear Kc1))
  obtain ⟨g6, GK⟩ : ∃ g, wb1.heap.size = g := ⟨_, rfl⟩
  rw [GK] at Kd1 ⊢
  clear GK
  have Ke1 := hide Kd1
  clear Kd1
  have toka2 : True := trivial
  go_wp2_with (have zz := toka2; clear zz toka2; refine wpList_litS Ke1.out [106] rfl (.tmp 54) rfl 1 1 rfl ?_; intro wa2 Ka2)
  have HA2 : Hid (Rd wa2 A4 (byt bloX)) := hide (Ka2.get (A := As.rd A4 (byt bloX)) (List.Mem.tail _ (List.Mem.tail _ (List.Mem.head _))))
  (with_reducible refine (s_topenj _ A4 c4 _ (HL.out.ext Ka2.toExt) (Ka2.get (List.Mem.head _)) HA2.out hc4).mono ?_)
  rintro e wb2 ⟨rfl, hxb2⟩
  have Kb2 := (Ka2.ext hxb2).tail
  clear Ka2 hxb2
  have Ke2 := hide Kb2
  clear Kb2
  have toka3 : True := trivial
  go_wp2_with (have zz := toka3; clear zz toka3; refine wpList_litS Ke2.out [107] rfl (.tmp 61) rfl 1 1 rfl ?_; intro wa3 Ka3)
  have HA3 : Hid (Rd wa3 A4 (byt bloX)) := hide (Ka3.get (A := As.rd A4 (byt bloX)) (List.Mem.tail _ (List.Mem.tail _ (List.Mem.head _))))
  (with_reducible refine (s_topen55 _ A4 c4 _ (HL.out.ext Ka3.toExt) (Ka3.get (List.Mem.head _)) HA3.out hc4).mono ?_)
  rintro e wb3 ⟨rfl, hxb3⟩
  have Kb3 := (Ka3.ext hxb3).tail
  clear Ka3 hxb3
  have tokb3 : True := trivial
  have tokc3 : True := trivial
  go_upto_region 9 with (first
    | (have zz := tokb3; clear zz tokb3; refine wpList_alS Kb3 rfl 25 rfl (tkc 0 0 0 0) (by kernel_rfl) ?_; intro wc3 hzc Kc3; clear hzc Kb3)
    | (have zz := tokc3; clear zz tokc3; refine wpList_stS [] Kc3 rfl 25 (.tmp 7) (.tmp 66) rfl rfl (cs := tkc 0 0 0 0) rfl (by kernel_rfl) rfl (tkc_one 0 0 0 0) ?_; intro wd3 Kd3; dsimp only [List.nil_append] at Kd3; clear Kc3))
  have Ke3 := hide Kd3.tail
  clear Kd3
  go_wp2_with fail
  have HAz := hide (show Rd _ A4 (byt bloX) from Ke3.out.get (A := As.rd A4 (byt bloX)) (List.Mem.tail _ (List.Mem.head _)))
  (with_reducible refine (s_topennil A4 c4 _ (HL.out.ext Ke3.out.toExt) HAz.out hc4).mono ?_)
  rintro e wz ⟨rfl, hxz⟩
  have Kz := Ke3.out.ext hxz
  clear hxz
  have tz1 : True := trivial
  have tz2 : True := trivial
  have tz3 : True := trivial
  have tz4 : True := trivial
  have tz5 : True := trivial
  go_upto_region 11 with (first
    | (have zz := tz1; clear zz tz1; refine wpList_alS Kz rfl 25 rfl (tkc 0 0 0 0) (by kernel_rfl) ?_; intro wy hzy Ky; clear hzy Kz)
    | (have zz := tz2; clear zz tz2; refine wpList_stS [] Ky rfl 25 (.tmp 9) (.tmp 71) rfl rfl (cs := tkc 0 0 0 0) rfl (by kernel_rfl) rfl (tkc_one 0 0 0 0) ?_; intro wx Kx; dsimp only [List.nil_append] at Kx; clear Ky)
    | (have zz := tz3; clear zz tz3; refine wpList_st1S [_, _, _] Kx rfl 23 (.tmp 73) (.const (.int .u64 2)) rfl (i := 2) rfl rfl (by kernel_rfl) (show 2 < 4 by decide) rfl ?_; intro wv Kv; dsimp only [List.nil_append, List.cons_append, List.set] at Kv; clear Kx))
  have Kf := hide Kv.tail
  clear Kv
  have ty1 : True := trivial
  have ty2 : True := trivial
  go_wp2_with (first
    | (have zz := ty1; clear zz ty1; refine wpList_litS Kf.out [107] rfl (.tmp 75) rfl 1 1 rfl ?_; intro wu Ku)
    | (have zz := ty2; clear zz ty2; refine wpList_ldS Ku (List.Mem.tail _ (List.Mem.tail _ (List.Mem.tail _ (List.Mem.head _)))) rfl 25 (.tmp 1) rfl rfl _ Tryd.underlying25 rfl (by kernel_rfl) ?_))
  (with_reducible refine (s_tissY _ _ (HL.out.ext Ku.toExt) (Ku.get (List.Mem.head _))).mono ?_)
  rintro e wt ⟨v11, rfl, hS⟩
  have Kt' := Ku.join hS
  dsimp only [List.nil_append, List.cons_append] at Kt'
  clear Ku Kf hS
  obtain ⟨A11, c11, rfl, hc11, Kt⟩ := own_rd [] Kt'
  dsimp only [List.nil_append] at Kt
  rw [bloY_len] at hc11 ⊢
  clear Kt'
  have Ks := Kt.sub (List.Sublist.cons_cons _ (List.sublist_cons_self _ _))
  clear Kt
  have ty3 : True := trivial
  have ty4 : True := trivial
  go_upto_region 13 with (first
    | (have zz := ty3; clear zz ty3; refine wpList_st1S [_, _, _] Ks rfl 23 (.tmp 81) (.const (.int .u64 1)) rfl (i := 2) rfl rfl (by kernel_rfl) (show 2 < 4 by decide) rfl ?_; intro wr Kr; dsimp only [List.nil_append, List.cons_append, List.set] at Kr; clear Ks)
    | (have zz := ty4; clear zz ty4; refine wpList_st1S [_, _, _] Kr rfl 23 (.tmp 82) (.const (.int .u64 1)) rfl (i := 3) rfl rfl (by kernel_rfl) (show 3 < 4 by decide) rfl ?_; intro wq Kq; dsimp only [List.nil_append, List.cons_append, List.set] at Kq; clear Kr))
  have Kp := hide Kq
  clear Kq
  have ty5 : True := trivial
  have ty6 : True := trivial
  go_wp2_with (first
    | (have zz := ty5; clear zz ty5; refine wpList_litS Kp.out [107] rfl (.tmp 84) rfl 1 1 rfl ?_; intro wo Ko)
    | (have zz := ty6; clear zz ty6; refine wpList_ldS Ko (List.Mem.tail _ (List.Mem.tail _ (List.Mem.tail _ (List.Mem.tail _ (List.Mem.head _))))) rfl 25 (.tmp 1) rfl rfl _ Tryd.underlying25 rfl (by kernel_rfl) ?_))
  (with_reducible refine (s_tissZ _ _ (HL.out.ext Ko.toExt) (Ko.get (List.Mem.head _))).mono ?_)
  rintro e wn ⟨v13, rfl, hS⟩
  have Kn' := Ko.join hS
  dsimp only [List.nil_append, List.cons_append] at Kn'
  clear Ko Kp hS
  obtain ⟨A13, c13, rfl, hc13, Kn⟩ := own_rd [] Kn'
  dsimp only [List.nil_append] at Kn
  rw [bloZ_len] at hc13 ⊢
  clear Kn'
  have Km := hide (Kn.sub (List.Sublist.cons_cons _ (List.sublist_cons_self _ _)))
  clear Kn
  have ty7 : True := trivial
  go_wp2_with (have zz := ty7; clear zz ty7; refine wpList_litS Km.out [107] rfl (.tmp 91) rfl 1 1 rfl ?_; intro wl Kl)
  have Kk := hide (Kl.add 26 [.slice A4 56 c4, .slice A11 56 c11, .slice A13 56 c13])
  clear Kl Km
  have HB3 := hide (Kk.out.blk (g := wl.heap.size) (e := 26) (cs := [.slice A4 56 c4, .slice A11 56 c11, .slice A13 56 c13]) (List.Mem.head _))
  have HA4 := hide (Kk.out.get (A := As.rd A4 (byt bloX)) (List.Mem.tail _ (List.Mem.tail _ (List.Mem.tail _ (List.Mem.tail _ (List.Mem.tail _ (List.Mem.head _)))))))
  have HA11 := hide (Kk.out.get (A := As.rd A11 (byt bloY)) (List.Mem.tail _ (List.Mem.tail _ (List.Mem.tail _ (List.Mem.head _)))))
  have HA13 := hide (Kk.out.get (A := As.rd A13 (byt bloZ)) (List.Mem.tail _ (List.Mem.tail _ (List.Mem.head _))))
  have HRK := hide (Kk.out.get (A := As.rd (some ⟨_, 0, none⟩) (byt [107])) (List.Mem.tail _ (List.Mem.head _)))
  refine (s_tnew _ _ _ A4 A11 A13 c4 c11 c13 _ (HL.out.ext Kk.out.toExt) HRK.out HB3.out HA4.out HA11.out HA13.out hc4 hc11 hc13).mono ?_
  rintro e wj ⟨v15, rfl, hS⟩
  have Kj := Kk.out.join hS
  dsimp only [List.nil_append, List.cons_append] at Kj
  clear Kk hS HB3 HA4 HA11 HA13 HRK
  obtain ⟨A15, c15, rfl, -, hc15, -⟩ := (Kj.owns (e := 3) (xs := [.int .i64 2]) (List.Mem.head _)).form
  obtain ⟨g15, hA15, hcell, -, hg15, -⟩ := Sep.ownSet [] Kj (i := 0) (by decide) undef
  subst hA15
  have ty8 : True := trivial
  go_wp2_with (have zz := ty8; clear zz ty8; refine wpList_ldS Kj (List.Mem.tail _ (List.Mem.tail _ (List.Mem.tail _ (List.Mem.tail _ (List.Mem.tail _ (List.Mem.head _)))))) rfl 25 (.tmp 6) rfl rfl _ Tryd.underlying25 rfl (by kernel_rfl) ?_)
  go_ret
  exact ⟨rfl, Kj.toExt⟩
end Go.Proofs.YtamlngdjbmndlaaDoor
namespace Go.Proofs.YtamlngdjbmndlaaDoor
open Go.RowKit Go.Gr
set_option linter.unusedVariables false
set_option linter.unusedSimpArgs false
theorem bytes_arg {w : World} {v : Value} (h : LfOk Tryd.prog w (.slice 5) v) : ∃ A l c, v = .slice A l.length c ∧ Rd w A (byt l) ∧ isB l ∧ l.length ≤ c ∧ c ≤ maxLen := by
  obtain ⟨A, l, c, rfl, h1, h2, h3, h4⟩ := slice_ints Tryd.underlying5 (by kernel_rfl) h
  exact ⟨A, l, c, rfl, h1, fun x hx => wf_u8 (h2 x hx), h3, h4⟩
theorem sesA {w : World} {v : Value} (h : ∃ cs, v = .agg cs ∧ Lvs Tryd.prog w [.int .u32, .int .i64] cs.toList) : ∃ o u : Int, v = ses o u ∧ (0 ≤ o ∧ o < 4294967296) ∧ (-9223372036854775808 ≤ u ∧ u ≤ 9223372036854775807) := by
  obtain ⟨⟨cs⟩, rfl, h0⟩ := h
  obtain ⟨_, _, hc, ⟨a, rfl, ha⟩, h1⟩ := h0.cons
  obtain ⟨_, _, rfl, ⟨b, rfl, hb⟩, h2⟩ := h1.cons
  obtain rfl := h2.nil_
  simp only at hc
  exact ⟨a, b, by rw [hc], Go.Gr.wf_u32 ha, Go.Gr.wf_i64 hb⟩
theorem u64_of {n : Int} (h : (Lit.int .u64 n).wf = true) : 0 ≤ n ∧ n < 18446744073709551616 := by
  have : 0 ≤ n ∧ n ≤ 18446744073709551615 := by simpa [Lit.wf, IntKind.min, IntKind.max, IntKind.signed, IntKind.bits] using h
  omega
theorem tickA {w : World} {v : Value} (h : ∃ cs, v = .agg cs ∧ Lvs Tryd.prog w [.int .u32, .int .u32, .int .u64, .int .u64] cs.toList) : ∃ s o n e : Int, v = tkv s o n e ∧ TiB s o n e := by
  obtain ⟨⟨cs⟩, rfl, h0⟩ := h
  obtain ⟨_, _, hc, ⟨a, rfl, ha⟩, h1⟩ := h0.cons
  obtain ⟨_, _, rfl, ⟨b, rfl, hb⟩, h2⟩ := h1.cons
  obtain ⟨_, _, rfl, ⟨c, rfl, hc2⟩, h3⟩ := h2.cons
  obtain ⟨_, _, rfl, ⟨d, rfl, hd⟩, h4⟩ := h3.cons
  obtain rfl := h4.nil_
  simp only at hc
  exact ⟨a, b, c, d, by rw [hc], ⟨(Go.Gr.wf_u32 ha).1, (Go.Gr.wf_u32 ha).2, (Go.Gr.wf_u32 hb).1, (Go.Gr.wf_u32 hb).2, (u64_of hc2).1, (u64_of hc2).2, (u64_of hd).1, (u64_of hd).2⟩⟩
theorem known_law (w : World) (hl : Laid w) : Calls Tryd.prog 8 #[] w fun e w' => e = .returned (.bool true) ∧ Ext w w' := by
  have HS := hide (tshown_any w hl)
  clear hl
  go_enter Tryd.func8, Tryd.ntmps8
  go_wp2_with fail
  (with_reducible refine HS.out.mono ?_)
  rintro e w1 ⟨rfl, hx⟩
  go_wp2_with fail
  go_ret
  exact ⟨rfl, hx⟩
set_option maxRecDepth 100000 in
set_option maxHeartbeats 1000000 in
theorem issues_law (w : World) (hl : Laid w) (v0 : Value) (h0 : LfOk Tryd.prog w (.slice 5) v0) (v1 : Value) (h1 : ∃ cs, v1 = .agg cs ∧ Lvs Tryd.prog w [.int .u32, .int .u32, .int .u64, .int .u64] cs.toList) : Calls Tryd.prog 4 #[v0, v1] w fun e w' => e = .returned (.bool true) ∧ Ext w w' := by
  obtain ⟨A, l, c, rfl, hr, hb, hc, hm⟩ := bytes_arg h0
  obtain ⟨s1, o1, n1, e1, rfl, ht⟩ := tickA h1
  have HL := hide hl
  have HR := hide hr
  have H0 := box_tk w s1 o1 n1 e1
  by_cases hs : 200 < l.length
  · have d1 : (200 : Int) < (l.length : Int) := by omega
    have HX := hide H0.toExt
    clear hl hr hb h0 h1 H0 hs
    go_enter Tryd.func4, Tryd.ntmps4
    go_wp2_with fail
    (with_reducible refine (tshown_any _ (HL.out.ext HX.out)).mono ?_)
    rintro e w1 ⟨rfl, hx⟩
    go_wp2_with fail
    go_ret
    exact ⟨rfl, HX.out.trans hx⟩
  · have d1 : ¬ (200 : Int) < (l.length : Int) := by omega
    have HI := hide (fun (x : World) (h : Ext w x) => tissue_any l A c s1 o1 n1 e1 x (hl.ext h) (hr.ext h) hb hc (by omega) ht)
    have HRI := hide (fun (x : World) (h : Ext w x) => rtissue_any l A c s1 o1 n1 e1 x (hr.ext h) hb hc (by omega) ht)
    obtain ⟨B, HB⟩ : ∃ B, Hid (issTB l s1 o1 n1 e1 = B) := ⟨_, hide rfl⟩
    obtain ⟨E, HE⟩ : ∃ E, Hid (issTE l s1 n1 = E) := ⟨_, hide rfl⟩
    rw [HB.out, HE.out] at HI HRI
    clear hl hr hb h0 h1 hs HB HE
    have tok1 : True := trivial
    have tok2 : True := trivial
    go_enter Tryd.func4, Tryd.ntmps4
    obtain ⟨c0, c1, c2, c3, hg0⟩ := tk4 (H0.blk (g := w.heap.size) (e := 25) (cs := tkc s1 o1 n1 e1) (List.Mem.head _))
    go_wp2_with fail
    (with_reducible refine (HI.out _ H0.toExt).mono ?_)
    rintro e w2 ⟨v2, rfl, hS⟩
    have K2 := H0.join hS
    dsimp only [List.nil_append, List.cons_append] at K2
    clear H0 hS c0 c1 c2 c3 hg0
    obtain ⟨c0, c1, c2, c3, hg0⟩ := tk4 (K2.blk (g := w.heap.size) (e := 25) (cs := tkc s1 o1 n1 e1) (List.Mem.tail _ (List.Mem.head _)))
    have KK := hide K2
    clear K2
    go_wp2_with fail
    (with_reducible refine (HRI.out _ KK.out.toExt).mono ?_)
    rintro e w3 ⟨v3, rfl, hS⟩
    have K3 := KK.out.join hS
    dsimp only [List.nil_append, List.cons_append] at K3
    clear KK hS c0 c1 c2 c3 hg0
    obtain ⟨A3, d3, rfl, hr3, hc3⟩ := own_form (K3.owns (List.Mem.head _))
    obtain ⟨A2, d2, rfl, hr2, hc2⟩ := own_form (K3.owns (List.Mem.tail _ (List.Mem.head _)))
    have hcv1 := str_of d2 hr2
    have hcv2 := str_of d3 hr3
    generalize strOfNums B = sB at hcv1 hcv2
    have KK := hide K3.toExt
    clear K3 hr3 hr2
    go_wp2_with fail
    (with_reducible refine (tshown_any _ (HL.out.ext KK.out)).mono ?_)
    rintro e w4 ⟨rfl, hx4⟩
    go_wp2_with fail
    go_ret
    exact ⟨rfl, KK.out.trans hx4⟩
end Go.Proofs.YtamlngdjbmndlaaDoor
