/- Hmac: the law HmacAccepts walked. -/
import Derived.Deep.CutBlock
import Derived.Test.YtoinnkjifmlbiaaDoorL2
namespace Go.Proofs.YtoinnkjifmlbiaaDoor
open Go.RowKit Go.Gr
set_option linter.unusedVariables false
set_option linter.unusedSimpArgs false
set_option linter.unnecessarySimpa false
attribute [local go_sem] rdOp rdAt rdUpon Cls forall_fr
theorem changeA {w : World} {v : Value} (h : ∃ cs, v = .agg cs ∧ Lvs Tryd.prog w [.int .u8, .int .u8] cs.toList) : ∃ a b : Int, v = .agg #[.int .u8 a, .int .u8 b] ∧ (0 ≤ a ∧ a < 256) ∧ (0 ≤ b ∧ b < 256) := by
  obtain ⟨⟨cs⟩, rfl, h0⟩ := h
  obtain ⟨_, _, hc, ⟨a, rfl, ha⟩, h1⟩ := h0.cons
  obtain ⟨_, _, rfl, ⟨b, rfl, hb⟩, h2⟩ := h1.cons
  obtain rfl := h2.nil_
  simp only at hc
  exact ⟨a, b, by rw [hc], wf_u8 ha, wf_u8 hb⟩
theorem sep_one {w wx : World} {A B : As} {L : List As} (K : Sep No w wx (A :: L)) (hp : A.p wx → B.p wx) (hf : ∀ i, B.fp i → A.fp i) : Sep No w wx [B] :=
  (K.weak [] (B := B) hp hf).sub (List.cons_sublist_cons.2 (List.nil_sublist _))
theorem sep_own {w wx : World} {A : Option Addr} {n c : Nat} {e : TypeId} {xs : List Value} {L : List As} (K : Sep No w wx (As.own e (.slice A n c) xs :: L)) : Sep No w wx [As.rd A xs] :=
  sep_one K own_rdn (fun i h => by obtain ⟨_, ad, rfl, rfl⟩ := h; rfl)
theorem sep_take {w wx : World} {A : Option Addr} {xs : List Value} {L : List As} (K : Sep No w wx (As.rd A xs :: L)) (n : Nat) : Sep No w wx [As.rd A (xs.take n)] :=
  sep_one K (fun h => h.take_ n) (fun i h => by
    obtain ⟨h0, h1⟩ := h
    exact ⟨fun e => h0 (by rw [e, List.take_nil]), h1⟩)
theorem sep_blk {w wx : World} {g : Nat} {e : TypeId} {cs : List Value} {L : List As} (K : Sep No w wx (As.blk g e cs :: L)) : Sep No w wx [As.rd (some ⟨g, 0, none⟩) cs] :=
  sep_one K (fun h => Blk.rd h) (fun i h => by obtain ⟨_, ad, e, rfl⟩ := h; cases e; rfl)
theorem flip_bit (x : Int) (n : Nat) (hx : 0 ≤ x ∧ x < 256) (hn : n < 8) : (0 ≤ bits .xor .u8 x (2 ^ n % 256) ∧ bits .xor .u8 x (2 ^ n % 256) < 256) ∧ bits .xor .u8 x (2 ^ n % 256) ≠ x := by
  have h2 : (2 : Int) ^ n % 256 = ((2 ^ n : Nat) : Int) := by
    rcases (show n = 0 ∨ n = 1 ∨ n = 2 ∨ n = 3 ∨ n = 4 ∨ n = 5 ∨ n = 6 ∨ n = 7 by omega) with rfl | rfl | rfl | rfl | rfl | rfl | rfl | rfl <;> rfl
  have hl : 2 ^ n < 256 := by
    rcases (show n = 0 ∨ n = 1 ∨ n = 2 ∨ n = 3 ∨ n = 4 ∨ n = 5 ∨ n = 6 ∨ n = 7 by omega) with rfl | rfl | rfl | rfl | rfl | rfl | rfl | rfl <;> decide
  rw [h2, u8_xor x _ hx.1 hx.2 (by omega) (by omega)]
  obtain ⟨a, rfl⟩ := Int.eq_ofNat_of_zero_le hx.1
  simp only [Int.toNat_natCast]
  have hb : a ^^^ 2 ^ n < 2 ^ 8 := Nat.xor_lt_two_pow (by omega) (by omega)
  refine ⟨⟨by omega, by omega⟩, fun e => ?_⟩
  have e2 : a ^^^ 2 ^ n = a := by omega
  have e3 : 2 ^ n = 0 := by
    have := congrArg (fun z => a ^^^ z) e2
    simpa [← Nat.xor_assoc] using this
  have : 0 < 2 ^ n := Nat.two_pow_pos n
  omega
def OutAs (l ik m t : List Int) : Prop := outB l (ik ++ m) = t
set_option maxRecDepth 100000 in
set_option maxHeartbeats 2000000 in
theorem accepts_law (w : World) (hl : Laid w) (v0 : Value) (h0 : LfOk Tryd.prog w (.slice 5) v0) (v1 : Value) (h1 : LfOk Tryd.prog w (.slice 5) v1) (v2 : Value) (h2 : ∃ cs, v2 = .agg cs ∧ Lvs Tryd.prog w [.int .u8, .int .u8] cs.toList) : Calls Tryd.prog 9 #[v0, v1, v2] w fun e w' => e = .returned (.bool true) ∧ Ext w w' := by
  obtain ⟨A, l, c, rfl, hr, hb, hc, hm⟩ := bytes_arg h0
  obtain ⟨B, m, cb, rfl, hrb, hbb, hcb, hmb⟩ := bytes_arg h1
  obtain ⟨wh, bi, rfl, hwh, hbi⟩ := changeA h2
  obtain ⟨i0, hi, hz0, hz1, hz2⟩ := info_parts info8
  have HL := hide hl
  have HR := hide hr
  have HB := hide hb
  have HRB := hide hrb
  have HBB := hide hbb
  have HWH := hide hwh
  have HBI := hide hbi
  clear hl hr hb h0 h1 h2 hrb hbb hwh hbi
  by_cases hs : l.length ≤ 300 ∧ m.length ≤ 300
  · obtain ⟨s1, s2⟩ := hs
    have d1 : ¬ (300 : Int) < (l.length : Int) := by omega
    have d2 : ¬ (300 : Int) < (m.length : Int) := by omega
    obtain ⟨t, HT⟩ : ∃ t, Hid (tagB l m = t) := ⟨_, hide rfl⟩
    have HTL : Hid ((byt t).length = 32) := hide (by rw [byt_length, ← HT.out, tagB_len])
    have HTN : Hid (t.length = 32) := hide (by rw [← HT.out, tagB_len])
    have HTB : Hid (isB t) := hide (by rw [← HT.out]; exact tagB_isB l m)
    have HTK : TagAs l m t := fun l' h => by rw [tagB_key h, HT.out]
    have hp0 := Blk.new w 45 [.int .u8 wh, .int .u8 bi]
    have H0 := (Sep.refl No w).newB ((Ext.refl w).alloc _) hp0 (Nat.le_refl _)
    clear HT hp0
    have H1 := hide (fun (x : World) (h : Ext w x) => htag_any l m A c B cb x (HL.out.ext h) (HR.out.ext h) HB.out hc (by omega) (HRB.out.ext h) HBB.out hcb (by omega))
    rw [HTK l rfl] at H1
    go_enter Tryd.func9, Tryd.ntmps9
    go_wp2_with fail
    (with_reducible refine (H1.out _ H0.toExt).mono ?_)
    rintro e w1 ⟨rfl, hx1⟩
    have K1 := H0.ext hx1
    clear hx1 H1 H0
    have tok1 : True := trivial
    have tok2 : True := trivial
    go_upto_region 4 with (first
      | (have zz := tok1; clear zz tok1; refine wpList_alS K1 rfl 26 rfl (Z8 32) (by kernel_rfl) ?_; intro w2 _ K2; clear K1)
      | (have zz := tok2; clear zz tok2; refine wpList_stS [] K2 rfl 26 (.tmp 7) (.tmp 23) rfl rfl (cs := byt t) rfl (by rw [HTL.out]; kernel_rfl) (by rw [HTL.out]; rfl) (byt_one _) ?_; intro w3 K3; dsimp only [List.nil_append] at K3; clear K2))
    obtain ⟨g1, G1⟩ : ∃ g, w1.heap.size = g := ⟨_, rfl⟩
    rw [G1] at K3 ⊢
    have hg1 := (K3.blk (g := g1) (e := 26) (cs := byt t) (List.Mem.head _)).lt
    have K4 := Sep.toOwn [] (K3.newB ((Ext.refl w3).alloc (.cells #[] 5)) (Blk.new w3 5 []) (Nat.le_refl _)) (by simp)
    dsimp only [List.nil_append, List.length_nil] at K4
    clear K3
    have tok3 : True := trivial
    go_upto_region 6 with (have zz := tok3; clear zz tok3; with_reducible refine wpList_apS [] K4 rfl (.tmp 24) (.tmp 25) 22 rfl i0 (.int .u8 0) 1 Tryd.underlying22 hi hz0 hz1 hz2 rfl rfl (A := some ⟨g1, 0, none⟩) (m := 32) (c := 32) (news := byt t) rfl (by rw [byt_length]; exact HTN.out.symm) ((K4.blk (g := g1) (e := 26) (cs := byt t) (List.Mem.tail _ (List.Mem.head _))).rd) (byt_one _) (by rw [HTL.out]; decide) (by omega) ?_; intro v w5 K5; dsimp only [List.nil_append] at K5; have K5' := hide K5; clear K5 K4)
    obtain ⟨Av, cv, rfl, hrv, hlv⟩ := own_form (K5'.out.owns (List.Mem.head _))
    rw [HTN.out] at hlv K5' ⊢
    have HRV := hide hrv
    clear hrv
    have hb2 := K5'.out.blk (g := w.heap.size) (e := 45) (cs := [.int .u8 wh, .int .u8 bi]) (List.Mem.tail _ (List.Mem.tail _ (List.Mem.head _)))
    have cw0 : w5.cell? ⟨w.heap.size, 0, none⟩ = some (.int .u8 wh) := hb2.cell 0
    have cw1 : w5.cell? ⟨w.heap.size, 1, none⟩ = some (.int .u8 bi) := hb2.cell 1
    have hww : w.heap.size < w5.heap.size := hb2.lt
    have hwh := HWH.out
    have hbi := HBI.out
    obtain ⟨r, HRr⟩ : ∃ r, wh.tmod 4 = r := ⟨_, rfl⟩
    have hr4 : r = 0 ∨ r = 1 ∨ r = 2 ∨ r = 3 := by rw [← HRr, Int.tmod_eq_emod_of_nonneg hwh.1]; omega
    obtain ⟨q, hq⟩ : ∃ q : Nat, bi.tdiv 8 = q := ⟨(bi / 8).toNat, by rw [Int.tdiv_eq_ediv_of_nonneg hbi.1]; omega⟩
    obtain ⟨n8, hn8⟩ : ∃ n : Nat, bi.tmod 8 = n := ⟨(bi % 8).toNat, by rw [Int.tmod_eq_emod_of_nonneg hbi.1]; omega⟩
    obtain ⟨n32, hn32⟩ : ∃ n : Nat, bi.tmod 32 = n := ⟨(bi % 32).toNat, by rw [Int.tmod_eq_emod_of_nonneg hbi.1]; omega⟩
    have hq32 : q < 32 := by rw [Int.tdiv_eq_ediv_of_nonneg hbi.1] at hq; omega
    have hn8' : n8 < 8 := by rw [Int.tmod_eq_emod_of_nonneg hbi.1] at hn8; omega
    have hn32' : n32 < 32 := by rw [Int.tmod_eq_emod_of_nonneg hbi.1] at hn32; omega
    clear hwh hbi hb2
    go_upto_block 0 with fail
    go_cut [8, 9] (fun v8 v9 wx => ∃ (tag : List Int) (C : Option Addr) (cc : Nat), v8 = .slice C tag.length cc ∧ v9 = .int .i64 (sameE t tag) ∧ isB tag ∧ tag.length ≤ 33 ∧ Hid (Sep No w wx [As.rd C (byt tag)]))
    case first =>
      rcases hr4 with rfl | rfl | rfl | rfl
      · go_wp2_with fail
        go_meet
        case rel => exact ⟨t, Av, cv, by rw [HTN.out], by unfold sameE; rw [if_pos rfl], HTB.out, by rw [HTN.out]; decide, hide (sep_own K5'.out)⟩
      · obtain ⟨gt, cap, cur, hv, hcap, hcl, hct, K6⟩ := Sep.ownBlk [] K5'.out (by rw [HTL.out]; decide)
        dsimp only [List.nil_append] at K6
        rw [HTL.out] at hv hcap hct
        cases hv
        have hqt : q < t.length := by rw [HTN.out]; exact hq32
        have hcq : cur[q]? = some (.int .u8 t[q]) := by
          have : (cur.take 32)[q]? = (byt t)[q]? := by rw [hct]
          rw [List.getElem?_take, if_pos hq32] at this
          rw [this, byt, List.getElem?_map, List.getElem?_eq_getElem hqt, Option.map_some]
        have hgt := (K6.blk (g := gt) (e := 5) (cs := cur) (List.Mem.head _)).lt
        go_upto_region 11 with fail
        refine wp_region_wtR (RT.fr No) 16 [0, 1, 2, 3, 4, 5, 6, 7, 8, 9, 10, 11, 12, 13, 14, 15] (by kernel_rfl) (by kernel_rfl) (by kernel_rfl) ?_
        have K7 := K6.drew
        clear K6 cw0 cw1 K5'
        generalize w5.drew = wd at *
        have cw1 := ((K7.blk (g := w.heap.size) (e := 45) (cs := [.int .u8 wh, .int .u8 bi]) (List.Mem.tail _ (List.Mem.tail _ (List.Mem.head _)))).cell 1).trans rfl
        have cq := ((K7.blk (g := gt) (e := 5) (cs := cur) (List.Mem.head _)).cell q).trans hcq
        have fq := (K7.blk (g := gt) (e := 5) (cs := cur) (List.Mem.head _)).free q
        obtain ⟨x, HX⟩ : ∃ x, Hid (t[q] = x) := ⟨_, hide rfl⟩
        rw [HX.out] at cq
        have hq32i : (q : Int) < 32 := by omega
        have hwq : IntKind.u8.wrap (q : Int) = q := IntWalk.u8_in _ (by omega)
        have hwn : IntKind.u8.wrap (n8 : Int) = n8 := IntWalk.u8_in _ (by omega)
        have htq : (q : Int).toNat = q := Int.toNat_natCast q
        iterate 2 (refine wr_rd rfl rfl (fun K hK => ?_); go_simp; refine hK _ ?_; clear hK K)
        refine wr_ld1 rfl rfl 5 (.tmp 40) rfl rfl (fun w' h => Fr.cell h cw1 (fun h => h)) _ Tryd.underlying5 rfl ?_
        iterate 3 (refine wr_rd rfl rfl (fun K hK => ?_); go_simp; refine hK _ ?_; clear hK K)
        refine wr_ld1 rfl rfl 5 (.tmp 44) rfl rfl (fun w' h => Fr.cell h cw1 (fun h => h)) _ Tryd.underlying5 rfl ?_
        iterate 2 (refine wr_rd rfl rfl (fun K hK => ?_); go_simp; refine hK _ ?_; clear hK K)
        refine wr_ld1 rfl rfl 5 (.tmp 47) rfl rfl (fun w' h => Fr.cell h cq (fun h => h)) _ Tryd.underlying5 rfl ?_
        iterate 1 (refine wr_rd rfl rfl (fun K hK => ?_); go_simp; refine hK _ ?_; clear hK K)
        refine wr_ld1 rfl rfl 5 (.tmp 49) rfl rfl (fun w' h => Fr.cell h cw1 (fun h => h)) _ Tryd.underlying5 rfl ?_
        iterate 4 (refine wr_rd rfl rfl (fun K hK => ?_); go_simp; refine hK _ ?_; clear hK K)
        refine wr_nil ?_
        simp only [List.drop_succ_cons, List.drop_zero]
        clear cw1
        obtain ⟨y, HYy⟩ : ∃ y, Hid (bits .xor .u8 x (2 ^ n8 % 256) = y) := ⟨_, hide rfl⟩
        have HXB : 0 ≤ x ∧ x < 256 := by rw [← HX.out]; exact HTB.out _ (List.getElem_mem _)
        have HY2 : Hid ((0 ≤ y ∧ y < 256) ∧ y ≠ x) := hide (by rw [← HYy.out]; exact flip_bit x n8 HXB hn8')
        have K8 := hide (Sep.cell (L1 := []) K7 q (.int .u8 y))
        clear K7 HXB
        go_wp2_with fail
        refine NoPanic.normal ?_
        rw [HYy.out]
        go_wp2_with fail
        go_meet
        case rel =>
          refine ⟨t.set q y, some ⟨gt, 0, none⟩, cv, by rw [List.length_set, HTN.out], ?_, ?_, by rw [List.length_set, HTN.out]; decide, hide ?_⟩
          · unfold sameE
            rw [if_neg (fun e => by
              have h : t[q]? = (t.set q y)[q]? := by rw [← e]
              rw [List.getElem?_set_self (by rw [HTN.out]; exact hq32), List.getElem?_eq_getElem (by rw [HTN.out]; exact hq32)] at h
              exact HY2.out.2 ((Option.some.inj h).symm.trans HX.out))]
          · intro z hz
            rcases List.mem_or_eq_of_mem_set hz with hz | rfl
            · exact HTB.out z hz
            · exact HY2.out.1
          · have h := sep_take (sep_blk K8.out) 32
            rw [List.take_set, hct, byt_set] at h
            exact h
      · have hlt : (n32 : Int) < 32 := by omega
        go_wp2_with fail
        go_meet
        case rel => exact ⟨t.take n32, Av, cv, by rw [List.length_take, HTN.out, Nat.min_eq_left (by omega)], by unfold sameE; rw [if_neg (fun e => by have := congrArg List.length e; rw [List.length_take, HTN.out] at this; omega)], fun x hx => HTB.out x (List.mem_of_mem_take hx), by rw [List.length_take]; omega, by unfold byt; rw [List.map_take]; exact hide (sep_take (sep_own K5'.out) n32)⟩
      · have tok6 : True := trivial
        have HLE : Hid ((byt t).length < 1000000000) := hide (by rw [HTL.out]; decide)
        go_wp2_with (have zz := tok6; clear zz tok6; refine wpList_pushS [] K5'.out rfl (.tmp 30) (.tmp 33) 22 rfl i0 (.int .u8 0) 1 Tryd.underlying22 hi hz0 hz1 hz2 rfl rfl rfl rfl HLE.out (by omega) ?_; intro v6 w6 K6; dsimp only [List.nil_append] at K6; have K6' := hide K6; clear K6)
        go_meet
        case rel =>
          obtain ⟨Au, cu, rfl, hru, hlu⟩ := own_form (l := t ++ [bi]) (by rw [byt_append]; exact K6'.out.owns (List.Mem.head _))
          exact ⟨t ++ [bi], Au, cu, rfl, by unfold sameE; rw [if_neg (fun e => by have := congrArg List.length e; simp at this)], isB_append HTB.out (fun x hx => by rw [List.mem_singleton.1 hx]; exact HBI.out), by rw [List.length_append, HTN.out]; exact Nat.le_refl _, hide (by rw [byt_append]; exact sep_own K6'.out)⟩
    case rest =>
      obtain ⟨tag, C, cc, rfl, rfl, htb, htl, hK⟩ := hcut
      obtain ⟨s, HS⟩ : ∃ s, Hid (sameE t tag = s) := ⟨_, hide rfl⟩
      rw [HS.out]
      clear cw0 cw1 hww K5' HRV HRr hr4 hq hn8 hn32 hq32 hn8' hn32'
      have K := hK.out
      have HTG := hide htb
      have h2w := HL.out.two
      have hPO : Hid (0 < m.length → ∀ ad, B = some ad → ad.block < w.heap.size) := hide (fun h => rd_before HRB.out (by rw [byt_length]; exact h))
      clear htb hK
      go_wp2_with fail
      (with_reducible refine (mnew_any l A c _ (HL.out.ext K.toExt) (K.rdN HR.out) HB.out hc (by omega)).mono ?_)
      rintro e w7 ⟨g, gh, v, rfl, H2'⟩
      have H2 := K.join H2'
      dsimp only [List.nil_append, List.cons_append] at H2
      clear K H2'
      obtain ⟨ik, HIK⟩ : ∃ ik, Hid (xorB 54 (keyB l) = ik) := ⟨_, hide rfl⟩
      have HIL : Hid (ik.length = 64) := hide (by rw [← HIK.out, ik_len])
      have HT2 : TagAs l m t ∧ xorB 54 (keyB l) = ik := ⟨HTK, HIK.out⟩
      have HO : OutAs l ik m t := by show outB l (ik ++ m) = t; rw [← HIK.out]; exact HTK l rfl
      rw [HIK.out] at H2
      clear HIK HT2
      go_wp2_with fail
      obtain ⟨Av, cv, rfl, hrv, hlv, hmv, hhv, hgv⟩ := mac_parts H2
      have HNE : Hid (0 < m.length → ∀ ad, B = some ad → ad.block ≠ gh) := hide (fun h ad e => by have := hPO.out h ad e; omega)
      have h2g : 2 ≤ gh := by omega
      (with_reducible refine (mwrite_any g gh _ ik m B cb _ (HL.out.ext H2.toExt) h2g hmv hhv (H2.rdN HRB.out) HNE.out HBB.out hcb (by have := HIL.out; omega)).mono ?_)
      rintro e w8 ⟨rfl, hh3, hu3⟩
      have H3 := sep_write (L1 := [_]) H2 hh3 hu3
      dsimp only [List.nil_append, List.cons_append] at H3
      clear hh3 hu3 H2 hrv hmv hhv HNE hlv
      have hV := hverify_any l m tag A c B cb C cc w8 (HL.out.ext H3.toExt) (H3.rdN HR.out) HB.out hc (by omega) (H3.rdN HRB.out) HBB.out hcb (by omega) (H3.get (A := As.rd C (byt tag)) (List.Mem.tail _ (List.Mem.tail _ (List.Mem.tail _ (List.Mem.head _))))) HTG.out (by omega)
      rw [HTK l rfl] at hV
      have HV := hide hV
      clear hV
      rw [HS.out] at HV
      go_wp2_with fail
      (with_reducible refine HV.out.mono ?_)
      rintro e w9 ⟨rfl, hx9⟩
      have H4 := H3.ext hx9
      clear H3 hx9 HV
      obtain ⟨Aw, cw, ew, hrv, hlv, hmv, hhv, _⟩ := mac_parts H4
      have hM := mverify_any g gh l (ik ++ m) tag Aw cw C cc _ (HL.out.ext H4.toExt) hmv hhv hrv HB.out hlv (by omega) (by have := HIL.out; rw [List.length_append]; omega) (H4.get (A := As.rd C (byt tag)) (List.Mem.tail _ (List.Mem.tail _ (List.Mem.tail _ (List.Mem.head _))))) HTG.out (by omega)
      rw [show outB l (ik ++ m) = t from HO] at hM
      rw [HS.out] at hM
      have HM := hide hM
      have HX := hide H4.toExt
      clear hM hrv hmv hhv hlv ew H4 HO HTK HS HIL HTG HTB HTL HTN hPO
      go_wp2_with fail
      (with_reducible refine HM.out.mono ?_)
      rintro e wa ⟨rfl, hxa⟩
      have HXa := hide (HX.out.trans hxa)
      clear hxa HM
      go_wp2_with fail
      (with_reducible refine (shown_any wa (HL.out.ext HXa.out)).mono ?_)
      rintro e wb ⟨rfl, hxb⟩
      go_wp2_with fail
      go_ret
      exact ⟨rfl, HXa.out.trans hxb⟩
  · have HS := hide (shown_any w HL.out)
    by_cases s1 : 300 < l.length
    · have d1 : (300 : Int) < (l.length : Int) := by omega
      clear hs
      go_enter Tryd.func9, Tryd.ntmps9
      go_wp2_with fail
      (with_reducible refine (shown_any _ (HL.out.ext ((Ext.refl w).alloc _))).mono ?_)
      rintro e w1 ⟨rfl, hx⟩
      go_wp2_with fail
      go_ret
      exact ⟨rfl, ((Ext.refl w).alloc _).trans hx⟩
    · have d1 : ¬ (300 : Int) < (l.length : Int) := by omega
      have d2 : (300 : Int) < (m.length : Int) := by omega
      clear hs
      go_enter Tryd.func9, Tryd.ntmps9
      go_wp2_with fail
      (with_reducible refine (shown_any _ (HL.out.ext ((Ext.refl w).alloc _))).mono ?_)
      rintro e w1 ⟨rfl, hx⟩
      go_wp2_with fail
      go_ret
      exact ⟨rfl, ((Ext.refl w).alloc _).trans hx⟩
end Go.Proofs.YtoinnkjifmlbiaaDoor
