/- Tickets: the law TicketsNewest walked. -/
import Derived.Test.YtamlngdjbmndlaaDoorTT3
import Derived.Test.YtamlngdjbmndlaaDoorN5
import Derived.Test.YtamlngdjbmndlaaDoorN4
import Derived.Test.YtamlngdjbmndlaaDoorGa
import Derived.Laws.Small
namespace Go.Proofs.YtamlngdjbmndlaaDoor
open Go.RowKit Go.Gr
set_option linter.unusedVariables false
set_option linter.unusedSimpArgs false
attribute [local go_sem] rdOp rdAt rdUpon Cls forall_fr
set_option maxRecDepth 100000 in
set_option maxHeartbeats 8000000 in
theorem newest_law (w : World) (hl : Laid w) (v0 : Value) (h0 : LfOk Tryd.prog w (.slice 5) v0) (v1 : Value) (h1 : LfOk Tryd.prog w (.slice 47) v1) (many : Bool) : Calls Tryd.prog 7 #[v0, v1, .bool many] w fun e w' => e = .returned (.bool true) ∧ Ext w w' := by
  obtain ⟨i0, hi, hz0, hz1, hz2⟩ := info_parts info8
  obtain ⟨j0, ji, jz0, jz1, jz2⟩ := info_parts infoBB
  obtain ⟨A, key, c, rfl, hr, hb, hc, hm⟩ := bytes_arg h0
  obtain ⟨D, l, d, rfl, hrl, hok, hld, hdm⟩ := kindsA h1
  clear h0 h1
  have HL := hide hl
  have HR := hide hr
  have HB := hide hb
  have HRL := hide hrl
  have HOK := hide hok
  by_cases hk1 : 64 < key.length
  · have d1 : (64 : Int) < (key.length : Int) := by omega
    clear hl hr hb hk1 hrl hok
    go_enter Tryd.func7, Tryd.ntmps7
    go_wp2_with fail
    (with_reducible refine (tshown_any _ HL.out).mono ?_)
    rintro e w1 ⟨rfl, hx⟩
    go_wp2_with fail
    go_ret
    exact ⟨rfl, hx⟩
  have d1 : ¬ (64 : Int) < (key.length : Int) := by omega
  by_cases hk2 : 30 < l.length
  · have d2 : (30 : Int) < (l.length : Int) := by omega
    clear hl hr hb hk1 hk2 hrl hok
    go_enter Tryd.func7, Tryd.ntmps7
    go_wp2_with fail
    (with_reducible refine (tshown_any _ HL.out).mono ?_)
    rintro e w1 ⟨rfl, hx⟩
    go_wp2_with fail
    go_ret
    exact ⟨rfl, hx⟩
  have d2 : ¬ (30 : Int) < (l.length : Int) := by omega
  have HK64 : Hid (key.length ≤ 64) := hide (by omega)
  have HL30 : Hid (l.length ≤ 30) := hide (by omega)
  clear hl hr hb hk1 hk2 hrl hok hdm hm
  have HLD := hide hld
  have HCC := hide hc
  clear hld hc
  go_enter Tryd.func7, Tryd.ntmps7
  go_upto_if 31 with fail
  go_cut [7] (fun v7 wx => ∃ (vs : List Value) (bs : List (List Int)), Hid (bs.length ≤ 201 ∧ RelB vs bs []) ∧ Hid (Sep No w wx [As.own 26 v7 vs, blobsA []]))
  case first =>
    have KE : Sep No w w [blobsA []] := (Sep.refl No w).new (B := blobsA []) (Ext.refl w) (fun j u hu => by cases hu) (fun i hi => absurd rfl hi.1)
    cases many
    · have K1 := hide (KE.nilO 26)
      clear KE
      go_wp2_with fail
      go_meet
      case rel => exact ⟨[], [], hide ⟨by decide, relB_nil⟩, K1⟩
    · have tok1 : True := trivial
      go_wp2_with (have zz := tok1; clear zz tok1; refine wpList_mkG KE rfl _ _ 45 rfl 26 j0 (.slice none 0 0) 24 Tryd.underlying45 ji jz0 jz1 jz2 rfl (C := 201) rfl rfl (by decide) (by decide) ?_; intro w1 H1; have K1 := hide (Sep.toOwn [] H1 (by simp)); clear H1 KE)
      go_meet
      case rel => exact ⟨_, _, hide ⟨by simp, relB_many 201⟩, by have := K1; rw [List.length_replicate] at this; exact this⟩
  case rest =>
    obtain ⟨vs0, bs0, HRB0, HK0⟩ := hcut
    go_wp2_with fail
    go_loopw [7, 8] (fun v7 v8 wr => ∃ (k : Nat) (vs : List Value) (bs : List (List Int)) (ps : List (Option Addr × List Int)), v8 = .int .i64 k ∧ k ≤ l.length ∧ Hid (bs.length ≤ 201 + k ∧ RelB vs bs ps) ∧ Hid (Sep No w wr [As.own 26 v7 vs, blobsA ps])) (fun _ v8 _ => l.length - (intOf v8).toNat)
    case atStart => exact ⟨0, vs0, bs0, [], rfl, by omega, HRB0, HK0⟩
    case round =>
      clear HRB0 HK0
      obtain ⟨k, vs, bs, ps, rfl, hkl, HRB, HK⟩ := hrel
      by_cases e1 : k < l.length
      · have e2 : (k : Int) < (l.length : Int) := by omega
        obtain ⟨x, hx⟩ : ∃ x, l[k]? = some x := ⟨_, List.getElem?_eq_getElem e1⟩
        have hxo := HOK.out x (List.mem_of_getElem? hx)
        obtain ⟨bb, off, hD, -⟩ := kind_at (HRL.out.ext HK.out.toExt) hx
        subst hD
        have HKA := hide (fun (y : World) (h : Ext w y) => (by obtain ⟨bb', off', e, h1, h2, h3, h4⟩ := kind_at (HRL.out.ext h) hx; cases e; exact ⟨h1, h2, h3, h4⟩ : Go.Gr.At5 y bb (off + k * 6) (tkc x.s x.o x.n x.e) ∧ y.cell? ⟨bb, off + k * 6 + 4, none⟩ = some (.int .u8 x.wh) ∧ y.cell? ⟨bb, off + k * 6 + 5, none⟩ = some (.int .u8 x.pos) ∧ bb < y.heap.size))
        clear hx
        obtain ⟨s1, o1, n1, e1', wh, pos⟩ := x
        obtain ⟨ht, ⟨hw0, hw1⟩, ⟨hp0, hp1⟩⟩ := hxo
        dsimp only at ht hw0 hw1 hp0 hp1 HKA
        have HT := hide ht
        have HVL : Hid (vs.length ≤ 300) := hide (by have := HRB.out.1; have := HRB.out.2.1; have := HL30.out; omega)
        obtain ⟨m, hm, hm4⟩ := mod4 ⟨hw0, hw1⟩
        have HIS := hide (fun (k' : List Int) (A' : Option Addr) (c' : Nat) (y : World) (h1 : Rd y A' (byt k')) (h2 : isB k') (h3 : k'.length ≤ c') (h4 : k'.length ≤ 100000) => rtissue_any k' A' c' s1 o1 n1 e1' y h1 h2 h3 h4 HT.out)
        have HBF := hide (fun (k' : List Int) => issT_facts k' s1 o1 n1 e1')
        clear ht
        go_upto_block 1 with fail
        go_cut [7] (fun v7 wx => ∃ (vs' : List Value) (bs' : List (List Int)) (ps' : List (Option Addr × List Int)), Hid (bs'.length ≤ 201 + (k + 1) ∧ RelB vs' bs' ps') ∧ Hid (Sep No w wx [As.own 26 v7 vs', blobsA ps']))
        case first =>
          rcases hm4 with rfl | rfl | rfl | rfl
          · as_aux_lemma =>
              obtain ⟨hat, cw, ca, hlb⟩ := HKA.out _ HK.out.toExt
              have tok1 : True := trivial
              have HIX := hide (HIS.out key A c _ (HR.out.ext HK.out.toExt) HB.out HCC.out (by have := HK64.out; omega))
              obtain ⟨hbB, hbL⟩ := HBF.out key
              have HK' := HK
              clear HK
              go_upto_region 12 with fail
              go_wp2_with (have zz := tok1; clear zz tok1; with_reducible refine wpList_ldX rfl 25 (.tmp 57) rfl hat rfl _ Tryd.underlying25 rfl (by kernel_rfl) ?_)
              (with_reducible refine HIX.out.mono ?_)
              rintro e w2 ⟨v10, rfl, hS⟩
              have K2 := HK'.out.join hS
              dsimp only [List.nil_append, List.cons_append] at K2
              clear HK' hS HIX hat cw ca hlb
              generalize issTB key s1 o1 n1 e1' = b at *
              generalize issTE key s1 n1 = ee at *
              obtain ⟨A10, c10, rfl, hc10, K3⟩ := own_rd [] K2
              dsimp only [List.nil_append] at K3
              clear K2
              obtain ⟨-, cw, ca, hlb⟩ := HKA.out _ K3.toExt
              have tok1 : True := trivial
              go_upto_region 17 with fail
              go_wp2_with (have zz := tok1; clear zz tok1; with_reducible refine wpList_pushS [_] K3 rfl (.tmp 116) (.tmp 118) 45 rfl j0 (.slice none 0 0) 24 Tryd.underlying45 ji jz0 jz1 jz2 rfl rfl rfl rfl (by have := HVL.out; omega) (by decide) ?_; intro v7' w8 K8; dsimp only [List.nil_append, List.cons_append] at K8; clear K3)
              have K9 := hide (sep_blob (K8.perm (List.Perm.cons _ (List.Perm.swap _ _ _)))).swap
              clear K8
              go_meet
              case rel => exact ⟨_, _, _, hide ⟨by have := HRB.out.1; rw [List.length_append, List.length_singleton]; omega, relB_push HRB.out.2 hbB (by omega) (Nat.le_refl _) hc10⟩, K9⟩
          · as_aux_lemma =>
              obtain ⟨hat, cw, ca, hlb⟩ := HKA.out _ HK.out.toExt
              have tok1 : True := trivial
              have HIX := hide (HIS.out key A c _ (HR.out.ext HK.out.toExt) HB.out HCC.out (by have := HK64.out; omega))
              obtain ⟨hbB, hbL⟩ := HBF.out key
              have HK' := HK
              clear HK
              go_upto_region 12 with fail
              go_wp2_with (have zz := tok1; clear zz tok1; with_reducible refine wpList_ldX rfl 25 (.tmp 57) rfl hat rfl _ Tryd.underlying25 rfl (by kernel_rfl) ?_)
              (with_reducible refine HIX.out.mono ?_)
              rintro e w2 ⟨v10, rfl, hS⟩
              have K2 := HK'.out.join hS
              dsimp only [List.nil_append, List.cons_append] at K2
              clear HK' hS HIX hat cw ca hlb
              generalize issTB key s1 o1 n1 e1' = b at *
              generalize issTE key s1 n1 = ee at *
              rcases hbL with hb0 | hb56
              ·
                obtain rfl : b = [] := List.length_eq_zero_iff.1 hb0
                obtain ⟨A10, c10, rfl, hc10, K3⟩ := own_rd [] K2
                dsimp only [List.nil_append, List.length_nil] at K3 ⊢
                clear K2
                obtain ⟨-, cw, ca, hlb⟩ := HKA.out _ K3.toExt
                have tok1 : True := trivial
                go_upto_region 17 with fail
                go_wp2_with (have zz := tok1; clear zz tok1; with_reducible refine wpList_pushS [_] K3 rfl (.tmp 116) (.tmp 118) 45 rfl j0 (.slice none 0 0) 24 Tryd.underlying45 ji jz0 jz1 jz2 rfl rfl rfl rfl (by have := HVL.out; omega) (by decide) ?_; intro v7' w8 K8; dsimp only [List.nil_append, List.cons_append] at K8; clear K3)
                have K9 := hide (sep_blob (K8.perm (List.Perm.cons _ (List.Perm.swap _ _ _)))).swap
                clear K8
                go_meet
                case rel => exact ⟨_, _, _, hide ⟨by have := HRB.out.1; rw [List.length_append, List.length_singleton]; omega, relB_push HRB.out.2 hbB (by decide) (Nat.zero_le _) (Nat.zero_le _)⟩, K9⟩
              ·
                obtain ⟨A10, c10, rfl, hr10, hc10⟩ := own_form (K2.owns (List.Mem.head _))
                clear hr10
                rw [hb56] at hc10 K2 ⊢
                obtain ⟨q, hq⟩ : ∃ q : Nat, pos.tmod 56 = (q : Int) := ⟨(pos % 56).toNat, by rw [Int.tmod_eq_emod_of_nonneg hp0]; omega⟩
                have hq56 : q < 56 := by rw [Int.tmod_eq_emod_of_nonneg hp0] at hq; omega
                have hq56i : (q : Int) < 56 := by omega
                have hqb : q < b.length := by omega
                have hqB : q < (byt b).length := by rw [byt_length]; exact hqb
                obtain ⟨z, HZ⟩ : ∃ z, Hid (b[q] = z) := ⟨_, hide rfl⟩
                have HZB : Hid ((byt b)[q] = .int .u8 z) := hide (by simp only [byt, List.getElem_map]; rw [HZ.out])
                obtain ⟨g10, hA10, -⟩ := Sep.ownSet [] K2 hqB undef
                subst hA10
                obtain ⟨-, cw, ca, hlb⟩ := HKA.out _ K2.toExt
                have HQB := hide hqB
                have HB56 := hide hb56
                have HQ := hide hqb
                have HC10 := hide hc10
                clear hb56 hc10
                go_upto_region 14 with fail
                refine wp_region_wtR (RT.fr No) 24 [0, 1, 2, 3, 4, 5, 6, 7, 8, 9, 10, 11, 12, 13, 14, 15, 16, 17, 18, 19, 20, 21, 22, 23] (by kernel_rfl) (by kernel_rfl) (by kernel_rfl) ?_
                have KD := K2.drew
                clear K2 cw ca hlb
                generalize World.drew _ = wd at *
                obtain ⟨-, cw, ca, hlb⟩ := HKA.out _ KD.toExt
                have hwp : IntKind.i64.wrap pos = pos := IntWalk.i64_in _ (by omega)
                obtain ⟨y, HY⟩ : ∃ y, Hid (IntKind.u8.wrap (z + 1) = y) := ⟨_, hide rfl⟩
                obtain ⟨g10', hA10, cq, fq, hg10, K8'⟩ := Sep.ownSet [] KD HQB.out (.int .u8 y)
                simp only [Option.some.injEq, Addr.mk.injEq, and_true] at hA10
                subst hA10
                rw [HZB.out] at cq
                have K8 := hide K8'
                clear KD K8'
                iterate 5 (refine wr_rd rfl rfl (fun K hK => ?_); go_simp; refine hK _ ?_; clear hK K)
                refine wr_ld1 rfl rfl 5 (.tmp 78) rfl rfl (fun w' h => Fr.cell h ca (fun h => h)) _ Tryd.underlying5 rfl ?_
                iterate 9 (refine wr_rd rfl rfl (fun K hK => ?_); go_simp; refine hK _ ?_; clear hK K)
                refine wr_ld1 rfl rfl 5 (.tmp 88) rfl rfl (fun w' h => Fr.cell h ca (fun h => h)) _ Tryd.underlying5 rfl ?_
                iterate 5 (refine wr_rd rfl rfl (fun K hK => ?_); go_simp; refine hK _ ?_; clear hK K)
                refine wr_ld1 rfl rfl 5 (.tmp 94) rfl rfl (fun w' h => Fr.cell h cq (fun h => h)) _ Tryd.underlying5 rfl ?_
                iterate 2 (refine wr_rd rfl rfl (fun K hK => ?_); go_simp; refine hK _ ?_; clear hK K)
                refine wr_nil ?_
                simp only [List.drop_succ_cons, List.drop_zero]
                try rw [HY.out]
                go_wp2_with fail
                try rw [HY.out]
                refine NoPanic.normal ?_
                have K9 := K8.out
                dsimp only [List.nil_append] at K9
                rw [byt_set] at K9
                generalize World.setCell _ _ _ = we at K9 ⊢
                clear K8 cw ca hlb cq fq hg10 hwp
                have hyr : 0 ≤ y ∧ y < 256 := by rw [← HY.out]; exact u8_range _
                have hbB' := isB_set hbB q hyr
                have HBL' : Hid ((b.set q y).length = 56) := hide (by rw [List.length_set, HB56.out])
                generalize b.set q y = b' at *
                obtain ⟨A10, c10', hv, hc10, K3⟩ := own_rd [] K9
                rw [HBL'.out] at hv hc10
                simp only [Value.slice.injEq] at hv
                obtain ⟨rfl, -, rfl⟩ := hv
                dsimp only [List.nil_append] at K3
                clear K9
                obtain ⟨-, cw, ca, hlb⟩ := HKA.out _ K3.toExt
                have tok1 : True := trivial
                go_upto_region 17 with fail
                go_wp2_with (have zz := tok1; clear zz tok1; with_reducible refine wpList_pushS [_] K3 rfl (.tmp 116) (.tmp 118) 45 rfl j0 (.slice none 0 0) 24 Tryd.underlying45 ji jz0 jz1 jz2 rfl rfl rfl rfl (by have := HVL.out; omega) (by decide) ?_; intro v7' w8 K8; dsimp only [List.nil_append, List.cons_append] at K8; clear K3)
                have K9 := hide (sep_blob (K8.perm (List.Perm.cons _ (List.Perm.swap _ _ _)))).swap
                clear K8
                go_meet
                case rel => exact ⟨_, _, _, hide ⟨by have := HRB.out.1; rw [List.length_append, List.length_singleton]; omega, relB_push HRB.out.2 hbB' (by have := HBL'.out; omega) (Nat.le_of_eq HBL'.out.symm) hc10⟩, K9⟩
          · as_aux_lemma =>
              obtain ⟨hat, cw, ca, hlb⟩ := HKA.out _ HK.out.toExt
              have tok1 : True := trivial
              have HIX := hide (HIS.out key A c _ (HR.out.ext HK.out.toExt) HB.out HCC.out (by have := HK64.out; omega))
              obtain ⟨hbB, hbL⟩ := HBF.out key
              have HK' := HK
              clear HK
              go_upto_region 12 with fail
              go_wp2_with (have zz := tok1; clear zz tok1; with_reducible refine wpList_ldX rfl 25 (.tmp 57) rfl hat rfl _ Tryd.underlying25 rfl (by kernel_rfl) ?_)
              (with_reducible refine HIX.out.mono ?_)
              rintro e w2 ⟨v10, rfl, hS⟩
              have K2 := HK'.out.join hS
              dsimp only [List.nil_append, List.cons_append] at K2
              clear HK' hS HIX hat cw ca hlb
              generalize issTB key s1 o1 n1 e1' = b at *
              generalize issTE key s1 n1 = ee at *
              obtain ⟨A10, c10, rfl, hc10, K3⟩ := own_rd [] K2
              dsimp only [List.nil_append] at K3
              clear K2
              obtain ⟨-, cw, ca, hlb⟩ := HKA.out _ K3.toExt
              obtain ⟨mm, hmm⟩ : ∃ mm : Nat, min (b.length : Int) pos = (mm : Int) := ⟨(min (b.length : Int) pos).toNat, by omega⟩
              have hml : mm ≤ b.length := by omega
              have hmc : (mm : Int) ≤ (c10 : Int) := by omega
              have HML := hide hml
              have HMC : Hid (mm ≤ c10) := hide (by omega)
              clear hml
              have tok1 : True := trivial
              go_upto_region 17 with fail
              go_wp2_with (have zz := tok1; clear zz tok1; with_reducible refine wpList_pushS [_] K3 rfl (.tmp 116) (.tmp 118) 45 rfl j0 (.slice none 0 0) 24 Tryd.underlying45 ji jz0 jz1 jz2 rfl rfl rfl rfl (by have := HVL.out; omega) (by decide) ?_; intro v7' w8 K8; dsimp only [List.nil_append, List.cons_append] at K8; clear K3)
              have K9 := hide (sep_blob (K8.perm (List.Perm.cons _ (List.Perm.swap _ _ _)))).swap
              clear K8
              go_meet
              case rel => exact ⟨_, _, _, hide ⟨by have := HRB.out.1; rw [List.length_append, List.length_singleton]; omega, relB_push HRB.out.2 hbB (by omega) HML.out HMC.out⟩, K9⟩
          · as_aux_lemma =>
              obtain ⟨hat, cw, ca, hlb⟩ := HKA.out _ HK.out.toExt
              have tok1 : True := trivial
              have K1 := Sep.toOwn [] (HK.out.newB ((Ext.refl wr).alloc (.cells #[] 5)) (Blk.new wr 5 []) (Nat.le_refl _)) (by simp)
              dsimp only [List.nil_append, List.length_nil] at K1
              have HRK := hide (K1.rdN HR.out)
              have tok2 : True := trivial
              have HKL : Hid ((byt key).length < 1000000000) := hide (by rw [byt_length]; have := HK64.out; omega)
              go_upto_region 11 with fail
              clear hat cw ca hlb
              go_upto_region 12 with (first
                | (have zz := tok1; clear zz tok1; with_reducible refine wpList_apS [] K1 rfl (.tmp 47) (.tmp 48) 26 rfl i0 (.int .u8 0) 1 Tryd.underlying26 hi hz0 hz1 hz2 rfl rfl (A := A) (m := key.length) (c := c) (news := byt key) rfl (by rw [byt_length]) HRK.out (byt_one _) (by rw [List.length_nil, Nat.zero_add]; exact Nat.le_of_lt HKL.out) (by decide) ?_; intro v8' w5 K5; dsimp only [List.nil_append] at K5; clear K1)
                | (have zz := tok2; clear zz tok2; with_reducible refine wpList_pushS [] K5 rfl (.tmp 49) (.tmp 50) 26 rfl i0 (.int .u8 0) 1 Tryd.underlying26 hi hz0 hz1 hz2 rfl rfl rfl rfl HKL.out (by decide) ?_; intro v9 w6 K6; dsimp only [List.nil_append] at K6; clear K5))
              have K7 := K6
              rw [show byt key ++ [Value.int .u8 1] = byt (key ++ [1]) by rw [byt_append]; rfl] at K7
              clear K6 HKL HRK
              obtain ⟨A9, c9, rfl, hr9, hc9⟩ := own_form (K7.owns (List.Mem.head _))
              obtain ⟨hat, cw, ca, hlb⟩ := HKA.out _ K7.toExt
              have HIX := hide (HIS.out (key ++ [1]) A9 c9 _ hr9 (isB_append HB.out (by intro x hx; rw [List.mem_singleton] at hx; subst hx; decide)) hc9 (by rw [List.length_append]; have := HK64.out; simp; omega))
              obtain ⟨hbB, hbL⟩ := HBF.out (key ++ [1])
              generalize (key ++ [1]).length = k9 at *
              have HK' := hide K7
              clear K7 hr9 hc9 HK
              have tok1 : True := trivial
              go_upto_region 12 with fail
              go_wp2_with (have zz := tok1; clear zz tok1; with_reducible refine wpList_ldX rfl 25 (.tmp 57) rfl hat rfl _ Tryd.underlying25 rfl (by kernel_rfl) ?_)
              (with_reducible refine HIX.out.mono ?_)
              rintro e w2 ⟨v10, rfl, hS⟩
              have K2 := HK'.out.join hS
              dsimp only [List.nil_append, List.cons_append] at K2
              replace K2 := K2.sub (List.cons_sublist_cons.2 (List.sublist_cons_self _ _))
              clear HK' hS HIX hat cw ca hlb
              generalize issTB (key ++ [1]) s1 o1 n1 e1' = b at *
              generalize issTE (key ++ [1]) s1 n1 = ee at *
              obtain ⟨A10, c10, rfl, hc10, K3⟩ := own_rd [] K2
              dsimp only [List.nil_append] at K3
              clear K2
              obtain ⟨-, cw, ca, hlb⟩ := HKA.out _ K3.toExt
              have tok1 : True := trivial
              go_upto_region 17 with fail
              go_wp2_with (have zz := tok1; clear zz tok1; with_reducible refine wpList_pushS [_] K3 rfl (.tmp 116) (.tmp 118) 45 rfl j0 (.slice none 0 0) 24 Tryd.underlying45 ji jz0 jz1 jz2 rfl rfl rfl rfl (by have := HVL.out; omega) (by decide) ?_; intro v7' w8 K8; dsimp only [List.nil_append, List.cons_append] at K8; clear K3)
              have K9 := hide (sep_blob (K8.perm (List.Perm.cons _ (List.Perm.swap _ _ _)))).swap
              clear K8
              go_meet
              case rel => exact ⟨_, _, _, hide ⟨by have := HRB.out.1; rw [List.length_append, List.length_singleton]; omega, relB_push HRB.out.2 hbB (by omega) (Nat.le_refl _) hc10⟩, K9⟩
        case rest =>
          clear HK HRB
          obtain ⟨vs', bs', ps', HRB, HK⟩ := hcut
          go_wp2_with fail
          go_roundw
          case rel => exact ⟨k + 1, vs', bs', ps', by go_num, by omega, HRB, HK⟩
          case measure => simp [intOf]; omega
      · have e2 : ¬ (k : Int) < (l.length : Int) := by omega
        as_aux_lemma =>
          obtain ⟨B7, c7, rfl, hr7, hc7, -⟩ := (HK.out.owns (e := 26) (xs := vs) (List.Mem.head _)).form
          have hlv := HRB.out.2.1
          rw [← hlv] at hc7 ⊢
          have hbl : bs.length ≤ 300 := by have := HRB.out.1; have := HL30.out; omega
          have hblo := blo_of hr7 (HK.out.get (A := blobsA ps) (List.Mem.tail _ (List.Mem.head _))) HRB.out.2
          have HTN := hide (tnewest_any key bs A c B7 c7 wr (HL.out.ext HK.out.toExt) (HR.out.ext HK.out.toExt) HB.out HCC.out (by have := HK64.out; omega) hblo hc7 (by omega))
          have HRN := hide (fun (y : World) (h : Ext wr y) => rnewest_any key bs A c B7 c7 y ((HR.out.ext HK.out.toExt).ext h) HB.out HCC.out (by have := HK64.out; omega) (hblo.ext h) hc7 (by omega))
          obtain ⟨E, HE⟩ : ∃ E, Hid (newE key bs = E) := ⟨_, hide rfl⟩
          obtain ⟨V, HV⟩ : ∃ V, Hid (newV key bs = V) := ⟨_, hide rfl⟩
          rw [HE.out, HV.out] at HTN HRN
          have HBLO := hide hblo
          have HX := hide HK.out.toExt
          have hVn : V.length ≤ 300 := by rw [← HV.out]; exact Nat.le_trans (newV_len key bs) hbl
          have hVn2 : (V.length : Int) ≤ 300 := by omega
          clear hlv hblo hr7 hc7 HK HRB hbl HE
          go_wp2_with fail
          (with_reducible refine HTN.out.mono ?_)
          rintro e w3 ⟨v12, rfl, hS3⟩
          have HS3 := hide hS3
          clear HTN hS3
          go_wp2_with fail
          (with_reducible refine (HRN.out _ HS3.out.toExt).mono ?_)
          rintro e w4 ⟨v14, rfl, hS4⟩
          have K4 := HS3.out.join hS4
          dsimp only [List.nil_append, List.cons_append] at K4
          clear HS3 HRN hS4
          obtain ⟨A14, c14, rfl, hr14, hc14, -⟩ := (K4.owns (e := 3) (xs := V.map (Value.int .i64)) (List.Mem.head _)).form
          obtain ⟨A12, c12, rfl, hr12, hc12, -⟩ := (K4.owns (e := 3) (xs := V.map (Value.int .i64)) (List.Mem.tail _ (List.Mem.head _))).form
          rw [List.length_map]
          have HR14 := hide hr14
          have HR12 := hide hr12
          have HX4 := hide K4.toExt
          have HBL4 := hide (HBLO.out.ext K4.toExt)
          have HXw := hide (HX.out.trans K4.toExt)
          clear K4 hr14 hr12 hc14 hc12 HBLO HX HX4
          go_wp2_with fail
          go_loopw [16] (fun v16 wy => ∃ k : Nat, v16 = .int .i64 k ∧ k ≤ V.length ∧ Hid (Ext w4 wy)) (fun v16 _ => V.length - (intOf v16).toNat)
          case atStart => exact ⟨0, rfl, Nat.zero_le _, hide (Ext.refl w4)⟩
          case round =>
            clear e1 e2 hkl
            obtain ⟨i, rfl, hil, HY⟩ := hrel
            by_cases i1 : i < V.length
            · have i2 : (i : Int) < (V.length : Int) := by omega
              go_upto_region 25 with fail
              refine wp_region_wm [0, 1, 2, 3, 4, 5, 6, 7, 8] (by kernel_rfl) (by kernel_rfl) (by kernel_rfl) (by kernel_rfl) ?_
              have HYD := hide HY.out.drew
              clear HY
              generalize World.drew _ = wd at *
              obtain ⟨g12, o12, hA12, at12⟩ := rd_spot HR12.out (by rw [List.length_map]; omega)
              obtain ⟨g14, o14, hA14, at14⟩ := rd_spot HR14.out (by rw [List.length_map]; omega)
              subst hA12 hA14
              obtain ⟨xi, hxi⟩ : ∃ xi, V[i]? = some xi := ⟨_, List.getElem?_eq_getElem i1⟩
              have HXI := hide hxi
              have HA12 := hide (fun (j : Nat) (u : Int) (hj : V[j]? = some u) (y : World) (h : Ext w4 y) => ((at12.ext h) j (.int .i64 u) (by rw [List.getElem?_map, hj]; rfl) : y.cell? ⟨g12, o12 + j, none⟩ = some (.int .i64 u)))
              have ci12 := HA12.out i xi hxi _ HYD.out
              have ci14 := (at14.ext HYD.out) i (.int .i64 xi) (by rw [List.getElem?_map, hxi]; rfl)
              clear at12 at14 hxi
              iterate 3 (refine wm_rd rfl rfl (fun K hK => ?_); go_simp; refine hK _ ?_; clear hK K)
              refine wm_ld1 rfl rfl 3 (.tmp 150) rfl rfl ci12 _ Tryd.underlying3 rfl ?_
              iterate 3 (refine wm_rd rfl rfl (fun K hK => ?_); go_simp; refine hK _ ?_; clear hK K)
              refine wm_ld1 rfl rfl 3 (.tmp 154) rfl rfl ci14 _ Tryd.underlying3 rfl ?_
              iterate 1 (refine wm_rd rfl rfl (fun K hK => ?_); go_simp; refine hK _ ?_; clear hK K)
              refine wm_nil ?_
              clear ci12 ci14
              go_wp2_with fail
              go_loopw [17] (fun v17 wy => ∃ k : Nat, v17 = .int .i64 k ∧ k ≤ i ∧ Hid (Ext w4 wy)) (fun v17 _ => i - (intOf v17).toNat)
              case atStart => exact ⟨0, rfl, Nat.zero_le _, HYD⟩
              case round =>
                clear HYD
                obtain ⟨k', rfl, hki, HY⟩ := hrel
                by_cases k1 : k' < i
                · have k2 : (k' : Int) < (i : Int) := by omega
                  have k3 : (k' : Int) < (V.length : Int) := by omega
                  obtain ⟨yi, hyi⟩ : ∃ yi, V[k']? = some yi := ⟨_, List.getElem?_eq_getElem (by omega)⟩
                  obtain ⟨j, j', b, b', rfl, rfl, hbj, hbj', hne⟩ := newV_differ (key := key) (bs := bs) (by rw [HV.out]; exact HXI.out) (by rw [HV.out]; exact hyi) k1
                  have hjl : (j : Int) < (bs.length : Int) := by
                    rcases Nat.lt_or_ge j bs.length with h | h
                    · omega
                    · rw [List.getElem?_eq_none h] at hbj; cases hbj
                  have hjl' : (j' : Int) < (bs.length : Int) := by
                    rcases Nat.lt_or_ge j' bs.length with h | h
                    · omega
                    · rw [List.getElem?_eq_none h] at hbj'; cases hbj'
                  obtain ⟨g7, o7, Bj, cj, hB7, cbj, hcj, hrj, hBj, hlj⟩ := HBL4.out j b hbj
                  obtain ⟨g7', o7', Bj', cj', hB7', cbj', hcj', hrj', hBj', hlj'⟩ := HBL4.out j' b' hbj'
                  subst hB7
                  simp only [Option.some.injEq, Addr.mk.injEq, and_true] at hB7'
                  obtain ⟨rfl, rfl⟩ := hB7'
                  have HO1 := hide (fun (y : World) (h : Ext w4 y) => rtopen_any key b A c Bj cj y ((HR.out.ext HXw.out).ext h) HB.out HCC.out (by have := HK64.out; omega) (hrj.ext h) hBj hcj hlj)
                  have HO2 := hide (fun (y : World) (h : Ext w4 y) => rtopen_any key b' A c Bj' cj' y ((HR.out.ext HXw.out).ext h) HB.out HCC.out (by have := HK64.out; omega) (hrj'.ext h) hBj' hcj' hlj')
                  obtain ⟨p1, p2, p3, p4, HP⟩ : ∃ p q r s, Hid (opTV key b = (p, q, r, s)) := ⟨_, _, _, _, hide rfl⟩
                  obtain ⟨q1, q2, q3, q4, HQ⟩ : ∃ p q r s, Hid (opTV key b' = (p, q, r, s)) := ⟨_, _, _, _, hide rfl⟩
                  rw [HP.out, HQ.out] at hne
                  rw [HP.out] at HO1
                  rw [HQ.out] at HO2
                  obtain ⟨E1, HE1⟩ : ∃ E, Hid (opTE key b = E) := ⟨_, hide rfl⟩
                  obtain ⟨E2, HE2⟩ : ∃ E, Hid (opTE key b' = E) := ⟨_, hide rfl⟩
                  rw [HE1.out] at HO1
                  rw [HE2.out] at HO2
                  have hpq : (p1 == q1) = false := beq_eq_false_iff_ne.2 hne
                  have HC1 := hide (fun (y : World) (h : Ext w4 y) => (Below.cell h (cell_lt cbj)).trans cbj)
                  have HC2 := hide (fun (y : World) (h : Ext w4 y) => (Below.cell h (cell_lt cbj')).trans cbj')
                  have HYI := hide hyi
                  clear hne HP HQ HE1 HE2 cbj cbj' hrj hrj' hBj hBj' hlj hlj' hbj hbj' hyi hcj hcj'
                  have c1 := HA12.out i _ HXI.out _ HY.out
                  have c2 := HC1.out _ HY.out
                  have hs1 := cell_lt c1
                  have hs2 := cell_lt c2
                  go_wp2_with fail
                  (with_reducible refine (HO1.out _ HY.out).mono ?_)
                  rintro e w5 ⟨rfl, hx5⟩
                  have K5 := (Sep.refl No w4).ext (HY.out.trans hx5)
                  have c3 := HA12.out k' _ HYI.out _ K5.toExt
                  clear c1 c2 hs1 hs2 hx5 HO1
                  have tok1 : True := trivial
                  have tok2 : True := trivial
                  go_upto_region 31 with (first
                    | (have zz := tok1; clear zz tok1; refine wpList_alS K5 rfl 25 rfl (tkc 0 0 0 0) (by kernel_rfl) ?_; intro w6 hz6 K6; clear hz6 K5)
                    | (have zz := tok2; clear zz tok2; refine wpList_stS [] K6 rfl 25 (.tmp 18) (.tmp 172) rfl rfl (cs := tkc p1 p2 p3 p4) rfl (by kernel_rfl) rfl (tkc_one p1 p2 p3 p4) ?_; intro w7 K7; dsimp only [List.nil_append] at K7; clear K6))
                  obtain ⟨g18, G18⟩ : ∃ g, w5.heap.size = g := ⟨_, rfl⟩
                  rw [G18] at K7 ⊢
                  clear G18 c3
                  have c3 := HA12.out k' _ HYI.out _ K7.toExt
                  have c4 := HC2.out _ K7.toExt
                  have hs3 := cell_lt c3
                  have hs4 := cell_lt c4
                  have KK := hide K7
                  clear K7
                  go_wp2_with fail
                  (with_reducible refine (HO2.out _ KK.out.toExt).mono ?_)
                  rintro e w8 ⟨rfl, hx8⟩
                  have K8 := KK.out.ext hx8
                  clear c3 c4 hs3 hs4 hx8 HO2 KK
                  have tok1 : True := trivial
                  have tok2 : True := trivial
                  go_upto_region 32 with (first
                    | (have zz := tok1; clear zz tok1; refine wpList_alS K8 rfl 25 rfl (tkc 0 0 0 0) (by kernel_rfl) ?_; intro w9 hz9 K9; clear hz9 K8)
                    | (have zz := tok2; clear zz tok2; refine wpList_stS [] K9 rfl 25 (.tmp 20) (.tmp 184) rfl rfl (cs := tkc q1 q2 q3 q4) rfl (by kernel_rfl) rfl (tkc_one q1 q2 q3 q4) ?_; intro wa Ka; dsimp only [List.nil_append] at Ka; clear K9))
                  obtain ⟨g20, G20⟩ : ∃ g, w8.heap.size = g := ⟨_, rfl⟩
                  rw [G20] at Ka ⊢
                  clear G20
                  obtain ⟨c0, -, -, -, hg0⟩ := tk4 (Ka.blk (g := g20) (e := 25) (cs := tkc q1 q2 q3 q4) (List.Mem.head _))
                  obtain ⟨e0, -, -, -, hg1⟩ := tk4 (Ka.blk (g := g18) (e := 25) (cs := tkc p1 p2 p3 p4) (List.Mem.tail _ (List.Mem.head _)))
                  have HYa := hide Ka.toExt
                  clear Ka
                  go_wp2_with fail
                  clear c0 e0 hg0 hg1
                  go_roundw
                  case rel => exact ⟨k' + 1, by go_num, by omega, HYa⟩
                  case measure => simp [intOf]; omega
                · have k2 : ¬ (k' : Int) < (i : Int) := by omega
                  go_wp2_with fail
                  go_roundw
                  case rel => exact ⟨i + 1, by go_num, by omega, HY⟩
                  case measure => simp [intOf]; omega
            · have i2 : ¬ (i : Int) < (V.length : Int) := by omega
              go_wp2_with fail
              (with_reducible refine (tshown_any _ (HL.out.ext (HXw.out.trans HY.out))).mono ?_)
              rintro e wz ⟨rfl, hxz⟩
              have HZ := hide (HXw.out.trans (HY.out.trans hxz))
              clear HY hxz
              go_wp2_with fail
              go_ret
              exact ⟨rfl, HZ.out⟩
end Go.Proofs.YtamlngdjbmndlaaDoor
