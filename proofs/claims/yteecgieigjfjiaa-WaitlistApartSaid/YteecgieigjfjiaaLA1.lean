/- Lists of waiters: the law WaitlistApart walked. -/
import Derived.Test.YteecgieigjfjiaaW21
import Derived.Deep.CutBlock
import Derived.Deep.DeepCutAuto
namespace Go.Proofs.Yteecgieigjfjiaa
open Go.RowKit Go.Gr Go.Wl
set_option linter.unusedVariables false
set_option linter.unusedSimpArgs false
attribute [local go_sem] rdOp rdAt rdUpon Cls forall_fr
theorem rows_at {B : Option Addr} {vs : List Value} {S : St} {w : World} (h : (AsRows B vs (rowsS S)).p w) {s : Nat} (hs : s < S.length) : ∃ bd C cr, B = some bd ∧ w.cell? (bd.add s) = some (.slice C (wt S s).length cr) ∧ Rd w C (u32s (wt S s)) := by
  obtain ⟨v, hv, C, cr, rfl, hcr, hr⟩ := h.2.get (j := s) (by rw [rowsS_len]; exact hs)
  rw [rowsS_get hs] at hv hcr hr
  obtain ⟨bd, e, hc⟩ := h.1 s _ hv
  exact ⟨bd, C, cr, e, hc, hr⟩
theorem own_i64 {w : World} {e : TypeId} {A : Option Addr} {n c : Nat} {m : List Int} (h : Own 0 w e (.slice A n c) (i64s m)) : Rd w A (i64s m) := by
  obtain ⟨A', c', e1, hr, _⟩ := h.form
  simp only [Value.slice.injEq] at e1
  obtain ⟨rfl, _, _⟩ := e1
  exact hr
theorem wt_put_ne {S : St} {y : Int} {r : List Int} {k : Nat} (hy : 0 ≤ y) (h : (k : Int) ≠ y) : wt (put S y r) k = wt S k := by
  unfold wt put
  rw [List.getD_eq_getElem?_getD, List.getD_eq_getElem?_getD, List.getElem?_set_ne (by rw [Int.toNat_natCast]; omega)]
structure ApF (S S' : St) (f y : Int) (j : Bool) : Prop where
  lims : limsS S' = limsS S
  same : ∀ k : Nat, ((k : Int) ≠ y ∨ f ≠ 0) → wt S k = wt S' k
  full : j = true → ∀ s : Nat, y = (s : Int) → s < S.length → ((wt S s).length = lm S s ↔ f = 5)
theorem lims_put {S : St} {y : Int} (hy : inS S y) (r : List Int) : limsS (put S y r) = limsS S := by
  obtain ⟨s, rfl⟩ : ∃ s : Nat, y = s := ⟨y.toNat, by have := hy.1; omega⟩
  exact limsS_put (by have := hy.2; omega) r
theorem ap_join (S : St) (y o : Int) : ApF S (joinS S y o).1 (joinS S y o).2.2 y true := by
  unfold joinS
  by_cases hy : inS S y
  · rw [if_neg (fun h => h hy)]
    by_cases hf : (wt S y).length = lm S y
    · rw [if_pos hf]
      exact ⟨rfl, fun _ _ => rfl, fun _ s e hs => by subst e; exact ⟨fun _ => rfl, fun _ => hf⟩⟩
    · rw [if_neg hf]
      by_cases ho : o ∈ wt S y
      · rw [if_pos ho]
        exact ⟨rfl, fun _ _ => rfl, fun _ s e hs => by subst e; exact ⟨fun h => absurd h hf, fun h => absurd h (show ¬ (8 : Int) = 5 by decide)⟩⟩
      · rw [if_neg ho]
        refine ⟨lims_put hy _, fun k hk => ?_, fun _ s e hs => by subst e; exact ⟨fun h => absurd h hf, fun h => absurd h (show ¬ (0 : Int) = 5 by decide)⟩⟩
        rcases hk with hk | hk
        · exact (wt_put_ne hy.1 hk).symm
        · exact absurd rfl hk
  · rw [if_pos hy]
    exact ⟨rfl, fun _ _ => rfl, fun _ s e hs => absurd ⟨by omega, by omega⟩ hy⟩
theorem ap_leave (S : St) (y o : Int) : ApF S (leaveS S y o).1 (leaveS S y o).2 y false := by
  unfold leaveS
  by_cases hy : inS S y
  · rw [if_neg (fun h => h hy)]
    by_cases ho : o ∈ wt S y
    · rw [if_pos ho]
      refine ⟨lims_put hy _, fun k hk => ?_, fun h => by cases h⟩
      rcases hk with hk | hk
      · exact (wt_put_ne hy.1 hk).symm
      · exact absurd rfl hk
    · rw [if_neg ho]
      exact ⟨rfl, fun _ _ => rfl, fun h => by cases h⟩
  · rw [if_pos hy]
    exact ⟨rfl, fun _ _ => rfl, fun h => by cases h⟩
theorem ap_take (S : St) (y : Int) : ApF S (takeS S y).1 (takeS S y).2.2 y false := by
  unfold takeS
  by_cases hy : inS S y
  · rw [if_neg (fun h => h hy)]
    by_cases ho : wt S y = []
    · rw [if_pos ho]
      exact ⟨rfl, fun _ _ => rfl, fun h => by cases h⟩
    · rw [if_neg ho]
      refine ⟨lims_put hy _, fun k hk => ?_, fun h => by cases h⟩
      rcases hk with hk | hk
      · exact (wt_put_ne hy.1 hk).symm
      · exact absurd rfl hk
  · rw [if_pos hy]
    exact ⟨rfl, fun _ _ => rfl, fun h => by cases h⟩
theorem ap_none (S : St) (f y : Int) : ApF S S f y false := ⟨rfl, fun _ _ => rfl, fun h => by cases h⟩
theorem ok_wt {S : St} (h : Ok S) {s : Nat} (hs : s < S.length) : (wt S s).length ≤ lm S s ∧ lm S s ≤ 64 := by
  have := h.get (i := (s : Int)) ⟨by omega, by omega⟩
  exact ⟨this.len, this.lim⟩
theorem i64s_append (a b : List Int) : i64s (a ++ b) = i64s a ++ i64s b := by simp [i64s]
def m65 (l : List Int) : List Int := l.map fun b => b.tmod 65
theorem m65_len (l : List Int) : (m65 l).length = l.length := by simp [m65]
theorem m65_rng {l : List Int} (h : ∀ x ∈ l, 0 ≤ x ∧ x < 256) : ∀ x ∈ m65 l, 0 ≤ x ∧ x ≤ 64 := by
  intro x hx
  obtain ⟨b, hb, rfl⟩ := List.mem_map.1 hx
  have := h b hb
  rw [Int.tmod_eq_emod_of_nonneg this.1]; omega
theorem lims_new {m : List Int} (h : ∀ x ∈ m, 0 ≤ x ∧ x ≤ 64) : limsS (newS m) = m := by
  unfold limsS newS
  rw [List.map_map]
  refine (List.map_congr_left fun x hx => ?_).trans (List.map_id m)
  have := h x hx
  show ((x.toNat : Nat) : Int) = x
  omega
theorem bytesA {w : World} {v : Value} (h : LfOk Try.prog w (.slice 5) v) : ∃ A l c, v = .slice A l.length c ∧ Rd w A (byt l) ∧ (∀ x ∈ l, 0 ≤ x ∧ x < 256) ∧ l.length ≤ c ∧ c ≤ maxLen := by
  obtain ⟨A, l, c, rfl, h1, h2, h3, h4⟩ := slice_ints Try.underlying5 (by kernel_rfl) h
  exact ⟨A, l, c, rfl, h1, fun x hx => wf_u8 (h2 x hx), h3, h4⟩
theorem byt_at {w : World} {A : Option Addr} {l : List Int} (h : Rd w A (byt l)) {k : Nat} (hk : k < l.length) : ∃ ad, A = some ad ∧ w.cell? (ad.add k) = some (.int .u8 l[k]) := by
  obtain ⟨ad, e, hc⟩ := h.at_ (k := k) (by rw [byt_length]; exact hk)
  rw [byt_get hk] at hc
  exact ⟨ad, e, hc⟩
theorem cellE {w w' : World} (k : Ext w w') {ad : Addr} {v : Value} (h : w.cell? ad = some v) : w'.cell? ad = some v := (Below.cell k (cell_lt h)).trans h
set_option maxRecDepth 100000 in
set_option maxHeartbeats 8000000 in
theorem apart_law (w : World) (v0 : Value) (h0 : LfOk Try.prog w (.slice 5) v0) (v1 : Value) (h1 : LfOk Try.prog w (.slice 31) v1) : Calls Try.prog 4 #[v0, v1] w fun e w' => e = .returned (.bool true) ∧ Ext w w' := by
  obtain ⟨i64, ki, kz0, kz1, kz2⟩ := info_parts infoI
  obtain ⟨A0, t, c0, rfl, hr0, hb0, hc0, hm0⟩ := bytesA h0
  obtain ⟨A1, l, c1, rfl, hr1, hok, hc1, hm1⟩ := callsA h1
  clear h0 h1
  by_cases hs0 : 8 < t.length
  · have d0 : (8 : Int) < (t.length : Int) := by omega
    clear hr0 hr1 hok hs0
    go_enter Try.func4, Try.ntmps4
    go_wp2_with fail
    (with_reducible refine (awake_any _).mono ?_)
    rintro e w1 ⟨rfl, hx⟩
    go_wp2_with fail
    go_ret
    exact ⟨rfl, hx⟩
  have d0 : ¬ (8 : Int) < (t.length : Int) := by omega
  by_cases hs1 : t.length = 0
  · have d1 : ((t.length : Int) == 0) = true := by rw [hs1]; rfl
    clear hr0 hr1 hok hs0 hs1
    go_enter Try.func4, Try.ntmps4
    go_wp2_with fail
    (with_reducible refine (awake_any _).mono ?_)
    rintro e w1 ⟨rfl, hx⟩
    go_wp2_with fail
    go_ret
    exact ⟨rfl, hx⟩
  have d1 : ((t.length : Int) == 0) = false := beq_eq_false_iff_ne.2 (by omega)
  by_cases hs : 200 < l.length
  · have d2 : (200 : Int) < (l.length : Int) := by omega
    clear hr0 hr1 hok hs0 hs1 hs
    go_enter Try.func4, Try.ntmps4
    go_wp2_with fail
    (with_reducible refine (awake_any _).mono ?_)
    rintro e w1 ⟨rfl, hx⟩
    go_wp2_with fail
    go_ret
    exact ⟨rfl, hx⟩
  have d2 : ¬ (200 : Int) < (l.length : Int) := by omega
  have HR := hide hr1
  have HOK := hide hok
  have HR0 := hide hr0
  have HB0 := hide hb0
  clear hr0 hr1 hok hs
  go_enter Try.func4, Try.ntmps4
  have K0 : Hid (Sep No w w [As.own 3 (.slice none 0 0) (i64s ((m65 t).take 0))]) := hide ((Sep.refl No w).nilO 3)
  go_wp2_with fail
  go_loopw [5, 6] (fun v5 v6 wr => ∃ k : Nat, v6 = .int .i64 k ∧ k ≤ t.length ∧ Hid (Sep No w wr [As.own 3 v5 (i64s ((m65 t).take k))])) (fun _ v6 _ => t.length - (intOf v6).toNat)
  case atStart => exact ⟨0, rfl, by omega, K0⟩
  case round =>
    obtain ⟨k, rfl, hk, HK⟩ := hrel
    clear K0
    by_cases hlt : k < t.length
    · have hlti : (k : Int) < (t.length : Int) := by omega
      obtain ⟨ad, hA, cb⟩ := byt_at (HR0.out.ext HK.out.toExt) hlt
      subst hA
      have hb := HB0.out _ (List.getElem_mem hlt)
      have HN : Hid (i64s ((m65 t).take k) ++ [.int .i64 (t[k].tmod 65)] = i64s ((m65 t).take (k + 1))) := hide (by
        rw [List.take_succ_eq_append_getElem (by rw [m65_len]; exact hlt), i64s_append]
        simp [m65, i64s])
      have HUL : Hid ((i64s ((m65 t).take k)).length < 1000000000) := hide (by rw [i64s_len, List.length_take]; omega)
      obtain ⟨b, HXb⟩ : ∃ b, t[k] = b := ⟨_, rfl⟩
      rw [HXb] at cb hb HN
      obtain ⟨n, hn⟩ : ∃ n : Nat, b.tmod 65 = (n : Int) := ⟨(b % 65).toNat, by rw [Int.tmod_eq_emod_of_nonneg hb.1]; omega⟩
      have hn64 : n ≤ 64 := by rw [Int.tmod_eq_emod_of_nonneg hb.1] at hn; omega
      have hwn : IntKind.i64.wrap (n : Int) = (n : Int) := IntWalk.i64_in _ (by omega)
      have K2 := HK.out
      clear HK HXb
      have tok : True := trivial
      go_wp2_with (have zz := tok; clear zz tok; refine wpList_pushS [] K2 rfl (.tmp 35) (.tmp 42) 29 rfl i64 (.int .i64 0) 8 Try.underlying29 ki kz0 kz1 kz2 rfl rfl rfl rfl HUL.out (by decide) ?_; intro v8 w8 H8; rw [← hn, HN.out] at H8; dsimp only [List.nil_append] at H8; have K8 := hide H8; clear H8 K2)
      go_roundw
      case rel => exact ⟨k + 1, by go_num, by omega, K8⟩
      case measure => simp [intOf]; omega
    · obtain rfl : k = t.length := by omega
      have hlti : ¬ ((t.length : Nat) : Int) < (t.length : Int) := by omega
      obtain ⟨m, HMM⟩ : ∃ m, m65 t = m := ⟨_, rfl⟩
      have hml : m.length = t.length := by rw [← HMM, m65_len]
      have HMR : Hid (∀ x ∈ m, 0 ≤ x ∧ x ≤ 64) := hide (by rw [← HMM]; exact m65_rng HB0.out)
      have hlim : limE m = 0 := by
        unfold limE
        rw [if_neg (by omega), if_pos HMR.out]
      have HLIM := hide hlim
      rw [List.take_of_length_le (by rw [m65_len]; exact Nat.le_refl _), HMM] at HK
      obtain ⟨A5, c5, hv, hr5, hc5, _⟩ := (HK.out.owns (e := 3) (v := u5) (xs := i64s m) (List.Mem.head _)).form
      subst hv
      rw [i64s_len] at HK hc5 ⊢
      have HNW := hide (new_any m A5 c5 wr hr5 (by omega))
      have HNL : Hid (limsS (newS m) = m) := hide (lims_new HMR.out)
      have hm8 : m.length ≤ 8 := by omega
      clear hr5 HMM hml hlim
      go_wp2_with fail
      (with_reducible refine HNW.out.mono ?_)
      rintro e w1 ⟨h1, _⟩
      obtain ⟨g, gr, rfl, hS1⟩ := h1 HLIM.out
      have KK := hide (HK.out.joinW hS1).swap
      clear h1 hS1 HNW HK
      go_wp2_with fail
      go_loopw [9] (fun v9 wr => ∃ (k : Nat) (S : St), v9 = .int .i64 k ∧ k ≤ l.length ∧ limsS S = m ∧ Hid (Sep No w wr [As.own 3 (.slice A5 m.length c5) (i64s m), AsLs g gr S])) (fun v9 _ => l.length - (intOf v9).toNat)
      case atStart => exact ⟨0, newS m, rfl, by omega, HNL.out, KK⟩
      case round =>
        obtain ⟨k, S, rfl, hk, hlm, HK⟩ := hrel
        clear KK
        by_cases hlt : k < l.length
        · have hlti : (k : Int) < (l.length : Int) := by omega
          have HL := hide hlm
          have HSL : Hid (S.length = m.length) := hide (by rw [← limsS_len, hlm])
          clear hlm
          obtain ⟨bb, off, hA, cw, cs, co, hbl⟩ := call_at HR.out hlt
          subst hA
          obtain ⟨⟨hw0, hw1⟩, _, ho0, ho1⟩ := HOK.out _ (List.getElem_mem hlt)
          obtain ⟨x, HXx⟩ : ∃ x, Hid (l[k].what = x) := ⟨_, hide rfl⟩
          obtain ⟨y, HYy⟩ : ∃ y, Hid (l[k].sec = y) := ⟨_, hide rfl⟩
          obtain ⟨o, HOo⟩ : ∃ o, Hid (l[k].own = o) := ⟨_, hide rfl⟩
          rw [HXx.out] at cw hw0 hw1
          rw [HYy.out] at cs
          rw [HOo.out] at co ho0 ho1
          have HCW := hide (fun (z : World) (h : Ext w z) => cellE h cw)
          have HCS := hide (fun (z : World) (h : Ext w z) => cellE h cs)
          have HCO := hide (fun (z : World) (h : Ext w z) => cellE h co)
          clear cw cs co HXx HYy HOo
          obtain ⟨m8, hm, hm8'⟩ := mod8 ⟨hw0, hw1⟩
          have HM := hide hm
          have nb : ¬ At gr bb := by
            intro e
            cases e
            rcases HK.out.own (AsLs g gr S) (List.Mem.tail _ (List.Mem.head _)) gr (.inr rfl) with h | h
            · exact h.elim
            · omega
          have HLQ : Hid (∀ q, q < S.length → (wt S q).length ≤ 1000000) := hide (fun q hq => by
            have := ok_wt (ls_ok (HK.out.get (A := AsLs g gr S) (List.Mem.tail _ (List.Mem.head _)))) hq
            omega)
          have emm : (((m.length : Nat) : Int) != ((m.length : Nat) : Int)) = false := bne_self_eq_false _
          go_wp2_with fail
          (with_reducible refine (save_any (HK.out.get (A := AsLs g gr S) (List.Mem.tail _ (List.Mem.head _)))).mono ?_)
          rintro e w2 ⟨B, vs, rfl, hS2⟩
          rw [HSL.out]
          have KK := hide (HK.out.joinW hS2)
          have cw := HCW.out _ KK.out.toExt
          clear HK hS2
          go_upto_block 4 with fail
          clear cw hm
          go_cut [11] (fun v11 wx => ∃ (S' : St) (f : Int), v11 = .int .i64 f ∧ Hid (ApF S S' f y (decide (m8 < 2))) ∧ Hid (Sep No w wx [AsRows B vs (rowsS S), As.own 3 (.slice A5 m.length c5) (i64s m), AsLs g gr S']))
          case first =>
            have hp : (m8 = 0 ∨ m8 = 1 ∨ m8 = 2 ∨ m8 = 5 ∨ m8 = 6) ∨ (m8 = 3 ∨ m8 = 4 ∨ m8 = 7) := by omega
            rcases hp with hp | hp
            · clear hm8'
              rcases hp with rfl | rfl | rfl | rfl | rfl
              · as_aux_lemma =>
                  go_upto_region 20 with fail
                  refine wp_region_wmr (RT.fr (At gr)) [0, 1, 2, 3, 4, 5, 6, 7, 8, 9, 10, 11, 12, 13, 14, 15] (by kernel_rfl) (by kernel_rfl) (by kernel_rfl) (by kernel_rfl) ?_
                  have K1 := KK.out.drew
                  have CS := hide (HCS.out _ K1.toExt)
                  have CO := hide (HCO.out _ K1.toExt)
                  clear KK
                  generalize World.drew _ = wd at *
                  iterate 5 (refine wmr_rd rfl rfl (fun K hK => ?_); go_simp; refine hK _ ?_; clear hK K)
                  refine wmr_ld1 rfl rfl 3 (.tmp 92) rfl rfl (fun w' h' => h'.cell CS.out nb) _ Try.underlying3 rfl ?_
                  iterate 4 (refine wmr_rd rfl rfl (fun K hK => ?_); go_simp; refine hK _ ?_; clear hK K)
                  refine wmr_ld1 rfl rfl 23 (.tmp 97) rfl rfl (fun w' h' => h'.cell CO.out nb) _ Try.underlying23 rfl ?_
                  iterate 1 (refine wmr_ext rfl rfl (fun K hK => ?_))
                  go_simp
                  go_at_call 11
                  (with_reducible refine (join_any (i := y) (o := o) (K1.get (A := AsLs g gr S) (List.Mem.tail _ (List.Mem.tail _ (List.Mem.head _)))) ⟨ho0, ho1⟩).mono ?_)
                  rintro e wa ⟨rfl, hp, hu⟩
                  refine hK _ _ (Fr.of_upd hu) ?_
                  have K2 := hide (sep_ls [_, _] K1 hp hu)
                  clear hK K CS CO K1 hp hu
                  iterate 4 (refine wmr_rd rfl rfl (fun K hK => ?_); go_simp; refine hK _ ?_; clear hK K)
                  refine wmr_nil ?_
                  go_wp2_with fail
                  go_meet
                  case rel => exact ⟨_, _, rfl, hide (ap_join S y o), K2⟩
              · as_aux_lemma =>
                  go_upto_region 20 with fail
                  refine wp_region_wmr (RT.fr (At gr)) [0, 1, 2, 3, 4, 5, 6, 7, 8, 9, 10, 11, 12, 13, 14, 15] (by kernel_rfl) (by kernel_rfl) (by kernel_rfl) (by kernel_rfl) ?_
                  have K1 := KK.out.drew
                  have CS := hide (HCS.out _ K1.toExt)
                  have CO := hide (HCO.out _ K1.toExt)
                  clear KK
                  generalize World.drew _ = wd at *
                  iterate 5 (refine wmr_rd rfl rfl (fun K hK => ?_); go_simp; refine hK _ ?_; clear hK K)
                  refine wmr_ld1 rfl rfl 3 (.tmp 92) rfl rfl (fun w' h' => h'.cell CS.out nb) _ Try.underlying3 rfl ?_
                  iterate 4 (refine wmr_rd rfl rfl (fun K hK => ?_); go_simp; refine hK _ ?_; clear hK K)
                  refine wmr_ld1 rfl rfl 23 (.tmp 97) rfl rfl (fun w' h' => h'.cell CO.out nb) _ Try.underlying23 rfl ?_
                  iterate 1 (refine wmr_ext rfl rfl (fun K hK => ?_))
                  go_simp
                  go_at_call 11
                  (with_reducible refine (join_any (i := y) (o := o) (K1.get (A := AsLs g gr S) (List.Mem.tail _ (List.Mem.tail _ (List.Mem.head _)))) ⟨ho0, ho1⟩).mono ?_)
                  rintro e wa ⟨rfl, hp, hu⟩
                  refine hK _ _ (Fr.of_upd hu) ?_
                  have K2 := hide (sep_ls [_, _] K1 hp hu)
                  clear hK K CS CO K1 hp hu
                  iterate 4 (refine wmr_rd rfl rfl (fun K hK => ?_); go_simp; refine hK _ ?_; clear hK K)
                  refine wmr_nil ?_
                  go_wp2_with fail
                  go_meet
                  case rel => exact ⟨_, _, rfl, hide (ap_join S y o), K2⟩
              · as_aux_lemma =>
                  go_upto_region 22 with fail
                  refine wp_region_wmr (RT.fr (At gr)) [0, 1, 2, 3, 4, 5, 6, 7, 8, 9, 10, 11, 12] (by kernel_rfl) (by kernel_rfl) (by kernel_rfl) (by kernel_rfl) ?_
                  have K1 := KK.out.drew
                  have CS := hide (HCS.out _ K1.toExt)
                  have CO := hide (HCO.out _ K1.toExt)
                  clear KK
                  generalize World.drew _ = wd at *
                  iterate 5 (refine wmr_rd rfl rfl (fun K hK => ?_); go_simp; refine hK _ ?_; clear hK K)
                  refine wmr_ld1 rfl rfl 3 (.tmp 108) rfl rfl (fun w' h' => h'.cell CS.out nb) _ Try.underlying3 rfl ?_
                  iterate 4 (refine wmr_rd rfl rfl (fun K hK => ?_); go_simp; refine hK _ ?_; clear hK K)
                  refine wmr_ld1 rfl rfl 23 (.tmp 113) rfl rfl (fun w' h' => h'.cell CO.out nb) _ Try.underlying23 rfl ?_
                  iterate 1 (refine wmr_ext rfl rfl (fun K hK => ?_))
                  go_simp
                  go_at_call 12
                  (with_reducible refine (leave_any (i := y) (o := o) (K1.get (A := AsLs g gr S) (List.Mem.tail _ (List.Mem.tail _ (List.Mem.head _))))).mono ?_)
                  rintro e wa ⟨rfl, hp, hu⟩
                  refine hK _ _ (Fr.of_upd hu) ?_
                  have K2 := hide (sep_ls [_, _] K1 hp hu)
                  clear hK K CS CO K1 hp hu
                  iterate 1 (refine wmr_rd rfl rfl (fun K hK => ?_); go_simp; refine hK _ ?_; clear hK K)
                  refine wmr_nil ?_
                  go_wp2_with fail
                  go_meet
                  case rel => exact ⟨_, _, rfl, hide (ap_leave S y o), K2⟩
              · as_aux_lemma =>
                  have CS := hide (HCS.out _ KK.out.toExt)
                  have JT := hide (take_any (i := y) (KK.out.get (A := AsLs g gr S) (List.Mem.tail _ (List.Mem.tail _ (List.Mem.head _)))))
                  have cs := CS.out
                  clear CS
                  go_wp2_with fail
                  (with_reducible refine JT.out.mono ?_)
                  rintro e wa ⟨rfl, hp, hu⟩
                  have K2 := hide (sep_ls [_, _] KK.out hp hu)
                  clear KK JT hp hu cs
                  go_wp2_with fail
                  go_meet
                  case rel => exact ⟨_, _, rfl, hide (ap_take S y), K2⟩
              · as_aux_lemma =>
                  have CS := hide (HCS.out _ KK.out.toExt)
                  have JT := hide (take_any (i := y) (KK.out.get (A := AsLs g gr S) (List.Mem.tail _ (List.Mem.tail _ (List.Mem.head _)))))
                  have cs := CS.out
                  clear CS
                  go_wp2_with fail
                  (with_reducible refine JT.out.mono ?_)
                  rintro e wa ⟨rfl, hp, hu⟩
                  have K2 := hide (sep_ls [_, _] KK.out hp hu)
                  clear KK JT hp hu cs
                  go_wp2_with fail
                  go_meet
                  case rel => exact ⟨_, _, rfl, hide (ap_take S y), K2⟩
            · have b0 : (m8 == 0) = false := beq_eq_false_iff_ne.2 (by omega)
              have b1 : (m8 == 1) = false := beq_eq_false_iff_ne.2 (by omega)
              have b2 : (m8 == 2) = false := beq_eq_false_iff_ne.2 (by omega)
              have b5 : (m8 == 5) = false := beq_eq_false_iff_ne.2 (by omega)
              have b6 : (m8 == 6) = false := beq_eq_false_iff_ne.2 (by omega)
              have HDD : Hid (decide (m8 < 2) = false) := hide (decide_eq_false (by omega))
              clear hm8' hp
              as_aux_lemma =>
                go_upto_region 17 with fail
                refine wp_region_wm [0, 1, 2, 3, 4, 5, 6, 7, 8, 9, 10, 11, 12, 13, 14, 15] (by kernel_rfl) (by kernel_rfl) (by kernel_rfl) (by kernel_rfl) ?_
                have K1 := KK.out.drew
                have CS := hide (HCS.out _ K1.toExt)
                have CO := hide (HCO.out _ K1.toExt)
                clear KK
                generalize World.drew _ = wd at *
                iterate 5 (refine wm_rd rfl rfl (fun K hK => ?_); go_simp; refine hK _ ?_; clear hK K)
                refine wm_ld1 rfl rfl 3 (.tmp 74) rfl rfl CS.out _ Try.underlying3 rfl ?_
                iterate 4 (refine wm_rd rfl rfl (fun K hK => ?_); go_simp; refine hK _ ?_; clear hK K)
                refine wm_ld1 rfl rfl 23 (.tmp 79) rfl rfl CO.out _ Try.underlying23 rfl ?_
                refine wm_ext rfl rfl (fun K hK => ?_)
                go_simp
                go_at_call 14
                (with_reducible refine (place_any (K1.get (A := AsLs g gr S) (List.Mem.tail _ (List.Mem.tail _ (List.Mem.head _))))).mono ?_)
                rintro e wa ⟨rfl, hx⟩
                refine hK _ _ hx ?_
                have K2 := hide (K1.ext hx)
                clear hK K CS CO K1 hx
                iterate 4 (refine wm_rd rfl rfl (fun K hK => ?_); go_simp; refine hK _ ?_; clear hK K)
                refine wm_nil ?_
                go_wp2_with fail
                go_meet
                case rel => exact ⟨S, _, rfl, hide (by rw [HDD.out]; exact ap_none _ _ _), K2⟩
          case rest =>
            obtain ⟨S', f, rfl, HAP, HK2⟩ := hcut
            clear KK
            have HL' : Hid (limsS S' = m) := hide (HAP.out.lims.trans HL.out)
            have HSL' : Hid (S'.length = m.length) := hide (by rw [← limsS_len, HL'.out])
            go_wp2_with fail
            (with_reducible refine (save_any (HK2.out.get (A := AsLs g gr S') (List.Mem.tail _ (List.Mem.tail _ (List.Mem.head _))))).mono ?_)
            rintro e w3 ⟨B', vs', rfl, hS3⟩
            rw [HSL'.out]
            have K5 := hide (HK2.out.joinW hS3)
            clear HK2 hS3
            go_wp2_with fail
            go_loopw [13] (fun v13 wy => ∃ q : Nat, v13 = .int .i64 q ∧ q ≤ m.length ∧ Hid (Sep No w wy [AsRows B' vs' (rowsS S'), AsRows B vs (rowsS S), As.own 3 (.slice A5 m.length c5) (i64s m), AsLs g gr S'])) (fun v13 _ => m.length - (intOf v13).toNat)
            case atStart => exact ⟨0, rfl, by omega, K5⟩
            case round =>
              obtain ⟨q, rfl, hq, K3⟩ := hrel
              clear K5
              by_cases hqm : q < m.length
              · have hqi : (q : Int) < (m.length : Int) := by omega
                have hqS : q < S.length := by rw [HSL.out]; exact hqm
                have hqS' : q < S'.length := by rw [HSL'.out]; exact hqm
                have hok := ok_wt (ls_ok (K3.out.get (A := AsLs g gr S') (List.Mem.tail _ (List.Mem.tail _ (List.Mem.tail _ (List.Mem.head _)))))) hqS'
                have hgt : ¬ ((lm S' q : Nat) : Int) < (((wt S' q).length : Nat) : Int) := by omega
                have HMQ : Hid (m[q] = ((lm S' q : Nat) : Int)) := hide (by
                  have e := limsS_get hqS'
                  simp only [HL'.out] at e
                  exact e)
                have HLS' : Hid ((wt S' q).length ≤ 1000000) := hide (by omega)
                have HLS := hide (HLQ.out q hqS)
                clear hok
                by_cases hqy : (q : Int) = y
                · have ey : (y != y) = false := bne_self_eq_false _
                  have eq1 : ((q : Int) != y) = false := by rw [hqy]; exact bne_self_eq_false _
                  by_cases hf : f = 0
                  · have e2 : (f != 0) = false := by rw [hf]; rfl
                    clear hqy
                    as_aux_lemma =>
                      go_upto_region 32 with fail
                      refine wp_region_wm [0, 1, 2, 3, 4, 5, 6, 7, 8, 9, 10, 11, 12, 13, 14, 15, 16, 17, 18, 19, 20, 21, 22, 23, 24, 25, 26, 27, 28, 29, 30, 31, 32, 33, 34] (by kernel_rfl) (by kernel_rfl) (by kernel_rfl) (by kernel_rfl) ?_
                      have H1 := K3.out.drew
                      clear K3
                      generalize World.drew _ = wd at *
                      have CS := hide (HCS.out _ H1.toExt)
                      obtain ⟨bd, C1, d1, hB, cB, rB⟩ := rows_at (H1.get (A := AsRows B vs (rowsS S)) (List.Mem.tail _ (List.Mem.head _))) hqS
                      obtain ⟨bd', C2, d2, hB', cB', rB'⟩ := rows_at (H1.get (A := AsRows B' vs' (rowsS S')) (List.Mem.head _)) hqS'
                      obtain ⟨ad5, hA5, c5⟩ := i64s_at (own_i64 (H1.owns (e := 3) (List.Mem.tail _ (List.Mem.tail _ (List.Mem.head _))))) hqm
                      subst hB hB' hA5
                      rw [HMQ.out] at c5
                      iterate 5 (refine wm_rd rfl rfl (fun K hK => ?_); go_simp; refine hK _ ?_; clear hK K)
                      refine wm_ld1 rfl rfl 3 (.tmp 153) rfl rfl CS.out _ Try.underlying3 rfl ?_
                      have H2 := H1
                      clear H1
                      iterate 14 (refine wm_rd rfl rfl (fun K hK => ?_); go_simp; refine hK _ ?_; clear hK K)
                      refine wm_ext rfl rfl (fun K hK => ?_)
                      go_simp
                      refine hK _ _ (Ext.refl _) ?_
                      clear hK K
                      iterate 6 (refine wm_rd rfl rfl (fun K hK => ?_); go_simp; refine hK _ ?_; clear hK K)
                      refine wm_ld1 rfl rfl 39 (.tmp 175) rfl rfl cB' _ Try.underlying39 rfl ?_
                      iterate 4 (refine wm_rd rfl rfl (fun K hK => ?_); go_simp; refine hK _ ?_; clear hK K)
                      refine wm_ld1 rfl rfl 3 (.tmp 180) rfl rfl c5 _ Try.underlying3 rfl ?_
                      iterate 2 (refine wm_rd rfl rfl (fun K hK => ?_); go_simp; refine hK _ ?_; clear hK K)
                      refine wm_nil ?_
                      have K4 := hide H2
                      clear H2 CS cB' c5
                      go_wp2_with fail
                      go_roundw
                      case rel => first | exact ⟨q + 1, by go_num, by omega, K4⟩ | exact ⟨q + 1, by go_num, by omega⟩
                      case measure => simp [intOf]; omega
                  · have HWT := hide (HAP.out.same q (.inr hf))
                    have e2 : (f != 0) = true := bne_iff_ne.2 hf
                    clear hqy
                    as_aux_lemma =>
                      go_upto_region 32 with fail
                      refine wp_region_wm [0, 1, 2, 3, 4, 5, 6, 7, 8, 9, 10, 11, 12, 13, 14, 15, 16, 17, 18, 19, 20, 21, 22, 23, 24, 25, 26, 27, 28, 29, 30, 31, 32, 33, 34] (by kernel_rfl) (by kernel_rfl) (by kernel_rfl) (by kernel_rfl) ?_
                      have H1 := K3.out.drew
                      clear K3
                      generalize World.drew _ = wd at *
                      have CS := hide (HCS.out _ H1.toExt)
                      obtain ⟨bd, C1, d1, hB, cB, rB⟩ := rows_at (H1.get (A := AsRows B vs (rowsS S)) (List.Mem.tail _ (List.Mem.head _))) hqS
                      obtain ⟨bd', C2, d2, hB', cB', rB'⟩ := rows_at (H1.get (A := AsRows B' vs' (rowsS S')) (List.Mem.head _)) hqS'
                      obtain ⟨ad5, hA5, c5⟩ := i64s_at (own_i64 (H1.owns (e := 3) (List.Mem.tail _ (List.Mem.tail _ (List.Mem.head _))))) hqm
                      subst hB hB' hA5
                      rw [HMQ.out] at c5
                      iterate 5 (refine wm_rd rfl rfl (fun K hK => ?_); go_simp; refine hK _ ?_; clear hK K)
                      refine wm_ld1 rfl rfl 3 (.tmp 153) rfl rfl CS.out _ Try.underlying3 rfl ?_
                      iterate 9 (refine wm_rd rfl rfl (fun K hK => ?_); go_simp; refine hK _ ?_; clear hK K)
                      refine wm_ld1 rfl rfl 39 (.tmp 163) rfl rfl cB _ Try.underlying39 rfl ?_
                      iterate 3 (refine wm_rd rfl rfl (fun K hK => ?_); go_simp; refine hK _ ?_; clear hK K)
                      refine wm_ld1 rfl rfl 39 (.tmp 167) rfl rfl cB' _ Try.underlying39 rfl ?_
                      have JO := hide (owners_any (wt S q) (wt S' q) C1 C2 d1 d2 wd rB rB' HLS.out HLS'.out)
                      rw [decide_eq_true HWT.out] at JO
                      have CB' := hide cB'
                      have C5 := hide c5
                      clear cB cB' c5 rB rB'
                      refine wm_ext rfl rfl (fun K hK => ?_)
                      go_simp
                      go_at_call 16
                      (with_reducible refine JO.out.mono ?_)
                      rintro e wb ⟨rfl, hx⟩
                      refine hK _ _ hx ?_
                      have H2 := H1.ext hx
                      have cB' := cellE hx CB'.out
                      have c5 := cellE hx C5.out
                      clear hK K hx CB' C5 JO H1
                      iterate 6 (refine wm_rd rfl rfl (fun K hK => ?_); go_simp; refine hK _ ?_; clear hK K)
                      refine wm_ld1 rfl rfl 39 (.tmp 175) rfl rfl cB' _ Try.underlying39 rfl ?_
                      iterate 4 (refine wm_rd rfl rfl (fun K hK => ?_); go_simp; refine hK _ ?_; clear hK K)
                      refine wm_ld1 rfl rfl 3 (.tmp 180) rfl rfl c5 _ Try.underlying3 rfl ?_
                      iterate 2 (refine wm_rd rfl rfl (fun K hK => ?_); go_simp; refine hK _ ?_; clear hK K)
                      refine wm_nil ?_
                      have K4 := hide H2
                      clear H2 CS cB' c5
                      go_wp2_with fail
                      go_roundw
                      case rel => first | exact ⟨q + 1, by go_num, by omega, K4⟩ | exact ⟨q + 1, by go_num, by omega⟩
                      case measure => simp [intOf]; omega
                · have HWT := hide (HAP.out.same q (.inl hqy))
                  have eq1 : ((q : Int) != y) = true := bne_iff_ne.2 hqy
                  as_aux_lemma =>
                    go_upto_region 32 with fail
                    refine wp_region_wm [0, 1, 2, 3, 4, 5, 6, 7, 8, 9, 10, 11, 12, 13, 14, 15, 16, 17, 18, 19, 20, 21, 22, 23, 24, 25, 26, 27, 28, 29, 30, 31, 32, 33, 34] (by kernel_rfl) (by kernel_rfl) (by kernel_rfl) (by kernel_rfl) ?_
                    have H1 := K3.out.drew
                    clear K3
                    generalize World.drew _ = wd at *
                    have CS := hide (HCS.out _ H1.toExt)
                    obtain ⟨bd, C1, d1, hB, cB, rB⟩ := rows_at (H1.get (A := AsRows B vs (rowsS S)) (List.Mem.tail _ (List.Mem.head _))) hqS
                    obtain ⟨bd', C2, d2, hB', cB', rB'⟩ := rows_at (H1.get (A := AsRows B' vs' (rowsS S')) (List.Mem.head _)) hqS'
                    obtain ⟨ad5, hA5, c5⟩ := i64s_at (own_i64 (H1.owns (e := 3) (List.Mem.tail _ (List.Mem.tail _ (List.Mem.head _))))) hqm
                    subst hB hB' hA5
                    rw [HMQ.out] at c5
                    iterate 5 (refine wm_rd rfl rfl (fun K hK => ?_); go_simp; refine hK _ ?_; clear hK K)
                    refine wm_ld1 rfl rfl 3 (.tmp 153) rfl rfl CS.out _ Try.underlying3 rfl ?_
                    iterate 9 (refine wm_rd rfl rfl (fun K hK => ?_); go_simp; refine hK _ ?_; clear hK K)
                    refine wm_ld1 rfl rfl 39 (.tmp 163) rfl rfl cB _ Try.underlying39 rfl ?_
                    iterate 3 (refine wm_rd rfl rfl (fun K hK => ?_); go_simp; refine hK _ ?_; clear hK K)
                    refine wm_ld1 rfl rfl 39 (.tmp 167) rfl rfl cB' _ Try.underlying39 rfl ?_
                    have JO := hide (owners_any (wt S q) (wt S' q) C1 C2 d1 d2 wd rB rB' HLS.out HLS'.out)
                    rw [decide_eq_true HWT.out] at JO
                    have CB' := hide cB'
                    have C5 := hide c5
                    clear cB cB' c5 rB rB'
                    refine wm_ext rfl rfl (fun K hK => ?_)
                    go_simp
                    go_at_call 16
                    (with_reducible refine JO.out.mono ?_)
                    rintro e wb ⟨rfl, hx⟩
                    refine hK _ _ hx ?_
                    have H2 := H1.ext hx
                    have cB' := cellE hx CB'.out
                    have c5 := cellE hx C5.out
                    clear hK K hx CB' C5 JO H1
                    iterate 6 (refine wm_rd rfl rfl (fun K hK => ?_); go_simp; refine hK _ ?_; clear hK K)
                    refine wm_ld1 rfl rfl 39 (.tmp 175) rfl rfl cB' _ Try.underlying39 rfl ?_
                    iterate 4 (refine wm_rd rfl rfl (fun K hK => ?_); go_simp; refine hK _ ?_; clear hK K)
                    refine wm_ld1 rfl rfl 3 (.tmp 180) rfl rfl c5 _ Try.underlying3 rfl ?_
                    iterate 2 (refine wm_rd rfl rfl (fun K hK => ?_); go_simp; refine hK _ ?_; clear hK K)
                    refine wm_nil ?_
                    have K4 := hide H2
                    clear H2 CS cB' c5
                    go_wp2_with fail
                    go_roundw
                    case rel => first | exact ⟨q + 1, by go_num, by omega, K4⟩ | exact ⟨q + 1, by go_num, by omega⟩
                    case measure => simp [intOf]; omega
              · obtain rfl : q = m.length := by omega
                have hqi : ¬ ((m.length : Nat) : Int) < (m.length : Int) := by omega
                have cs := HCS.out _ K3.out.toExt
                go_upto_region 35 with fail
                clear cs
                have hm := HM.out
                by_cases hj : m8 < 2
                · by_cases hy0 : 0 ≤ y
                  · by_cases hyl : y < (m.length : Int)
                    · obtain ⟨s, hys⟩ : ∃ s : Nat, y = (s : Int) := ⟨y.toNat, by omega⟩
                      have hqm : s < m.length := by omega
                      have hqS : s < S.length := by rw [HSL.out]; exact hqm
                      have HMQ : Hid (m[s] = ((lm S s : Nat) : Int)) := hide (by
                        have e := limsS_get hqS
                        simp only [HL.out] at e
                        exact e)
                      have hff := HAP.out.full (decide_eq_true hj) s hys hqS
                      have hb : ((((wt S s).length : Nat) : Int) == ((lm S s : Nat) : Int)) = (f == 5) := by
                        by_cases h5 : f = 5
                        · rw [beq_iff_eq.2 h5, beq_iff_eq]; have := hff.2 h5; omega
                        · rw [beq_eq_false_iff_ne.2 h5, beq_eq_false_iff_ne]; exact fun e => h5 (hff.1 (by omega))
                      have hbb : ((f == 5) != (f == 5)) = false := bne_self_eq_false _
                      clear hff
                      subst hys
                      as_aux_lemma =>
                        go_upto_region 35 with fail
                        refine wp_region_wm [0, 1, 2, 3, 4, 5, 6, 7, 8, 9, 10, 11, 12, 13, 14, 15, 16, 17, 18, 19, 20, 21, 22, 23, 24, 25, 26, 27, 28, 29, 30, 31] (by kernel_rfl) (by kernel_rfl) (by kernel_rfl) (by kernel_rfl) ?_
                        have H1 := K3.out.drew
                        clear K3
                        generalize World.drew _ = wd at *
                        have CW := hide (HCW.out _ H1.toExt)
                        obtain ⟨bd, C1, d1, hB, cB, rB⟩ := rows_at (H1.get (A := AsRows B vs (rowsS S)) (List.Mem.tail _ (List.Mem.head _))) hqS
                        obtain ⟨ad5, hA5, c5⟩ := i64s_at (own_i64 (H1.owns (e := 3) (List.Mem.tail _ (List.Mem.tail _ (List.Mem.head _))))) hqm
                        subst hB hA5
                        rw [HMQ.out] at c5
                        iterate 4 (refine wm_rd rfl rfl (fun K hK => ?_); go_simp; refine hK _ ?_; clear hK K)
                        refine wm_ld1 rfl rfl 5 (.tmp 192) rfl rfl CW.out _ Try.underlying5 rfl ?_
                        iterate 16 (refine wm_rd rfl rfl (fun K hK => ?_); go_simp; refine hK _ ?_; clear hK K)
                        refine wm_ld1 rfl rfl 39 (.tmp 209) rfl rfl cB _ Try.underlying39 rfl ?_
                        iterate 4 (refine wm_rd rfl rfl (fun K hK => ?_); go_simp; refine hK _ ?_; clear hK K)
                        refine wm_ld1 rfl rfl 3 (.tmp 214) rfl rfl c5 _ Try.underlying3 rfl ?_
                        clear cB c5
                        iterate 5 (refine wm_rd rfl rfl (fun K hK => ?_); go_simp; refine hK _ ?_; clear hK K)
                        refine wm_nil ?_
                        have K4 := hide (H1.tail.tail)
                        clear H1 CW
                        go_wp2_with fail
                        go_roundw
                        case rel => exact ⟨k + 1, S', by go_num, by omega, HL'.out, K4⟩
                        case measure => simp [intOf]; omega
                    · clear hqi
                      as_aux_lemma =>
                        go_upto_region 35 with fail
                        refine wp_region_wm [0, 1, 2, 3, 4, 5, 6, 7, 8, 9, 10, 11, 12, 13, 14, 15, 16, 17, 18, 19, 20, 21, 22, 23, 24, 25, 26, 27, 28, 29, 30, 31] (by kernel_rfl) (by kernel_rfl) (by kernel_rfl) (by kernel_rfl) ?_
                        have H1 := K3.out.drew
                        clear K3
                        generalize World.drew _ = wd at *
                        have CW := hide (HCW.out _ H1.toExt)
                        iterate 4 (refine wm_rd rfl rfl (fun K hK => ?_); go_simp; refine hK _ ?_; clear hK K)
                        refine wm_ld1 rfl rfl 5 (.tmp 192) rfl rfl CW.out _ Try.underlying5 rfl ?_
                        iterate 27 (refine wm_rd rfl rfl (fun K hK => ?_); go_simp; refine hK _ ?_; clear hK K)
                        refine wm_nil ?_
                        have K4 := hide (H1.tail.tail)
                        clear H1 CW
                        go_wp2_with fail
                        go_roundw
                        case rel => exact ⟨k + 1, S', by go_num, by omega, HL'.out, K4⟩
                        case measure => simp [intOf]; omega
                  · clear hqi
                    as_aux_lemma =>
                      go_upto_region 35 with fail
                      refine wp_region_wm [0, 1, 2, 3, 4, 5, 6, 7, 8, 9, 10, 11, 12, 13, 14, 15, 16, 17, 18, 19, 20, 21, 22, 23, 24, 25, 26, 27, 28, 29, 30, 31] (by kernel_rfl) (by kernel_rfl) (by kernel_rfl) (by kernel_rfl) ?_
                      have H1 := K3.out.drew
                      clear K3
                      generalize World.drew _ = wd at *
                      have CW := hide (HCW.out _ H1.toExt)
                      iterate 4 (refine wm_rd rfl rfl (fun K hK => ?_); go_simp; refine hK _ ?_; clear hK K)
                      refine wm_ld1 rfl rfl 5 (.tmp 192) rfl rfl CW.out _ Try.underlying5 rfl ?_
                      iterate 27 (refine wm_rd rfl rfl (fun K hK => ?_); go_simp; refine hK _ ?_; clear hK K)
                      refine wm_nil ?_
                      have K4 := hide (H1.tail.tail)
                      clear H1 CW
                      go_wp2_with fail
                      go_roundw
                      case rel => exact ⟨k + 1, S', by go_num, by omega, HL'.out, K4⟩
                      case measure => simp [intOf]; omega
                · clear hqi
                  as_aux_lemma =>
                    go_upto_region 35 with fail
                    refine wp_region_wm [0, 1, 2, 3, 4, 5, 6, 7, 8, 9, 10, 11, 12, 13, 14, 15, 16, 17, 18, 19, 20, 21, 22, 23, 24, 25, 26, 27, 28, 29, 30, 31] (by kernel_rfl) (by kernel_rfl) (by kernel_rfl) (by kernel_rfl) ?_
                    have H1 := K3.out.drew
                    clear K3
                    generalize World.drew _ = wd at *
                    have CW := hide (HCW.out _ H1.toExt)
                    iterate 4 (refine wm_rd rfl rfl (fun K hK => ?_); go_simp; refine hK _ ?_; clear hK K)
                    refine wm_ld1 rfl rfl 5 (.tmp 192) rfl rfl CW.out _ Try.underlying5 rfl ?_
                    iterate 27 (refine wm_rd rfl rfl (fun K hK => ?_); go_simp; refine hK _ ?_; clear hK K)
                    refine wm_nil ?_
                    have K4 := hide (H1.tail.tail)
                    clear H1 CW
                    go_wp2_with fail
                    go_roundw
                    case rel => exact ⟨k + 1, S', by go_num, by omega, HL'.out, K4⟩
                    case measure => simp [intOf]; omega
        · have hlti : ¬ (k : Int) < (l.length : Int) := by omega
          have HX := hide HK.out.toExt
          clear HK
          go_wp2_with fail
          (with_reducible refine (awake_any _).mono ?_)
          rintro e w5 ⟨rfl, hx⟩
          have HX2 := hide (HX.out.trans hx)
          clear hx
          go_wp2_with fail
          go_ret
          exact ⟨rfl, HX2.out⟩
end Go.Proofs.Yteecgieigjfjiaa

