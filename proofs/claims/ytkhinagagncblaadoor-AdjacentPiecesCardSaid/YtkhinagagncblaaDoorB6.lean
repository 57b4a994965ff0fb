/- Seats side by side: Runs, Alone, Choices, by the reference. -/
import Derived.Test.YtkhinagagncblaaDoorB5
import Derived.Test.YtkhinagagncblaaDoorA16
namespace Go.Proofs.YtkhinagagncblaaDoor
open Go.RowKit Go.Gr Go.Ad
set_option linter.unusedVariables false
set_option linter.unusedSimpArgs false
attribute [local go_sem] rdOp rdAt rdUpon Cls forall_fr
theorem rad_runs' (v : Vn) (A : Option Addr) (c : Nat) (f : List Bool) (F : Option Addr) (d : Nat) (s : Int) (w : World) (h : Secs w A v.secs) (hc : v.secs.length ≤ c) (hw : VnW v)
    (hF : Rd w F (bls f)) (hd : f.length ≤ d) (hq : qE v f.length s = 0) :
    Calls Tryd.prog 32 #[.agg #[.int .i64 v.sh, .int .i64 v.ttl, .int .i64 v.ses, .slice A v.secs.length c], .slice F f.length d, .int .i64 s] w fun e w' =>
      ∃ v', e = .returned v' ∧ Sep No w w' [As.ownM 47 3 v' (runV (runsOf v f s))] := by
  obtain ⟨hok, hz, _, hl, j, rfl, hj⟩ := qE_zero hq
  obtain ⟨sc, hs⟩ : ∃ sc, v.secs[j]? = some sc := ⟨_, List.getElem?_eq_getElem hj⟩
  rw [runsOf_at hs]
  exact rad_runs v A c f F d j sc w h hc hw hok hz hF hd hl hs
set_option maxRecDepth 100000 in
set_option maxHeartbeats 4000000 in
theorem rad_Runs (v : Vn) (A : Option Addr) (c : Nat) (f : List Bool) (F : Option Addr) (d : Nat) (s : Int) (w : World) (h : Secs w A v.secs) (hc : v.secs.length ≤ c) (hw : VnW v)
    (hF : Rd w F (bls f)) (hd : f.length ≤ d) :
    Calls Tryd.prog 12 #[.agg #[.int .i64 v.sh, .int .i64 v.ttl, .int .i64 v.ses, .slice A v.secs.length c], .slice F f.length d, .int .i64 s] w fun e w' =>
      ∃ v', e = .returned (.tuple #[v', .int .i64 (qE v f.length s)]) ∧ Sep No w w' [As.ownM 47 3 v' (runV (runsR v f s))] := by
  have HQ := hide (fun (y : World) (k : Ext w y) => rad_check v A c F f.length d s y (h.ext k) hc hw)
  have HR := hide (fun (y : World) (k : Ext w y) (hq : qE v f.length s = 0) => rad_runs' v A c f F d s y (h.ext k) hc hw (hF.ext k) hd hq)
  clear h hc hw hF hd
  have K0 := (Sep.refl No w).add 24 [.int .i64 v.sh, .int .i64 v.ttl, .int .i64 v.ses, .slice A v.secs.length c]
  go_enter Tryd.func12, Tryd.ntmps12
  go_wp2_with fail
  (with_reducible refine (HQ.out _ K0.toExt).mono ?_)
  rintro e w1 ⟨rfl, hx⟩
  have K1 := hide (K0.ext hx)
  clear K0 hx HQ
  obtain ⟨c0, c1, c2, c3, cz⟩ := blk4 (K1.out.blk (List.Mem.head _))
  by_cases hq : qE v f.length s = 0
  · have HE : Hid (runsR v f s = runsOf v f s) := hide (by unfold runsR; rw [if_pos hq])
    have HRR := hide (HR.out w1 K1.out.toExt hq)
    have HQ0 := hide hq
    clear HR
    rw [hq]
    go_wp2_with fail
    (with_reducible refine HRR.out.mono ?_)
    rintro e w2 ⟨v', rfl, hS⟩
    have K2 := hide ((K1.out.joinW hS))
    clear HRR hS c0 c1 c2 c3 cz
    obtain ⟨B, bc, rfl, _⟩ := nilM_form K2.out
    go_wp2_with fail
    refine bodyPost_ret (results_tmp2 rfl _ _ _) rfl ?_
    refine ⟨_, by rw [HQ0.out]; rfl, ?_⟩
    rw [HE.out]
    exact K2.out.sub (List.Sublist.cons_cons _ (List.nil_sublist _))
  · have HE : Hid (runsR v f s = []) := hide (by unfold runsR; rw [if_neg hq])
    have e1 : (qE v f.length s != 0) = true := bne_iff_ne.2 hq
    clear hq HR
    go_wp2_with fail
    refine bodyPost_ret (results_tmp2 rfl _ _ _) rfl ?_
    refine ⟨.slice none 0 0, rfl, ?_⟩
    rw [HE.out]
    exact (K1.out.tail).nilM _ _
theorem alone_step {l : List Run} {i : Nat} {r : Run} (h : l[i]? = some r) : aloneN (l.take (i + 1)) = aloneN (l.take i) + (if r.many = 1 then 1 else 0) := by
  rw [take_next1 h, aloneN_append]; simp [aloneN]
set_option maxRecDepth 100000 in
set_option maxHeartbeats 4000000 in
theorem rad_alone (v : Vn) (A : Option Addr) (c : Nat) (f : List Bool) (F : Option Addr) (d : Nat) (s : Int) (w : World) (h : Secs w A v.secs) (hc : v.secs.length ≤ c) (hw : VnW v)
    (hF : Rd w F (bls f)) (hd : f.length ≤ d) (hq : qE v f.length s = 0) :
    Calls Tryd.prog 34 #[.agg #[.int .i64 v.sh, .int .i64 v.ttl, .int .i64 v.ses, .slice A v.secs.length c], .slice F f.length d, .int .i64 s] w fun e w' =>
      e = .returned (.int .i64 (aloneN (runsOf v f s) : Nat)) ∧ Ext w w' := by
  have HR := hide (fun (y : World) (k : Ext w y) => rad_runs' v A c f F d s y (h.ext k) hc hw (hF.ext k) hd hq)
  have HFEW := hide (runsOf_few (qE_zero hq).1 f s)
  clear h hc hw hF hd hq
  have K0 := hide ((Sep.refl No w).add 24 [.int .i64 v.sh, .int .i64 v.ttl, .int .i64 v.ses, .slice A v.secs.length c])
  go_enter Tryd.func34, Tryd.ntmps34
  go_wp2_with fail
  (with_reducible refine (HR.out _ K0.out.toExt).mono ?_)
  rintro e w2 ⟨v', rfl, hS⟩
  have K2 := hide ((K0.out.joinW hS).sub (List.Sublist.cons_cons _ (List.nil_sublist _)))
  clear HR hS K0
  obtain ⟨B, bc, rfl, hbc⟩ := nilM_form K2.out
  rw [runV_len] at K2 hbc ⊢
  obtain ⟨l, hl⟩ : ∃ l, runsOf v f s = l := ⟨_, rfl⟩
  rw [hl] at K2 hbc HFEW
  rw [hl]
  have HL := hide hl
  clear hl
  go_wp2_with fail
  go_loopw [8, 9] (fun v8 v9 wr => ∃ (i t : Nat), v9 = .int .i64 i ∧ v8 = .int .i64 t ∧ i ≤ l.length ∧ Hid (t = aloneN (l.take i)) ∧ wr = w2) (fun _ v9 _ => l.length - (intOf v9).toNat)
  case atStart => exact ⟨0, 0, rfl, rfl, by omega, hide rfl, rfl⟩
  case round =>
    obtain ⟨i, t, rfl, rfl, hi, HT, rfl⟩ := hrel
    have hib : i ≤ 2000 := by have := HFEW.out; omega
    have htb : t ≤ 2000 := by
      have := aloneN_le (l.take i)
      rw [List.length_take] at this
      rw [HT.out]; omega
    by_cases hlt : i < l.length
    · have hli : (i : Int) < (l.length : Int) := by omega
      obtain ⟨r, hr⟩ : ∃ r, l[i]? = some r := ⟨_, List.getElem?_eq_getElem hlt⟩
      obtain ⟨g, gc, e, _, x0, x1, x2⟩ := own_run K2.out (List.Mem.head _) hr
      cases e
      have hic : (i : Int) < (bc : Int) := by omega
      have HST := hide (alone_step hr)
      have HLT := hide hlt
      by_cases h1 : r.many = 1
      · have e1 : ((r.many : Int) == 1) = true := beq_iff_eq.2 (by omega)
        rw [if_pos h1] at HST
        clear hr hlt h1
        go_wp2_with fail
        clear x0 x1 x2
        go_roundw
        case rel => exact ⟨i + 1, t + 1, by go_num, by go_num, HLT.out, hide (by rw [HST.out, HT.out]), by first | trivial | rfl⟩
        case measure => have := HLT.out; simp [intOf]; omega
      · have e1 : ((r.many : Int) == 1) = false := beq_eq_false_iff_ne.2 (by omega)
        rw [if_neg h1] at HST
        clear hr hlt h1
        go_wp2_with fail
        clear x0 x1 x2
        go_roundw
        case rel => exact ⟨i + 1, t, by go_num, rfl, HLT.out, hide (by rw [HST.out, HT.out]; rfl), by first | trivial | rfl⟩
        case measure => have := HLT.out; simp [intOf]; omega
    · have hli : ¬ (i : Int) < (l.length : Int) := by omega
      obtain rfl : i = l.length := by omega
      have HT2 : Hid (t = aloneN l) := hide (by rw [HT.out, List.take_of_length_le (Nat.le_refl _)])
      clear hlt HT
      go_wp2_with fail
      go_ret
      exact ⟨by rw [HL.out, ← HT2.out]; rfl, K2.out.toExt⟩
set_option maxRecDepth 100000 in
set_option maxHeartbeats 4000000 in
theorem rad_Alone (v : Vn) (A : Option Addr) (c : Nat) (f : List Bool) (F : Option Addr) (d : Nat) (s : Int) (w : World) (h : Secs w A v.secs) (hc : v.secs.length ≤ c) (hw : VnW v)
    (hF : Rd w F (bls f)) (hd : f.length ≤ d) :
    Calls Tryd.prog 14 #[.agg #[.int .i64 v.sh, .int .i64 v.ttl, .int .i64 v.ses, .slice A v.secs.length c], .slice F f.length d, .int .i64 s] w fun e w' =>
      e = .returned (.tuple #[.int .i64 (aloneE v f s), .int .i64 (qE v f.length s)]) ∧ Ext w w' := by
  have HQ := hide (fun (y : World) (k : Ext w y) => rad_check v A c F f.length d s y (h.ext k) hc hw)
  have HR := hide (fun (y : World) (k : Ext w y) (hq : qE v f.length s = 0) => rad_alone v A c f F d s y (h.ext k) hc hw (hF.ext k) hd hq)
  clear h hc hw hF hd
  have K0 := (Sep.refl No w).add 24 [.int .i64 v.sh, .int .i64 v.ttl, .int .i64 v.ses, .slice A v.secs.length c]
  go_enter Tryd.func14, Tryd.ntmps14
  go_wp2_with fail
  (with_reducible refine (HQ.out _ K0.toExt).mono ?_)
  rintro e w1 ⟨rfl, hx⟩
  have K1 := hide (K0.ext hx)
  clear K0 hx HQ
  obtain ⟨c0, c1, c2, c3, cz⟩ := blk4 (K1.out.blk (List.Mem.head _))
  by_cases hq : qE v f.length s = 0
  · have HE : Hid (aloneE v f s = ((aloneN (runsOf v f s) : Nat) : Int)) := hide (by unfold aloneE; rw [if_pos hq])
    have HRR := hide (HR.out w1 K1.out.toExt hq)
    have HQ0 := hide hq
    clear HR
    rw [hq]
    go_wp2_with fail
    (with_reducible refine HRR.out.mono ?_)
    rintro e w2 ⟨rfl, hx⟩
    go_wp2_with fail
    refine bodyPost_ret (results_tmp2 rfl _ _ _) rfl ?_
    exact ⟨by rw [HE.out, HQ0.out]; rfl, K1.out.toExt.trans hx⟩
  · have HE : Hid (aloneE v f s = 0) := hide (by unfold aloneE; rw [if_neg hq])
    have e1 : (qE v f.length s != 0) = true := bne_iff_ne.2 hq
    clear hq HR
    go_wp2_with fail
    refine bodyPost_ret (results_tmp2 rfl _ _ _) rfl ?_
    exact ⟨by rw [HE.out]; rfl, K1.out.toExt⟩
/-- first seats of choices -/
def fsts (l : List (Run × Nat × Nat)) : List Int := l.map fun x => ((x.1.first + x.2.1 : Nat) : Int)
theorem fsts_app (l m : List (Run × Nat × Nat)) : fsts (l ++ m) = fsts l ++ fsts m := by simp [fsts]
theorem chs_step {l : List Run} {i n : Nat} {r : Run} (h : l[i]? = some r) : chs (l.take (i + 1)) n = chs (l.take i) n ++ chR n r := by
  rw [take_next1 h, chs_app]; simp [chs]
theorem i64s_app (l m : List Int) : i64s (l ++ m) = i64s l ++ i64s m := by simp [i64s]
theorem fstR_step {n k : Nat} {r : Run} (h : k + n ≤ r.many) (hn : 1 ≤ n) : fsts ((chR n r).take (k + 1)) = fsts ((chR n r).take k) ++ [((r.first + k : Nat) : Int)] := by
  rw [take_next1 (chR_at (n := n) (r := r) (k := k) (by omega)), fsts_app]; rfl
set_option maxRecDepth 100000 in
set_option maxHeartbeats 4000000 in
theorem rad_choices (v : Vn) (A : Option Addr) (c : Nat) (f : List Bool) (F : Option Addr) (d n : Nat) (s : Int) (w : World) (h : Secs w A v.secs) (hc : v.secs.length ≤ c) (hw : VnW v)
    (hF : Rd w F (bls f)) (hd : f.length ≤ d) (hq : qE v f.length s = 0) (hn1 : 1 ≤ n) (hn2 : n ≤ 64) :
    Calls Tryd.prog 37 #[.agg #[.int .i64 v.sh, .int .i64 v.ttl, .int .i64 v.ses, .slice A v.secs.length c], .slice F f.length d, .int .i64 s, .int .i64 (n : Nat)] w fun e w' =>
      ∃ v', e = .returned v' ∧ Sep No w w' [As.own 3 v' (i64s (fsts (chs (runsOf v f s) n)))] := by
  obtain ⟨i0, ki, kz0, kz1, kz2⟩ := info_parts infoI
  have HR := hide (fun (y : World) (k : Ext w y) => rad_runs' v A c f F d s y (h.ext k) hc hw (hF.ext k) hd hq)
  have HFEW := hide (runsOf_few (qE_zero hq).1 f s)
  have HSML := hide (runs_small (qE_zero hq).1 (qE_zero hq).2.2.2.1 s)
  clear h hc hw hF hd hq
  have K0 := hide ((Sep.refl No w).add 24 [.int .i64 v.sh, .int .i64 v.ttl, .int .i64 v.ses, .slice A v.secs.length c])
  go_enter Tryd.func37, Tryd.ntmps37
  go_wp2_with fail
  (with_reducible refine (HR.out _ K0.out.toExt).mono ?_)
  rintro e w2 ⟨v', rfl, hS⟩
  have K2 := ((K0.out.joinW hS).sub (List.Sublist.cons_cons _ (List.nil_sublist _)))
  clear HR hS K0
  obtain ⟨B, bc, rfl, hbc⟩ := nilM_form K2
  rw [runV_len] at K2 hbc ⊢
  obtain ⟨l, hl⟩ : ∃ l, runsOf v f s = l := ⟨_, rfl⟩
  rw [hl] at K2 hbc HFEW HSML
  rw [hl]
  have HL := hide hl
  clear hl
  have K3 := hide (K2.nilO 3)
  clear K2
  go_wp2_with fail
  go_loopw [10, 11] (fun v10 v11 wr => ∃ (i : Nat) (vo : Value), v11 = .int .i64 i ∧ v10 = vo ∧ i ≤ l.length ∧ Hid (Sep No w wr [As.own 3 vo (i64s (fsts (chs (l.take i) n))), As.ownM 47 3 (.slice B l.length bc) (runV l)])) (fun _ v11 _ => l.length - (intOf v11).toNat)
  case atStart => exact ⟨0, _, rfl, rfl, by omega, K3⟩
  case round =>
    obtain ⟨i, vo, rfl, rfl, hi, K4⟩ := hrel
    clear K3
    have hib : i ≤ 2000 := by have := HFEW.out; omega
    by_cases hlt : i < l.length
    · have hli : (i : Int) < (l.length : Int) := by omega
      obtain ⟨r, hr⟩ : ∃ r, l[i]? = some r := ⟨_, List.getElem?_eq_getElem hlt⟩
      have hrs := HSML.out r (List.mem_of_getElem? hr)
      have hr1 := hrs.2.1
      have hr2 := hrs.2.2
      have HR := hide hr
      have HST := hide (chs_step (n := n) hr)
      have HCF : Hid ((chs (l.take i) n).length ≤ 40010000) := hide (chs_few _ n (fun x hx => HSML.out x (List.mem_of_mem_take hx)) (by rw [List.length_take]; omega))
      have HLT := hide hlt
      have hic : (i : Int) < (bc : Int) := by omega
      clear hr hlt hrs
      go_wp2_with fail
      go_loopw [10, 12] (fun v10 v12 wy => ∃ (k : Nat) (vo : Value), v12 = .int .i64 k ∧ v10 = vo ∧ k ≤ r.many + 1 - n ∧ Hid (Sep No w wy [As.own 3 vo (i64s (fsts (chs (l.take i) n) ++ fsts ((chR n r).take k))), As.ownM 47 3 (.slice B l.length bc) (runV l)])) (fun _ v12 _ => r.many + 1 - n - (intOf v12).toNat)
      case atStart => exact ⟨0, _, rfl, rfl, by omega, by rw [List.take_zero]; simpa [fsts] using K4⟩
      case round =>
        obtain ⟨k, vp, rfl, rfl, hk, K5⟩ := hrel
        clear K4
        have hkb : k ≤ 20001 := by omega
        obtain ⟨g, gc, e, _, x0, x1, x2⟩ := own_run K5.out (List.Mem.tail _ (List.Mem.head _)) HR.out
        cases e
        by_cases hkm : k + n ≤ r.many
        · have hkmi : (k : Int) + (n : Int) ≤ (r.many : Int) := by omega
          have HRS := hide (fstR_step hkm hn1)
          have HKM := hide hkm
          have HOUT : Hid ((i64s (fsts (chs (l.take i) n) ++ fsts ((chR n r).take k))).length < 1000000000) := hide (by
            have := HCF.out
            simp only [i64s, fsts, List.length_map, List.length_append, List.length_take, chR_len]
            omega)
          have tok1 : True := trivial
          clear hkm
          go_wp2_with (have zz := tok1; clear zz tok1; refine wpList_pushS [] K5.out rfl (.tmp 34) (.tmp 42) 36 rfl i0 _ 8 Tryd.underlying36 ki kz0 kz1 kz2 rfl rfl rfl rfl HOUT.out (by decide) ?_; intro v7 w7 K7; dsimp only [List.nil_append, List.cons_append] at K7; have KK7 := hide K7; clear K7)
          clear x0 x1 x2
          go_roundw
          case rel =>
            refine ⟨k + 1, _, by go_num, rfl, by have := HKM.out; omega, hide ?_⟩
            rw [HRS.out, ← List.append_assoc, i64s_app]
            exact KK7.out
          case measure => have := HKM.out; simp [intOf]; omega
        · have hkmi : ¬ (k : Int) + (n : Int) ≤ (r.many : Int) := by omega
          have HTK : Hid ((chR n r).take k = chR n r) := hide (List.take_of_length_le (by rw [chR_len]; omega))
          rw [HTK.out] at K5
          clear hkm
          go_wp2_with fail
          clear x0 x1 x2
          go_roundw
          case rel =>
            refine ⟨i + 1, _, by go_num, rfl, HLT.out, hide ?_⟩
            rw [HST.out, fsts_app]
            exact K5.out
          case measure => have := HLT.out; simp [intOf]; omega
    · have hli : ¬ (i : Int) < (l.length : Int) := by omega
      obtain rfl : i = l.length := by omega
      rw [List.take_of_length_le (Nat.le_refl _)] at K4
      clear hlt
      go_wp2_with fail
      go_ret
      refine ⟨_, rfl, ?_⟩
      rw [HL.out]
      exact K4.out.sub (List.Sublist.cons_cons _ (List.nil_sublist _))
end Go.Proofs.YtkhinagagncblaaDoor
