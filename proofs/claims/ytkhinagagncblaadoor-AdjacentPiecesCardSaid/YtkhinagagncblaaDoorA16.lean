/- Seats side by side: Pieces, by the program. -/
import Derived.Test.YtkhinagagncblaaDoorA15
namespace Go.Proofs.YtkhinagagncblaaDoor
open Go.RowKit Go.Gr Go.Ad
set_option linter.unusedVariables false
set_option linter.unusedSimpArgs false
attribute [local go_sem] rdOp rdAt rdUpon Cls forall_fr
def sumM (l : List Run) : Nat := (l.map Run.many).sum
theorem sumM_step {l : List Run} {i : Nat} {r : Run} (h : l[i]? = some r) : sumM (l.take (i + 1)) = sumM (l.take i) + r.many := by
  rw [take_next1 h]; simp [sumM]
theorem sumM_le {l : List Run} (h : Small l) : sumM l ≤ l.length * 20000 := by
  have := sum_le (l := l.map Run.many) (b := 20000) (by
    intro n hn
    obtain ⟨r, hr, rfl⟩ := List.mem_map.1 hn
    exact (h r hr).2.2)
  rwa [List.length_map] at this
/-- how many seats the run at a place has -/
def mny (l : List Run) (j : Nat) : Nat := (l[j]?.map Run.many).getD 0
theorem mny_at {l : List Run} {j : Nat} {r : Run} (h : l[j]? = some r) : mny l j = r.many := by unfold mny; rw [h]; rfl
/-- the place of the longest run among the first ones, the first of those -/
def lg (l : List Run) : Nat → Nat
  | 0 => 0
  | i + 1 => if mny l (lg l i) < mny l i then i else lg l i
theorem lg_lt (l : List Run) : ∀ i, 0 < i → lg l i < i
  | 0, h => by omega
  | i + 1, _ => by
    unfold lg
    split
    · omega
    · rcases Nat.eq_zero_or_pos i with rfl | hi
      · show 0 < 1; omega
      · have := lg_lt l i hi; omega
theorem lg_le (l : List Run) (i : Nat) : lg l i ≤ i := by
  rcases Nat.eq_zero_or_pos i with rfl | hi
  · exact Nat.le_refl _
  · exact Nat.le_of_lt (lg_lt l i hi)
/-- the pieces -/
def pcsGo : Nat → List Run → Nat → List Run
  | 0, _, _ => []
  | k + 1, l, n => match bestL (chs l n) with
    | some x => [⟨x.1.row, x.1.first + x.2.1, n⟩]
    | none => match l[lg l l.length]? with
      | some r => r :: pcsGo k (l.eraseIdx (lg l l.length)) (n - r.many)
      | none => []
def pcs (l : List Run) (n : Nat) : List Run := pcsGo (l.length + 1) l n
theorem pcs_some {l : List Run} {n : Nat} {x : Run × Nat × Nat} (h : bestL (chs l n) = some x) : pcs l n = [⟨x.1.row, x.1.first + x.2.1, n⟩] := by unfold pcs pcsGo; rw [h]
theorem pcs_none {l : List Run} {n : Nat} {r : Run} (h : bestL (chs l n) = none) (hr : l[lg l l.length]? = some r) : pcs l n = r :: pcs (l.eraseIdx (lg l l.length)) (n - r.many) := by
  have hi := (List.getElem?_eq_some_iff.1 hr).1
  have : (l.eraseIdx (lg l l.length)).length + 1 = l.length := by rw [List.length_eraseIdx, if_pos hi]; omega
  unfold pcs
  rw [this, pcsGo, h]
  simp only [hr]
theorem bestL_none {l : List (Run × Nat × Nat)} (h : bestL l = none) : l = [] := by
  cases l with
  | nil => rfl
  | cons a l =>
    exfalso
    have key : ∀ (l : List (Run × Nat × Nat)) (y : Run × Nat × Nat), l.foldl stB (some y) ≠ none := by
      intro l
      induction l with
      | nil => intro y h; cases h
      | cons b l ih =>
        intro y
        rw [List.foldl_cons]
        simp only [stB]
        split <;> exact ih _
    exact key l a h
theorem no_choice {l : List Run} {n : Nat} (h : bestL (chs l n) = none) (hn : 0 < n) : ∀ r ∈ l, r.many < n := by
  intro r hr
  have h0 := bestL_none h
  rcases Nat.lt_or_ge r.many n with h1 | h1
  · exact h1
  · exfalso
    have : (r, 0, r.many - n - 0) ∈ chs l n := List.mem_flatMap.2 ⟨r, hr, List.mem_map.2 ⟨0, List.mem_range.2 (by omega), rfl⟩⟩
    rw [h0] at this
    cases this
theorem small_erase {l : List Run} (h : Small l) (i : Nat) : Small (l.eraseIdx i) := fun r hr => h r (List.mem_of_mem_eraseIdx hr)
theorem sumM_erase {l : List Run} {i : Nat} {r : Run} (h : l[i]? = some r) : sumM (l.eraseIdx i) + r.many = sumM l := by
  have hi := (List.getElem?_eq_some_iff.1 h).1
  have hs : l = l.take i ++ r :: l.drop (i + 1) := by
    rw [List.getElem?_eq_getElem hi] at h
    conv => lhs; rw [← List.take_append_drop i l, List.drop_eq_getElem_cons hi, Option.some.inj h]
  rw [erase_eq]
  conv => rhs; rw [hs]
  simp [sumM]; omega
/-- runs have seats -/
def PosR (l : List Run) : Prop := ∀ r ∈ l, 0 < r.many
/-- what is wrong with a question for pieces -/
def pE (v : Vn) (f : List Bool) (s n : Int) : Int :=
  if qE v f.length s ≠ 0 then qE v f.length s else if n < 1 ∨ 64 < n then 7 else if ((sumM (runsOf v f s) : Nat) : Int) < n then 15 else 0
def pL (v : Vn) (f : List Bool) (s n : Int) : List Run := if pE v f s n = 0 then pcs (runsOf v f s) n.toNat else []
theorem runsOf_pos (v : Vn) (f : List Bool) (s : Int) : PosR (runsOf v f s) := by
  intro r hr
  unfold runsOf at hr
  split at hr
  · exact (secRuns_low _ _ _ r hr).2.2.2
  · cases hr
def lenV : Value → Nat
  | .slice _ n _ => n
  | _ => 0
theorem pos_erase {l : List Run} (h : PosR l) (i : Nat) : PosR (l.eraseIdx i) := fun r hr => h r (List.mem_of_mem_eraseIdx hr)
/-- one run less, in place -/
theorem sep_del {w0 w w' : World} {L1 L2 : List As} {l l' : List Run} {g c n n' : Nat} (H : Sep No w0 w (L1 ++ As.ownM 47 3 (.slice (some ⟨g, 0, none⟩) n c) (runV l) :: L2)) (hO : OwnM w' 47 3 (.slice (some ⟨g, 0, none⟩) n' c) (runV l')) (hu : Upd g w w') :
    Sep No w0 w' (L1 ++ As.ownM 47 3 (.slice (some ⟨g, 0, none⟩) n' c) (runV l') :: L2) :=
  H.upd (A := As.ownM 47 3 (.slice (some ⟨g, 0, none⟩) n c) (runV l)) (B := As.ownM 47 3 (.slice (some ⟨g, 0, none⟩) n' c) (runV l')) (Fr.of_upd hu) (fun i hi => by cases hi; rfl) hO (fun i hi => .inl hi)
set_option maxRecDepth 100000 in
set_option maxHeartbeats 8000000 in
theorem ad_Pieces (v : Vn) (A : Option Addr) (c : Nat) (f : List Bool) (F : Option Addr) (d : Nat) (s n : Int) (w : World) (h : Secs w A v.secs) (hc : v.secs.length ≤ c) (hw : VnW v)
    (hF : Rd w F (bls f)) (hd : f.length ≤ d) :
    Calls Tryd.prog 21 #[.agg #[.int .i64 v.sh, .int .i64 v.ttl, .int .i64 v.ses, .slice A v.secs.length c], .slice F f.length d, .int .i64 s, .int .i64 n] w fun e w' =>
      ∃ v', e = .returned (.tuple #[v', .int .i64 (pE v f s n)]) ∧ Sep No w w' [As.ownM 47 3 v' (runV (pL v f s n))] := by
  obtain ⟨i0, ki, kz0, kz1, kz2⟩ := info_parts infoA
  have HQ := hide (fun (y : World) (k : Ext w y) => ad_check v A c F f.length d s y (h.ext k) hc hw)
  have HR := hide (fun (y : World) (k : Ext w y) (hq : qE v f.length s = 0) => ad_runs' v A c f F d s y (h.ext k) hc hw (hF.ext k) hd hq)
  clear h hc hw hF hd
  have K0 := (Sep.refl No w).add 24 [.int .i64 v.sh, .int .i64 v.ttl, .int .i64 v.ses, .slice A v.secs.length c]
  go_enter Tryd.func21, Tryd.ntmps21
  go_wp2_with fail
  (with_reducible refine (HQ.out _ K0.toExt).mono ?_)
  rintro e w1 ⟨rfl, hx⟩
  have K1 := hide (K0.ext hx)
  clear K0 hx HQ
  obtain ⟨c0, c1, c2, c3, cz⟩ := blk4 (K1.out.blk (List.Mem.head _))
  by_cases hq : qE v f.length s = 0
  rotate_left
  · have HE : Hid (pE v f s n = qE v f.length s) := hide (by unfold pE; rw [if_pos hq])
    have HL : Hid (pL v f s n = []) := hide (by unfold pL; rw [HE.out, if_neg hq])
    have e1 : (qE v f.length s != 0) = true := bne_iff_ne.2 hq
    clear hq HR
    go_wp2_with fail
    refine bodyPost_ret (results_tmp2 rfl _ _ _) rfl ?_
    refine ⟨.slice none 0 0, by rw [HE.out]; rfl, ?_⟩
    rw [HL.out]; exact (K1.out.tail).nilM _ _
  have HRR := hide (HR.out w1 K1.out.toExt hq)
  have HFEW := hide (runsOf_few (qE_zero hq).1 f s)
  have HSML := hide (runs_small (qE_zero hq).1 (qE_zero hq).2.2.2.1 s)
  have HPOS := hide (runsOf_pos v f s)
  clear HR
  rw [hq]
  by_cases hn : n < 1 ∨ 64 < n
  · have HE : Hid (pE v f s n = 7) := hide (by unfold pE; rw [if_neg (by simpa using hq), if_pos hn])
    have HL : Hid (pL v f s n = []) := hide (by unfold pL; rw [HE.out]; rfl)
    by_cases hn1 : n < 1
    · clear hq HRR hn
      go_wp2_with fail
      refine bodyPost_ret (results_tmp2 rfl _ _ _) rfl ?_
      refine ⟨.slice none 0 0, by rw [HE.out]; rfl, ?_⟩
      rw [HL.out]; exact (K1.out.tail).nilM _ _
    · have hn2 : 64 < n := by omega
      clear hq HRR hn
      go_wp2_with fail
      refine bodyPost_ret (results_tmp2 rfl _ _ _) rfl ?_
      refine ⟨.slice none 0 0, by rw [HE.out]; rfl, ?_⟩
      rw [HL.out]; exact (K1.out.tail).nilM _ _
  have hn1 : ¬ n < 1 := by omega
  have hn2 : ¬ 64 < n := by omega
  obtain ⟨n, rfl⟩ : ∃ k : Nat, n = k := ⟨n.toNat, by omega⟩
  have HN1 : Hid (1 ≤ n) := hide (by omega)
  have HN2 : Hid (n ≤ 64) := hide (by omega)
  have HPE : Hid (pE v f s (n : Int) = if ((sumM (runsOf v f s) : Nat) : Int) < (n : Int) then 15 else 0) := hide (by unfold pE; rw [if_neg (by simpa using hq), if_neg hn])
  have HPL : Hid (pL v f s (n : Int) = if pE v f s (n : Int) = 0 then pcs (runsOf v f s) n else []) := hide (by unfold pL; rw [Int.toNat_natCast])
  clear hn hq
  go_wp2_with fail
  (with_reducible refine HRR.out.mono ?_)
  rintro e w3 ⟨v', rfl, hS⟩
  have K3 := (K1.out.joinW hS).sub (List.Sublist.cons_cons _ (List.nil_sublist _))
  clear HRR hS c0 c1 c2 c3 cz K1 hn1 hn2
  obtain ⟨B, bc, rfl, hbc⟩ := nilM_form K3
  rw [runV_len] at K3 hbc ⊢
  obtain ⟨l, hl⟩ : ∃ l, runsOf v f s = l := ⟨_, rfl⟩
  rw [hl] at K3 hbc HFEW HSML HPE HPL HPOS
  rw [hl]
  clear hl
  have KK := hide K3
  clear K3
  go_wp2_with fail
  go_loopw [12, 40] (fun v12 v40 wr => ∃ (i t : Nat), v40 = .int .i64 i ∧ v12 = .int .i64 t ∧ i ≤ l.length ∧ Hid (t = sumM (l.take i)) ∧ Hid (Sep No w wr [As.ownM 47 3 (.slice B l.length bc) (runV l)])) (fun _ v40 _ => l.length - (intOf v40).toNat)
  case atStart => exact ⟨0, 0, rfl, rfl, by omega, hide rfl, KK⟩
  case round =>
    obtain ⟨i, t, rfl, rfl, hi, HT, K3⟩ := hrel
    clear KK
    have hib : i ≤ 2000 := by have := HFEW.out; omega
    have htb : t ≤ 40000000 := by
      have h1 := sumM_le (l := l.take i) fun r hr => HSML.out r (List.mem_of_mem_take hr)
      have h2 : (l.take i).length ≤ 2000 := by rw [List.length_take]; omega
      have := Nat.mul_le_mul_right 20000 h2
      rw [HT.out]; omega
    by_cases hlt : i < l.length
    · have hli : (i : Int) < (l.length : Int) := by omega
      obtain ⟨r, hr⟩ : ∃ r, l[i]? = some r := ⟨_, List.getElem?_eq_getElem hlt⟩
      obtain ⟨g, gc, e, _, x0, x1, x2⟩ := own_run K3.out (List.Mem.head _) hr
      cases e
      have hic : (i : Int) < (bc : Int) := by omega
      have HST := hide (sumM_step hr)
      have HLT := hide hlt
      have hrm := (HSML.out r (List.mem_of_getElem? hr)).2.2
      clear hr hlt
      go_wp2_with fail
      clear x0 x1 x2
      have K4 := hide (K3.out.ext ((Ext.refl wr).alloc (.cells #[.int .i64 (r.row : Nat), .int .i64 (r.first : Nat), .int .i64 (r.many : Nat)] 47)))
      go_roundw
      case rel => exact ⟨i + 1, t + r.many, by go_num, by go_num, HLT.out, hide (by rw [HST.out, HT.out]), K4⟩
      case measure => have := HLT.out; simp [intOf]; omega
    · have hli : ¬ (i : Int) < (l.length : Int) := by omega
      obtain rfl : i = l.length := by omega
      have ht2 : t = sumM l := by rw [HT.out, List.take_of_length_le (Nat.le_refl _)]
      rw [← ht2] at HPE
      by_cases htn : t < n
      · have e1 : (t : Int) < (n : Int) := by omega
        have HE : Hid (pE v f s (n : Int) = 15) := hide (by rw [HPE.out, if_pos e1])
        have HL : Hid (pL v f s (n : Int) = []) := hide (by rw [HPL.out, HE.out]; rfl)
        clear hlt ht2 htn
        go_wp2_with fail
        refine bodyPost_ret (results_tmp2 rfl _ _ _) rfl ?_
        refine ⟨.slice none 0 0, by rw [HE.out]; rfl, ?_⟩
        rw [HL.out]; exact (K3.out.tail).nilM _ _
      · have e1 : ¬ (t : Int) < (n : Int) := by omega
        have HE : Hid (pE v f s (n : Int) = 0) := hide (by rw [HPE.out, if_neg e1])
        have HL : Hid (pL v f s (n : Int) = pcs l n) := hide (by rw [HPL.out, HE.out]; rfl)
        have HSUM : Hid (n ≤ sumM l) := hide (by omega)
        have K4 := hide (K3.out.nilM 47 3)
        clear hlt ht2 htn HPE HPL K3 HT htb
        go_wp2_with fail
        go_loopw [3, 11, 15] (fun v3 v11 v15 wr => ∃ (m : Nat) (l' : List Run) (B' : Option Addr) (bc' : Nat) (o : List Run) (vo : Value), v3 = .int .i64 m ∧ v11 = .slice B' l'.length bc' ∧ v15 = vo ∧ 1 ≤ m ∧ m ≤ 64 ∧ l'.length ≤ bc' ∧ Hid (l'.length ≤ 2000) ∧ Hid (Small l') ∧ Hid (PosR l') ∧ Hid (m ≤ sumM l') ∧ Hid (o ++ pcs l' m = pcs l n) ∧ Hid (o.length + l'.length ≤ 4000) ∧ Hid (Sep No w wr [As.ownM 47 3 vo (runV o), As.ownM 47 3 (.slice B' l'.length bc') (runV l')])) (fun _ v11 _ _ => lenV v11)
        case atStart => exact ⟨n, l, B, bc, [], _, rfl, rfl, rfl, HN1.out, HN2.out, hbc, HFEW, HSML, HPOS, HSUM, hide rfl, hide (by have := HFEW.out; simp; omega), K4⟩
        case round =>
          obtain ⟨m, l', B', bc', o, vo, rfl, rfl, rfl, hm1, hm2, hbc', HF2, HS2, HP2, HU2, HEQ, HOL, K5⟩ := hrel
          clear K4
          have HB := hide (ad_best l' B' bc' m wr (K5.out.ownsM (List.Mem.tail _ (List.Mem.head _))) HS2.out HF2.out hm1 hm2)
          have HOUT : Hid ((runV o).length < 100000) := hide (by rw [runV_len]; have := HOL.out; omega)
          go_wp2_with fail
          (with_reducible refine HB.out.mono ?_)
          rintro e w5 ⟨rfl, hx⟩
          have K6 := hide (K5.out.ext hx)
          clear K5 hx HB
          cases hb : bestL (chs l' m) with
          | some x =>
            obtain ⟨r, k, bb⟩ := x
            have HPC := hide (pcs_some hb)
            have hmm := chs_mem (bestL_mem hb)
            have hr := HS2.out r hmm.1
            have hf1 := hr.2.1
            have hk1 : k ≤ 20000 := by have := hmm.2.1; have := hr.2.2; simp only at *; omega
            clear hb hmm hr
            dsimp only [choV, choC, Option.isSome]
            go_upto_region 18 with fail
            have K6a := K6.out.add 66 [.int .i64 (r.row : Nat), .int .i64 (r.first : Nat), .int .i64 (r.many : Nat), .int .i64 (k : Nat), .int .i64 (bb : Nat)]
            clear K6
            generalize w5.alloc _ = w6 at K6a ⊢
            generalize w5.heap.size = g6 at K6a ⊢
            obtain ⟨y0, y1, y2, y3, y4, yz⟩ := blk5 (K6a.blk (List.Mem.head _))
            have tok1 : True := trivial
            go_wp2_with (have zz := tok1; clear zz tok1; refine wpList_pushM [] K6a.tail rfl (.tmp 59) (.tmp 71) 30 rfl i0 _ 24 Tryd.underlying30 ki kz0 kz1 kz2 rfl (by decide) rfl rfl (r := [.int .i64 (r.row : Nat), .int .i64 ((r.first : Int) + (k : Int)), .int .i64 (m : Nat)]) rfl (int3_one _ _ _) HOUT.out (by decide) ?_; intro v7 w7 K7; dsimp only [List.nil_append, List.cons_append] at K7)
            refine bodyPost_ret (results_tmp2 rfl _ _ _) rfl ?_
            refine ⟨v7, by rw [HE.out]; rfl, ?_⟩
            rw [HL.out, ← HEQ.out, HPC.out, runV_append]
            exact K7.sub (List.Sublist.cons_cons _ (List.nil_sublist _))
          | none =>
            have HNC := hide (no_choice hb hm1)
            have HBN := hide hb
            have hlp : 0 < l'.length := by
              rcases Nat.eq_zero_or_pos l'.length with h0 | h0
              · have : l' = [] := List.eq_nil_of_length_eq_zero h0
                have h1 := HU2.out
                rw [this] at h1
                simp [sumM] at h1
                omega
              · exact h0
            clear hb
            dsimp only [choV, Option.isSome]
            have HLP := hide hlp
            clear hlp
            go_wp2_with fail
            have K7 := hide (K6.out.ext ((Ext.refl w5).alloc (.cells #[.int .i64 0, .int .i64 0, .int .i64 0, .int .i64 0, .int .i64 0] 66)))
            clear K6
            generalize w5.alloc _ = w6 at *
            go_loopw [18, 75] (fun v18 v75 wy => ∃ i : Nat, v75 = .int .i64 i ∧ v18 = .int .i64 (lg l' i : Nat) ∧ i ≤ l'.length ∧ Hid (Sep No w wy [As.ownM 47 3 u15 (runV o), As.ownM 47 3 (.slice B' l'.length bc') (runV l')])) (fun _ v75 _ => l'.length - (intOf v75).toNat)
            case atStart => exact ⟨0, rfl, rfl, by omega, K7⟩
            case round =>
              obtain ⟨i, rfl, rfl, hi, K8⟩ := hrel
              clear K7
              have hib : i ≤ 2000 := by have := HF2.out; omega
              by_cases hlt : i < l'.length
              · have hli : (i : Int) < (l'.length : Int) := by omega
                obtain ⟨r, hr⟩ : ∃ r, l'[i]? = some r := ⟨_, List.getElem?_eq_getElem hlt⟩
                obtain ⟨p, hp⟩ : ∃ p, lg l' i = p := ⟨_, rfl⟩
                have hpi : p ≤ i := by rw [← hp]; exact lg_le l' i
                have hpl : p < l'.length := by omega
                obtain ⟨y, hy⟩ : ∃ y, l'[p]? = some y := ⟨_, List.getElem?_eq_getElem hpl⟩
                have HST : Hid (lg l' (i + 1) = if y.many < r.many then i else p) := hide (by rw [lg, hp, mny_at hr, mny_at hy])
                obtain ⟨g, gc, e, _, x0, x1, x2⟩ := own_run K8.out (List.Mem.tail _ (List.Mem.head _)) hr
                cases e
                have hic : (i : Int) < (bc' : Int) := by omega
                have hpc : (p : Int) < (bc' : Int) := by omega
                have hpli : (p : Int) < (l'.length : Int) := by omega
                rw [hp]
                have HLT := hide hlt
                have HY := hide hy
                clear hr hlt hp hpi hpl hy
                go_upto_region 23 with fail
                clear x0 x1 x2
                have K9 := K8.out.add 47 [.int .i64 (r.row : Nat), .int .i64 (r.first : Nat), .int .i64 (r.many : Nat)]
                clear K8
                generalize wr.alloc _ = w9 at K9 ⊢
                generalize wr.heap.size = g9 at K9 ⊢
                refine wp_region_wm [0, 1, 2, 3, 4, 5, 6, 7] (by kernel_rfl) (by kernel_rfl) (by kernel_rfl) (by kernel_rfl) ?_
                have K10 := K9.drew
                clear K9
                generalize World.drew _ = wd at *
                have b2 := (K10.blk (g := g9) (e := 47) (List.Mem.head _)).cell 2
                obtain ⟨g', gc', e', _, _, _, z2⟩ := own_run K10 (List.Mem.tail _ (List.Mem.tail _ (List.Mem.head _))) HY.out
                cases e'
                iterate 1 (refine wm_rd rfl rfl (fun K hK => ?_); go_simp; refine hK _ ?_; clear hK K)
                refine wm_ld1 rfl rfl 3 (.tmp 80) rfl rfl b2 _ Tryd.underlying3 rfl ?_
                iterate 4 (refine wm_rd rfl rfl (fun K hK => ?_); go_simp; refine hK _ ?_; clear hK K)
                refine wm_ld1 rfl rfl 3 (.tmp 85) rfl rfl z2 _ Tryd.underlying3 rfl ?_
                clear b2 z2
                have K11 := hide K10.tail
                clear K10
                by_cases hyr : y.many < r.many
                · have e3 : (y.many : Int) < (r.many : Int) := by omega
                  rw [if_pos hyr] at HST
                  clear hyr
                  iterate 1 (refine wm_rd rfl rfl (fun K hK => ?_); go_simp; refine hK _ ?_; clear hK K)
                  refine wm_nil ?_
                  go_wp2_with fail
                  go_roundw
                  case rel => exact ⟨i + 1, by go_num, by rw [HST.out], HLT.out, K11⟩
                  case measure => have := HLT.out; simp [intOf]; omega
                · have e3 : ¬ (y.many : Int) < (r.many : Int) := by omega
                  rw [if_neg hyr] at HST
                  clear hyr
                  iterate 1 (refine wm_rd rfl rfl (fun K hK => ?_); go_simp; refine hK _ ?_; clear hK K)
                  refine wm_nil ?_
                  go_wp2_with fail
                  go_roundw
                  case rel => exact ⟨i + 1, by go_num, by rw [HST.out], HLT.out, K11⟩
                  case measure => have := HLT.out; simp [intOf]; omega
              · have hli : ¬ (i : Int) < (l'.length : Int) := by omega
                obtain rfl : i = l'.length := by omega
                obtain ⟨p, hp⟩ : ∃ p, lg l' l'.length = p := ⟨_, rfl⟩
                have hpl : p < l'.length := by rw [← hp]; exact lg_lt l' _ HLP.out
                obtain ⟨y, hy⟩ : ∃ y, l'[p]? = some y := ⟨_, List.getElem?_eq_getElem hpl⟩
                have HPC := hide (pcs_none HBN.out (by rw [hp]; exact hy))
                rw [hp] at HPC ⊢
                have hym := HNC.out y (List.mem_of_getElem? hy)
                have hyp := HP2.out y (List.mem_of_getElem? hy)
                have HER := hide (sumM_erase hy)
                have HLE := hide (show (l'.eraseIdx p).length = l'.length - 1 by rw [List.length_eraseIdx, if_pos hpl])
                obtain ⟨g, gc, e, _, x0, x1, x2⟩ := own_run K8.out (List.Mem.tail _ (List.Mem.head _)) hy
                cases e
                have hpc : (p : Int) < (bc' : Int) := by omega
                have hpli : (p : Int) < (l'.length : Int) := by omega
                have HY := hide hy
                have HPL := hide hpl
                have HOUT2 := HOUT
                have hp2 : p ≤ 2000 := by omega
                have tok1 : True := trivial
                clear hlt hp hpl hy
                go_wp2_with (have zz := tok1; clear zz tok1; refine wpList_pushM [] K8.out rfl (.tmp 90) (.tmp 95) 30 rfl i0 _ 24 Tryd.underlying30 ki kz0 kz1 kz2 rfl (by decide) rfl rfl (r := [.int .i64 (y.row : Nat), .int .i64 (y.first : Nat), .int .i64 (y.many : Nat)]) rfl (int3_one _ _ _) HOUT2.out (by decide) ?_; intro v7 w7 K7; dsimp only [List.nil_append, List.cons_append] at K7; obtain ⟨g7, gc7, e7, _, z0, z1, z2⟩ := own_run K7 (List.Mem.tail _ (List.Mem.head _)) HY.out; cases e7; have KK7 := hide K7)
                clear x0 x1 x2 z0 z1 z2
                have HDEL := hide (delete_run l' g bc' p w7 (KK7.out.ownsM (List.Mem.tail _ (List.Mem.head _))) HPL.out HF2.out)
                have ec : ((p + 1 : Nat) : Int) = (p : Int) + 1 := by omega
                rw [ec] at HDEL
                clear ec
                go_wp2_with fail
                (with_reducible refine HDEL.out.mono ?_)
                rintro e w8 ⟨rfl, hO8, hu8⟩
                have K9 := hide (sep_del (L1 := [_]) KK7.out hO8 hu8)
                clear KK7 HDEL hO8 hu8
                go_wp2_with fail
                go_roundw
                case rel =>
                  refine ⟨m - y.many, l'.eraseIdx p, some ⟨g, 0, none⟩, bc', o ++ [y], v7, by go_num, by rw [HLE.out], rfl, by omega, by omega, by rw [HLE.out]; omega, hide (by rw [HLE.out]; have := HF2.out; omega), hide (small_erase HS2.out _), hide (pos_erase HP2.out _), hide (by have := HER.out; have := HU2.out; omega), hide ?_, hide ?_, hide ?_⟩
                  · rw [← HEQ.out, HPC.out, List.append_assoc]; rfl
                  · rw [List.length_append, HLE.out]; have := HOL.out; have := HPL.out; simp; omega
                  · rw [runV_append, HLE.out]; exact K9.out
                case measure => have := HPL.out; simp [lenV]; omega
end Go.Proofs.YtkhinagagncblaaDoor
