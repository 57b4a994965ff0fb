/- Seats side by side: Runs and Alone, by the program. -/
import Derived.Test.YtkhinagagncblaaDoorA9
import Derived.Test.YtkhinagagncblaaDoorJoin
namespace Go.Proofs.YtkhinagagncblaaDoor
open Go.RowKit Go.Gr Go.Ad
set_option linter.unusedVariables false
set_option linter.unusedSimpArgs false
attribute [local go_sem] rdOp rdAt rdUpon Cls forall_fr
/-- the runs of a section -/
def runsOf (v : Vn) (f : List Bool) (s : Int) : List Run := match v.secs[s.toNat]? with
  | some sc => secRuns f 0 (fst0 v.secs s.toNat) sc.rowsN
  | none => []
def runsR (v : Vn) (f : List Bool) (s : Int) : List Run := if qE v f.length s = 0 then runsOf v f s else []
theorem runsOf_at {v : Vn} {f : List Bool} {j : Nat} {sc : Sc} (h : v.secs[j]? = some sc) : runsOf v f (j : Int) = secRuns f 0 (fst0 v.secs j) sc.rowsN := by
  unfold runsOf; rw [Int.toNat_natCast, h]
/-- a question without errors: the runs, as the program makes them -/
theorem ad_runs' (v : Vn) (A : Option Addr) (c : Nat) (f : List Bool) (F : Option Addr) (d : Nat) (s : Int) (w : World) (h : Secs w A v.secs) (hc : v.secs.length ≤ c) (hw : VnW v)
    (hF : Rd w F (bls f)) (hd : f.length ≤ d) (hq : qE v f.length s = 0) :
    Calls Tryd.prog 30 #[.agg #[.int .i64 v.sh, .int .i64 v.ttl, .int .i64 v.ses, .slice A v.secs.length c], .slice F f.length d, .int .i64 s] w fun e w' =>
      ∃ v', e = .returned v' ∧ Sep No w w' [As.ownM 47 3 v' (runV (runsOf v f s))] := by
  obtain ⟨hok, hz, _, hl, j, rfl, hj⟩ := qE_zero hq
  obtain ⟨sc, hs⟩ : ∃ sc, v.secs[j]? = some sc := ⟨_, List.getElem?_eq_getElem hj⟩
  rw [runsOf_at hs]
  exact ad_runs v A c f F d j sc w h hc hw hok hz hF hd hl hs
theorem nilM_form {w0 w : World} {v : Value} {rows : List (List Value)} {L : List As} {e : TypeId} {k : Nat} (h : Sep No w0 w (As.ownM e k v rows :: L)) : ∃ B c, v = .slice B rows.length c ∧ rows.length ≤ c := by
  obtain ⟨B, c, e, _, hc, _⟩ := (h.ownsM (List.Mem.head _)).form
  exact ⟨B, c, e, hc⟩
set_option maxRecDepth 100000 in
set_option maxHeartbeats 4000000 in
theorem ad_Runs (v : Vn) (A : Option Addr) (c : Nat) (f : List Bool) (F : Option Addr) (d : Nat) (s : Int) (w : World) (h : Secs w A v.secs) (hc : v.secs.length ≤ c) (hw : VnW v)
    (hF : Rd w F (bls f)) (hd : f.length ≤ d) :
    Calls Tryd.prog 11 #[.agg #[.int .i64 v.sh, .int .i64 v.ttl, .int .i64 v.ses, .slice A v.secs.length c], .slice F f.length d, .int .i64 s] w fun e w' =>
      ∃ v', e = .returned (.tuple #[v', .int .i64 (qE v f.length s)]) ∧ Sep No w w' [As.ownM 47 3 v' (runV (runsR v f s))] := by
  have HQ := hide (fun (y : World) (k : Ext w y) => ad_check v A c F f.length d s y (h.ext k) hc hw)
  have HR := hide (fun (y : World) (k : Ext w y) (hq : qE v f.length s = 0) => ad_runs' v A c f F d s y (h.ext k) hc hw (hF.ext k) hd hq)
  clear h hc hw hF hd
  have K0 := (Sep.refl No w).add 24 [.int .i64 v.sh, .int .i64 v.ttl, .int .i64 v.ses, .slice A v.secs.length c]
  go_enter Tryd.func11, Tryd.ntmps11
  go_wp2_with fail
  (with_reducible refine (HQ.out _ K0.toExt).mono ?_)
  rintro e w1 ⟨rfl, hx⟩
  have K1 := hide (K0.ext hx)
  clear K0 hx HQ
  obtain ⟨c0, c1, c2, c3, cz⟩ := blk4 (K1.out.blk (List.Mem.head _))
  by_cases hq : qE v f.length s = 0
  · have HE : Hid (runsR v f s = runsOf v f s) := hide (by unfold runsR; rw [if_pos hq])
    have HRR := hide (HR.out w1 K1.out.toExt hq)
    have HQ0 := hide hq
    clear HR
    rw [hq]
    go_wp2_with fail
    (with_reducible refine HRR.out.mono ?_)
    rintro e w2 ⟨v', rfl, hS⟩
    have K2 := hide ((K1.out.joinW hS))
    clear HRR hS c0 c1 c2 c3 cz
    obtain ⟨B, bc, rfl, _⟩ := nilM_form K2.out
    go_wp2_with fail
    refine bodyPost_ret (results_tmp2 rfl _ _ _) rfl ?_
    refine ⟨_, by rw [HQ0.out]; rfl, ?_⟩
    rw [HE.out]
    exact K2.out.sub (List.Sublist.cons_cons _ (List.nil_sublist _))
  · have HE : Hid (runsR v f s = []) := hide (by unfold runsR; rw [if_neg hq])
    have e1 : (qE v f.length s != 0) = true := bne_iff_ne.2 hq
    clear hq HR
    go_wp2_with fail
    refine bodyPost_ret (results_tmp2 rfl _ _ _) rfl ?_
    refine ⟨_, rfl, ?_⟩
    rw [HE.out]
    exact (K1.out.tail).nilM _ _
def aloneN (l : List Run) : Nat := (l.map fun r => if r.many = 1 then 1 else 0).sum
theorem aloneN_append (l m : List Run) : aloneN (l ++ m) = aloneN l + aloneN m := by simp [aloneN]
theorem aloneN_step {l : List Run} {i : Nat} {r : Run} (h : l[i]? = some r) : ((aloneN (l.take (i + 1)) : Nat) : Int) = ((aloneN (l.take i) : Nat) : Int) + oneE (r.many : Nat) := by
  rw [take_next1 h, aloneN_append]
  unfold oneE
  by_cases h1 : r.many = 1
  · rw [if_pos (by omega)]; simp [aloneN, h1]
  · rw [if_neg (by omega)]; simp [aloneN, h1]
theorem aloneN_le (l : List Run) : aloneN l ≤ l.length := by
  have := sum_le (l := l.map fun r => if r.many = 1 then 1 else 0) (b := 1) (by
    intro n hn
    obtain ⟨x, _, rfl⟩ := List.mem_map.1 hn
    split <;> omega)
  rw [List.length_map] at this
  unfold aloneN; omega
theorem runV_at {l : List Run} {i : Nat} {r : Run} (h : l[i]? = some r) : (runV l)[i]? = some (runC r) := by simp [runV, h]
/-- where a run of a list lies -/
theorem own_run {w0 w : World} {v : Value} {l : List Run} {L : List As} {i : Nat} {r : Run} (h : Sep No w0 w L) (hm : As.ownM 47 3 v (runV l) ∈ L) (hr : l[i]? = some r) :
    ∃ g c, v = .slice (some ⟨g, 0, none⟩) l.length c ∧ l.length ≤ c ∧ w.cell? ⟨g, i * 3, none⟩ = some (.int .i64 (r.row : Nat)) ∧ w.cell? ⟨g, i * 3 + 1, none⟩ = some (.int .i64 (r.first : Nat)) ∧ w.cell? ⟨g, i * 3 + 2, none⟩ = some (.int .i64 (r.many : Nat)) := by
  obtain ⟨g, c, e, hc, h5⟩ := (h.ownsM hm).at5 (by decide) (runV_at hr)
  rw [runV_len] at e hc
  obtain ⟨a, b, d⟩ := at5_3 h5
  exact ⟨g, c, e, hc, a, b, d⟩
theorem runsOf_few {v : Vn} (hok : VnOk v) (f : List Bool) (s : Int) : (runsOf v f s).length ≤ 2000 := by
  unfold runsOf
  split
  · rename_i sc hs
    have h1 := secRuns_few f sc.rowsN 0 (fst0 v.secs s.toNat)
    have ho := hok.sec sc (List.mem_of_getElem? hs)
    have h2 := sc_sum ho
    have h3 : sc.rowsN.length ≤ 16 := by unfold Sc.rowsN; rw [List.length_map]; exact ho.few
    unfold Sc.sum at h2
    omega
  · simp
/-- how many seats are alone -/
def aloneE (v : Vn) (f : List Bool) (s : Int) : Int := if qE v f.length s = 0 then ((aloneN (runsOf v f s) : Nat) : Int) else 0
set_option maxRecDepth 100000 in
set_option maxHeartbeats 4000000 in
theorem ad_Alone (v : Vn) (A : Option Addr) (c : Nat) (f : List Bool) (F : Option Addr) (d : Nat) (s : Int) (w : World) (h : Secs w A v.secs) (hc : v.secs.length ≤ c) (hw : VnW v)
    (hF : Rd w F (bls f)) (hd : f.length ≤ d) :
    Calls Tryd.prog 13 #[.agg #[.int .i64 v.sh, .int .i64 v.ttl, .int .i64 v.ses, .slice A v.secs.length c], .slice F f.length d, .int .i64 s] w fun e w' =>
      e = .returned (.tuple #[.int .i64 (aloneE v f s), .int .i64 (qE v f.length s)]) ∧ Ext w w' := by
  have HQ := hide (fun (y : World) (k : Ext w y) => ad_check v A c F f.length d s y (h.ext k) hc hw)
  have HR := hide (fun (y : World) (k : Ext w y) (hq : qE v f.length s = 0) => ad_runs' v A c f F d s y (h.ext k) hc hw (hF.ext k) hd hq)
  clear h hc hw hF hd
  have K0 := (Sep.refl No w).add 24 [.int .i64 v.sh, .int .i64 v.ttl, .int .i64 v.ses, .slice A v.secs.length c]
  go_enter Tryd.func13, Tryd.ntmps13
  go_wp2_with fail
  (with_reducible refine (HQ.out _ K0.toExt).mono ?_)
  rintro e w1 ⟨rfl, hx⟩
  have K1 := hide (K0.ext hx)
  clear K0 hx HQ
  obtain ⟨c0, c1, c2, c3, cz⟩ := blk4 (K1.out.blk (List.Mem.head _))
  by_cases hq : qE v f.length s = 0
  · have HE : Hid (aloneE v f s = ((aloneN (runsOf v f s) : Nat) : Int)) := hide (by unfold aloneE; rw [if_pos hq])
    have HQ0 := hide hq
    have HRR := hide (HR.out w1 K1.out.toExt hq)
    have HFEW := hide (runsOf_few (qE_zero hq).1 f s)
    clear HR
    rw [hq]
    go_wp2_with fail
    (with_reducible refine HRR.out.mono ?_)
    rintro e w2 ⟨v', rfl, hS⟩
    have K2 := hide ((K1.out.joinW hS).sub (List.Sublist.cons_cons _ (List.nil_sublist _)))
    clear HRR hS c0 c1 c2 c3 cz
    obtain ⟨B, bc, rfl, hbc⟩ := nilM_form K2.out
    rw [runV_len] at K2 hbc ⊢
    obtain ⟨l, hl⟩ : ∃ l, runsOf v f s = l := ⟨_, rfl⟩
    rw [hl] at K2 hbc HFEW HE
    rw [hl]
    clear hl K1
    go_wp2_with fail
    go_loopw [6, 23] (fun v6 v23 wr => ∃ (i t : Nat), v23 = .int .i64 i ∧ v6 = .int .i64 t ∧ i ≤ l.length ∧ Hid (t = aloneN (l.take i)) ∧ Hid (Sep No w wr [As.ownM 47 3 (.slice B l.length bc) (runV l)])) (fun _ v23 _ => l.length - (intOf v23).toNat)
    case atStart => exact ⟨0, 0, rfl, rfl, by omega, hide rfl, K2⟩
    case round =>
      obtain ⟨i, t, rfl, rfl, hi, HT, K3⟩ := hrel
      clear K2
      have hib : i ≤ 2000 := by have := HFEW.out; omega
      have htb : t ≤ 2000 := by
        have := aloneN_le (l.take i)
        rw [List.length_take] at this
        rw [HT.out]; omega
      by_cases hlt : i < l.length
      · have hli : (i : Int) < (l.length : Int) := by omega
        obtain ⟨r, hr⟩ : ∃ r, l[i]? = some r := ⟨_, List.getElem?_eq_getElem hlt⟩
        obtain ⟨g, gc, e, _, x0, x1, x2⟩ := own_run K3.out (List.Mem.head _) hr
        cases e
        have hic : (i : Int) < (bc : Int) := by omega
        have HST := hide (aloneN_step hr)
        have HLT := hide hlt
        have ho : oneE (r.many : Nat) = 0 ∨ oneE (r.many : Nat) = 1 := by unfold oneE; split <;> simp
        have HOO := hide ho
        clear hr hlt ho
        go_wp2_with fail
        (with_reducible refine (alone_one _ _).mono ?_)
        rintro e w4 ⟨rfl, rfl⟩
        clear x0 x1 x2
        have K4 := hide (K3.out.ext ((Ext.refl wr).alloc (.cells #[.int .i64 (r.row : Nat), .int .i64 (r.first : Nat), .int .i64 (r.many : Nat)] 47)))
        clear K3
        generalize wr.alloc _ = w5 at K4 ⊢
        obtain ⟨q, hqq⟩ : ∃ q, oneE (r.many : Nat) = q := ⟨_, rfl⟩
        rw [hqq] at HOO HST
        rw [hqq]
        have hq0 : 0 ≤ q ∧ q ≤ 1 := by rcases HOO.out with h | h <;> omega
        clear hqq
        go_wp2_with fail
        go_roundw
        case rel =>
          exact ⟨i + 1, aloneN (l.take (i + 1)), by go_num, by rw [HST.out, ← HT.out], HLT.out, hide rfl, K4⟩
        case measure => have := HLT.out; simp [intOf]; omega
      · have hli : ¬ (i : Int) < (l.length : Int) := by omega
        obtain rfl : i = l.length := by omega
        have HT2 := hide (show t = aloneN l by rw [HT.out, List.take_of_length_le (Nat.le_refl _)])
        clear hlt
        go_wp2_with fail
        refine bodyPost_ret (results_tmp2 rfl _ _ _) rfl ?_
        exact ⟨by rw [HE.out, ← HT2.out]; rfl, K3.out.toExt⟩
  · have HE : Hid (aloneE v f s = 0) := hide (by unfold aloneE; rw [if_neg hq])
    have e1 : (qE v f.length s != 0) = true := bne_iff_ne.2 hq
    clear hq HR
    go_wp2_with fail
    refine bodyPost_ret (results_tmp2 rfl _ _ _) rfl ?_
    exact ⟨by rw [HE.out]; rfl, K1.out.toExt⟩
end Go.Proofs.YtkhinagagncblaaDoor
