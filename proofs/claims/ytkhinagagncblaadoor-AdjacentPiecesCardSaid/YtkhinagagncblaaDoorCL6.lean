/- Seats side by side: the law AdjacentPieces walked. -/
import Derived.Test.YtkhinagagncblaaDoorC4
import Derived.Test.YtkhinagagncblaaDoorL3
import Derived.Deep.CutBlock
import Derived.Deep.DeepCutAuto
namespace Go.Gr
open Go.RowKit Go.Sort
section
variable {P : Program} {ops : Array Oper} {Q : Exit → Act → World → Prop} {R : RT} {j : Nat} {i : Nat} {o : Oper} {rest : List Nat} {a : Act} {w : World}
theorem wf_ld1 (hi : ops[i]? = some o) (hij : (i == j) = false) (hw : Region.wanted o (yielded ops a.tmps) = true) (ty : TypeId) (x : Operand) (ho : o.op = .load ty x) {ad : Addr} {v : Value} (hx : a.eval x = .pointer (some ad)) (hc : ∀ w', R.r w w' → w'.cell? ad = some v) (d : TypeDesc)
    (hu : P.underlying ty = some d) (hd : (match d with | .struct _ | .array _ _ => false | _ => true) = true) (h : WF R P ops Q j rest (a.put o.dst v) w) : WF R P ops Q j (i :: rest) a w := by
  refine wf_rd hi hij (by simp [isX, isExt, ho]) fun K hK => ?_
  rw [if_pos hw]
  exact rdOp_ld1 ty x ho hx hc d hu hd (hK _ h)
end
end Go.Gr
namespace Go.Proofs.YtkhinagagncblaaDoor
open Go.RowKit Go.Gr Go.Ad
set_option linter.unusedVariables false
set_option linter.unusedSimpArgs false
attribute [local go_sem] rdOp rdAt rdUpon Cls forall_fr
theorem blk2 {w : World} {g : Nat} {e : TypeId} {a b : Value} (h : Blk w g e [a, b]) : w.cell? ⟨g, 0, none⟩ = some a ∧ w.cell? ⟨g, 1, none⟩ = some b ∧ g < w.heap.size := ⟨h.cell 0, h.cell 1, h.lt⟩
/-- what a question is asked with -/
abbrev BX (w w' : World) (g g2 : Nat) (v : Vn) (A : Option Addr) (c : Nat) (s n : Int) : Prop := Sep No w w' [As.blk g2 27 [.int .i64 s, .int .i64 n], As.blk g 24 [.int .i64 v.sh, .int .i64 v.ttl, .int .i64 v.ses, .slice A v.secs.length c]]
/-- .. and the runs and the pieces; what is left, too -/
abbrev CX (w w' : World) (g g2 : Nat) (v : Vn) (A : Option Addr) (c : Nat) (s : Int) (m : Nat) (B3 : Option Addr) (n3 b3 : Nat) (l : List Run) (Bp : Option Addr) (bp : Nat) (P : List Run) : Prop := Sep No w w' [As.ownM 47 3 (.slice B3 n3 b3) (runV l), As.ownM 47 3 (.slice Bp P.length bp) (runV P), As.blk g2 27 [.int .i64 s, .int .i64 m], As.blk g 24 [.int .i64 v.sh, .int .i64 v.ttl, .int .i64 v.ses, .slice A v.secs.length c]]
abbrev DX (w w' : World) (g g2 : Nat) (v : Vn) (A : Option Addr) (c : Nat) (s : Int) (m : Nat) (B3 : Option Addr) (n3 b3 : Nat) (l : List Run) (Bp : Option Addr) (bp : Nat) (P : List Run) (F : Option Addr) (nf d : Nat) (f : List Bool) : Prop := Sep No w w' [As.own 4 (.slice F nf d) (bls f), As.ownM 47 3 (.slice B3 n3 b3) (runV l), As.ownM 47 3 (.slice Bp P.length bp) (runV P), As.blk g2 27 [.int .i64 s, .int .i64 m], As.blk g 24 [.int .i64 v.sh, .int .i64 v.ttl, .int .i64 v.ses, .slice A v.secs.length c]]
theorem own_rd {w0 w : World} {L : List As} {A : Option Addr} {n c : Nat} {f : List Bool} (h : Sep No w0 w L) (hm : As.own 4 (.slice A n c) (bls f) ∈ L) : Rd w A (bls f) := by
  obtain ⟨B', c', e', h3, _⟩ := (h.owns hm).form
  rw [bls_len] at e'
  simp only [Value.slice.injEq] at e'
  rw [e'.1]
  exact h3
theorem pE_le (v : Vn) (f : List Bool) (s n : Int) (h : pE v f s n = 0) : qE v f.length s = 0 ∧ 1 ≤ n ∧ n ≤ 64 ∧ n ≤ ((sumM (runsOf v f s) : Nat) : Int) := by
  unfold pE at h
  split at h
  · rename_i h1; exact absurd h h1
  · rename_i h1
    split at h
    · cases h
    · rename_i h2
      split at h
      · cases h
      · rename_i h3
        exact ⟨by simpa using h1, by omega, by omega, by omega⟩
theorem drop_cons {α : Type} {P : List α} {i : Nat} {x : α} (h : P[i]? = some x) : P.drop i = x :: P.drop (i + 1) := by
  have hi := (List.getElem?_eq_some_iff.1 h).1
  rw [List.getElem?_eq_getElem hi] at h
  rw [List.drop_eq_getElem_cons hi, Option.some.inj h]
/-- where the loop over the pieces stands -/
def Stg (v : Vn) (s : Int) (m : Nat) (P : List Run) (i : Nat) (f : List Bool) (t : Nat) : Prop := (i < P.length ∧ ∃ l me, PO v s f l me (P.drop i) ∧ t + me = m) ∨ (i = P.length ∧ t = m)
theorem stg_at {v : Vn} {s : Int} {m : Nat} {P : List Run} {i : Nat} {f : List Bool} {t : Nat} {x : Run} (h : Stg v s m P i f t) (hx : P[i]? = some x) : inRun v f s x.first x.many ∧ plE v (x.first : Nat) = 0 ∧ (plX v (x.first : Nat)).row = x.row ∧ 1 ≤ x.many ∧ t + x.many ≤ m ∧ Stg v s m P (i + 1) (off f x.first x.many) (t + x.many) := by
  have hi := (List.getElem?_eq_some_iff.1 hx).1
  rcases h with ⟨_, l, me, h1, h2⟩ | ⟨h1, _⟩
  · rw [drop_cons hx] at h1
    obtain ⟨g1, g2, g3, g4, g5, g6⟩ := h1.many
    refine ⟨g1, g2, g3, g4, by omega, ?_⟩
    rcases g6 with ⟨g6, g7⟩ | ⟨g6, g7, g8⟩
    · have := List.drop_eq_nil_iff.1 g6
      exact .inr ⟨by omega, by omega⟩
    · have hne : P.drop (i + 1) ≠ [] := fun e => by rw [e] at g8; exact g8.ne
      have : ¬ P.length ≤ i + 1 := fun e => hne (List.drop_eq_nil_iff.2 e)
      exact .inl ⟨by omega, _, _, g8, by omega⟩
  · omega
/-- where the loop over the longest runs stands -/
structure Mst (v : Vn) (s : Int) (m : Nat) (P : List Run) (k : Nat) (Z : List Run) (t : Nat) : Prop where
  po : ∃ f E me, PO v s f E me (P.drop k) ∧ t + me = m ∧ (mv Z).Perm (mv E ++ List.replicate k 0)
theorem mst_at {v : Vn} {s : Int} {m : Nat} {P : List Run} {k : Nat} {Z : List Run} {t : Nat} {z : Run} (h : Mst v s m P k Z t) (hk : k + 1 < P.length) (hz : Z[lg Z Z.length]? = some z) : t + z.many ≤ m ∧ Mst v s m P (k + 1) (Z.set (lg Z Z.length) ⟨z.row, z.first, 0⟩) (t + z.many) := by
  obtain ⟨f, E, me, h1, h2, h3⟩ := h.po
  obtain ⟨x, hx⟩ : ∃ x, P[k]? = some x := ⟨_, List.getElem?_eq_getElem (by omega)⟩
  rw [drop_cons hx] at h1
  obtain ⟨_, _, _, _, g5, g6⟩ := h1.many
  rcases g6 with ⟨g6, g7⟩ | ⟨g6, g7, g8⟩
  · have := List.drop_eq_nil_iff.1 g6
    omega
  · have e := most_at h3 g6 hz
    exact ⟨by omega, ⟨_, _, _, g8, by omega, most_next h3 g6 hz e⟩⟩
theorem mst_end {v : Vn} {s : Int} {m : Nat} {P : List Run} {k : Nat} {Z : List Run} {t : Nat} (h : Mst v s m P k Z t) : t < m := by
  obtain ⟨f, E, me, h1, h2, h3⟩ := h.po
  have := h1.pos
  omega
theorem runV_zero {Z : List Run} {i : Nat} {z : Run} : (runV Z).set i ((runC z).set 2 (.int .i64 0)) = runV (Z.set i ⟨z.row, z.first, 0⟩) := by simp [runV, runC, List.map_set]
set_option maxRecDepth 100000 in
set_option maxHeartbeats 8000000 in
theorem pieces_law (w : World) (_ : True) (v0 : Value) (h0 : ∃ cs, v0 = .agg cs ∧ Lvs Tryd.prog w [.int .i64, .int .i64, .int .i64, .slice 78] cs.toList) (v1 : Value) (h1 : LfOk Tryd.prog w (.slice 4) v1) (v2 : Value) (h2 : ∃ cs, v2 = .agg cs ∧ Lvs Tryd.prog w [.int .i64, .int .i64] cs.toList) : Calls Tryd.prog 7 #[v0, v1, v2] w fun e w' => e = .returned (.bool true) ∧ Ext w w' := by
  obtain ⟨v, A, c, rfl, hS, hc, hw⟩ := venue_arg h0
  obtain ⟨F, f, d, rfl, hF, hd, _⟩ := bools_arg h1
  obtain ⟨s, n, rfl⟩ := ask_arg h2
  clear h0 h1 h2
  have HFAR := hide (fun (y : World) (k : Ext w y) => far19 v A c F f.length d y (hS.ext k) hc hw)
  have HP := hide (fun (y : World) (k : Ext w y) => ad_Pieces v A c f F d s n y (hS.ext k) hc hw (hF.ext k) hd)
  have HR := hide (fun (y : World) (k : Ext w y) => ad_Runs v A c f F d s y (hS.ext k) hc hw (hF.ext k) hd)
  have HPL := hide (fun (y : World) (k : Ext w y) (i : Int) => rplace v A c i y (hS.ext k) hc hw)
  have HBE := hide (fun (y : World) (k : Ext w y) (f' : List Bool) (F' : Option Addr) (d' i n : Nat) (hF' : Rd y F' (bls f')) (hd' : f'.length ≤ d') (hq : qE v f'.length s = 0) (h1 : 1 ≤ n) (h2 : n ≤ 64) (hi : i ≤ 100000000) (hb : inRun v f' s i n) => beside_any v A c f' F' d' i n s true y (hS.ext k) hc hw hF' hd' hq h1 h2 hi ⟨fun _ => hb, fun _ => rfl⟩)
  have HWO := hide (fun (y : World) (f' : List Bool) (F' : Option Addr) (d' i m : Nat) (hF' : Rd y F' (bls f')) (hd' : f'.length ≤ d') (hi : i + m ≤ f'.length) (hl : f'.length ≤ 100000000) => lwithout f' F' d' i m y hF' hd' hi hl)
  have HF := hide (fun (y : World) (k : Ext w y) => hF.ext k)
  have HD := hide hd
  clear hS hF hw hc hd
  obtain ⟨i0, ki, kz0, kz1, kz2⟩ := info_parts infoB
  have HB1 := hide (bls_one f)
  have HBL : Hid ((bls f).length = f.length) := hide (bls_len f)
  have K0 := ((Sep.refl No w).add2 24 27 [.int .i64 v.sh, .int .i64 v.ttl, .int .i64 v.ses, .slice A v.secs.length c] [.int .i64 s, .int .i64 n])
  go_enter Tryd.func7, Tryd.ntmps7
  go_upto_region 1 with fail
  generalize World.alloc _ _ = w1 at K0 ⊢
  obtain ⟨g, hg⟩ : ∃ g, w.heap.size = g := ⟨_, rfl⟩
  obtain ⟨g2, hg2⟩ : ∃ g2, g + 1 = g2 := ⟨_, rfl⟩
  rw [hg, hg2] at K0 ⊢
  clear hg hg2
  have K1 : Hid (BX w w1 g g2 v A c s n) := hide K0
  clear K0
  obtain ⟨c0, c1, c2, c3, cz⟩ := blk4 (K1.out.blk (e := 24) (List.Mem.tail _ (List.Mem.head _)))
  go_wp2_with fail
  (with_reducible refine (HFAR.out _ K1.out.toExt).mono ?_)
  rintro e w2 ⟨⟨bb, rfl⟩, hx⟩
  have K2 : Hid (BX w w2 g g2 v A c s n) := hide (K1.out.ext hx)
  clear K1 hx HFAR c0 c1 c2 c3 cz
  cases bb
  rotate_left
  · go_wp2_with fail
    (with_reducible refine (awake_any _).mono ?_)
    rintro e w3 ⟨rfl, hx⟩
    go_wp2_with fail
    go_ret
    exact ⟨rfl, K2.out.toExt.trans hx⟩
  obtain ⟨c0, c1, c2, c3, cz⟩ := blk4 (K2.out.blk (e := 24) (List.Mem.tail _ (List.Mem.head _)))
  obtain ⟨a0, a1, az⟩ := blk2 (K2.out.blk (e := 27) (List.Mem.head _))
  go_wp2_with fail
  (with_reducible refine (HP.out _ K2.out.toExt).mono ?_)
  rintro e w3 ⟨v3, rfl, hS3⟩
  obtain ⟨Bp, bp, rfl, hbp⟩ := nilM_form' hS3
  have K3 := K2.out.joinW hS3
  dsimp only [List.nil_append, List.cons_append] at K3
  clear K2 hS3 HP c0 c1 c2 c3 cz a0 a1 az
  rw [runV_len] at K3 hbp ⊢
  by_cases hq : pE v f s n = 0
  rotate_left
  · have e2 : (pE v f s n != 0) = true := bne_iff_ne.2 hq
    have HL0 : Hid (pL v f s n = []) := hide (by unfold pL; rw [if_neg hq])
    rw [HL0.out] at K3 hbp ⊢
    clear hq
    have K3' := hide K3
    clear K3
    rw [show (([] : List Run).length) = 0 from rfl]
    generalize pE v f s n = pe at *
    go_wp2_with fail
    (with_reducible refine (awake_any _).mono ?_)
    rintro e w99 ⟨rfl, hx⟩
    go_wp2_with fail
    go_ret
    exact ⟨rfl, K3'.out.toExt.trans hx⟩
  obtain ⟨hq1, hn1, hn64, hsu⟩ := pE_le v f s n hq
  obtain ⟨m, rfl⟩ : ∃ k : Nat, n = k := ⟨n.toNat, by omega⟩
  have HPP : Hid (pL v f s (m : Int) = pcs (runsOf v f s) m) := hide (by unfold pL; rw [if_pos hq, Int.toNat_natCast])
  obtain ⟨hpo, hpl⟩ := pcs_po (v := v) (s := s) (runsOf v f s).length f hq1 rfl m (by omega) (by omega)
  have HRL : Hid (runsR v f s = runsOf v f s) := hide (by unfold runsR; rw [if_pos hq1])
  have HRF := hide (runsOf_few (qE_zero hq1).1 f s)
  have HPOS := hide (runsOf_pos v f s)
  have hfl := (qE_zero hq1).2.2.2.1
  have HFB := hide (show f.length ≤ 100000000 by have := (qE_zero hq1).1.sum; omega)
  have HFIT := hide (fun (f' : List Bool) (hl : f'.length = f.length) (i k : Nat) (h : inRun v f' s i k) => (show i + k ≤ f.length by
    obtain ⟨x, hx, h1, h2⟩ := h
    have := (runs_off (hl.trans hfl) hx).1
    omega))
  have HM1 : Hid (1 ≤ m) := hide (by omega)
  have hmb : m ≤ 64 := by omega
  have HQ := hide hq1
  rw [hq]
  rw [HPP.out] at K3 hbp ⊢
  obtain ⟨P, hP⟩ : ∃ P, pcs (runsOf v f s) m = P := ⟨_, rfl⟩
  rw [hP] at K3 hbp hpo hpl ⊢
  have hpos : 1 ≤ P.length := by
    rcases Nat.eq_zero_or_pos P.length with h0 | h0
    · rw [List.eq_nil_of_length_eq_zero h0] at hpo
      exact hpo.ne.elim
    · exact h0
  have K3' := hide K3
  have HPO : Hid (Stg v s m P 0 f 0) := hide (.inl ⟨hpos, _, _, hpo, by omega⟩)
  have HMS : Hid (Mst v s m P 0 (runsOf v f s) 0) := hide ⟨⟨f, _, m, hpo, by omega, by simp⟩⟩
  have HPL1 := hide hpl
  have HPL0 := hide hpos
  clear hq hq1 hn1 hn64 hsu hP hpo hpl hpos K3 HPP hfl
  obtain ⟨c0, c1, c2, c3, cz⟩ := blk4 (K3'.out.blk (e := 24) (List.Mem.tail _ (List.Mem.tail _ (List.Mem.head _))))
  obtain ⟨a0, a1, az⟩ := blk2 (K3'.out.blk (e := 27) (List.Mem.tail _ (List.Mem.head _)))
  go_wp2_with fail
  (with_reducible refine (HR.out _ K3'.out.toExt).mono ?_)
  rintro e w4 ⟨v4, rfl, hS4⟩
  obtain ⟨B3, b3, rfl, hb3⟩ := nilM_form' hS4
  have K4 := K3'.out.joinW hS4
  dsimp only [List.nil_append, List.cons_append] at K4
  clear K3' hS4 HR c0 c1 c2 c3 cz a0 a1 az
  rw [runV_len] at K4 hb3 ⊢
  rw [HQ.out]
  rw [HRL.out] at K4 hb3 ⊢
  obtain ⟨l, hl⟩ : ∃ l, runsOf v f s = l := ⟨_, rfl⟩
  rw [hl] at K4 hb3 HRF HPL1 HPOS HMS ⊢
  clear hl HRL
  have K4' : Hid (CX w w4 g g2 v A c s m B3 l.length b3 l Bp bp P) := hide K4
  clear K4
  have hp1 : ((P.length : Int) == 0) = false := beq_eq_false_iff_ne.2 (by have := HPL0.out; omega)
  have hp2 : ¬ (l.length : Int) < (P.length : Int) := by have := HPL1.out; omega
  have hfb3 : f.length ≤ 100000000 := HFB.out
  have KN := Sep.toOwn [] (K4'.out.newB ((Ext.refl w4).alloc (.cells #[] 4)) (Blk.new w4 4 []) (Nat.le_refl _)) (by simp)
  dsimp only [List.nil_append, List.length_nil] at KN
  have tok3 : True := trivial
  go_upto_region 10 with (have zz := tok3; clear zz tok3; with_reducible refine wpList_apS [] KN rfl (.tmp 64) (.tmp 65) 25 rfl i0 (.bool false) 1 Tryd.underlying25 ki kz0 kz1 kz2 rfl rfl (A := F) (m := f.length) (c := d) (news := bls f) rfl (by rw [HBL.out]) (HF.out _ KN.toExt) HB1.out (by have := HFB.out; rw [HBL.out]; simp; omega) (by have := HD.out; omega) ?_; intro v5 w5 K5; dsimp only [List.nil_append] at K5; have K5' := hide K5; clear K5 KN)
  obtain ⟨F', d', rfl, _, hd', _⟩ := (K5'.out.owns (List.Mem.head _)).form
  rw [HBL.out] at K5' hd' ⊢
  clear K4' hp1 hp2
  go_wp2_with fail
  go_loopw [11, 12, 13] (fun v11 v12 v13 wr => ∃ (i t : Nat) (F' : Option Addr) (d' : Nat) (fe : List Bool), v13 = .int .i64 i ∧ v12 = .int .i64 t ∧ v11 = .slice F' f.length d' ∧ i ≤ P.length ∧ t ≤ m ∧ f.length ≤ d' ∧ Hid (fe.length = f.length) ∧ Hid (Stg v s m P i fe t) ∧ Hid (DX w wr g g2 v A c s m B3 l.length b3 l Bp bp P F' f.length d' fe)) (fun _ _ v13 _ => P.length - (intOf v13).toNat)
  case atStart => exact ⟨0, 0, F', d', f, rfl, rfl, rfl, by omega, by omega, hd', hide rfl, HPO, K5'⟩
  case round =>
    obtain ⟨i, t, F', d', fe, rfl, rfl, rfl, hi, htm, hd', HFE, HST, K6⟩ := hrel
    clear K5' HPO
    have hib : i ≤ 2000 := by have := HRF.out; have := HPL1.out; omega
    by_cases hlt : i < P.length
    · have hli : (i : Int) < (P.length : Int) := by omega
      obtain ⟨r, hr⟩ : ∃ r, P[i]? = some r := ⟨_, List.getElem?_eq_getElem hlt⟩
      obtain ⟨hin, hE0, hrow, hm1, htx, hst2⟩ := stg_at HST.out hr
      have hfit := HFIT.out fe HFE.out _ _ hin
      have hfr : r.first ≤ 100000000 := by have := HFB.out; omega
      have HBI := hide (fun (y : World) (k : Ext w y) (F' : Option Addr) (d' : Nat) (hF' : Rd y F' (bls fe)) (hd' : f.length ≤ d') => by
        have := HBE.out y k fe F' d' r.first r.many hF' (by rw [HFE.out]; exact hd') (by rw [HFE.out]; exact HQ.out) hm1 (by omega) hfr hin
        rw [HFE.out] at this
        exact this)
      have HWI := hide (fun (y : World) (F' : Option Addr) (d' : Nat) (hF' : Rd y F' (bls fe)) (hd' : f.length ≤ d') => by
        have := HWO.out y fe F' d' r.first r.many hF' (by rw [HFE.out]; exact hd') (by rw [HFE.out]; exact hfit) (by rw [HFE.out]; exact HFB.out)
        rw [HFE.out] at this
        exact this)
      have HT3 : Hid ((off fe r.first r.many).length = f.length) := hide (by rw [off_len (by rw [HFE.out]; exact hfit)]; exact HFE.out)
      have HPLI : Hid (∀ (y : World) (k : Ext w y), Calls Tryd.prog 25 #[.agg #[.int .i64 v.sh, .int .i64 v.ttl, .int .i64 v.ses, .slice A v.secs.length c], .int .i64 (r.first : Nat)] y fun e w' => e = .returned (.tuple #[.agg #[.int .i64 ((plX v (r.first : Nat)).sec : Nat), .int .i64 (r.row : Nat), .int .i64 ((plX v (r.first : Nat)).seat : Nat)], .int .i64 0]) ∧ Ext y w') := hide (fun y k => by
        have := HPL.out y k (r.first : Nat)
        rw [hE0, hrow] at this
        exact this)
      have HLT := hide hlt
      have HRR := hide hr
      have HS2 := hide hst2
      have hm1' : ¬ (r.many : Int) < 1 := by omega
      have hm64' : ¬ (m : Int) < (r.many : Int) := by omega
      have hf0 : ¬ (r.first : Int) < 0 := by omega
      have hrm : r.many ≤ 64 := by omega
      clear hfit hin hr hlt hE0 hrow hst2 HST
      have hic : (i : Int) < (bp : Int) := by omega
      obtain ⟨gr, rc, e, _, _⟩ := own_run K6.out (List.Mem.tail _ (List.Mem.tail _ (List.Mem.head _))) HRR.out
      simp only [Value.slice.injEq, true_and] at e
      obtain ⟨rfl, rfl⟩ := e
      go_upto_region 14 with fail
      refine wp_region_wm [0, 1, 2, 3, 4, 5, 6, 7, 8, 9, 10, 11, 12, 13, 14, 15, 16, 17, 18, 19, 20, 21, 22, 23, 24, 25, 26, 27, 28, 29, 30, 31, 32, 33, 34, 35, 36, 37, 38, 39, 40, 41, 42] (by kernel_rfl) (by kernel_rfl) (by kernel_rfl) (by kernel_rfl) ?_
      have KD := K6.out.drew
      clear K6
      generalize World.drew _ = wd at *
      have b0 := (KD.blk (e := 24) (List.Mem.tail _ (List.Mem.tail _ (List.Mem.tail _ (List.Mem.tail _ (List.Mem.head _)))))).at5
      have s0 := (KD.blk (e := 27) (List.Mem.tail _ (List.Mem.tail _ (List.Mem.tail _ (List.Mem.head _))))).cell 0
      have s1 := (KD.blk (e := 27) (List.Mem.tail _ (List.Mem.tail _ (List.Mem.tail _ (List.Mem.head _))))).cell 1
      obtain ⟨_, _, e, _, x0, x1, x2⟩ := own_run KD (List.Mem.tail _ (List.Mem.tail _ (List.Mem.head _))) HRR.out
      cases e
      have hFr := own_rd KD (List.Mem.head _)
      have KE := hide KD
      clear KD
      iterate 4 (refine wm_rd rfl rfl (fun K hK => ?_); go_simp; refine hK _ ?_; clear hK K)
      refine wm_ld1 rfl rfl 3 (.tmp 76) rfl rfl x2 _ Tryd.underlying3 rfl ?_
      iterate 6 (refine wm_rd rfl rfl (fun K hK => ?_); go_simp; refine hK _ ?_; clear hK K)
      refine wm_ld1 rfl rfl 3 (.tmp 83) rfl rfl x2 _ Tryd.underlying3 rfl ?_
      iterate 1 (refine wm_rd rfl rfl (fun K hK => ?_); go_simp; refine hK _ ?_; clear hK K)
      refine wm_ld1 rfl rfl 3 (.tmp 85) rfl rfl s1 _ Tryd.underlying3 rfl ?_
      iterate 7 (refine wm_rd rfl rfl (fun K hK => ?_); go_simp; refine hK _ ?_; clear hK K)
      refine wm_ld1 rfl rfl 3 (.tmp 93) rfl rfl x1 _ Tryd.underlying3 rfl ?_
      iterate 3 (refine wm_rd rfl rfl (fun K hK => ?_); go_simp; refine hK _ ?_; clear hK K)
      refine wm_ldX rfl rfl 24 (.tmp 3) rfl b0 rfl _ Tryd.underlying24 rfl (by kernel_rfl) ?_
      iterate 5 (refine wm_rd rfl rfl (fun K hK => ?_); go_simp; refine hK _ ?_; clear hK K)
      refine wm_ld1 rfl rfl 3 (.tmp 103) rfl rfl x1 _ Tryd.underlying3 rfl ?_
      iterate 1 (refine wm_rd rfl rfl (fun K hK => ?_); go_simp; refine hK _ ?_; clear hK K)
      refine wm_ld1 rfl rfl 3 (.tmp 105) rfl rfl s0 _ Tryd.underlying3 rfl ?_
      iterate 4 (refine wm_rd rfl rfl (fun K hK => ?_); go_simp; refine hK _ ?_; clear hK K)
      refine wm_ld1 rfl rfl 3 (.tmp 110) rfl rfl x2 _ Tryd.underlying3 rfl ?_
      iterate 1 (refine wm_rd rfl rfl (fun K hK => ?_); go_simp; refine hK _ ?_; clear hK K)
      clear b0 s0 s1 x0 x1 x2
      refine wm_ext rfl rfl (fun K hK => ?_)
      go_simp
      go_at_call 23
      (with_reducible refine (HBI.out _ KE.out.toExt F' d' hFr hd').mono ?_)
      rintro e w7 ⟨rfl, hx⟩
      refine hK _ _ hx ?_
      clear hK K hFr
      have K7 := hide (KE.out.ext hx)
      clear hx KE HBI
      iterate 2 (refine wm_rd rfl rfl (fun K hK => ?_); go_simp; refine hK _ ?_; clear hK K)
      refine wm_nil ?_
      clear hm1' hm64' hf0
      obtain ⟨px, hpx⟩ : ∃ x, plX v (r.first : Nat) = x := ⟨_, rfl⟩
      rw [hpx] at HPLI
      clear hpx
      go_upto_region 16 with fail
      go_cut [14, 15] (fun v14 v15 wx => v15 = .int .i64 0 ∧ ∃ g14 : Nat, v14 = .pointer (some ⟨g14, 0, none⟩) ∧ Sep No w wx [As.blk g14 49 [.int .i64 (px.sec : Nat), .int .i64 (r.row : Nat), .int .i64 (px.seat : Nat)], As.own 4 (.slice F' f.length d') (bls fe), As.ownM 47 3 (.slice B3 l.length b3) (runV l), As.ownM 47 3 (.slice (some ⟨gr, 0, none⟩) P.length bp) (runV P), As.blk g2 27 [.int .i64 s, .int .i64 m], As.blk g 24 [.int .i64 v.sh, .int .i64 v.ttl, .int .i64 v.ses, .slice A v.secs.length c]])
      case first =>
        have H2 := K7.out.drew
        refine wp_region_wf (RT.up w7.drew.heap.size) 10 [0, 1, 2, 3, 4, 5, 6, 7, 8, 9, 10, 11, 12] (by kernel_rfl) (by kernel_rfl) (by kernel_rfl) (by kernel_rfl) (by kernel_rfl) ?_
        clear K7
        generalize World.drew _ = wd at *
        have hbv := H2.blk (e := 24) (List.Mem.tail _ (List.Mem.tail _ (List.Mem.tail _ (List.Mem.tail _ (List.Mem.head _)))))
        obtain ⟨_, _, e, _, x0, x1, x2⟩ := own_run H2 (List.Mem.tail _ (List.Mem.tail _ (List.Mem.head _))) HRR.out
        cases e
        have hgl := cell_lt x1
        dsimp only at hgl
        refine wf_ldX rfl rfl rfl 24 (.tmp 3) rfl (fun w' h' => hbv.at5.fr h' (by have := hbv.lt; omega)) rfl _ Tryd.underlying24 rfl (by kernel_rfl) ?_
        iterate 4 (refine wf_rd rfl rfl rfl (fun K hK => ?_); go_simp; refine hK _ ?_; clear hK K)
        refine wf_ld1 rfl rfl rfl 3 (.tmp 121) rfl rfl (fun w' h' => Fr.cell h' x1 (by dsimp only; omega)) _ Tryd.underlying3 rfl ?_
        have hle := H2.le
        clear hbv x0 x1 x2 hgl
        refine wf_ext rfl rfl rfl (fun K hK => ?_) ?_
        · go_simp
          go_at_call 25
          (with_reducible refine (HPLI.out _ H2.toExt).mono ?_)
          rintro e w8 ⟨rfl, hx2⟩
          refine hK _ _ (hx2.up _) ?_
          clear hK K
          have H3 := H2.ext hx2
          have hz2 := hx2.size
          clear H2 hx2
          iterate 3 (refine wf_rd rfl rfl rfl (fun K hK => ?_); go_simp; refine hK _ ?_; clear hK K)
          refine wf_at rfl ?_
          refine wmr_ext rfl rfl (fun K hK => ?_)
          rw [if_pos (show Region.wanted _ _ = true from rfl)]
          refine wp_alS H3 49 rfl [.int .i64 0, .int .i64 0, .int .i64 0] (by kernel_rfl) (fun w9 hz3 hx3 H4 => ?_)
          refine hK _ _ (hx3.up _) ?_
          clear hK K H3 hx3
          refine wmr_ext rfl rfl (fun K hK => ?_)
          rw [if_pos (show Region.wanted _ _ = true from rfl)]
          refine wp_stS [] H4 49 (.tmp 14) (.tmp 124) rfl (cs := [.int .i64 (px.sec : Nat), .int .i64 (r.row : Nat), .int .i64 (px.seat : Nat)]) rfl rfl (by kernel_rfl) rfl (int3_one _ _ _) (fun w10 H5 hu4 => ?_)
          refine hK _ _ (hu4.up (by omega)) ?_
          clear hK K H4 hu4
          iterate 1 (refine wmr_rd rfl rfl (fun K hK => ?_); go_simp; refine hK _ ?_; clear hK K)
          refine wmr_nil ?_
          go_wp2_with fail
          go_meet
          case rel => exact ⟨rfl, _, rfl, H5⟩
        · refine wmr_ext rfl rfl (fun K hK => ?_)
          rw [if_pos (show Region.wanted _ _ = true from rfl)]
          refine wp_alS H2 49 rfl [.int .i64 0, .int .i64 0, .int .i64 0] (by kernel_rfl) (fun w9 hz3 hx3 H4 => ?_)
          refine hK _ _ (hx3.up _) ?_
          clear hK K H2 hx3
          refine wmr_ext rfl rfl (fun K hK => ?_)
          go_simp
          go_at_call 25
          (with_reducible refine (HPLI.out _ H4.toExt).mono ?_)
          rintro e w8 ⟨rfl, hx2⟩
          refine hK _ _ (hx2.up _) ?_
          clear hK K
          have H3 := H4.ext hx2
          clear H4 hx2
          show WMR _ _ _ _ [7, 8, 9, 11, 12] _ _
          iterate 3 (refine wmr_rd rfl rfl (fun K hK => ?_); go_simp; refine hK _ ?_; clear hK K)
          refine wmr_ext rfl rfl (fun K hK => ?_)
          rw [if_pos (show Region.wanted _ _ = true from rfl)]
          refine wp_stS [] H3 49 (.tmp 14) (.tmp 124) rfl (cs := [.int .i64 (px.sec : Nat), .int .i64 (r.row : Nat), .int .i64 (px.seat : Nat)]) rfl rfl (by kernel_rfl) rfl (int3_one _ _ _) (fun w10 H5 hu4 => ?_)
          refine hK _ _ (hu4.up (Nat.le_refl _)) ?_
          clear hK K H3 hu4
          iterate 1 (refine wmr_rd rfl rfl (fun K hK => ?_); go_simp; refine hK _ ?_; clear hK K)
          refine wmr_nil ?_
          go_wp2_with fail
          go_meet
          case rel => exact ⟨rfl, _, rfl, H5⟩
      case rest =>
        obtain ⟨rfl, g14, rfl, H⟩ := hcut
        clear K7
        have K8 := hide H
        clear H
        have er : ((r.row : Int) != (r.row : Int)) = false := bne_self_eq_false _
        go_upto_region 17 with fail
        refine wp_region_wm [0, 1, 2, 3, 4, 5, 6, 7, 8, 9, 10, 11] (by kernel_rfl) (by kernel_rfl) (by kernel_rfl) (by kernel_rfl) ?_
        have KD := K8.out.drew
        clear K8
        generalize World.drew _ = wd at *
        have b1 := (KD.blk (g := g14) (e := 49) (List.Mem.head _)).cell 1
        obtain ⟨_, _, e, _, x0, x1, x2⟩ := own_run KD (List.Mem.tail _ (List.Mem.tail _ (List.Mem.tail _ (List.Mem.head _)))) HRR.out
        cases e
        have KE := hide KD
        clear KD
        iterate 4 (refine wm_rd rfl rfl (fun K hK => ?_); go_simp; refine hK _ ?_; clear hK K)
        refine wm_ld1 rfl rfl 3 (.tmp 129) rfl rfl b1 _ Tryd.underlying3 rfl ?_
        iterate 4 (refine wm_rd rfl rfl (fun K hK => ?_); go_simp; refine hK _ ?_; clear hK K)
        refine wm_ld1 rfl rfl 3 (.tmp 134) rfl rfl x0 _ Tryd.underlying3 rfl ?_
        iterate 2 (refine wm_rd rfl rfl (fun K hK => ?_); go_simp; refine hK _ ?_; clear hK K)
        refine wm_nil ?_
        clear b1 x0 x1 x2
        go_upto_region 19 with fail
        refine wp_region_wm [0, 1, 2, 3, 4, 5, 6, 7, 8, 9, 10, 11, 12] (by kernel_rfl) (by kernel_rfl) (by kernel_rfl) (by kernel_rfl) ?_
        have KD := KE.out.drew.tail
        clear KE
        generalize World.drew _ = wd2 at *
        obtain ⟨_, _, e, _, x0, x1, x2⟩ := own_run KD (List.Mem.tail _ (List.Mem.tail _ (List.Mem.head _))) HRR.out
        cases e
        have hFr := own_rd KD (List.Mem.head _)
        have KE := hide KD
        clear KD
        iterate 5 (refine wm_rd rfl rfl (fun K hK => ?_); go_simp; refine hK _ ?_; clear hK K)
        refine wm_ld1 rfl rfl 3 (.tmp 142) rfl rfl x1 _ Tryd.underlying3 rfl ?_
        iterate 4 (refine wm_rd rfl rfl (fun K hK => ?_); go_simp; refine hK _ ?_; clear hK K)
        refine wm_ld1 rfl rfl 3 (.tmp 147) rfl rfl x2 _ Tryd.underlying3 rfl ?_
        clear x0 x1 x2
        refine wm_ext rfl rfl (fun K hK => ?_)
        go_simp
        go_at_call 24
        (with_reducible refine (HWI.out _ F' d' hFr hd').mono ?_)
        rintro e w9 ⟨v9, rfl, hS9⟩
        obtain ⟨F9, d9, rfl, _, hd9, _⟩ := (hS9.owns (List.Mem.head _)).form
        rw [bls_len, HT3.out] at hS9 hd9 ⊢
        have KA := (KE.out.joinW hS9)
        dsimp only [List.nil_append, List.cons_append] at KA
        have KB := hide KA.swap.tail
        refine hK _ _ hS9.toExt ?_
        clear hK K KA hS9 hFr KE
        iterate 1 (refine wm_rd rfl rfl (fun K hK => ?_); go_simp; refine hK _ ?_; clear hK K)
        refine wm_nil ?_
        obtain ⟨_, _, e, _, x0, x1, x2⟩ := own_run KB.out (List.Mem.tail _ (List.Mem.tail _ (List.Mem.head _))) HRR.out
        cases e
        go_wp2_with fail
        clear x0 x1 x2
        go_roundw
        case rel => exact ⟨i + 1, t + r.many, F9, d9, off fe r.first r.many, by go_num, by go_num, rfl, HLT.out, htx, hd9, HT3, HS2, KB⟩
        case measure => have := HLT.out; simp [intOf]; omega
    · have hli : ¬ (i : Int) < (P.length : Int) := by omega
      obtain rfl : i = P.length := by omega
      have HTM : Hid (t = m) := hide (by
        rcases HST.out with ⟨h, _⟩ | ⟨_, h⟩
        · omega
        · exact h)
      have K7 : Hid (CX w wr g g2 v A c s m B3 l.length b3 l Bp bp P) := hide K6.out.tail
      clear hlt HST K6 HBE HWO HPL HFIT
      go_wp2_with fail
      go_loopw [16, 17] (fun v16 v17 wr => ∃ (k q : Nat) (Z : List Run), v17 = .int .i64 k ∧ v16 = .int .i64 q ∧ k + 1 ≤ P.length ∧ q ≤ m ∧ Hid (Z.length = l.length) ∧ Hid (Mst v s m P k Z q) ∧ Hid (CX w wr g g2 v A c s m B3 l.length b3 Z Bp bp P)) (fun _ v17 _ => P.length - (intOf v17).toNat)
      case atStart => exact ⟨0, 0, l, rfl, rfl, by have := HPL0.out; omega, by omega, hide rfl, HMS, K7⟩
      case round =>
        obtain ⟨k, q, Z, rfl, rfl, hk, hqm, HZL, HMK, K8⟩ := hrel
        clear K7 HMS
        have hpb : P.length ≤ 2000 := by have := HRF.out; have := HPL1.out; omega
        by_cases hlt : k + 1 < P.length
        · have hli : (k : Int) < (P.length : Int) - 1 := by omega
          have hlb : 2 ≤ l.length ∧ l.length ≤ 2000 := by have := HRF.out; have := HPL1.out; omega
          have HLT := hide hlt
          clear hlt
          go_wp2_with fail
          obtain ⟨z0, hz0⟩ : ∃ y, Z[0]? = some y := ⟨_, List.getElem?_eq_getElem (by rw [HZL.out]; omega)⟩
          have HZ0 := hide hz0
          clear hz0
          go_loopw [18, 19] (fun v18 v19 wr => ∃ (i at' : Nat) (y : Run), v19 = .int .i64 i ∧ v18 = .int .i64 at' ∧ 1 ≤ i ∧ i ≤ l.length ∧ at' < l.length ∧ Hid (lg Z i = at') ∧ Hid (Z[at']? = some y) ∧ Hid (CX w wr g g2 v A c s m B3 l.length b3 Z Bp bp P)) (fun _ v19 _ => l.length - (intOf v19).toNat)
          case atStart => exact ⟨1, 0, z0, rfl, rfl, by omega, by omega, by omega, hide (by unfold lg; split <;> rfl), HZ0, K8⟩
          case round =>
            obtain ⟨i, at', y, rfl, rfl, hi1, hi, hat, HLG, HY, K9⟩ := hrel
            clear K8
            have hlb2 := hlb
            obtain ⟨gz, zc, e, _, y0, y1, y2⟩ := own_run K9.out (List.Mem.head _) HY.out
            simp only [Value.slice.injEq] at e
            obtain ⟨rfl, -, rfl⟩ := e
            have hac : (at' : Int) < (b3 : Int) := by omega
            have hal : (at' : Int) < (l.length : Int) := by omega
            by_cases hlt : i < l.length
            · have hli : (i : Int) < (l.length : Int) := by omega
              have hlc : (i : Int) < (b3 : Int) := by omega
              obtain ⟨r, hr⟩ : ∃ r, Z[i]? = some r := ⟨_, List.getElem?_eq_getElem (by rw [HZL.out]; omega)⟩
              have HRI := hide hr
              have HLI := hide hlt
              have HSTP := hide (lg_step (by rw [HLG.out]; exact HY.out) hr)
              clear hr hlt y0 y1 y2
              go_upto_region 29 with fail
              refine wp_region_wm [0, 1, 2, 3, 4, 5, 6, 7, 8, 9, 10] (by kernel_rfl) (by kernel_rfl) (by kernel_rfl) (by kernel_rfl) ?_
              have KD := K9.out.drew
              clear K9
              generalize World.drew _ = wd at *
              obtain ⟨_, _, e, _, y0, y1, y2⟩ := own_run KD (List.Mem.head _) HY.out
              simp only [Value.slice.injEq, Option.some.injEq, Addr.mk.injEq, and_true] at e
              obtain ⟨rfl, -, rfl⟩ := e
              obtain ⟨_, _, e, _, x0, x1, x2⟩ := own_run KD (List.Mem.head _) HRI.out
              simp only [Value.slice.injEq, Option.some.injEq, Addr.mk.injEq, and_true] at e
              obtain ⟨rfl, -, rfl⟩ := e
              have KE := hide KD
              clear KD
              iterate 4 (refine wm_rd rfl rfl (fun K hK => ?_); go_simp; refine hK _ ?_; clear hK K)
              refine wm_ld1 rfl rfl 3 (.tmp 173) rfl rfl x2 _ Tryd.underlying3 rfl ?_
              iterate 4 (refine wm_rd rfl rfl (fun K hK => ?_); go_simp; refine hK _ ?_; clear hK K)
              refine wm_ld1 rfl rfl 3 (.tmp 178) rfl rfl y2 _ Tryd.underlying3 rfl ?_
              by_cases hyr : y.many < r.many
              · have e3 : (y.many : Int) < (r.many : Int) := by omega
                rw [if_pos hyr] at HSTP
                clear hyr
                iterate 1 (refine wm_rd rfl rfl (fun K hK => ?_); go_simp; refine hK _ ?_; clear hK K)
                refine wm_nil ?_
                clear x0 x1 x2 y0 y1 y2
                go_wp2_with fail
                go_roundw
                case rel => exact ⟨i + 1, i, r, by go_num, rfl, by omega, HLI.out, HLI.out, HSTP, HRI, KE⟩
                case measure => have := HLI.out; simp [intOf]; omega
              · have e3 : ¬ (y.many : Int) < (r.many : Int) := by omega
                rw [if_neg hyr] at HSTP
                clear hyr
                iterate 1 (refine wm_rd rfl rfl (fun K hK => ?_); go_simp; refine hK _ ?_; clear hK K)
                refine wm_nil ?_
                clear x0 x1 x2 y0 y1 y2
                go_wp2_with fail
                go_roundw
                case rel => exact ⟨i + 1, at', y, by go_num, rfl, by omega, HLI.out, hat, hide (by rw [HSTP.out, HLG.out]), HY, KE⟩
                case measure => have := HLI.out; simp [intOf]; omega
            · have hli : ¬ (i : Int) < (l.length : Int) := by omega
              obtain rfl : i = l.length := by omega
              have hzl : lg Z Z.length = at' := by rw [HZL.out]; exact HLG.out
              obtain ⟨hqz, hms⟩ := mst_at HMK.out HLT.out (z := y) (by rw [hzl]; exact HY.out)
              rw [hzl] at hms
              have hyb : y.many ≤ 64 := by omega
              have HM2 := hide hms
              have HZ2 : Hid ((Z.set at' ⟨y.row, y.first, 0⟩).length = l.length) := hide (by rw [List.length_set]; exact HZL.out)
              clear hlt hzl hms
              go_upto_region 32 with fail
              obtain ⟨g', c', e, _, s0, s1, s2, K10⟩ := Sep.setM [] K9.out (runV_at HY.out) (j := 2) (by decide) (.int .i64 0)
              rw [runV_len] at e
              simp only [Value.slice.injEq, Option.some.injEq, Addr.mk.injEq, and_true] at e
              obtain ⟨rfl, -, rfl⟩ := e
              rw [runV_zero] at K10
              dsimp only [List.nil_append] at K10
              have KA : Hid (CX w (wr.setCell ⟨gz, at' * 3 + 2, none⟩ (.int .i64 0)) g g2 v A c s m (some ⟨gz, 0, none⟩) l.length b3 (Z.set at' ⟨y.row, y.first, 0⟩) Bp bp P) := hide K10
              clear K10
              go_wp2_with fail
              clear y0 y1 y2 s0 s1 s2
              go_roundw
              case rel => exact ⟨k + 1, q + y.many, _, by go_num, by go_num, HLT.out, hqz, HZ2, HM2, KA⟩
              case measure => have := HLT.out; simp [intOf]; omega
        · have hli : ¬ (k : Int) < (P.length : Int) - 1 := by omega
          have hqe := mst_end HMK.out
          have hql : (q : Int) < (m : Int) := by omega
          have htt : ((t : Int) == (m : Int)) = true := beq_iff_eq.2 (by rw [HTM.out])
          obtain ⟨a0, a1, az⟩ := blk2 (K8.out.blk (e := 27) (List.Mem.tail _ (List.Mem.tail _ (List.Mem.head _))))
          clear hlt hqe
          go_wp2_with fail
          (with_reducible refine (awake_any _).mono ?_)
          rintro e w99 ⟨rfl, hx⟩
          go_wp2_with fail
          go_ret
          exact ⟨rfl, K8.out.toExt.trans hx⟩
end Go.Proofs.YtkhinagagncblaaDoor
