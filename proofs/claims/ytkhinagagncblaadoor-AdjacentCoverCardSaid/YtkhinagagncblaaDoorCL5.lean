/- Seats side by side: the law AdjacentCover walked. -/
import Derived.Test.YtkhinagagncblaaDoorC4
import Derived.Test.YtkhinagagncblaaDoorL3
import Derived.BigQuiet
namespace Go.Proofs.YtkhinagagncblaaDoor
open Go.RowKit Go.Gr Go.Ad
set_option linter.unusedVariables false
set_option linter.unusedSimpArgs false
attribute [local go_sem] rdOp rdAt rdUpon Cls forall_fr
theorem blk2 {w : World} {g : Nat} {e : TypeId} {a b : Value} (h : Blk w g e [a, b]) : w.cell? ⟨g, 0, none⟩ = some a ∧ w.cell? ⟨g, 1, none⟩ = some b ∧ g < w.heap.size := ⟨h.cell 0, h.cell 1, h.lt⟩
/-- what a question is asked with -/
abbrev BX (w w' : World) (g g2 : Nat) (v : Vn) (A : Option Addr) (c : Nat) (s n : Int) : Prop := Sep No w w' [As.blk g2 27 [.int .i64 s, .int .i64 n], As.blk g 24 [.int .i64 v.sh, .int .i64 v.ttl, .int .i64 v.ses, .slice A v.secs.length c]]
/-- .. and the runs; what is free of them, too -/
abbrev CX (w w' : World) (g g2 : Nat) (v : Vn) (A : Option Addr) (c : Nat) (s n : Int) (B3 : Option Addr) (b3 : Nat) (l : List Run) : Prop := Sep No w w' [As.ownM 47 3 (.slice B3 l.length b3) (runV l), As.blk g2 27 [.int .i64 s, .int .i64 n], As.blk g 24 [.int .i64 v.sh, .int .i64 v.ttl, .int .i64 v.ses, .slice A v.secs.length c]]
abbrev DX (w w' : World) (g g2 : Nat) (v : Vn) (A : Option Addr) (c : Nat) (s n : Int) (B3 : Option Addr) (b3 : Nat) (l : List Run) (F : Option Addr) (m d : Nat) (f : List Bool) : Prop := Sep No w w' [As.own 4 (.slice F m d) (bls f), As.ownM 47 3 (.slice B3 l.length b3) (runV l), As.blk g2 27 [.int .i64 s, .int .i64 n], As.blk g 24 [.int .i64 v.sh, .int .i64 v.ttl, .int .i64 v.ses, .slice A v.secs.length c]]
theorem own_rd {w0 w : World} {L : List As} {A : Option Addr} {n c : Nat} {f : List Bool} (h : Sep No w0 w L) (hm : As.own 4 (.slice A n c) (bls f) ∈ L) : Rd w A (bls f) := by
  obtain ⟨B', c', e', h3, _⟩ := (h.owns hm).form
  rw [bls_len] at e'
  simp only [Value.slice.injEq] at e'
  rw [e'.1]
  exact h3
theorem ofE_ok {v : Vn} {j : Nat} {sc : Sc} (hz : (chk v).2 = 0) (hs : v.secs[j]? = some sc) : ofE v (j : Int) = (((fst0 v.secs j : Nat) : Int), ((sc.sum : Nat) : Int), 0) := by
  unfold ofE
  rw [if_pos hz, if_pos (by omega), Int.toNat_natCast, hs]
theorem alone_up {v : Vn} {f : List Bool} {s n : Int} (hq : qE v f.length s = 0) {x : Run × Nat × Nat} (hx : x ∈ chs (runsOf v f s) n.toNat) (hn : 1 ≤ n) : x.1.first + x.2.1 + n.toNat ≤ f.length ∧ ∃ b : Nat, aloneE v (off f (x.1.first + x.2.1) n.toNat) s = b ∧ (b : Int) ≤ aloneE v f s + 2 := by
  obtain ⟨_, _, _, hfl, _⟩ := qE_zero hq
  obtain ⟨h1, h2, h3⟩ := chs_mem hx
  have hfit : x.1.first + x.2.1 + n.toNat ≤ f.length := by have := (runs_off hfl h1).1; omega
  refine ⟨hfit, aloneN (runsOf v (off f (x.1.first + x.2.1) n.toNat) s), ?_, ?_⟩
  · unfold aloneE; rw [off_len hfit, if_pos hq]
  · have := alone_off hfl h1 (k := x.2.1) (n := n.toNat) (by omega) h2
    have hm := moreI_in (x.1, x.2.1, x.1.many - n.toNat - x.2.1)
    unfold aloneE
    rw [if_pos hq]
    omega
set_option maxRecDepth 100000 in
set_option maxHeartbeats 8000000 in
theorem cover_law (w : World) (_ : True) (v0 : Value) (h0 : ∃ cs, v0 = .agg cs ∧ Lvs Tryd.prog w [.int .i64, .int .i64, .int .i64, .slice 78] cs.toList) (v1 : Value) (h1 : LfOk Tryd.prog w (.slice 4) v1) (v2 : Value) (h2 : ∃ cs, v2 = .agg cs ∧ Lvs Tryd.prog w [.int .i64, .int .i64] cs.toList) : Calls Tryd.prog 8 #[v0, v1, v2] w fun e w' => e = .returned (.bool true) ∧ Ext w w' := by
  obtain ⟨v, A, c, rfl, hS, hc, hw⟩ := venue_arg h0
  obtain ⟨F, f, d, rfl, hF, hd, _⟩ := bools_arg h1
  obtain ⟨s, n, rfl⟩ := ask_arg h2
  clear h0 h1 h2
  have HFAR := hide (fun (y : World) (k : Ext w y) => far19 v A c F f.length d y (hS.ext k) hc hw)
  have HR := hide (fun (y : World) (k : Ext w y) => ad_Runs v A c f F d s y (hS.ext k) hc hw (hF.ext k) hd)
  have HO := hide (fun (y : World) (k : Ext w y) => ref_of v A c s y (hS.ext k) hc hw)
  have HBE := hide (fun (y : World) (k : Ext w y) (f' : List Bool) (F' : Option Addr) (d' i n : Nat) (hF' : Rd y F' (bls f')) (hd' : f'.length ≤ d') (hq : qE v f'.length s = 0) (h1 : 1 ≤ n) (h2 : n ≤ 64) (hi : i ≤ 100000000) (hb : inRun v f' s i n) => beside_any v A c f' F' d' i n s true y (hS.ext k) hc hw hF' hd' hq h1 h2 hi ⟨fun _ => hb, fun _ => rfl⟩)
  have HWO := hide (fun (y : World) (f' : List Bool) (F' : Option Addr) (d' i m : Nat) (hF' : Rd y F' (bls f')) (hd' : f'.length ≤ d') (hi : i + m ≤ f'.length) (hl : f'.length ≤ 100000000) => lwithout f' F' d' i m y hF' hd' hi hl)
  have HWF := hide (fun (y : World) (k : Ext w y) (i m : Nat) (hi : i + m ≤ f.length) (hl : f.length ≤ 100000000) => lwithout f F d i m y (hF.ext k) hd hi hl)
  have HC := hide (fun (y : World) (k : Ext w y) => ad_Choices v A c f F d s n y (hS.ext k) hc hw (hF.ext k) hd)
  have HA := hide (fun (y : World) (k : Ext w y) => ad_Alone v A c f F d s y (hS.ext k) hc hw (hF.ext k) hd)
  have HAL := hide (fun (y : World) (k : Ext w y) (i m : Nat) (hi : i + m ≤ f.length) (hq : qE v f.length s = 0) (F' : Option Addr) (d' : Nat) (hF' : Rd y F' (bls (off f i m))) (hd' : f.length ≤ d') => by
    have e := off_len hi
    have := ad_Alone v A c (off f i m) F' d' s y (h := hS.ext k) hc hw hF' (by rw [e]; exact hd')
    rw [e, hq] at this
    exact this)
  have HF := hide (fun (y : World) (k : Ext w y) => hF.ext k)
  have HD := hide hd
  clear hS hF hw hc hd
  obtain ⟨i0, ki, kz0, kz1, kz2⟩ := info_parts infoB
  have HB1 := hide (bls_one f)
  have HBL : Hid ((bls f).length = f.length) := hide (bls_len f)
  have K0 := ((Sep.refl No w).add2 24 27 [.int .i64 v.sh, .int .i64 v.ttl, .int .i64 v.ses, .slice A v.secs.length c] [.int .i64 s, .int .i64 n])
  go_enter Tryd.func8, Tryd.ntmps8
  go_upto_region 1 with fail
  generalize World.alloc _ _ = w1 at K0 ⊢
  obtain ⟨g, hg⟩ : ∃ g, w.heap.size = g := ⟨_, rfl⟩
  obtain ⟨g2, hg2⟩ : ∃ g2, g + 1 = g2 := ⟨_, rfl⟩
  rw [hg, hg2] at K0 ⊢
  clear hg hg2
  have K1 : Hid (BX w w1 g g2 v A c s n) := hide K0
  clear K0
  obtain ⟨c0, c1, c2, c3, cz⟩ := blk4 (K1.out.blk (e := 24) (List.Mem.tail _ (List.Mem.head _)))
  go_wp2_with fail
  (with_reducible refine (HFAR.out _ K1.out.toExt).mono ?_)
  rintro e w2 ⟨⟨bb, rfl⟩, hx⟩
  have K2 : Hid (BX w w2 g g2 v A c s n) := hide (K1.out.ext hx)
  clear K1 hx HFAR c0 c1 c2 c3 cz
  cases bb
  rotate_left
  · go_wp2_with fail
    (with_reducible refine (awake_any _).mono ?_)
    rintro e w3 ⟨rfl, hx⟩
    go_wp2_with fail
    go_ret
    exact ⟨rfl, K2.out.toExt.trans hx⟩
  obtain ⟨c0, c1, c2, c3, cz⟩ := blk4 (K2.out.blk (e := 24) (List.Mem.tail _ (List.Mem.head _)))
  obtain ⟨a0, a1, az⟩ := blk2 (K2.out.blk (e := 27) (List.Mem.head _))
  go_wp2_with fail
  (with_reducible refine (HR.out _ K2.out.toExt).mono ?_)
  rintro e w3 ⟨v3, rfl, hS3⟩
  obtain ⟨B3, b3, rfl, hb3⟩ := nilM_form' hS3
  have K3 := K2.out.joinW hS3
  dsimp only [List.nil_append, List.cons_append] at K3
  clear K2 hS3 HR c0 c1 c2 c3 cz a0 a1 az
  rw [runV_len] at K3 hb3 ⊢
  by_cases hq : qE v f.length s = 0
  rotate_left
  · have e2 : (qE v f.length s != 0) = true := bne_iff_ne.2 hq
    have HL0 : Hid (runsR v f s = []) := hide (by unfold runsR; rw [if_neg hq])
    rw [HL0.out] at K3 hb3 ⊢
    clear hq
    have K3' := hide K3
    clear K3
    rw [show (([] : List Run).length) = 0 from rfl]
    go_wp2_with fail
    (with_reducible refine (awake_any _).mono ?_)
    rintro e w99 ⟨rfl, hx⟩
    go_wp2_with fail
    go_ret
    exact ⟨rfl, K3'.out.toExt.trans hx⟩
  have HRL : Hid (runsR v f s = runsOf v f s) := hide (by unfold runsR; rw [if_pos hq])
  have HRF := hide (runsOf_few (qE_zero hq).1 f s)
  have hfl := (qE_zero hq).2.2.2.1
  have HFB := hide (show f.length ≤ 100000000 by have := (qE_zero hq).1.sum; omega)
  have HTA := hide (takeR_all (v := v) (f := f) (s := s) hfl)
  have HPA := hide (runs_pair (v := v) hfl s)
  have H64 := hide (fun (x : Run) (hx : x ∈ runsOf v f s) => run_64 hq hx)
  have HRO := hide (fun (x : Run) (hx : x ∈ runsOf v f s) => (runs_off hfl hx).1)
  obtain ⟨j, sc, HJ, HSC, HOF⟩ : ∃ (j : Nat) (sc : Sc), Hid (s = (j : Int)) ∧ Hid (v.secs[j]? = some sc) ∧ Hid (ofE v s = (((fst0 v.secs j : Nat) : Int), ((sc.sum : Nat) : Int), 0)) := by
    obtain ⟨_, hz, _, _, j, rfl, hj⟩ := qE_zero hq
    exact ⟨j, v.secs[j], hide rfl, hide (List.getElem?_eq_getElem hj), hide (ofE_ok hz (List.getElem?_eq_getElem hj))⟩
  have HFI := hide (show fst0 v.secs j + sc.sum ≤ f.length from sec_fits hfl HSC.out)
  have HNF := hide (fun (f' : List Bool) (hl : f'.length = f.length) (h : runsOf v f' s = []) (t : Nat) (ht : t < sc.sum) => no_free (j := j) HSC.out (hl.trans hfl) (by rw [← HJ.out]; exact h) ht)
  have HQ := hide hq
  rw [hq]
  rw [HRL.out] at K3 hb3 ⊢
  clear hq hfl HSC HJ
  obtain ⟨fs, hfs⟩ : ∃ x, fst0 v.secs j = x := ⟨_, rfl⟩
  rw [hfs] at HOF HFI HNF
  obtain ⟨sm, hsm⟩ : ∃ x, sc.sum = x := ⟨_, rfl⟩
  rw [hsm] at HOF HFI HNF
  clear hfs hsm
  obtain ⟨l, hl⟩ : ∃ l, runsOf v f s = l := ⟨_, rfl⟩
  have HLL := hide hl
  rw [hl] at K3 hb3 HRF HTA HPA H64 HRO ⊢
  clear hl HRL
  have K3' : Hid (CX w w3 g g2 v A c s n B3 b3 l) := hide K3
  clear K3
  obtain ⟨c0, c1, c2, c3, cz⟩ := blk4 (K3'.out.blk (e := 24) (List.Mem.tail _ (List.Mem.tail _ (List.Mem.head _))))
  obtain ⟨a0, a1, az⟩ := blk2 (K3'.out.blk (e := 27) (List.Mem.tail _ (List.Mem.head _)))
  go_wp2_with fail
  (with_reducible refine (HO.out _ K3'.out.toExt).mono ?_)
  rintro e w4 ⟨rfl, hx⟩
  rw [HOF.out]
  have K4 : Hid (CX w w4 g g2 v A c s n B3 b3 l) := hide (K3'.out.ext hx)
  clear K3' hx HO c0 c1 c2 c3 cz a0 a1 az
  have hfi : ¬ (f.length : Int) < (fs : Int) + (sm : Int) := by have := HFI.out; omega
  have hfb1 : fs ≤ 100000000 := by have := HFI.out; have := HFB.out; omega
  have hfb2 : sm ≤ 100000000 := by have := HFI.out; have := HFB.out; omega
  have hfb3 : f.length ≤ 100000000 := HFB.out
  have KN := Sep.toOwn [] (K4.out.newB ((Ext.refl w4).alloc (.cells #[] 4)) (Blk.new w4 4 []) (Nat.le_refl _)) (by simp)
  dsimp only [List.nil_append, List.length_nil] at KN
  have tok3 : True := trivial
  go_upto_region 10 with (have zz := tok3; clear zz tok3; with_reducible refine wpList_apS [] KN rfl (.tmp 60) (.tmp 61) 25 rfl i0 (.bool false) 1 Tryd.underlying25 ki kz0 kz1 kz2 rfl rfl (A := F) (m := f.length) (c := d) (news := bls f) rfl (by rw [HBL.out]) (HF.out _ KN.toExt) HB1.out (by have := HFB.out; rw [HBL.out]; simp; omega) (by have := HD.out; omega) ?_; intro v5 w5 K5; dsimp only [List.nil_append] at K5; have K5' := hide K5; clear K5 KN)
  obtain ⟨F', d', rfl, _, hd', _⟩ := (K5'.out.owns (List.Mem.head _)).form
  rw [HBL.out] at K5' hd' ⊢
  clear K4
  go_wp2_with fail
  go_loopw [12, 13] (fun v12 v13 wr => ∃ (i : Nat) (F' : Option Addr) (d' : Nat), v13 = .int .i64 i ∧ v12 = .slice F' f.length d' ∧ i ≤ l.length ∧ f.length ≤ d' ∧ Hid (DX w wr g g2 v A c s n B3 b3 l F' f.length d' (takeR f (l.take i)))) (fun _ v13 _ => l.length - (intOf v13).toNat)
  case atStart => exact ⟨0, F', d', rfl, rfl, by omega, hd', K5'⟩
  case round =>
    obtain ⟨i, F', d', rfl, rfl, hi, hd', K6⟩ := hrel
    clear K5'
    have hib : i ≤ 2000 := by have := HRF.out; omega
    by_cases hlt : i < l.length
    · have hli : (i : Int) < (l.length : Int) := by omega
      obtain ⟨r, hr⟩ : ∃ r, l[i]? = some r := ⟨_, List.getElem?_eq_getElem hlt⟩
      obtain ⟨ht1, ht2⟩ := HTA.out i hi
      have hmem := List.mem_of_getElem? hr
      obtain ⟨hm1, hm64⟩ := H64.out r hmem
      have hfit := HRO.out r hmem
      have hin : inRun v (takeR f (l.take i)) s r.first r.many := run_in (by rw [ht2]; exact List.mem_of_getElem? (i := 0) (by rw [List.getElem?_drop]; simpa using hr))
      have HTS := hide (takeR_step (f := f) hr)
      have HPR : Hid (∀ k r', i = k + 1 → l[k]? = some r' → Bef r' r ∧ 1 ≤ r'.many) := hide (fun k r' e hr' => by
        obtain ⟨h1, e1⟩ := List.getElem?_eq_some_iff.1 hr
        obtain ⟨h2, e2⟩ := List.getElem?_eq_some_iff.1 hr'
        have := List.pairwise_iff_getElem.1 HPA.out k i h2 h1 (by omega)
        rw [e1, e2] at this
        exact ⟨this, (H64.out r' (List.mem_of_getElem? hr')).1⟩)
      have hfr : r.first ≤ 100000000 := by have := HFB.out; omega
      have HT1 := hide ht1
      have HBI := hide (fun (y : World) (k : Ext w y) (F' : Option Addr) (d' : Nat) (hF' : Rd y F' (bls (takeR f (l.take i)))) (hd' : f.length ≤ d') => by
        have := HBE.out y k (takeR f (l.take i)) F' d' r.first r.many hF' (by rw [ht1]; exact hd') (by rw [ht1]; exact HQ.out) hm1 hm64 hfr hin
        rw [ht1] at this
        exact this)
      have HWI := hide (fun (y : World) (F' : Option Addr) (d' : Nat) (hF' : Rd y F' (bls (takeR f (l.take i)))) (hd' : f.length ≤ d') => by
        have := HWO.out y (takeR f (l.take i)) F' d' r.first r.many hF' (by rw [ht1]; exact hd') (by rw [ht1]; exact hfit) (by rw [ht1]; exact HFB.out)
        rw [ht1, ← HTS.out] at this
        exact this)
      have HT3 : Hid ((bls (takeR f (l.take (i + 1)))).length = f.length) := hide (by rw [bls_len, HTS.out, off_len (by rw [ht1]; exact hfit)]; exact ht1)
      have HLT := hide hlt
      have HRR := hide hr
      have hm1' : ¬ (r.many : Int) < 1 := by omega
      have hm64' : ¬ (64 : Int) < (r.many : Int) := by omega
      have hf0 : ¬ (r.first : Int) < 0 := by omega
      clear ht1 ht2 hmem hm1 hm64 hfit hin hr hlt HTS
      have hic : (i : Int) < (b3 : Int) := by omega
      obtain ⟨gr, rc, e, _, _⟩ := own_run K6.out (List.Mem.tail _ (List.Mem.head _)) HRR.out
      simp only [Value.slice.injEq, true_and] at e
      obtain ⟨rfl, rfl⟩ := e
      go_upto_region 13 with fail
      refine wp_region_wm [0, 1, 2, 3, 4, 5, 6, 7, 8, 9, 10, 11, 12, 13, 14, 15, 16, 17, 18, 19, 20, 21, 22, 23, 24, 25, 26, 27, 28, 29, 30, 31, 32, 33, 34, 35, 36, 37, 38, 39, 40] (by kernel_rfl) (by kernel_rfl) (by kernel_rfl) (by kernel_rfl) ?_
      have KD := K6.out.drew
      clear K6
      generalize World.drew _ = wd at *
      have b0 := (KD.blk (e := 24) (List.Mem.tail _ (List.Mem.tail _ (List.Mem.tail _ (List.Mem.head _))))).at5
      have s0 := (KD.blk (e := 27) (List.Mem.tail _ (List.Mem.tail _ (List.Mem.head _)))).cell 0
      obtain ⟨_, _, e, _, x0, x1, x2⟩ := own_run KD (List.Mem.tail _ (List.Mem.head _)) HRR.out
      cases e
      have hFr := own_rd KD (List.Mem.head _)
      have KE : Hid (DX w wd g g2 v A c s n (some ⟨gr, 0, none⟩) b3 l F' f.length d' (takeR f (l.take i))) := hide KD
      clear KD
      iterate 4 (refine wm_rd rfl rfl (fun K hK => ?_); go_simp; refine hK _ ?_; clear hK K)
      refine wm_ld1 rfl rfl 3 (.tmp 72) rfl rfl x2 _ Tryd.underlying3 rfl ?_
      iterate 6 (refine wm_rd rfl rfl (fun K hK => ?_); go_simp; refine hK _ ?_; clear hK K)
      refine wm_ld1 rfl rfl 3 (.tmp 79) rfl rfl x2 _ Tryd.underlying3 rfl ?_
      iterate 7 (refine wm_rd rfl rfl (fun K hK => ?_); go_simp; refine hK _ ?_; clear hK K)
      refine wm_ld1 rfl rfl 3 (.tmp 87) rfl rfl x1 _ Tryd.underlying3 rfl ?_
      iterate 3 (refine wm_rd rfl rfl (fun K hK => ?_); go_simp; refine hK _ ?_; clear hK K)
      refine wm_ldX rfl rfl 24 (.tmp 3) rfl b0 rfl _ Tryd.underlying24 rfl (by kernel_rfl) ?_
      iterate 5 (refine wm_rd rfl rfl (fun K hK => ?_); go_simp; refine hK _ ?_; clear hK K)
      refine wm_ld1 rfl rfl 3 (.tmp 97) rfl rfl x1 _ Tryd.underlying3 rfl ?_
      iterate 1 (refine wm_rd rfl rfl (fun K hK => ?_); go_simp; refine hK _ ?_; clear hK K)
      refine wm_ld1 rfl rfl 3 (.tmp 99) rfl rfl s0 _ Tryd.underlying3 rfl ?_
      iterate 4 (refine wm_rd rfl rfl (fun K hK => ?_); go_simp; refine hK _ ?_; clear hK K)
      refine wm_ld1 rfl rfl 3 (.tmp 104) rfl rfl x2 _ Tryd.underlying3 rfl ?_
      iterate 1 (refine wm_rd rfl rfl (fun K hK => ?_); go_simp; refine hK _ ?_; clear hK K)
      clear b0 s0 x0 x1 x2
      refine wm_ext rfl rfl (fun K hK => ?_)
      go_simp
      go_at_call 23
      (with_reducible refine (HBI.out _ KE.out.toExt F' d' hFr hd').mono ?_)
      rintro e w7 ⟨rfl, hx⟩
      refine hK _ _ hx ?_
      clear hK K hFr
      have K7 : Hid (DX w w7 g g2 v A c s n (some ⟨gr, 0, none⟩) b3 l F' f.length d' (takeR f (l.take i))) := hide (KE.out.ext hx)
      clear hx KE HBI
      iterate 2 (refine wm_rd rfl rfl (fun K hK => ?_); go_simp; refine hK _ ?_; clear hK K)
      refine wm_nil ?_
      go_upto_region 15 with fail
      obtain ⟨_, _, e, _, x0, x1, x2⟩ := own_run K7.out (List.Mem.tail _ (List.Mem.head _)) HRR.out
      cases e
      rcases Nat.eq_zero_or_pos i with hi0 | hi0
      · have hgt : ¬ (0 : Int) < (i : Int) := by omega
        have hgt2 : ¬ 0 < i := by omega
        clear hi0
        refine wp_region_wm [0, 1, 2, 3, 4, 5, 6, 7, 8, 9, 10, 11, 12, 13, 14, 15, 16, 17, 18, 19, 20, 21, 22, 23, 24, 25, 26, 27, 28, 29, 30, 31, 32, 33, 34, 35, 36, 37, 38, 39, 40, 41, 42, 43, 44, 45, 46, 47, 48, 49, 50] (by kernel_rfl) (by kernel_rfl) (by kernel_rfl) (by kernel_rfl) ?_
        have K8 := K7.out.drew
        clear K7 x0 x1 x2
        generalize World.drew _ = w8 at *
        obtain ⟨_, _, e, _, x0, x1, x2⟩ := own_run K8 (List.Mem.tail _ (List.Mem.head _)) HRR.out
        cases e
        have K9 := hide K8
        clear K8
        iterate 51 (refine wm_rd rfl rfl (fun K hK => ?_); go_simp; refine hK _ ?_; clear hK K)
        refine wm_nil ?_
        clear x0 x1 x2
        go_upto_region 17 with fail
        refine wp_region_wm [0, 1, 2, 3, 4, 5, 6, 7, 8, 9, 10, 11, 12] (by kernel_rfl) (by kernel_rfl) (by kernel_rfl) (by kernel_rfl) ?_
        have KD := K9.out.drew
        clear K9
        generalize World.drew _ = wd at *
        obtain ⟨_, _, e, _, x0, x1, x2⟩ := own_run KD (List.Mem.tail _ (List.Mem.head _)) HRR.out
        cases e
        have hFr := own_rd KD (List.Mem.head _)
        have KE := hide KD
        clear KD
        iterate 5 (refine wm_rd rfl rfl (fun K hK => ?_); go_simp; refine hK _ ?_; clear hK K)
        refine wm_ld1 rfl rfl 3 (.tmp 165) rfl rfl x1 _ Tryd.underlying3 rfl ?_
        iterate 4 (refine wm_rd rfl rfl (fun K hK => ?_); go_simp; refine hK _ ?_; clear hK K)
        refine wm_ld1 rfl rfl 3 (.tmp 170) rfl rfl x2 _ Tryd.underlying3 rfl ?_
        clear x0 x1 x2
        refine wm_ext rfl rfl (fun K hK => ?_)
        go_simp
        go_at_call 24
        (with_reducible refine (HWI.out _ F' d' hFr hd').mono ?_)
        rintro e w9 ⟨v9, rfl, hS9⟩
        obtain ⟨F9, d9, rfl, _, hd9, _⟩ := (hS9.owns (List.Mem.head _)).form
        rw [HT3.out] at hS9 hd9 ⊢
        have KA := (KE.out.joinW hS9)
        dsimp only [List.nil_append, List.cons_append] at KA
        have KB := hide KA.swap.tail
        refine hK _ _ hS9.toExt ?_
        clear hK K KA hS9 hFr KE
        iterate 1 (refine wm_rd rfl rfl (fun K hK => ?_); go_simp; refine hK _ ?_; clear hK K)
        refine wm_nil ?_
        go_wp2_with fail
        go_roundw
        case rel => exact ⟨i + 1, F9, d9, by go_num, rfl, HLT.out, hd9, KB⟩
        case measure => have := HLT.out; simp [intOf]; omega
      · obtain ⟨k, hk⟩ : ∃ k, i = k + 1 := ⟨i - 1, by omega⟩
        have hgt : (0 : Int) < (i : Int) := by omega
        have hgt2 : 0 < i := by omega
        obtain ⟨r', hr'⟩ : ∃ r, l[k]? = some r := ⟨_, List.getElem?_eq_getElem (by have := HLT.out; omega)⟩
        obtain ⟨hbef, hrm⟩ := HPR.out k r' hk hr'
        have HRK := hide hr'
        obtain ⟨_, _, e, _, y0, y1, y2⟩ := own_run K7.out (List.Mem.tail _ (List.Mem.head _)) hr'
        cases e
        have hb1 : ¬ (r.first : Int) ≤ (r'.first : Int) := by have := hbef.1; omega
        have hk1 : (i : Int) - 1 = (k : Int) := by omega
        have hk2 : (k : Int) < (l.length : Int) := by omega
        have hk3 : (k : Int) < (b3 : Int) := by omega
        have hb2 : (r'.first : Int) + (r'.many : Int) ≤ 100000000 := by have := hbef.1; omega
        have hkb : k ≤ 2000 := by omega
        have hk0 : (0 : Int) ≤ (k : Int) := by omega
        have hkw : IntKind.i64.wrap (k : Int) = (k : Int) := by rw [Go.IntWalk.i64_left]; exact Go.IntWalk.wrap64_in _ (by omega)
        have hbw : IntKind.i64.wrap ((r'.first : Int) + (r'.many : Int)) = (r'.first : Int) + (r'.many : Int) := by rw [Go.IntWalk.i64_left]; exact Go.IntWalk.wrap64_in _ (by omega)
        by_cases hrow : r'.row = r.row
        · have hb3' : ¬ (r.first : Int) ≤ (r'.first : Int) + (r'.many : Int) := by have := hbef.2 hrow; omega
          have er : ((r.row : Int) == (r'.row : Int)) = true := beq_iff_eq.2 (by omega)
          clear hrow hbef hrm hr' hi0 hk
          refine wp_region_wm [0, 1, 2, 3, 4, 5, 6, 7, 8, 9, 10, 11, 12, 13, 14, 15, 16, 17, 18, 19, 20, 21, 22, 23, 24, 25, 26, 27, 28, 29, 30, 31, 32, 33, 34, 35, 36, 37, 38, 39, 40, 41, 42, 43, 44, 45, 46, 47, 48, 49, 50] (by kernel_rfl) (by kernel_rfl) (by kernel_rfl) (by kernel_rfl) ?_
          have K8 := K7.out.drew
          clear K7 x0 x1 x2 y0 y1 y2
          generalize World.drew _ = w8 at *
          obtain ⟨_, _, e, _, x0, x1, x2⟩ := own_run K8 (List.Mem.tail _ (List.Mem.head _)) HRR.out
          cases e
          obtain ⟨_, _, e, _, y0, y1, y2⟩ := own_run K8 (List.Mem.tail _ (List.Mem.head _)) HRK.out
          cases e
          have K9 := hide K8
          clear K8
          iterate 7 (refine wm_rd rfl rfl (fun K hK => ?_); go_simp; refine hK _ ?_; clear hK K)
          refine wm_ld1 rfl rfl 3 (.tmp 116) rfl rfl x1 _ Tryd.underlying3 rfl ?_
          iterate 5 (refine wm_rd rfl rfl (fun K hK => ?_); go_simp; refine hK _ ?_; clear hK K)
          refine wm_ld1 rfl rfl 3 (.tmp 122) rfl rfl y1 _ Tryd.underlying3 rfl ?_
          iterate 6 (refine wm_rd rfl rfl (fun K hK => ?_); go_simp; refine hK _ ?_; clear hK K)
          refine wm_ld1 rfl rfl 3 (.tmp 129) rfl rfl x0 _ Tryd.underlying3 rfl ?_
          iterate 5 (refine wm_rd rfl rfl (fun K hK => ?_); go_simp; refine hK _ ?_; clear hK K)
          refine wm_ld1 rfl rfl 3 (.tmp 135) rfl rfl y0 _ Tryd.underlying3 rfl ?_
          iterate 6 (refine wm_rd rfl rfl (fun K hK => ?_); go_simp; refine hK _ ?_; clear hK K)
          refine wm_ld1 rfl rfl 3 (.tmp 142) rfl rfl x1 _ Tryd.underlying3 rfl ?_
          iterate 5 (refine wm_rd rfl rfl (fun K hK => ?_); go_simp; refine hK _ ?_; clear hK K)
          refine wm_ld1 rfl rfl 3 (.tmp 148) rfl rfl y1 _ Tryd.underlying3 rfl ?_
          iterate 5 (refine wm_rd rfl rfl (fun K hK => ?_); go_simp; refine hK _ ?_; clear hK K)
          refine wm_ld1 rfl rfl 3 (.tmp 154) rfl rfl y2 _ Tryd.underlying3 rfl ?_
          iterate 5 (refine wm_rd rfl rfl (fun K hK => ?_); go_simp; refine hK _ ?_; clear hK K)
          refine wm_nil ?_
          clear y0 y1 y2
          clear x0 x1 x2
          go_upto_region 17 with fail
          refine wp_region_wm [0, 1, 2, 3, 4, 5, 6, 7, 8, 9, 10, 11, 12] (by kernel_rfl) (by kernel_rfl) (by kernel_rfl) (by kernel_rfl) ?_
          have KD := K9.out.drew
          clear K9
          generalize World.drew _ = wd at *
          obtain ⟨_, _, e, _, x0, x1, x2⟩ := own_run KD (List.Mem.tail _ (List.Mem.head _)) HRR.out
          cases e
          have hFr := own_rd KD (List.Mem.head _)
          have KE := hide KD
          clear KD
          iterate 5 (refine wm_rd rfl rfl (fun K hK => ?_); go_simp; refine hK _ ?_; clear hK K)
          refine wm_ld1 rfl rfl 3 (.tmp 165) rfl rfl x1 _ Tryd.underlying3 rfl ?_
          iterate 4 (refine wm_rd rfl rfl (fun K hK => ?_); go_simp; refine hK _ ?_; clear hK K)
          refine wm_ld1 rfl rfl 3 (.tmp 170) rfl rfl x2 _ Tryd.underlying3 rfl ?_
          clear x0 x1 x2
          refine wm_ext rfl rfl (fun K hK => ?_)
          go_simp
          go_at_call 24
          (with_reducible refine (HWI.out _ F' d' hFr hd').mono ?_)
          rintro e w9 ⟨v9, rfl, hS9⟩
          obtain ⟨F9, d9, rfl, _, hd9, _⟩ := (hS9.owns (List.Mem.head _)).form
          rw [HT3.out] at hS9 hd9 ⊢
          have KA := (KE.out.joinW hS9)
          dsimp only [List.nil_append, List.cons_append] at KA
          have KB := hide KA.swap.tail
          refine hK _ _ hS9.toExt ?_
          clear hK K KA hS9 hFr KE
          iterate 1 (refine wm_rd rfl rfl (fun K hK => ?_); go_simp; refine hK _ ?_; clear hK K)
          refine wm_nil ?_
          go_wp2_with fail
          go_roundw
          case rel => exact ⟨i + 1, F9, d9, by go_num, rfl, HLT.out, hd9, KB⟩
          case measure => have := HLT.out; simp [intOf]; omega
        · have er : ((r.row : Int) == (r'.row : Int)) = false := beq_eq_false_iff_ne.2 (by omega)
          clear hrow hbef hrm hr' hi0 hk
          refine wp_region_wm [0, 1, 2, 3, 4, 5, 6, 7, 8, 9, 10, 11, 12, 13, 14, 15, 16, 17, 18, 19, 20, 21, 22, 23, 24, 25, 26, 27, 28, 29, 30, 31, 32, 33, 34, 35, 36, 37, 38, 39, 40, 41, 42, 43, 44, 45, 46, 47, 48, 49, 50] (by kernel_rfl) (by kernel_rfl) (by kernel_rfl) (by kernel_rfl) ?_
          have K8 := K7.out.drew
          clear K7 x0 x1 x2 y0 y1 y2
          generalize World.drew _ = w8 at *
          obtain ⟨_, _, e, _, x0, x1, x2⟩ := own_run K8 (List.Mem.tail _ (List.Mem.head _)) HRR.out
          cases e
          obtain ⟨_, _, e, _, y0, y1, y2⟩ := own_run K8 (List.Mem.tail _ (List.Mem.head _)) HRK.out
          cases e
          have K9 := hide K8
          clear K8
          iterate 7 (refine wm_rd rfl rfl (fun K hK => ?_); go_simp; refine hK _ ?_; clear hK K)
          refine wm_ld1 rfl rfl 3 (.tmp 116) rfl rfl x1 _ Tryd.underlying3 rfl ?_
          iterate 5 (refine wm_rd rfl rfl (fun K hK => ?_); go_simp; refine hK _ ?_; clear hK K)
          refine wm_ld1 rfl rfl 3 (.tmp 122) rfl rfl y1 _ Tryd.underlying3 rfl ?_
          iterate 6 (refine wm_rd rfl rfl (fun K hK => ?_); go_simp; refine hK _ ?_; clear hK K)
          refine wm_ld1 rfl rfl 3 (.tmp 129) rfl rfl x0 _ Tryd.underlying3 rfl ?_
          iterate 5 (refine wm_rd rfl rfl (fun K hK => ?_); go_simp; refine hK _ ?_; clear hK K)
          refine wm_ld1 rfl rfl 3 (.tmp 135) rfl rfl y0 _ Tryd.underlying3 rfl ?_
          iterate 6 (refine wm_rd rfl rfl (fun K hK => ?_); go_simp; refine hK _ ?_; clear hK K)
          iterate 18 (refine wm_rd rfl rfl (fun K hK => ?_); go_simp; refine hK _ ?_; clear hK K)
          refine wm_nil ?_
          clear y0 y1 y2
          clear x0 x1 x2
          go_upto_region 17 with fail
          refine wp_region_wm [0, 1, 2, 3, 4, 5, 6, 7, 8, 9, 10, 11, 12] (by kernel_rfl) (by kernel_rfl) (by kernel_rfl) (by kernel_rfl) ?_
          have KD := K9.out.drew
          clear K9
          generalize World.drew _ = wd at *
          obtain ⟨_, _, e, _, x0, x1, x2⟩ := own_run KD (List.Mem.tail _ (List.Mem.head _)) HRR.out
          cases e
          have hFr := own_rd KD (List.Mem.head _)
          have KE := hide KD
          clear KD
          iterate 5 (refine wm_rd rfl rfl (fun K hK => ?_); go_simp; refine hK _ ?_; clear hK K)
          refine wm_ld1 rfl rfl 3 (.tmp 165) rfl rfl x1 _ Tryd.underlying3 rfl ?_
          iterate 4 (refine wm_rd rfl rfl (fun K hK => ?_); go_simp; refine hK _ ?_; clear hK K)
          refine wm_ld1 rfl rfl 3 (.tmp 170) rfl rfl x2 _ Tryd.underlying3 rfl ?_
          clear x0 x1 x2
          refine wm_ext rfl rfl (fun K hK => ?_)
          go_simp
          go_at_call 24
          (with_reducible refine (HWI.out _ F' d' hFr hd').mono ?_)
          rintro e w9 ⟨v9, rfl, hS9⟩
          obtain ⟨F9, d9, rfl, _, hd9, _⟩ := (hS9.owns (List.Mem.head _)).form
          rw [HT3.out] at hS9 hd9 ⊢
          have KA := (KE.out.joinW hS9)
          dsimp only [List.nil_append, List.cons_append] at KA
          have KB := hide KA.swap.tail
          refine hK _ _ hS9.toExt ?_
          clear hK K KA hS9 hFr KE
          iterate 1 (refine wm_rd rfl rfl (fun K hK => ?_); go_simp; refine hK _ ?_; clear hK K)
          refine wm_nil ?_
          go_wp2_with fail
          go_roundw
          case rel => exact ⟨i + 1, F9, d9, by go_num, rfl, HLT.out, hd9, KB⟩
          case measure => have := HLT.out; simp [intOf]; omega
    · have hli : ¬ (i : Int) < (l.length : Int) := by omega
      obtain rfl : i = l.length := by omega
      clear hlt
      rw [List.take_of_length_le (Nat.le_refl _)] at K6
      have HLF : Hid (∀ t, t < sm → (takeR f l)[fs + t]? = some false) := hide (fun t ht => by
        obtain ⟨h1, h2⟩ := HTA.out l.length (Nat.le_refl _)
        rw [List.take_of_length_le (Nat.le_refl _)] at h1 h2
        rw [List.drop_length] at h2
        exact HNF.out _ h1 h2 t ht)
      have HFE : Hid ((bls (takeR f l)).length = f.length) := hide (by
        have h1 := (HTA.out l.length (Nat.le_refl _)).1
        rw [List.take_of_length_le (Nat.le_refl _)] at h1
        rw [bls_len]; exact h1)
      clear HTA HNF HPA H64 HRO HBE HWO
      generalize takeR f l = fe at *
      go_wp2_with fail
      go_loopw [14] (fun v14 wr => ∃ t : Nat, v14 = .int .i64 ((fs + t : Nat) : Int) ∧ t ≤ sm ∧ Hid (DX w wr g g2 v A c s n B3 b3 l F' f.length d' fe)) (fun v14 _ => fs + sm - (intOf v14).toNat)
      case atStart => exact ⟨0, rfl, by omega, K6⟩
      case round =>
        obtain ⟨t, rfl, ht, K7⟩ := hrel
        clear K6
        obtain ⟨p, hp⟩ : ∃ p, fs + t = p := ⟨_, rfl⟩
        have hpb : p ≤ 200000000 := by omega
        by_cases hlt : t < sm
        · have hli : (p : Int) < (fs : Int) + (sm : Int) := by omega
          have hlf := HLF.out t hlt
          rw [hp] at hlf
          obtain ⟨ad, rfl, hcell⟩ := bls_at (own_rd K7.out (List.Mem.head _)) hlf
          have hpl : (p : Int) < (f.length : Int) := by have := HFI.out; omega
          have hpd : (p : Int) < (d' : Int) := by omega
          have HLT := hide hlt
          have HP := hide hp
          rw [hp]
          clear hlf hlt hp
          go_wp2_with fail
          clear hcell
          go_roundw
          case rel => exact ⟨t + 1, by have := HP.out; go_num, HLT.out, K7⟩
          case measure => have := HLT.out; have := HP.out; simp [intOf]; omega
        · have hli : ¬ (p : Int) < (fs : Int) + (sm : Int) := by omega
          rw [hp]
          clear hlt hp
          obtain ⟨c0, c1, c2, c3, cz⟩ := blk4 (K7.out.blk (e := 24) (List.Mem.tail _ (List.Mem.tail _ (List.Mem.tail _ (List.Mem.head _)))))
          obtain ⟨a0, a1, az⟩ := blk2 (K7.out.blk (e := 27) (List.Mem.tail _ (List.Mem.tail _ (List.Mem.head _))))
          go_wp2_with fail
          (with_reducible refine (HC.out _ K7.out.toExt).mono ?_)
          rintro e w8 ⟨v8, rfl, hS8⟩
          obtain ⟨B8, b8, rfl, hr8, hb8, _⟩ := (hS8.owns (List.Mem.head _)).form
          have O8 := hide (fun (y : World) (k : Ext w8 y) => hr8.ext k)
          have K8 : Hid (BX w w8 g g2 v A c s n) := hide (K7.out.ext hS8.toExt).tail.tail
          clear K7 hS8 HC hr8 c0 c1 c2 c3 cz a0 a1 az
          rw [i64s_len] at hb8 ⊢
          obtain ⟨c0, c1, c2, c3, cz⟩ := blk4 (K8.out.blk (e := 24) (List.Mem.tail _ (List.Mem.head _)))
          obtain ⟨a0, a1, az⟩ := blk2 (K8.out.blk (e := 27) (List.Mem.head _))
          go_wp2_with fail
          (with_reducible refine (HA.out _ K8.out.toExt).mono ?_)
          rintro e w9 ⟨rfl, hx⟩
          rw [HQ.out]
          have O9 := hide (fun (y : World) (k : Ext w9 y) => O8.out y (hx.trans k))
          have K9 : Hid (BX w w9 g g2 v A c s n) := hide (K8.out.ext hx)
          clear K8 hx HA c0 c1 c2 c3 cz a0 a1 az O8
          by_cases hc0 : cE v f.length s n = 0
          rotate_left
          · have e1 : (cE v f.length s n != 0) = true := bne_iff_ne.2 hc0
            have e2 : (((cR v f s n).length : Int) == 0) = true := by unfold cR; rw [if_neg hc0]; rfl
            clear hc0 hb8
            generalize cE v f.length s n = ce at *
            go_wp2_with fail
            (with_reducible refine (awake_any _).mono ?_)
            rintro e w99 ⟨rfl, hx⟩
            go_wp2_with fail
            go_ret
            exact ⟨rfl, K9.out.toExt.trans hx⟩
          · obtain ⟨_, hn1, hn8⟩ := cE_zero hc0
            obtain ⟨m, rfl⟩ : ∃ k : Nat, n = k := ⟨n.toNat, by omega⟩
            have HUP := hide (fun (x : Run × Nat × Nat) (hx : x ∈ chs (runsOf v f s) (m : Int).toNat) => alone_up (n := (m : Int)) HQ.out hx hn1)
            have HCR : Hid (cR v f s (m : Int) = fsts (chs (runsOf v f s) m)) := hide (by unfold cR; rw [if_pos hc0]; rfl)
            have HM1 : Hid (1 ≤ m) := hide (by omega)
            have hmb : m ≤ 8 := by omega
            have HWJ := hide (fun (y : World) (k : Ext w y) (i : Nat) (hi : i + m ≤ f.length) => HWF.out y k i m hi HFB.out)
            have HAJ := hide (fun (y : World) (k : Ext w y) (i : Nat) (hi : i + m ≤ f.length) => HAL.out y k i m hi HQ.out)
            have HOJ := hide (fun (i : Nat) (hi : i + m ≤ f.length) => off_len hi)
            have HFEW := hide (chs_few (runsOf v f s) m (runs_small (qE_zero HQ.out).1 (qE_zero HQ.out).2.2.2.1 s) (runsOf_few (qE_zero HQ.out).1 f s))
            rw [HLL.out, Int.toNat_natCast] at HUP
            rw [HLL.out] at HCR HFEW
            rw [hc0]
            rw [HCR.out] at O9 hb8 ⊢
            obtain ⟨La, hLa⟩ : ∃ x, chs l m = x := ⟨_, rfl⟩
            rw [hLa] at O9 hb8 HUP HFEW ⊢
            obtain ⟨a0, ha0⟩ : ∃ x, aloneE v f s = x := ⟨_, rfl⟩
            have hab : 0 ≤ a0 ∧ a0 ≤ 2000 := by
              have h1 := aloneN_le (runsOf v f s)
              have h2 := runsOf_few (qE_zero HQ.out).1 f s
              rw [← ha0]
              unfold aloneE
              rw [if_pos HQ.out]
              omega
            rw [ha0] at HUP ⊢
            rw [show (fsts La).length = La.length by simp [fsts]] at hb8 ⊢
            have HA0 := hide hab
            clear hc0 hn1 hn8 HWF HAL HCR hLa ha0
            go_wp2_with fail
            go_loopw [19] (fun v19 wr => ∃ i : Nat, v19 = .int .i64 i ∧ i ≤ La.length ∧ Hid (Ext w9 wr) ∧ Hid (BX w wr g g2 v A c s m)) (fun v19 _ => La.length - (intOf v19).toNat)
            case atStart => exact ⟨0, rfl, by omega, hide (Ext.refl _), K9⟩
            case round =>
              obtain ⟨i, rfl, hi, EA, KA⟩ := hrel
              clear K9
              have hib : i ≤ 50000000 := by have := HFEW.out; omega
              by_cases hlt : i < La.length
              · have hli : (i : Int) < (La.length : Int) := by omega
                have hic : (i : Int) < (b8 : Int) := by omega
                obtain ⟨x, hx⟩ : ∃ x, La[i]? = some x := ⟨_, List.getElem?_eq_getElem hlt⟩
                obtain ⟨hfit, b, hb, hb2⟩ := HUP.out x (List.mem_of_getElem? hx)
                obtain ⟨p, hp⟩ : ∃ p, x.1.first + x.2.1 = p := ⟨_, rfl⟩
                have hix := fsts_at hx
                rw [hp] at hfit hb hix
                have HIX := hide hix
                have HWK := hide (fun (y : World) (k : Ext w y) => HWJ.out y k p hfit)
                have HAK := hide (fun (y : World) (k : Ext w y) => HAJ.out y k p hfit)
                rw [hb] at HAK
                have HOL := hide (HOJ.out p hfit)
                have HLT := hide hlt
                have hpl : ¬ (f.length : Int) ≤ (p : Int) := by have := HM1.out; omega
                have hpb : p ≤ 100000000 := by omega
                have hbb : (b : Int) ≤ a0 + 2 := hb2
                have hab := HA0.out
                clear hfit hb hb2 hix hx hp hlt
                obtain ⟨ad, hA, hcell⟩ := O9.out _ EA.out i _ HIX.out
                subst hA
                go_upto_region 32 with fail
                refine wp_region_wm [0, 1, 2, 3, 4, 5, 6, 7, 9, 10, 8, 11, 12, 13, 14, 15, 16] (by kernel_rfl) (by kernel_rfl) (by kernel_rfl) (by kernel_rfl) ?_
                have EB : Hid (Ext w9 wr.drew) := hide (EA.out.trans (Ext.refl wr).drew)
                have KD := KA.out.drew
                clear KA EA hcell
                generalize World.drew _ = wd at *
                have b0 := (KD.blk (e := 24) (List.Mem.tail _ (List.Mem.head _))).at5
                have s0 := (KD.blk (e := 27) (List.Mem.head _)).cell 0
                have s1 := (KD.blk (e := 27) (List.Mem.head _)).cell 1
                obtain ⟨ad2, hA, hcell⟩ := O9.out _ EB.out i _ HIX.out
                cases hA
                have KE := hide KD
                clear KD
                refine wm_ldX rfl rfl 24 (.tmp 3) rfl b0 rfl _ Tryd.underlying24 rfl (by kernel_rfl) ?_
                iterate 4 (refine wm_rd rfl rfl (fun K hK => ?_); go_simp; refine hK _ ?_; clear hK K)
                refine wm_ld1 rfl rfl 3 (.tmp 240) rfl rfl hcell _ Tryd.underlying3 rfl ?_
                (refine wm_rd rfl rfl (fun K hK => ?_); go_simp; refine hK _ ?_; clear hK K)
                refine wm_ld1 rfl rfl 3 (.tmp 242) rfl rfl s1 _ Tryd.underlying3 rfl ?_
                (refine wm_rd rfl rfl (fun K hK => ?_); go_simp; refine hK _ ?_; clear hK K)
                refine wm_ld1 rfl rfl 3 (.tmp 245) rfl rfl s0 _ Tryd.underlying3 rfl ?_
                clear b0 s0 s1 hcell
                refine wm_ext rfl rfl (fun K hK => ?_)
                go_simp
                go_at_call 24
                (with_reducible refine (HWK.out _ KE.out.toExt).mono ?_)
                rintro e w5 ⟨v5, rfl, hS5⟩
                obtain ⟨F5, d5, rfl, hF5, hd5, _⟩ := (hS5.owns (List.Mem.head _)).form
                rw [bls_len, HOL.out] at hd5 ⊢
                have X5 := hide hS5.toExt
                refine hK _ _ X5.out ?_
                clear hK K hS5
                refine wm_ext rfl rfl (fun K hK => ?_)
                go_simp
                go_at_call 13
                (with_reducible refine (HAK.out _ (KE.out.toExt.trans X5.out) F5 d5 hF5 hd5).mono ?_)
                rintro e w6 ⟨rfl, hx6⟩
                refine hK _ _ hx6 ?_
                clear hK K
                have EC := hide (EB.out.trans (X5.out.trans hx6))
                have KB : Hid (BX w w6 g g2 v A c s m) := hide (KE.out.ext (X5.out.trans hx6))
                clear X5 hx6 KE hF5 EB
                iterate 5 (refine wm_rd rfl rfl (fun K hK => ?_); go_simp; refine hK _ ?_; clear hK K)
                refine wm_nil ?_
                have hba : ¬ a0 + 2 < (b : Int) := by omega
                go_wp2_with fail
                go_roundw
                case rel => exact ⟨i + 1, by go_num, HLT.out, EC, KB⟩
                case measure => have := HLT.out; simp [intOf]; omega
              · have hli : ¬ (i : Int) < (La.length : Int) := by omega
                clear hlt
                go_wp2_with fail
                (with_reducible refine (awake_any _).mono ?_)
                rintro e w99 ⟨rfl, hx⟩
                go_wp2_with fail
                go_ret
                exact ⟨rfl, KA.out.toExt.trans hx⟩
end Go.Proofs.YtkhinagagncblaaDoor
