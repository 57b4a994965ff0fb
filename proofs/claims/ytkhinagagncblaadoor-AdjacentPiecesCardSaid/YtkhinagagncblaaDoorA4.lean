/- Venues: what is wrong with one, by the program. -/
import Derived.Test.YtkhinagagncblaaDoorA3
import Derived.Deep.CutBlock
import Derived.Deep.DeepCutAuto
namespace Go.Proofs.YtkhinagagncblaaDoor
open Go.RowKit Go.Gr Go.Ad
set_option linter.unusedVariables false
set_option linter.unusedSimpArgs false
attribute [local go_sem] rdOp rdAt rdUpon Cls forall_fr
theorem chk_head {v : Vn} (h : headE v = true) : chk v = (-1, 7) := by unfold chk; rw [if_pos h]
theorem chk_empty {v : Vn} (h : headE v = false) (h2 : v.secs.length = 0) : chk v = (-1, 6) := by unfold chk; rw [if_neg (by rw [h]; simp), if_pos h2]
theorem chk_many {v : Vn} (h : headE v = false) (h2 : v.secs.length ≠ 0) (h3 : 8 < v.secs.length) : chk v = (-1, 3) := by unfold chk; rw [if_neg (by rw [h]; simp), if_neg h2, if_pos h3]
theorem chk_go {v : Vn} (h : headE v = false) (h2 : v.secs.length ≠ 0) (h3 : ¬ 8 < v.secs.length) : chk v = (match secsGo [] v.secs with
    | some (i, e) => ((i : Int), e)
    | none => if 4096 < sumS v.secs then (-1, 3) else (0, 0)) := by unfold chk; rw [if_neg (by rw [h]; simp), if_neg h2, if_neg h3]; rfl
theorem sumS_append (l m : List Sc) : sumS (l ++ m) = sumS l + sumS m := by simp [sumS]
theorem sum_le {l : List Nat} {b : Nat} (h : ∀ n ∈ l, n ≤ b) : l.sum ≤ l.length * b := by
  induction l with
  | nil => simp
  | cons a l ih =>
    have h1 := h a (by simp)
    have h2 := ih fun n hn => h n (by simp [hn])
    rw [List.sum_cons, List.length_cons, Nat.add_mul]; omega
theorem sc_sum {s : Sc} (h : ScOk s) : s.sum ≤ 1024 := by
  have h1 : ∀ n ∈ s.rowsN, n ≤ 64 := by
    intro n hn
    obtain ⟨x, hx, rfl⟩ := List.mem_map.1 hn
    have := h.row x hx; omega
  have h2 := sum_le h1
  have h3 : s.rowsN.length ≤ 16 := by unfold Sc.rowsN; rw [List.length_map]; exact h.few
  have := Nat.mul_le_mul_right 64 h3
  unfold Sc.sum; omega
theorem sumS_le {l : List Sc} (h : ∀ s ∈ l, ScOk s) : sumS l ≤ l.length * 1024 := by
  have := sum_le (l := l.map Sc.sum) (b := 1024) (by
    intro n hn
    obtain ⟨s, hs, rfl⟩ := List.mem_map.1 hn
    exact sc_sum (h s hs))
  rwa [List.length_map] at this
theorem go_step {l : List Sc} {i : Nat} {s : Sc} (h : l[i]? = some s) (h0 : secE (l.take i) s = 0) : secsGo (l.take i) (l.drop i) = secsGo (l.take (i + 1)) (l.drop (i + 1)) := by
  have hi : i < l.length := (List.getElem?_eq_some_iff.1 h).1
  have hd : l.drop i = s :: l.drop (i + 1) := by
    rw [List.drop_eq_getElem_cons hi]
    rw [List.getElem?_eq_getElem hi] at h
    rw [Option.some.inj h]
  rw [hd, secsGo, if_neg (fun hn => hn h0), List.take_add_one, h]; rfl
theorem go_stop {l : List Sc} {i : Nat} {s : Sc} (h : l[i]? = some s) (h0 : secE (l.take i) s ≠ 0) : secsGo (l.take i) (l.drop i) = some (i, secE (l.take i) s) := by
  have hi : i < l.length := (List.getElem?_eq_some_iff.1 h).1
  have hd : l.drop i = s :: l.drop (i + 1) := by
    rw [List.drop_eq_getElem_cons hi]
    rw [List.getElem?_eq_getElem hi] at h
    rw [Option.some.inj h]
  rw [hd, secsGo, if_pos h0, List.length_take, Nat.min_eq_left (by omega)]
theorem take_all {l : List Sc} {i : Nat} {s : Sc} {p : Sc → Prop} (h : l[i]? = some s) (h0 : ∀ x ∈ l.take i, p x) (hs : p s) : ∀ x ∈ l.take (i + 1), p x := by
  intro x hx
  rw [List.take_add_one, h] at hx
  rcases List.mem_append.1 hx with hx | hx
  · exact h0 x hx
  · have : x = s := by simpa using hx
    rw [this]; exact hs
theorem sumS_step {l : List Sc} {i : Nat} {s : Sc} (h : l[i]? = some s) : sumS (l.take (i + 1)) = sumS (l.take i) + s.sum := by
  rw [List.take_add_one, h, sumS_append]; simp [sumS]
theorem sum_step {l : List Nat} {i n : Nat} (h : l[i]? = some n) : (l.take (i + 1)).sum = (l.take i).sum + n := by
  rw [List.take_add_one, h, List.sum_append]; simp
theorem sum_take_le : ∀ (l : List Nat) (i : Nat), (l.take i).sum ≤ l.sum
  | [], i => by simp
  | a :: l, 0 => by simp
  | a :: l, i + 1 => by have := sum_take_le l i; simp; omega
theorem rowsN_get {s : Sc} {k : Nat} {x : Int} (h : s.rows[k]? = some x) : s.rowsN[k]? = some x.toNat := by unfold Sc.rowsN; rw [List.getElem?_map, h]; rfl
theorem scC_one (s : Sc) (R : Option Addr) (d : Nat) : ∀ x ∈ ([.string s.name, .slice R s.rows.length d, .int .i64 s.queue] : List Value), x.oneCell' = true := by
  intro x hx
  simp only [List.mem_cons, List.not_mem_nil, or_false] at hx
  rcases hx with rfl | rfl | rfl <;> rfl
set_option maxRecDepth 100000 in
set_option maxHeartbeats 8000000 in
theorem venue_check (v : Vn) (A : Option Addr) (c : Nat) (w : World) (h : Secs w A v.secs) (hc : v.secs.length ≤ c) (hw : VnW v) :
    Calls Tryd.prog 53 #[.agg #[.int .i64 v.sh, .int .i64 v.ttl, .int .i64 v.ses, .slice A v.secs.length c]] w fun e w' => e = .returned (.tuple #[.int .i64 (chk v).1, .int .i64 (chk v).2]) ∧ Ext w w' := by
  have HS := hide (fun (y : World) (k : Ext w y) => h.ext k)
  have HC := hide hc
  have HW := hide hw.sec
  clear h hc hw
  have K0 := (Sep.refl No w).add 24 [.int .i64 v.sh, .int .i64 v.ttl, .int .i64 v.ses, .slice A v.secs.length c]
  go_enter Tryd.func53, Tryd.ntmps53
  go_upto_region 1 with fail
  generalize w.alloc _ = w1 at K0 ⊢
  generalize w.heap.size = g1 at K0 ⊢
  obtain ⟨c0, c1, c2, c3, cz⟩ := blk4 (K0.blk (List.Mem.head _))
  have KK := hide K0
  clear K0
  go_wp2_with fail
  (with_reducible refine (out_any _ _ _ _).mono ?_)
  rintro e w2 ⟨rfl, rfl⟩
  cases h1 : outB v.sh 1 16
  rotate_left
  · have HE := hide (chk_head (v := v) (by unfold headE; rw [h1]; simp))
    go_wp2_with fail
    refine bodyPost_ret (results_tmp2 rfl _ _ _) rfl ?_
    exact ⟨by rw [HE.out]; rfl, KK.out.toExt⟩
  go_wp2_with fail
  (with_reducible refine (out64_any _ _ _ _).mono ?_)
  rintro e w3 ⟨rfl, rfl⟩
  cases h2 : outB v.ttl 1 1000000000
  rotate_left
  · have HE := hide (chk_head (v := v) (by unfold headE; rw [h1, h2]; simp))
    go_wp2_with fail
    refine bodyPost_ret (results_tmp2 rfl _ _ _) rfl ?_
    exact ⟨by rw [HE.out]; rfl, KK.out.toExt⟩
  go_wp2_with fail
  (with_reducible refine (out64_any _ _ _ _).mono ?_)
  rintro e w4 ⟨rfl, rfl⟩
  cases h3 : outB v.ses 1 1000000000
  rotate_left
  · have HE := hide (chk_head (v := v) (by unfold headE; rw [h1, h2, h3]; simp))
    go_wp2_with fail
    refine bodyPost_ret (results_tmp2 rfl _ _ _) rfl ?_
    exact ⟨by rw [HE.out]; rfl, KK.out.toExt⟩
  have HH : Hid (headE v = false) := hide (by unfold headE; rw [h1, h2, h3]; rfl)
  clear h1 h2 h3
  by_cases h0 : v.secs.length = 0
  · have e1 : ((v.secs.length : Int) == 0) = true := by rw [h0]; rfl
    have HE := hide (chk_empty HH.out h0)
    clear h0
    go_wp2_with fail
    refine bodyPost_ret (results_tmp2 rfl _ _ _) rfl ?_
    exact ⟨by rw [HE.out]; rfl, KK.out.toExt⟩
  have e1 : ((v.secs.length : Int) == 0) = false := beq_eq_false_iff_ne.2 (by omega)
  by_cases h8 : 8 < v.secs.length
  · have e2 : (8 : Int) < (v.secs.length : Int) := by omega
    have HE := hide (chk_many HH.out h0 h8)
    clear h0 h8
    go_wp2_with fail
    refine bodyPost_ret (results_tmp2 rfl _ _ _) rfl ?_
    exact ⟨by rw [HE.out]; rfl, KK.out.toExt⟩
  have e2 : ¬ (8 : Int) < (v.secs.length : Int) := by omega
  have HE := hide (chk_go HH.out h0 h8)
  have H8 : Hid (v.secs.length ≤ 8) := hide (by omega)
  clear h0 h8 HH
  go_wp2_with fail
  clear c0 c1 c2 c3 cz
  go_loopw [4, 37] (fun v4 v37 wr => ∃ (i : Nat) (t : Nat), v37 = .int .i64 i ∧ v4 = .int .i64 t ∧ i ≤ v.secs.length ∧ Hid (t = sumS (v.secs.take i)) ∧ Hid (∀ s ∈ v.secs.take i, ScOk s) ∧ Hid (secsGo (v.secs.take i) (v.secs.drop i) = secsGo [] v.secs) ∧ Hid (Sep No w wr [As.blk g1 24 [.int .i64 v.sh, .int .i64 v.ttl, .int .i64 v.ses, .slice A v.secs.length c]])) (fun _ v37 _ => v.secs.length - (intOf v37).toNat)
  case atStart => exact ⟨0, 0, rfl, rfl, by omega, hide rfl, hide (by simp), hide rfl, KK⟩
  case round =>
    obtain ⟨i, t, rfl, rfl, hi, HT, HO, HG, K1⟩ := hrel
    clear KK
    have hi8 : i ≤ 8 := by have := H8.out; omega
    have ht8 : t ≤ 8192 := by
      have h1 := sumS_le HO.out
      rw [List.length_take, Nat.min_eq_left hi] at h1
      rw [HT.out]; omega
    by_cases hlt : i < v.secs.length
    · have hli : (i : Int) < (v.secs.length : Int) := by omega
      obtain ⟨s, hs⟩ : ∃ s, v.secs[i]? = some s := ⟨_, List.getElem?_eq_getElem hlt⟩
      obtain ⟨b, off, R, d, hA, h5w, hRw, hd⟩ := HS.out _ (Ext.refl w) i _ hs
      have h5 := h5w.ext K1.out.toExt
      have HR := hide (fun (y : World) (k : Ext w y) => hRw.ext k)
      clear h5w hRw
      have HWS := hide (HW.out s (List.mem_of_getElem? hs))
      have HSI := hide hs
      have HLT := hide hlt
      obtain ⟨d0, d1, d2⟩ := at5_3 h5
      have HAA := hide hA
      subst hA
      have tok1 : True := trivial
      have tok2 : True := trivial
      obtain ⟨c0, c1, c2, c3, cz⟩ := blk4 (K1.out.blk (List.Mem.head _))
      go_upto_region 11 with (first
        | (have zz := tok1; clear zz tok1; refine wpList_alS K1.out rfl 78 rfl [.string ⟨#[]⟩, .slice none 0 0, .int .i64 0] (by kernel_rfl) ?_; intro w5 hz5 K5; clear hz5)
        | (have zz := tok2; clear zz tok2; refine wpList_stS [] K5 rfl 78 (.tmp 6) (.tmp 41) rfl rfl (cs := [.string s.name, .slice R s.rows.length d, .int .i64 s.queue]) rfl (by kernel_rfl) rfl (scC_one s R d) ?_; intro w6 K6; dsimp only [List.nil_append, List.cons_append] at K6; have KK := hide K6; clear K5 K6))
      clear c0 c1 c2 c3 cz d0 d1 d2 h5 K1
      generalize wr.heap.size = g2 at KK ⊢
      have hic : (i : Int) ≤ (c : Int) := by have := HC.out; omega
      refine wp_region_wm [0, 1, 2, 3, 4, 5, 6] (by kernel_rfl) (by kernel_rfl) (by kernel_rfl) (by kernel_rfl) ?_
      have K7 := KK.out.drew
      clear KK
      generalize World.drew _ = wd at *
      have cc := (K7.blk (g := g1) (e := 24) (List.Mem.tail _ (List.Mem.head _))).cell 3
      refine wm_ldS K7 (List.Mem.head _) rfl rfl 78 (.tmp 6) rfl rfl _ Tryd.underlying78 rfl (by kernel_rfl) ?_
      iterate 1 (refine wm_rd rfl rfl (fun K hK => ?_); go_simp; refine hK _ ?_; clear hK K)
      refine wm_ld1 rfl rfl 22 (.tmp 43) rfl rfl cc _ Tryd.underlying22 rfl ?_
      iterate 2 (refine wm_rd rfl rfl (fun K hK => ?_); go_simp; refine hK _ ?_; clear hK K)
      clear cc
      refine wm_ext rfl rfl (fun K hK => ?_)
      go_simp
      have hlen : (v.secs.take i).length = i := by rw [List.length_take]; omega
      have HCK := hide (check_any (v.secs.take i) (some ⟨b, off, none⟩) c s R d wd ((HS.out _ K7.toExt).take i) (by have := HC.out; omega) (by omega) (HR.out _ K7.toExt) hd HWS.out)
      rw [hlen] at HCK
      clear hlen
      go_at_call 59
      (with_reducible refine HCK.out.mono ?_)
      rintro e w8 ⟨rfl, hx⟩
      refine hK _ _ hx ?_
      have K8 := hide (K7.ext hx)
      clear hK K K7 hx HCK
      iterate 1 (refine wm_rd rfl rfl (fun K hK => ?_); go_simp; refine hK _ ?_; clear hK K)
      refine wm_nil ?_
      by_cases he : secE (v.secs.take i) s = 0
      · have HST := hide (go_step HSI.out he)
        have HOK := hide (secE_zero he)
        rw [he]
        obtain ⟨a0, a1, a2, az⟩ := blk3 (K8.out.blk (g := g2) (e := 78) (List.Mem.head _))
        have HRW := hide (HR.out _ K8.out.toExt)
        have HX8 := hide K8.out.toExt
        clear HR HAA
        go_wp2_with fail
        clear a0 a1 a2 az
        go_loopw [4, 55] (fun v4 v55 wy => ∃ (k : Nat) (u : Nat), v55 = .int .i64 k ∧ v4 = .int .i64 u ∧ k ≤ s.rows.length ∧ Hid (u = t + (s.rowsN.take k).sum) ∧ wy = w8) (fun _ v55 _ => s.rows.length - (intOf v55).toNat)
        case atStart => exact ⟨0, t, rfl, rfl, by omega, hide (by simp), rfl⟩
        case round =>
          obtain ⟨k, u, rfl, rfl, hk, HU, rfl⟩ := hrel
          have hkb : k ≤ 16 := by have := HOK.out.few; omega
          have hub : u ≤ 9216 := by
            have h1 := sc_sum HOK.out
            have h2 := sum_take_le s.rowsN k
            unfold Sc.sum at h1
            rw [HU.out]; omega
          by_cases hkl : k < s.rows.length
          · have hkli : (k : Int) < (s.rows.length : Int) := by omega
            obtain ⟨ad, hA2, cl⟩ := i64s_at HRW.out hkl
            obtain ⟨x, hx⟩ : ∃ x, s.rows[k]? = some x := ⟨_, List.getElem?_eq_getElem hkl⟩
            have hx' : s.rows[k] = x := by rw [List.getElem?_eq_getElem hkl] at hx; exact Option.some.inj hx
            rw [hx'] at cl
            have hxr := HOK.out.row x (List.mem_of_getElem? hx)
            obtain ⟨n, rfl⟩ : ∃ n : Nat, x = n := ⟨x.toNat, by omega⟩
            have HSS := hide (sum_step (rowsN_get hx))
            subst hA2
            have hdc : (k : Int) < (d : Int) := by omega
            have hn64 : n ≤ 64 := by omega
            clear hx hx' hxr
            have HKL := hide hkl
            clear hkl
            go_wp2_with fail
            go_roundw
            case rel => exact ⟨k + 1, u + n, by go_num, by go_num, HKL.out, hide (by rw [HSS.out, HU.out, Int.toNat_natCast]; omega), by first | trivial | rfl⟩
            case measure => have := HKL.out; simp [intOf]; omega
          · obtain rfl : k = s.rows.length := by omega
            have hkli : ¬ (s.rows.length : Int) < (s.rows.length : Int) := by omega
            have HT2 := hide (show u = sumS (v.secs.take (i + 1)) by
              rw [sumS_step HSI.out, HU.out, List.take_of_length_le (by unfold Sc.rowsN; rw [List.length_map]; exact Nat.le_refl _), HT.out]; rfl)
            have HO2 := hide (take_all HSI.out HO.out HOK.out)
            go_wp2_with fail
            go_roundw
            case rel => exact ⟨i + 1, u, by go_num, rfl, HLT.out, HT2, HO2, hide (HST.out.symm.trans HG.out), hide (K8.out.tail)⟩
            case measure => have := HLT.out; simp [intOf]; omega
      · have HSP := hide (go_stop HSI.out he)
        have e3 : (secE (v.secs.take i) s != 0) = true := bne_iff_ne.2 he
        have HE2 : Hid (chk v = ((i : Int), secE (v.secs.take i) s)) := hide (by rw [HE.out, ← HG.out, HSP.out])
        clear he
        go_wp2_with fail
        refine bodyPost_ret (results_tmp2 rfl _ _ _) rfl ?_
        exact ⟨by rw [HE2.out]; rfl, K8.out.toExt⟩
    · obtain rfl : i = v.secs.length := by omega
      have hli : ¬ (v.secs.length : Int) < (v.secs.length : Int) := by omega
      have HG2 : Hid (secsGo [] v.secs = none) := hide (by rw [← HG.out, List.drop_of_length_le (Nat.le_refl _)]; rfl)
      have HT2 : Hid (t = sumS v.secs) := hide (by rw [HT.out, List.take_of_length_le (Nat.le_refl _)])
      by_cases h4 : 4096 < t
      · have e3 : (4096 : Int) < (t : Int) := by omega
        have HE2 : Hid (chk v = (-1, 3)) := hide (by rw [HE.out, HG2.out]; show (if 4096 < sumS v.secs then _ else _) = _; rw [← HT2.out, if_pos h4])
        clear h4
        go_wp2_with fail
        refine bodyPost_ret (results_tmp2 rfl _ _ _) rfl ?_
        exact ⟨by rw [HE2.out]; rfl, K1.out.toExt⟩
      · have e3 : ¬ (4096 : Int) < (t : Int) := by omega
        have HE2 : Hid (chk v = (0, 0)) := hide (by rw [HE.out, HG2.out]; show (if 4096 < sumS v.secs then _ else _) = _; rw [← HT2.out, if_neg h4])
        clear h4
        go_wp2_with fail
        refine bodyPost_ret (results_tmp2 rfl _ _ _) rfl ?_
        exact ⟨by rw [HE2.out]; rfl, K1.out.toExt⟩
end Go.Proofs.YtkhinagagncblaaDoor
