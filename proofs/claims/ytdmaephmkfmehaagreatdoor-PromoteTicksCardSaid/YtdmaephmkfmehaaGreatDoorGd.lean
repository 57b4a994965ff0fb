/- Texts put together: A4 A5 A6 A7 A8 A9 RoundIn. -/
import Derived.Test.YtdmaephmkfmehaaGreatDoorGc
import Derived.Deep.CutBlock
import Derived.Deep.DeepCutAuto
import Derived.RangeFuncNested
import Derived.RangeFuncBound
import Derived.RangeFuncCalls
import Derived.RangeFuncLeaves
import Derived.RangeFuncBox
import Derived.Shelf.Abstract
import Derived.Shelf.RegionOpen
import Derived.OwnWalkIn
import Derived.TacticsInMore
import Derived.LoopNIn
import Derived.LoopIn
import Derived.Test.YtdmaephmkfmehaaGreatDoorGb
import Derived.OrdersIn
namespace Go.Proofs.YtdmaephmkfmehaaGreatDoor
open Go.RowKit Go.Gr Go.Ad
set_option linter.unusedVariables false
set_option linter.unusedSimpArgs false
attribute [local go_sem] rdOp rdAt rdUpon Cls forall_fr
theorem chk_head {v : Vn} (h : headE v = true) : chk v = (-1, 7) := by unfold chk; rw [if_pos h]
theorem chk_empty {v : Vn} (h : headE v = false) (h2 : v.secs.length = 0) : chk v = (-1, 6) := by unfold chk; rw [if_neg (by rw [h]; simp), if_pos h2]
theorem chk_many {v : Vn} (h : headE v = false) (h2 : v.secs.length ≠ 0) (h3 : 8 < v.secs.length) : chk v = (-1, 3) := by unfold chk; rw [if_neg (by rw [h]; simp), if_neg h2, if_pos h3]
theorem chk_go {v : Vn} (h : headE v = false) (h2 : v.secs.length ≠ 0) (h3 : ¬ 8 < v.secs.length) : chk v = (match secsGo [] v.secs with
    | some (i, e) => ((i : Int), e)
    | none => if 4096 < sumS v.secs then (-1, 3) else (0, 0)) := by unfold chk; rw [if_neg (by rw [h]; simp), if_neg h2, if_neg h3]; rfl
theorem sumS_append (l m : List Sc) : sumS (l ++ m) = sumS l + sumS m := by simp [sumS]
theorem sum_le {l : List Nat} {b : Nat} (h : ∀ n ∈ l, n ≤ b) : l.sum ≤ l.length * b := by
  induction l with
  | nil => simp
  | cons a l ih =>
    have h1 := h a (by simp)
    have h2 := ih fun n hn => h n (by simp [hn])
    rw [List.sum_cons, List.length_cons, Nat.add_mul]; omega
theorem sc_sum {s : Sc} (h : ScOk s) : s.sum ≤ 1024 := by
  have h1 : ∀ n ∈ s.rowsN, n ≤ 64 := by
    intro n hn
    obtain ⟨x, hx, rfl⟩ := List.mem_map.1 hn
    have := h.row x hx; omega
  have h2 := sum_le h1
  have h3 : s.rowsN.length ≤ 16 := by unfold Sc.rowsN; rw [List.length_map]; exact h.few
  have := Nat.mul_le_mul_right 64 h3
  unfold Sc.sum; omega
theorem sumS_le {l : List Sc} (h : ∀ s ∈ l, ScOk s) : sumS l ≤ l.length * 1024 := by
  have := sum_le (l := l.map Sc.sum) (b := 1024) (by
    intro n hn
    obtain ⟨s, hs, rfl⟩ := List.mem_map.1 hn
    exact sc_sum (h s hs))
  rwa [List.length_map] at this
theorem go_step {l : List Sc} {i : Nat} {s : Sc} (h : l[i]? = some s) (h0 : secE (l.take i) s = 0) : secsGo (l.take i) (l.drop i) = secsGo (l.take (i + 1)) (l.drop (i + 1)) := by
  have hi : i < l.length := (List.getElem?_eq_some_iff.1 h).1
  have hd : l.drop i = s :: l.drop (i + 1) := by
    rw [List.drop_eq_getElem_cons hi]
    rw [List.getElem?_eq_getElem hi] at h
    rw [Option.some.inj h]
  rw [hd, secsGo, if_neg (fun hn => hn h0), List.take_add_one, h]; rfl
theorem go_stop {l : List Sc} {i : Nat} {s : Sc} (h : l[i]? = some s) (h0 : secE (l.take i) s ≠ 0) : secsGo (l.take i) (l.drop i) = some (i, secE (l.take i) s) := by
  have hi : i < l.length := (List.getElem?_eq_some_iff.1 h).1
  have hd : l.drop i = s :: l.drop (i + 1) := by
    rw [List.drop_eq_getElem_cons hi]
    rw [List.getElem?_eq_getElem hi] at h
    rw [Option.some.inj h]
  rw [hd, secsGo, if_pos h0, List.length_take, Nat.min_eq_left (by omega)]
theorem take_all {l : List Sc} {i : Nat} {s : Sc} {p : Sc → Prop} (h : l[i]? = some s) (h0 : ∀ x ∈ l.take i, p x) (hs : p s) : ∀ x ∈ l.take (i + 1), p x := by
  intro x hx
  rw [List.take_add_one, h] at hx
  rcases List.mem_append.1 hx with hx | hx
  · exact h0 x hx
  · have : x = s := by simpa using hx
    rw [this]; exact hs
theorem sumS_step {l : List Sc} {i : Nat} {s : Sc} (h : l[i]? = some s) : sumS (l.take (i + 1)) = sumS (l.take i) + s.sum := by
  rw [List.take_add_one, h, sumS_append]; simp [sumS]
theorem sum_step {l : List Nat} {i n : Nat} (h : l[i]? = some n) : (l.take (i + 1)).sum = (l.take i).sum + n := by
  rw [List.take_add_one, h, List.sum_append]; simp
theorem sum_take_le : ∀ (l : List Nat) (i : Nat), (l.take i).sum ≤ l.sum
  | [], i => by simp
  | a :: l, 0 => by simp
  | a :: l, i + 1 => by have := sum_take_le l i; simp; omega
theorem rowsN_get {s : Sc} {k : Nat} {x : Int} (h : s.rows[k]? = some x) : s.rowsN[k]? = some x.toNat := by unfold Sc.rowsN; rw [List.getElem?_map, h]; rfl
theorem scC_one (s : Sc) (R : Option Addr) (d : Nat) : ∀ x ∈ ([.string s.name, .slice R s.rows.length d, .int .i64 s.queue] : List Value), x.oneCell' = true := by
  intro x hx
  simp only [List.mem_cons, List.not_mem_nil, or_false] at hx
  rcases hx with rfl | rfl | rfl <;> rfl
set_option maxRecDepth 100000 in
set_option maxHeartbeats 8000000 in
theorem venue_check (v : Vn) (A : Option Addr) (c : Nat) (w : World) (h : Secs w A v.secs) (hc : v.secs.length ≤ c) (hw : VnW v) :
    Calls Tryz.prog 29 #[.agg #[.int .i64 v.sh, .int .i64 v.ttl, .int .i64 v.ses, .slice A v.secs.length c]] w fun e w' => e = .returned (.tuple #[.int .i64 (chk v).1, .int .i64 (chk v).2]) ∧ Ext w w' := by
  have HS := hide (fun (y : World) (k : Ext w y) => h.ext k)
  have HC := hide hc
  have HW := hide hw.sec
  clear h hc hw
  have K0 := (Sep.refl No w).add 24 [.int .i64 v.sh, .int .i64 v.ttl, .int .i64 v.ses, .slice A v.secs.length c]
  go_enter Tryz.func29, Tryz.ntmps29
  go_upto_region 1 with fail
  generalize w.alloc _ = w1 at K0 ⊢
  generalize w.heap.size = g1 at K0 ⊢
  obtain ⟨c0, c1, c2, c3, cz⟩ := blk4 (K0.blk (List.Mem.head _))
  have KK := hide K0
  clear K0
  go_wp2_with fail
  (with_reducible refine (out_any _ _ _ _).mono ?_)
  rintro e w2 ⟨rfl, rfl⟩
  cases h1 : outB v.sh 1 16
  rotate_left
  · have HE := hide (chk_head (v := v) (by unfold headE; rw [h1]; simp))
    go_wp2_with fail
    refine bodyPost_ret (results_tmp2 rfl _ _ _) rfl ?_
    exact ⟨by rw [HE.out]; rfl, KK.out.toExt⟩
  go_wp2_with fail
  (with_reducible refine (out64_any _ _ _ _).mono ?_)
  rintro e w3 ⟨rfl, rfl⟩
  cases h2 : outB v.ttl 1 1000000000
  rotate_left
  · have HE := hide (chk_head (v := v) (by unfold headE; rw [h1, h2]; simp))
    go_wp2_with fail
    refine bodyPost_ret (results_tmp2 rfl _ _ _) rfl ?_
    exact ⟨by rw [HE.out]; rfl, KK.out.toExt⟩
  go_wp2_with fail
  (with_reducible refine (out64_any _ _ _ _).mono ?_)
  rintro e w4 ⟨rfl, rfl⟩
  cases h3 : outB v.ses 1 1000000000
  rotate_left
  · have HE := hide (chk_head (v := v) (by unfold headE; rw [h1, h2, h3]; simp))
    go_wp2_with fail
    refine bodyPost_ret (results_tmp2 rfl _ _ _) rfl ?_
    exact ⟨by rw [HE.out]; rfl, KK.out.toExt⟩
  have HH : Hid (headE v = false) := hide (by unfold headE; rw [h1, h2, h3]; rfl)
  clear h1 h2 h3
  by_cases h0 : v.secs.length = 0
  · have e1 : ((v.secs.length : Int) == 0) = true := by rw [h0]; rfl
    have HE := hide (chk_empty HH.out h0)
    clear h0
    go_wp2_with fail
    refine bodyPost_ret (results_tmp2 rfl _ _ _) rfl ?_
    exact ⟨by rw [HE.out]; rfl, KK.out.toExt⟩
  have e1 : ((v.secs.length : Int) == 0) = false := beq_eq_false_iff_ne.2 (by omega)
  by_cases h8 : 8 < v.secs.length
  · have e2 : (8 : Int) < (v.secs.length : Int) := by omega
    have HE := hide (chk_many HH.out h0 h8)
    clear h0 h8
    go_wp2_with fail
    refine bodyPost_ret (results_tmp2 rfl _ _ _) rfl ?_
    exact ⟨by rw [HE.out]; rfl, KK.out.toExt⟩
  have e2 : ¬ (8 : Int) < (v.secs.length : Int) := by omega
  have HE := hide (chk_go HH.out h0 h8)
  have H8 : Hid (v.secs.length ≤ 8) := hide (by omega)
  clear h0 h8 HH
  go_wp2_with fail
  clear c0 c1 c2 c3 cz
  go_loopw [4, 37] (fun v4 v37 wr => ∃ (i : Nat) (t : Nat), v37 = .int .i64 i ∧ v4 = .int .i64 t ∧ i ≤ v.secs.length ∧ Hid (t = sumS (v.secs.take i)) ∧ Hid (∀ s ∈ v.secs.take i, ScOk s) ∧ Hid (secsGo (v.secs.take i) (v.secs.drop i) = secsGo [] v.secs) ∧ Hid (Sep No w wr [As.blk g1 24 [.int .i64 v.sh, .int .i64 v.ttl, .int .i64 v.ses, .slice A v.secs.length c]])) (fun _ v37 _ => v.secs.length - (intOf v37).toNat)
  case atStart => exact ⟨0, 0, rfl, rfl, by omega, hide rfl, hide (by simp), hide rfl, KK⟩
  case round =>
    obtain ⟨i, t, rfl, rfl, hi, HT, HO, HG, K1⟩ := hrel
    clear KK
    have hi8 : i ≤ 8 := by have := H8.out; omega
    have ht8 : t ≤ 8192 := by
      have h1 := sumS_le HO.out
      rw [List.length_take, Nat.min_eq_left hi] at h1
      rw [HT.out]; omega
    by_cases hlt : i < v.secs.length
    · have hli : (i : Int) < (v.secs.length : Int) := by omega
      obtain ⟨s, hs⟩ : ∃ s, v.secs[i]? = some s := ⟨_, List.getElem?_eq_getElem hlt⟩
      obtain ⟨b, off, R, d, hA, h5w, hRw, hd⟩ := HS.out _ (Ext.refl w) i _ hs
      have h5 := h5w.ext K1.out.toExt
      have HR := hide (fun (y : World) (k : Ext w y) => hRw.ext k)
      clear h5w hRw
      have HWS := hide (HW.out s (List.mem_of_getElem? hs))
      have HSI := hide hs
      have HLT := hide hlt
      obtain ⟨d0, d1, d2⟩ := at5_3 h5
      have HAA := hide hA
      subst hA
      have tok1 : True := trivial
      have tok2 : True := trivial
      obtain ⟨c0, c1, c2, c3, cz⟩ := blk4 (K1.out.blk (List.Mem.head _))
      go_upto_region 11 with (first
        | (have zz := tok1; clear zz tok1; refine wpList_alS K1.out rfl 100 rfl [.string ⟨#[]⟩, .slice none 0 0, .int .i64 0] (by kernel_rfl) ?_; intro w5 hz5 K5; clear hz5)
        | (have zz := tok2; clear zz tok2; refine wpList_stS [] K5 rfl 100 (.tmp 6) (.tmp 41) rfl rfl (cs := [.string s.name, .slice R s.rows.length d, .int .i64 s.queue]) rfl (by kernel_rfl) rfl (scC_one s R d) ?_; intro w6 K6; dsimp only [List.nil_append, List.cons_append] at K6; have KK := hide K6; clear K5 K6))
      clear c0 c1 c2 c3 cz d0 d1 d2 h5 K1
      generalize wr.heap.size = g2 at KK ⊢
      have hic : (i : Int) ≤ (c : Int) := by have := HC.out; omega
      refine wp_region_wm [0, 1, 2, 3, 4, 5, 6] (by kernel_rfl) (by kernel_rfl) (by kernel_rfl) (by kernel_rfl) ?_
      have K7 := KK.out.drew
      clear KK
      generalize World.drew _ = wd at *
      have cc := (K7.blk (g := g1) (e := 24) (List.Mem.tail _ (List.Mem.head _))).cell 3
      refine wm_ldS K7 (List.Mem.head _) rfl rfl 100 (.tmp 6) rfl rfl _ Tryz.underlying100 rfl (by kernel_rfl) ?_
      iterate 1 (refine wm_rd rfl rfl (fun K hK => ?_); go_simp; refine hK _ ?_; clear hK K)
      refine wm_ld1 rfl rfl 22 (.tmp 43) rfl rfl cc _ Tryz.underlying22 rfl ?_
      iterate 2 (refine wm_rd rfl rfl (fun K hK => ?_); go_simp; refine hK _ ?_; clear hK K)
      clear cc
      refine wm_ext rfl rfl (fun K hK => ?_)
      go_simp
      have hlen : (v.secs.take i).length = i := by rw [List.length_take]; omega
      have HCK := hide (check_any (v.secs.take i) (some ⟨b, off, none⟩) c s R d wd ((HS.out _ K7.toExt).take i) (by have := HC.out; omega) (by omega) (HR.out _ K7.toExt) hd HWS.out)
      rw [hlen] at HCK
      clear hlen
      go_at_call 63
      (with_reducible refine HCK.out.mono ?_)
      rintro e w8 ⟨rfl, hx⟩
      refine hK _ _ hx ?_
      have K8 := hide (K7.ext hx)
      clear hK K K7 hx HCK
      iterate 1 (refine wm_rd rfl rfl (fun K hK => ?_); go_simp; refine hK _ ?_; clear hK K)
      refine wm_nil ?_
      by_cases he : secE (v.secs.take i) s = 0
      · have HST := hide (go_step HSI.out he)
        have HOK := hide (secE_zero he)
        rw [he]
        obtain ⟨a0, a1, a2, az⟩ := blk3 (K8.out.blk (g := g2) (e := 100) (List.Mem.head _))
        have HRW := hide (HR.out _ K8.out.toExt)
        have HX8 := hide K8.out.toExt
        clear HR HAA
        go_wp2_with fail
        clear a0 a1 a2 az
        go_loopw [4, 55] (fun v4 v55 wy => ∃ (k : Nat) (u : Nat), v55 = .int .i64 k ∧ v4 = .int .i64 u ∧ k ≤ s.rows.length ∧ Hid (u = t + (s.rowsN.take k).sum) ∧ wy = w8) (fun _ v55 _ => s.rows.length - (intOf v55).toNat)
        case atStart => exact ⟨0, t, rfl, rfl, by omega, hide (by simp), rfl⟩
        case round =>
          obtain ⟨k, u, rfl, rfl, hk, HU, rfl⟩ := hrel
          have hkb : k ≤ 16 := by have := HOK.out.few; omega
          have hub : u ≤ 9216 := by
            have h1 := sc_sum HOK.out
            have h2 := sum_take_le s.rowsN k
            unfold Sc.sum at h1
            rw [HU.out]; omega
          by_cases hkl : k < s.rows.length
          · have hkli : (k : Int) < (s.rows.length : Int) := by omega
            obtain ⟨ad, hA2, cl⟩ := i64s_at HRW.out hkl
            obtain ⟨x, hx⟩ : ∃ x, s.rows[k]? = some x := ⟨_, List.getElem?_eq_getElem hkl⟩
            have hx' : s.rows[k] = x := by rw [List.getElem?_eq_getElem hkl] at hx; exact Option.some.inj hx
            rw [hx'] at cl
            have hxr := HOK.out.row x (List.mem_of_getElem? hx)
            obtain ⟨n, rfl⟩ : ∃ n : Nat, x = n := ⟨x.toNat, by omega⟩
            have HSS := hide (sum_step (rowsN_get hx))
            subst hA2
            have hdc : (k : Int) < (d : Int) := by omega
            have hn64 : n ≤ 64 := by omega
            clear hx hx' hxr
            have HKL := hide hkl
            clear hkl
            go_wp2_with fail
            go_roundw
            case rel => exact ⟨k + 1, u + n, by go_num, by go_num, HKL.out, hide (by rw [HSS.out, HU.out, Int.toNat_natCast]; omega), by first | trivial | rfl⟩
            case measure => have := HKL.out; simp [intOf]; omega
          · obtain rfl : k = s.rows.length := by omega
            have hkli : ¬ (s.rows.length : Int) < (s.rows.length : Int) := by omega
            have HT2 := hide (show u = sumS (v.secs.take (i + 1)) by
              rw [sumS_step HSI.out, HU.out, List.take_of_length_le (by unfold Sc.rowsN; rw [List.length_map]; exact Nat.le_refl _), HT.out]; rfl)
            have HO2 := hide (take_all HSI.out HO.out HOK.out)
            go_wp2_with fail
            go_roundw
            case rel => exact ⟨i + 1, u, by go_num, rfl, HLT.out, HT2, HO2, hide (HST.out.symm.trans HG.out), hide (K8.out.tail)⟩
            case measure => have := HLT.out; simp [intOf]; omega
      · have HSP := hide (go_stop HSI.out he)
        have e3 : (secE (v.secs.take i) s != 0) = true := bne_iff_ne.2 he
        have HE2 : Hid (chk v = ((i : Int), secE (v.secs.take i) s)) := hide (by rw [HE.out, ← HG.out, HSP.out])
        clear he
        go_wp2_with fail
        refine bodyPost_ret (results_tmp2 rfl _ _ _) rfl ?_
        exact ⟨by rw [HE2.out]; rfl, K8.out.toExt⟩
    · obtain rfl : i = v.secs.length := by omega
      have hli : ¬ (v.secs.length : Int) < (v.secs.length : Int) := by omega
      have HG2 : Hid (secsGo [] v.secs = none) := hide (by rw [← HG.out, List.drop_of_length_le (Nat.le_refl _)]; rfl)
      have HT2 : Hid (t = sumS v.secs) := hide (by rw [HT.out, List.take_of_length_le (Nat.le_refl _)])
      by_cases h4 : 4096 < t
      · have e3 : (4096 : Int) < (t : Int) := by omega
        have HE2 : Hid (chk v = (-1, 3)) := hide (by rw [HE.out, HG2.out]; show (if 4096 < sumS v.secs then _ else _) = _; rw [← HT2.out, if_pos h4])
        clear h4
        go_wp2_with fail
        refine bodyPost_ret (results_tmp2 rfl _ _ _) rfl ?_
        exact ⟨by rw [HE2.out]; rfl, K1.out.toExt⟩
      · have e3 : ¬ (4096 : Int) < (t : Int) := by omega
        have HE2 : Hid (chk v = (0, 0)) := hide (by rw [HE.out, HG2.out]; show (if 4096 < sumS v.secs then _ else _) = _; rw [← HT2.out, if_neg h4])
        clear h4
        go_wp2_with fail
        refine bodyPost_ret (results_tmp2 rfl _ _ _) rfl ?_
        exact ⟨by rw [HE2.out]; rfl, K1.out.toExt⟩
end Go.Proofs.YtdmaephmkfmehaaGreatDoor
namespace Go.Proofs.YtdmaephmkfmehaaGreatDoor
open Go.RowKit Go.Gr Go.Ad
set_option linter.unusedVariables false
set_option linter.unusedSimpArgs false
attribute [local go_sem] Oper.semAt_some
/-- rows as they come: small numbers -/
structure RowB where
  r : RowI
  sec : r.sec ≤ 8
  row : r.row ≤ 16
  first : r.first ≤ 100000
  many : r.many ≤ 64
def encR (x : RowB) : Array Value := #[.agg #[.int .i64 x.r.sec, .int .i64 x.r.row, .int .i64 x.r.first, .int .i64 x.r.many]]
theorem rows_in (F : Fence) (n : Nat) (hf : F.fn 85) (hro : F.round = none) (a b c d : Value) (w : World) :
    CallsIn F n Tryz.prog 85 #[.agg #[a, b, c, d]] w fun e w' => e = .returned (.func (.func 113) #[] #[.pointer (some ⟨w.heap.size, 0, none⟩)]) ∧ w' = w.alloc (.cells #[a, b, c, d] 24) := by
  refine callsIn_of_wp Tryz.func85 rfl hf ?_ hro
  simp only [Tryz.ntmps85, List.size_toArray, List.length_cons, List.length_nil, Nat.reduceAdd, Nat.reduceSub, Array.replicate_succ, Array.replicate_zero, List.push_toArray, List.append_toArray, List.nil_append, List.cons_append]
  gi_wp2
  go_ret
  exact ⟨rfl, rfl⟩
theorem grown_of_ext {w w' : World} (h : Ext w w') : w.grownBy w' none := ⟨h.os, h.tape, h.output, h.size, fun k hk _ => h.block k hk⟩
theorem rl_app : ∀ (l1 l2 : List Sc) (i a : Nat), rl i a (l1 ++ l2) = rl i a l1 ++ rl (i + l1.length) (a + sumS l1) l2
  | [], l2, i, a => by simp [rl, sumS]
  | s :: l1, l2, i, a => by
    rw [List.cons_append, rl, rl, rl_app l1 l2 (i + 1) (a + s.sum), List.append_assoc, show i + 1 + l1.length = i + (s :: l1).length by simp; omega,
      show a + s.sum + sumS l1 = a + sumS (s :: l1) by simp [sumS]; omega]
theorem rl_take {l : List Sc} {i : Nat} {s : Sc} (h : l[i]? = some s) : rl 0 0 (l.take (i + 1)) = rl 0 0 (l.take i) ++ rlSec i 0 (fst0 l i) s.rowsN := by
  have hi : i < l.length := (List.getElem?_eq_some_iff.1 h).1
  rw [List.take_add_one, h, Option.toList_some, rl_app, rl, rl, List.append_nil, List.length_take, Nat.min_eq_left (by omega), Nat.zero_add, Nat.zero_add]; rfl
theorem rlSec_at {i : Nat} : ∀ (ns : List Nat) (k a q n : Nat), ns[q]? = some n → (rlSec i k a ns)[q]? = some ⟨i, k + q, a + (ns.take q).sum, n⟩
  | [], _, _, q, n, h => by simp at h
  | m :: ns, k, a, 0, n, h => by
    simp only [List.getElem?_cons_zero, Option.some.injEq] at h
    subst h; simp [rlSec]
  | m :: ns, k, a, q + 1, n, h => by
    rw [List.getElem?_cons_succ] at h
    rw [rlSec, List.getElem?_cons_succ, rlSec_at ns (k + 1) (a + m) q n h]
    simp; omega
theorem rlSec_len (i : Nat) : ∀ (ns : List Nat) (k a : Nat), (rlSec i k a ns).length = ns.length
  | [], _, _ => rfl
  | n :: ns, k, a => by rw [rlSec, List.length_cons, rlSec_len i ns, List.length_cons]
/-- which row comes next -/
theorem next_row {v : Vn} {xs : List RowB} (hx : xs.map RowB.r = rl 0 0 v.secs) {i k m n : Nat} {s : Sc} (hs : v.secs[i]? = some s) (hk : s.rowsN[k]? = some n) (hm : (xs.take m).map RowB.r = rl 0 0 (v.secs.take i)) (hml : m ≤ xs.length) :
    ∃ x, xs[m + k]? = some x ∧ x.r = ⟨i, k, fst0 v.secs i + (s.rowsN.take k).sum, n⟩ := by
  have hlm : (rl 0 0 (v.secs.take i)).length = m := by rw [← hm, List.length_map, List.length_take]; omega
  have hi : i < v.secs.length := (List.getElem?_eq_some_iff.1 hs).1
  have h1 : (rl 0 0 v.secs)[m + k]? = some ⟨i, k, fst0 v.secs i + (s.rowsN.take k).sum, n⟩ := by
    have e : v.secs = v.secs.take (i + 1) ++ v.secs.drop (i + 1) := (List.take_append_drop _ _).symm
    rw [e, rl_app, rl_take hs, List.append_assoc, List.getElem?_append_right (by rw [hlm]; omega), hlm, Nat.add_sub_cancel_left, List.getElem?_append_left, rlSec_at _ _ _ _ _ hk]
    · rw [← e]; simp
    · rw [rlSec_len]; exact (List.getElem?_eq_some_iff.1 hk).1
  rw [← hx, List.getElem?_map] at h1
  cases hxx : xs[m + k]? with
  | none => rw [hxx] at h1; cases h1
  | some x => rw [hxx] at h1; exact ⟨x, rfl, by simpa using h1⟩
theorem rows_done {v : Vn} {xs : List RowB} (hx : xs.map RowB.r = rl 0 0 v.secs) {i m : Nat} {s : Sc} (hs : v.secs[i]? = some s) (hm : (xs.take m).map RowB.r = rl 0 0 (v.secs.take i)) (hml : m ≤ xs.length) :
    (xs.take (m + s.rowsN.length)).map RowB.r = rl 0 0 (v.secs.take (i + 1)) ∧ m + s.rowsN.length ≤ xs.length := by
  have hlm : (rl 0 0 (v.secs.take i)).length = m := by rw [← hm, List.length_map, List.length_take]; omega
  have e : v.secs = v.secs.take (i + 1) ++ v.secs.drop (i + 1) := (List.take_append_drop _ _).symm
  have h1 : xs.map RowB.r = rl 0 0 (v.secs.take i) ++ (rlSec i 0 (fst0 v.secs i) s.rowsN ++ rl (0 + (v.secs.take (i + 1)).length) (0 + sumS (v.secs.take (i + 1))) (v.secs.drop (i + 1))) := by
    rw [hx, ← List.append_assoc, ← rl_take hs, ← rl_app, ← e]
  have hlen := congrArg List.length h1
  simp only [List.length_map, List.length_append, hlm, rlSec_len] at hlen
  refine ⟨?_, by omega⟩
  rw [List.map_take, h1, rl_take hs, ← List.append_assoc, List.take_append_of_le_length (by simp [hlm, rlSec_len]), List.take_of_length_le (by simp [hlm, rlSec_len])]
theorem take_next1 {α : Type} {l : List α} {i : Nat} {x : α} (h : l[i]? = some x) : l.take (i + 1) = l.take i ++ [x] := by rw [List.take_add_one, h]; rfl
/-- the rows of a venue, as they come -/
structure RowsOf (v : Vn) (xs : List RowB) : Prop where
  eq : xs.map RowB.r = rl 0 0 v.secs
set_option maxRecDepth 100000 in
set_option maxHeartbeats 4000000 in
theorem rows1_in (n : Nat) (hn : 1 ≤ n) (l Bn : Nat) (v : Vn) (A : Option Addr) (c : Nat) (w0 : World) (hS : Secs w0 A v.secs) (hc : v.secs.length ≤ c) (hok : VnOk v) (xs : List RowB) (hxs : RowsOf v xs) (J Jx : List RowB → World → Prop)
    (W : World) (hW : Below w0.heap.size w0 W) (hJ : AbidesFrom W.heap.size J)
    (hY : ∀ pre x W, J pre W → pre.length < xs.length → YieldAt Fence.wide (n - 1) Tryz.prog l (encR x) W fun e W' =>
      (e = .returned (.bool true) ∧ J (pre ++ [x]) W' ∧ Below w0.heap.size W W') ∨ (e = .returned (.bool false) ∧ Jx (pre ++ [x]) W'))
    (hB : W.cell? ⟨Bn, 3, none⟩ = some (.slice A v.secs.length c)) (h0 : J [] W) :
    CallsIn Fence.wide n Tryz.prog 113 #[.func (.yield l) #[] #[], .pointer (some ⟨Bn, 0, none⟩)] W fun e W' => (∃ v, e = .returned v) ∧
      (J xs W' ∨ (∃ pre, pre <+: xs ∧ Jx pre W')) := by
  have HS := hide (fun (y : World) (k : Ext w0 y) => hS.ext k)
  have HY := hide hY
  have HJ := hide hJ
  have HC := hide hc
  have H8 := hide hok.few
  have HOK := hide hok.sec
  have HXS := hide hxs.eq
  have HW := hide hW
  clear hS hY hJ hc hok hxs hW
  refine callsIn_of_wp Tryz.func113 rfl trivial ?_ rfl
  simp only [Tryz.ntmps113, List.size_toArray, List.length_cons, List.length_nil, Nat.reduceAdd, Nat.reduceSub, Array.replicate_succ, Array.replicate_zero, List.push_toArray, List.append_toArray, List.nil_append, List.cons_append]
  have HB := hide hB
  have H0 := hide h0
  clear h0
  gi_wp2
  clear hB
  gi_loopw [3, 11] (fun v3 v11 wr => ∃ (i a m : Nat), v11 = .int .i64 i ∧ v3 = .int .i64 a ∧ i ≤ v.secs.length ∧ Hid (a = fst0 v.secs i) ∧ Hid ((xs.take m).map RowB.r = rl 0 0 (v.secs.take i) ∧ m ≤ xs.length) ∧ Hid (J (xs.take m) wr) ∧ Hid (Below w0.heap.size w0 wr)) (fun _ v11 _ => v.secs.length - (intOf v11).toNat)
  case atStart => exact ⟨0, 0, 0, rfl, rfl, by omega, hide rfl, hide ⟨rfl, by omega⟩, H0, HW⟩
  case round =>
    obtain ⟨i, a, m, rfl, rfl, hi, HA, HM, HJ0, HB0⟩ := hrel
    have hi8 : i ≤ 8 := by have := H8.out; omega
    by_cases hlt : i < v.secs.length
    · have hli : (i : Int) < (v.secs.length : Int) := by omega
      obtain ⟨s, hs⟩ : ∃ s, v.secs[i]? = some s := ⟨_, List.getElem?_eq_getElem hlt⟩
      obtain ⟨b, off, R, d, hA, h5w, hRw, hd⟩ := HS.out _ (Ext.refl w0) i _ hs
      have h5 := h5w.ext HB0.out
      have HR := hide (fun (y : World) (k : Ext w0 y) => hRw.ext k)
      clear h5w hRw
      have HSO := hide (HOK.out s (List.mem_of_getElem? hs))
      have HSI := hide hs
      have HLT := hide hlt
      obtain ⟨d0, d1, d2⟩ := at5_3 h5
      have hic : (i : Int) < (c : Int) := by have := HC.out; omega
      subst hA
      clear h5
      gi_wp2
      have HJ1 := hide (HJ.out _ _ _ none HJ0.out (grown_of_ext ((Ext.refl wr).alloc (.cells #[.string s.name, .slice R s.rows.length d, .int .i64 s.queue] 100))) (fun r e => by cases e))
      have HB1 := hide (HB0.out.trans (((Ext.refl wr).alloc (.cells #[.string s.name, .slice R s.rows.length d, .int .i64 s.queue] 100)).mono HB0.out.size))
      generalize wr.heap.size = g2
      generalize wr.alloc _ = wb at *
      clear HJ0 HB0 d0 d1 d2
      gi_loopw [3, 19] (fun v3 v19 wy => ∃ (k u : Nat), v19 = .int .i64 k ∧ v3 = .int .i64 u ∧ k ≤ s.rows.length ∧ Hid (u = a + (s.rowsN.take k).sum) ∧ Hid (J (xs.take (m + k)) wy) ∧ Hid (Below w0.heap.size w0 wy)) (fun _ v19 _ => s.rows.length - (intOf v19).toNat)
      case atStart => exact ⟨0, a, rfl, rfl, by omega, hide (by simp), HJ1, HB1⟩
      case round =>
        obtain ⟨k, u, rfl, rfl, hk, HU, HJ2, HB2⟩ := hrel
        clear HJ1 HB1
        have hkb : k ≤ 16 := by have := HSO.out.few; omega
        by_cases hkl : k < s.rows.length
        · have hkli : (k : Int) < (s.rows.length : Int) := by omega
          obtain ⟨ad, hA2, cl⟩ := i64s_at (HR.out _ HB2.out) hkl
          obtain ⟨z, hz⟩ : ∃ z, s.rows[k]? = some z := ⟨_, List.getElem?_eq_getElem hkl⟩
          have hz' : s.rows[k] = z := by rw [List.getElem?_eq_getElem hkl] at hz; exact Option.some.inj hz
          rw [hz'] at cl
          have hzr := HSO.out.row z (List.mem_of_getElem? hz)
          obtain ⟨n', rfl⟩ : ∃ n : Nat, z = n := ⟨z.toNat, by omega⟩
          have HRN := hide (rowsN_get hz)
          obtain ⟨x, hx, hxr⟩ := next_row HXS.out HSI.out HRN.out HM.out.1 HM.out.2
          rw [← HA.out, ← HU.out, Int.toNat_natCast] at hxr
          have HTN := hide (take_next1 hx)
          have hlx : (xs.take (m + k)).length < xs.length := by
            have := (List.getElem?_eq_some_iff.1 hx).1
            rw [List.length_take]; omega
          have hu := x.first
          rw [hxr] at hu
          obtain ⟨fn, tmps, assign, body, hy, hR⟩ := HY.out (xs.take (m + k)) x wr HJ2.out hlx
          have hR' := hide hR
          simp only [encR, hxr] at hy
          subst hA2
          have hdc : (k : Int) < (d : Int) := by omega
          have hn64 : n' ≤ 64 := by omega
          have HKL := hide hkl
          clear hx hxr hz hz' hzr hlx hkl hR
          gi_wp2
          refine hR'.out.mono ?_
          rintro e W3 (⟨rfl, hJ3, hk3⟩ | ⟨rfl, hJx3⟩)
          · rw [← HTN.out] at hJ3
            have HJ3 := hide hJ3
            have HB3 := hide (HB2.out.trans hk3)
            have HUN := hide (sum_step HRN.out)
            clear hJ3 hk3 cl hy hR' HJ2 HB2
            gi_wp2
            go_roundw
            case rel => exact ⟨k + 1, u + n', by go_num, by go_num, HKL.out, hide (by rw [HUN.out, HU.out]; omega), HJ3, HB3⟩
            case measure => have := HKL.out; simp [intOf]; omega
          · have hJx4 := hide hJx3
            clear hJx3 cl hy hR'
            gi_wp2
            refine bodyPost_ret (results_none rfl _ _ _) rfl ?_
            refine ⟨⟨_, rfl⟩, .inr ⟨xs.take (m + k) ++ [x], ?_, hJx4.out⟩⟩
            rw [← HTN.out]
            exact List.take_prefix _ _
        · obtain rfl : k = s.rows.length := by omega
          have hkli : ¬ (s.rows.length : Int) < (s.rows.length : Int) := by omega
          have hrl : s.rowsN.length = s.rows.length := by unfold Sc.rowsN; rw [List.length_map]
          have hrd := rows_done HXS.out HSI.out HM.out.1 HM.out.2
          rw [hrl] at hrd
          have HRD := hide hrd
          have HA2 := hide (show u = fst0 v.secs (i + 1) by
            unfold fst0
            rw [sumS_step HSI.out, HU.out, List.take_of_length_le (by rw [hrl]; exact Nat.le_refl _), HA.out]; rfl)
          clear hrd hrl
          gi_wp2
          go_roundw
          case rel => exact ⟨i + 1, u, m + s.rows.length, by go_num, rfl, HLT.out, HA2, HRD, HJ2, HB2⟩
          case measure => have := HLT.out; simp [intOf]; omega
    · obtain rfl : i = v.secs.length := by omega
      have hli : ¬ (v.secs.length : Int) < (v.secs.length : Int) := by omega
      have hall : xs.take m = xs := by
        have h1 := HM.out.1
        rw [List.take_of_length_le (Nat.le_refl _), ← HXS.out] at h1
        have h2 := congrArg List.length h1
        simp only [List.length_map, List.length_take] at h2
        exact List.take_of_length_le (by omega)
      have HJ1 := HJ0.out
      rw [hall] at HJ1
      have HJ2 := hide HJ1
      clear HJ1 hall
      gi_wp2
      go_end0
      exact ⟨⟨_, rfl⟩, .inl HJ2.out⟩
end Go.Proofs.YtdmaephmkfmehaaGreatDoor
namespace Go.Proofs.YtdmaephmkfmehaaGreatDoor
open Go.RowKit Go.Gr Go.Ad
set_option linter.unusedVariables false
set_option linter.unusedSimpArgs false
attribute [local go_sem] Oper.semAt_some
/-- what it owns is cells -/
def Cel (A : As) : Prop := ∀ (W : World) (k : Nat), A.p W → A.fp k → ∃ o : Obj, W.heap[k]? = some o ∧ o.isCells = true
theorem celB (g : Nat) (e : TypeId) (cs : List Value) : Cel (As.blk g e cs) := fun W k h hk => by cases hk; exact ⟨_, h, rfl⟩
theorem celM (e : TypeId) (k : Nat) (v : Value) (rows : List (List Value)) : Cel (As.ownM e k v rows) := fun W i h hi => by
  rcases h.row.2 with ⟨rfl, _⟩ | ⟨g, cap, cur, rfl, _, hh, _⟩
  · cases hi
  · cases hi; exact ⟨_, hh, rfl⟩
theorem celO (e : TypeId) (v : Value) (xs : List Value) : Cel (As.own e v xs) := fun W i h hi => by
  rcases h.2 with ⟨rfl, _⟩ | ⟨g, cap, cur, rfl, _, hh, _⟩
  · cases hi
  · cases hi; exact ⟨_, hh, rfl⟩
theorem sep_turn {w W W' : World} {L : List As} {row : Option Nat} (h : Sep No w W L) (hc : ∀ A ∈ L, Cel A) (hg : W.grownBy W' row) (hr : ∀ r, row = some r → w.heap.size ≤ r ∧ ∃ o : Obj, W.heap[r]? = some o ∧ o.isCells = false) : Sep No w W' L := by
  have hs : ∀ k, (∀ r, row = some r → k ≠ r) → some k ≠ row := fun k h e => h k e.symm rfl
  refine ⟨⟨hg.os.trans h.fr.os, hg.tape.trans h.fr.tape, hg.output.trans h.fr.output, Nat.le_trans h.fr.size hg.size, fun k hk hn => ?_⟩, fun A hA => ?_, h.own, h.dis⟩
  · refine (hg.block k (Nat.lt_of_lt_of_le hk h.fr.size) (hs k fun r e => ?_)).trans (h.fr.block k hk hn)
    have := (hr r e).1; omega
  · have hp := h.all A hA
    refine A.loc hp fun k hk => hg.block k (A.lt hp k hk) (hs k fun r e e2 => ?_)
    subst e2
    obtain ⟨o, ho, ho2⟩ := (hr k e).2
    obtain ⟨o', ho', ho2'⟩ := hc A hA W k hp hk
    rw [ho] at ho'; cases ho'; rw [ho2] at ho2'; cases ho2'
theorem blk_turn {W W' : World} {g : Nat} {e : TypeId} {cs : List Value} {row : Option Nat} (h : Blk W g e cs) (hg : W.grownBy W' row) (hr : ∀ r, row = some r → ∃ o : Obj, W.heap[r]? = some o ∧ o.isCells = false) : Blk W' g e cs :=
  (hg.block g h.lt fun e' => by
    obtain ⟨o, ho, hc⟩ := hr g e'.symm
    rw [show W.heap[g]? = _ from h] at ho; cases ho; cases hc).trans h
theorem rows_stops (v : Vn) (A : Option Addr) (c Bn : Nat) (w0 w1 : World) (hS : Secs w0 A v.secs) (hc : v.secs.length ≤ c) (hok : VnOk v) (xs : List RowB) (hxs : RowsOf v xs) (n : Nat) (hn : 1 ≤ n) (h01 : Ext w0 w1)
    (hB : w1.cell? ⟨Bn, 3, none⟩ = some (.slice A v.secs.length c)) :
    SeqStopsK Fence.wide n Tryz.prog 113 #[.pointer (some ⟨Bn, 0, none⟩)] encR (Below w0.heap.size) (fun ys => ys = xs) (fun pre => pre <+: xs) xs.length w1 := fun l J Jx W hW hJ _ hY h0 => by
  refine (rows1_in n hn l Bn v A c w0 hS hc hok xs hxs J Jx W (Below.trans h01 (hW.mono h01.size)) hJ hY ((hW.cell (p := ⟨Bn, 3, none⟩) (cell_lt hB)).trans hB) h0).mono ?_
  rintro e W' ⟨hv, h | h⟩
  · exact ⟨hv, .inl ⟨xs, rfl, h⟩⟩
  · exact ⟨hv, .inr h⟩
/-- the rows of a venue without errors are small -/
theorem fst0_le {v : Vn} (h : VnOk v) {j : Nat} : fst0 v.secs j ≤ 8192 := by
  have h1 := sumS_le (l := v.secs.take j) fun s hs => h.sec s (List.mem_of_mem_take hs)
  have h2 : (v.secs.take j).length ≤ 8 := by rw [List.length_take]; have := h.few; omega
  have := Nat.mul_le_mul_right 1024 h2
  unfold fst0; omega
theorem row_small {v : Vn} (h : VnOk v) : ∀ R ∈ rl 0 0 v.secs, R.sec ≤ 8 ∧ R.row ≤ 16 ∧ R.first ≤ 100000 ∧ R.many ≤ 64 := by
  intro R hR
  obtain ⟨j, s, h1, h2⟩ := rl_inv hR
  have hj : j < v.secs.length := (List.getElem?_eq_some_iff.1 h1).1
  have hs := h.sec s (List.mem_of_getElem? h1)
  obtain ⟨q, n, h3, rfl⟩ := rlSec_inv h2
  have hq : q < s.rowsN.length := (List.getElem?_eq_some_iff.1 h3).1
  have hl : s.rowsN.length = s.rows.length := by unfold Sc.rowsN; rw [List.length_map]
  have hn : n ≤ 64 := by
    obtain ⟨x, hx, rfl⟩ := List.mem_map.1 (List.mem_of_getElem? h3)
    have := hs.row x hx; omega
  have h4 := fst0_le h (j := j)
  have h5 := sum_take_le s.rowsN q
  have h6 := sc_sum hs
  have := h.few
  have := hs.few
  unfold Sc.sum at h6
  exact ⟨by show 0 + j ≤ 8; omega, by show 0 + q ≤ 16; omega, by show 0 + fst0 v.secs j + _ ≤ 100000; omega, hn⟩
theorem rowsOf_ex {v : Vn} (h : VnOk v) : ∃ xs, RowsOf v xs := by
  have key : ∀ l : List RowI, (∀ R ∈ l, R.sec ≤ 8 ∧ R.row ≤ 16 ∧ R.first ≤ 100000 ∧ R.many ≤ 64) → ∃ xs : List RowB, xs.map RowB.r = l := by
    intro l
    induction l with
    | nil => exact fun _ => ⟨[], rfl⟩
    | cons R l ih =>
      intro hl
      obtain ⟨xs, hx⟩ := ih fun x hx => hl x (by simp [hx])
      obtain ⟨h1, h2, h3, h4⟩ := hl R (by simp)
      exact ⟨⟨R, h1, h2, h3, h4⟩ :: xs, by simp [hx]⟩
  obtain ⟨xs, hx⟩ := key _ (row_small h)
  exact ⟨xs, ⟨hx⟩⟩
theorem rl_few {v : Vn} (h : VnOk v) : (rl 0 0 v.secs).length ≤ 128 := by
  have key : ∀ (l : List Sc) (i a : Nat), (∀ s ∈ l, ScOk s) → (rl i a l).length ≤ l.length * 16 := by
    intro l
    induction l with
    | nil => intro i a _; simp [rl]
    | cons s l ih =>
      intro i a hl
      have h1 := ih (i + 1) (a + s.sum) fun x hx => hl x (by simp [hx])
      have h2 := (hl s (by simp)).few
      rw [rl, List.length_append, rlSec_len, List.length_cons]
      have : s.rowsN.length = s.rows.length := by unfold Sc.rowsN; rw [List.length_map]
      omega
  have := key v.secs 0 0 h.sec
  have := h.few
  omega
def sumB (l : List RowB) : Nat := (l.map fun x => x.r.many).sum
theorem sumB_le (l : List RowB) : sumB l ≤ l.length * 64 := by
  have := sum_le (l := l.map fun x => x.r.many) (b := 64) (by
    intro n hn
    obtain ⟨x, _, rfl⟩ := List.mem_map.1 hn
    exact x.many)
  rwa [List.length_map] at this
theorem sumB_snoc (l : List RowB) (x : RowB) : sumB (l ++ [x]) = sumB l + x.r.many := by simp [sumB]
theorem sumB_rows {v : Vn} {xs : List RowB} (h : RowsOf v xs) : sumB xs = sumS v.secs := by
  have : sumB xs = sumR (xs.map RowB.r) := by simp [sumB, sumR, Function.comp_def]
  rw [this, h.eq, sumR_rl]
/-- how many seats there are -/
def seatsE (v : Vn) : Int × Int := if (chk v).2 = 0 then ((sumS v.secs : Nat), 0) else (0, (chk v).2)
end Go.Proofs.YtdmaephmkfmehaaGreatDoor
namespace Go.Proofs.YtdmaephmkfmehaaGreatDoor
open Go.RowKit Go.Gr Go.Ad
set_option linter.unusedVariables false
set_option linter.unusedSimpArgs false
attribute [local go_sem] Oper.semAt_some rdOp rdAt rdUpon Cls forall_fr
def foldB (s : Int) (l : List RowB) : Nat × Nat := l.foldl (fun st x => gOf (fun i _ => decide ((i : Int) = s)) st x.r) (0, 0)
theorem foldB_snoc (s : Int) (l : List RowB) (x : RowB) : foldB s (l ++ [x]) = gOf (fun i _ => decide ((i : Int) = s)) (foldB s l) x.r := by simp [foldB, List.foldl_append]
theorem foldB_le (s : Int) (l : List RowB) : (foldB s l).1 ≤ 100000 ∧ (foldB s l).2 ≤ l.length * 64 := by
  have key : ∀ (l : List RowB) (st : Nat × Nat) (b : Nat), st.1 ≤ 100000 → st.2 ≤ b → (l.foldl (fun st x => gOf (fun i _ => decide ((i : Int) = s)) st x.r) st).1 ≤ 100000 ∧ (l.foldl (fun st x => gOf (fun i _ => decide ((i : Int) = s)) st x.r) st).2 ≤ b + l.length * 64 := by
    intro l
    induction l with
    | nil => intro st b h1 h2; exact ⟨h1, by simpa using h2⟩
    | cons x l ih =>
      intro st b h1 h2
      rw [List.foldl_cons]
      have := ih (gOf (fun i _ => decide ((i : Int) = s)) st x.r) (b + 64) (by
        unfold gOf; split
        · split
          · exact x.first
          · exact h1
        · exact h1) (by
        have := x.many
        unfold gOf; split
        · show st.2 + x.r.many ≤ _; omega
        · omega)
      refine ⟨this.1, ?_⟩
      have := this.2
      rw [List.length_cons]; omega
  have := key l (0, 0) 0 (by decide) (Nat.le_refl _)
  simpa [foldB] using this
theorem foldB_rows {v : Vn} {xs : List RowB} (h : RowsOf v xs) (s : Int) : foldB s xs = (rl 0 0 v.secs).foldl (gOf fun i _ => decide ((i : Int) = s)) (0, 0) := by
  rw [← h.eq, List.foldl_map]; rfl
/-- the seats of a section: the first one, how many, and what is wrong -/
def ofE (v : Vn) (s : Int) : Int × Int × Int :=
  if (chk v).2 = 0 then
    (if 0 ≤ s then (match v.secs[s.toNat]? with | some x => ((fst0 v.secs s.toNat : Nat), (x.sum : Nat), 0) | none => (0, 0, 4)) else (0, 0, 4))
  else (0, 0, (chk v).2)
theorem sum_pos {s : Sc} (h : ScOk s) : 0 < s.sum := by
  obtain ⟨n, ns, hr⟩ : ∃ n ns, s.rows = n :: ns := by
    cases hr : s.rows with
    | nil => have := h.pos; rw [hr] at this; simp at this
    | cons n ns => exact ⟨n, ns, rfl⟩
  have := h.row n (by rw [hr]; simp)
  unfold Sc.sum Sc.rowsN
  rw [hr, List.map_cons, List.sum_cons]; omega
theorem of_ok {v : Vn} (h : VnOk v) (hz : (chk v).2 = 0) (s : Int) : ((rl 0 0 v.secs).foldl (gOf fun i _ => decide ((i : Int) = s)) (0, 0)).2 ≠ 0 →
    ofE v s = (((((rl 0 0 v.secs).foldl (gOf fun i _ => decide ((i : Int) = s)) (0, 0)).1 : Nat) : Int), ((((rl 0 0 v.secs).foldl (gOf fun i _ => decide ((i : Int) = s)) (0, 0)).2 : Nat) : Int), 0) := by
  intro hne
  unfold ofE
  rw [if_pos hz]
  by_cases h0 : 0 ≤ s
  · rw [if_pos h0]
    obtain ⟨j, rfl⟩ : ∃ j : Nat, s = j := ⟨s.toNat, by omega⟩
    have hp : (fun (i _ : Nat) => decide ((i : Int) = (j : Int))) = (fun i _ => decide (i = j)) := by
      funext i k; by_cases e : i = j
      · simp [e]
      · rw [decide_eq_false e, decide_eq_false (by omega)]
    rw [hp] at hne ⊢
    simp only [Int.toNat_natCast]
    cases hs : v.secs[j]? with
    | some x => rw [of_sec hs (h.sec x (List.mem_of_getElem? hs))]
    | none =>
      exfalso; apply hne
      rw [of_none]
      intro R hR
      have h1 := rl_mem hR
      have h2 := List.getElem?_eq_none_iff.1 hs
      rw [decide_eq_false_iff_not]; omega
  · exfalso; apply hne
    rw [of_none]
    intro R hR
    rw [decide_eq_false_iff_not]; omega
theorem of_bad {v : Vn} (h : VnOk v) (hz : (chk v).2 = 0) (s : Int) : ((rl 0 0 v.secs).foldl (gOf fun i _ => decide ((i : Int) = s)) (0, 0)).2 = 0 → ofE v s = (0, 0, 4) := by
  intro he
  unfold ofE
  rw [if_pos hz]
  by_cases h0 : 0 ≤ s
  · rw [if_pos h0]
    obtain ⟨j, rfl⟩ : ∃ j : Nat, s = j := ⟨s.toNat, by omega⟩
    have hp : (fun (i _ : Nat) => decide ((i : Int) = (j : Int))) = (fun i _ => decide (i = j)) := by
      funext i k; by_cases e : i = j
      · simp [e]
      · rw [decide_eq_false e, decide_eq_false (by omega)]
    rw [hp] at he
    simp only [Int.toNat_natCast]
    cases hs : v.secs[j]? with
    | some x =>
      rw [of_sec hs (h.sec x (List.mem_of_getElem? hs))] at he
      have := sum_pos (h.sec x (List.mem_of_getElem? hs))
      simp at he; omega
    | none => rfl
  · rw [if_neg h0]
theorem set_same {w : World} {g i : Nat} {e : TypeId} {cs : List Value} {v : Value} (h : Blk w g e cs) (hv : cs[i]? = some v) : w.setCell ⟨g, i, none⟩ v = w := by
  have h1 := h.set i v
  have hl : cs.set i v = cs := by
    apply List.ext_getElem?
    intro j
    rw [List.getElem?_set]
    split
    · rename_i e; subst e; split
      · exact hv.symm
      · rename_i hh; rw [List.getElem?_eq_none (by omega)] at hv; cases hv
    · rfl
  rw [hl] at h1
  show { w with heap := _ } = w
  have : (w.setCell ⟨g, i, none⟩ v).heap = w.heap := by
    apply Array.ext_getElem?
    intro k
    by_cases hk : k = g
    · subst hk; rw [show (w.setCell ⟨k, i, none⟩ v).heap[k]? = _ from h1, show w.heap[k]? = _ from h]
    · exact Below.heap_setCell w ⟨g, i, none⟩ v k hk
  exact congrArg (fun h => ({ w with heap := h } : World)) this
theorem wp_st1Same {P : Program} {w : World} {o : Oper} {a : Act} {Q : Exit → Act → World → Prop} {K : Act → World → Prop} {g i : Nat} {t : TypeId} {cs : List Value} {v : Value} (hB : Blk w g t cs) (ty : TypeId) (x y : Operand) (ho : o.op = .store ty x y)
    (hx : a.eval x = .pointer (some ⟨g, i, none⟩)) (hy : a.eval y = v) (hi : (P.info? ty).map (·.size) = some 1) (hv : cs[i]? = some v) (h1 : v.oneCell' = true)
    (h : K (a.put o.dst undef) w) : o.wp P a w K Q := by
  have hr := run_storeVar_cell (P := P) (w := w) g i ty v (by rw [hB.cell i, hv]; rfl) (hB.free i) hi h1
  unfold Oper.wp execOp
  simp only [ho, hx, hy, Instr.storeAt, Instr.sureAddr, Sem.run_bind, Sem.run_pure, Result.andThen_ok, hr]
  rw [set_same hB hv]
  exact h
set_option maxRecDepth 100000 in
set_option maxHeartbeats 8000000 in
theorem venue_of (v : Vn) (A : Option Addr) (c : Nat) (s : Int) (w : World) (h : Secs w A v.secs) (hc : v.secs.length ≤ c) (hw : VnW v) :
    Calls Tryz.prog 48 #[.agg #[.int .i64 v.sh, .int .i64 v.ttl, .int .i64 v.ses, .slice A v.secs.length c], .int .i64 s] w fun e w' => e = .returned (.tuple #[.int .i64 (ofE v s).1, .int .i64 (ofE v s).2.1, .int .i64 (ofE v s).2.2]) ∧ Ext w w' := by
  have HS := hide (fun (y : World) (k : Ext w y) => h.ext k)
  have HC := hide hc
  have HW := hide hw
  clear h hc hw
  have K0 := ((((Sep.refl No w).add2 24 3 [.int .i64 v.sh, .int .i64 v.ttl, .int .i64 v.ses, .slice A v.secs.length c] [.int .i64 s]).add 3 [.int .i64 0]).add 3 [.int .i64 0])
  simp only [World.size_alloc] at K0
  have hck := hide (fun y (k : Ext w y) => venue_check v A c y (HS.out y k) HC.out HW.out)
  refine (callsIn_wide (n := 6)).1 ?_
  refine callsIn_of_wp_marks Tryz.func48 rfl trivial ?_ rfl
  simp only [Tryz.ntmps48, List.size_toArray, List.length_cons, List.length_nil, Nat.reduceAdd, Nat.reduceSub, Array.replicate_succ, Array.replicate_zero, List.push_toArray, List.append_toArray, List.nil_append, List.cons_append]
  have hf53 : Fence.wide.fn 29 := trivial
  have hf54 : Fence.wide.fn 85 := trivial
  gi_wp2_with fail
  refine (callsIn_wide.2 (hck.out _ K0.toExt)).mono ?_
  rintro e w1 ⟨rfl, hx⟩
  have K1 := hide (K0.ext hx)
  clear K0 hx hck
  simp only [Nat.add_assoc, Nat.reduceAdd] at K1
  obtain ⟨c0, c1, c2, c3, cz⟩ := blk4 (K1.out.blk (g := w.heap.size) (e := 24) (List.Mem.tail _ (List.Mem.tail _ (List.Mem.tail _ (List.Mem.head _)))))
  have p2 := (K1.out.blk (g := w.heap.size + 2) (e := 3) (List.Mem.tail _ (List.Mem.head _))).cell 0
  have f2 := (K1.out.blk (g := w.heap.size + 2) (e := 3) (List.Mem.tail _ (List.Mem.head _))).free 0
  have p3 := (K1.out.blk (g := w.heap.size + 3) (e := 3) (List.Mem.head _)).cell 0
  have f3 := (K1.out.blk (g := w.heap.size + 3) (e := 3) (List.Mem.head _)).free 0
  simp only [List.getElem?_cons_zero] at p2 p3
  by_cases hz : (chk v).2 = 0
  · obtain ⟨hok, hch⟩ := chk_zero hz
    have HOK := hide hok
    have HOF := hide (of_ok hok hz s)
    have HOB := hide (of_bad hok hz s)
    rw [hch]
    clear hok hch hz
    gi_wp2_with fail
    refine (rows_in Fence.wide _ trivial rfl _ _ _ _ _).mono ?_
    rintro e w2 ⟨rfl, rfl⟩
    clear c0 c1 c2 c3 cz p2 f2 p3 f3
    have K2 := K1.out.add 24 [.int .i64 v.sh, .int .i64 v.ttl, .int .i64 v.ses, .slice A v.secs.length c]
    clear K1
    generalize w1.alloc _ = w2 at K2 ⊢
    generalize w1.heap.size = g3 at K2 ⊢
    have KK := hide K2
    clear K2
    gi_wp2_with fail
    obtain ⟨xs, hxs⟩ := rowsOf_ex HOK.out
    have HXS := hide hxs
    have hxl : xs.length ≤ 128 := by
      have h1 := rl_few HOK.out
      rw [← hxs.eq, List.length_map] at h1; exact h1
    have HXL := hide hxl
    clear hxs hxl
    refine wpIn_rangeFunc_ownH rfl (by decide) (gf := 113) (lb := #[.pointer (some ⟨g3, 0, none⟩)]) rfl trivial (enters_of Tryz.func113 (by kernel_rfl) rfl)
      (rows_stops v A c g3 w w2 (HS.out _ (Ext.refl w)) HC.out HOK.out xs HXS.out 5 (by decide) KK.out.toExt ((KK.out.blk (List.Mem.head _)).cell 3)) belowK_t (belowK_b KK.out.le) (Below.refl _ _) (fun _ => rfl)
      (fun pre W => Sep No w W [As.blk (w.heap.size + 3) 3 [.int .i64 ((foldB s pre).2 : Nat)], As.blk (w.heap.size + 2) 3 [.int .i64 ((foldB s pre).1 : Nat)], As.blk (w.heap.size + 1) 3 [.int .i64 s]])
      (fun _ _ _ => False)
      (fun s X Y row hs hg hr => sep_turn hs (by intro A hA; simp only [List.mem_cons, List.not_mem_nil, or_false] at hA; rcases hA with rfl | rfl | rfl <;> exact celB _ _ _) hg (fun r e => ⟨Nat.le_trans KK.out.le (hr r e).1, (hr r e).2⟩))
      (fun _ _ _ _ _ hs _ _ => hs)
      (KK.out.tail.sub (List.Sublist.cons_cons _ (List.Sublist.cons_cons _ (List.Sublist.cons_cons _ (List.nil_sublist _)))))
      (fun x a' W => ∃ Bx, Blk W Bx 160 [.int .i64 x.r.sec, .int .i64 x.r.row, .int .i64 x.r.first, .int .i64 x.r.many] ∧ a' = { tmps := #[.agg #[.int .i64 v.sh, .int .i64 v.ttl, .int .i64 v.ses, .slice A v.secs.length c], .int .i64 s, .pointer (some ⟨w.heap.size, 0, none⟩), .pointer (some ⟨w.heap.size + 1, 0, none⟩), .pointer (some ⟨w.heap.size + 2, 0, none⟩), .pointer (some ⟨w.heap.size + 3, 0, none⟩), .int .i64 0, .int .i64 0, .int .i64 0, .pointer (some ⟨Bx, 0, none⟩), .tuple #[.int .i64 0, .int .i64 0], .agg #[.int .i64 v.sh, .int .i64 v.ttl, .int .i64 v.ses, .slice A v.secs.length c], .tuple #[.int .i64 0, .int .i64 0], .int .i64 0, .int .i64 0, .int .i64 0, .bool false, undef, .agg #[.int .i64 v.sh, .int .i64 v.ttl, .int .i64 v.ses, .slice A v.secs.length c], .func (.func 113) #[] #[.pointer (some ⟨g3, 0, none⟩)], .agg #[.int .i64 x.r.sec, .int .i64 x.r.row, .int .i64 x.r.first, .int .i64 x.r.many], undef, undef, undef, undef, undef, undef, undef, undef, undef, undef, undef, undef, undef, undef, undef, undef], defers := [] })
      (fun x a' _ X Y row hs hg hr => by obtain ⟨Bx, h1, h2⟩ := hs; exact ⟨Bx, blk_turn h1 hg (fun r e => (hr r e).2), h2⟩)
      ?assign ?body ?done ?stop
    case assign =>
      rintro l pre x W K hI hK
      simp only [encR]
      gi_wp2
      exact hK _ _ ((KeepsOthers.alloc _ _).from _) ((Below.refl _ W).alloc hI.le _) (hI.ext ((Ext.refl W).alloc _)) ⟨W.heap.size, Blk.new W _ _, rfl⟩
    case body =>
      rintro l pre x a' W hl _ hI ⟨Bx, hB, rfl⟩ hlt
      obtain ⟨r0, r1, r2, r3, rz⟩ := blk4 hB
      have h128 : pre.length ≤ 128 := by have := HXL.out; omega
      have hsb := foldB_le s pre
      have hmb := x.many
      have HSN := hide (foldB_snoc s pre x)
      have HI := hide hI
      have HSM : (foldB s pre).2 ≤ 8192 := by omega
      obtain ⟨t1, ht1⟩ : ∃ t, (foldB s pre).1 = t := ⟨_, rfl⟩
      obtain ⟨t2, ht2⟩ : ∃ t, (foldB s pre).2 = t := ⟨_, rfl⟩
      have hfd : foldB s pre = (t1, t2) := by rw [← ht1, ← ht2]
      rw [hfd] at HSN HI
      rw [ht2] at HSM
      have p1 := (HI.out.blk (g := w.heap.size + 1) (e := 3) (List.Mem.tail _ (List.Mem.tail _ (List.Mem.head _)))).cell 0
      have p2 := (HI.out.blk (g := w.heap.size + 2) (e := 3) (List.Mem.tail _ (List.Mem.head _))).cell 0
      have f2 := (HI.out.blk (g := w.heap.size + 2) (e := 3) (List.Mem.tail _ (List.Mem.head _))).free 0
      have p3 := (HI.out.blk (g := w.heap.size + 3) (e := 3) (List.Mem.head _)).cell 0
      have f3 := (HI.out.blk (g := w.heap.size + 3) (e := 3) (List.Mem.head _)).free 0
      simp only [List.getElem?_cons_zero] at p1 p2 p3
      clear hI hsb ht1 ht2 hfd
      have low2 : w.heap.size ≤ (⟨w.heap.size + 2, 0, none⟩ : Addr).block := by show w.heap.size ≤ w.heap.size + 2; omega
      have low3 : w.heap.size ≤ (⟨w.heap.size + 3, 0, none⟩ : Addr).block := by show w.heap.size ≤ w.heap.size + 3; omega
      have L2 := hide low2
      have L3 := hide low3
      clear low2 low3
      by_cases hse : (x.r.sec : Int) = s
      · have e1 : ((x.r.sec : Int) != s) = false := by rw [hse]; exact bne_self_eq_false _
        by_cases ht0 : t2 = 0
        · have e2 : ((t2 : Int) == 0) = true := by rw [ht0]; rfl
          have HG : Hid (gOf (fun i _ => decide ((i : Int) = s)) (t1, t2) x.r = (x.r.first, t2 + x.r.many)) := hide (by
            unfold gOf; rw [if_pos (decide_eq_true hse), if_pos ht0])
          clear hse ht0
          gi_wp2
          refine ⟨((KeepsOthers.setCell _ _ _).trans (KeepsOthers.setCell _ _ _)).from _, ((Below.refl _ W).setCell L2.out _).setCell L3.out _, ?_⟩
          show Sep No w _ [As.blk (w.heap.size + 3) 3 [.int .i64 ((foldB s (pre ++ [x])).2 : Nat)], As.blk (w.heap.size + 2) 3 [.int .i64 ((foldB s (pre ++ [x])).1 : Nat)], As.blk (w.heap.size + 1) 3 [.int .i64 s]]
          rw [HSN.out, HG.out, Int.natCast_add]
          exact (HI.out.cell (L1 := [_]) 0 _).cell (L1 := []) 0 _
        · have e2 : ((t2 : Int) == 0) = false := beq_eq_false_iff_ne.2 (by omega)
          have HG : Hid (gOf (fun i _ => decide ((i : Int) = s)) (t1, t2) x.r = (t1, t2 + x.r.many)) := hide (by
            unfold gOf; rw [if_pos (decide_eq_true hse), if_neg ht0])
          clear hse ht0
          gi_wp2
          refine ⟨(KeepsOthers.setCell _ _ _).from _, (Below.refl _ W).setCell L3.out _, ?_⟩
          show Sep No w _ [As.blk (w.heap.size + 3) 3 [.int .i64 ((foldB s (pre ++ [x])).2 : Nat)], As.blk (w.heap.size + 2) 3 [.int .i64 ((foldB s (pre ++ [x])).1 : Nat)], As.blk (w.heap.size + 1) 3 [.int .i64 s]]
          rw [HSN.out, HG.out, Int.natCast_add]
          exact HI.out.cell (L1 := []) 0 _
      · have e1 : ((x.r.sec : Int) != s) = true := bne_iff_ne.2 hse
        have HG : Hid (gOf (fun i _ => decide ((i : Int) = s)) (t1, t2) x.r = (t1, t2)) := hide (by
          unfold gOf; rw [if_neg (by show ¬ decide ((x.r.sec : Int) = s) = true; rw [decide_eq_false hse]; exact Bool.false_ne_true)])
        clear hse
        gi_wp2
        refine ⟨KeepsFrom.refl _ _, Below.refl _ _, ?_⟩
        show Sep No w _ [As.blk (w.heap.size + 3) 3 [.int .i64 ((foldB s (pre ++ [x])).2 : Nat)], As.blk (w.heap.size + 2) 3 [.int .i64 ((foldB s (pre ++ [x])).1 : Nat)], As.blk (w.heap.size + 1) 3 [.int .i64 s]]
        rw [HSN.out, HG.out]
        exact HI.out
    case done =>
      rintro D ys W hD rfl hI hK
      rw [← foldB_rows HXS.out] at HOF HOB
      obtain ⟨t1, ht1⟩ : ∃ t, (foldB s ys).1 = t := ⟨_, rfl⟩
      obtain ⟨t2, ht2⟩ : ∃ t, (foldB s ys).2 = t := ⟨_, rfl⟩
      have hfd : foldB s ys = (t1, t2) := by rw [← ht1, ← ht2]
      have HI := hide hI
      rw [hfd] at HOF HOB HI
      clear hI ht1 ht2 hfd
      have HK := hide hK
      clear hK
      have p2 := (HI.out.blk (g := w.heap.size + 2) (e := 3) (List.Mem.tail _ (List.Mem.head _))).cell 0
      have f2 := (HI.out.blk (g := w.heap.size + 2) (e := 3) (List.Mem.tail _ (List.Mem.head _))).free 0
      have p3 := (HI.out.blk (g := w.heap.size + 3) (e := 3) (List.Mem.head _)).cell 0
      have f3 := (HI.out.blk (g := w.heap.size + 3) (e := 3) (List.Mem.head _)).free 0
      simp only [List.getElem?_cons_zero] at p2 p3
      by_cases ht0 : t2 = 0
      · have e2 : ((t2 : Int) == 0) = true := by rw [ht0]; rfl
        have HE := hide (HOB.out ht0)
        clear ht0
        gi_wp2
        have K5 : Sep No w _ [As.blk (w.heap.size + 3) 3 [.int .i64 0], As.blk (w.heap.size + 2) 3 [.int .i64 0], As.blk (w.heap.size + 1) 3 [.int .i64 s]] := (HI.out.cell (L1 := [_]) 0 (.int .i64 0)).cell (L1 := []) 0 (.int .i64 0)
        have hK2 := ((KeepsOthers.setCell W ⟨w.heap.size + 2, 0, none⟩ (.int .i64 0)).trans (KeepsOthers.setCell _ ⟨w.heap.size + 3, 0, none⟩ (.int .i64 0))).same D _ HK.out rfl
        have K6 := sep_turn K5 (by intro A hA; simp only [List.mem_cons, List.not_mem_nil, or_false] at hA; rcases hA with rfl | rfl | rfl <;> exact celB _ _ _) (grownBy_putObj' _ D (.deferred none)) (fun r e => by cases e; exact ⟨Nat.le_trans KK.out.le hD, _, hK2, rfl⟩)
        refine ⟨by simp, .inl ⟨_, _, rfl, run_takeDeferred hK2, ?_⟩⟩
        have r3 := (K6.blk (g := w.heap.size + 3) (e := 3) (List.Mem.head _)).cell 0
        have r2 := (K6.blk (g := w.heap.size + 2) (e := 3) (List.Mem.tail _ (List.Mem.head _))).cell 0
        simp only [List.set, List.getElem?_cons_zero] at r2 r3
        refine ⟨.tuple #[.int .i64 0, .int .i64 0, .int .i64 4], by simp [results, Tryz.results48, go_sem, r2, r3], ?_, K6.toExt⟩
        rw [HE.out]
      · have e2 : ((t2 : Int) == 0) = false := beq_eq_false_iff_ne.2 (by omega)
        have HE := hide (HOF.out ht0)
        clear ht0
        gi_wp2
        refine wpIn_wide.2 ?_
        refine wp_region_wmr (RT.fr No) [0, 1, 2, 3, 4] (by kernel_rfl) (by kernel_rfl) (by kernel_rfl) (by kernel_rfl) ?_
        have H1 := HI.out.drew
        have hKd : W.drew.heap[D]? = some (.deferred (some [])) := HK.out
        clear HI HK p2 f2 p3 f3
        generalize World.drew _ = wd at *
        have B3 := H1.blk (g := w.heap.size + 3) (e := 3) (List.Mem.head _)
        have B2 := H1.blk (g := w.heap.size + 2) (e := 3) (List.Mem.tail _ (List.Mem.head _))
        have nn : ∀ k, ¬ No k := fun _ h => h
        refine wmr_ld1 rfl rfl 3 (.tmp 4) rfl rfl (fun w' h' => h'.cell (B2.cell 0) (nn _)) _ Tryz.underlying3 rfl ?_
        refine wmr_ld1 rfl rfl 3 (.tmp 5) rfl rfl (fun w' h' => h'.cell (B3.cell 0) (nn _)) _ Tryz.underlying3 rfl ?_
        refine wmr_ext rfl rfl (fun K hK => ?_)
        rw [if_pos (show Region.wanted _ _ = true from rfl)]
        refine wp_st1Same B2 3 (.tmp 4) (.tmp 35) rfl rfl rfl (by kernel_rfl) rfl rfl (hK _ _ (Fr.refl _ _) ?_)
        clear hK K
        refine wmr_ext rfl rfl (fun K hK => ?_)
        rw [if_pos (show Region.wanted _ _ = true from rfl)]
        refine wp_st1Same B3 3 (.tmp 5) (.tmp 36) rfl rfl rfl (by kernel_rfl) rfl rfl (hK _ _ (Fr.refl _ _) ?_)
        clear hK K
        iterate 1 (refine wmr_rd rfl rfl (fun K hK => ?_); go_simp; refine hK _ ?_; clear hK K)
        refine wmr_nil ?_
        clear B2 B3 nn
        have HKD := hide hKd
        clear hKd
        gi_wp2
        have K6 := sep_turn H1 (by intro A hA; simp only [List.mem_cons, List.not_mem_nil, or_false] at hA; rcases hA with rfl | rfl | rfl <;> exact celB _ _ _) (grownBy_putObj' _ D (.deferred none)) (fun r e => by cases e; exact ⟨Nat.le_trans KK.out.le hD, _, HKD.out, rfl⟩)
        refine ⟨by simp, .inl ⟨_, _, rfl, run_takeDeferred HKD.out, ?_⟩⟩
        have r3 := (K6.blk (g := w.heap.size + 3) (e := 3) (List.Mem.head _)).cell 0
        have r2 := (K6.blk (g := w.heap.size + 2) (e := 3) (List.Mem.tail _ (List.Mem.head _))).cell 0
        simp only [List.getElem?_cons_zero] at r2 r3
        refine ⟨.tuple #[.int .i64 (t1 : Nat), .int .i64 (t2 : Nat), .int .i64 0], by simp [results, Tryz.results48, go_sem, r2, r3], ?_, K6.toExt⟩
        rw [HE.out]
    case stop =>
      rintro D c pre W _ _ h _
      exact h.elim
  · have HE : Hid (ofE v s = (0, 0, (chk v).2)) := hide (by unfold ofE; rw [if_neg hz])
    have e1 : ((chk v).2 != 0) = true := bne_iff_ne.2 hz
    clear hz
    gi_wp2_with fail
    have K5 := (K1.out.cell (L1 := [_]) 0 (.int .i64 0)).cell (L1 := []) 0 (.int .i64 0)
    have r3 := (K5.blk (g := w.heap.size + 3) (e := 3) (List.Mem.head _)).cell 0
    have r2 := (K5.blk (g := w.heap.size + 2) (e := 3) (List.Mem.tail _ (List.Mem.head _))).cell 0
    simp only [List.set, List.getElem?_cons_zero] at r2 r3
    refine ⟨.tuple #[.int .i64 0, .int .i64 0, .int .i64 (chk v).2], by simp [results, Tryz.results48, go_sem, r2, r3], ?_, K5.toExt⟩
    rw [HE.out]
end Go.Proofs.YtdmaephmkfmehaaGreatDoor
namespace Go.Proofs.YtdmaephmkfmehaaGreatDoor
open Go.RowKit Go.Gr Go.Ad
set_option linter.unusedVariables false
set_option linter.unusedSimpArgs false
attribute [local go_sem] rdOp rdAt rdUpon Cls forall_fr
def bls (l : List Bool) : List Value := l.map Value.bool
theorem bls_len (l : List Bool) : (bls l).length = l.length := by simp [bls]
theorem bls_one (l : List Bool) : ∀ v ∈ bls l, v.oneCell' = true := by
  intro v hv
  obtain ⟨x, _, rfl⟩ := List.mem_map.1 hv
  rfl
theorem bls_at {w : World} {A : Option Addr} {l : List Bool} (h : Rd w A (bls l)) {k : Nat} {b : Bool} (hk : l[k]? = some b) : ∃ ad, A = some ad ∧ w.cell? (ad.add k) = some (.bool b) :=
  h k _ (by simp [bls, hk])
/-- what is wrong with a question -/
def qE (v : Vn) (n : Nat) (s : Int) : Int :=
  if (seatsE v).2 ≠ 0 then (seatsE v).2 else if (n : Int) ≠ (seatsE v).1 then 6 else if s < 0 ∨ (v.secs.length : Int) ≤ s then 4 else 0
theorem qE_zero {v : Vn} {n : Nat} {s : Int} (h : qE v n s = 0) : VnOk v ∧ (chk v).2 = 0 ∧ chk v = (0, 0) ∧ n = sumS v.secs ∧ ∃ j : Nat, s = j ∧ j < v.secs.length := by
  unfold qE at h
  split at h
  · rename_i h1; exact absurd h h1
  · rename_i h1
    split at h
    · cases h
    · rename_i h2
      split at h
      · cases h
      · rename_i h3
        have hz : (chk v).2 = 0 := by
          by_cases hz : (chk v).2 = 0
          · exact hz
          · exfalso
            unfold seatsE at h1
            rw [if_neg hz] at h1
            exact h1 hz
        obtain ⟨h4, h5⟩ := chk_zero hz
        have h6 : (seatsE v).1 = (sumS v.secs : Nat) := by unfold seatsE; rw [if_pos hz]
        exact ⟨h4, hz, h5, by rw [h6] at h2; omega, s.toNat, by omega, by omega⟩
def oneE (n : Int) : Int := if n = 1 then 1 else 0
end Go.Proofs.YtdmaephmkfmehaaGreatDoor
namespace Go.Proofs.YtdmaephmkfmehaaGreatDoor
open Go.RowKit Go.Gr Go.Ad
set_option linter.unusedVariables false
set_option linter.unusedSimpArgs false
attribute [local go_sem] rdOp rdAt rdUpon Cls forall_fr
def runC (r : Run) : List Value := [.int .i64 (r.row : Nat), .int .i64 (r.first : Nat), .int .i64 (r.many : Nat)]
def runV (l : List Run) : List (List Value) := l.map runC
theorem runV_len (l : List Run) : (runV l).length = l.length := by simp [runV]
theorem runV_append (l m : List Run) : runV (l ++ m) = runV l ++ runV m := by simp [runV]
theorem runC_one (r : Run) : ∀ v ∈ runC r, v.oneCell' = true := by
  intro v hv
  simp only [runC, List.mem_cons, List.not_mem_nil, or_false] at hv
  rcases hv with rfl | rfl | rfl <;> rfl
theorem secRuns_app (f : List Bool) : ∀ (l1 l2 : List Nat) (r a : Nat), secRuns f r a (l1 ++ l2) = secRuns f r a l1 ++ secRuns f (r + l1.length) (a + l1.sum) l2
  | [], l2, r, a => by simp [secRuns]
  | n :: l1, l2, r, a => by
    rw [List.cons_append, secRuns, secRuns, secRuns_app f l1 l2, List.append_assoc, List.length_cons, List.sum_cons, show r + 1 + l1.length = r + (l1.length + 1) by omega, Nat.add_assoc]
theorem secRuns_step {f : List Bool} {ns : List Nat} {k n a : Nat} (h : ns[k]? = some n) : secRuns f 0 a (ns.take (k + 1)) = secRuns f 0 a (ns.take k) ++ runsGo k (a + (ns.take k).sum) 0 ((f.drop (a + (ns.take k).sum)).take n) := by
  have hk : k < ns.length := (List.getElem?_eq_some_iff.1 h).1
  rw [List.take_add_one, h, Option.toList_some, secRuns_app, secRuns, secRuns, List.append_nil, List.length_take, Nat.min_eq_left (by omega), Nat.zero_add]
theorem runsGo_few (r : Nat) : ∀ (l : List Bool) (a m : Nat), (runsGo r a m l).length ≤ l.length + 1
  | [], a, m => by unfold runsGo cl; split <;> simp
  | true :: l, a, m => by have := runsGo_few r l a (m + 1); simp [runsGo]; omega
  | false :: l, a, m => by
    have := runsGo_few r l (a + m + 1) 0
    have h2 : (cl r a m).length ≤ 1 := by unfold cl; split <;> simp
    simp [runsGo]; omega
theorem secRuns_few (f : List Bool) : ∀ (ns : List Nat) (r a : Nat), (secRuns f r a ns).length ≤ ns.sum + ns.length
  | [], r, a => by simp [secRuns]
  | n :: ns, r, a => by
    have h1 := secRuns_few f ns (r + 1) (a + n)
    have h2 := runsGo_few r ((f.drop a).take n) a 0
    have h3 : ((f.drop a).take n).length ≤ n := by simp; omega
    rw [secRuns, List.length_append, List.sum_cons, List.length_cons]; omega
theorem go0_done_le (r a : Nat) (l : List Bool) : (go0 r a l).done.length ≤ l.length + 1 := by
  have := runsGo_few r l a 0
  rw [← go0_all, Sta.all, List.length_append] at this
  omega
/-- the bits of a row, and one that is not free -/
theorem bits_at {f : List Bool} {a n i : Nat} (hi : i < n) {b : Bool} (h : f[a + i]? = some b) : ((f.drop a).take n ++ [false])[i]? = some b := by
  have hl : a + i < f.length := (List.getElem?_eq_some_iff.1 h).1
  rw [List.getElem?_append_left (by simp; omega), List.getElem?_take, if_pos hi, List.getElem?_drop, h]
theorem bits_end {f : List Bool} {a n : Nat} (h : a + n ≤ f.length) : ((f.drop a).take n ++ [false])[n]? = some false := by
  have hl : ((f.drop a).take n).length = n := by rw [List.length_take, List.length_drop, Nat.min_eq_left (by omega)]
  rw [List.getElem?_append_right (by omega), hl, Nat.sub_self]; rfl
theorem bits_len {f : List Bool} {a n : Nat} (h : a + n ≤ f.length) : ((f.drop a).take n ++ [false]).length = n + 1 := by
  rw [List.length_append, List.length_take, List.length_drop, Nat.min_eq_left (by omega)]; rfl
theorem st_next {r a i : Nat} {l : List Bool} {b : Bool} (h : l[i]? = some b) : go0 r a (l.take (i + 1)) = stp r (go0 r a (l.take i)) b := by
  rw [take_next1 h, go0_snoc]
theorem st_done {f : List Bool} {r a n : Nat} (h : a + n ≤ f.length) : (go0 r a (((f.drop a).take n ++ [false]).take (n + 1))).done = runsGo r a 0 ((f.drop a).take n) := by
  rw [List.take_of_length_le (by rw [bits_len h]; exact Nat.le_refl _), go0_snoc, ← go0_all]; rfl
theorem seg_in {v : Vn} {j k n : Nat} {s : Sc} (hs : v.secs[j]? = some s) (hn : s.rowsN[k]? = some n) : fst0 v.secs j + (s.rowsN.take k).sum + n ≤ sumS v.secs := by
  have h1 : v.secs = v.secs.take j ++ v.secs.drop j := (List.take_append_drop _ _).symm
  have hj : j < v.secs.length := (List.getElem?_eq_some_iff.1 hs).1
  have h2 : v.secs.drop j = s :: v.secs.drop (j + 1) := by
    rw [List.drop_eq_getElem_cons hj]
    rw [List.getElem?_eq_getElem hj] at hs
    rw [Option.some.inj hs]
  have h3 : sumS v.secs = fst0 v.secs j + (s.sum + sumS (v.secs.drop (j + 1))) := by
    conv => lhs; rw [h1, sumS_append, h2]
    simp [sumS, fst0]
  have h4 := sum_take_le s.rowsN (k + 1)
  rw [sum_step hn] at h4
  unfold Sc.sum at h3
  omega
theorem ofE_at {v : Vn} {j : Nat} {s : Sc} (hz : (chk v).2 = 0) (hs : v.secs[j]? = some s) : ofE v (j : Int) = (((fst0 v.secs j : Nat) : Int), ((s.sum : Nat) : Int), 0) := by
  unfold ofE
  rw [if_pos hz, if_pos (by omega), Int.toNat_natCast, hs]
theorem blk3f {w : World} {g : Nat} {e : TypeId} {a b c : Value} (h : Blk w g e [a, b, c]) : w.cell? ⟨g, 0, none⟩ = some a ∧ w.cell? ⟨g, 1, none⟩ = some b ∧ w.cell? ⟨g, 2, none⟩ = some c ∧ (∀ i, w.frozen? ⟨g, i, none⟩ = false) ∧ g < w.heap.size :=
  ⟨h.cell 0, h.cell 1, h.cell 2, h.free, h.lt⟩
theorem int3_one (a b c : Int) : ∀ v ∈ ([.int .i64 a, .int .i64 b, .int .i64 c] : List Value), v.oneCell' = true := by
  intro v hv
  simp only [List.mem_cons, List.not_mem_nil, or_false] at hv
  rcases hv with rfl | rfl | rfl <;> rfl
end Go.Proofs.YtdmaephmkfmehaaGreatDoor
namespace Go.Gr
open Go.RowKit Go.Sort
set_option linter.unusedVariables false
def noDefer (o : Oper) : Bool := match o.op with | .defer _ => false | _ => true
section
variable {P : Program} {ops : Array Oper} {Q : Exit → Act → World → Prop} {n l : Nat}
theorem op_in {o : Oper} {a : Act} {w : World} {K : Act → World → Prop} (hd : noDefer o = true) (h : o.wp P a w K Q) : o.wpIn (Fence.wide.inRound l) n P a w K Q := by
  refine ⟨fun f _ => trivial, ?_⟩
  have e : o.semAt (Fence.wide.inRound l).round a.eval = execOp a.eval o := Oper.semAt_some l a.eval o (fun c hc => by simp [noDefer, hc] at hd)
  rw [e]
  unfold Oper.wp at h
  generalize (execOp a.eval o).run P w = r at *
  cases r with
  | ok x w' =>
    cases x <;> simp only [Oper.upon, Oper.uponIn] at h ⊢
    · exact h
    · exact h
    · exact ⟨fun h => (by cases h), CallsIn.inRound l (callsIn_wide.2 h)⟩
    · exact h
    · refine ⟨fun h => (by cases h), fun c cs _ => ?_⟩
      obtain ⟨v, w2, h1, h2⟩ := h c cs
      exact ⟨v, w2, h1, stepsIn_wide.2 h2⟩
  | halt x w' => cases x <;> simp only [Oper.upon, Oper.uponIn] at h ⊢ <;> exact h
theorem skip_in {o : Oper} {a : Act} {w : World} : ∀ f, o.about P w a.eval = some f → (Fence.wide.inRound l).fn f := fun _ _ => trivial
/-- a list of operations -/
theorem list_in (hQ : ∀ a w, ¬ Q .outgrown a w) : ∀ (rest : List Oper) (a : Act) (w : World), (rest.all noDefer) = true → wpList P ops Q rest a w → wpListIn (Fence.wide.inRound l) n P ops Q rest a w
  | [], a, w, _, h => h
  | o :: rest, a, w, hd, h => by
    rw [List.all_cons, Bool.and_eq_true] at hd
    unfold wpList at h
    unfold wpListIn
    split
    · rename_i hw
      rw [if_pos hw] at h
      rcases h with h | ⟨_, a0, w0, h⟩
      · exact Oper.wpIn_mono (fun a' w' h' => list_in hQ rest a' w' hd.2 h') (op_in hd.1 h)
      · exact (hQ _ _ h).elim
    · rename_i hw
      rw [if_neg hw] at h
      exact ⟨skip_in, list_in hQ rest _ w hd.2 h⟩
theorem wpIn_round {id : Nat} {L : List Oper} {a : Act} {w : World} (hQ : ∀ a w, ¬ Q .outgrown a w) (hd : (L.all noDefer) = true) (h : wpList P L.toArray Q L a w) : (Code.region id L.toArray false).wpIn (Fence.wide.inRound l) n P Q a w :=
  wpIn_region_lit (list_in hQ L a w hd h)
theorem wpOp_in {i : Nat} {K : Act → World → Prop} {a : Act} {w : World} (hQ : ∀ a w, ¬ Q .outgrown a w) (hd : ∀ o, ops[i]? = some o → noDefer o = true) (h : wpOp P ops Q i K a w) : wpOpIn (Fence.wide.inRound l) n P ops Q i K a w := by
  unfold wpOp at h
  unfold wpOpIn
  cases ho : ops[i]? with
  | none => simpa [ho] using h
  | some o =>
    simp only [ho] at h ⊢
    split
    · rename_i hw
      rw [if_pos hw] at h
      rcases h with h | ⟨_, a0, w0, h⟩
      · exact op_in (hd o ho) h
      · exact (hQ _ _ h).elim
    · rename_i hw
      rw [if_neg hw] at h
      exact ⟨skip_in, h⟩
theorem wpAny_in {md : Region.Mode} (hQ : ∀ a w, ¬ Q .outgrown a w) (hd : ∀ (i : Nat) o, ops[i]? = some o → noDefer o = true) : ∀ (fuel : Nat) (listed : Array Bool) (a : Act) (w : World), wpAny P md ops Q fuel listed a w → wpAnyIn (Fence.wide.inRound l) n P md ops Q fuel listed a w
  | 0, listed, a, w, h => h
  | fuel + 1, listed, a, w, h => ⟨h.1, fun i hi => wpOp_in hQ (hd i) (wpOp_mono (fun a' w' h' => wpAny_in hQ hd fuel _ a' w' h') (h.2 i hi))⟩
theorem all_get {L : List Oper} (hd : (L.all noDefer) = true) (i : Nat) (o : Oper) (h : L.toArray[i]? = some o) : noDefer o = true := by
  rw [List.getElem?_toArray] at h
  exact List.all_eq_true.1 hd o (List.mem_of_getElem? h)
/-- a region that draws its order -/
theorem wpIn_round_draw {id : Nat} {L : List Oper} {a : Act} {w : World} (hQ : ∀ a w, ¬ Q .outgrown a w) (hd : (L.all noDefer) = true) (hm : P.follows .mixedOrders = true)
    (h : wpAny P .any L.toArray Q L.toArray.size (Array.replicate L.toArray.size false) a w.drew) : (Code.region id L.toArray true).wpIn (Fence.wide.inRound l) n P Q a w :=
  wpIn_region_any hm (wpAny_in hQ (all_get hd) _ _ _ _ h)
theorem wpIn_round_wm {id : Nat} {L : List Oper} {a : Act} {w : World} (perm : List Nat) (hQ : ∀ a w, ¬ Q .outgrown a w) (hd : (L.all noDefer) = true) (hm : P.follows .mixedOrders = true) (hs : (L.all fun o => !isSel o) = true) (hl : perm.length = L.toArray.size)
    (hok : okAll L.toArray (Array.replicate L.toArray.size false) perm = true) (h : WM P L.toArray (NoPanic Q) perm a w.drew) : (Code.region id L.toArray true).wpIn (Fence.wide.inRound l) n P Q a w := by
  refine Code.wpIn_mono NoPanic.imp (wpIn_round_draw (Q := NoPanic Q) (fun a w h => hQ a w h) hd hm (wpAny_of_held (S := Ext w.drew) _ _ _ _ ?_))
  rw [← hl] at *
  refine run_mono ?_ (fun c a w h => h) perm _ a _ hok h.out
  intro j o cs b hj he
  have hmem : o ∈ L := by
    rw [List.getElem?_toArray] at hj
    exact List.mem_of_getElem? hj
  have := List.all_eq_true.1 hs o hmem
  simp [isSel, he] at this
end
/-- what a round may not turn: these blocks -/
def KpS (S : Nat → Prop) (W W' : World) : Prop := W.heap.size ≤ W'.heap.size ∧ ∀ k, S k → W'.heap[k]? = W.heap[k]?
theorem kpS_t {S : Nat → Prop} {A B C : World} (h : KpS S A B) (k : KpS S B C) : KpS S A C := ⟨Nat.le_trans h.1 k.1, fun i hi => (k.2 i hi).trans (h.2 i hi)⟩
theorem kpS_b {S : Nat → Prop} {w : World} (hS : ∀ k, S k → k < w.heap.size) (W : World) (l : Nat) (o o' : Obj) (hl : w.heap.size ≤ l) (h : W.heap[l]? = some o) (_ : o.isCells = false) (_ : o.isWalk = false) : KpS S W (W.putObj l o') :=
  ⟨by simp, fun k hk => World.putObj_heap_other (by have := hS k hk; omega)⟩
theorem kpS_refl (S : Nat → Prop) (W : World) : KpS S W W := ⟨Nat.le_refl _, fun _ _ => rfl⟩
theorem kpS_fr {S T : Nat → Prop} {W W' : World} (h : Fr T W W') (hs : ∀ k, S k → k < W.heap.size) (hd : ∀ k, S k → ¬ T k) : KpS S W W' := ⟨h.size, fun k hk => h.block k (hs k hk) (hd k hk)⟩
theorem kpS_ext {S : Nat → Prop} {W W' : World} (h : Ext W W') (hs : ∀ k, S k → k < W.heap.size) : KpS S W W' := ⟨h.size, fun k hk => h.block k (hs k hk)⟩
/-- what a round may not turn: these blocks, and all of this type -/
def KpT (S : Nat → Prop) (t : TypeId) (W W' : World) : Prop := W.heap.size ≤ W'.heap.size ∧ (∀ k, S k → W'.heap[k]? = W.heap[k]?) ∧ ∀ (k : Nat) cs fr, W.heap[k]? = some (Obj.cells cs t fr) → W'.heap[k]? = W.heap[k]?
theorem kpT_t {S : Nat → Prop} {t : TypeId} {A B C : World} (h : KpT S t A B) (k : KpT S t B C) : KpT S t A C :=
  ⟨Nat.le_trans h.1 k.1, fun i hi => (k.2.1 i hi).trans (h.2.1 i hi), fun i cs fr hi => (k.2.2 i cs fr ((h.2.2 i cs fr hi).trans hi)).trans (h.2.2 i cs fr hi)⟩
theorem kpT_b {S : Nat → Prop} {t : TypeId} {w : World} (hS : ∀ k, S k → k < w.heap.size) (W : World) (l : Nat) (o o' : Obj) (hl : w.heap.size ≤ l) (h : W.heap[l]? = some o) (hc : o.isCells = false) (_ : o.isWalk = false) : KpT S t W (W.putObj l o') :=
  ⟨by simp, fun k hk => World.putObj_heap_other (by have := hS k hk; omega), fun k cs fr hk => World.putObj_heap_other (fun e => by subst e; rw [hk] at h; cases h; cases hc)⟩
theorem kpT_refl (S : Nat → Prop) (t : TypeId) (W : World) : KpT S t W W := ⟨Nat.le_refl _, fun _ _ => rfl, fun _ _ _ _ => rfl⟩
theorem kpT_ext {S : Nat → Prop} {t : TypeId} {W W' : World} (h : Ext W W') (hs : ∀ k, S k → k < W.heap.size) : KpT S t W W' :=
  ⟨h.size, fun k hk => h.block k (hs k hk), fun k cs fr hk => h.block k (Array.getElem?_eq_some_iff.1 hk).1⟩
theorem kpT_fr {S T : Nat → Prop} {t : TypeId} {W W' : World} (h : Fr T W W') (hs : ∀ k, S k → k < W.heap.size) (hd : ∀ k, S k → ¬ T k) (ht : ∀ k, T k → ∃ cs t' fr, W.heap[k]? = some (Obj.cells cs t' fr) ∧ t' ≠ t) : KpT S t W W' :=
  ⟨h.size, fun k hk => h.block k (hs k hk) (hd k hk), fun k cs fr hk => h.block k (Array.getElem?_eq_some_iff.1 hk).1 (fun hT => by
    obtain ⟨cs', t', fr', h1, h2⟩ := ht k hT
    rw [hk] at h1; cases h1; exact h2 rfl)⟩
/-- what turns cells alone keeps all else -/
theorem keepsFrom_fr {T : Nat → Prop} {B : Nat} {W W' : World} (h : Fr T W W') (hc : ∀ k, T k → ∃ o : Obj, W.heap[k]? = some o ∧ o.isCells = true) : KeepsFrom B W W' :=
  ⟨h.size, fun k o _ ho hn => by
    refine (h.block k (Array.getElem?_eq_some_iff.1 ho).1 fun hT => ?_).trans ho
    obtain ⟨o', ho', hc'⟩ := hc k hT
    rw [ho] at ho'; cases ho'; rw [hn] at hc'; cases hc'⟩
/-- the blocks of some assertions -/
def Fp (L : List As) : Nat → Prop := fun k => ∃ A ∈ L, A.fp k
theorem Sep.rebase {w W : World} {L : List As} (h : Sep No w W L) : Sep (Fp L) W W L := ⟨Fr.refl _ _, h.all, fun A hA k hk => .inl ⟨A, hA, hk⟩, h.dis⟩
theorem Sep.glue {w W W' : World} {L L' M : List As} (h : Sep No w W (L ++ M)) (h' : Sep (Fp L) W W' L') : Sep No w W' (L' ++ M) := by
  have hd := List.pairwise_append.1 h.dis
  have low : ∀ k, Fp L k → w.heap.size ≤ k := fun k ⟨A, hA, hk⟩ => by
    rcases h.own A (List.mem_append_left _ hA) k hk with h1 | h1
    · exact h1.elim
    · exact h1
  refine ⟨⟨h'.fr.os.trans h.fr.os, h'.fr.tape.trans h.fr.tape, h'.fr.output.trans h.fr.output, Nat.le_trans h.fr.size h'.fr.size, fun k hk hn => ?_⟩, ?_, ?_, ?_⟩
  · exact (h'.fr.block k (Nat.lt_of_lt_of_le hk h.fr.size) (fun hf => by have := low k hf; omega)).trans (h.fr.block k hk hn)
  · intro A hA
    rcases List.mem_append.1 hA with hA | hA
    · exact h'.all A hA
    · have hp := h.all A (List.mem_append_right _ hA)
      exact A.loc hp fun k hk => h'.fr.block k (A.lt hp k hk) (fun ⟨B, hB, hb⟩ => hd.2.2 B hB A hA k hb hk)
  · intro A hA k hk
    rcases List.mem_append.1 hA with hA | hA
    · rcases h'.own A hA k hk with h1 | h1
      · exact .inr (low k h1)
      · exact .inr (Nat.le_trans h.fr.size h1)
    · exact h.own A (List.mem_append_right _ hA) k hk
  · refine List.pairwise_append.2 ⟨h'.dis, hd.2.1, fun A hA B hB k hk hk' => ?_⟩
    have hp := h.all B (List.mem_append_right _ hB)
    have hlt := B.lt hp k hk'
    rcases h'.own A hA k hk with ⟨C, hC, hc⟩ | h1
    · exact hd.2.2 C hC B hB k hc hk'
    · omega
/-- its blocks are cells, of another type -/
def Typ (t : TypeId) (A : As) : Prop := ∀ (W : World) (k : Nat), A.p W → A.fp k → ∃ cs t' fr, W.heap[k]? = some (Obj.cells cs t' fr) ∧ t' ≠ t
theorem typB {t : TypeId} (g : Nat) (e : TypeId) (cs : List Value) (h : e ≠ t) : Typ t (As.blk g e cs) := fun W k hp hk => by cases hk; exact ⟨_, _, _, hp, h⟩
theorem typM {t : TypeId} (e : TypeId) (k : Nat) (v : Value) (rows : List (List Value)) (he : e ≠ t) : Typ t (As.ownM e k v rows) := fun W i h hi => by
  rcases h.row.2 with ⟨rfl, _⟩ | ⟨g, cap, cur, rfl, _, hh, _⟩
  · cases hi
  · cases hi; exact ⟨_, _, _, hh, he⟩
theorem typO {t : TypeId} (e : TypeId) (v : Value) (xs : List Value) (he : e ≠ t) : Typ t (As.own e v xs) := fun W i h hi => by
  rcases h.2 with ⟨rfl, _⟩ | ⟨g, cap, cur, rfl, _, hh, _⟩
  · cases hi
  · cases hi; exact ⟨_, _, _, hh, he⟩
/-- what a round owes, out of its walk over what it turns -/
theorem body_post {w W W' : World} {B : Nat} {t : TypeId} {S : Nat → Prop} {L L' M : List As} (hI : Sep No w W (L ++ M)) (h' : Sep (Fp L) W W' L') (hty : ∀ A ∈ L, Typ t A) (hS : ∀ k, S k → Fp M k) :
    KeepsFrom B W W' ∧ KpT S t W W' ∧ Sep No w W' (L' ++ M) := by
  have hd := List.pairwise_append.1 hI.dis
  have typ : ∀ k, Fp L k → ∃ cs t' fr, W.heap[k]? = some (Obj.cells cs t' fr) ∧ t' ≠ t := fun k ⟨A, hA, hk⟩ => hty A hA W k (hI.all A (List.mem_append_left _ hA)) hk
  refine ⟨keepsFrom_fr h'.fr (fun k hk => ?_), kpT_fr h'.fr (fun k hk => ?_) (fun k hk hL => ?_) typ, hI.glue h'⟩
  · obtain ⟨cs, t', fr, h1, _⟩ := typ k hk
    exact ⟨_, h1, rfl⟩
  · obtain ⟨A, hA, hk⟩ := hS k hk
    exact A.lt (hI.all A (List.mem_append_right _ hA)) k hk
  · obtain ⟨A, hA, hk⟩ := hS k hk
    obtain ⟨C, hC, hc⟩ := hL
    exact hd.2.2 C hC A hA k hc hk
end Go.Gr
