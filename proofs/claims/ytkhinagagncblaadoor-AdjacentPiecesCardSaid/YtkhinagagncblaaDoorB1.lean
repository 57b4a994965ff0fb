/- Venues: what is wrong with one, by the reference. -/
import Derived.Test.YtkhinagagncblaaDoorA8
namespace Go.Proofs.YtkhinagagncblaaDoor
open Go.RowKit Go.Gr Go.Ad
set_option linter.unusedVariables false
set_option linter.unusedSimpArgs false
attribute [local go_sem] rdOp rdAt rdUpon Cls forall_fr
set_option maxRecDepth 100000 in
set_option maxHeartbeats 8000000 in
theorem ref_section (v : Vn) (A : Option Addr) (c j : Nat) (s : Sc) (w : World) (h : Secs w A v.secs) (hc : v.secs.length ≤ c) (hl : v.secs.length ≤ 1000) (hw : VnW v) (hj : v.secs[j]? = some s) :
    Calls Tryd.prog 56 #[.agg #[.int .i64 v.sh, .int .i64 v.ttl, .int .i64 v.ses, .slice A v.secs.length c], .int .i64 j] w fun e w' => e = .returned (.int .i64 (secE (v.secs.take j) s)) ∧ Ext w w' := by
  have HS := hide (fun (y : World) (k : Ext w y) => h.ext k)
  obtain ⟨b, off, R, rc, hA, h5, hR, hrc⟩ := h j s hj
  have H5 := hide (fun (y : World) (k : Ext w y) => h5.ext k)
  have HR := hide (fun (y : World) (k : Ext w y) => hR.ext k)
  have HNM := hide (hw.sec s (List.mem_of_getElem? hj)).name
  have hjl : j < v.secs.length := (List.getElem?_eq_some_iff.1 hj).1
  have hjb : j ≤ 1000 := by omega
  have hji : (j : Int) < (v.secs.length : Int) := by omega
  have hjc : (j : Int) < (c : Int) := by omega
  have HC := hide hc
  have HJ := hide hjl
  clear h hw hj h5 hR hc hl hjl
  have K0 := (Sep.refl No w).add 24 [.int .i64 v.sh, .int .i64 v.ttl, .int .i64 v.ses, .slice A v.secs.length c]
  subst hA
  go_enter Tryd.func56, Tryd.ntmps56
  go_upto_region 1 with fail
  generalize w.alloc _ = w1 at K0 ⊢
  generalize w.heap.size = g1 at K0 ⊢
  obtain ⟨c0, c1, c2, c3, cz⟩ := blk4 (K0.blk (List.Mem.head _))
  obtain ⟨d0, d1, d2⟩ := at5_3 (H5.out _ K0.toExt)
  have K1 := K0.add 78 [.string s.name, .slice R s.rows.length rc, .int .i64 s.queue]
  clear K0
  go_upto_region 2 with fail
  clear c0 c1 c2 c3 cz d0 d1 d2
  generalize w1.alloc _ = w2 at K1 ⊢
  generalize w1.heap.size = g2 at K1 ⊢
  have K2 := hide K1
  clear K1
  obtain ⟨s0, s1, s2, sz⟩ := blk3 (K2.out.blk (List.Mem.head _))
  go_wp2_with fail
  (with_reducible refine (rname_any _ _ HNM.out).mono ?_)
  rintro e w3 ⟨rfl, rfl⟩
  cases hname : nameOk s.name
  · have HE := hide (secE_name (bef := v.secs.take j) hname)
    go_wp2_with fail
    go_ret
    exact ⟨by rw [HE.out]; rfl, K2.out.toExt⟩
  have HNAME := hide hname
  clear hname
  go_wp2_with fail
  clear s0 s1 s2 sz
  go_loopw [6] (fun v6 wr => ∃ i : Nat, v6 = .int .i64 i ∧ i ≤ j ∧ Hid (((v.secs.take j).take i).any (fun x => decide (x.name = s.name)) = false) ∧ Hid (Sep No w wr [As.blk g2 78 [.string s.name, .slice R s.rows.length rc, .int .i64 s.queue], As.blk g1 24 [.int .i64 v.sh, .int .i64 v.ttl, .int .i64 v.ses, .slice (some ⟨b, off, none⟩) v.secs.length c]])) (fun v6 _ => j - (intOf v6).toNat)
  case atStart => exact ⟨0, rfl, by omega, hide rfl, K2⟩
  case round =>
    obtain ⟨i, rfl, hi, HA, K3⟩ := hrel
    clear K2
    by_cases hij : i < j
    · have hiji : (i : Int) < (j : Int) := by omega
      have hil : i < v.secs.length := by have := HJ.out; omega
      obtain ⟨x, hx⟩ : ∃ x, v.secs[i]? = some x := ⟨_, List.getElem?_eq_getElem hil⟩
      obtain ⟨b', off', R', c', hA', h5', _, _⟩ := HS.out _ K3.out.toExt i x hx
      cases hA'
      have hx2 : (v.secs.take j)[i]? = some x := by rw [List.getElem?_take, if_pos hij, hx]
      have HST := hide (any_step (p := fun x : Sc => decide (x.name = s.name)) hx2 HA.out)
      have HTR := hide (any_true (p := fun x : Sc => decide (x.name = s.name)) hx2)
      have hili : (i : Int) < (v.secs.length : Int) := by omega
      have hilc : (i : Int) < (c : Int) := by omega
      have HEQ := hide (name_eq x.name s.name)
      have hib : i ≤ 1000 := by omega
      have HIJ := hide hij
      clear hx hx2 hij hil
      go_upto_region 7 with fail
      refine wp_region_wm [0, 1, 2, 3, 4, 5, 6, 7, 8] (by kernel_rfl) (by kernel_rfl) (by kernel_rfl) (by kernel_rfl) ?_
      have H4 := K3.out.drew
      have h5d : At5 wr.drew b (off + i * 3) (scC x R' c') := h5'
      clear K3 h5'
      generalize World.drew _ = wd at *
      have v3 := (H4.blk (g := g1) (e := 24) (List.Mem.tail _ (List.Mem.head _))).cell 3
      have n0 := (H4.blk (g := g2) (e := 78) (List.Mem.head _)).cell 0
      obtain ⟨x0, _, _⟩ := at5_3 h5d
      iterate 1 (refine wm_rd rfl rfl (fun K hK => ?_); go_simp; refine hK _ ?_; clear hK K)
      refine wm_ld1 rfl rfl 22 (.tmp 22) rfl rfl v3 _ Tryd.underlying22 rfl ?_
      iterate 3 (refine wm_rd rfl rfl (fun K hK => ?_); go_simp; refine hK _ ?_; clear hK K)
      refine wm_ld1 rfl rfl 9 (.tmp 26) rfl rfl x0 _ Tryd.underlying9 rfl ?_
      iterate 1 (refine wm_rd rfl rfl (fun K hK => ?_); go_simp; refine hK _ ?_; clear hK K)
      refine wm_ld1 rfl rfl 9 (.tmp 28) rfl rfl n0 _ Tryd.underlying9 rfl ?_
      iterate 1 (refine wm_rd rfl rfl (fun K hK => ?_); go_simp; refine hK _ ?_; clear hK K)
      refine wm_nil ?_
      clear v3 n0 x0 h5d
      have K4 := hide H4
      clear H4
      rw [HEQ.out]
      cases hn : decide (x.name = s.name)
      · rw [hn] at HST
        go_wp2_with fail
        go_roundw
        case rel => exact ⟨i + 1, by go_num, HIJ.out, HST, K4⟩
        case measure => have := HIJ.out; simp [intOf]; omega
      · have HE := hide (secE_twice HNAME.out (HTR.out hn))
        go_wp2_with fail
        go_ret
        exact ⟨by rw [HE.out]; rfl, K4.out.toExt⟩
    · have hiji : ¬ (i : Int) < (j : Int) := by omega
      obtain rfl : i = j := by omega
      have htw := HA.out
      rw [List.take_take, Nat.min_self] at htw
      have HE := hide (secE_rest HNAME.out htw)
      clear htw hij HA
      obtain ⟨s0, s1, s2, sz⟩ := blk3 (K3.out.blk (g := g2) (e := 78) (List.Mem.head _))
      by_cases h0 : s.rows.length = 0
      · have e1 : ((s.rows.length : Int) == 0) = true := by rw [h0]; rfl
        rw [if_pos h0] at HE
        clear h0
        go_wp2_with fail
        go_ret
        exact ⟨by rw [HE.out]; rfl, K3.out.toExt⟩
      have e1 : ((s.rows.length : Int) == 0) = false := beq_eq_false_iff_ne.2 (by omega)
      rw [if_neg h0] at HE
      by_cases h16 : 16 < s.rows.length
      · have e2 : (16 : Int) < (s.rows.length : Int) := by omega
        rw [if_pos h16] at HE
        clear h0 h16
        go_wp2_with fail
        go_ret
        exact ⟨by rw [HE.out]; rfl, K3.out.toExt⟩
      have e2 : ¬ (16 : Int) < (s.rows.length : Int) := by omega
      rw [if_neg h16] at HE
      have H16 : Hid (s.rows.length ≤ 16) := hide (by omega)
      clear h0 h16
      go_wp2_with fail
      clear s0 s1 s2 sz
      go_loopw [7] (fun v7 wy => ∃ k : Nat, v7 = .int .i64 k ∧ k ≤ s.rows.length ∧ Hid ((s.rows.take k).any (fun n => outB n 1 64) = false) ∧ wy = wr) (fun v7 _ => s.rows.length - (intOf v7).toNat)
      case atStart => exact ⟨0, rfl, by omega, hide rfl, rfl⟩
      case round =>
        obtain ⟨k, rfl, hk, HB, rfl⟩ := hrel
        have hkb : k ≤ 16 := by have := H16.out; omega
        obtain ⟨s0, s1, s2, sz⟩ := blk3 (K3.out.blk (g := g2) (e := 78) (List.Mem.head _))
        by_cases hkl : k < s.rows.length
        · have hkli : (k : Int) < (s.rows.length : Int) := by omega
          obtain ⟨ad, hA2, cl⟩ := i64s_at (HR.out _ K3.out.toExt) hkl
          obtain ⟨x, hx⟩ : ∃ x, s.rows[k]? = some x := ⟨_, List.getElem?_eq_getElem hkl⟩
          have hx' : s.rows[k] = x := by rw [List.getElem?_eq_getElem hkl] at hx; exact Option.some.inj hx
          rw [hx'] at cl
          subst hA2
          have hkc : (k : Int) < (rc : Int) := by omega
          have HST := hide (any_step (p := fun x : Int => outB x 1 64) hx HB.out)
          have HTR := hide (any_true (p := fun x : Int => outB x 1 64) hx)
          have HKL := hide hkl
          clear hx hx' hkl
          go_wp2_with fail
          (with_reducible refine (within_any _ _ _ _).mono ?_)
          rintro e w5 ⟨rfl, rfl⟩
          clear cl s0 s1 s2 sz
          cases hn : outB x 1 64
          · rw [hn] at HST
            go_wp2_with fail
            go_roundw
            case rel => exact ⟨k + 1, by go_num, HKL.out, HST, by first | trivial | rfl⟩
            case measure => have := HKL.out; simp [intOf]; omega
          · have HE2 := hide (HE.out.trans (if_pos (HTR.out hn)))
            go_wp2_with fail
            go_ret
            exact ⟨by rw [HE2.out]; rfl, K3.out.toExt⟩
        · have hkli : ¬ (k : Int) < (s.rows.length : Int) := by omega
          obtain rfl : k = s.rows.length := by omega
          have hrw := HB.out
          rw [List.take_of_length_le (Nat.le_refl _)] at hrw
          rw [if_neg (by rw [hrw]; exact Bool.false_ne_true)] at HE
          clear hrw hkl HB
          go_wp2_with fail
          (with_reducible refine (within_any _ _ _ _).mono ?_)
          rintro e w5 ⟨rfl, rfl⟩
          cases hq : outB s.queue 0 64
          · rw [hq, if_neg Bool.false_ne_true] at HE
            go_wp2_with fail
            go_ret
            exact ⟨by rw [HE.out]; rfl, K3.out.toExt⟩
          · rw [hq, if_pos rfl] at HE
            go_wp2_with fail
            go_ret
            exact ⟨by rw [HE.out]; rfl, K3.out.toExt⟩
end Go.Proofs.YtkhinagagncblaaDoor
