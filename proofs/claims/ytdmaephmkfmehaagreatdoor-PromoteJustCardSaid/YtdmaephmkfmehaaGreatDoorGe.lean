/- Texts put together: B1 B2 B3 B4 C3 V0. -/
import Derived.Test.YtdmaephmkfmehaaGreatDoorGd
import Derived.Test.YtdmaephmkfmehaaGreatDoorGb
import Derived.Test.YtdmaephmkfmehaaGreatDoorGa
namespace Go.Proofs.YtdmaephmkfmehaaGreatDoor
open Go.RowKit Go.Gr Go.Ad
set_option linter.unusedVariables false
set_option linter.unusedSimpArgs false
attribute [local go_sem] rdOp rdAt rdUpon Cls forall_fr
set_option maxRecDepth 100000 in
set_option maxHeartbeats 8000000 in
theorem ref_section (v : Vn) (A : Option Addr) (c j : Nat) (s : Sc) (w : World) (h : Secs w A v.secs) (hc : v.secs.length ≤ c) (hl : v.secs.length ≤ 1000) (hw : VnW v) (hj : v.secs[j]? = some s) :
    Calls Tryz.prog 79 #[.agg #[.int .i64 v.sh, .int .i64 v.ttl, .int .i64 v.ses, .slice A v.secs.length c], .int .i64 j] w fun e w' => e = .returned (.int .i64 (secE (v.secs.take j) s)) ∧ Ext w w' := by
  have HS := hide (fun (y : World) (k : Ext w y) => h.ext k)
  obtain ⟨b, off, R, rc, hA, h5, hR, hrc⟩ := h j s hj
  have H5 := hide (fun (y : World) (k : Ext w y) => h5.ext k)
  have HR := hide (fun (y : World) (k : Ext w y) => hR.ext k)
  have HNM := hide (hw.sec s (List.mem_of_getElem? hj)).name
  have hjl : j < v.secs.length := (List.getElem?_eq_some_iff.1 hj).1
  have hjb : j ≤ 1000 := by omega
  have hji : (j : Int) < (v.secs.length : Int) := by omega
  have hjc : (j : Int) < (c : Int) := by omega
  have HC := hide hc
  have HJ := hide hjl
  clear h hw hj h5 hR hc hl hjl
  have K0 := (Sep.refl No w).add 24 [.int .i64 v.sh, .int .i64 v.ttl, .int .i64 v.ses, .slice A v.secs.length c]
  subst hA
  go_enter Tryz.func79, Tryz.ntmps79
  go_upto_region 1 with fail
  generalize w.alloc _ = w1 at K0 ⊢
  generalize w.heap.size = g1 at K0 ⊢
  obtain ⟨c0, c1, c2, c3, cz⟩ := blk4 (K0.blk (List.Mem.head _))
  obtain ⟨d0, d1, d2⟩ := at5_3 (H5.out _ K0.toExt)
  have K1 := K0.add 100 [.string s.name, .slice R s.rows.length rc, .int .i64 s.queue]
  clear K0
  go_upto_region 2 with fail
  clear c0 c1 c2 c3 cz d0 d1 d2
  generalize w1.alloc _ = w2 at K1 ⊢
  generalize w1.heap.size = g2 at K1 ⊢
  have K2 := hide K1
  clear K1
  obtain ⟨s0, s1, s2, sz⟩ := blk3 (K2.out.blk (List.Mem.head _))
  go_wp2_with fail
  (with_reducible refine (rname_any _ _ HNM.out).mono ?_)
  rintro e w3 ⟨rfl, rfl⟩
  cases hname : nameOk s.name
  · have HE := hide (secE_name (bef := v.secs.take j) hname)
    go_wp2_with fail
    go_ret
    exact ⟨by rw [HE.out]; rfl, K2.out.toExt⟩
  have HNAME := hide hname
  clear hname
  go_wp2_with fail
  clear s0 s1 s2 sz
  go_loopw [6] (fun v6 wr => ∃ i : Nat, v6 = .int .i64 i ∧ i ≤ j ∧ Hid (((v.secs.take j).take i).any (fun x => decide (x.name = s.name)) = false) ∧ Hid (Sep No w wr [As.blk g2 100 [.string s.name, .slice R s.rows.length rc, .int .i64 s.queue], As.blk g1 24 [.int .i64 v.sh, .int .i64 v.ttl, .int .i64 v.ses, .slice (some ⟨b, off, none⟩) v.secs.length c]])) (fun v6 _ => j - (intOf v6).toNat)
  case atStart => exact ⟨0, rfl, by omega, hide rfl, K2⟩
  case round =>
    obtain ⟨i, rfl, hi, HA, K3⟩ := hrel
    clear K2
    by_cases hij : i < j
    · have hiji : (i : Int) < (j : Int) := by omega
      have hil : i < v.secs.length := by have := HJ.out; omega
      obtain ⟨x, hx⟩ : ∃ x, v.secs[i]? = some x := ⟨_, List.getElem?_eq_getElem hil⟩
      obtain ⟨b', off', R', c', hA', h5', _, _⟩ := HS.out _ K3.out.toExt i x hx
      cases hA'
      have hx2 : (v.secs.take j)[i]? = some x := by rw [List.getElem?_take, if_pos hij, hx]
      have HST := hide (any_step (p := fun x : Sc => decide (x.name = s.name)) hx2 HA.out)
      have HTR := hide (any_true (p := fun x : Sc => decide (x.name = s.name)) hx2)
      have hili : (i : Int) < (v.secs.length : Int) := by omega
      have hilc : (i : Int) < (c : Int) := by omega
      have HEQ := hide (name_eq x.name s.name)
      have hib : i ≤ 1000 := by omega
      have HIJ := hide hij
      clear hx hx2 hij hil
      go_upto_region 7 with fail
      refine wp_region_wm [0, 1, 2, 3, 4, 5, 6, 7, 8] (by kernel_rfl) (by kernel_rfl) (by kernel_rfl) (by kernel_rfl) ?_
      have H4 := K3.out.drew
      have h5d : At5 wr.drew b (off + i * 3) (scC x R' c') := h5'
      clear K3 h5'
      generalize World.drew _ = wd at *
      have v3 := (H4.blk (g := g1) (e := 24) (List.Mem.tail _ (List.Mem.head _))).cell 3
      have n0 := (H4.blk (g := g2) (e := 100) (List.Mem.head _)).cell 0
      obtain ⟨x0, _, _⟩ := at5_3 h5d
      iterate 1 (refine wm_rd rfl rfl (fun K hK => ?_); go_simp; refine hK _ ?_; clear hK K)
      refine wm_ld1 rfl rfl 22 (.tmp 22) rfl rfl v3 _ Tryz.underlying22 rfl ?_
      iterate 3 (refine wm_rd rfl rfl (fun K hK => ?_); go_simp; refine hK _ ?_; clear hK K)
      refine wm_ld1 rfl rfl 9 (.tmp 26) rfl rfl x0 _ Tryz.underlying9 rfl ?_
      iterate 1 (refine wm_rd rfl rfl (fun K hK => ?_); go_simp; refine hK _ ?_; clear hK K)
      refine wm_ld1 rfl rfl 9 (.tmp 28) rfl rfl n0 _ Tryz.underlying9 rfl ?_
      iterate 1 (refine wm_rd rfl rfl (fun K hK => ?_); go_simp; refine hK _ ?_; clear hK K)
      refine wm_nil ?_
      clear v3 n0 x0 h5d
      have K4 := hide H4
      clear H4
      rw [HEQ.out]
      cases hn : decide (x.name = s.name)
      · rw [hn] at HST
        go_wp2_with fail
        go_roundw
        case rel => exact ⟨i + 1, by go_num, HIJ.out, HST, K4⟩
        case measure => have := HIJ.out; simp [intOf]; omega
      · have HE := hide (secE_twice HNAME.out (HTR.out hn))
        go_wp2_with fail
        go_ret
        exact ⟨by rw [HE.out]; rfl, K4.out.toExt⟩
    · have hiji : ¬ (i : Int) < (j : Int) := by omega
      obtain rfl : i = j := by omega
      have htw := HA.out
      rw [List.take_take, Nat.min_self] at htw
      have HE := hide (secE_rest HNAME.out htw)
      clear htw hij HA
      obtain ⟨s0, s1, s2, sz⟩ := blk3 (K3.out.blk (g := g2) (e := 100) (List.Mem.head _))
      by_cases h0 : s.rows.length = 0
      · have e1 : ((s.rows.length : Int) == 0) = true := by rw [h0]; rfl
        rw [if_pos h0] at HE
        clear h0
        go_wp2_with fail
        go_ret
        exact ⟨by rw [HE.out]; rfl, K3.out.toExt⟩
      have e1 : ((s.rows.length : Int) == 0) = false := beq_eq_false_iff_ne.2 (by omega)
      rw [if_neg h0] at HE
      by_cases h16 : 16 < s.rows.length
      · have e2 : (16 : Int) < (s.rows.length : Int) := by omega
        rw [if_pos h16] at HE
        clear h0 h16
        go_wp2_with fail
        go_ret
        exact ⟨by rw [HE.out]; rfl, K3.out.toExt⟩
      have e2 : ¬ (16 : Int) < (s.rows.length : Int) := by omega
      rw [if_neg h16] at HE
      have H16 : Hid (s.rows.length ≤ 16) := hide (by omega)
      clear h0 h16
      go_wp2_with fail
      clear s0 s1 s2 sz
      go_loopw [7] (fun v7 wy => ∃ k : Nat, v7 = .int .i64 k ∧ k ≤ s.rows.length ∧ Hid ((s.rows.take k).any (fun n => outB n 1 64) = false) ∧ wy = wr) (fun v7 _ => s.rows.length - (intOf v7).toNat)
      case atStart => exact ⟨0, rfl, by omega, hide rfl, rfl⟩
      case round =>
        obtain ⟨k, rfl, hk, HB, rfl⟩ := hrel
        have hkb : k ≤ 16 := by have := H16.out; omega
        obtain ⟨s0, s1, s2, sz⟩ := blk3 (K3.out.blk (g := g2) (e := 100) (List.Mem.head _))
        by_cases hkl : k < s.rows.length
        · have hkli : (k : Int) < (s.rows.length : Int) := by omega
          obtain ⟨ad, hA2, cl⟩ := i64s_at (HR.out _ K3.out.toExt) hkl
          obtain ⟨x, hx⟩ : ∃ x, s.rows[k]? = some x := ⟨_, List.getElem?_eq_getElem hkl⟩
          have hx' : s.rows[k] = x := by rw [List.getElem?_eq_getElem hkl] at hx; exact Option.some.inj hx
          rw [hx'] at cl
          subst hA2
          have hkc : (k : Int) < (rc : Int) := by omega
          have HST := hide (any_step (p := fun x : Int => outB x 1 64) hx HB.out)
          have HTR := hide (any_true (p := fun x : Int => outB x 1 64) hx)
          have HKL := hide hkl
          clear hx hx' hkl
          go_wp2_with fail
          (with_reducible refine (within_any _ _ _ _).mono ?_)
          rintro e w5 ⟨rfl, rfl⟩
          clear cl s0 s1 s2 sz
          cases hn : outB x 1 64
          · rw [hn] at HST
            go_wp2_with fail
            go_roundw
            case rel => exact ⟨k + 1, by go_num, HKL.out, HST, by first | trivial | rfl⟩
            case measure => have := HKL.out; simp [intOf]; omega
          · have HE2 := hide (HE.out.trans (if_pos (HTR.out hn)))
            go_wp2_with fail
            go_ret
            exact ⟨by rw [HE2.out]; rfl, K3.out.toExt⟩
        · have hkli : ¬ (k : Int) < (s.rows.length : Int) := by omega
          obtain rfl : k = s.rows.length := by omega
          have hrw := HB.out
          rw [List.take_of_length_le (Nat.le_refl _)] at hrw
          rw [if_neg (by rw [hrw]; exact Bool.false_ne_true)] at HE
          clear hrw hkl HB
          go_wp2_with fail
          (with_reducible refine (within_any _ _ _ _).mono ?_)
          rintro e w5 ⟨rfl, rfl⟩
          cases hq : outB s.queue 0 64
          · rw [hq, if_neg Bool.false_ne_true] at HE
            go_wp2_with fail
            go_ret
            exact ⟨by rw [HE.out]; rfl, K3.out.toExt⟩
          · rw [hq, if_pos rfl] at HE
            go_wp2_with fail
            go_ret
            exact ⟨by rw [HE.out]; rfl, K3.out.toExt⟩
end Go.Proofs.YtdmaephmkfmehaaGreatDoor
namespace Go.Proofs.YtdmaephmkfmehaaGreatDoor
open Go.RowKit Go.Gr Go.Ad
set_option linter.unusedVariables false
set_option linter.unusedSimpArgs false
attribute [local go_sem] rdOp rdAt rdUpon Cls forall_fr
def plC (x : Pl) : List Value := [.int .i64 (x.sec : Nat), .int .i64 (x.row : Nat), .int .i64 (x.seat : Nat)]
def plV (l : List Pl) : List (List Value) := l.map plC
theorem plV_len (l : List Pl) : (plV l).length = l.length := by simp [plV]
theorem plV_append (l m : List Pl) : plV (l ++ m) = plV l ++ plV m := by simp [plV]
theorem plV_at {l : List Pl} {i : Nat} {r : Pl} (h : l[i]? = some r) : (plV l)[i]? = some (plC r) := by simp [plV, h]
theorem infoP : (Tryz.prog.info? 86).map (fun i => (i.zero, i.size, i.bytes)) = some (some (.agg #[.int .i64 0, .int .i64 0, .int .i64 0]), 3, 24) := by kernel_rfl
theorem plL_append (l m : List RowI) : plL (l ++ m) = plL l ++ plL m := by simp [plL]
theorem range_snoc (n : Nat) : List.range (n + 1) = List.range n ++ [n] := List.range_succ
theorem p3_one (a b c : Int) : ∀ v ∈ ([.int .i64 a, .int .i64 b, .int .i64 c] : List Value), v.oneCell' = true := by
  intro v hv
  simp only [List.mem_cons, List.not_mem_nil, or_false] at hv
  rcases hv with rfl | rfl | rfl <;> rfl
def sc0 : Sc := ⟨⟨#[]⟩, [], 0⟩
/-- the places of a part: sections, rows of the next, seats of the next -/
def plP (v : Vn) (i k n : Nat) (s : Sc) : List Pl := plL (rl 0 0 (v.secs.take i)) ++ plL (rlSec i 0 (fst0 v.secs i) (s.rowsN.take k)) ++ (List.range n).map fun q => ⟨i, k, q⟩
theorem plL_sec_app (i : Nat) : ∀ (l1 l2 : List Nat) (k a : Nat), rlSec i k a (l1 ++ l2) = rlSec i k a l1 ++ rlSec i (k + l1.length) (a + l1.sum) l2
  | [], l2, k, a => by simp [rlSec]
  | n :: l1, l2, k, a => by
    rw [List.cons_append, rlSec, rlSec, plL_sec_app i l1 l2, List.length_cons, List.sum_cons, show k + 1 + l1.length = k + (l1.length + 1) by omega, Nat.add_assoc]; rfl
theorem plP_seat (v : Vn) (i k n : Nat) (s : Sc) : plP v i k (n + 1) s = plP v i k n s ++ [⟨i, k, n⟩] := by
  unfold plP; rw [range_snoc, List.map_append, List.map_singleton, List.append_assoc _ (List.map _ _)]
theorem plP_row {v : Vn} {i k n : Nat} {s : Sc} (h : s.rowsN[k]? = some n) : plP v i k n s = plP v i (k + 1) 0 s := by
  have hk : k < s.rowsN.length := (List.getElem?_eq_some_iff.1 h).1
  unfold plP
  rw [take_next1 h, plL_sec_app, plL_append, List.range_zero, List.map_nil, List.append_nil, List.length_take, Nat.min_eq_left (by omega), Nat.zero_add, List.append_assoc]
  congr 1
  simp [rlSec, plL, plR]
theorem plP_sec {v : Vn} {i : Nat} {s s' : Sc} (h : v.secs[i]? = some s) : plP v i s.rowsN.length 0 s = plP v (i + 1) 0 0 s' := by
  unfold plP
  rw [List.range_zero, List.map_nil, List.append_nil, List.map_nil, List.append_nil, List.take_of_length_le (Nat.le_refl _), List.take_zero, rl_take h, plL_append]
  simp [rlSec, plL]
theorem plP_start (v : Vn) (s : Sc) : plP v 0 0 0 s = [] := by simp [plP, rl, rlSec, plL]
theorem plP_end (v : Vn) (s : Sc) : plP v v.secs.length 0 0 s = places v := by
  unfold plP places; rw [List.take_of_length_le (Nat.le_refl _)]; simp [rlSec, plL]
theorem plP_len_le {v : Vn} (h : ∀ s ∈ v.secs, ScOk s) (hl : v.secs.length ≤ 8) {i k n : Nat} {s : Sc} (hs : v.secs[i]? = some s) (hn : n ≤ 64) : (plP v i k n s).length ≤ 9300 := by
  unfold plP
  rw [List.length_append, List.length_append, plL_len, plL_len, sumR_rl, sumR_sec, List.length_map, List.length_range]
  have h1 := sumS_le (l := v.secs.take i) fun x hx => h x (List.mem_of_mem_take hx)
  have h2 : (v.secs.take i).length ≤ 8 := by rw [List.length_take]; omega
  have h3 := Nat.mul_le_mul_right 1024 h2
  have h4 := sum_take_le s.rowsN k
  have h5 := sc_sum (h s (List.mem_of_getElem? hs))
  unfold Sc.sum at h5
  omega
set_option maxRecDepth 100000 in
set_option maxHeartbeats 8000000 in
theorem ref_places (v : Vn) (A : Option Addr) (c : Nat) (w : World) (h : Secs w A v.secs) (hc : v.secs.length ≤ c) (hl : v.secs.length ≤ 8) (hs : ∀ s ∈ v.secs, ScOk s) :
    Calls Tryz.prog 70 #[.agg #[.int .i64 v.sh, .int .i64 v.ttl, .int .i64 v.ses, .slice A v.secs.length c]] w fun e w' => ∃ v', e = .returned v' ∧ Sep No w w' [As.ownM 86 3 v' (plV (places v))] := by
  obtain ⟨i0, ki, kz0, kz1, kz2⟩ := info_parts infoP
  have HS := hide (fun (y : World) (k : Ext w y) => h.ext k)
  have HC := hide hc
  have H8 := hide hl
  have HO := hide hs
  clear h hc hl hs
  have K0 := (Sep.refl No w).add 24 [.int .i64 v.sh, .int .i64 v.ttl, .int .i64 v.ses, .slice A v.secs.length c]
  go_enter Tryz.func70, Tryz.ntmps70
  go_upto_region 1 with fail
  generalize w.alloc _ = w1 at K0 ⊢
  generalize w.heap.size = g1 at K0 ⊢
  have K1 := hide (K0.nilM 86 3)
  clear K0
  go_wp2_with fail
  go_loopw [3, 4] (fun v3 v4 wr => ∃ (i : Nat) (vo : Value), v4 = .int .i64 i ∧ v3 = vo ∧ i ≤ v.secs.length ∧ Hid (Sep No w wr [As.ownM 86 3 vo (plV (plP v i 0 0 sc0)), As.blk g1 24 [.int .i64 v.sh, .int .i64 v.ttl, .int .i64 v.ses, .slice A v.secs.length c]])) (fun _ v4 _ => v.secs.length - (intOf v4).toNat)
  case atStart => exact ⟨0, _, rfl, rfl, by omega, by rw [plP_start]; exact K1⟩
  case round =>
    obtain ⟨i, vo, rfl, rfl, hi, K2⟩ := hrel
    clear K1
    have hi8 : i ≤ 8 := by have := H8.out; omega
    obtain ⟨c0, c1, c2, c3, cz⟩ := blk4 (K2.out.blk (g := g1) (e := 24) (List.Mem.tail _ (List.Mem.head _)))
    by_cases hlt : i < v.secs.length
    · have hli : (i : Int) < (v.secs.length : Int) := by omega
      obtain ⟨s, hs⟩ : ∃ s, v.secs[i]? = some s := ⟨_, List.getElem?_eq_getElem hlt⟩
      obtain ⟨b, off, R, d, hA, h5w, hRw, hd⟩ := HS.out _ (Ext.refl w) i _ hs
      have H5 := hide (fun (y : World) (k : Ext w y) => h5w.ext k)
      have HR := hide (fun (y : World) (k : Ext w y) => hRw.ext k)
      have hic : (i : Int) < (c : Int) := by have := HC.out; omega
      have HSO := hide (HO.out s (List.mem_of_getElem? hs))
      have HSI := hide hs
      have HLT := hide hlt
      clear h5w hRw hs hlt
      have K3 : Hid (Sep No w wr [As.ownM 86 3 u3 (plV (plP v i 0 0 s)), As.blk g1 24 [.int .i64 v.sh, .int .i64 v.ttl, .int .i64 v.ses, .slice A v.secs.length c]]) := hide (by
        have := K2.out
        rw [show plP v i 0 0 sc0 = plP v i 0 0 s by simp [plP]] at this; exact this)
      clear K2
      subst hA
      go_wp2_with fail
      clear c0 c1 c2 c3 cz
      go_loopw [3, 5] (fun v3 v5 wr => ∃ (k : Nat) (vo : Value), v5 = .int .i64 k ∧ v3 = vo ∧ k ≤ s.rows.length ∧ Hid (Sep No w wr [As.ownM 86 3 vo (plV (plP v i k 0 s)), As.blk g1 24 [.int .i64 v.sh, .int .i64 v.ttl, .int .i64 v.ses, .slice (some ⟨b, off, none⟩) v.secs.length c]])) (fun _ v5 _ => s.rows.length - (intOf v5).toNat)
      case atStart => exact ⟨0, _, rfl, rfl, by omega, K3⟩
      case round =>
        obtain ⟨k, vo, rfl, rfl, hk, K4⟩ := hrel
        clear K3
        have hkb : k ≤ 16 := by have := HSO.out.few; omega
        obtain ⟨c0, c1, c2, c3, cz⟩ := blk4 (K4.out.blk (g := g1) (e := 24) (List.Mem.tail _ (List.Mem.head _)))
        obtain ⟨d0, d1, d2⟩ := at5_3 (H5.out _ K4.out.toExt)
        by_cases hkl : k < s.rows.length
        · have hkli : (k : Int) < (s.rows.length : Int) := by omega
          obtain ⟨x, hx⟩ : ∃ x, s.rows[k]? = some x := ⟨_, List.getElem?_eq_getElem hkl⟩
          have hx' : s.rows[k] = x := by rw [List.getElem?_eq_getElem hkl] at hx; exact Option.some.inj hx
          have hxr := HSO.out.row x (List.mem_of_getElem? hx)
          obtain ⟨n, rfl⟩ : ∃ n : Nat, x = n := ⟨x.toNat, by omega⟩
          have hrn := rowsN_get hx
          rw [Int.toNat_natCast] at hrn
          have HRN := hide hrn
          have hn64 : n ≤ 64 := by omega
          have hdc : (k : Int) < (d : Int) := by omega
          have HKL := hide hkl
          have HCL : Hid (∀ y, Ext w y → ∃ ad, R = some ad ∧ y.cell? (ad.add k) = some (.int .i64 (n : Nat))) := hide (fun y e => by
            obtain ⟨ad, h1, h2⟩ := i64s_at (HR.out y e) HKL.out
            rw [hx'] at h2
            exact ⟨ad, h1, h2⟩)
          obtain ⟨ad, hRA, _⟩ := HCL.out w (Ext.refl w)
          subst hRA
          clear hx hx' hxr hrn hkl
          go_wp2_with fail
          clear c0 c1 c2 c3 cz d0 d1 d2
          go_loopw [3, 6] (fun v3 v6 wr => ∃ (q : Nat) (vo : Value), v6 = .int .i64 q ∧ v3 = vo ∧ q ≤ n ∧ Hid (Sep No w wr [As.ownM 86 3 vo (plV (plP v i k q s)), As.blk g1 24 [.int .i64 v.sh, .int .i64 v.ttl, .int .i64 v.ses, .slice (some ⟨b, off, none⟩) v.secs.length c]])) (fun _ v6 _ => n - (intOf v6).toNat)
          case atStart => exact ⟨0, _, rfl, rfl, by omega, K4⟩
          case round =>
            obtain ⟨q, vo, rfl, rfl, hq, K5⟩ := hrel
            clear K4
            obtain ⟨c0, c1, c2, c3, cz⟩ := blk4 (K5.out.blk (g := g1) (e := 24) (List.Mem.tail _ (List.Mem.head _)))
            obtain ⟨d0, d1, d2⟩ := at5_3 (H5.out _ K5.out.toExt)
            obtain ⟨ad', ha', cl⟩ := HCL.out _ K5.out.toExt
            cases ha'
            by_cases hqn : q < n
            · have hqi : (q : Int) < (n : Int) := by omega
              have HMANY : Hid ((plV (plP v i k q s)).length < 100000) := hide (by
                rw [plV_len]
                have := plP_len_le (k := k) (n := q) HO.out H8.out HSI.out (by omega)
                omega)
              have HQ := hide hqn
              have HPS := hide (plP_seat v i k q s)
              have tok1 : True := trivial
              clear hqn
              go_wp2_with (have zz := tok1; clear zz tok1; refine wpList_pushM [] K5.out rfl (.tmp 38) (.tmp 43) 140 rfl i0 _ 24 Tryz.underlying140 ki kz0 kz1 kz2 rfl (by decide) rfl rfl (r := [.int .i64 (i : Nat), .int .i64 (k : Nat), .int .i64 (q : Nat)]) rfl (p3_one _ _ _) HMANY.out (by decide) ?_; intro v7 w7 K7; dsimp only [List.nil_append, List.cons_append] at K7)
              clear c0 c1 c2 c3 cz d0 d1 d2 cl
              go_roundw
              case rel =>
                refine ⟨q + 1, _, by go_num, rfl, HQ.out, hide ?_⟩
                rw [HPS.out, plV_append]
                exact K7
              case measure => have := HQ.out; simp [intOf]; omega
            · have hqi : ¬ (q : Int) < (n : Int) := by omega
              obtain rfl : q = n := by omega
              have HPR := hide (plP_row (v := v) (i := i) HRN.out)
              clear hqn
              go_wp2_with fail
              clear c0 c1 c2 c3 cz d0 d1 d2 cl
              go_roundw
              case rel =>
                refine ⟨k + 1, _, by go_num, rfl, HKL.out, hide ?_⟩
                rw [← HPR.out]
                exact K5.out
              case measure => have := HKL.out; simp [intOf]; omega
        · have hkli : ¬ (k : Int) < (s.rows.length : Int) := by omega
          obtain rfl : k = s.rows.length := by omega
          have HPC := hide (plP_sec (s' := sc0) HSI.out)
          have hrl : s.rowsN.length = s.rows.length := by unfold Sc.rowsN; rw [List.length_map]
          rw [hrl] at HPC
          clear hrl hkl
          go_wp2_with fail
          clear c0 c1 c2 c3 cz d0 d1 d2
          go_roundw
          case rel =>
            refine ⟨i + 1, _, by go_num, rfl, HLT.out, hide ?_⟩
            rw [← HPC.out]
            exact K4.out
          case measure => have := HLT.out; simp [intOf]; omega
    · have hli : ¬ (i : Int) < (v.secs.length : Int) := by omega
      obtain rfl : i = v.secs.length := by omega
      go_wp2_with fail
      go_ret
      refine ⟨_, rfl, ?_⟩
      have := K2.out.sub (List.Sublist.cons_cons _ (List.nil_sublist _))
      rwa [plP_end] at this
end Go.Proofs.YtdmaephmkfmehaaGreatDoor
namespace Go.Proofs.YtdmaephmkfmehaaGreatDoor
open Go.RowKit Go.Gr Go.Ad
set_option linter.unusedVariables false
set_option linter.unusedSimpArgs false
attribute [local go_sem] rdOp rdAt rdUpon Cls forall_fr
theorem nilM_form' {w0 w : World} {v : Value} {rows : List (List Value)} {L : List As} {e : TypeId} {k : Nat} (h : Sep No w0 w (As.ownM e k v rows :: L)) : ∃ B c, v = .slice B rows.length c ∧ rows.length ≤ c := by
  obtain ⟨B, c, e, _, hc, _⟩ := (h.ownsM (List.Mem.head _)).form
  exact ⟨B, c, e, hc⟩
set_option maxRecDepth 100000 in
set_option maxHeartbeats 8000000 in
theorem ref_check (v : Vn) (A : Option Addr) (c : Nat) (w : World) (h : Secs w A v.secs) (hc : v.secs.length ≤ c) (hw : VnW v) :
    Calls Tryz.prog 42 #[.agg #[.int .i64 v.sh, .int .i64 v.ttl, .int .i64 v.ses, .slice A v.secs.length c]] w fun e w' => e = .returned (.tuple #[.int .i64 (chk v).1, .int .i64 (chk v).2]) ∧ Ext w w' := by
  have HS := hide (fun (y : World) (k : Ext w y) => h.ext k)
  have HC := hide hc
  have HW := hide hw
  clear h hc hw
  have K0 := (Sep.refl No w).add 24 [.int .i64 v.sh, .int .i64 v.ttl, .int .i64 v.ses, .slice A v.secs.length c]
  go_enter Tryz.func42, Tryz.ntmps42
  go_upto_region 1 with fail
  generalize w.alloc _ = w1 at K0 ⊢
  generalize w.heap.size = g1 at K0 ⊢
  obtain ⟨c0, c1, c2, c3, cz⟩ := blk4 (K0.blk (List.Mem.head _))
  have KK := hide K0
  clear K0
  go_wp2_with fail
  (with_reducible refine (within_any _ _ _ _).mono ?_)
  rintro e w2 ⟨rfl, rfl⟩
  cases h1 : outB v.sh 1 16
  rotate_left
  · have HE := hide (chk_head (v := v) (by unfold headE; rw [h1]; simp))
    go_wp2_with fail
    refine bodyPost_ret (results_tmp2 rfl _ _ _) rfl ?_
    exact ⟨by rw [HE.out]; rfl, KK.out.toExt⟩
  go_wp2_with fail
  (with_reducible refine (within_any _ _ _ _).mono ?_)
  rintro e w3 ⟨rfl, rfl⟩
  cases h2 : outB v.ttl 1 1000000000
  rotate_left
  · have HE := hide (chk_head (v := v) (by unfold headE; rw [h1, h2]; simp))
    go_wp2_with fail
    refine bodyPost_ret (results_tmp2 rfl _ _ _) rfl ?_
    exact ⟨by rw [HE.out]; rfl, KK.out.toExt⟩
  go_wp2_with fail
  (with_reducible refine (within_any _ _ _ _).mono ?_)
  rintro e w4 ⟨rfl, rfl⟩
  cases h3 : outB v.ses 1 1000000000
  rotate_left
  · have HE := hide (chk_head (v := v) (by unfold headE; rw [h1, h2, h3]; simp))
    go_wp2_with fail
    refine bodyPost_ret (results_tmp2 rfl _ _ _) rfl ?_
    exact ⟨by rw [HE.out]; rfl, KK.out.toExt⟩
  have HH : Hid (headE v = false) := hide (by unfold headE; rw [h1, h2, h3]; rfl)
  clear h1 h2 h3
  by_cases h0 : v.secs.length = 0
  · have e1 : ((v.secs.length : Int) == 0) = true := by rw [h0]; rfl
    have HE := hide (chk_empty HH.out h0)
    clear h0
    go_wp2_with fail
    refine bodyPost_ret (results_tmp2 rfl _ _ _) rfl ?_
    exact ⟨by rw [HE.out]; rfl, KK.out.toExt⟩
  have e1 : ((v.secs.length : Int) == 0) = false := beq_eq_false_iff_ne.2 (by omega)
  by_cases h8 : 8 < v.secs.length
  · have e2 : (8 : Int) < (v.secs.length : Int) := by omega
    have HE := hide (chk_many HH.out h0 h8)
    clear h0 h8
    go_wp2_with fail
    refine bodyPost_ret (results_tmp2 rfl _ _ _) rfl ?_
    exact ⟨by rw [HE.out]; rfl, KK.out.toExt⟩
  have e2 : ¬ (8 : Int) < (v.secs.length : Int) := by omega
  have HE := hide (chk_go HH.out h0 h8)
  have H8 : Hid (v.secs.length ≤ 8) := hide (by omega)
  clear h0 h8 HH
  go_wp2_with fail
  clear c0 c1 c2 c3 cz
  go_loopw [4] (fun v4 wr => ∃ i : Nat, v4 = .int .i64 i ∧ i ≤ v.secs.length ∧ Hid (∀ s ∈ v.secs.take i, ScOk s) ∧ Hid (secsGo (v.secs.take i) (v.secs.drop i) = secsGo [] v.secs) ∧ Hid (Sep No w wr [As.blk g1 24 [.int .i64 v.sh, .int .i64 v.ttl, .int .i64 v.ses, .slice A v.secs.length c]])) (fun v4 _ => v.secs.length - (intOf v4).toNat)
  case atStart => exact ⟨0, rfl, by omega, hide (by simp), hide rfl, KK⟩
  case round =>
    obtain ⟨i, rfl, hi, HO, HG, K1⟩ := hrel
    clear KK
    have hi8 : i ≤ 8 := by have := H8.out; omega
    obtain ⟨c0, c1, c2, c3, cz⟩ := blk4 (K1.out.blk (List.Mem.head _))
    by_cases hlt : i < v.secs.length
    · have hli : (i : Int) < (v.secs.length : Int) := by omega
      obtain ⟨s, hs⟩ : ∃ s, v.secs[i]? = some s := ⟨_, List.getElem?_eq_getElem hlt⟩
      have HSI := hide hs
      have HLT := hide hlt
      have HSE := hide (ref_section v A c i s wr (HS.out _ K1.out.toExt) HC.out (by have := H8.out; omega) HW.out hs)
      clear hs hlt
      go_wp2_with fail
      (with_reducible refine HSE.out.mono ?_)
      rintro e w5 ⟨rfl, hx⟩
      have K2 := hide (K1.out.ext hx)
      clear c0 c1 c2 c3 cz hx HSE K1
      by_cases he : secE (v.secs.take i) s = 0
      · have HST := hide (go_step HSI.out he)
        have HO2 := hide (take_all HSI.out HO.out (secE_zero he))
        rw [he]
        go_wp2_with fail
        go_roundw
        case rel => exact ⟨i + 1, by go_num, HLT.out, HO2, hide (HST.out.symm.trans HG.out), K2⟩
        case measure => have := HLT.out; simp [intOf]; omega
      · have HSP := hide (go_stop HSI.out he)
        have e3 : (secE (v.secs.take i) s != 0) = true := bne_iff_ne.2 he
        have HE2 : Hid (chk v = ((i : Int), secE (v.secs.take i) s)) := hide (by rw [HE.out, ← HG.out, HSP.out])
        clear he
        go_wp2_with fail
        refine bodyPost_ret (results_tmp2 rfl _ _ _) rfl ?_
        exact ⟨by rw [HE2.out]; rfl, K2.out.toExt⟩
    · obtain rfl : i = v.secs.length := by omega
      have hli : ¬ (v.secs.length : Int) < (v.secs.length : Int) := by omega
      have HG2 : Hid (secsGo [] v.secs = none) := hide (by rw [← HG.out, List.drop_of_length_le (Nat.le_refl _)]; rfl)
      have HO2 : Hid (∀ s ∈ v.secs, ScOk s) := hide (by have := HO.out; rwa [List.take_of_length_le (Nat.le_refl _)] at this)
      have HP := hide (ref_places v A c wr (HS.out _ K1.out.toExt) HC.out H8.out HO2.out)
      clear hlt HO
      go_wp2_with fail
      (with_reducible refine HP.out.mono ?_)
      rintro e w5 ⟨v', rfl, hS⟩
      have hx := hS.toExt
      obtain ⟨B, bc, rfl, _⟩ := nilM_form' hS
      rw [plV_len, places_len]
      have K2 := hide (K1.out.ext hx)
      clear hS hx HP K1 c0 c1 c2 c3 cz
      by_cases h4 : 4096 < sumS v.secs
      · have e3 : (4096 : Int) < ((sumS v.secs : Nat) : Int) := by omega
        have HE2 : Hid (chk v = (-1, 3)) := hide (by rw [HE.out, HG2.out]; show (if 4096 < sumS v.secs then _ else _) = _; rw [if_pos h4])
        clear h4
        go_wp2_with fail
        refine bodyPost_ret (results_tmp2 rfl _ _ _) rfl ?_
        exact ⟨by rw [HE2.out]; rfl, K2.out.toExt⟩
      · have e3 : ¬ (4096 : Int) < ((sumS v.secs : Nat) : Int) := by omega
        have HE2 : Hid (chk v = (0, 0)) := hide (by rw [HE.out, HG2.out]; show (if 4096 < sumS v.secs then _ else _) = _; rw [if_neg h4])
        clear h4
        go_wp2_with fail
        refine bodyPost_ret (results_tmp2 rfl _ _ _) rfl ?_
        exact ⟨by rw [HE2.out]; rfl, K2.out.toExt⟩
end Go.Proofs.YtdmaephmkfmehaaGreatDoor
namespace Go.Ad
/-- the seats among places that are asked for: the first one, how many -/
def sgo (p : Pl → Bool) : Nat → Nat × Nat → List Pl → Nat × Nat
  | _, st, [] => st
  | i, st, x :: l => sgo p (i + 1) (if p x = true then (if st.2 = 0 then i else st.1, st.2 + 1) else st) l
theorem sgo_app (p : Pl → Bool) : ∀ (l m : List Pl) (i : Nat) (st : Nat × Nat), sgo p i st (l ++ m) = sgo p (i + l.length) (sgo p i st l) m
  | [], m, i, st => rfl
  | x :: l, m, i, st => by
    rw [List.cons_append, sgo, sgo_app p l m, sgo, List.length_cons, show i + 1 + l.length = i + (l.length + 1) by omega]
theorem sgo_all {p : Pl → Bool} : ∀ (l : List Pl) (i : Nat) (st : Nat × Nat), (∀ x ∈ l, p x = true) → 0 < l.length → sgo p i st l = (if st.2 = 0 then i else st.1, st.2 + l.length)
  | [], i, st, _, h => by cases h
  | [x], i, st, h, _ => by rw [sgo, if_pos (h x (by simp)), sgo]; rfl
  | x :: y :: l, i, st, h, _ => by
    rw [sgo, if_pos (h x (by simp)), sgo_all (y :: l) _ _ (fun z hz => h z (by simp [List.mem_cons.1 hz])) (by simp)]
    simp only [List.length_cons]
    rw [if_neg (by omega), show st.2 + 1 + (l.length + 1) = st.2 + (l.length + 1 + 1) by omega]
theorem sgo_non {p : Pl → Bool} : ∀ (l : List Pl) (i : Nat) (st : Nat × Nat), (∀ x ∈ l, p x = false) → sgo p i st l = st
  | [], i, st, _ => rfl
  | x :: l, i, st, h => by
    rw [sgo, if_neg (by rw [h x (by simp)]; exact Bool.false_ne_true), sgo_non l _ _ fun z hz => h z (by simp [hz])]
theorem sgo_rows {p : Pl → Bool} {q : Nat → Nat → Bool} (hpq : ∀ i k n, p ⟨i, k, n⟩ = q i k) : ∀ (l : List RowI) (a : Nat) (st : Nat × Nat), Chain a l → (∀ R ∈ l, 0 < R.many) → sgo p a st (plL l) = l.foldl (gOf q) st
  | [], a, st, _, _ => rfl
  | R :: l, a, st, ⟨h1, h2⟩, hp => by
    rw [plL_cons, sgo_app, plR_len, List.foldl_cons, sgo_rows hpq l (a + R.many) _ h2 fun x hx => hp x (by simp [hx])]
    congr 1
    have hm := hp R (by simp)
    unfold gOf
    cases hq : q R.sec R.row
    · rw [sgo_non _ _ _ (by
        intro x hx
        obtain ⟨n, _, rfl⟩ := List.mem_map.1 hx
        rw [hpq, hq])]
      rfl
    · rw [sgo_all _ _ _ (by
        intro x hx
        obtain ⟨n, _, rfl⟩ := List.mem_map.1 hx
        rw [hpq, hq]) (by rw [plR_len]; exact hm), plR_len, h1]
      rfl
theorem rl_pos {ss : List Sc} (h : ∀ s ∈ ss, ScOk s) : ∀ R ∈ rl 0 0 ss, 0 < R.many := by
  intro R hR
  obtain ⟨j, s, h1, h2⟩ := rl_inv hR
  obtain ⟨q, n, h3, rfl⟩ := rlSec_inv h2
  have hn := List.mem_of_getElem? h3
  obtain ⟨x, hx, rfl⟩ := List.mem_map.1 hn
  have := (h s (List.mem_of_getElem? h1)).row x hx
  show 0 < x.toNat; omega
def pS (s r : Int) (x : Pl) : Bool := ((x.sec : Int) == s) && ((r == -1) || ((x.row : Int) == r))
def someE (v : Vn) (s r : Int) : Int × Int × Int :=
  if (chk v).2 ≠ 0 then (0, 0, (chk v).2) else if (sgo (pS s r) 0 (0, 0) (places v)).2 = 0 then (0, 0, 4) else ((((sgo (pS s r) 0 (0, 0) (places v)).1 : Nat) : Int), (((sgo (pS s r) 0 (0, 0) (places v)).2 : Nat) : Int), (0 : Int))
theorem some_row {v : Vn} {j q n : Nat} {s : Sc} (hok : VnOk v) (hz : (chk v).2 = 0) (hs : v.secs[j]? = some s) (hn : s.rowsN[q]? = some n) : someE v j q = (((fst0 v.secs j + (s.rowsN.take q).sum : Nat) : Int), ((n : Nat) : Int), (0 : Int)) := by
  have h1 : sgo (pS j q) 0 (0, 0) (places v) = (fst0 v.secs j + (s.rowsN.take q).sum, n) := by
    rw [places, sgo_rows (q := fun i k => decide (i = j) && decide (k = q)) (fun i k n => ?_) _ _ _ (chain_rl v.secs 0 0) (rl_pos hok.sec), of_row hs hn]
    unfold pS
    rw [show (((q : Nat) : Int) == -1) = false from beq_eq_false_iff_ne.2 (by omega), Bool.false_or]
    congr 1
    · rw [Bool.eq_iff_iff]; simp; omega
    · rw [Bool.eq_iff_iff]; simp; omega
  have hp : 0 < n := by
    obtain ⟨x, hx, rfl⟩ := List.mem_map.1 (List.mem_of_getElem? hn)
    have := (hok.sec s (List.mem_of_getElem? hs)).row x hx
    omega
  unfold someE
  rw [if_neg (by simpa using hz), h1, if_neg (by show n ≠ 0; omega)]
theorem sgo_step {p : Pl → Bool} {l : List Pl} {i : Nat} {x : Pl} (h : l[i]? = some x) : sgo p 0 (0, 0) (l.take (i + 1)) = if p x = true then (if (sgo p 0 (0, 0) (l.take i)).2 = 0 then i else (sgo p 0 (0, 0) (l.take i)).1, (sgo p 0 (0, 0) (l.take i)).2 + 1) else sgo p 0 (0, 0) (l.take i) := by
  have hi := (List.getElem?_eq_some_iff.1 h).1
  rw [List.take_add_one, h, Option.toList_some, sgo_app, List.length_take, Nat.min_eq_left (by omega), Nat.zero_add]
  rfl
theorem sgo_le (p : Pl → Bool) : ∀ (l : List Pl) (i : Nat) (st : Nat × Nat), (sgo p i st l).1 ≤ max st.1 (i + l.length) ∧ (sgo p i st l).2 ≤ st.2 + l.length
  | [], i, st => ⟨by show st.1 ≤ _; omega, Nat.le_refl _⟩
  | x :: l, i, st => by
    rw [sgo, List.length_cons]
    have := sgo_le p l (i + 1) (if p x = true then (if st.2 = 0 then i else st.1, st.2 + 1) else st)
    revert this
    split
    · split <;> (intro this; simp only at this; omega)
    · intro this; omega
end Go.Ad
namespace Go.Proofs.YtdmaephmkfmehaaGreatDoor
open Go.RowKit Go.Gr Go.Ad
set_option linter.unusedVariables false
set_option linter.unusedSimpArgs false
attribute [local go_sem] rdOp rdAt rdUpon Cls forall_fr
theorem results_tmp3 {fn : Func} {t u x : Tmp} (h : fn.results = #[.tmp t, .tmp u, .tmp x]) (tmps : Array Value) (P : Program) (w : World) :
    (results fn tmps).run P w = .ok (.tuple #[tmps.getD t undef, tmps.getD u undef, tmps.getD x undef]) w := by
  simp [results, h]
theorem someE_of {v : Vn} (hok : VnOk v) (hz : (chk v).2 = 0) (s : Int) : someE v s (-1) = ofE v s := by
  have h1 : sgo (pS s (-1)) 0 (0, 0) (places v) = (rl 0 0 v.secs).foldl (gOf fun i _ => decide ((i : Int) = s)) (0, 0) := by
    rw [places, sgo_rows (q := fun i _ => decide ((i : Int) = s)) (fun i k n => ?_) _ _ _ (chain_rl v.secs 0 0) (rl_pos hok.sec)]
    unfold pS
    simp only [show ((-1 : Int) == -1) = true from rfl, Bool.true_or, Bool.and_true]
    rw [Bool.eq_iff_iff]; simp
  unfold someE
  rw [if_neg (by simpa using hz), h1]
  split
  · rename_i h0; rw [of_bad hok hz s h0]
  · rename_i h0; rw [of_ok hok hz s h0]
/-- where a place of a list lies -/
theorem own_pl {w0 w : World} {v : Value} {l : List Pl} {L : List As} {i : Nat} {r : Pl} (h : Sep No w0 w L) (hm : As.ownM 86 3 v (plV l) ∈ L) (hr : l[i]? = some r) :
    ∃ g c, v = .slice (some ⟨g, 0, none⟩) l.length c ∧ l.length ≤ c ∧ w.cell? ⟨g, i * 3, none⟩ = some (.int .i64 (r.sec : Nat)) ∧ w.cell? ⟨g, i * 3 + 1, none⟩ = some (.int .i64 (r.row : Nat)) ∧ w.cell? ⟨g, i * 3 + 2, none⟩ = some (.int .i64 (r.seat : Nat)) := by
  obtain ⟨g, c, e, hc, h5⟩ := (h.ownsM hm).at5 (by decide) (plV_at hr)
  rw [plV_len] at e hc
  obtain ⟨a, b, d⟩ := at5_3 h5
  exact ⟨g, c, e, hc, a, b, d⟩
set_option maxRecDepth 100000 in
set_option maxHeartbeats 8000000 in
theorem ref_seats (v : Vn) (A : Option Addr) (c : Nat) (w : World) (h : Secs w A v.secs) (hc : v.secs.length ≤ c) (hw : VnW v) :
    Calls Tryz.prog 39 #[.agg #[.int .i64 v.sh, .int .i64 v.ttl, .int .i64 v.ses, .slice A v.secs.length c]] w fun e w' => e = .returned (.tuple #[.int .i64 (seatsE v).1, .int .i64 (seatsE v).2]) ∧ Ext w w' := by
  have HCK := hide (fun (y : World) (k : Ext w y) => ref_check v A c y (h.ext k) hc hw)
  have HP := hide (fun (y : World) (k : Ext w y) (hok : VnOk v) => ref_places v A c y (h.ext k) hc hok.few hok.sec)
  clear h hc hw
  have K0 := hide ((Sep.refl No w).add 24 [.int .i64 v.sh, .int .i64 v.ttl, .int .i64 v.ses, .slice A v.secs.length c])
  go_enter Tryz.func39, Tryz.ntmps39
  go_wp2_with fail
  (with_reducible refine (HCK.out _ K0.out.toExt).mono ?_)
  rintro e w1 ⟨rfl, hx⟩
  have K1 := hide (K0.out.ext hx)
  clear K0 hx HCK
  obtain ⟨c0, c1, c2, c3, cz⟩ := blk4 (K1.out.blk (List.Mem.head _))
  by_cases hq : (chk v).2 = 0
  rotate_left
  · have HE : Hid (seatsE v = (0, (chk v).2)) := hide (by unfold seatsE; rw [if_neg hq])
    have e1 : ((chk v).2 != 0) = true := bne_iff_ne.2 hq
    clear hq
    go_wp2_with fail
    refine bodyPost_ret (results_tmp2 rfl _ _ _) rfl ?_
    exact ⟨by rw [HE.out]; rfl, K1.out.toExt⟩
  have HE : Hid (seatsE v = (((sumS v.secs : Nat) : Int), (0 : Int))) := hide (by unfold seatsE; rw [if_pos hq])
  have HPP := hide (HP.out w1 K1.out.toExt (chk_zero hq).1)
  rw [hq]
  clear hq
  go_wp2_with fail
  (with_reducible refine HPP.out.mono ?_)
  rintro e w2 ⟨v', rfl, hS⟩
  have hx := hS.toExt
  obtain ⟨B, bc, rfl, _⟩ := nilM_form' hS
  rw [plV_len, places_len]
  have K2 := hide (K1.out.ext hx)
  clear hS hx HPP K1 c0 c1 c2 c3 cz
  go_wp2_with fail
  refine bodyPost_ret (results_tmp2 rfl _ _ _) rfl ?_
  exact ⟨by rw [HE.out]; rfl, K2.out.toExt⟩
end Go.Proofs.YtdmaephmkfmehaaGreatDoor
namespace Go.Proofs.YtdmaephmkfmehaaGreatDoor
open Go.RowKit Go.Gr Go.Ad
set_option linter.unusedVariables false
set_option linter.unusedSimpArgs false
attribute [local go_sem] rdOp rdAt rdUpon Cls forall_fr
def IsB (e : Ending) : Prop := ∃ b, e = .returned (.bool b)
set_option maxRecDepth 100000 in
set_option maxHeartbeats 8000000 in
theorem far15 (v : Vn) (A : Option Addr) (c : Nat) (w : World) (h : Secs w A v.secs) (hc : v.secs.length ≤ c) (hw : VnW v) :
    Calls Tryz.prog 19 #[.agg #[.int .i64 v.sh, .int .i64 v.ttl, .int .i64 v.ses, .slice A v.secs.length c]] w fun e w' => IsB e ∧ Ext w w' := by
  have HS := hide (fun (y : World) (k : Ext w y) => h.ext k)
  have HW := hide hw
  have hmx := hw.secs
  clear h hw
  have K0 := hide ((Sep.refl No w).add 24 [.int .i64 v.sh, .int .i64 v.ttl, .int .i64 v.ses, .slice A v.secs.length c])
  go_enter Tryz.func19, Tryz.ntmps19
  go_upto_region 1 with fail
  generalize w.alloc _ = w1 at K0 ⊢
  generalize w.heap.size = g0 at K0 ⊢
  obtain ⟨c0, c1, c2, c3, cz⟩ := blk4 (K0.out.blk (List.Mem.head _))
  by_cases h10 : 10 < v.secs.length
  · have e1 : (10 : Int) < (v.secs.length : Int) := by omega
    clear h10
    go_wp2_with fail
    go_ret
    exact ⟨⟨_, rfl⟩, K0.out.toExt⟩
  have e1 : ¬ (10 : Int) < (v.secs.length : Int) := by omega
  have H10 : Hid (v.secs.length ≤ 10) := hide (by omega)
  clear h10 hmx
  go_wp2_with fail
  clear c0 c1 c2 c3 cz
  go_loopw [3, 4] (fun v3 v4 wr => ∃ (i : Nat) (n : Int), v4 = .int .i64 i ∧ v3 = .int .i64 n ∧ i ≤ v.secs.length ∧ 0 ≤ n ∧ n ≤ i * 2000 ∧ Hid (Sep No w wr [As.blk g0 24 [.int .i64 v.sh, .int .i64 v.ttl, .int .i64 v.ses, .slice A v.secs.length c]])) (fun _ v4 _ => v.secs.length - (intOf v4).toNat)
  case atStart => exact ⟨0, 0, rfl, rfl, by omega, by omega, by omega, K0⟩
  case round =>
    obtain ⟨i, n, rfl, rfl, hi, hn0, hn1, K1⟩ := hrel
    clear K0
    have hib : i ≤ 10 := by have := H10.out; omega
    obtain ⟨c0, c1, c2, c3, cz⟩ := blk4 (K1.out.blk (g := g0) (e := 24) (List.Mem.head _))
    by_cases hlt : i < v.secs.length
    · have hli : (i : Int) < (v.secs.length : Int) := by omega
      have hic : (i : Int) < (c : Int) := by omega
      obtain ⟨s, hs⟩ : ∃ s, v.secs[i]? = some s := ⟨_, List.getElem?_eq_getElem hlt⟩
      obtain ⟨b, off, R, d, hA, h5, hR, hd⟩ := HS.out _ K1.out.toExt i _ hs
      have HR := hide (fun (y : World) (k : Ext wr y) => hR.ext k)
      have hsw := HW.out.sec s (List.mem_of_getElem? hs)
      have hsr := hsw.rows
      have hsn := hsw.name
      have HLT := hide hlt
      subst hA
      obtain ⟨d0, d1, d2⟩ := at5_3 h5
      clear hs h5 hR hlt hsw
      go_upto_region 8 with fail
      clear c0 c1 c2 c3 cz d0 d1 d2
      have HAX : Hid (Ext wr (wr.alloc (.cells #[.string s.name, .slice R s.rows.length d, .int .i64 s.queue] 100))) := hide ((Ext.refl wr).alloc _)
      have K2 := hide (K1.out.add 100 [.string s.name, .slice R s.rows.length d, .int .i64 s.queue])
      clear K1
      generalize wr.alloc _ = w2 at HAX K2 ⊢
      generalize wr.heap.size = g2 at K2 ⊢
      obtain ⟨s0, s1, s2, sz⟩ := blk3 (K2.out.blk (List.Mem.head _))
      by_cases h20 : 20 < s.rows.length
      · have e2 : (20 : Int) < (s.rows.length : Int) := by omega
        clear h20
        go_wp2_with fail
        go_ret
        exact ⟨⟨_, rfl⟩, K2.out.toExt⟩
      have e2 : ¬ (20 : Int) < (s.rows.length : Int) := by omega
      by_cases h100 : 100 < s.name.size
      · have e3 : (100 : Int) < (s.name.size : Int) := by omega
        clear h20 h100
        go_wp2_with fail
        go_ret
        exact ⟨⟨_, rfl⟩, K2.out.toExt⟩
      have e3 : ¬ (100 : Int) < (s.name.size : Int) := by omega
      have H20 : Hid (s.rows.length ≤ 20) := hide (by omega)
      clear h20 h100
      go_wp2_with fail
      clear s0 s1 s2 sz
      go_loopw [3, 6] (fun v3 v6 wy => ∃ (k : Nat) (m : Int), v6 = .int .i64 k ∧ v3 = .int .i64 m ∧ k ≤ s.rows.length ∧ 0 ≤ m ∧ m ≤ i * 2000 + k * 100 ∧ wy = w2) (fun _ v6 _ => s.rows.length - (intOf v6).toNat)
      case atStart => exact ⟨0, n, rfl, rfl, by omega, hn0, by omega, rfl⟩
      case round =>
        obtain ⟨k, m, rfl, rfl, hk, hm0, hm1, rfl⟩ := hrel
        have hkb : k ≤ 20 := by have := H20.out; omega
        obtain ⟨s0, s1, s2, sz⟩ := blk3 (K2.out.blk (g := g2) (e := 100) (List.Mem.head _))
        by_cases hkl : k < s.rows.length
        · have hkli : (k : Int) < (s.rows.length : Int) := by omega
          have hkd : (k : Int) < (d : Int) := by omega
          obtain ⟨ad, hRA, cl⟩ := i64s_at (HR.out _ HAX.out) hkl
          subst hRA
          obtain ⟨x, hx⟩ : ∃ x, s.rows[k] = x := ⟨_, rfl⟩
          rw [hx] at cl
          have HKL := hide hkl
          clear hx hkl
          by_cases hx0 : 0 < x
          · by_cases hx1 : x ≤ 100
            · go_wp2_with fail
              clear s0 s1 s2 sz cl
              go_roundw
              case rel => exact ⟨k + 1, m + x, by go_num, by go_num, HKL.out, by omega, by omega, by first | trivial | rfl⟩
              case measure => have := HKL.out; simp [intOf]; omega
            · go_wp2_with fail
              clear s0 s1 s2 sz cl
              go_roundw
              case rel => exact ⟨k + 1, m, by go_num, rfl, HKL.out, by omega, by omega, by first | trivial | rfl⟩
              case measure => have := HKL.out; simp [intOf]; omega
          · go_wp2_with fail
            clear s0 s1 s2 sz cl
            go_roundw
            case rel => exact ⟨k + 1, m, by go_num, rfl, HKL.out, by omega, by omega, by first | trivial | rfl⟩
            case measure => have := HKL.out; simp [intOf]; omega
        · have hkli : ¬ (k : Int) < (s.rows.length : Int) := by omega
          have HKB : Hid (m ≤ (i + 1 : Nat) * 2000) := hide (by omega)
          clear hkl
          go_wp2_with fail
          clear s0 s1 s2 sz
          go_roundw
          case rel => exact ⟨i + 1, m, by go_num, rfl, HLT.out, hm0, HKB.out, hide (K2.out.tail)⟩
          case measure => have := HLT.out; simp [intOf]; omega
    · have hli : ¬ (i : Int) < (v.secs.length : Int) := by omega
      clear hlt
      go_wp2_with fail
      go_ret
      exact ⟨⟨_, rfl⟩, K1.out.toExt⟩
end Go.Proofs.YtdmaephmkfmehaaGreatDoor
namespace Go.Proofs.YtdmaephmkfmehaaGreatDoor
open Go.RowKit Go.Gr Go.Ad
set_option linter.unusedVariables false
set_option linter.unusedSimpArgs false
attribute [local go_sem] rdOp rdAt rdUpon Cls forall_fr
set_option maxHeartbeats 4000000 in
theorem ints_same (l : List Int) (A B : Option Addr) (c d : Nat) (w : World) (hA : Rd w A (i64s l)) (hB : Rd w B (i64s l)) (hc : l.length ≤ c) (hd : l.length ≤ d) (hl : l.length ≤ 100000000) :
    Calls Tryz.prog 38 #[.slice A l.length c, .slice B l.length d] w fun e w' => e = .returned (.bool true) ∧ Ext w w' := by
  have HA := hide (fun (y : World) (k : Ext w y) => hA.ext k)
  have HB := hide (fun (y : World) (k : Ext w y) => hB.ext k)
  have HLB := hide hl
  clear hA hB hl
  go_enter Tryz.func38, Tryz.ntmps38
  go_wp2_with fail
  go_loopw [5] (fun v5 wr => ∃ i : Nat, v5 = .int .i64 i ∧ i ≤ l.length ∧ Hid (Ext w wr)) (fun v5 _ => l.length - (intOf v5).toNat)
  case atStart => exact ⟨0, rfl, by omega, hide (Ext.refl w)⟩
  case round =>
    obtain ⟨i, rfl, hi, HX⟩ := hrel
    have hib : i ≤ 100000000 := by have := HLB.out; omega
    by_cases hlt : i < l.length
    · have hli : (i : Int) < (l.length : Int) := by omega
      have hic : (i : Int) < (c : Int) := by omega
      have hid : (i : Int) < (d : Int) := by omega
      obtain ⟨x, hx⟩ : ∃ x, l[i] = x := ⟨_, rfl⟩
      have HXX := hide (fun (y : World) (k : Ext w y) => i64s_at (HA.out y k) hlt)
      have HYY := hide (fun (y : World) (k : Ext w y) => i64s_at (HB.out y k) hlt)
      rw [hx] at HXX HYY
      obtain ⟨ad, rfl, _⟩ := HXX.out _ HX.out
      obtain ⟨bd, rfl, _⟩ := HYY.out _ HX.out
      have HLT := hide hlt
      clear hx hlt
      go_upto_region 6 with fail
      refine wp_region_wm [0, 1, 2, 3, 4, 5, 6, 7, 8] (by kernel_rfl) (by kernel_rfl) (by kernel_rfl) (by kernel_rfl) ?_
      have HD := hide (HX.out.trans ((Ext.refl wr).drew))
      clear HX
      generalize World.drew _ = wd at *
      obtain ⟨_, e1, y0⟩ := HXX.out _ HD.out
      cases e1
      obtain ⟨_, e2, y1⟩ := HYY.out _ HD.out
      cases e2
      iterate 3 (refine wm_rd rfl rfl (fun K hK => ?_); go_simp; refine hK _ ?_; clear hK K)
      refine wm_ld1 rfl rfl 3 (.tmp 19) rfl rfl y0 _ Tryz.underlying3 rfl ?_
      iterate 3 (refine wm_rd rfl rfl (fun K hK => ?_); go_simp; refine hK _ ?_; clear hK K)
      refine wm_ld1 rfl rfl 3 (.tmp 23) rfl rfl y1 _ Tryz.underlying3 rfl ?_
      have e3 : (x != x) = false := bne_self_eq_false x
      iterate 1 (refine wm_rd rfl rfl (fun K hK => ?_); go_simp; refine hK _ ?_; clear hK K)
      refine wm_nil ?_
      clear y0 y1
      go_wp2_with fail
      go_roundw
      case rel => exact ⟨i + 1, by go_num, HLT.out, HD⟩
      case measure => have := HLT.out; simp [intOf]; omega
    · have hli : ¬ (i : Int) < (l.length : Int) := by omega
      obtain rfl : i = l.length := by omega
      clear hlt
      go_wp2_with fail
      go_ret
      exact ⟨rfl, HX.out⟩
/-- what is wrong with a seat -/
def plE (v : Vn) (i : Int) : Int := if (chk v).2 ≠ 0 then (chk v).2 else if i < 0 ∨ ((sumS v.secs : Nat) : Int) ≤ i then 4 else 0
def plX (v : Vn) (i : Int) : Pl := if plE v i = 0 then ((places v)[i.toNat]?).getD ⟨0, 0, 0⟩ else ⟨0, 0, 0⟩
set_option maxRecDepth 100000 in
set_option maxHeartbeats 4000000 in
theorem rplace (v : Vn) (A : Option Addr) (c : Nat) (i : Int) (w : World) (h : Secs w A v.secs) (hc : v.secs.length ≤ c) (hw : VnW v) :
    Calls Tryz.prog 34 #[.agg #[.int .i64 v.sh, .int .i64 v.ttl, .int .i64 v.ses, .slice A v.secs.length c], .int .i64 i] w fun e w' =>
      e = .returned (.tuple #[.agg #[.int .i64 ((plX v i).sec : Nat), .int .i64 ((plX v i).row : Nat), .int .i64 ((plX v i).seat : Nat)], .int .i64 (plE v i)]) ∧ Ext w w' := by
  have HS := hide (fun (y : World) (k : Ext w y) => ref_seats v A c y (h.ext k) hc hw)
  have HP := hide (fun (y : World) (k : Ext w y) (hok : VnOk v) => ref_places v A c y (h.ext k) hc hok.few hok.sec)
  clear h hc hw
  have K0 := (((Sep.refl No w).add2 24 86 [.int .i64 v.sh, .int .i64 v.ttl, .int .i64 v.ses, .slice A v.secs.length c] [.int .i64 0, .int .i64 0, .int .i64 0]))
  go_enter Tryz.func34, Tryz.ntmps34
  go_upto_region 1 with fail
  generalize World.alloc _ _ = w1 at K0 ⊢
  obtain ⟨g, hg⟩ : ∃ g, w.heap.size = g := ⟨_, rfl⟩
  obtain ⟨g2, hg2⟩ : ∃ g2, g + 1 = g2 := ⟨_, rfl⟩
  rw [hg, hg2] at K0 ⊢
  clear hg hg2
  have K1 := hide K0
  clear K0
  obtain ⟨c0, c1, c2, c3, cz⟩ := blk4 (K1.out.blk (e := 24) (List.Mem.tail _ (List.Mem.head _)))
  go_wp2_with fail
  (with_reducible refine (HS.out _ K1.out.toExt).mono ?_)
  rintro e w2 ⟨rfl, hx⟩
  have K2 := hide (K1.out.ext hx)
  clear K1 hx HS c0 c1 c2 c3 cz
  obtain ⟨c0, c1, c2, c3, cz⟩ := blk4 (K2.out.blk (e := 24) (List.Mem.tail _ (List.Mem.head _)))
  by_cases hq : (chk v).2 = 0
  rotate_left
  · have HE : Hid (plE v i = (chk v).2) := hide (by unfold plE; rw [if_pos hq])
    have HX : Hid (plX v i = ⟨0, 0, 0⟩) := hide (by unfold plX; rw [HE.out, if_neg hq])
    rw [show seatsE v = (0, (chk v).2) by unfold seatsE; rw [if_neg hq]]
    have e1 : ((chk v).2 != 0) = true := bne_iff_ne.2 hq
    have e2 : ((chk v).2 == 0) = false := beq_eq_false_iff_ne.2 hq
    have tok1 : True := trivial
    clear hq HP
    go_wp2_with (have zz := tok1; clear zz tok1; refine wpList_stS [] K2.out rfl 86 (.tmp 4) (.tmp 26) rfl rfl (cs := [.int .i64 0, .int .i64 0, .int .i64 0]) rfl (by kernel_rfl) rfl (int3_one _ _ _) ?_; intro w5 K5; dsimp only [List.nil_append, List.cons_append] at K5; have K6 := hide K5; clear K5)
    obtain ⟨b0, b1, b2, bz⟩ := blk3 (K6.out.blk (g := g2) (e := 86) (List.Mem.head _))
    refine bodyPost_ret (v := .tuple #[.agg #[.int .i64 0, .int .i64 0, .int .i64 0], .int .i64 (chk v).2]) (by simp [results, Tryz.results34, go_sem, b0, b1, b2]) rfl ?_
    exact ⟨by rw [HE.out, HX.out]; rfl, K6.out.toExt⟩
  have hok := (chk_zero hq).1
  rw [show seatsE v = (((sumS v.secs : Nat) : Int), 0) by unfold seatsE; rw [if_pos hq]]
  by_cases hb : i < 0 ∨ ((sumS v.secs : Nat) : Int) ≤ i
  · have HE : Hid (plE v i = 4) := hide (by unfold plE; rw [if_neg (by simpa using hq), if_pos hb])
    have HX : Hid (plX v i = ⟨0, 0, 0⟩) := hide (by unfold plX; rw [HE.out]; rfl)
    clear hq HP hok
    by_cases hb1 : i < 0
    · have tok1 : True := trivial
      clear hb
      go_wp2_with (have zz := tok1; clear zz tok1; refine wpList_stS [] K2.out rfl 86 (.tmp 4) (.tmp 26) rfl rfl (cs := [.int .i64 0, .int .i64 0, .int .i64 0]) rfl (by kernel_rfl) rfl (int3_one _ _ _) ?_; intro w5 K5; dsimp only [List.nil_append, List.cons_append] at K5; have K6 := hide K5; clear K5)
      obtain ⟨b0, b1, b2, bz⟩ := blk3 (K6.out.blk (g := g2) (e := 86) (List.Mem.head _))
      refine bodyPost_ret (v := .tuple #[.agg #[.int .i64 0, .int .i64 0, .int .i64 0], .int .i64 4]) (by simp [results, Tryz.results34, go_sem, b0, b1, b2]) rfl ?_
      exact ⟨by rw [HE.out, HX.out]; rfl, K6.out.toExt⟩
    · have hb2 : ((sumS v.secs : Nat) : Int) ≤ i := by omega
      have tok1 : True := trivial
      clear hb
      go_wp2_with (have zz := tok1; clear zz tok1; refine wpList_stS [] K2.out rfl 86 (.tmp 4) (.tmp 26) rfl rfl (cs := [.int .i64 0, .int .i64 0, .int .i64 0]) rfl (by kernel_rfl) rfl (int3_one _ _ _) ?_; intro w5 K5; dsimp only [List.nil_append, List.cons_append] at K5; have K6 := hide K5; clear K5)
      obtain ⟨b0, b1, b2, bz⟩ := blk3 (K6.out.blk (g := g2) (e := 86) (List.Mem.head _))
      refine bodyPost_ret (v := .tuple #[.agg #[.int .i64 0, .int .i64 0, .int .i64 0], .int .i64 4]) (by simp [results, Tryz.results34, go_sem, b0, b1, b2]) rfl ?_
      exact ⟨by rw [HE.out, HX.out]; rfl, K6.out.toExt⟩
  · have HE : Hid (plE v i = 0) := hide (by unfold plE; rw [if_neg (by simpa using hq), if_neg hb])
    obtain ⟨k, rfl⟩ : ∃ k : Nat, i = k := ⟨i.toNat, by omega⟩
    have hks : k < (places v).length := by rw [places_len]; omega
    obtain ⟨x, hx⟩ : ∃ x, (places v)[k]? = some x := ⟨_, List.getElem?_eq_getElem hks⟩
    have HX : Hid (plX v (k : Int) = x) := hide (by unfold plX; rw [HE.out, if_pos rfl, Int.toNat_natCast, hx]; rfl)
    have hb1 : ¬ (k : Int) < 0 := by omega
    have hb2 : ¬ ((sumS v.secs : Nat) : Int) ≤ (k : Int) := by omega
    have hkb : k ≤ 4096 := by have := hok.sum; omega
    have HPP := hide (HP.out w2 K2.out.toExt hok)
    have HXX := hide hx
    have hkl : (k : Int) < ((places v).length : Int) := by omega
    clear hq HP hok hb hks hx
    go_wp2_with fail
    (with_reducible refine HPP.out.mono ?_)
    rintro e w3 ⟨v', rfl, hS⟩
    have K3 := hide (K2.out.joinW hS)
    clear hS HPP K2 c0 c1 c2 c3 cz
    obtain ⟨gp, pc, e, hpc, x0, x1, x2⟩ := own_pl K3.out (List.Mem.head _) HXX.out
    subst e
    have hkc : (k : Int) < (pc : Int) := by omega
    have tok1 : True := trivial
    go_wp2_with (have zz := tok1; clear zz tok1; refine wpList_stS [_] K3.out rfl 86 (.tmp 4) (.tmp 32) rfl rfl (cs := [.int .i64 (x.sec : Nat), .int .i64 (x.row : Nat), .int .i64 (x.seat : Nat)]) rfl (by kernel_rfl) rfl (int3_one _ _ _) ?_; intro w5 K5; dsimp only [List.nil_append, List.cons_append] at K5; have K6 := hide K5; clear K5)
    clear x0 x1 x2
    obtain ⟨b0, b1, b2, bz⟩ := blk3 (K6.out.blk (g := g2) (e := 86) (List.Mem.tail _ (List.Mem.head _)))
    refine bodyPost_ret (v := .tuple #[.agg #[.int .i64 (x.sec : Nat), .int .i64 (x.row : Nat), .int .i64 (x.seat : Nat)], .int .i64 0]) (by simp [results, Tryz.results34, go_sem, b0, b1, b2]) rfl ?_
    exact ⟨by rw [HE.out, HX.out], K6.out.toExt⟩
attribute [local go_sem] rdOp rdAt rdUpon Cls forall_fr
def hallS : ByteArray := ⟨#[104, 97, 108, 108]⟩
def boxS : ByteArray := ⟨#[98, 111, 120]⟩
/-- the venue of the examples -/
def exV : Vn := ⟨3, 10, 100, [⟨hallS, [3, 2, 6], 2⟩, ⟨boxS, [2], 0⟩]⟩
set_option maxRecDepth 100000 in
set_option maxHeartbeats 4000000 in
theorem ex15 (w : World) : Calls Tryz.prog 21 #[] w fun e w' =>
      ∃ g g1 g2, e = .returned (.agg #[.int .i64 3, .int .i64 10, .int .i64 100, .slice (some ⟨g, 0, none⟩) 2 2]) ∧ Sep No w w' [As.blk g 100 [.string hallS, .slice (some ⟨g1, 0, none⟩) 2 2, .int .i64 2, .string boxS, .slice (some ⟨g2, 0, none⟩) 1 1, .int .i64 0], As.blk g2 3 [.int .i64 2]] := by
  have K0 := ((Sep.refl No w).add 24 [.int .i64 0, .int .i64 0, .int .i64 0, .slice none 0 0])
  go_enter Tryz.func21, Tryz.ntmps21
  go_upto_region 1 with fail
  generalize w.alloc _ = w1 at K0 ⊢
  generalize w.heap.size = g0 at K0 ⊢
  have K1 := ((K0.add 3 [.int .i64 3, .int .i64 2]).add 3 [.int .i64 2]).add 100 [.string hallS, .slice (some ⟨w1.heap.size, 0, none⟩) 2 2, .int .i64 2, .string boxS, .slice (some ⟨w1.heap.size + 1, 0, none⟩) 1 1, .int .i64 0]
  simp only [World.size_alloc, Nat.add_assoc, Nat.reduceAdd] at K1
  have tok1 : True := trivial
  go_wp2_with (have zz := tok1; clear zz tok1; refine wpList_stS [_, _, _] K1 rfl 24 (.tmp 0) (.tmp 6) rfl rfl (cs := [.int .i64 3, .int .i64 10, .int .i64 100, .slice (some ⟨w1.heap.size + 2, 0, none⟩) 2 2]) rfl (by kernel_rfl) rfl (by intro v hv; simp only [List.mem_cons, List.not_mem_nil, or_false] at hv; rcases hv with rfl | rfl | rfl | rfl <;> rfl) ?_; intro w5 K5; dsimp only [List.nil_append, List.cons_append] at K5; clear K1)
  obtain ⟨c0, c1, c2, c3, cz⟩ := blk4 (K5.blk (g := g0) (e := 24) (List.Mem.tail _ (List.Mem.tail _ (List.Mem.tail _ (List.Mem.head _)))))
  refine bodyPost_ret (v := .agg #[.int .i64 3, .int .i64 10, .int .i64 100, .slice (some ⟨w1.heap.size + 2, 0, none⟩) 2 2]) (by simp [results, Tryz.results21, go_sem, c0, c1, c2, c3]) rfl ?_
  exact ⟨w1.heap.size + 2, w1.heap.size, w1.heap.size + 1, rfl, K5.sub (List.Sublist.cons_cons _ (List.Sublist.cons_cons _ (List.nil_sublist _)))⟩
end Go.Proofs.YtdmaephmkfmehaaGreatDoor
