/- Seats side by side: without, best, Best, longest, Place, Pieces, by the reference (merged of B8 L0 B9 B10 B11). -/
import Derived.Test.YtkhinagagncblaaDoorB7
namespace Go.Proofs.YtkhinagagncblaaDoor
open Go.RowKit Go.Gr Go.Ad
set_option linter.unusedVariables false
set_option linter.unusedSimpArgs false
attribute [local go_sem] rdOp rdAt rdUpon Cls forall_fr
theorem infoB : (Tryd.prog.info? 4).map (fun i => (i.zero, i.size, i.bytes)) = some (some (.bool false), 1, 1) := by kernel_rfl
theorem off_step {f : List Bool} {i k : Nat} (h : i + k < f.length) : (off f i k).set (i + k) false = off f i (k + 1) := by
  apply List.ext_getElem?
  intro j
  rw [List.getElem?_set, off_get (by omega), off_get (by omega), off_len (by omega)]
  by_cases h1 : i + k = j
  · rw [if_pos h1, if_pos (by omega), if_pos (by omega)]
  · rw [if_neg h1]
    by_cases h2 : i ≤ j ∧ j < i + k
    · rw [if_pos h2, if_pos (by omega)]
    · rw [if_neg h2, if_neg (by omega)]
theorem off_zero (f : List Bool) (i : Nat) : off f i 0 = f := by simp [off]
theorem bls_set (f : List Bool) (i : Nat) (b : Bool) : bls (f.set i b) = (bls f).set i (.bool b) := by simp [bls, List.map_set]
set_option maxRecDepth 100000 in
set_option maxHeartbeats 4000000 in
theorem rwithout (f : List Bool) (F : Option Addr) (d i n : Nat) (w : World) (hF : Rd w F (bls f)) (hd : f.length ≤ d) (hin : i + n ≤ f.length) (hl : f.length ≤ 100000000) :
    Calls Tryd.prog 42 #[.slice F f.length d, .int .i64 i, .int .i64 n] w fun e w' =>
      ∃ v', e = .returned v' ∧ Sep No w w' [As.own 4 v' (bls (off f i n))] := by
  obtain ⟨i0, ki, kz0, kz1, kz2⟩ := info_parts infoB
  have K0 := Sep.toOwn [] ((Sep.refl No w).newB ((Ext.refl w).alloc (.cells #[] 4)) (Blk.new w 4 []) (Nat.le_refl _)) (by simp)
  dsimp only [List.nil_append, List.length_nil] at K0
  have HB := hide (bls_one f)
  have HBL : Hid ((bls f).length = f.length) := hide (bls_len f)
  have tok3 : True := trivial
  go_enter Tryd.func42, Tryd.ntmps42
  go_wp2_with (have zz := tok3; clear zz tok3; with_reducible refine wpList_apS [] K0 rfl (.tmp 9) (.tmp 10) 25 rfl i0 (.bool false) 1 Tryd.underlying25 ki kz0 kz1 kz2 rfl rfl (A := F) (m := f.length) (c := d) (news := bls f) rfl (by rw [HBL.out]) (hF.ext K0.toExt) HB.out (by rw [HBL.out]; simp; omega) (by omega) ?_; intro v w5 K5; dsimp only [List.nil_append] at K5; have K5' := hide K5; clear K5 K0)
  obtain ⟨B, bc, rfl, _, hbc, _⟩ := (K5'.out.owns (List.Mem.head _)).form
  rw [HBL.out] at K5' hbc ⊢
  go_loopw [8] (fun v8 wr => ∃ k : Nat, v8 = .int .i64 ((i + k : Nat) : Int) ∧ k ≤ n ∧ Hid (Sep No w wr [As.own 4 (.slice B f.length bc) (bls (off f i k))])) (fun v8 _ => i + n - (intOf v8).toNat)
  case atStart => exact ⟨0, rfl, by omega, by rw [off_zero]; exact K5'⟩
  case round =>
    obtain ⟨k, rfl, hk, K6⟩ := hrel
    clear K5'
    obtain ⟨p, hp⟩ : ∃ p, i + k = p := ⟨_, rfl⟩
    have hpb : p ≤ 100000000 := by omega
    by_cases hlt : k < n
    · have hpi : (p : Int) < (i : Int) + (n : Int) := by omega
      have hoff : (off f i k).length = f.length := off_len (by omega)
      obtain ⟨g, hA, d0, c1, c2, K7⟩ := Sep.ownSet [] K6.out (i := p) (by rw [bls_len, hoff]; omega) (.bool false)
      subst hA
      obtain ⟨z, c0⟩ : ∃ z, wr.cell? ⟨g, p, none⟩ = some z := ⟨_, d0⟩
      clear d0
      have hpf : (p : Int) < (f.length : Int) := by omega
      have hpc : (p : Int) < (bc : Int) := by omega
      rw [← bls_set, ← hp, off_step (by omega)] at K7
      rw [hp] at K7
      have K8 := hide K7
      have HP := hide hp
      have HK : Hid (k + 1 ≤ n) := hide (by omega)
      rw [hp]
      clear K7 hp hlt hoff
      go_wp2_with fail
      clear c0 c1 c2
      go_roundw
      case rel => exact ⟨k + 1, by have := HP.out; go_num, HK.out, K8⟩
      case measure => have := HK.out; have := HP.out; simp [intOf]; omega
    · have hpi : ¬ (p : Int) < (i : Int) + (n : Int) := by omega
      obtain rfl : k = n := by omega
      rw [hp]
      clear hlt
      go_wp2_with fail
      go_ret
      exact ⟨_, rfl, K6.out⟩
end Go.Proofs.YtkhinagagncblaaDoor

namespace Go.Proofs.YtkhinagagncblaaDoor
open Go.RowKit Go.Gr Go.Ad
set_option linter.unusedVariables false
set_option linter.unusedSimpArgs false
theorem sec_fits {v : Vn} {f : List Bool} (hfl : f.length = sumS v.secs) {j : Nat} {sc : Sc} (hs : v.secs[j]? = some sc) : fst0 v.secs j + sc.rowsN.sum ≤ f.length := by
  rw [hfl]
  have h1 : v.secs = v.secs.take j ++ v.secs.drop j := (List.take_append_drop _ _).symm
  have hj : j < v.secs.length := (List.getElem?_eq_some_iff.1 hs).1
  have h2 : v.secs.drop j = sc :: v.secs.drop (j + 1) := by
    rw [List.drop_eq_getElem_cons hj]
    rw [List.getElem?_eq_getElem hj] at hs
    rw [Option.some.inj hs]
  have h3 : sumS v.secs = fst0 v.secs j + (sc.sum + sumS (v.secs.drop (j + 1))) := by
    conv => lhs; rw [h1, sumS_append, h2]
    simp [sumS, fst0]
  unfold Sc.sum at h3
  omega
/-- a run of a section: where it lies, and what becomes of the runs when seats of it are taken -/
theorem runs_off {v : Vn} {f : List Bool} (hfl : f.length = sumS v.secs) {s : Int} {x : Run} (hx : x ∈ runsOf v f s) :
    x.first + x.many ≤ f.length ∧ 0 < x.many ∧ (∀ j, j < x.many → f[x.first + j]? = some true) ∧ ∃ L1 L2, runsOf v f s = L1 ++ x :: L2 ∧ (∀ y ∈ L1, Bef y x) ∧ (∀ y ∈ L2, Bef x y) ∧
      ∀ k n, 0 < n → k + n ≤ x.many → runsOf v (off f (x.first + k) n) s = L1 ++ (cl x.row x.first k ++ cl x.row (x.first + k + n) (x.many - k - n)) ++ L2 := by
  unfold runsOf at hx ⊢
  cases hs : v.secs[s.toNat]? with
  | none => rw [hs] at hx; cases hx
  | some sc =>
    rw [hs] at hx
    simp only at hx ⊢
    have hf := sec_fits hfl hs
    obtain ⟨h1, h2, h3, h4, h5⟩ := sec_split sc.rowsN 0 (fst0 v.secs s.toNat) hf hx
    exact ⟨by omega, h3, h4, h5⟩
theorem aloneN_cl (r a m : Nat) : ((aloneN (cl r a m) : Nat) : Int) = oneE (m : Nat) := by
  unfold cl oneE
  by_cases h0 : m = 0
  · rw [if_pos h0, if_neg (by omega)]; rfl
  · rw [if_neg h0]
    by_cases h1 : m = 1
    · rw [if_pos (by omega)]; simp [aloneN, h1]
    · rw [if_neg (by omega)]; simp [aloneN, h1]
theorem aloneN_one (x : Run) : ((aloneN [x] : Nat) : Int) = oneE (x.many : Nat) := by
  unfold oneE
  by_cases h1 : x.many = 1
  · rw [if_pos (by omega)]; simp [aloneN, h1]
  · rw [if_neg (by omega)]; simp [aloneN, h1]
/-- how many seats are alone when seats are taken -/
theorem alone_off {v : Vn} {f : List Bool} (hfl : f.length = sumS v.secs) {s : Int} {x : Run} (hx : x ∈ runsOf v f s) {k n : Nat} (hn : 0 < n) (hk : k + n ≤ x.many) :
    ((aloneN (runsOf v (off f (x.first + k) n) s) : Nat) : Int) = ((aloneN (runsOf v f s) : Nat) : Int) + moreI (x, k, x.many - n - k) := by
  obtain ⟨_, _, _, L1, L2, e, _, _, h⟩ := runs_off hfl hx
  rw [h k n hn hk, e, aloneN_append, aloneN_append, aloneN_append, aloneN_append, show x :: L2 = [x] ++ L2 from rfl, aloneN_append]
  have h1 := aloneN_cl x.row x.first k
  have h2 := aloneN_cl x.row (x.first + k + n) (x.many - k - n)
  have h3 := aloneN_one x
  unfold moreI
  simp only
  rw [show x.many - n - k = x.many - k - n by omega]
  omega
/-- a run that is taken whole -/
theorem runs_whole {v : Vn} {f : List Bool} (hfl : f.length = sumS v.secs) {s : Int} {p : Nat} {x : Run} (hx : (runsOf v f s)[p]? = some x) : runsOf v (off f x.first x.many) s = (runsOf v f s).eraseIdx p := by
  obtain ⟨_, h0, _, L1, L2, e, b1, b2, h⟩ := runs_off hfl (List.mem_of_getElem? hx)
  have hw := h 0 x.many h0 (by omega)
  simp only [Nat.add_zero, Nat.sub_zero, Nat.sub_self, cl_zero, List.append_nil] at hw
  rw [hw]
  have hpos : ∀ y ∈ runsOf v f s, 0 < y.many := runsOf_pos v f s
  have hp : p = L1.length := by
    rw [e] at hx hpos
    rcases Nat.lt_trichotomy p L1.length with h1 | h1 | h1
    · exfalso
      rw [List.getElem?_append_left h1] at hx
      have := b1 x (List.mem_of_getElem? hx)
      unfold Bef at this
      omega
    · exact h1
    · exfalso
      rw [List.getElem?_append_right (by omega), show p - L1.length = (p - L1.length - 1) + 1 by omega, List.getElem?_cons_succ] at hx
      have := b2 x (List.mem_of_getElem? hx)
      unfold Bef at this
      omega
  rw [e, hp, List.eraseIdx_append_of_length_le (Nat.le_refl _), Nat.sub_self]
  rfl
end Go.Proofs.YtkhinagagncblaaDoor

namespace Go.Proofs.YtkhinagagncblaaDoor
open Go.RowKit Go.Gr Go.Ad
set_option linter.unusedVariables false
set_option linter.unusedSimpArgs false
attribute [local go_sem] rdOp rdAt rdUpon Cls forall_fr
/-- the first seat of a choice; below 0: there is none -/
def atB (o : Option (Run × Nat × Nat)) : Int := match o with
  | none => -1
  | some x => ((x.1.first + x.2.1 : Nat) : Int)
/-- what the best one so far leaves alone -/
def leB (a : Int) (o : Option (Run × Nat × Nat)) : Int := match o with
  | none => 0
  | some x => a + moreI x
theorem moreI_in (x : Run × Nat × Nat) : -1 ≤ moreI x ∧ moreI x ≤ 2 := by
  have h1 := oneE_01 (x.2.1 : Nat)
  have h2 := oneE_01 (x.2.2 : Nat)
  have h3 := oneE_01 (x.1.many : Nat)
  unfold moreI
  omega
theorem fsts_at {l : List (Run × Nat × Nat)} {i : Nat} {x : Run × Nat × Nat} (h : l[i]? = some x) : (i64s (fsts l))[i]? = some (.int .i64 ((x.1.first + x.2.1 : Nat) : Int)) := by simp [i64s, fsts, h]
set_option maxRecDepth 100000 in
set_option maxHeartbeats 8000000 in
theorem rbest (v : Vn) (A : Option Addr) (c : Nat) (f : List Bool) (F : Option Addr) (d n : Nat) (s : Int) (w : World) (h : Secs w A v.secs) (hc : v.secs.length ≤ c) (hw : VnW v)
    (hF : Rd w F (bls f)) (hd : f.length ≤ d) (hq : qE v f.length s = 0) (hn1 : 1 ≤ n) (hn2 : n ≤ 64) :
    Calls Tryd.prog 39 #[.agg #[.int .i64 v.sh, .int .i64 v.ttl, .int .i64 v.ses, .slice A v.secs.length c], .slice F f.length d, .int .i64 s, .int .i64 (n : Nat)] w fun e w' =>
      e = .returned (.int .i64 (atB (bestL (chs (runsOf v f s) n)))) ∧ Ext w w' := by
  have hfl := (qE_zero hq).2.2.2.1
  have HC := hide (fun (y : World) (k : Ext w y) => rad_choices v A c f F d n s y (h.ext k) hc hw (hF.ext k) hd hq hn1 hn2)
  have HWO := hide (fun (y : World) (k : Ext w y) (i : Nat) (hi : i + n ≤ f.length) => rwithout f F d i n y (hF.ext k) hd hi (by rw [hfl]; have := (qE_zero hq).1.sum; omega))
  have HAL := hide (fun (y : World) (k : Ext w y) (i : Nat) (hi : i + n ≤ f.length) (F' : Option Addr) (d' : Nat) (hF' : Rd y F' (bls (off f i n))) (hd' : f.length ≤ d') => by
    have e := off_len hi
    have := rad_alone v A c (off f i n) F' d' s y (h.ext k) hc hw hF' (by rw [e]; exact hd') (by rw [e]; exact hq)
    rw [e] at this
    exact this)
  have HAO := hide (fun (x : Run) (hx : x ∈ runsOf v f s) (k : Nat) (hk : k + n ≤ x.many) => (⟨(runs_off hfl hx).1, alone_off hfl hx (by omega) hk⟩ : x.first + x.many ≤ f.length ∧ _))
  have HSML := hide (runs_small (qE_zero hq).1 hfl s)
  have HFEW := hide (runsOf_few (qE_zero hq).1 f s)
  clear h hc hw hF hd hq hfl
  have K0 := hide ((Sep.refl No w).add 24 [.int .i64 v.sh, .int .i64 v.ttl, .int .i64 v.ses, .slice A v.secs.length c])
  go_enter Tryd.func39, Tryd.ntmps39
  go_wp2_with fail
  (with_reducible refine (HC.out _ K0.out.toExt).mono ?_)
  rintro e w2 ⟨v', rfl, hS⟩
  have K2 := hide (K0.out.joinW hS)
  clear HC hS K0
  obtain ⟨B, bc, rfl, _, hbc, _⟩ := (K2.out.owns (List.Mem.head _)).form
  have hcl := chs_few _ n HSML.out HFEW.out
  obtain ⟨L, hL⟩ : ∃ L, chs (runsOf v f s) n = L := ⟨_, rfl⟩
  have HCM : Hid (∀ x ∈ L, x.1 ∈ runsOf v f s ∧ x.2.1 + n ≤ x.1.many ∧ x.2.2 = x.1.many - n - x.2.1) := hide (fun x hx => by
    rw [← hL] at hx
    exact chs_mem hx)
  rw [hL] at K2 hcl hbc ⊢
  rw [show (i64s (fsts L)).length = L.length by simp [i64s, fsts]] at K2 hbc ⊢
  have HLL := hide hL
  clear hL
  obtain ⟨a0, ha0⟩ : ∃ a0 : Int, ((aloneN (runsOf v f s) : Nat) : Int) = a0 := ⟨_, rfl⟩
  have hab : 0 ≤ a0 ∧ a0 ≤ 2000 := by
    have := aloneN_le (runsOf v f s)
    have := HFEW.out
    omega
  rw [ha0] at HAO
  clear ha0
  go_wp2_with fail
  go_loopw [10, 11, 12] (fun v10 v11 v12 wr => ∃ i : Nat, v12 = .int .i64 i ∧ v10 = .int .i64 (atB (bestL (L.take i))) ∧ v11 = .int .i64 (leB a0 (bestL (L.take i))) ∧ i ≤ L.length ∧ Hid (Sep No w wr [As.own 3 (.slice B L.length bc) (i64s (fsts L)), As.blk w.heap.size 24 [.int .i64 v.sh, .int .i64 v.ttl, .int .i64 v.ses, .slice A v.secs.length c]])) (fun _ _ v12 _ => L.length - (intOf v12).toNat)
  case atStart => exact ⟨0, rfl, rfl, rfl, by omega, K2⟩
  case round =>
    obtain ⟨i, rfl, rfl, rfl, hi, K3⟩ := hrel
    clear K2
    have hib : i ≤ 50000000 := by omega
    by_cases hlt : i < L.length
    · have hli : (i : Int) < (L.length : Int) := by omega
      have hic : (i : Int) < (bc : Int) := by omega
      obtain ⟨x, hx⟩ : ∃ x, L[i]? = some x := ⟨_, List.getElem?_eq_getElem hlt⟩
      obtain ⟨r, k, b⟩ := x
      obtain ⟨hm1, hm2, hm3⟩ := HCM.out _ (List.mem_of_getElem? hx)
      simp only at hm1 hm2 hm3
      obtain ⟨hr1, hr2⟩ := HAO.out r hm1 k hm2
      rw [← hm3] at hr2
      have hin : r.first + k + n ≤ f.length := by omega
      have HBL : Hid (bestL (L.take (i + 1)) = stB (bestL (L.take i)) (r, k, b)) := hide (by rw [take_next1 hx, bestL_snoc])
      have HIX := hide (fsts_at hx)
      have hmi := moreI_in (r, k, b)
      have HLT := hide hlt
      have HOL : Hid ((off f (r.first + k) n).length = f.length) := hide (off_len hin)
      obtain ⟨p, hp⟩ : ∃ p, r.first + k = p := ⟨_, rfl⟩
      obtain ⟨q, hq⟩ : ∃ q, moreI (r, k, b) = q := ⟨_, rfl⟩
      rw [hp] at hr2 hin HOL
      rw [hq] at hr2 hmi
      simp only [hp] at HIX
      have HW1 := hide (fun (y : World) (e : Ext w y) => HWO.out y e p hin)
      have HA1 := hide (fun (y : World) (e : Ext w y) => HAL.out y e p hin)
      rw [hr2] at HA1
      have HPP := hide hp
      have HQQ := hide hq
      clear hx hlt hm1 hm2 hm3 hr1 hr2 hin hp hq
      obtain ⟨o, ho⟩ : ∃ o, bestL (L.take i) = o := ⟨_, rfl⟩
      rw [ho] at HBL ⊢
      clear ho
      go_upto_region 6 with fail
      refine wp_region_wm [0, 1, 2, 3, 4, 5, 6, 8, 7, 9, 10] (by kernel_rfl) (by kernel_rfl) (by kernel_rfl) (by kernel_rfl) ?_
      have K4 := K3.out.drew
      clear K3
      generalize World.drew _ = wd at *
      have b0 := (K4.blk (e := 24) (List.Mem.tail _ (List.Mem.head _))).at5
      obtain ⟨g, hA, y0, _⟩ := Sep.ownSet [] K4 (i := i) (List.getElem?_eq_some_iff.1 HIX.out).1 undef
      rw [(List.getElem?_eq_some_iff.1 HIX.out).2] at y0
      subst hA
      have K5 := hide K4
      clear K4
      refine wm_ldX rfl rfl 24 (.tmp 4) rfl b0 rfl _ Tryd.underlying24 rfl (by kernel_rfl) ?_
      iterate 4 (refine wm_rd rfl rfl (fun K hK => ?_); go_simp; refine hK _ ?_; clear hK K)
      refine wm_ld1 rfl rfl 3 (.tmp 29) rfl rfl y0 _ Tryd.underlying3 rfl ?_
      iterate 2 (refine wm_rd rfl rfl (fun K hK => ?_); go_simp; refine hK _ ?_; clear hK K)
      clear b0 y0
      refine wm_ext rfl rfl (fun K hK => ?_)
      go_simp
      go_at_call 42
      (with_reducible refine (HW1.out _ K5.out.toExt).mono ?_)
      rintro e w5 ⟨v5, rfl, hS5⟩
      obtain ⟨F5, d5, rfl, hF5, hd5, _⟩ := (hS5.owns (List.Mem.head _)).form
      rw [bls_len, HOL.out] at hd5 ⊢
      have X5 := hide hS5.toExt
      refine hK _ _ X5.out ?_
      clear hK K hS5
      refine wm_ext rfl rfl (fun K hK => ?_)
      go_simp
      go_at_call 34
      (with_reducible refine (HA1.out _ (K5.out.toExt.trans X5.out) F5 d5 hF5 hd5).mono ?_)
      rintro e w6 ⟨rfl, hx6⟩
      refine hK _ _ hx6 ?_
      clear hK K
      have K7 := hide (K5.out.ext (X5.out.trans hx6))
      clear X5 hx6 K5 HA1 HW1 hF5
      iterate 1 (refine wm_rd rfl rfl (fun K hK => ?_); go_simp; refine hK _ ?_; clear hK K)
      refine wm_nil ?_
      obtain ⟨g', hA', y0, _⟩ := Sep.ownSet [] K7.out (i := i) (List.getElem?_eq_some_iff.1 HIX.out).1 undef
      rw [(List.getElem?_eq_some_iff.1 HIX.out).2] at y0
      cases hA'
      have ew : IntKind.i64.wrap (a0 + q) = a0 + q := by rw [Go.IntWalk.i64_left]; exact Go.IntWalk.wrap64_in _ (by omega)
      clear ew
      cases o with
      | none =>
        have HB2 : Hid (bestL (L.take (i + 1)) = some (r, k, b)) := hide HBL.out
        clear HBL
        dsimp only [atB, leB]
        go_wp2_with fail
        clear y0
        go_roundw
        case rel => exact ⟨i + 1, by go_num, by rw [HB2.out]; show _ = Value.int .i64 ((r.first + k : Nat) : Int); rw [HPP.out], by rw [HB2.out]; show _ = Value.int .i64 (a0 + moreI (r, k, b)); rw [HQQ.out], HLT.out, K7⟩
        case measure => have := HLT.out; simp [intOf]; omega
      | some y =>
        dsimp only [atB, leB]
        have e1 : ¬ ((y.1.first + y.2.1 : Nat) : Int) < 0 := by omega
        obtain ⟨z, hz⟩ : ∃ z, ((y.1.first + y.2.1 : Nat) : Int) = z := ⟨_, rfl⟩
        obtain ⟨m, hm⟩ : ∃ m, moreI y = m := ⟨_, rfl⟩
        have HZ := hide hz
        have HM := hide hm
        rw [hz] at e1
        rw [hz, hm]
        clear hz hm
        by_cases hlt2 : q < m
        · have e2 : a0 + q < a0 + m := by omega
          have HB2 : Hid (bestL (L.take (i + 1)) = some (r, k, b)) := hide (by rw [HBL.out]; show (if moreI (r, k, b) < moreI y then _ else _) = _; rw [if_pos (by rw [HQQ.out, HM.out]; exact hlt2)])
          clear HBL hlt2
          go_wp2_with fail
          clear y0
          go_roundw
          case rel => exact ⟨i + 1, by go_num, by rw [HB2.out]; show _ = Value.int .i64 ((r.first + k : Nat) : Int); rw [HPP.out], by rw [HB2.out]; show _ = Value.int .i64 (a0 + moreI (r, k, b)); rw [HQQ.out], HLT.out, K7⟩
          case measure => have := HLT.out; simp [intOf]; omega
        · have e2 : ¬ a0 + q < a0 + m := by omega
          have HB2 : Hid (bestL (L.take (i + 1)) = some y) := hide (by rw [HBL.out]; show (if moreI (r, k, b) < moreI y then _ else _) = _; rw [if_neg (by rw [HQQ.out, HM.out]; exact hlt2)])
          clear HBL hlt2
          go_wp2_with fail
          clear y0
          go_roundw
          case rel => exact ⟨i + 1, by go_num, by rw [HB2.out]; show _ = Value.int .i64 ((y.1.first + y.2.1 : Nat) : Int); rw [HZ.out], by rw [HB2.out]; show _ = Value.int .i64 (a0 + moreI y); rw [HM.out], HLT.out, K7⟩
          case measure => have := HLT.out; simp [intOf]; omega
    · have hli : ¬ (i : Int) < (L.length : Int) := by omega
      obtain rfl : i = L.length := by omega
      rw [List.take_of_length_le (Nat.le_refl _)]
      clear hlt
      go_wp2_with fail
      go_ret
      exact ⟨by rw [HLL.out]; rfl, K3.out.toExt⟩
set_option maxRecDepth 100000 in
set_option maxHeartbeats 4000000 in
theorem rad_Best (v : Vn) (A : Option Addr) (c : Nat) (f : List Bool) (F : Option Addr) (d : Nat) (s n : Int) (w : World) (h : Secs w A v.secs) (hc : v.secs.length ≤ c) (hw : VnW v)
    (hF : Rd w F (bls f)) (hd : f.length ≤ d) :
    Calls Tryd.prog 20 #[.agg #[.int .i64 v.sh, .int .i64 v.ttl, .int .i64 v.ses, .slice A v.secs.length c], .slice F f.length d, .int .i64 s, .int .i64 n] w fun e w' =>
      e = .returned (.tuple #[.int .i64 (bestE v f s n).1, .int .i64 (bestE v f s n).2]) ∧ Ext w w' := by
  have HC := hide (fun (y : World) (k : Ext w y) => rad_Choices v A c f F d s n y (h.ext k) hc hw (hF.ext k) hd)
  have HB := hide (fun (y : World) (k : Ext w y) (hq : qE v f.length s = 0) (n : Nat) (h1 : 1 ≤ n) (h2 : n ≤ 64) => rbest v A c f F d n s y (h.ext k) hc hw (hF.ext k) hd hq h1 h2)
  clear h hc hw hF hd
  have K0 := hide ((Sep.refl No w).add 24 [.int .i64 v.sh, .int .i64 v.ttl, .int .i64 v.ses, .slice A v.secs.length c])
  go_enter Tryd.func20, Tryd.ntmps20
  go_wp2_with fail
  (with_reducible refine (HC.out _ K0.out.toExt).mono ?_)
  rintro e w1 ⟨v', rfl, hS⟩
  have K1 := hide (K0.out.ext hS.toExt)
  clear K0 hS HC
  obtain ⟨c0, c1, c2, c3, cz⟩ := blk4 (K1.out.blk (List.Mem.head _))
  by_cases he : cE v f.length s n = 0
  rotate_left
  · have HE : Hid (bestE v f s n = (0, cE v f.length s n)) := hide (by unfold bestE; rw [if_pos he])
    have e1 : (cE v f.length s n != 0) = true := bne_iff_ne.2 he
    clear he HB
    go_wp2_with fail
    refine bodyPost_ret (results_tmp2 rfl _ _ _) rfl ?_
    exact ⟨by rw [HE.out]; rfl, K1.out.toExt⟩
  have hq : qE v f.length s = 0 ∧ ¬ outB n 1 8 = true := by
    unfold cE at he
    split at he
    · rename_i h1; exact absurd he h1
    · rename_i h1
      split at he
      · cases he
      · rename_i h2; exact ⟨by simpa using h1, h2⟩
  obtain ⟨hn1, hn8⟩ := outB_false (by simpa using hq.2)
  obtain ⟨n, rfl⟩ : ∃ k : Nat, n = k := ⟨n.toNat, by omega⟩
  have HBB := hide (HB.out _ K1.out.toExt hq.1 n (by omega) (by omega))
  have HE : Hid (bestE v f s (n : Int) = match bestL (chs (runsOf v f s) n) with
    | none => (0, 15)
    | some x => (((x.1.first + x.2.1 : Nat) : Int), 0)) := hide (by unfold bestE; rw [he, if_neg (by simp), Int.toNat_natCast]; rfl)
  rw [he]
  clear he hq hn1 hn8 HB
  go_wp2_with fail
  (with_reducible refine HBB.out.mono ?_)
  rintro e w2 ⟨rfl, hx⟩
  have X2 := hide (K1.out.toExt.trans hx)
  clear hx HBB
  cases hb : bestL (chs (runsOf v f s) n) with
  | none =>
    rw [hb] at HE
    have HE2 : Hid (bestE v f s (n : Int) = (0, 15)) := hide HE.out
    clear hb HE
    dsimp only [atB]
    go_wp2_with fail
    refine bodyPost_ret (results_tmp2 rfl _ _ _) rfl ?_
    exact ⟨by rw [HE2.out]; rfl, X2.out⟩
  | some x =>
    rw [hb] at HE
    have HE2 : Hid (bestE v f s (n : Int) = (((x.1.first + x.2.1 : Nat) : Int), 0)) := hide HE.out
    clear hb HE
    dsimp only [atB]
    have e1 : ¬ ((x.1.first + x.2.1 : Nat) : Int) < 0 := by omega
    obtain ⟨z, hz⟩ : ∃ z, ((x.1.first + x.2.1 : Nat) : Int) = z := ⟨_, rfl⟩
    rw [hz] at e1 HE2
    rw [hz]
    clear hz
    go_wp2_with fail
    refine bodyPost_ret (results_tmp2 rfl _ _ _) rfl ?_
    exact ⟨by rw [HE2.out]; rfl, X2.out⟩
end Go.Proofs.YtkhinagagncblaaDoor

namespace Go.Proofs.YtkhinagagncblaaDoor
open Go.RowKit Go.Gr Go.Ad
set_option linter.unusedVariables false
set_option linter.unusedSimpArgs false
attribute [local go_sem] rdOp rdAt rdUpon Cls forall_fr
set_option maxRecDepth 100000 in
set_option maxHeartbeats 4000000 in
theorem rlongest (l : List Run) (B : Option Addr) (bc : Nat) (w : World) (hO : OwnM w 47 3 (.slice B l.length bc) (runV l)) (h0 : 0 < l.length) (hl : l.length ≤ 2000) :
    Calls Tryd.prog 41 #[.slice B l.length bc] w fun e w' => ∃ r, l[lg l l.length]? = some r ∧ e = .returned (.agg #[.int .i64 (r.row : Nat), .int .i64 (r.first : Nat), .int .i64 (r.many : Nat)]) ∧ Ext w w' := by
  have HO := hide (fun (y : World) (k : Ext w y) => hO.ext k)
  have HL := hide hl
  obtain ⟨r0, hr0⟩ : ∃ r, l[0]? = some r := ⟨_, List.getElem?_eq_getElem h0⟩
  have HR0 := hide hr0
  have HCL := hide (fun (y : World) (k : Ext w y) (i : Nat) (r : Run) (hr : l[i]? = some r) => (HO.out y k).at5 (by decide) (runV_at hr))
  have h0i : (0 : Int) < (l.length : Int) := by omega
  obtain ⟨g, c', e1, hc', _⟩ := HCL.out w (Ext.refl w) 0 r0 hr0
  rw [runV_len] at e1 hc'
  simp only [Value.slice.injEq, true_and] at e1
  obtain ⟨rfl, rfl⟩ := e1
  have HCC := hide (fun (y : World) (k : Ext w y) (i : Nat) (r : Run) (hr : l[i]? = some r) => (show At5 y g (i * 3) (runC r) by
    obtain ⟨g', c', e1, _, h5⟩ := HCL.out y k i r hr
    rw [runV_len] at e1
    cases e1
    exact h5))
  have h0c : (0 : Int) < (bc : Int) := by omega
  clear hO hl hr0 HO HCL
  have K0 := ((Sep.refl No w).add 47 [.int .i64 0, .int .i64 0, .int .i64 0])
  go_enter Tryd.func41, Tryd.ntmps41
  go_upto_region 1 with fail
  generalize w.alloc _ = w1 at K0 ⊢
  generalize w.heap.size = g0 at K0 ⊢
  obtain ⟨x0, x1, x2⟩ := at5_3 (HCC.out _ K0.toExt 0 r0 HR0.out)
  rw [Nat.zero_mul] at x0 x1 x2
  simp only [Nat.zero_add] at x1 x2
  go_upto_region 2 with fail
  clear x0 x1 x2
  have K1 := hide (K0.add 47 (runC r0))
  dsimp only [runC] at K1
  clear K0
  generalize w1.alloc _ = w2 at K1 ⊢
  generalize w1.heap.size = g3 at K1 ⊢
  go_wp2_with fail
  go_loopw [4] (fun v4 wr => ∃ (i : Nat) (y : Run), v4 = .int .i64 i ∧ 1 ≤ i ∧ i ≤ l.length ∧ Hid (l[lg l i]? = some y) ∧ Hid (Sep No w wr [As.blk g3 47 [.int .i64 (y.row : Nat), .int .i64 (y.first : Nat), .int .i64 (y.many : Nat)], As.blk g0 47 [.int .i64 0, .int .i64 0, .int .i64 0]])) (fun v4 _ => l.length - (intOf v4).toNat)
  case atStart => exact ⟨1, r0, rfl, by omega, h0, hide (by rw [show lg l 1 = 0 by unfold lg; split <;> rfl]; exact HR0.out), K1⟩
  case round =>
    obtain ⟨i, y, rfl, hi1, hi, HY, K2⟩ := hrel
    clear K1
    have hib : i ≤ 2000 := by have := HL.out; omega
    by_cases hlt : i < l.length
    · have hli : (i : Int) < (l.length : Int) := by omega
      have hic : (i : Int) < (bc : Int) := by omega
      obtain ⟨r, hr⟩ : ∃ r, l[i]? = some r := ⟨_, List.getElem?_eq_getElem hlt⟩
      have HST : Hid (lg l (i + 1) = if y.many < r.many then i else lg l i) := hide (by rw [lg, mny_at hr, mny_at HY.out])
      have HR := hide hr
      have HLT := hide hlt
      clear hr hlt
      go_upto_region 5 with fail
      refine wp_region_wm [0, 1, 2, 3, 4, 5, 6, 7] (by kernel_rfl) (by kernel_rfl) (by kernel_rfl) (by kernel_rfl) ?_
      have K3 := K2.out.drew
      clear K2
      generalize World.drew _ = wd at *
      have b2 := (K3.blk (g := g3) (e := 47) (List.Mem.head _)).cell 2
      obtain ⟨x0, x1, x2⟩ := at5_3 (HCC.out _ K3.toExt i r HR.out)
      have K4 := hide K3
      clear K3
      iterate 4 (refine wm_rd rfl rfl (fun K hK => ?_); go_simp; refine hK _ ?_; clear hK K)
      refine wm_ld1 rfl rfl 3 (.tmp 17) rfl rfl x2 _ Tryd.underlying3 rfl ?_
      iterate 1 (refine wm_rd rfl rfl (fun K hK => ?_); go_simp; refine hK _ ?_; clear hK K)
      refine wm_ld1 rfl rfl 3 (.tmp 19) rfl rfl b2 _ Tryd.underlying3 rfl ?_
      clear b2
      by_cases hyr : y.many < r.many
      · have e3 : (y.many : Int) < (r.many : Int) := by omega
        rw [if_pos hyr] at HST
        clear hyr
        iterate 1 (refine wm_rd rfl rfl (fun K hK => ?_); go_simp; refine hK _ ?_; clear hK K)
        refine wm_nil ?_
        have tok1 : True := trivial
        go_wp2_with (have zz := tok1; clear zz tok1; refine wpList_stS [] K4.out rfl 47 (.tmp 3) (.tmp 25) rfl rfl (cs := [.int .i64 (r.row : Nat), .int .i64 (r.first : Nat), .int .i64 (r.many : Nat)]) rfl (by kernel_rfl) rfl (int3_one _ _ _) ?_; intro w5 K5; dsimp only [List.nil_append] at K5; have K6 := hide K5; clear K5)
        clear x0 x1 x2
        go_roundw
        case rel => exact ⟨i + 1, r, by go_num, by omega, HLT.out, hide (by rw [HST.out]; exact HR.out), K6⟩
        case measure => have := HLT.out; simp [intOf]; omega
      · have e3 : ¬ (y.many : Int) < (r.many : Int) := by omega
        rw [if_neg hyr] at HST
        clear hyr x0 x1 x2
        iterate 1 (refine wm_rd rfl rfl (fun K hK => ?_); go_simp; refine hK _ ?_; clear hK K)
        refine wm_nil ?_
        go_wp2_with fail
        go_roundw
        case rel => exact ⟨i + 1, y, by go_num, by omega, HLT.out, hide (by rw [HST.out]; exact HY.out), K4⟩
        case measure => have := HLT.out; simp [intOf]; omega
    · have hli : ¬ (i : Int) < (l.length : Int) := by omega
      obtain rfl : i = l.length := by omega
      obtain ⟨b0, b1, b2, bz⟩ := blk3 (K2.out.blk (g := g3) (e := 47) (List.Mem.head _))
      have tok1 : True := trivial
      clear hlt
      go_wp2_with (have zz := tok1; clear zz tok1; refine wpList_stS [_] K2.out rfl 47 (.tmp 2) (.tmp 26) rfl rfl (cs := [.int .i64 (y.row : Nat), .int .i64 (y.first : Nat), .int .i64 (y.many : Nat)]) rfl (by kernel_rfl) rfl (int3_one _ _ _) ?_; intro w5 K5; dsimp only [List.nil_append, List.cons_append] at K5; have K6 := hide K5; clear K5)
      clear b0 b1 b2 bz
      obtain ⟨b0, b1, b2, bz⟩ := blk3 (K6.out.blk (g := g0) (e := 47) (List.Mem.tail _ (List.Mem.head _)))
      refine bodyPost_ret (v := .agg #[.int .i64 (y.row : Nat), .int .i64 (y.first : Nat), .int .i64 (y.many : Nat)]) (by simp [results, Tryd.results41, go_sem, b0, b1, b2]) rfl ?_
      exact ⟨y, HY.out, rfl, K6.out.toExt⟩
/-- what is wrong with a seat -/
def plE (v : Vn) (i : Int) : Int := if (chk v).2 ≠ 0 then (chk v).2 else if i < 0 ∨ ((sumS v.secs : Nat) : Int) ≤ i then 4 else 0
def plX (v : Vn) (i : Int) : Pl := if plE v i = 0 then ((places v)[i.toNat]?).getD ⟨0, 0, 0⟩ else ⟨0, 0, 0⟩
set_option maxRecDepth 100000 in
set_option maxHeartbeats 4000000 in
theorem rplace (v : Vn) (A : Option Addr) (c : Nat) (i : Int) (w : World) (h : Secs w A v.secs) (hc : v.secs.length ≤ c) (hw : VnW v) :
    Calls Tryd.prog 25 #[.agg #[.int .i64 v.sh, .int .i64 v.ttl, .int .i64 v.ses, .slice A v.secs.length c], .int .i64 i] w fun e w' =>
      e = .returned (.tuple #[.agg #[.int .i64 ((plX v i).sec : Nat), .int .i64 ((plX v i).row : Nat), .int .i64 ((plX v i).seat : Nat)], .int .i64 (plE v i)]) ∧ Ext w w' := by
  have HS := hide (fun (y : World) (k : Ext w y) => ref_seats v A c y (h.ext k) hc hw)
  have HP := hide (fun (y : World) (k : Ext w y) (hok : VnOk v) => ref_places v A c y (h.ext k) hc hok.few hok.sec)
  clear h hc hw
  have K0 := (((Sep.refl No w).add2 24 49 [.int .i64 v.sh, .int .i64 v.ttl, .int .i64 v.ses, .slice A v.secs.length c] [.int .i64 0, .int .i64 0, .int .i64 0]))
  go_enter Tryd.func25, Tryd.ntmps25
  go_upto_region 1 with fail
  generalize World.alloc _ _ = w1 at K0 ⊢
  obtain ⟨g, hg⟩ : ∃ g, w.heap.size = g := ⟨_, rfl⟩
  obtain ⟨g2, hg2⟩ : ∃ g2, g + 1 = g2 := ⟨_, rfl⟩
  rw [hg, hg2] at K0 ⊢
  clear hg hg2
  have K1 := hide K0
  clear K0
  obtain ⟨c0, c1, c2, c3, cz⟩ := blk4 (K1.out.blk (e := 24) (List.Mem.tail _ (List.Mem.head _)))
  go_wp2_with fail
  (with_reducible refine (HS.out _ K1.out.toExt).mono ?_)
  rintro e w2 ⟨rfl, hx⟩
  have K2 := hide (K1.out.ext hx)
  clear K1 hx HS c0 c1 c2 c3 cz
  obtain ⟨c0, c1, c2, c3, cz⟩ := blk4 (K2.out.blk (e := 24) (List.Mem.tail _ (List.Mem.head _)))
  by_cases hq : (chk v).2 = 0
  rotate_left
  · have HE : Hid (plE v i = (chk v).2) := hide (by unfold plE; rw [if_pos hq])
    have HX : Hid (plX v i = ⟨0, 0, 0⟩) := hide (by unfold plX; rw [HE.out, if_neg hq])
    rw [show seatsE v = (0, (chk v).2) by unfold seatsE; rw [if_neg hq]]
    have e1 : ((chk v).2 != 0) = true := bne_iff_ne.2 hq
    have e2 : ((chk v).2 == 0) = false := beq_eq_false_iff_ne.2 hq
    have tok1 : True := trivial
    clear hq HP
    go_wp2_with (have zz := tok1; clear zz tok1; refine wpList_stS [] K2.out rfl 49 (.tmp 4) (.tmp 26) rfl rfl (cs := [.int .i64 0, .int .i64 0, .int .i64 0]) rfl (by kernel_rfl) rfl (int3_one _ _ _) ?_; intro w5 K5; dsimp only [List.nil_append, List.cons_append] at K5; have K6 := hide K5; clear K5)
    obtain ⟨b0, b1, b2, bz⟩ := blk3 (K6.out.blk (g := g2) (e := 49) (List.Mem.head _))
    refine bodyPost_ret (v := .tuple #[.agg #[.int .i64 0, .int .i64 0, .int .i64 0], .int .i64 (chk v).2]) (by simp [results, Tryd.results25, go_sem, b0, b1, b2]) rfl ?_
    exact ⟨by rw [HE.out, HX.out]; rfl, K6.out.toExt⟩
  have hok := (chk_zero hq).1
  rw [show seatsE v = (((sumS v.secs : Nat) : Int), 0) by unfold seatsE; rw [if_pos hq]]
  by_cases hb : i < 0 ∨ ((sumS v.secs : Nat) : Int) ≤ i
  · have HE : Hid (plE v i = 4) := hide (by unfold plE; rw [if_neg (by simpa using hq), if_pos hb])
    have HX : Hid (plX v i = ⟨0, 0, 0⟩) := hide (by unfold plX; rw [HE.out]; rfl)
    clear hq HP hok
    by_cases hb1 : i < 0
    · have tok1 : True := trivial
      clear hb
      go_wp2_with (have zz := tok1; clear zz tok1; refine wpList_stS [] K2.out rfl 49 (.tmp 4) (.tmp 26) rfl rfl (cs := [.int .i64 0, .int .i64 0, .int .i64 0]) rfl (by kernel_rfl) rfl (int3_one _ _ _) ?_; intro w5 K5; dsimp only [List.nil_append, List.cons_append] at K5; have K6 := hide K5; clear K5)
      obtain ⟨b0, b1, b2, bz⟩ := blk3 (K6.out.blk (g := g2) (e := 49) (List.Mem.head _))
      refine bodyPost_ret (v := .tuple #[.agg #[.int .i64 0, .int .i64 0, .int .i64 0], .int .i64 4]) (by simp [results, Tryd.results25, go_sem, b0, b1, b2]) rfl ?_
      exact ⟨by rw [HE.out, HX.out]; rfl, K6.out.toExt⟩
    · have hb2 : ((sumS v.secs : Nat) : Int) ≤ i := by omega
      have tok1 : True := trivial
      clear hb
      go_wp2_with (have zz := tok1; clear zz tok1; refine wpList_stS [] K2.out rfl 49 (.tmp 4) (.tmp 26) rfl rfl (cs := [.int .i64 0, .int .i64 0, .int .i64 0]) rfl (by kernel_rfl) rfl (int3_one _ _ _) ?_; intro w5 K5; dsimp only [List.nil_append, List.cons_append] at K5; have K6 := hide K5; clear K5)
      obtain ⟨b0, b1, b2, bz⟩ := blk3 (K6.out.blk (g := g2) (e := 49) (List.Mem.head _))
      refine bodyPost_ret (v := .tuple #[.agg #[.int .i64 0, .int .i64 0, .int .i64 0], .int .i64 4]) (by simp [results, Tryd.results25, go_sem, b0, b1, b2]) rfl ?_
      exact ⟨by rw [HE.out, HX.out]; rfl, K6.out.toExt⟩
  · have HE : Hid (plE v i = 0) := hide (by unfold plE; rw [if_neg (by simpa using hq), if_neg hb])
    obtain ⟨k, rfl⟩ : ∃ k : Nat, i = k := ⟨i.toNat, by omega⟩
    have hks : k < (places v).length := by rw [places_len]; omega
    obtain ⟨x, hx⟩ : ∃ x, (places v)[k]? = some x := ⟨_, List.getElem?_eq_getElem hks⟩
    have HX : Hid (plX v (k : Int) = x) := hide (by unfold plX; rw [HE.out, if_pos rfl, Int.toNat_natCast, hx]; rfl)
    have hb1 : ¬ (k : Int) < 0 := by omega
    have hb2 : ¬ ((sumS v.secs : Nat) : Int) ≤ (k : Int) := by omega
    have hkb : k ≤ 4096 := by have := hok.sum; omega
    have HPP := hide (HP.out w2 K2.out.toExt hok)
    have HXX := hide hx
    have hkl : (k : Int) < ((places v).length : Int) := by omega
    clear hq HP hok hb hks hx
    go_wp2_with fail
    (with_reducible refine HPP.out.mono ?_)
    rintro e w3 ⟨v', rfl, hS⟩
    have K3 := hide (K2.out.joinW hS)
    clear hS HPP K2 c0 c1 c2 c3 cz
    obtain ⟨gp, pc, e, hpc, x0, x1, x2⟩ := own_pl K3.out (List.Mem.head _) HXX.out
    subst e
    have hkc : (k : Int) < (pc : Int) := by omega
    have tok1 : True := trivial
    go_wp2_with (have zz := tok1; clear zz tok1; refine wpList_stS [_] K3.out rfl 49 (.tmp 4) (.tmp 32) rfl rfl (cs := [.int .i64 (x.sec : Nat), .int .i64 (x.row : Nat), .int .i64 (x.seat : Nat)]) rfl (by kernel_rfl) rfl (int3_one _ _ _) ?_; intro w5 K5; dsimp only [List.nil_append, List.cons_append] at K5; have K6 := hide K5; clear K5)
    clear x0 x1 x2
    obtain ⟨b0, b1, b2, bz⟩ := blk3 (K6.out.blk (g := g2) (e := 49) (List.Mem.tail _ (List.Mem.head _)))
    refine bodyPost_ret (v := .tuple #[.agg #[.int .i64 (x.sec : Nat), .int .i64 (x.row : Nat), .int .i64 (x.seat : Nat)], .int .i64 0]) (by simp [results, Tryd.results25, go_sem, b0, b1, b2]) rfl ?_
    exact ⟨by rw [HE.out, HX.out], K6.out.toExt⟩
end Go.Proofs.YtkhinagagncblaaDoor

namespace Go.Proofs.YtkhinagagncblaaDoor
open Go.RowKit Go.Gr Go.Ad
set_option linter.unusedVariables false
set_option linter.unusedSimpArgs false
attribute [local go_sem] rdOp rdAt rdUpon Cls forall_fr
/-- in which row the seats of a run are -/
theorem run_row {v : Vn} {f : List Bool} {s : Int} (hq : qE v f.length s = 0) {x : Run} (hx : x ∈ runsOf v f s) {k : Nat} (hk : k < x.many) : plE v ((x.first + k : Nat) : Int) = 0 ∧ (plX v ((x.first + k : Nat) : Int)).row = x.row ∧ (((plX v ((x.first + k : Nat) : Int)).sec : Nat) : Int) = s := by
  obtain ⟨hok, hz, _, hfl, j, rfl, hj⟩ := qE_zero hq
  obtain ⟨sc, hs⟩ : ∃ sc, v.secs[j]? = some sc := ⟨_, List.getElem?_eq_getElem hj⟩
  rw [runsOf_at hs] at hx
  obtain ⟨q, m, h1, h2, h3, h4⟩ := sec_row sc.rowsN 0 (fst0 v.secs j) (sec_fits hfl hs) hx
  have hp := place_at hs h1 (t := x.first + k - (fst0 v.secs j + (sc.rowsN.take q).sum)) (by omega)
  rw [show fst0 v.secs j + (sc.rowsN.take q).sum + (x.first + k - (fst0 v.secs j + (sc.rowsN.take q).sum)) = x.first + k by omega] at hp
  have hlt := (List.getElem?_eq_some_iff.1 hp).1
  rw [places_len] at hlt
  have hE : plE v ((x.first + k : Nat) : Int) = 0 := by unfold plE; rw [if_neg (by simpa using hz), if_neg (by omega)]
  have hX : plX v ((x.first + k : Nat) : Int) = ⟨j, q, x.first + k - (fst0 v.secs j + (sc.rowsN.take q).sum)⟩ := by unfold plX; rw [hE, if_pos rfl, Int.toNat_natCast, hp]; rfl
  exact ⟨hE, by rw [hX]; show q = x.row; omega, by rw [hX]⟩
/-- the pieces that are left -/
def pcsZ (l : List Run) (m : Nat) : List Run := if m = 0 then [] else pcs l m
set_option maxRecDepth 100000 in
set_option maxHeartbeats 8000000 in
theorem rad_Pieces (v : Vn) (A : Option Addr) (c : Nat) (f : List Bool) (F : Option Addr) (d : Nat) (s n : Int) (w : World) (h : Secs w A v.secs) (hc : v.secs.length ≤ c) (hw : VnW v)
    (hF : Rd w F (bls f)) (hd : f.length ≤ d) :
    Calls Tryd.prog 22 #[.agg #[.int .i64 v.sh, .int .i64 v.ttl, .int .i64 v.ses, .slice A v.secs.length c], .slice F f.length d, .int .i64 s, .int .i64 n] w fun e w' =>
      ∃ v', e = .returned (.tuple #[v', .int .i64 (pE v f s n)]) ∧ Sep No w w' [As.ownM 47 3 v' (runV (pL v f s n))] := by
  obtain ⟨i0, ki, kz0, kz1, kz2⟩ := info_parts infoA
  have HQ := hide (fun (y : World) (k : Ext w y) => rad_check v A c F f.length d s y (h.ext k) hc hw)
  have HR := hide (fun (y : World) (k : Ext w y) (f' : List Bool) (F' : Option Addr) (d' : Nat) (hF' : Rd y F' (bls f')) (hd' : f'.length ≤ d') (hq : qE v f'.length s = 0) => rad_runs' v A c f' F' d' s y (h.ext k) hc hw hF' hd' hq)
  have HB := hide (fun (y : World) (k : Ext w y) (f' : List Bool) (F' : Option Addr) (d' : Nat) (hF' : Rd y F' (bls f')) (hd' : f'.length ≤ d') (hq : qE v f'.length s = 0) (m : Nat) (h1 : 1 ≤ m) (h2 : m ≤ 64) => rbest v A c f' F' d' m s y (h.ext k) hc hw hF' hd' hq h1 h2)
  have HPL := hide (fun (y : World) (k : Ext w y) (i : Int) => rplace v A c i y (h.ext k) hc hw)
  have HF := hide (fun (y : World) (k : Ext w y) => hF.ext k)
  clear h hc hw hF
  have K0 := (Sep.refl No w).add 24 [.int .i64 v.sh, .int .i64 v.ttl, .int .i64 v.ses, .slice A v.secs.length c]
  go_enter Tryd.func22, Tryd.ntmps22
  go_wp2_with fail
  (with_reducible refine (HQ.out _ K0.toExt).mono ?_)
  rintro e w1 ⟨rfl, hx⟩
  have K1 := hide (K0.ext hx)
  clear K0 hx HQ
  obtain ⟨c0, c1, c2, c3, cz⟩ := blk4 (K1.out.blk (List.Mem.head _))
  by_cases hq : qE v f.length s = 0
  rotate_left
  · have HE : Hid (pE v f s n = qE v f.length s) := hide (by unfold pE; rw [if_pos hq])
    have HL : Hid (pL v f s n = []) := hide (by unfold pL; rw [HE.out, if_neg hq])
    have e1 : (qE v f.length s != 0) = true := bne_iff_ne.2 hq
    have e2 : (qE v f.length s == 0) = false := beq_eq_false_iff_ne.2 hq
    clear hq HR HB HPL
    go_wp2_with fail
    refine bodyPost_ret (results_tmp2 rfl _ _ _) rfl ?_
    refine ⟨.slice none 0 0, by rw [HE.out]; rfl, ?_⟩
    rw [HL.out]; exact (K1.out.tail).nilM _ _
  have HRR := hide (HR.out w1 K1.out.toExt f F d (HF.out _ K1.out.toExt) hd hq)
  have HFEW := hide (runsOf_few (qE_zero hq).1 f s)
  have HSML := hide (runs_small (qE_zero hq).1 (qE_zero hq).2.2.2.1 s)
  have HQ0 := hide hq
  rw [hq]
  by_cases hn : n < 1 ∨ 64 < n
  · have HE : Hid (pE v f s n = 7) := hide (by unfold pE; rw [if_neg (by simpa using hq), if_pos hn])
    have HL : Hid (pL v f s n = []) := hide (by unfold pL; rw [HE.out]; rfl)
    by_cases hn1 : n < 1
    · clear hq HRR hn HR HB HPL
      go_wp2_with fail
      refine bodyPost_ret (results_tmp2 rfl _ _ _) rfl ?_
      refine ⟨.slice none 0 0, by rw [HE.out]; rfl, ?_⟩
      rw [HL.out]; exact (K1.out.tail).nilM _ _
    · have hn2 : 64 < n := by omega
      clear hq HRR hn HR HB HPL
      go_wp2_with fail
      refine bodyPost_ret (results_tmp2 rfl _ _ _) rfl ?_
      refine ⟨.slice none 0 0, by rw [HE.out]; rfl, ?_⟩
      rw [HL.out]; exact (K1.out.tail).nilM _ _
  have hn1 : ¬ n < 1 := by omega
  have hn2 : ¬ 64 < n := by omega
  obtain ⟨n, rfl⟩ : ∃ k : Nat, n = k := ⟨n.toNat, by omega⟩
  have HN1 : Hid (1 ≤ n) := hide (by omega)
  have HN2 : Hid (n ≤ 64) := hide (by omega)
  have HPE : Hid (pE v f s (n : Int) = if ((sumM (runsOf v f s) : Nat) : Int) < (n : Int) then 15 else 0) := hide (by unfold pE; rw [if_neg (by simpa using hq), if_neg hn])
  have HPLL : Hid (pL v f s (n : Int) = if pE v f s (n : Int) = 0 then pcs (runsOf v f s) n else []) := hide (by unfold pL; rw [Int.toNat_natCast])
  clear hn hq
  go_wp2_with fail
  (with_reducible refine HRR.out.mono ?_)
  rintro e w3 ⟨v', rfl, hS⟩
  have K3 := (K1.out.joinW hS)
  clear HRR hS c0 c1 c2 c3 cz K1 hn1 hn2
  obtain ⟨B, bc, rfl, hbc⟩ := nilM_form K3
  rw [runV_len] at K3 hbc ⊢
  obtain ⟨l, hl⟩ : ∃ l, runsOf v f s = l := ⟨_, rfl⟩
  have HLL := hide hl
  rw [hl] at K3 hbc HFEW HSML HPE HPLL
  rw [hl]
  clear hl
  have KK := hide K3
  clear K3
  go_wp2_with fail
  go_loopw [11, 13] (fun v11 v13 wr => ∃ (i t : Nat), v13 = .int .i64 i ∧ v11 = .int .i64 t ∧ i ≤ l.length ∧ Hid (t = sumM (l.take i)) ∧ wr = w3) (fun _ v13 _ => l.length - (intOf v13).toNat)
  case atStart => exact ⟨0, 0, rfl, rfl, by omega, hide rfl, rfl⟩
  case round =>
    obtain ⟨i, t, rfl, rfl, hi, HT, rfl⟩ := hrel
    have hib : i ≤ 2000 := by have := HFEW.out; omega
    have htb : t ≤ 40000000 := by
      have h1 := sumM_le (l := l.take i) fun r hr => HSML.out r (List.mem_of_mem_take hr)
      have h2 : (l.take i).length ≤ 2000 := by rw [List.length_take]; omega
      have := Nat.mul_le_mul_right 20000 h2
      rw [HT.out]; omega
    by_cases hlt : i < l.length
    · have hli : (i : Int) < (l.length : Int) := by omega
      obtain ⟨r, hr⟩ : ∃ r, l[i]? = some r := ⟨_, List.getElem?_eq_getElem hlt⟩
      obtain ⟨g, gc, e, _, x0, x1, x2⟩ := own_run KK.out (List.Mem.head _) hr
      cases e
      have hic : (i : Int) < (bc : Int) := by omega
      have HST := hide (sumM_step hr)
      have HLT := hide hlt
      have hrm := (HSML.out r (List.mem_of_getElem? hr)).2.2
      clear hr hlt
      go_wp2_with fail
      clear x0 x1 x2
      go_roundw
      case rel => exact ⟨i + 1, t + r.many, by go_num, by go_num, HLT.out, hide (by rw [HST.out, HT.out]), by first | trivial | rfl⟩
      case measure => have := HLT.out; simp [intOf]; omega
    · have hli : ¬ (i : Int) < (l.length : Int) := by omega
      obtain rfl : i = l.length := by omega
      have ht2 : t = sumM l := by rw [HT.out, List.take_of_length_le (Nat.le_refl _)]
      rw [← ht2] at HPE
      by_cases htn : t < n
      · have e1 : (t : Int) < (n : Int) := by omega
        have HE : Hid (pE v f s (n : Int) = 15) := hide (by rw [HPE.out, if_pos e1])
        have HL : Hid (pL v f s (n : Int) = []) := hide (by rw [HPLL.out, HE.out]; rfl)
        clear hlt ht2 htn HR HB HPL
        go_wp2_with fail
        refine bodyPost_ret (results_tmp2 rfl _ _ _) rfl ?_
        refine ⟨.slice none 0 0, by rw [HE.out]; rfl, ?_⟩
        rw [HL.out]; exact (KK.out.tail.tail).nilM _ _
      · have e1 : ¬ (t : Int) < (n : Int) := by omega
        have HE : Hid (pE v f s (n : Int) = 0) := hide (by rw [HPE.out, if_neg e1])
        have HL : Hid (pL v f s (n : Int) = pcs l n) := hide (by rw [HPLL.out, HE.out]; rfl)
        have HSUM : Hid (n ≤ sumM (runsOf v f s)) := hide (by rw [HLL.out]; omega)
        have K4 := hide (KK.out.tail.nilM 47 3)
        have HF1 := HF
        have HD := hide hd
        clear hlt ht2 htn HPE HPLL KK HT htb HF hd
        go_wp2_with fail
        go_loopw [1, 3, 14] (fun v1 v3 v14 wr => ∃ (m d' : Nat) (f' : List Bool) (F' : Option Addr) (o : List Run) (vo : Value) (LF : List As), v3 = .int .i64 m ∧ v1 = .slice F' f.length d' ∧ v14 = vo ∧ m ≤ 64 ∧ f.length ≤ d' ∧ Hid (f'.length = f.length) ∧ Hid (∀ y, Ext w y → (∀ B ∈ LF, B.p y) → Rd y F' (bls f')) ∧ Hid (m ≤ sumM (runsOf v f' s)) ∧ Hid (o ++ pcsZ (runsOf v f' s) m = pcs l n) ∧ Hid (o.length + m ≤ 64) ∧ Hid (Sep No w wr (As.ownM 47 3 vo (runV o) :: As.blk w.heap.size 24 [.int .i64 v.sh, .int .i64 v.ttl, .int .i64 v.ses, .slice A v.secs.length c] :: LF))) (fun _ v3 _ _ => (intOf v3).toNat)
        case atStart => exact ⟨n, d, f, F, [], _, [], rfl, rfl, rfl, HN2.out, HD.out, hide rfl, hide (fun y k _ => HF1.out y k), HSUM, hide (by rw [List.nil_append, HLL.out]; unfold pcsZ; rw [if_neg (by have := HN1.out; omega)]), hide (by have := HN2.out; simpa using this), K4⟩
        case round =>
          obtain ⟨m, d', f', F', o, vo, LF, rfl, rfl, rfl, hm64, hd', HFL, HF2, HU, HEQ, HOL, K5⟩ := hrel
          clear K4 HF1
          by_cases hm0 : m = 0
          · have hmi : ¬ (0 : Int) < (m : Int) := by omega
            have HR2 : Hid (o = pcs l n) := hide (by have := HEQ.out; unfold pcsZ at this; rw [if_pos hm0, List.append_nil] at this; exact this)
            clear hm0
            go_wp2_with fail
            refine bodyPost_ret (results_tmp2 rfl _ _ _) rfl ?_
            refine ⟨u14, by rw [HE.out]; rfl, ?_⟩
            rw [HL.out, ← HR2.out]
            exact K5.out.sub (List.Sublist.cons_cons _ (List.nil_sublist _))
          have HRD := hide (HF2.out wr K5.out.toExt (fun B hB => K5.out.all B (List.mem_cons_of_mem _ (List.mem_cons_of_mem _ hB))))
          have hmi : (0 : Int) < (m : Int) := by omega
          have hm1 : 1 ≤ m := by omega
          have hq' : qE v f'.length s = 0 := by rw [HFL.out]; exact HQ0.out
          have hd2 : f'.length ≤ d' := by rw [HFL.out]; exact hd'
          have HBB := hide (HB.out wr K5.out.toExt f' F' d' HRD.out hd2 hq' m hm1 hm64)
          have HRN := hide (fun (y : World) (k : Ext wr y) => HR.out y (K5.out.toExt.trans k) f' F' d' (HRD.out.ext k) hd2 hq')
          have hfl' : f'.length = sumS v.secs := (qE_zero hq').2.2.2.1
          have HWO := hide (fun (y : World) (k : Rd y F' (bls f')) (i n : Nat) (hi : i + n ≤ f'.length) => rwithout f' F' d' i n y k hd2 hi (by rw [hfl']; have := (qE_zero hq').1.sum; omega))
          have HZE : Hid (pcsZ (runsOf v f' s) m = pcs (runsOf v f' s) m) := hide (by unfold pcsZ; rw [if_neg hm0])
          rw [HZE.out] at HEQ
          have HRO := hide (fun (x : Run) (hx : x ∈ runsOf v f' s) => runs_off hfl' hx)
          have HRW := hide (fun (x : Run) (hx : x ∈ runsOf v f' s) (k : Nat) (hk : k < x.many) => run_row hq' hx hk)
          have HWH := hide (fun (p : Nat) (x : Run) (hx : (runsOf v f' s)[p]? = some x) => runs_whole hfl' hx)
          have HPO := hide (runsOf_pos v f' s)
          have HF3 := hide (runsOf_few (qE_zero hq').1 f' s)
          rw [HFL.out] at HBB HRN HWO HRO
          have HOUT : Hid ((runV o).length < 100000) := hide (by rw [runV_len]; have := HOL.out; omega)
          obtain ⟨c0, c1, c2, c3, cz⟩ := blk4 (K5.out.blk (e := 24) (List.Mem.tail _ (List.Mem.head _)))
          clear hm0 hq' hd2 hfl' HZE
          go_wp2_with fail
          (with_reducible refine HBB.out.mono ?_)
          rintro e w5 ⟨rfl, hx⟩
          have X5 := hide hx
          have K6 := K5.out.ext hx
          clear K5 hx HBB c0 c1 c2 c3 cz
          obtain ⟨l', hl'⟩ : ∃ l', runsOf v f' s = l' := ⟨_, rfl⟩
          have HL' := hide hl'
          rw [hl'] at HU HEQ HRO HRW HWH HPO HF3
          rw [hl']
          clear hl'
          cases hb : bestL (chs l' m) with
          | some x =>
            obtain ⟨r, k, bb⟩ := x
            have HPC := hide (pcs_some hb)
            have hmm := chs_mem (bestL_mem hb)
            simp only at hmm
            have hro := HRO.out r hmm.1
            have hrw := HRW.out r hmm.1 k (by omega)
            have hfit : r.first + k + m ≤ f.length := by have := hro.1; have := hmm.2.1; omega
            rw [HPC.out] at HEQ
            dsimp only at HEQ
            obtain ⟨p, hp⟩ : ∃ p, r.first + k = p := ⟨_, rfl⟩
            rw [hp] at hrw hfit HEQ
            dsimp only [atB]
            rw [hp]
            have HOFL : Hid ((off f' p m).length = f.length) := hide ((off_len (by rw [HFL.out]; exact hfit)).trans HFL.out)
            have HNX : Hid ((o ++ [⟨r.row, p, m⟩]) ++ pcsZ (runsOf v (off f' p m) s) 0 = pcs l n) := hide (by rw [show pcsZ (runsOf v (off f' p m) s) 0 = [] from rfl, List.append_nil]; exact HEQ.out)
            have HFIT := hide hfit
            have HE0 := hide hrw.1
            have HROW := hide hrw.2.1
            clear hb hmm hro hrw hp hfit
            have e1 : ¬ (p : Int) < 0 := by omega
            obtain ⟨row, hrow⟩ : ∃ row, r.row = row := ⟨_, rfl⟩
            rw [hrow] at HROW HNX
            clear hrow
            have HU3 : Hid (0 ≤ sumM (runsOf v (off f' p m) s)) := hide (Nat.zero_le _)
            have K7 := K6.add 47 [.int .i64 0, .int .i64 (p : Nat), .int .i64 (m : Nat)]
            have X7 := hide ((Ext.refl w5).alloc (.cells #[.int .i64 0, .int .i64 (p : Nat), .int .i64 (m : Nat)] 47))
            clear K6
            go_upto_region 18 with fail
            generalize w5.alloc _ = w6 at K7 X7 ⊢
            generalize w5.heap.size = g6 at K7 ⊢
            have KA := hide K7
            have XA := hide (X5.out.trans X7.out)
            clear K7 X7 X5
            have HM1 : Hid (1 ≤ m) := hide hm1
            have HM2 : Hid (m ≤ m) := hide (Nat.le_refl _)
            have hsub : (m : Int) - (m : Int) = 0 := by omega
            obtain ⟨c0, c1, c2, c3, cz⟩ := blk4 (KA.out.blk (e := 24) (List.Mem.tail _ (List.Mem.tail _ (List.Mem.head _))))
            obtain ⟨b0, b1, b2, bz⟩ := blk3 (KA.out.blk (g := g6) (e := 47) (List.Mem.head _))
            go_wp2_with fail
            (with_reducible refine (HPL.out _ KA.out.toExt _).mono ?_)
            rintro e w7 ⟨rfl, hx⟩
            rw [HE0.out, HROW.out]
            have KB := (KA.out.ext hx).add 49 [.int .i64 ((plX v (p : Int)).sec : Nat), .int .i64 (row : Nat), .int .i64 ((plX v (p : Int)).seat : Nat)]
            clear KA hx c0 c1 c2 c3 cz b0 b1 b2 bz
            generalize plX v (p : Int) = px at *
            go_upto_region 21 with fail
            generalize w7.alloc _ = w8 at KB ⊢
            generalize w7.heap.size = g7 at KB ⊢
            obtain ⟨d0, d1, d2, dz⟩ := blk3 (KB.blk (g := g7) (e := 49) (List.Mem.head _))
            have tok1 : True := trivial
            have tok2 : True := trivial
            go_wp2_with (first
              | (have zz := tok1; clear zz tok1; refine wpList_st1S [_] KB rfl 3 (.tmp 82) (.tmp 81) rfl (i := 0) rfl rfl (by kernel_rfl) (show 0 < 3 by decide) rfl ?_; intro w9 K9; dsimp only [List.nil_append, List.cons_append, List.set] at K9; clear KB d0 d1 d2 dz; obtain ⟨b0, b1, b2, bz⟩ := blk3 (K9.blk (g := g6) (e := 47) (List.Mem.tail _ (List.Mem.head _))))
              | (have zz := tok2; clear zz tok2; refine wpList_pushM [_, _] K9 rfl (.tmp 83) (.tmp 85) 30 rfl i0 _ 24 Tryd.underlying30 ki kz0 kz1 kz2 rfl (by decide) rfl rfl (r := [.int .i64 (row : Nat), .int .i64 (p : Nat), .int .i64 (m : Nat)]) rfl (int3_one _ _ _) HOUT.out (by decide) ?_; intro v10 w10 K10; dsimp only [List.nil_append, List.cons_append] at K10; clear K9 b0 b1 b2 bz; obtain ⟨b0, b1, b2, bz⟩ := blk3 (K10.blk (g := g6) (e := 47) (List.Mem.tail _ (List.Mem.head _))); have K11 := hide K10; clear K10))
            have HRD2 := hide (HF2.out w10 K11.out.toExt (fun B hB => K11.out.all B (List.mem_cons_of_mem _ (List.mem_cons_of_mem _ (List.mem_cons_of_mem _ (List.mem_cons_of_mem _ hB))))))
            (with_reducible refine (HWO.out w10 HRD2.out p m HFIT.out).mono ?_)
            rintro e w11 ⟨v11, rfl, hS⟩
            obtain ⟨F11, d11, rfl, _, hd11, _⟩ := (hS.owns (List.Mem.head _)).form
            rw [bls_len, HOFL.out] at hd11 hS ⊢
            have K12 := K11.out.joinW hS
            clear hS K11 HRD2 b0 b1 b2 bz
            dsimp only [List.nil_append, List.cons_append] at K12
            have K13 := hide K12
            clear K12
            obtain ⟨b0, b1, b2, bz⟩ := blk3 (K13.out.blk (g := g6) (e := 47) (List.Mem.tail _ (List.Mem.tail _ (List.Mem.head _))))
            go_wp2_with fail
            clear b0 b1 b2 bz
            go_roundw
            case rel =>
              refine ⟨0, d11, off f' p m, F11, o ++ [⟨row, p, m⟩], _, [As.own 4 (.slice F11 f.length d11) (bls (off f' p m))], by (first | rfl | go_num), rfl, rfl, by omega, hd11, HOFL, hide (fun y k hB => ?_), ?_, hide ?_, hide ?_, hide ?_⟩
              · have h1 := hB _ (List.Mem.head _)
                have h2 : Go.Gr.Own 0 y 4 (.slice F11 f.length d11) (bls (off f' p m)) := h1
                obtain ⟨B, c, e, h3, _⟩ := h2.form
                rw [bls_len, HOFL.out] at e
                cases e
                exact h3
              · exact HU3
              · exact HNX.out
              · rw [List.length_append]; have := HOL.out; have := HM1.out; have := HM2.out; simp; omega
              · rw [runV_append]
                exact (K13.out.sub (List.Sublist.cons_cons _ (List.Sublist.cons _ (List.Sublist.cons _ (List.Sublist.cons_cons _ (List.Sublist.cons_cons _ (List.nil_sublist _))))))).perm ((List.Perm.swap _ _ _).trans (List.Perm.cons _ (List.Perm.swap _ _ _)))
            case measure => have := HM1.out; have := HM2.out; simp [intOf]; omega
          | none =>
            have HNC := hide (no_choice hb hm1)
            have HBN := hide hb
            have hlp : 0 < l'.length := by
              rcases Nat.eq_zero_or_pos l'.length with h0 | h0
              · have : l' = [] := List.eq_nil_of_length_eq_zero h0
                have h1 := HU.out
                rw [this] at h1
                simp [sumM] at h1
                omega
              · exact h0
            have HLP := hide hlp
            clear hb hlp
            dsimp only [atB]
            have K7 := K6.add 47 [.int .i64 0, .int .i64 (-1), .int .i64 (m : Nat)]
            have X7 := hide ((Ext.refl w5).alloc (.cells #[.int .i64 0, .int .i64 (-1), .int .i64 (m : Nat)] 47))
            clear K6
            go_upto_region 18 with fail
            generalize w5.alloc _ = w6 at K7 X7 ⊢
            generalize w5.heap.size = g6 at K7 ⊢
            obtain ⟨c0, c1, c2, c3, cz⟩ := blk4 (K7.blk (e := 24) (List.Mem.tail _ (List.Mem.tail _ (List.Mem.head _))))
            have K8 := hide K7
            clear K7
            go_wp2_with fail
            (with_reducible refine (HRN.out w6 (X5.out.trans X7.out)).mono ?_)
            rintro e w7 ⟨v7, rfl, hS⟩
            rw [HL'.out] at hS
            obtain ⟨B7, b7, rfl, _⟩ := nilM_form' hS
            rw [runV_len] at hS ⊢
            have HLO := hide (rlongest l' B7 b7 w7 (hS.ownsM (List.Mem.head _)) HLP.out HF3.out)
            have K9 := hide (K8.out.ext hS.toExt)
            clear K8 hS X7 X5 c0 c1 c2 c3 cz
            go_wp2_with fail
            (with_reducible refine HLO.out.mono ?_)
            rintro e w8 ⟨r, hr, rfl, hx⟩
            have K10 := K9.out.ext hx
            clear K9 hx HLO
            have hmem := List.mem_of_getElem? hr
            have HPC := hide (pcs_none HBN.out hr)
            have hrm := HNC.out r hmem
            have hrp := HPO.out r hmem
            have hro := (HRO.out r hmem).1
            have hrw := HRW.out r hmem 0 hrp
            rw [Nat.add_zero] at hrw
            have hwh := HWH.out _ r hr
            have her := sumM_erase hr
            obtain ⟨row, p, M⟩ := r
            dsimp only at hrm hrp hro hrw hwh her ⊢
            have HFIT : Hid (p + M ≤ f.length) := hide hro
            have HOFL : Hid ((off f' p M).length = f.length) := hide ((off_len (by rw [HFL.out]; exact HFIT.out)).trans HFL.out)
            have HU3 : Hid (m - M ≤ sumM (runsOf v (off f' p M) s)) := hide (by rw [hwh]; have := HU.out; omega)
            have HNX : Hid ((o ++ [⟨row, p, M⟩]) ++ pcsZ (runsOf v (off f' p M) s) (m - M) = pcs l n) := hide (by
              rw [hwh]
              unfold pcsZ
              rw [if_neg (by omega), ← HEQ.out, HPC.out, List.append_assoc]
              rfl)
            have HE0 := hide hrw.1
            have HROW := hide hrw.2.1
            have HM1 : Hid (1 ≤ M) := hide hrp
            have HM2 : Hid (M ≤ m) := hide (by omega)
            have hsub : (m : Int) - (M : Int) = ((m - M : Nat) : Int) := by omega
            have hMb : M ≤ 64 := by omega
            clear hmem hrm hrp hro hrw hwh her hr HPC
            have tok0 : True := trivial
            go_upto_region 20 with (have zz := tok0; clear zz tok0; refine wpList_stS [] K10 rfl 47 (.tmp 16) (.tmp 72) rfl rfl (cs := [.int .i64 (row : Nat), .int .i64 (p : Nat), .int .i64 (M : Nat)]) rfl (by kernel_rfl) rfl (int3_one _ _ _) ?_; intro w9 K11; dsimp only [List.nil_append] at K11; clear K10)
            have KA := hide K11
            clear K11
            obtain ⟨c0, c1, c2, c3, cz⟩ := blk4 (KA.out.blk (e := 24) (List.Mem.tail _ (List.Mem.tail _ (List.Mem.head _))))
            obtain ⟨b0, b1, b2, bz⟩ := blk3 (KA.out.blk (g := g6) (e := 47) (List.Mem.head _))
            go_wp2_with fail
            (with_reducible refine (HPL.out _ KA.out.toExt _).mono ?_)
            rintro e w7 ⟨rfl, hx⟩
            rw [HE0.out, HROW.out]
            have KB := (KA.out.ext hx).add 49 [.int .i64 ((plX v (p : Int)).sec : Nat), .int .i64 (row : Nat), .int .i64 ((plX v (p : Int)).seat : Nat)]
            clear KA hx c0 c1 c2 c3 cz b0 b1 b2 bz
            generalize plX v (p : Int) = px at *
            go_upto_region 21 with fail
            generalize w7.alloc _ = w8 at KB ⊢
            generalize w7.heap.size = g7 at KB ⊢
            obtain ⟨d0, d1, d2, dz⟩ := blk3 (KB.blk (g := g7) (e := 49) (List.Mem.head _))
            have tok1 : True := trivial
            have tok2 : True := trivial
            go_wp2_with (first
              | (have zz := tok1; clear zz tok1; refine wpList_st1S [_] KB rfl 3 (.tmp 82) (.tmp 81) rfl (i := 0) rfl rfl (by kernel_rfl) (show 0 < 3 by decide) rfl ?_; intro w9 K9; dsimp only [List.nil_append, List.cons_append, List.set] at K9; clear KB d0 d1 d2 dz; obtain ⟨b0, b1, b2, bz⟩ := blk3 (K9.blk (g := g6) (e := 47) (List.Mem.tail _ (List.Mem.head _))))
              | (have zz := tok2; clear zz tok2; refine wpList_pushM [_, _] K9 rfl (.tmp 83) (.tmp 85) 30 rfl i0 _ 24 Tryd.underlying30 ki kz0 kz1 kz2 rfl (by decide) rfl rfl (r := [.int .i64 (row : Nat), .int .i64 (p : Nat), .int .i64 (M : Nat)]) rfl (int3_one _ _ _) HOUT.out (by decide) ?_; intro v10 w10 K10; dsimp only [List.nil_append, List.cons_append] at K10; clear K9 b0 b1 b2 bz; obtain ⟨b0, b1, b2, bz⟩ := blk3 (K10.blk (g := g6) (e := 47) (List.Mem.tail _ (List.Mem.head _))); have K11 := hide K10; clear K10))
            have HRD2 := hide (HF2.out w10 K11.out.toExt (fun B hB => K11.out.all B (List.mem_cons_of_mem _ (List.mem_cons_of_mem _ (List.mem_cons_of_mem _ (List.mem_cons_of_mem _ hB))))))
            (with_reducible refine (HWO.out w10 HRD2.out p M HFIT.out).mono ?_)
            rintro e w11 ⟨v11, rfl, hS⟩
            obtain ⟨F11, d11, rfl, _, hd11, _⟩ := (hS.owns (List.Mem.head _)).form
            rw [bls_len, HOFL.out] at hd11 hS ⊢
            have K12 := K11.out.joinW hS
            clear hS K11 HRD2 b0 b1 b2 bz
            dsimp only [List.nil_append, List.cons_append] at K12
            have K13 := hide K12
            clear K12
            obtain ⟨b0, b1, b2, bz⟩ := blk3 (K13.out.blk (g := g6) (e := 47) (List.Mem.tail _ (List.Mem.tail _ (List.Mem.head _))))
            go_wp2_with fail
            clear b0 b1 b2 bz
            go_roundw
            case rel =>
              refine ⟨m - M, d11, off f' p M, F11, o ++ [⟨row, p, M⟩], _, [As.own 4 (.slice F11 f.length d11) (bls (off f' p M))], by (first | rfl | go_num), rfl, rfl, by omega, hd11, HOFL, hide (fun y k hB => ?_), ?_, hide ?_, hide ?_, hide ?_⟩
              · have h1 := hB _ (List.Mem.head _)
                have h2 : Go.Gr.Own 0 y 4 (.slice F11 f.length d11) (bls (off f' p M)) := h1
                obtain ⟨B, c, e, h3, _⟩ := h2.form
                rw [bls_len, HOFL.out] at e
                cases e
                exact h3
              · exact HU3
              · exact HNX.out
              · rw [List.length_append]; have := HOL.out; have := HM1.out; have := HM2.out; simp; omega
              · rw [runV_append]
                exact (K13.out.sub (List.Sublist.cons_cons _ (List.Sublist.cons _ (List.Sublist.cons _ (List.Sublist.cons_cons _ (List.Sublist.cons_cons _ (List.nil_sublist _))))))).perm ((List.Perm.swap _ _ _).trans (List.Perm.cons _ (List.Perm.swap _ _ _)))
            case measure => have := HM1.out; have := HM2.out; simp [intOf]; omega
end Go.Proofs.YtkhinagagncblaaDoor

