/- Seats side by side: runs, and seats alone, by the reference. -/
import Derived.Test.YtkhinagagncblaaDoorB4
import Derived.Test.YtkhinagagncblaaDoorA10
namespace Go.Proofs.YtkhinagagncblaaDoor
open Go.RowKit Go.Gr Go.Ad
set_option linter.unusedVariables false
set_option linter.unusedSimpArgs false
attribute [local go_sem] rdOp rdAt rdUpon Cls forall_fr
set_option maxRecDepth 100000 in
set_option maxHeartbeats 4000000 in
theorem rad_check (v : Vn) (A : Option Addr) (c : Nat) (F : Option Addr) (n d : Nat) (s : Int) (w : World) (h : Secs w A v.secs) (hc : v.secs.length ≤ c) (hw : VnW v) :
    Calls Tryd.prog 31 #[.agg #[.int .i64 v.sh, .int .i64 v.ttl, .int .i64 v.ses, .slice A v.secs.length c], .slice F n d, .int .i64 s] w fun e w' => e = .returned (.int .i64 (qE v n s)) ∧ Ext w w' := by
  have HS := hide (fun (y : World) (k : Ext w y) => ref_seats v A c y (h.ext k) hc hw)
  clear h hc hw
  have K0 := (Sep.refl No w).add 24 [.int .i64 v.sh, .int .i64 v.ttl, .int .i64 v.ses, .slice A v.secs.length c]
  go_enter Tryd.func31, Tryd.ntmps31
  go_wp2_with fail
  (with_reducible refine (HS.out _ K0.toExt).mono ?_)
  rintro e w1 ⟨rfl, hx⟩
  have K1 := hide (K0.ext hx)
  clear K0 hx HS
  obtain ⟨c0, c1, c2, c3, cz⟩ := blk4 (K1.out.blk (List.Mem.head _))
  by_cases h1 : (seatsE v).2 = 0
  · have e0 : ((seatsE v).2 == 0) = true := beq_iff_eq.2 h1
    by_cases h2 : (n : Int) = (seatsE v).1
    · have e2 : ((n : Int) != (seatsE v).1) = false := by rw [h2]; exact bne_self_eq_false _
      have e1 : ((seatsE v).2 != 0) = false := by rw [h1]; rfl
      by_cases h3 : s < 0
      · have HE : Hid (qE v n s = 4) := hide (by unfold qE; rw [if_neg (by simpa using h1), if_neg (by simpa using h2), if_pos (.inl h3)])
        clear h1 h2
        go_wp2_with fail
        go_ret
        exact ⟨by rw [HE.out]; rfl, K1.out.toExt⟩
      · by_cases h4 : (v.secs.length : Int) ≤ s
        · have HE : Hid (qE v n s = 4) := hide (by unfold qE; rw [if_neg (by simpa using h1), if_neg (by simpa using h2), if_pos (.inr h4)])
          clear h1 h2
          go_wp2_with fail
          go_ret
          exact ⟨by rw [HE.out]; rfl, K1.out.toExt⟩
        · have HE : Hid (qE v n s = 0) := hide (by unfold qE; rw [if_neg (by simpa using h1), if_neg (by simpa using h2), if_neg (by omega)])
          have HZ := hide h1
          clear h1 h2
          go_wp2_with fail
          go_ret
          exact ⟨by rw [HE.out, ← HZ.out]; rfl, K1.out.toExt⟩
    · have e2 : ((n : Int) != (seatsE v).1) = true := bne_iff_ne.2 h2
      have HE : Hid (qE v n s = 6) := hide (by unfold qE; rw [if_neg (by simpa using h1), if_pos h2])
      clear h1 h2
      go_wp2_with fail
      go_ret
      exact ⟨by rw [HE.out]; rfl, K1.out.toExt⟩
  · have e1 : ((seatsE v).2 == 0) = false := beq_eq_false_iff_ne.2 h1
    have HE : Hid (qE v n s = (seatsE v).2) := hide (by unfold qE; rw [if_pos h1])
    clear h1
    go_wp2_with fail
    go_ret
    exact ⟨by rw [HE.out]; rfl, K1.out.toExt⟩
/-- the last run of a list has other seats -/
theorem last_set {w0 w : World} {v : Value} {O : List Run} {r : Run} {L : List As} (m : Nat) (u : Value) (hu : u = .int .i64 (m : Nat)) (H : Sep No w0 w (As.ownM 47 3 v (runV (O ++ [r])) :: L)) :
    ∃ g c z, v = .slice (some ⟨g, 0, none⟩) z c ∧ z ≤ c ∧ (z : Int) - 1 = (O.length : Int) ∧ z = O.length + 1 ∧ w.cell? ⟨g, O.length * 3 + 2, none⟩ = some (.int .i64 (r.many : Nat)) ∧ w.frozen? ⟨g, O.length * 3 + 2, none⟩ = false ∧ g < w.heap.size ∧
      Sep No w0 (w.setCell ⟨g, O.length * 3 + 2, none⟩ u) (As.ownM 47 3 v (runV (O ++ [⟨r.row, r.first, m⟩])) :: L) := by
  have hr : (runV (O ++ [r]))[O.length]? = some (runC r) := runV_at (by simp)
  obtain ⟨g, c, e, hc, h1, h2, h3, h4⟩ := Sep.setM [] H (j := 2) hr (by decide) u
  rw [runV_len] at e hc
  refine ⟨g, c, O.length + 1, by rw [e]; simp, by simpa using hc, by omega, rfl, h1, h2, h3, ?_⟩
  have e2 : (runV (O ++ [r])).set O.length ((runC r).set 2 u) = runV (O ++ [⟨r.row, r.first, m⟩]) := by
    rw [hu]
    simp [runV, runC, List.set_append]
  rw [← e2]
  exact h4
theorem push_last {w0 w : World} {v : Value} {O : List Run} {k p z2 : Nat} {L : List As} (hz : O.length = z2) (hb : z2 ≤ 3000) (H : Sep No w0 w (As.ownM 47 3 v (runV O ++ [[.int .i64 (k : Nat), .int .i64 (p : Nat), .int .i64 0]]) :: L)) :
    ∃ g c z, v = .slice (some ⟨g, 0, none⟩) z c ∧ (z2 : Int) < (z : Int) ∧ (z2 : Int) < (c : Int) ∧ (z : Int) - 1 = (z2 : Int) ∧ z ≤ 5000 ∧ w.cell? ⟨g, z2 * 3 + 2, none⟩ = some (.int .i64 0) ∧ w.frozen? ⟨g, z2 * 3 + 2, none⟩ = false ∧ g < w.heap.size ∧
      Sep No w0 (w.setCell ⟨g, z2 * 3 + 2, none⟩ (.int .i64 1)) (As.ownM 47 3 v (runV (O ++ [⟨k, p, 1⟩])) :: L) := by
  have H2 : Sep No w0 w (As.ownM 47 3 v (runV (O ++ [⟨k, p, 0⟩])) :: L) := by
    rw [runV_append]
    exact H
  obtain ⟨g, c, z, h1, h2, h3, h4, h5, h6, h7, h8⟩ := last_set 1 (.int .i64 1) rfl H2
  rw [hz] at h3 h4 h5 h6 h8
  exact ⟨g, c, z, h1, by omega, by omega, h3, by omega, h5, h6, h7, h8⟩
set_option maxRecDepth 100000 in
set_option maxHeartbeats 8000000 in
theorem rad_runs (v : Vn) (A : Option Addr) (c : Nat) (f : List Bool) (F : Option Addr) (d j : Nat) (sc : Sc) (w : World) (h : Secs w A v.secs) (hc : v.secs.length ≤ c) (hw : VnW v) (hok : VnOk v) (hz : (chk v).2 = 0)
    (hF : Rd w F (bls f)) (hd : f.length ≤ d) (hfl : f.length = sumS v.secs) (hj : v.secs[j]? = some sc) :
    Calls Tryd.prog 32 #[.agg #[.int .i64 v.sh, .int .i64 v.ttl, .int .i64 v.ses, .slice A v.secs.length c], .slice F f.length d, .int .i64 j] w fun e w' =>
      ∃ v', e = .returned v' ∧ Sep No w w' [As.ownM 47 3 v' (runV (secRuns f 0 (fst0 v.secs j) sc.rowsN))] := by
  obtain ⟨i0, ki, kz0, kz1, kz2⟩ := info_parts infoA
  have HROW := hide (fun (y : World) (k : Ext w y) (q n : Nat) (hn : sc.rowsN[q]? = some n) => ref_row v A c j q n sc y (h.ext k) hc hw hz hj hn)
  obtain ⟨b, off, R, rc, hA, h5, hR, hrc⟩ := h j sc hj
  have H5 := hide (fun (y : World) (k : Ext w y) => h5.ext k)
  have HF := hide (fun (y : World) (k : Ext w y) => hF.ext k)
  have HSO := hide (hok.sec sc (List.mem_of_getElem? hj))
  have HJ := hide hj
  have HD := hide hd
  have HFL := hide hfl
  have HFS := hide (fst0_le hok (j := j))
  have hjc : (j : Int) < (v.secs.length : Int) := by have := (List.getElem?_eq_some_iff.1 hj).1; omega
  have hjc2 : (j : Int) < (c : Int) := by omega
  have hj8 : j ≤ 8 := by have := hok.few; omega
  clear h hc hw hok hz h5 hR hF hj hd hfl
  have K0 := (Sep.refl No w).add 24 [.int .i64 v.sh, .int .i64 v.ttl, .int .i64 v.ses, .slice A v.secs.length c]
  subst hA
  go_enter Tryd.func32, Tryd.ntmps32
  go_upto_region 1 with fail
  generalize w.alloc _ = w1 at K0 ⊢
  generalize w.heap.size = g1 at K0 ⊢
  have K1 := hide (K0.nilM 47 3)
  clear K0
  go_wp2_with fail
  go_loopw [7, 8] (fun v7 v8 wr => ∃ (k : Nat) (vo : Value), v8 = .int .i64 k ∧ v7 = vo ∧ k ≤ sc.rows.length ∧ Hid (Sep No w wr [As.ownM 47 3 vo (runV (secRuns f 0 (fst0 v.secs j) (sc.rowsN.take k))), As.blk g1 24 [.int .i64 v.sh, .int .i64 v.ttl, .int .i64 v.ses, .slice (some ⟨b, off, none⟩) v.secs.length c]])) (fun _ v8 _ => sc.rows.length - (intOf v8).toNat)
  case atStart => exact ⟨0, _, rfl, rfl, by omega, by rw [List.take_zero]; exact K1⟩
  case round =>
    obtain ⟨k, vo, rfl, rfl, hk, K3⟩ := hrel
    clear K1
    have hkb : k ≤ 16 := by have := HSO.out.few; omega
    obtain ⟨c0, c1, c2, c3, cz⟩ := blk4 (K3.out.blk (g := g1) (e := 24) (List.Mem.tail _ (List.Mem.head _)))
    obtain ⟨d0, d1, d2⟩ := at5_3 (H5.out _ K3.out.toExt)
    by_cases hkl : k < sc.rows.length
    · have hkli : (k : Int) < (sc.rows.length : Int) := by omega
      obtain ⟨x, hx⟩ : ∃ x, sc.rows[k]? = some x := ⟨_, List.getElem?_eq_getElem hkl⟩
      have hxr := HSO.out.row x (List.mem_of_getElem? hx)
      obtain ⟨n, rfl⟩ : ∃ n : Nat, x = n := ⟨x.toNat, by omega⟩
      have hrn := rowsN_get hx
      rw [Int.toNat_natCast] at hrn
      have HRR := hide (HROW.out _ K3.out.toExt k n hrn)
      have HST := hide (secRuns_step (f := f) (a := fst0 v.secs j) hrn)
      have hseg := seg_in HJ.out hrn
      obtain ⟨a, ha⟩ : ∃ a, fst0 v.secs j + (sc.rowsN.take k).sum = a := ⟨_, rfl⟩
      have hab : a ≤ 9216 := by
        have h1 := sc_sum HSO.out
        have h2 := sum_take_le sc.rowsN k
        have h3 := HFS.out
        unfold Sc.sum at h1
        omega
      rw [← HFL.out, ha] at hseg
      rw [ha] at HRR HST
      have hn64 : n ≤ 64 := by omega
      have HKL := hide hkl
      have HSEG := hide hseg
      have HRL : Hid ((secRuns f 0 (fst0 v.secs j) (sc.rowsN.take k)).length ≤ 2000) := hide (by
        have h0 := secRuns_few f (sc.rowsN.take k) 0 (fst0 v.secs j)
        have h1 := sc_sum HSO.out
        have h2 := sum_take_le sc.rowsN k
        have h3 : (sc.rowsN.take k).length ≤ k := by rw [List.length_take]; omega
        unfold Sc.sum at h1
        omega)
      clear hx hxr hkl hrn hseg ha
      go_wp2_with fail
      (with_reducible refine HRR.out.mono ?_)
      rintro e w4 ⟨rfl, hx⟩
      have K5 := hide (K3.out.ext hx)
      clear K3 hx HRR c0 c1 c2 c3 cz d0 d1 d2
      obtain ⟨O, hO⟩ : ∃ O, secRuns f 0 (fst0 v.secs j) (sc.rowsN.take k) = O := ⟨_, rfl⟩
      rw [hO] at K5 HST HRL
      clear hO
      obtain ⟨bits, hbits⟩ : ∃ l, (f.drop a).take n = l := ⟨_, rfl⟩
      have HBL : Hid (bits.length = n) := hide (by rw [← hbits, List.length_take, List.length_drop]; have := HSEG.out; omega)
      have HBT := hide hbits
      clear hbits
      rw [HBT.out] at HST
      go_wp2_with fail
      go_loopw [7, 12, 13] (fun v7 v12 v13 wy => ∃ (i p : Nat) (bg : Bool) (vo : Value), v13 = .int .i64 p ∧ v12 = .bool bg ∧ v7 = vo ∧ i ≤ n ∧ Hid (p = a + i) ∧ Hid (bg = !decide ((go0 k a (bits.take i)).m = 0)) ∧ Hid (Sep No w wy [As.ownM 47 3 vo (runV (O ++ (go0 k a (bits.take i)).all k)), As.blk g1 24 [.int .i64 v.sh, .int .i64 v.ttl, .int .i64 v.ses, .slice (some ⟨b, off, none⟩) v.secs.length c]])) (fun _ _ v13 _ => a + n - (intOf v13).toNat)
      case atStart => exact ⟨0, a, false, _, rfl, rfl, rfl, by omega, hide rfl, hide rfl, by rw [List.take_zero, go0_nil]; simpa [Sta.all] using K5⟩
      case round =>
        obtain ⟨i, p, bg, vp, rfl, rfl, rfl, hi, HP, HBG, K6⟩ := hrel
        clear K5
        have hp : p = a + i := HP.out
        by_cases hin : i = n
        · have hli : ¬ (p : Int) < (a : Int) + (n : Int) := by omega
          have HAL : Hid ((go0 k a (bits.take i)).all k = runsGo k a 0 bits) := hide (by
            rw [hin, List.take_of_length_le (by rw [HBL.out]; exact Nat.le_refl _), go0_all])
          rw [HAL.out] at K6
          clear hp hin HBG
          go_wp2_with fail
          go_roundw
          case rel => exact ⟨k + 1, _, by go_num, rfl, HKL.out, hide (by rw [HST.out]; exact K6.out)⟩
          case measure => have := HKL.out; simp [intOf]; omega
        · have hli : (p : Int) < (a : Int) + (n : Int) := by omega
          have hi64 : i ≤ 64 := by omega
          have hpb : p ≤ 20000 := by omega
          obtain ⟨st, hst⟩ : ∃ st, (go0 k a (bits.take i)) = st := ⟨_, rfl⟩
          have hpos := go0_pos k a (bits.take i)
          have hdl := go0_done_le k a (bits.take i)
          rw [List.length_take, Nat.min_eq_left (by have := HBL.out; omega), hst] at hpos hdl
          have HDL := hide hdl
          have hm64 : st.m ≤ 10000 := by omega
          rw [hst] at K6 HBG
          have HPOS := hide hpos
          obtain ⟨bb, hbb⟩ : ∃ bb, bits[i]? = some bb := ⟨_, List.getElem?_eq_getElem (by have := HBL.out; omega)⟩
          have HNX := hide (st_next (r := k) (a := a) hbb)
          rw [hst] at HNX
          have HIN : Hid (i + 1 ≤ n) := hide (by omega)
          obtain ⟨u, hu⟩ : ∃ u, f[a + i]? = some u := ⟨_, List.getElem?_eq_getElem (by have := HSEG.out; omega)⟩
          have hub : u = bb := by
            have h1 := HBT.out
            rw [← h1, List.getElem?_take, if_pos (by omega), List.getElem?_drop, hu] at hbb
            exact Option.some.inj hbb
          subst hub
          obtain ⟨fd, hFA, cf⟩ := bls_at (HF.out _ K6.out.toExt) hu
          rw [← HP.out] at cf
          subst hFA
          have hpd : (p : Int) < (f.length : Int) := by have := HSEG.out; omega
          have hpd2 : (p : Int) < (d : Int) := by have := HD.out; omega
          clear hst hpos hdl hp hin hbb hu
          cases u
          · have HALL : Hid ((stp k st false).all k = st.all k) := hide (by simp [stp, Sta.all])
            have HM0 : Hid (false = !decide ((stp k st false).m = 0)) := hide rfl
            go_wp2_with fail
            clear cf
            go_roundw
            case rel =>
              refine ⟨i + 1, p + 1, false, _, by go_num, rfl, rfl, HIN.out, hide (by rw [HP.out]; omega), hide (by rw [HNX.out]; rfl), hide ?_⟩
              rw [HNX.out, HALL.out]
              exact K6.out
            case measure => have := HIN.out; have := HP.out; simp [intOf]; omega
          · have HM1 : Hid (true = !decide ((stp k st true).m = 0)) := hide (by simp [stp])
            by_cases hm : st.m = 0
            · have hbg : bg = false := by rw [HBG.out, hm]; rfl
              subst hbg
              have HALL : Hid ((stp k st true).all k = st.done ++ [⟨k, p, 1⟩]) := hide (by
                have := HPOS.out
                have := HP.out
                simp only [stp, Sta.all, if_pos]
                rw [cl_pos (by omega), hm, show st.a = p by omega])
              have HAL0 : Hid (st.all k = st.done) := hide (by rw [Sta.all, hm, cl_zero, List.append_nil])
              rw [HAL0.out] at K6
              obtain ⟨O2, hO2⟩ : ∃ O2, O ++ st.done = O2 := ⟨_, rfl⟩
              have hO2l : O2.length ≤ 3000 := by rw [← hO2, List.length_append]; have := HRL.out; have := HDL.out; omega
              rw [hO2] at K6
              have HO2 := hide hO2
              have HOUT : Hid ((runV O2).length < 100000) := hide (by rw [runV_len]; omega)
              obtain ⟨z2, hz2⟩ : ∃ z2, O2.length = z2 := ⟨_, rfl⟩
              rw [hz2] at hO2l
              have HZ2 := hide hz2
              have tok1 : True := trivial
              clear hm hO2 hz2 HBG
              go_wp2_with (have zz := tok1; clear zz tok1; refine wpList_pushM [] K6.out rfl (.tmp 48) (.tmp 52) 30 rfl i0 _ 24 Tryd.underlying30 ki kz0 kz1 kz2 rfl (by decide) rfl rfl (r := [.int .i64 (k : Nat), .int .i64 (p : Nat), .int .i64 0]) rfl (int3_one _ _ _) HOUT.out (by decide) ?_; intro v7 w7 K7; dsimp only [List.nil_append, List.cons_append] at K7; obtain ⟨g7, c7, z, ev, hzz, hzd, hz1, hzb, x0, x1, x2, K8⟩ := push_last HZ2.out hO2l K7; clear K7; subst ev; have K9 := hide K8; clear K8)
              clear cf x0 x1 x2
              go_roundw
              case rel =>
                refine ⟨i + 1, p + 1, true, _, by go_num, rfl, rfl, HIN.out, hide (by rw [HP.out]; omega), hide (by rw [HNX.out]; exact HM1.out), hide ?_⟩
                rw [HNX.out, HALL.out, ← List.append_assoc, HO2.out]
                exact K9.out
              case measure => have := HIN.out; have := HP.out; simp [intOf]; omega
            · have hbg : bg = true := by rw [HBG.out]; simpa using hm
              subst hbg
              have HALL : Hid ((stp k st true).all k = st.done ++ [⟨k, st.a, st.m + 1⟩]) := hide (by
                simp only [stp, Sta.all, if_pos]
                rw [cl_pos (by omega)])
              have HAL0 : Hid (st.all k = st.done ++ [⟨k, st.a, st.m⟩]) := hide (by rw [Sta.all, cl_pos (by omega)])
              rw [HAL0.out, ← List.append_assoc] at K6
              obtain ⟨O2, hO2⟩ : ∃ O2, O ++ st.done = O2 := ⟨_, rfl⟩
              have hO2l : O2.length ≤ 3000 := by rw [← hO2, List.length_append]; have := HRL.out; have := HDL.out; omega
              rw [hO2] at K6
              have HO2 := hide hO2
              obtain ⟨g7, c7, z, ev, hzc, hz1, hz3, x0, x1, x2, K8⟩ := last_set (st.m + 1) (.int .i64 ((st.m : Int) + 1)) rfl K6.out
              subst ev
              obtain ⟨z2, hz2⟩ : ∃ z2, O2.length = z2 := ⟨_, rfl⟩
              rw [hz2] at x0 x1 K8 hz1 hz3 hO2l
              have K9 := hide K8
              have hzz : (z2 : Int) < (z : Int) := by omega
              have hzd : (z2 : Int) < (c7 : Int) := by omega
              have hzb : z ≤ 5000 := by omega
              clear hm hO2 hz2 HBG K8 hz3 hzc
              dsimp only at x0
              go_wp2_with fail
              clear cf x0 x1 x2
              go_roundw
              case rel =>
                refine ⟨i + 1, p + 1, true, _, by go_num, rfl, rfl, HIN.out, hide (by rw [HP.out]; omega), hide (by rw [HNX.out]; exact HM1.out), hide ?_⟩
                rw [HNX.out, HALL.out, ← List.append_assoc, HO2.out]
                exact K9.out
              case measure => have := HIN.out; have := HP.out; simp [intOf]; omega
    · have hkli : ¬ (k : Int) < (sc.rows.length : Int) := by omega
      have hrl : sc.rowsN.length = sc.rows.length := by unfold Sc.rowsN; rw [List.length_map]
      obtain rfl : k = sc.rows.length := by omega
      rw [List.take_of_length_le (by omega)] at K3
      clear hkl hrl
      go_wp2_with fail
      go_ret
      exact ⟨_, rfl, K3.out.sub (List.Sublist.cons_cons _ (List.nil_sublist _))⟩
end Go.Proofs.YtkhinagagncblaaDoor
