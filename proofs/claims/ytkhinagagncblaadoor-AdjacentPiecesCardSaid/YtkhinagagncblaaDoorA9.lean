/- Seats side by side: the runs of a section, by the program. -/
import Derived.Test.YtkhinagagncblaaDoorA8
namespace Go.Proofs.YtkhinagagncblaaDoor
open Go.RowKit Go.Gr Go.Ad
set_option linter.unusedVariables false
set_option linter.unusedSimpArgs false
attribute [local go_sem] rdOp rdAt rdUpon Cls forall_fr
def runC (r : Run) : List Value := [.int .i64 (r.row : Nat), .int .i64 (r.first : Nat), .int .i64 (r.many : Nat)]
def runV (l : List Run) : List (List Value) := l.map runC
theorem runV_len (l : List Run) : (runV l).length = l.length := by simp [runV]
theorem runV_append (l m : List Run) : runV (l ++ m) = runV l ++ runV m := by simp [runV]
theorem runC_one (r : Run) : ∀ v ∈ runC r, v.oneCell' = true := by
  intro v hv
  simp only [runC, List.mem_cons, List.not_mem_nil, or_false] at hv
  rcases hv with rfl | rfl | rfl <;> rfl
theorem infoA : (Tryd.prog.info? 47).map (fun i => (i.zero, i.size, i.bytes)) = some (some (.agg #[.int .i64 0, .int .i64 0, .int .i64 0]), 3, 24) := by kernel_rfl
theorem secRuns_app (f : List Bool) : ∀ (l1 l2 : List Nat) (r a : Nat), secRuns f r a (l1 ++ l2) = secRuns f r a l1 ++ secRuns f (r + l1.length) (a + l1.sum) l2
  | [], l2, r, a => by simp [secRuns]
  | n :: l1, l2, r, a => by
    rw [List.cons_append, secRuns, secRuns, secRuns_app f l1 l2, List.append_assoc, List.length_cons, List.sum_cons, show r + 1 + l1.length = r + (l1.length + 1) by omega, Nat.add_assoc]
theorem secRuns_step {f : List Bool} {ns : List Nat} {k n a : Nat} (h : ns[k]? = some n) : secRuns f 0 a (ns.take (k + 1)) = secRuns f 0 a (ns.take k) ++ runsGo k (a + (ns.take k).sum) 0 ((f.drop (a + (ns.take k).sum)).take n) := by
  have hk : k < ns.length := (List.getElem?_eq_some_iff.1 h).1
  rw [List.take_add_one, h, Option.toList_some, secRuns_app, secRuns, secRuns, List.append_nil, List.length_take, Nat.min_eq_left (by omega), Nat.zero_add]
theorem runsGo_few (r : Nat) : ∀ (l : List Bool) (a m : Nat), (runsGo r a m l).length ≤ l.length + 1
  | [], a, m => by unfold runsGo cl; split <;> simp
  | true :: l, a, m => by have := runsGo_few r l a (m + 1); simp [runsGo]; omega
  | false :: l, a, m => by
    have := runsGo_few r l (a + m + 1) 0
    have h2 : (cl r a m).length ≤ 1 := by unfold cl; split <;> simp
    simp [runsGo]; omega
theorem secRuns_few (f : List Bool) : ∀ (ns : List Nat) (r a : Nat), (secRuns f r a ns).length ≤ ns.sum + ns.length
  | [], r, a => by simp [secRuns]
  | n :: ns, r, a => by
    have h1 := secRuns_few f ns (r + 1) (a + n)
    have h2 := runsGo_few r ((f.drop a).take n) a 0
    have h3 : ((f.drop a).take n).length ≤ n := by simp; omega
    rw [secRuns, List.length_append, List.sum_cons, List.length_cons]; omega
theorem go0_done_le (r a : Nat) (l : List Bool) : (go0 r a l).done.length ≤ l.length + 1 := by
  have := runsGo_few r l a 0
  rw [← go0_all, Sta.all, List.length_append] at this
  omega
/-- the bits of a row, and one that is not free -/
theorem bits_at {f : List Bool} {a n i : Nat} (hi : i < n) {b : Bool} (h : f[a + i]? = some b) : ((f.drop a).take n ++ [false])[i]? = some b := by
  have hl : a + i < f.length := (List.getElem?_eq_some_iff.1 h).1
  rw [List.getElem?_append_left (by simp; omega), List.getElem?_take, if_pos hi, List.getElem?_drop, h]
theorem bits_end {f : List Bool} {a n : Nat} (h : a + n ≤ f.length) : ((f.drop a).take n ++ [false])[n]? = some false := by
  have hl : ((f.drop a).take n).length = n := by rw [List.length_take, List.length_drop, Nat.min_eq_left (by omega)]
  rw [List.getElem?_append_right (by omega), hl, Nat.sub_self]; rfl
theorem bits_len {f : List Bool} {a n : Nat} (h : a + n ≤ f.length) : ((f.drop a).take n ++ [false]).length = n + 1 := by
  rw [List.length_append, List.length_take, List.length_drop, Nat.min_eq_left (by omega)]; rfl
theorem st_next {r a i : Nat} {l : List Bool} {b : Bool} (h : l[i]? = some b) : go0 r a (l.take (i + 1)) = stp r (go0 r a (l.take i)) b := by
  rw [take_next1 h, go0_snoc]
theorem st_done {f : List Bool} {r a n : Nat} (h : a + n ≤ f.length) : (go0 r a (((f.drop a).take n ++ [false]).take (n + 1))).done = runsGo r a 0 ((f.drop a).take n) := by
  rw [List.take_of_length_le (by rw [bits_len h]; exact Nat.le_refl _), go0_snoc, ← go0_all]; rfl
theorem seg_in {v : Vn} {j k n : Nat} {s : Sc} (hs : v.secs[j]? = some s) (hn : s.rowsN[k]? = some n) : fst0 v.secs j + (s.rowsN.take k).sum + n ≤ sumS v.secs := by
  have h1 : v.secs = v.secs.take j ++ v.secs.drop j := (List.take_append_drop _ _).symm
  have hj : j < v.secs.length := (List.getElem?_eq_some_iff.1 hs).1
  have h2 : v.secs.drop j = s :: v.secs.drop (j + 1) := by
    rw [List.drop_eq_getElem_cons hj]
    rw [List.getElem?_eq_getElem hj] at hs
    rw [Option.some.inj hs]
  have h3 : sumS v.secs = fst0 v.secs j + (s.sum + sumS (v.secs.drop (j + 1))) := by
    conv => lhs; rw [h1, sumS_append, h2]
    simp [sumS, fst0]
  have h4 := sum_take_le s.rowsN (k + 1)
  rw [sum_step hn] at h4
  unfold Sc.sum at h3
  omega
theorem ofE_at {v : Vn} {j : Nat} {s : Sc} (hz : (chk v).2 = 0) (hs : v.secs[j]? = some s) : ofE v (j : Int) = (((fst0 v.secs j : Nat) : Int), ((s.sum : Nat) : Int), 0) := by
  unfold ofE
  rw [if_pos hz, if_pos (by omega), Int.toNat_natCast, hs]
theorem blk3f {w : World} {g : Nat} {e : TypeId} {a b c : Value} (h : Blk w g e [a, b, c]) : w.cell? ⟨g, 0, none⟩ = some a ∧ w.cell? ⟨g, 1, none⟩ = some b ∧ w.cell? ⟨g, 2, none⟩ = some c ∧ (∀ i, w.frozen? ⟨g, i, none⟩ = false) ∧ g < w.heap.size :=
  ⟨h.cell 0, h.cell 1, h.cell 2, h.free, h.lt⟩
theorem int3_one (a b c : Int) : ∀ v ∈ ([.int .i64 a, .int .i64 b, .int .i64 c] : List Value), v.oneCell' = true := by
  intro v hv
  simp only [List.mem_cons, List.not_mem_nil, or_false] at hv
  rcases hv with rfl | rfl | rfl <;> rfl
set_option maxRecDepth 100000 in
set_option maxHeartbeats 8000000 in
theorem ad_runs (v : Vn) (A : Option Addr) (c : Nat) (f : List Bool) (F : Option Addr) (d j : Nat) (sc : Sc) (w : World) (h : Secs w A v.secs) (hc : v.secs.length ≤ c) (hw : VnW v) (hok : VnOk v) (hz : (chk v).2 = 0)
    (hF : Rd w F (bls f)) (hd : f.length ≤ d) (hfl : f.length = sumS v.secs) (hj : v.secs[j]? = some sc) :
    Calls Tryd.prog 30 #[.agg #[.int .i64 v.sh, .int .i64 v.ttl, .int .i64 v.ses, .slice A v.secs.length c], .slice F f.length d, .int .i64 j] w fun e w' =>
      ∃ v', e = .returned v' ∧ Sep No w w' [As.ownM 47 3 v' (runV (secRuns f 0 (fst0 v.secs j) sc.rowsN))] := by
  obtain ⟨i0, ki, kz0, kz1, kz2⟩ := info_parts infoA
  have HS := hide (fun (y : World) (k : Ext w y) => venue_of v A c j y (h.ext k) hc hw)
  obtain ⟨b, off, R, rc, hA, h5, hR, hrc⟩ := h j sc hj
  have H5 := hide (fun (y : World) (k : Ext w y) => h5.ext k)
  have HR := hide (fun (y : World) (k : Ext w y) => hR.ext k)
  have HF := hide (fun (y : World) (k : Ext w y) => hF.ext k)
  have HSO := hide (hok.sec sc (List.mem_of_getElem? hj))
  have HOF := hide (ofE_at hz hj)
  have HJ := hide hj
  have HD := hide hd
  have HFL := hide hfl
  have HFS := hide (fst0_le hok (j := j))
  have hjc : (j : Int) < (v.secs.length : Int) := by have := (List.getElem?_eq_some_iff.1 hj).1; omega
  have hjc2 : (j : Int) < (c : Int) := by omega
  have hj8 : j ≤ 8 := by have := hok.few; omega
  clear h hc hw hok hz h5 hR hF hj hd hfl
  have K0 := (Sep.refl No w).add 24 [.int .i64 v.sh, .int .i64 v.ttl, .int .i64 v.ses, .slice A v.secs.length c]
  subst hA
  go_enter Tryd.func30, Tryd.ntmps30
  go_wp2_with fail
  (with_reducible refine (HS.out _ K0.toExt).mono ?_)
  rintro e w1 ⟨rfl, hx⟩
  rw [HOF.out]
  have K1 := K0.ext hx
  clear K0 hx HS
  obtain ⟨c0, c1, c2, c3, cz⟩ := blk4 (K1.blk (List.Mem.head _))
  obtain ⟨d0, d1, d2⟩ := at5_3 (H5.out _ K1.toExt)
  have K2 := hide ((K1.tail).nilM 47 3)
  clear K1
  go_wp2_with fail
  clear c0 c1 c2 c3 cz d0 d1 d2
  go_loopw [7, 8, 29] (fun v7 v8 v29 wr => ∃ (k a : Nat) (vo : Value), v29 = .int .i64 k ∧ v8 = .int .i64 a ∧ v7 = vo ∧ k ≤ sc.rows.length ∧ Hid (a = fst0 v.secs j + (sc.rowsN.take k).sum) ∧ Hid (Sep No w wr [As.ownM 47 3 vo (runV (secRuns f 0 (fst0 v.secs j) (sc.rowsN.take k)))])) (fun _ _ v29 _ => sc.rows.length - (intOf v29).toNat)
  case atStart => exact ⟨0, fst0 v.secs j, _, rfl, rfl, rfl, by omega, hide (by simp), K2⟩
  case round =>
    obtain ⟨k, a, vo, rfl, rfl, rfl, hk, HA, K3⟩ := hrel
    clear K2
    have hkb : k ≤ 16 := by have := HSO.out.few; omega
    have hab : a ≤ 9216 := by
      have h1 := sc_sum HSO.out
      have h2 := sum_take_le sc.rowsN k
      have h3 := HFS.out
      unfold Sc.sum at h1
      rw [HA.out]; omega
    by_cases hkl : k < sc.rows.length
    · have hkli : (k : Int) < (sc.rows.length : Int) := by omega
      obtain ⟨ad, hA2, cl⟩ := i64s_at (HR.out _ K3.out.toExt) hkl
      obtain ⟨x, hx⟩ : ∃ x, sc.rows[k]? = some x := ⟨_, List.getElem?_eq_getElem hkl⟩
      have hx' : sc.rows[k] = x := by rw [List.getElem?_eq_getElem hkl] at hx; exact Option.some.inj hx
      rw [hx'] at cl
      have hxr := HSO.out.row x (List.mem_of_getElem? hx)
      obtain ⟨n, rfl⟩ : ∃ n : Nat, x = n := ⟨x.toNat, by omega⟩
      have hrn := rowsN_get hx
      rw [Int.toNat_natCast] at hrn
      have HSS := hide (sum_step hrn)
      have HST := hide (secRuns_step (f := f) (a := fst0 v.secs j) hrn)
      rw [← HA.out] at HST
      have hseg := seg_in HJ.out hrn
      rw [← HA.out, ← HFL.out] at hseg
      subst hA2
      have hdc : (k : Int) < (rc : Int) := by omega
      have hn64 : n ≤ 64 := by omega
      have HKL := hide hkl
      have HSEG := hide hseg
      clear hx hx' hxr hkl hrn hseg
      go_wp2_with fail
      clear cl
      have K4 := K3.out.add 47 [.int .i64 (k : Nat), .int .i64 (a : Nat), .int .i64 0]
      clear K3
      generalize wr.alloc _ = w4 at K4 ⊢
      generalize wr.heap.size = g4 at K4 ⊢
      have K5 := hide K4
      clear K4
      obtain ⟨bits, hbits⟩ : ∃ l, (f.drop a).take n ++ [false] = l := ⟨_, rfl⟩
      have HBT := hide hbits
      clear hbits
      go_loopw [7, 14] (fun v7 v14 wy => ∃ (i p : Nat) (vo : Value), v14 = .int .i64 p ∧ v7 = vo ∧ i ≤ n + 1 ∧ Hid (p = a + i) ∧ Hid (Sep No w wy [As.blk g4 47 [.int .i64 (k : Nat), .int .i64 ((go0 k a (bits.take i)).a : Nat), .int .i64 ((go0 k a (bits.take i)).m : Nat)], As.ownM 47 3 vo (runV (secRuns f 0 (fst0 v.secs j) (sc.rowsN.take k) ++ (go0 k a (bits.take i)).done))])) (fun _ v14 _ => a + n + 1 - (intOf v14).toNat)
      case atStart => exact ⟨0, a, _, rfl, rfl, by omega, hide rfl, by rw [List.take_zero, go0_nil]; simpa using K5⟩
      case round =>
        obtain ⟨i, p, vp, rfl, rfl, hi, HP, K6⟩ := hrel
        clear K5
        have hp : p = a + i := HP.out
        by_cases hin : i = n + 1
        · have hli : ¬ (p : Int) ≤ (a : Int) + (n : Int) := by omega
          subst hin
          have HDN := hide (st_done (r := k) HSEG.out)
          rw [HBT.out] at HDN
          clear hp
          go_wp2_with fail
          go_roundw
          case rel =>
            refine ⟨k + 1, a + n, _, by go_num, by go_num, rfl, HKL.out, hide (by rw [HSS.out, HA.out]; omega), hide ?_⟩
            rw [HST.out, ← HDN.out]
            exact K6.out.tail
          case measure => have := HKL.out; simp [intOf]; omega
        · have hli : (p : Int) ≤ (a : Int) + (n : Int) := by omega
          have hi64 : i ≤ 64 := by omega
          have hpb : p ≤ 20000 := by omega
          obtain ⟨st, hst⟩ : ∃ st, (go0 k a (bits.take i)) = st := ⟨_, rfl⟩
          have hpos := go0_pos k a (bits.take i)
          have hdl := go0_done_le k a (bits.take i)
          have hbl : bits.length = n + 1 := by rw [← HBT.out]; exact bits_len HSEG.out
          rw [List.length_take, Nat.min_eq_left (by omega), hst] at hpos hdl
          have hrl := secRuns_few f (sc.rowsN.take k) 0 (fst0 v.secs j)
          have HMANY : Hid ((runV (secRuns f 0 (fst0 v.secs j) (sc.rowsN.take k) ++ st.done)).length < 100000) := hide (by
            rw [runV_len, List.length_append]
            have h1 := sc_sum HSO.out
            have h2 := sum_take_le sc.rowsN k
            have h3 : (sc.rowsN.take k).length ≤ k := by rw [List.length_take]; omega
            unfold Sc.sum at h1
            omega)
          have hm64 : st.m ≤ 10000 := by omega
          have ha64 : st.a ≤ 10000 := by omega
          rw [hst] at K6
          have HPOS := hide hpos
          obtain ⟨bb, hbb⟩ : ∃ bb, bits[i]? = some bb := ⟨_, List.getElem?_eq_getElem (by omega)⟩
          have HNX := hide (st_next (r := k) (a := a) hbb)
          rw [hst] at HNX
          have hin2 : i ≤ n := by omega
          have HIN := hide hin2
          clear hst hpos hdl hrl
          obtain ⟨b0, b1, b2, bf, bz⟩ := blk3f (K6.out.blk (g := g4) (e := 47) (List.Mem.head _))
          by_cases hlt : i < n
          · have hlti : (p : Int) < (a : Int) + (n : Int) := by omega
            obtain ⟨u, hu⟩ : ∃ u, f[a + i]? = some u := ⟨_, List.getElem?_eq_getElem (by have := HSEG.out; omega)⟩
            have hub : u = bb := by
              have := bits_at hlt hu
              rw [HBT.out, hbb] at this
              exact (Option.some.inj this).symm
            subst hub
            obtain ⟨fd, hFA, cf⟩ := bls_at (HF.out _ K6.out.toExt) hu
            rw [← HP.out] at cf
            subst hFA
            have hpd : (p : Int) < (f.length : Int) := by have := HSEG.out; omega
            have hpd2 : (p : Int) < (d : Int) := by have := HD.out; omega
            clear hp hlt hin hin2 hbb hu
            cases u
            · by_cases hm : st.m = 0
              · have hmi : ¬ (0 : Int) < (st.m : Int) := by omega
                rw [show stp k st false = ⟨st.done ++ cl k st.a st.m, st.a + st.m + 1, 0⟩ from rfl, hm, cl_zero, List.append_nil] at HNX
                have HPA : Hid (st.a + 0 + 1 = p + 1) := hide (by have := HPOS.out; rw [hm] at this; rw [HP.out]; omega)
                clear hm
                go_wp2_with fail
                clear b0 b1 b2 bf bz
                go_roundw
                case rel =>
                  refine ⟨i + 1, p + 1, _, by go_num, rfl, by have := HIN.out; omega, hide (by rw [HP.out]; omega), hide ?_⟩
                  rw [HNX.out, HPA.out]
                  exact ((K6.out.cell (L1 := []) 0 _).cell (L1 := []) 1 _).cell (L1 := []) 2 _
                case measure => have := HP.out; have := HIN.out; simp [intOf]; omega
              · have hmi : (0 : Int) < (st.m : Int) := by omega
                rw [show stp k st false = ⟨st.done ++ cl k st.a st.m, st.a + st.m + 1, 0⟩ from rfl, cl_pos (show 0 < st.m by omega)] at HNX
                have HPA : Hid (st.a + st.m + 1 = p + 1) := hide (by have := HPOS.out; rw [HP.out]; omega)
                clear hm
                have tok1 : True := trivial
                go_wp2_with (first
                  | (have zz := tok1; clear zz tok1; refine wpList_pushM [_] K6.out rfl (.tmp 63) (.tmp 65) 30 rfl i0 _ 24 Tryd.underlying30 ki kz0 kz1 kz2 rfl (by decide) rfl rfl (r := [.int .i64 (k : Nat), .int .i64 (st.a : Nat), .int .i64 (st.m : Nat)]) rfl (int3_one _ _ _) HMANY.out (by decide) ?_; intro v7 w7 K7; dsimp only [List.nil_append, List.cons_append] at K7)
                  | (refine wpList_stS [] K7 rfl 47 (.tmp 13) (.tmp 70) rfl rfl (cs := [.int .i64 (k : Nat), .int .i64 ((p : Int) + 1), .int .i64 0]) rfl (by kernel_rfl) rfl (int3_one _ _ _) ?_; intro w8 K8; dsimp only [List.nil_append, List.cons_append] at K8))
                clear b0 b1 b2 bf bz
                go_roundw
                case rel =>
                  refine ⟨i + 1, p + 1, _, by go_num, rfl, by have := HIN.out; omega, hide (by rw [HP.out]; omega), hide ?_⟩
                  rw [HNX.out, HPA.out]
                  simp only [← List.append_assoc, runV_append _ [_]]
                  exact K8
                case measure => have := HP.out; have := HIN.out; simp [intOf]; omega
            · rw [show stp k st true = ⟨st.done, st.a, st.m + 1⟩ from rfl] at HNX
              go_wp2_with fail
              clear b0 b1 b2 cf bf bz
              go_roundw
              case rel =>
                refine ⟨i + 1, p + 1, _, by go_num, rfl, by have := HIN.out; omega, hide (by rw [HP.out]; omega), hide ?_⟩
                rw [HNX.out]
                exact K6.out.cell (L1 := []) 2 _
              case measure => have := HP.out; have := HIN.out; simp [intOf]; omega
          · have hlti : ¬ (p : Int) < (a : Int) + (n : Int) := by omega
            have hie : i = n := by omega
            have hb0 : bb = false := by
              have := bits_end HSEG.out
              rw [HBT.out, ← hie, hbb] at this
              exact Option.some.inj this
            subst hb0
            clear hp hlt hin hin2 hbb hie
            by_cases hm : st.m = 0
            · have hmi : ¬ (0 : Int) < (st.m : Int) := by omega
              rw [show stp k st false = ⟨st.done ++ cl k st.a st.m, st.a + st.m + 1, 0⟩ from rfl, hm, cl_zero, List.append_nil] at HNX
              have HPA : Hid (st.a + 0 + 1 = p + 1) := hide (by have := HPOS.out; rw [hm] at this; rw [HP.out]; omega)
              clear hm
              go_wp2_with fail
              clear b0 b1 b2 bf bz
              go_roundw
              case rel =>
                refine ⟨i + 1, p + 1, _, by go_num, rfl, by have := HIN.out; omega, hide (by rw [HP.out]; omega), hide ?_⟩
                rw [HNX.out, HPA.out]
                exact ((K6.out.cell (L1 := []) 0 _).cell (L1 := []) 1 _).cell (L1 := []) 2 _
              case measure => have := HP.out; have := HIN.out; simp [intOf]; omega
            · have hmi : (0 : Int) < (st.m : Int) := by omega
              rw [show stp k st false = ⟨st.done ++ cl k st.a st.m, st.a + st.m + 1, 0⟩ from rfl, cl_pos (show 0 < st.m by omega)] at HNX
              have HPA : Hid (st.a + st.m + 1 = p + 1) := hide (by have := HPOS.out; rw [HP.out]; omega)
              clear hm
              have tok1 : True := trivial
              go_wp2_with (first
                | (have zz := tok1; clear zz tok1; refine wpList_pushM [_] K6.out rfl (.tmp 63) (.tmp 65) 30 rfl i0 _ 24 Tryd.underlying30 ki kz0 kz1 kz2 rfl (by decide) rfl rfl (r := [.int .i64 (k : Nat), .int .i64 (st.a : Nat), .int .i64 (st.m : Nat)]) rfl (int3_one _ _ _) HMANY.out (by decide) ?_; intro v7 w7 K7; dsimp only [List.nil_append, List.cons_append] at K7)
                | (refine wpList_stS [] K7 rfl 47 (.tmp 13) (.tmp 70) rfl rfl (cs := [.int .i64 (k : Nat), .int .i64 ((p : Int) + 1), .int .i64 0]) rfl (by kernel_rfl) rfl (int3_one _ _ _) ?_; intro w8 K8; dsimp only [List.nil_append, List.cons_append] at K8))
              clear b0 b1 b2 bf bz
              go_roundw
              case rel =>
                refine ⟨i + 1, p + 1, _, by go_num, rfl, by have := HIN.out; omega, hide (by rw [HP.out]; omega), hide ?_⟩
                rw [HNX.out, HPA.out]
                simp only [← List.append_assoc, runV_append _ [_]]
                exact K8
              case measure => have := HP.out; have := HIN.out; simp [intOf]; omega
    · obtain rfl : k = sc.rows.length := by omega
      have hkli : ¬ (sc.rows.length : Int) < (sc.rows.length : Int) := by omega
      go_wp2_with fail
      go_ret
      refine ⟨_, rfl, ?_⟩
      have := K3.out
      rwa [List.take_of_length_le (by unfold Sc.rowsN; rw [List.length_map]; exact Nat.le_refl _)] at this
end Go.Proofs.YtkhinagagncblaaDoor
