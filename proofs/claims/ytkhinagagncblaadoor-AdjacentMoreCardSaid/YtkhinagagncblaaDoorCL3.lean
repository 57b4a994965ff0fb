/- Seats side by side: the law AdjacentMore walked. -/
import Derived.Test.YtkhinagagncblaaDoorC4
import Derived.Test.YtkhinagagncblaaDoorCB
namespace Go.Proofs.YtkhinagagncblaaDoor
open Go.RowKit Go.Gr Go.Ad
set_option linter.unusedVariables false
set_option linter.unusedSimpArgs false
attribute [local go_sem] rdOp rdAt rdUpon Cls forall_fr
theorem runsR_few (v : Vn) (f : List Bool) (s : Int) : (runsR v f s).length ≤ 100000000 := by
  unfold runsR
  split
  · rename_i hq
    have := runsOf_few (qE_zero hq).1 f s
    omega
  · simp
theorem blk2 {w : World} {g : Nat} {e : TypeId} {a b : Value} (h : Blk w g e [a, b]) : w.cell? ⟨g, 0, none⟩ = some a ∧ w.cell? ⟨g, 1, none⟩ = some b ∧ g < w.heap.size := ⟨h.cell 0, h.cell 1, h.lt⟩
/-- what a question is asked with -/
abbrev BX (w w' : World) (g g2 : Nat) (v : Vn) (A : Option Addr) (c : Nat) (s n : Int) : Prop := Sep No w w' [As.blk g2 27 [.int .i64 s, .int .i64 n], As.blk g 24 [.int .i64 v.sh, .int .i64 v.ttl, .int .i64 v.ses, .slice A v.secs.length c]]
/-- the longest run so far -/
def mxI (l : List Run) : Int := l.foldl (fun a r => max a (r.many : Int)) 0
theorem mxI_step {l : List Run} {i : Nat} {r : Run} (h : l[i]? = some r) : mxI (l.take (i + 1)) = max (mxI (l.take i)) (r.many : Int) := by
  unfold mxI
  rw [take_next1 h, List.foldl_append]; rfl
theorem mxI_ge (l : List Run) {n : Nat} (hn : 1 ≤ n) : (n : Int) ≤ mxI l ↔ ∃ r ∈ l, n ≤ r.many := by
  have key : ∀ (l : List Run) (a : Int), (n : Int) ≤ l.foldl (fun a r => max a (r.many : Int)) a ↔ (n : Int) ≤ a ∨ ∃ r ∈ l, n ≤ r.many := by
    intro l
    induction l with
    | nil => intro a; simp
    | cons x l ih =>
      intro a
      rw [List.foldl_cons, ih]
      constructor
      · rintro (h | ⟨r, hr, h⟩)
        · by_cases hx : (n : Int) ≤ a
          · exact .inl hx
          · exact .inr ⟨x, by simp, by omega⟩
        · exact .inr ⟨r, by simp [hr], h⟩
      · rintro (h | ⟨r, hr, h⟩)
        · left; omega
        · rcases List.mem_cons.1 hr with rfl | hr
          · left; omega
          · exact .inr ⟨r, hr, h⟩
  unfold mxI
  rw [key]
  constructor
  · rintro (h | h)
    · omega
    · exact h
  · exact .inr
theorem best_more {v : Vn} {f : List Bool} {s : Int} {n : Nat} (hq : qE v f.length s = 0) (h1 : 1 ≤ n) (h8 : n ≤ 8) (hb : (bestE v f s (n : Int)).2 = 0) (i : Nat) : (bestE v (f.set i true) s (n : Int)).2 = 0 := by
  have hl : (f.set i true).length = f.length := List.length_set
  rw [best_ok (by rw [hl]; exact hq) h1 h8]
  obtain ⟨r, hr, hn⟩ := (best_ok hq h1 h8).1 hb
  have hfl := (qE_zero hq).2.2.2.1
  obtain ⟨_, _, hf, _⟩ := runs_off hfl hr
  obtain ⟨y, hy, h3, h4⟩ := runs_more hfl hl hr (fun j hj => by
    rw [List.getElem?_set]
    split
    · rename_i h; rw [if_pos]; rw [h]; have := hf j hj; exact (List.getElem?_eq_some_iff.1 this).1
    · exact hf j hj)
  exact ⟨y, hy, by omega⟩
set_option maxRecDepth 100000 in
set_option maxHeartbeats 8000000 in
theorem more_law (w : World) (_ : True) (v0 : Value) (h0 : ∃ cs, v0 = .agg cs ∧ Lvs Tryd.prog w [.int .i64, .int .i64, .int .i64, .slice 78] cs.toList) (v1 : Value) (h1 : LfOk Tryd.prog w (.slice 4) v1) (v2 : Value) (h2 : ∃ cs, v2 = .agg cs ∧ Lvs Tryd.prog w [.int .i64, .int .i64] cs.toList) : Calls Tryd.prog 6 #[v0, v1, v2] w fun e w' => e = .returned (.bool true) ∧ Ext w w' := by
  obtain ⟨v, A, c, rfl, hS, hc, hw⟩ := venue_arg h0
  obtain ⟨F, f, d, rfl, hF, hd, _⟩ := bools_arg h1
  obtain ⟨s, n, rfl⟩ := ask_arg h2
  clear h0 h1 h2
  have HFAR := hide (fun (y : World) (k : Ext w y) => far19 v A c F f.length d y (hS.ext k) hc hw)
  have HR := hide (fun (y : World) (k : Ext w y) => ad_Runs v A c f F d s y (hS.ext k) hc hw (hF.ext k) hd)
  have HB := hide (fun (y : World) (k : Ext w y) (f' : List Bool) (F' : Option Addr) (d' : Nat) (m : Int) (hF' : Rd y F' (bls f')) (hd' : f'.length ≤ d') => ad_Best v A c f' F' d' s m y (hS.ext k) hc hw hF' hd')
  have HF := hide (fun (y : World) (k : Ext w y) => hF.ext k)
  have HD := hide hd
  clear hS hF hw hc hd
  have K0 := ((Sep.refl No w).add2 24 27 [.int .i64 v.sh, .int .i64 v.ttl, .int .i64 v.ses, .slice A v.secs.length c] [.int .i64 s, .int .i64 n])
  obtain ⟨i0, ki, kz0, kz1, kz2⟩ := info_parts infoB
  have HB1 := hide (bls_one f)
  have HBL : Hid ((bls f).length = f.length) := hide (bls_len f)
  go_enter Tryd.func6, Tryd.ntmps6
  go_upto_region 1 with fail
  generalize World.alloc _ _ = w1 at K0 ⊢
  obtain ⟨g, hg⟩ : ∃ g, w.heap.size = g := ⟨_, rfl⟩
  obtain ⟨g2, hg2⟩ : ∃ g2, g + 1 = g2 := ⟨_, rfl⟩
  rw [hg, hg2] at K0 ⊢
  clear hg hg2
  have K1 : Hid (BX w w1 g g2 v A c s n) := hide K0
  clear K0
  obtain ⟨c0, c1, c2, c3, cz⟩ := blk4 (K1.out.blk (e := 24) (List.Mem.tail _ (List.Mem.head _)))
  go_wp2_with fail
  (with_reducible refine (HFAR.out _ K1.out.toExt).mono ?_)
  rintro e w2 ⟨⟨bb, rfl⟩, hx⟩
  have K2 : Hid (BX w w2 g g2 v A c s n) := hide (K1.out.ext hx)
  clear K1 hx HFAR c0 c1 c2 c3 cz
  obtain ⟨c0, c1, c2, c3, cz⟩ := blk4 (K2.out.blk (e := 24) (List.Mem.tail _ (List.Mem.head _)))
  obtain ⟨a0, a1, az⟩ := blk2 (K2.out.blk (e := 27) (List.Mem.head _))
  cases bb
  rotate_left
  · go_wp2_with fail
    (with_reducible refine (awake_any _).mono ?_)
    rintro e w3 ⟨rfl, hx⟩
    go_wp2_with fail
    go_ret
    exact ⟨rfl, K2.out.toExt.trans hx⟩
  by_cases hn1 : n < 1
  · go_wp2_with fail
    (with_reducible refine (awake_any _).mono ?_)
    rintro e w3 ⟨rfl, hx⟩
    go_wp2_with fail
    go_ret
    exact ⟨rfl, K2.out.toExt.trans hx⟩
  by_cases hn8 : 8 < n
  · go_wp2_with fail
    (with_reducible refine (awake_any _).mono ?_)
    rintro e w3 ⟨rfl, hx⟩
    go_wp2_with fail
    go_ret
    exact ⟨rfl, K2.out.toExt.trans hx⟩
  by_cases hl0 : f.length = 0
  · have e1 : ((f.length : Int) == 0) = true := beq_iff_eq.2 (by omega)
    clear hl0
    go_wp2_with fail
    (with_reducible refine (awake_any _).mono ?_)
    rintro e w3 ⟨rfl, hx⟩
    go_wp2_with fail
    go_ret
    exact ⟨rfl, K2.out.toExt.trans hx⟩
  have e1 : ((f.length : Int) == 0) = false := beq_eq_false_iff_ne.2 (by omega)
  obtain ⟨n, rfl⟩ : ∃ k : Nat, n = k := ⟨n.toNat, by omega⟩
  have HN1 : Hid (1 ≤ n) := hide (by omega)
  have HN8 : Hid (n ≤ 8) := hide (by omega)
  have HL0 := hide hl0
  clear hl0
  go_wp2_with fail
  (with_reducible refine (HR.out _ K2.out.toExt).mono ?_)
  rintro e w3 ⟨v3, rfl, hS3⟩
  obtain ⟨B3, b3, rfl, hb3⟩ := nilM_form' hS3
  have O3 := hide (fun (y : World) (k : Ext w3 y) => (hS3.ownsM (List.Mem.head _)).ext k)
  have K3 : Hid (BX w w3 g g2 v A c s n) := hide (K2.out.ext hS3.toExt)
  clear K2 hS3 HR c0 c1 c2 c3 cz a0 a1 az
  rw [runV_len] at O3 hb3 ⊢
  by_cases hq : qE v f.length s = 0
  rotate_left
  · have e2 : (qE v f.length s != 0) = true := bne_iff_ne.2 hq
    clear hq
    go_wp2_with fail
    (with_reducible refine (awake_any _).mono ?_)
    rintro e w4 ⟨rfl, hx⟩
    go_wp2_with fail
    go_ret
    exact ⟨rfl, K3.out.toExt.trans hx⟩
  have HRL : Hid (runsR v f s = runsOf v f s) := hide (by unfold runsR; rw [if_pos hq])
  have HRF := hide (runsOf_few (qE_zero hq).1 f s)
  have HOK := hide (fun (m : Nat) (h1 : 1 ≤ m) (h8 : m ≤ 8) => best_ok (s := s) hq h1 h8)
  have HMO := hide (fun (m : Nat) (h1 : 1 ≤ m) (h8 : m ≤ 8) (hb : (bestE v f s (m : Int)).2 = 0) (i : Nat) => best_more hq h1 h8 hb i)
  have HFL := hide (show f.length ≤ 100000000 by have := (qE_zero hq).2.2.2.1; have := (qE_zero hq).1.sum; omega)
  rw [hq]
  rw [HRL.out] at O3 hb3 ⊢
  obtain ⟨l, hl⟩ : ∃ l, runsOf v f s = l := ⟨_, rfl⟩
  rw [hl] at O3 hb3 HRF HOK ⊢
  clear hq hl HRL
  go_wp2_with fail
  go_loopw [9, 10] (fun v9 v10 wr => ∃ i : Nat, v10 = .int .i64 i ∧ i ≤ l.length ∧ v9 = .int .i64 (mxI (l.take i)) ∧ Hid (Ext w3 wr) ∧ Hid (BX w wr g g2 v A c s n)) (fun _ v10 _ => l.length - (intOf v10).toNat)
  case atStart => exact ⟨0, rfl, by omega, rfl, hide (Ext.refl _), K3⟩
  case round =>
    obtain ⟨i, rfl, hi, rfl, E4, K4⟩ := hrel
    clear K3
    have hib : i ≤ 2000 := by have := HRF.out; omega
    by_cases hlt : i < l.length
    · have hli : (i : Int) < (l.length : Int) := by omega
      obtain ⟨r, hr⟩ : ∃ r, l[i]? = some r := ⟨_, List.getElem?_eq_getElem hlt⟩
      obtain ⟨g', c', e1, hc', x5⟩ := (O3.out wr E4.out).at5 (by decide) (runV_at hr)
      rw [runV_len] at e1 hc'
      simp only [Value.slice.injEq, true_and] at e1
      obtain ⟨rfl, rfl⟩ := e1
      obtain ⟨x0, x1, x2⟩ := at5_3 x5
      have hic : (i : Int) < (b3 : Int) := by omega
      have HM := hide (mxI_step hr)
      have HLT := hide hlt
      have HBC := hide hc'
      clear x5 hlt hr hc'
      generalize mxI (l.take i) = a at *
      go_wp2_with fail
      clear x0 x1 x2
      go_roundw
      case rel => exact ⟨i + 1, by go_num, HLT.out, by rw [HM.out], E4, K4⟩
      case measure => have := HLT.out; simp [intOf]; omega
    · have hli : ¬ (i : Int) < (l.length : Int) := by omega
      obtain rfl : i = l.length := by omega
      rw [List.take_of_length_le (Nat.le_refl _)]
      clear hlt
      obtain ⟨c0, c1, c2, c3, cz⟩ := blk4 (K4.out.blk (e := 24) (List.Mem.tail _ (List.Mem.head _)))
      obtain ⟨a0, a1, az⟩ := blk2 (K4.out.blk (e := 27) (List.Mem.head _))
      have HGE := hide (mxI_ge l HN1.out)
      generalize mxI l = lo at *
      go_wp2_with fail
      (with_reducible refine (HB.out _ K4.out.toExt f F d (n : Int) (HF.out _ K4.out.toExt) HD.out).mono ?_)
      rintro e w5 ⟨rfl, hx5⟩
      have K5 : Hid (BX w w5 g g2 v A c s n) := hide (K4.out.ext hx5)
      clear K4 hx5 c0 c1 c2 c3 cz a0 a1 az E4
      obtain ⟨a0, a1, az⟩ := blk2 (K5.out.blk (e := 27) (List.Mem.head _))
      have HO := hide (HOK.out n HN1.out HN8.out)
      by_cases hb : (bestE v f s (n : Int)).2 = 0
      · have hlo : (n : Int) ≤ lo := HGE.out.2 (HO.out.1 hb)
        have HM := hide (HMO.out n HN1.out HN8.out hb)
        have HW : Hid (∃ r ∈ l, n ≤ r.many) := hide (HO.out.1 hb)
        rw [hb]
        clear hb HMO HO HGE
        go_wp2_with fail
        clear a0 a1 az
        go_loopw [13] (fun v13 wr => ∃ i : Nat, v13 = .int .i64 i ∧ i ≤ f.length ∧ Hid (BX w wr g g2 v A c s n)) (fun v13 _ => f.length - (intOf v13).toNat)
        case atStart => exact ⟨0, rfl, by omega, K5⟩
        case round =>
          obtain ⟨i, rfl, hi, K6⟩ := hrel
          clear K5
          have hib : i ≤ 100000000 := by have := HFL.out; omega
          by_cases hlt : i < f.length
          · have hli : (i : Int) < (f.length : Int) := by omega
            have HLT := hide hlt
            have HMI := hide (HM.out i)
            have HSL : Hid ((f.set i true).length = f.length) := hide List.length_set
            have KN := Sep.toOwn [] (K6.out.newB ((Ext.refl wr).alloc (.cells #[] 4)) (Blk.new wr 4 []) (Nat.le_refl _)) (by simp)
            dsimp only [List.nil_append, List.length_nil] at KN
            have tok3 : True := trivial
            clear hlt K6
            go_upto_region 18 with (have zz := tok3; clear zz tok3; with_reducible refine wpList_apS [] KN rfl (.tmp 90) (.tmp 91) 25 rfl i0 (.bool false) 1 Tryd.underlying25 ki kz0 kz1 kz2 rfl rfl (A := F) (m := f.length) (c := d) (news := bls f) rfl (by rw [HBL.out]) (HF.out _ KN.toExt) HB1.out (by have := HFL.out; rw [HBL.out]; simp; omega) (by have := HD.out; omega) ?_; intro v5 w5 K5; dsimp only [List.nil_append] at K5; have K5' := hide K5; clear K5 KN)
            obtain ⟨B, bc, rfl, _, hbc, _⟩ := (K5'.out.owns (List.Mem.head _)).form
            rw [HBL.out] at K5' hbc ⊢
            obtain ⟨g9, hA, d0, s1, s2, K7⟩ := Sep.ownSet [] K5'.out (i := i) (by rw [HBL.out]; exact HLT.out) (.bool true)
            subst hA
            obtain ⟨z, s0⟩ : ∃ z, w5.cell? ⟨g9, i, none⟩ = some z := ⟨_, d0⟩
            have hpc : (i : Int) < (bc : Int) := by omega
            rw [← bls_set] at K7
            dsimp only [List.nil_append] at K7
            clear d0 K5'
            go_upto_region 19 with fail
            clear s0 s1 s2
            generalize w5.setCell _ _ = w6 at K7 ⊢
            have K8 := hide K7
            clear K7
            have HBI := HB.out w6 K8.out.toExt (f.set i true) (some ⟨g9, 0, none⟩) bc (n : Int) (by
              obtain ⟨B', c', e', h3, _⟩ := (K8.out.owns (List.Mem.head _)).form
              rw [bls_len, HSL.out] at e'
              cases e'
              exact h3) (by rw [HSL.out]; exact hbc)
            rw [HSL.out] at HBI
            have HBJ := hide HBI
            clear HBI
            obtain ⟨c0, c1, c2, c3, cz⟩ := blk4 (K8.out.blk (e := 24) (List.Mem.tail _ (List.Mem.tail _ (List.Mem.head _))))
            obtain ⟨a0, a1, az⟩ := blk2 (K8.out.blk (e := 27) (List.Mem.tail _ (List.Mem.head _)))
            go_wp2_with fail
            (with_reducible refine HBJ.out.mono ?_)
            rintro e w7 ⟨rfl, hx⟩
            have K9 : Hid (BX w w7 g g2 v A c s n) := hide (K8.out.ext hx).tail
            rw [HMI.out]
            clear c0 c1 c2 c3 cz a0 a1 az K8 hx HBJ
            go_wp2_with fail
            go_roundw
            case rel => exact ⟨i + 1, by go_num, HLT.out, K9⟩
            case measure => have := HLT.out; simp [intOf]; omega
          · have hli : ¬ (i : Int) < (f.length : Int) := by omega
            obtain rfl : i = f.length := by omega
            clear hlt HM
            go_wp2_with fail
            go_loopw [17] (fun v17 wr => ∃ m : Nat, v17 = .int .i64 m ∧ 1 ≤ m ∧ m ≤ n ∧ Hid (BX w wr g g2 v A c s n)) (fun v17 _ => n - (intOf v17).toNat)
            case atStart => exact ⟨1, rfl, by omega, HN1.out, K6⟩
            case round =>
              obtain ⟨m, rfl, hm1, hm, K7⟩ := hrel
              clear K6
              have hmb : m ≤ 8 := by have := HN8.out; omega
              obtain ⟨c0, c1, c2, c3, cz⟩ := blk4 (K7.out.blk (e := 24) (List.Mem.tail _ (List.Mem.head _)))
              obtain ⟨a0, a1, az⟩ := blk2 (K7.out.blk (e := 27) (List.Mem.head _))
              by_cases hlt : m < n
              · have hli : (m : Int) < (n : Int) := by omega
                have HLT := hide hlt
                have HBM : Hid ((bestE v f s (m : Int)).2 = 0) := hide ((HOK.out m hm1 hmb).2 (by
                  obtain ⟨r, hr, h⟩ := HW.out
                  exact ⟨r, hr, by omega⟩))
                clear hlt
                go_wp2_with fail
                (with_reducible refine (HB.out _ K7.out.toExt f F d (m : Int) (HF.out _ K7.out.toExt) HD.out).mono ?_)
                rintro e w8 ⟨rfl, hx⟩
                have K8 : Hid (BX w w8 g g2 v A c s n) := hide (K7.out.ext hx)
                rw [HBM.out]
                clear c0 c1 c2 c3 cz a0 a1 az K7 hx
                go_wp2_with fail
                go_roundw
                case rel => exact ⟨m + 1, by go_num, by omega, HLT.out, K8⟩
                case measure => have := HLT.out; simp [intOf]; omega
              · have hli : ¬ (m : Int) < (n : Int) := by omega
                clear hlt
                go_wp2_with fail
                (with_reducible refine (awake_any _).mono ?_)
                rintro e w8 ⟨rfl, hx⟩
                go_wp2_with fail
                go_ret
                exact ⟨rfl, K7.out.toExt.trans hx⟩
      · have hlo : ¬ (n : Int) ≤ lo := fun h => hb (HO.out.2 (HGE.out.1 h))
        have e3 : ((bestE v f s (n : Int)).2 == 0) = false := beq_eq_false_iff_ne.2 hb
        clear hb HMO HO HGE HB
        generalize (bestE v f s (n : Int)).2 = be at *
        generalize (bestE v f s (n : Int)).1 = bf at *
        go_wp2_with fail
        clear a0 a1 az
        go_loopw [13] (fun v13 wr => v13 = .int .i64 0 ∧ Hid (BX w wr g g2 v A c s n)) (fun v13 _ => 0)
        case atStart => exact ⟨rfl, K5⟩
        case round =>
          obtain ⟨rfl, K6⟩ := hrel
          clear K5
          have hl0 : (0 : Int) < (f.length : Int) := by have := HL0.out; omega
          go_wp2_with fail
          go_loopw [17] (fun v17 wr => v17 = .int .i64 1 ∧ Hid (BX w wr g g2 v A c s n)) (fun v17 _ => 0)
          case atStart => exact ⟨rfl, K6⟩
          case round =>
            obtain ⟨rfl, K7⟩ := hrel
            clear K6
            obtain ⟨a0, a1, az⟩ := blk2 (K7.out.blk (e := 27) (List.Mem.head _))
            by_cases h1n : (1 : Int) < (n : Int)
            · go_wp2_with fail
              (with_reducible refine (awake_any _).mono ?_)
              rintro e w8 ⟨rfl, hx⟩
              go_wp2_with fail
              go_ret
              exact ⟨rfl, K7.out.toExt.trans hx⟩
            · go_wp2_with fail
              (with_reducible refine (awake_any _).mono ?_)
              rintro e w8 ⟨rfl, hx⟩
              go_wp2_with fail
              go_ret
              exact ⟨rfl, K7.out.toExt.trans hx⟩
end Go.Proofs.YtkhinagagncblaaDoor
