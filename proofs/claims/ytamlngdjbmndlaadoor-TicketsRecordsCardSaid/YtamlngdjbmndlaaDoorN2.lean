/- Tickets: Newest, by the program. -/
import Derived.Test.YtamlngdjbmndlaaDoorN1
namespace Go.Proofs.YtamlngdjbmndlaaDoor
open Go.RowKit Go.Gr
set_option linter.unusedVariables false
set_option linter.unusedSimpArgs false
attribute [local go_sem] rdOp rdAt rdUpon Cls forall_fr
def newE (key : List Int) (bs : List (List Int)) : Int := if keyOk key then (if bs.length ≤ 200 then 0 else 3) else 2
noncomputable def newV (key : List Int) (bs : List (List Int)) : List Int := if newE key bs = 0 then (newL (opns key bs)).map (fun n : Nat => (n : Int)) else []
/-- a slice of blobs -/
def Blo (w : World) (B : Option Addr) (bs : List (List Int)) : Prop :=
  ∀ i b, bs[i]? = some b → ∃ g o Bi ci, B = some ⟨g, o, none⟩ ∧ w.cell? ⟨g, o + i, none⟩ = some (.slice Bi b.length ci) ∧ b.length ≤ ci ∧ Rd w Bi (byt b) ∧ isB b ∧ b.length ≤ 100000
theorem Blo.ext {w w' : World} {B : Option Addr} {bs : List (List Int)} (h : Blo w B bs) (k : Ext w w') : Blo w' B bs := fun i b hb => by
  obtain ⟨g, o, Bi, ci, h1, h2, h3, h4, h5⟩ := h i b hb
  exact ⟨g, o, Bi, ci, h1, (Below.cell k (cell_lt h2)).trans h2, h3, h4.ext k, h5⟩
theorem opTE_par {key b : List Int} (he : opTE key b = 0) : parTE b = 0 := by
  by_cases hk : keyOk key
  · by_cases hp : parTE b = 0
    · exact hp
    · unfold opTE at he
      rw [if_pos hk, if_neg hp] at he
      exact absurd he (by decide)
  · unfold opTE at he
    rw [if_neg hk] at he
    exact absurd he (by decide)
theorem opn_ok {key b : List Int} {t : Tk} (hb : isB b) (h : opn key b = some t) : TiB t.1 t.2.1 t.2.2.1 t.2.2.2 ∧ opTE key b = 0 ∧ opTV key b = t := by
  by_cases he : opTE key b = 0
  · unfold opn at h
    rw [if_pos he, Option.some.injEq] at h
    subst h
    refine ⟨?_, he, rfl⟩
    have hd := parTE_zero (opTE_par he)
    have hl : (b.take 24).length = 24 := by rw [List.length_take, hd.1]; rfl
    unfold opTV
    rw [if_pos he]
    unfold decTV
    rw [if_pos hd.2]
    exact dec_TiB (isB_take hb 24) hl
  · unfold opn at h
    rw [if_neg he] at h
    cases h
theorem opn_no {key b : List Int} (h : opn key b = none) : opTE key b ≠ 0 := fun he => by
  unfold opn at h
  rw [if_pos he] at h
  cases h
/-- what the two maps hold behind i blobs -/
def NS (l : List (Option Tk)) (i : Nat) (D1 D2 : DataW Unit) : Prop := ∃ f, Inv f l i ∧ Best D1 f ∧ Opd D2 l i
theorem ns_zero (l : List (Option Tk)) : NS l 0 (.map []) (.map []) := ⟨_, inv_zero l, best_zero, opd_zero l⟩
theorem ns_skip {l : List (Option Tk)} {i : Nat} {D1 D2 : DataW Unit} (h : NS l i D1 D2) (hl : l[i]? = some none) : NS l (i + 1) D1 D2 := by
  obtain ⟨f, h1, h2, h3⟩ := h
  exact ⟨f, inv_skip h1 hl, h2, opd_skip h3 hl⟩
/-- numbers as values -/
def nV (vs : List Nat) : List Value := (vs.map (fun n : Nat => (n : Int))).map (Value.int .i64)
theorem nV_len (vs : List Nat) : (nV vs).length = vs.length := by simp [nV]
theorem nV_snoc (vs : List Nat) (j : Nat) : nV (vs ++ [j]) = nV vs ++ [.int .i64 j] := by simp [nV]
theorem infoI : (Tryd.prog.info? 3).map (fun i => (i.zero, i.size, i.bytes)) = some (some (.int .i64 0), 1, 8) := by kernel_rfl
theorem ns_put {l : List (Option Tk)} {i : Nat} {f : Int → Option Nat} {D1 D2 : DataW Unit} {t : Tk} (h1 : Inv (upd f t.1 i) l (i + 1)) (h2 : Best D1 f) (h3 : Opd D2 l i) (hl : l[i]? = some (some t)) :
    NS l (i + 1) (D1.put (.int .u32 t.1) (.lit (.int .i64 (i : Int)))) (D2.put (.int .i64 (i : Int)) (tkD t)) := ⟨_, h1, best_put h2 _ _, opd_put h3 hl⟩
set_option maxRecDepth 100000 in
set_option maxHeartbeats 2000000 in
theorem tnewest_any (key : List Int) (bs : List (List Int)) (A : Option Addr) (c : Nat) (B : Option Addr) (cb : Nat) (w : World) (hl : Laid w) (hr : Rd w A (byt key)) (hb : isB key) (hc : key.length ≤ c) (hlen : key.length ≤ 100000)
    (hB : Blo w B bs) (hcb : bs.length ≤ cb) (hn : bs.length ≤ 1000000) :
    Calls Tryd.prog 21 #[.slice A key.length c, .slice B bs.length cb] w fun e w' => ∃ v, e = .returned (.tuple #[v, .int .i64 (newE key bs)]) ∧ Sep No w w' [As.own 3 v ((newV key bs).map (Value.int .i64))] := by
  have HR := hide hr
  have HB := hide hb
  have HL := hide hl
  have HBL := hide hB
  have HGD := hide (fun (x : World) => tgood_any key A c x)
  clear hr hb hl hB
  by_cases hk : keyOk key
  rotate_left
  · rw [decide_eq_false hk] at HGD
    have HE : Hid (newE key bs = 2) := hide (by unfold newE; rw [if_neg hk])
    have HV : Hid (newV key bs = []) := hide (by unfold newV; rw [if_neg (by rw [HE.out]; decide)])
    clear hk
    go_enter Tryd.func21, Tryd.ntmps21
    go_wp2_with fail
    (with_reducible refine (HGD.out _).mono ?_)
    rintro e w2 ⟨rfl, rfl⟩
    go_wp2_with fail
    go_ret2
    exact ⟨.slice none 0 0, by rw [HE.out]; rfl, by rw [HV.out]; exact (Sep.refl No w).nilO _⟩
  rw [decide_eq_true hk] at HGD
  by_cases h200 : bs.length ≤ 200
  rotate_left
  · have HE : Hid (newE key bs = 3) := hide (by unfold newE; rw [if_pos hk, if_neg h200])
    have HV : Hid (newV key bs = []) := hide (by unfold newV; rw [if_neg (by rw [HE.out]; decide)])
    have d : (200 : Int) < (bs.length : Int) := by omega
    clear hk h200
    go_enter Tryd.func21, Tryd.ntmps21
    go_wp2_with fail
    (with_reducible refine (HGD.out _).mono ?_)
    rintro e w2 ⟨rfl, rfl⟩
    go_wp2_with fail
    go_ret2
    exact ⟨.slice none 0 0, by rw [HE.out]; rfl, by rw [HV.out]; exact (Sep.refl No w).nilO _⟩
  have HE : Hid (newE key bs = 0) := hide (by unfold newE; rw [if_pos hk, if_pos h200])
  have HV : Hid (newV key bs = (newL (opns key bs)).map (fun n : Nat => (n : Int))) := hide (by unfold newV; rw [if_pos HE.out])
  have d : ¬ (200 : Int) < (bs.length : Int) := by omega
  have hmm := fun (t : TypeId) (x : World) => run_makeMap (P := Tryd.prog) t x
  have K0 := ((Sep.refl No w).newMap Tryd.prog 22 (plainElem Tryd.prog 3) (H := Unit)).newMap Tryd.prog 3 tkElem
  rw [show (w.alloc (.map #[] 0)).heap.size = w.heap.size + 1 by simp] at K0
  clear hk
  go_enter Tryd.func21, Tryd.ntmps21
  go_wp2_with fail
  (with_reducible refine (HGD.out _).mono ?_)
  rintro e w2 ⟨rfl, rfl⟩
  go_wp2_with fail
  obtain ⟨go, hgo⟩ : ∃ g, w.heap.size + 1 = g := ⟨_, rfl⟩
  obtain ⟨gb, hgb⟩ : ∃ g, w.heap.size = g := ⟨_, rfl⟩
  rw [hgo, hgb] at K0
  rw [hgo, hgb]
  clear hgo hgb hmm
  generalize World.alloc _ _ = w1 at K0 ⊢
  have tok1 : True := trivial
  have tok2 : True := trivial
  have tok3 : True := trivial
  have tok4 : True := trivial
  have tok5 : True := trivial
  have tok6 : True := trivial
  go_loopw [27] (fun v27 wr => ∃ (i : Nat) (D1 D2 : DataW Unit), v27 = .int .i64 i ∧ i ≤ bs.length ∧ NS (opns key bs) i D1 D2 ∧ Sep No w wr [As.map Tryd.prog 3 tkElem go i D2, As.map Tryd.prog 22 (plainElem Tryd.prog 3) gb i D1]) (fun v27 _ => bs.length - (intOf v27).toNat)
  case atStart => exact ⟨0, _, _, rfl, by omega, ns_zero _, K0⟩
  case round =>
    clear K0
    obtain ⟨i, D1, D2, rfl, hi, HN, HS⟩ := hrel
    by_cases hin : i < bs.length
    rotate_left
    · have hie : i = bs.length := by omega
      obtain ⟨f, hI, hBst, hO⟩ := HN
      have HIe : Hid (Inv f (opns key bs) (opns key bs).length) := hide (by rw [opns_len, ← hie]; exact hI)
      have HBst := hide hBst
      have hsz := (HS.map (b := gb) (n := i) (D := D1) (List.Mem.tail _ (List.Mem.head _))).size_le
      have HSZ := hide hsz
      have hcb1 : ¬ (i : Int) < (bs.length : Int) := by omega
      have hi2 : i ≤ 200 := by omega
      obtain ⟨i0, hii, hz0, hz1, hz2⟩ := info_parts infoI
      clear hI hBst hO hin hie hsz
      obtain ⟨r, hr⟩ : ∃ r, wr.heap.size = r := ⟨_, rfl⟩
      go_wp2_with (have zz := tok5; clear zz tok5; refine wpList_rangeS [_] HS rfl (.tmp 65) 69 rfl 3 lawS Tryd.underlying69 rfl ?_; intro w2 K2; dsimp only [List.nil_append, List.cons_append] at K2; clear HS)
      rw [hr] at K2
      clear hr
      have K3 := (K2.tail).nilO 3
      clear K2
      go_loopw [14, 16] (fun v14 v16 wx => ∃ (vs : List Nat) (left : Lit → Bool) (cnt : Nat), Sep No w wx [As.own 3 v14 (nV vs), As.rng Tryd.prog 22 (plainElem Tryd.prog 3) gb r i D1 left cnt] ∧ Got vs f left ∧ vs.length + cnt ≤ i) (fun _ _ wx => wx.rangeLeft gb r)
      case atStart => exact ⟨[], _, _, K3, got_start HBst.out, by simpa using HSZ.out⟩
      case round =>
        clear K3
        obtain ⟨vs, left, cnt, HK, HG, hvs⟩ := hrel
        have HGH := hide HG
        have HK2 := hide HK
        clear HG
        go_wp2_with (have zz := tok6; clear zz tok6; refine wpList_nextS_ii [_] HK rfl (.tmp 66) rfl .u32 .i64 lawS Tryd.underlying22 Tryd.underlying3 rfl ?_ ?_)
        · intro hdone
          have HD := hide hdone
          clear hdone
          go_wp2_with fail
          have hvl : (vs.map (fun n : Nat => (n : Int))).length ≤ 1000000 := by rw [List.length_map]; omega
          refine (sort_any (zs := vs.map (fun n : Nat => (n : Int))) [] HK hvl).mono ?_
          rintro e w3 ⟨rfl, K3⟩
          dsimp only [List.nil_append] at K3
          rw [got_end HGH.out HIe.out HD.out] at K3
          have K4 := hide K3.swap.tail
          clear K3 HK HD HGH HIe HBst HSZ hvl
          go_wp2_with fail
          go_ret2
          exact ⟨_, by rw [HE.out]; rfl, by rw [HV.out]; exact K4.out⟩
        · intro x c w3 cnt' hwx hlx hat K3 hlt hen
          obtain ⟨j, rfl, hj, HG2⟩ := got_step HGH.out HIe.out HBst.out hlx hat
          have HG3 := hide HG2
          have hvl : (nV vs).length < 1000000000 := by rw [nV_len]; omega
          have HVL := hide hvl
          clear HG2 hj hwx hlx hat HK hvl
          go_wp2_with (have zz := tok1; clear zz tok1; refine wpList_pushS [] K3 rfl (.tmp 71) (.tmp 73) 48 rfl i0 (.int .i64 0) 8 Tryd.underlying48 hii hz0 hz1 hz2 rfl rfl rfl rfl HVL.out (by omega) ?_; intro v4 w4 K4; dsimp only [List.nil_append] at K4; clear K3)
          go_roundw
          case rel => exact ⟨vs ++ [j], _, cnt', by rw [nV_snoc]; exact K4, HG3.out, by rw [List.length_append, List.length_singleton]; omega⟩
          case measure => rw [(K4.rng (b := gb) (r := r) (n := i) (cnt := cnt') (D := D1) (List.Mem.tail _ (List.Mem.head _))).left_eq, (HK2.out.rng (b := gb) (r := r) (n := i) (cnt := cnt) (D := D1) (left := left) (List.Mem.tail _ (List.Mem.head _))).left_eq]; exact hlt
    · obtain ⟨b, hib⟩ : ∃ b, bs[i]? = some b := ⟨_, List.getElem?_eq_getElem hin⟩
      have hlb := opns_get (key := key) hib
      obtain ⟨g, o, Bi, ci, hBe, hcell, hci, hrb, hbb, hb5⟩ := (HBL.out.ext HS.toExt) i b hib
      have HOP := hide (fun (x : World) (h : Ext wr x) => topen_any key b A c Bi ci x (HL.out.ext (HS.toExt.trans h)) (HR.out.ext (HS.toExt.trans h)) HB.out hc hlen (hrb.ext h) hbb hci hb5)
      have hg := cell_lt hcell
      dsimp only at hg
      obtain ⟨s1, o1, n1, e1, hV⟩ : ∃ s1 o1 n1 e1, opTV key b = (s1, o1, n1, e1) := ⟨_, _, _, _, rfl⟩
      rw [hV] at HOP
      have HN1 := hide HN
      have K1 := hide HS
      have HLB := hide hlb
      have HIB := hide hib
      have hcb1 : (i : Int) < (bs.length : Int) := by omega
      subst hBe
      have HBB := hide hbb
      clear HN HS hlb hib hrb hbb hin
      go_upto_region 10 with fail
      clear hcell
      go_wp2_with fail
      (with_reducible refine (HOP.out _ (Ext.refl _)).mono ?_)
      rintro e w3 ⟨rfl, hx3⟩
      have K3 := K1.out.ext hx3
      clear K1 hx3 HOP
      rcases ho : opn key b with _ | t
      · have b1 : (opTE key b != 0) = true := bne_iff_ne.2 (opn_no ho)
        rw [ho] at HLB
        have HN2 := hide (ns_skip HN1.out HLB.out)
        clear HN1 HLB hV ho
        go_wp2_with (first
          | (have zz := tok1; clear zz tok1; refine wpList_alS K3 rfl 25 rfl (tkc 0 0 0 0) (by kernel_rfl) ?_; intro w4 hz4 K4; clear hz4 K3)
          | (have zz := tok2; clear zz tok2; refine wpList_stS [] K4 rfl 25 (.tmp 10) (.tmp 36) rfl rfl (cs := tkc s1 o1 n1 e1) rfl (by kernel_rfl) rfl (tkc_one s1 o1 n1 e1) ?_; intro w5 K5; dsimp only [List.nil_append, List.cons_append] at K5; clear K4))
        go_roundw
        case rel => exact ⟨i + 1, D1, D2, by go_num, by omega, HN2.out, ((K5.tail).mapMono [] (Nat.le_succ i)).mapMono [_] (Nat.le_succ i)⟩
        case measure => simp [intOf]; omega
      · obtain ⟨hT, he, hv⟩ := opn_ok HBB.out ho
        rw [hV] at hv
        subst hv
        rw [ho] at HLB
        have b1 : (opTE key b != 0) = false := by rw [he]; rfl
        have hwS := wf_u32 hT.s0 hT.s1
        have hwI := wf_i64 (s := (i : Int)) (by omega) (by omega)
        have hkS := Maps.keyOf_int_mk Tryd.underlying22 hwS
        have hkI := Maps.keyOf_int_mk Tryd.underlying3 hwI
        have hpI := plainElem_int (H := Unit) Tryd.underlying3 hwI
        clear hV ho he hT
        obtain ⟨gt, hgt⟩ : ∃ g, w3.heap.size = g := ⟨_, rfl⟩
        go_upto_region 11 with (first
          | (have zz := tok1; clear zz tok1; refine wpList_alS K3 rfl 25 rfl (tkc 0 0 0 0) (by kernel_rfl) ?_; intro w4 hz4 K4; clear hz4 K3)
          | (have zz := tok2; clear zz tok2; refine wpList_stS [] K4 rfl 25 (.tmp 10) (.tmp 36) rfl rfl (cs := tkc s1 o1 n1 e1) rfl (by kernel_rfl) rfl (tkc_one s1 o1 n1 e1) ?_; intro w5 K5; dsimp only [List.nil_append, List.cons_append] at K5; clear K4))
        rw [hgt] at K5
        clear hgt
        obtain ⟨c0, c1, c2, c3, cz⟩ := tk4 (K5.blk (g := gt) (e := 25) (List.Mem.head _))
        go_upto_region 13 with (have zz := tok3; clear zz tok3; refine wpList_mapS [_] K5 rfl (.tmp 40) (.tmp 41) (.tmp 42) 70 rfl 25 lawI Tryd.underlying70 rfl (by unfold maxLen; omega) _ _ _ rfl rfl hkI (tkD (s1, o1, n1, e1)) [] (tkElem_mk s1 o1 n1 e1) ?_; intro w6 K6; dsimp only [List.nil_append, List.cons_append] at K6; clear K5)
        clear c0 c1 c2 c3 cz
        obtain ⟨c0, c1, c2, c3, cz⟩ := tk4 (K6.blk (g := gt) (e := 25) (List.Mem.head _))
        obtain ⟨f, hI, hBst, hO⟩ := HN1.out
        rcases hf : f s1 with _ | j
        · have hrun := look_best_none (K6.map (b := gb) (n := i) (D := D1) (List.Mem.tail _ (List.Mem.tail _ (List.Mem.head _)))) hBst hwS hf
          have HN2 := hide (ns_put (inv_first hI HLB.out hf) hBst hO HLB.out)
          clear hI hBst hO hf HN1 HLB
          go_wp2_with (have zz := tok4; clear zz tok4; refine wpList_mapS [_, _] K6 rfl (.tmp 60) (.tmp 62) (.tmp 63) 69 rfl 3 lawS Tryd.underlying69 rfl (by unfold maxLen; omega) _ _ _ rfl rfl hkS _ [] hpI ?_; intro w7 K7; dsimp only [List.nil_append, List.cons_append] at K7; clear K6)
          go_roundw
          case rel => exact ⟨i + 1, _, _, by go_num, by omega, HN2.out, K7.tail⟩
          case measure => simp [intOf]; omega
        · obtain ⟨hji, u, hju, hus, _⟩ := hI.2 s1 j hf
          obtain ⟨s2, o2, n2, e2⟩ := u
          have hrun := look_best_some (K6.map (b := gb) (n := i) (D := D1) (List.Mem.tail _ (List.Mem.tail _ (List.Mem.head _)))) hBst hwS hf
          have hrun2 := look_opd (K6.map (b := go) (n := i + 1) (D := D2.put (.int .i64 (i : Int)) (tkD (s1, o1, n1, e1))) (List.Mem.tail _ (List.Mem.head _))) (opd_put hO HLB.out) (show j < i + 1 by omega) hju (by omega)
          dsimp only at hrun2
          obtain ⟨q, hq⟩ : ∃ q, cmpT (s1, o1, n1, e1) (s2, o2, n2, e2) = q := ⟨_, rfl⟩
          have HC := hide (fun (x : World) => tcmp_any s1 o1 n1 e1 s2 o2 n2 e2 x)
          rw [hq] at HC
          by_cases hq0 : 0 < q
          · have HN2 := hide (ns_put (inv_turn hI HLB.out hf hju (by rw [hq]; exact hq0)) hBst hO HLB.out)
            clear hI hBst hO hf HN1 HLB hji hju hus hq
            go_wp2_with fail
            (with_reducible refine (HC.out _).mono ?_)
            rintro e w7 ⟨rfl, hx7⟩
            have K7 := K6.ext hx7
            clear K6 hx7 HC c0 c1 c2 c3 cz hrun hrun2
            obtain ⟨c0, c1, c2, c3, cz⟩ := tk4 (K7.blk (g := gt) (e := 25) (List.Mem.head _))
            go_wp2_with (have zz := tok4; clear zz tok4; refine wpList_mapS [_, _] K7 rfl (.tmp 60) (.tmp 62) (.tmp 63) 69 rfl 3 lawS Tryd.underlying69 rfl (by unfold maxLen; omega) _ _ _ rfl rfl hkS _ [] hpI ?_; intro w8 K8; dsimp only [List.nil_append, List.cons_append] at K8; clear K7)
            go_roundw
            case rel => exact ⟨i + 1, _, _, by go_num, by omega, HN2.out, K8.tail⟩
            case measure => simp [intOf]; omega
          · have HN2 : Hid (NS (opns key bs) (i + 1) D1 (D2.put (.int .i64 (i : Int)) (tkD (s1, o1, n1, e1)))) := hide ⟨f, inv_keep hI HLB.out hf hju (by rw [hq]; exact hq0), hBst, opd_put hO HLB.out⟩
            clear hI hBst hO hf HN1 HLB hji hju hus hq
            go_wp2_with fail
            (with_reducible refine (HC.out _).mono ?_)
            rintro e w7 ⟨rfl, hx7⟩
            have K7 := K6.ext hx7
            clear K6 hx7 HC c0 c1 c2 c3 cz hrun hrun2
            go_wp2_with fail
            go_roundw
            case rel => exact ⟨i + 1, _, _, by go_num, by omega, HN2.out, (K7.tail).mapMono [_] (Nat.le_succ i)⟩
            case measure => simp [intOf]; omega
end Go.Proofs.YtamlngdjbmndlaaDoor
