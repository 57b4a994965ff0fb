/- Texts put together: Z7 Z8. -/
import Derived.Test.YtdmaephmkfmehaaGreatDoorGo
namespace Go.Proofs.YtdmaephmkfmehaaGreatDoor
open Go.RowKit Go.Gr Go.Hp Go.Ad Go.Wl Go.Pm
set_option linter.unusedVariables false
set_option linter.unusedSimpArgs false
attribute [local go_sem] rdOp rdAt rdUpon Cls forall_fr
noncomputable abbrev metR : Value → Option (DataW Unit × List MemPlace) := plainElem Tryz.prog 4
theorem plainElem_bool_inv {P : Program} {e : TypeId} (he : P.underlying e = some .bool) {v : Value} {b : Bool} {ps : List MemPlace} (h : plainElem (H := Unit) P e v = some (.lit (.bool b), ps)) : v = .bool b := by
  unfold plainElem at h
  rw [he] at h
  cases v <;> simp at h
  rw [h.1]
theorem metR_inv {v : Value} {b : Bool} {ps : List MemPlace} (h : metR v = some (.lit (.bool b), ps)) : v = .bool b := plainElem_bool_inv Tryz.underlying4 h
/-- the seats met -/
structure MetB (D : DataW Unit) (ss : List Int) : Prop where
  at_ : ∀ x : Int, D.atKey (.int .i64 x) (.lit (.bool false)) = .lit (.bool (decide (x ∈ ss)))
theorem metB_nil : MetB (.map []) [] := ⟨fun x => rfl⟩
theorem metB_put {D : DataW Unit} {ss : List Int} (h : MetB D ss) (hm : Maps.IsMap D) (x : Int) : MetB (D.put (.int .i64 x) (.lit (.bool true))) (ss ++ [x]) := ⟨fun y => by
  by_cases e : y = x
  · subst e
    rw [Maps.atKey_put_same hm (show WideAt.IsKeyLit (.int .i64 y) from trivial), decide_eq_true (by simp)]
  · rw [Maps.atKey_put_other (by intro he; cases he; exact e rfl), h.at_ y]
    simp [e]⟩
/-- an answer and its error -/
def ResQ (bb : Bool) (w : World) (E : Int) (a : An) (e : Ending) (w' : World) : Prop := ∃ (x : Value) (F : Nat → Prop), e = .returned (.tuple #[x, .int .i64 E]) ∧ Sep No w w' [As.res bb x a F]
theorem resQ_none {bb : Bool} {w w' : World} (h : Ext w w') : ∃ F, Sep No w w' [As.res bb (.agg (rsC none none none none 0 0 0 0 0 0 0 0).toArray) An0 F] := by
  obtain ⟨F, hF⟩ := res_as (bb := bb) (x := .agg (rsC none none none none 0 0 0 0 0 0 0 0).toArray) (a := An0) (M := []) (L := []) ((Sep.refl No w).ext h) (fun y _ => res_none bb y)
  exact ⟨F, hF⟩
/-- what Offer answers -/
def offA (v : Vn) (rows : List (List Int)) (seats : List Int) (now : Int) : An :=
  if offE v rows seats now = 0 then ⟨[], (offO v (addT now v.ttl) (loadS (qs v) rows) seats).gr, rowsS (offO v (addT now v.ttl) (loadS (qs v) rows) seats).S, (offO v (addT now v.ttl) (loadS (qs v) rows) seats).fr⟩ else An0
theorem offA_bad {v : Vn} {rows : List (List Int)} {seats : List Int} {now : Int} {k : Int} (h : offE v rows seats now = k) (hk : k ≠ 0) : offA v rows seats now = An0 := by unfold offA; rw [if_neg (by rw [h]; exact hk)]
theorem res_pt {y : World} {vg vf : Value} {B : Option Addr} {vs : List Value} {rows : List (List Int)} {gs : List Gt} {fs : List Int} {n : Nat} (hA : (AsRows B vs rows).p y) (hg : OwnM y 43 4 vg (gtV gs)) (hf : Go.Gr.Own 0 y 3 vf (i64s fs)) (E : Option Addr) (ce : Nat) (en : List Ho) (hE : RdM y E 2 (hoV en)) (he : en.length ≤ ce) (hn : rows.length = n) :
    IsRes true y (.agg #[.slice E en.length ce, vg, .slice B n n, vf]) ⟨en, gs, rows, fs⟩ := by
  obtain ⟨G', cg, rfl, h1, h2, -⟩ := hg.form
  obtain ⟨F, cf, rfl, h3, h4, -⟩ := hf.form
  subst hn
  rw [gtV_len] at h2 ⊢
  rw [i64s_len] at h4 ⊢
  exact ⟨E, G', B, F, ce, cg, rows.length, cf, vs, rfl, he, h2, fun _ => Nat.le_refl _, h4, hE, h1, hA, h3⟩
theorem offE_open {v : Vn} {rows : List (List Int)} {seats : List Int} {now : Int} (h : opE v rows now ≠ 0) : offE v rows seats now = opE v rows now := by unfold offE; rw [if_pos h]
theorem offE_go {v : Vn} {rows : List (List Int)} {seats : List Int} {now : Int} (h : opE v rows now = 0) : offE v rows seats now = seatsG v (seats.take 0) (seats.drop 0) := by unfold offE; rw [if_neg (fun e => e h)]; rfl
theorem opE_le (v : Vn) (rows : List (List Int)) (now : Int) (h : opE v rows now = 0) : (loadS (qs v) rows).length ≤ rows.length := by
  unfold loadS
  rw [List.length_map, List.length_zip]; omega

set_option maxRecDepth 100000 in
set_option maxHeartbeats 4000000 in
theorem poffer_any (v : Vn) (A : Option Addr) (c : Nat) (rows : List (List Int)) (B : Option Addr) (vs : List Value) (d : Nat) (seats : List Int) (C : Option Addr) (cs : Nat) (now : Int) (w : World) (h : Secs w A v.secs) (hc : v.secs.length ≤ c) (hw : VnW v) (hB : (AsRows B vs rows).p w) (hrm : rows.length ≤ 100000) (hrl : ∀ r ∈ rows, r.length ≤ 1000000 ∧ ∀ x ∈ r, 0 ≤ x ∧ x < 4294967296) (hnow : now ≤ 9223372036854775807) (hC : Rd w C (i64s seats)) (hwf : ∀ x ∈ seats, (Lit.int .i64 x).wf = true) (hls : seats.length ≤ cs) (hl : seats.length ≤ 9000) :
    Calls Tryz.prog 14 #[.agg #[.int .i64 v.sh, .int .i64 v.ttl, .int .i64 v.ses, .slice A v.secs.length c], .slice B rows.length d, .slice C seats.length cs, .int .i64 now] w (ResQ true w (offE v rows seats now) (offA v rows seats now)) := by
  have HOP := hide (fun (y : World) (k : Ext w y) => open_any v A c rows B vs d now y (h.ext k) hc hw (asRows_x hB k) hrm hrl hnow)
  have HSE := hide (fun (y : World) (k : Ext w y) => hC.ext k)
  have HWF := hide hwf
  have HL := hide hl
  have HC := hide hls
  have hl2 : (seats.length : Int) ≤ 9000 := by omega
  clear h hc hw hB hrl hC hwf hl hls
  have K0 := (Sep.refl No w).add 24 (vnC v A c)
  have tok1 : True := trivial
  go_enter Tryz.func14, Tryz.ntmps14
  go_upto_region 1 with (have zz := tok1; clear zz tok1; refine wpList_alS K0 rfl 34 rfl (rsC none none none none 0 0 0 0 0 0 0 0) (by kernel_rfl) ?_; intro w1 hz1 K1; clear hz1 K0)
  obtain ⟨g4, G4⟩ : ∃ g, w.heap.size = g := ⟨_, rfl⟩
  obtain ⟨g8, G8⟩ : ∃ g, (w.alloc (.cells (vnC v A c).toArray 24)).heap.size = g := ⟨_, rfl⟩
  rw [G4, G8] at K1
  try rw [show w.heap.size + 1 = g8 by rw [← G8]; simp]
  try rw [G8]
  rw [G4]
  clear G4 G8
  obtain ⟨c0, c1, c2, c3, cz⟩ := blk4 (K1.blk (g := g4) (e := 24) (List.Mem.tail _ (List.Mem.head _)))
  have K2 := hide K1
  clear K1
  go_wp2_with fail
  (with_reducible refine (HOP.out _ K2.out.toExt).mono ?_)
  rintro e w2 (⟨h0, hb, g, gr, m, n, D, rfl, hD, hS⟩ | ⟨h0, rfl, hx⟩)
  rotate_left
  · have K3 := K2.out.ext hx
    have HE : Hid (offE v rows seats now = opE v rows now) := hide (offE_open h0)
    have HA := hide (offA_bad HE.out h0)
    have hb : (opE v rows now != 0) = true := bne_iff_ne.2 h0
    clear K2 hx c0 c1 c2 c3 cz h0
    have tok2 : True := trivial
    go_wp2_with (have zz := tok2; clear zz tok2; refine wpList_stS [] K3 rfl 34 (.tmp 8) (.tmp 26) rfl rfl (cs := rsC none none none none 0 0 0 0 0 0 0 0) rfl (by kernel_rfl) rfl (rsC_one rfl rfl rfl rfl) ?_; intro w4 K4; dsimp only [List.nil_append] at K4; clear K3)
    refine bodyPost_ret (v := .tuple #[.agg (rsC none none none none 0 0 0 0 0 0 0 0).toArray, .int .i64 (opE v rows now)]) (results_ct rfl _ _ g8 34 (rsC none none none none 0 0 0 0 0 0 0 0) _ rfl (K4.blk (g := g8) (e := 34) (List.Mem.head _)) Tryz.underlying34 rfl (by kernel_rfl) rfl) rfl ?_
    rw [HE.out, HA.out]
    exact (resQ_none K4.toExt).elim fun F hF => ⟨_, F, rfl, hF⟩
  have HE := hide (offE_go (seats := seats) h0)
  have H0 := hide h0
  have HD := hide hD
  have HZ := hide (opE_zero h0)
  have k3 := K2.out.joinW hS
  dsimp only [List.cons_append, List.nil_append] at k3
  have hmm := fun (t : TypeId) (x : World) => run_makeMap (P := Tryz.prog) t x
  have K3 := hide (k3.newMap Tryz.prog 3 metR)
  clear K2 hS h0 hD c0 c1 c2 c3 cz k3
  go_wp2_with fail
  obtain ⟨gm, hgm⟩ : ∃ g, w2.heap.size = g := ⟨_, rfl⟩
  rw [hgm] at K3 ⊢
  generalize World.alloc _ _ = w3 at K3 ⊢
  clear hgm hmm
  go_loopw [31] (fun v31 wr => ∃ (i nm : Nat) (Dm : DataW Unit), v31 = .int .i64 i ∧ i ≤ seats.length ∧ Hid (MetB Dm (seats.take i) ∧ nm ≤ i ∧ offE v rows seats now = seatsG v (seats.take i) (seats.drop i)) ∧ Hid (Sep No w wr [As.map Tryz.prog 3 metR gm nm Dm, As.blk hb 68 (hsC g m (addT now v.ttl) (.slice none 0 0) (.slice none 0 0) (.slice none 0 0) (.slice none 0 0)), AsLs g gr (loadS (qs v) rows), As.map Tryz.prog 3 secR m n D, As.blk g8 34 (rsC none none none none 0 0 0 0 0 0 0 0), As.blk g4 24 (vnC v A c)])) (fun v31 _ => seats.length - (intOf v31).toNat)
  case atStart => exact ⟨0, 0, .map [], rfl, Nat.zero_le _, hide ⟨metB_nil, Nat.le_refl _, HE.out⟩, K3⟩
  case round =>
    clear K3 HE
    obtain ⟨i, nm, Dm, rfl, hil, HM, K4⟩ := hrel
    by_cases hlt : i < seats.length
    · have hli : (i : Int) < (seats.length : Int) := by omega
      have hic : (i : Int) < (cs : Int) := by have := HC.out; omega
      obtain ⟨ad, rfl, x0⟩ := i64s_at (HSE.out _ K4.out.toExt) hlt
      have xz := cell_lt x0
      obtain ⟨x, hx⟩ : ∃ x, seats[i] = x := ⟨_, rfl⟩
      have hxs : seats[i]? = some x := by rw [List.getElem?_eq_getElem hlt, hx]
      rw [hx] at x0
      have hkI := Maps.keyOf_int_mk (P := Tryz.prog) Tryz.underlying3 (HWF.out x (List.mem_of_getElem? hxs))
      obtain ⟨d0, d1, d2, d3, d4, d5, d6, dz⟩ := q7 (K4.out.blk (g := hb) (e := 68) (List.Mem.tail _ (List.Mem.head _)))
      obtain ⟨v1, ps1, hlk1, -⟩ := (K4.out.map (b := m) (n := n) (D := D) (List.Mem.tail _ (List.Mem.tail _ (List.Mem.tail _ (List.Mem.head _))))).look_ok lawI Tryz.underlying66 (z := .int .i64 0) (by kernel_rfl) (zd := .lit (.int .i64 0)) (zp := []) (plainElem_int Tryz.underlying3 (by decide)) hkI
      rw [HD.out.has x] at hlk1
      have HX := hide hxs
      have HLT := hide hlt
      clear hx hxs hlt
      by_cases hpl : plE v x = 0
      rotate_left
      · rw [decide_eq_false hpl] at hlk1
        have HE : Hid (offE v rows seats now = 4) := hide (by rw [HM.out.2.2]; exact seatsG_none HX.out hpl)
        have HA := hide (offA_bad HE.out (by decide))
        clear hpl
        have K5 := K4.out
        have tok2 : True := trivial
        go_wp2_with (have zz := tok2; clear zz tok2; refine wpList_stS [_, _, _, _] K5 rfl 34 (.tmp 8) (.tmp 46) rfl rfl (cs := rsC none none none none 0 0 0 0 0 0 0 0) rfl (by kernel_rfl) rfl (rsC_one rfl rfl rfl rfl) ?_; intro w6 K6; dsimp only [List.nil_append, List.cons_append] at K6; clear K5)
        refine bodyPost_ret (v := .tuple #[.agg (rsC none none none none 0 0 0 0 0 0 0 0).toArray, .int .i64 4]) (results_ct rfl _ _ g8 34 (rsC none none none none 0 0 0 0 0 0 0 0) _ rfl (K6.blk (g := g8) (e := 34) (List.Mem.tail _ (List.Mem.tail _ (List.Mem.tail _ (List.Mem.tail _ (List.Mem.head _)))))) Tryz.underlying34 rfl (by kernel_rfl) rfl) rfl ?_
        rw [HE.out, HA.out]
        exact (resQ_none K6.toExt).elim fun F hF => ⟨_, F, rfl, hF⟩
      rw [decide_eq_true hpl] at hlk1
      obtain ⟨v2, ps2, hlk2, hv2⟩ := (K4.out.map (b := gm) (n := nm) (D := Dm) (List.Mem.head _)).lookup lawI Tryz.underlying74 (z := .bool false) (by kernel_rfl) (zd := .lit (.bool false)) (zp := []) (plainElem_bool Tryz.underlying4 false) hkI
      rw [HM.out.1.at_ x] at hv2
      obtain rfl := metR_inv hv2
      clear hv2
      by_cases hme : x ∈ seats.take i
      · rw [decide_eq_true hme] at hlk2
        have HE : Hid (offE v rows seats now = 8) := hide (by rw [HM.out.2.2]; exact seatsG_twice HX.out hpl hme)
        have HA := hide (offA_bad HE.out (by decide))
        clear hpl hme
        have K5 := K4.out
        have tok2 : True := trivial
        go_wp2_with (have zz := tok2; clear zz tok2; refine wpList_stS [_, _, _, _] K5 rfl 34 (.tmp 8) (.tmp 50) rfl rfl (cs := rsC none none none none 0 0 0 0 0 0 0 0) rfl (by kernel_rfl) rfl (rsC_one rfl rfl rfl rfl) ?_; intro w6 K6; dsimp only [List.nil_append, List.cons_append] at K6; clear K5)
        refine bodyPost_ret (v := .tuple #[.agg (rsC none none none none 0 0 0 0 0 0 0 0).toArray, .int .i64 8]) (results_ct rfl _ _ g8 34 (rsC none none none none 0 0 0 0 0 0 0 0) _ rfl (K6.blk (g := g8) (e := 34) (List.Mem.tail _ (List.Mem.tail _ (List.Mem.tail _ (List.Mem.tail _ (List.Mem.head _)))))) Tryz.underlying34 rfl (by kernel_rfl) rfl) rfl ?_
        rw [HE.out, HA.out]
        exact (resQ_none K6.toExt).elim fun F hF => ⟨_, F, rfl, hF⟩
      rw [decide_eq_false hme] at hlk2
      have hnm : nm < maxLen := by have := HM.out.2.1; have := HL.out; unfold maxLen; omega
      have HM2 : Hid (MetB (Dm.put (.int .i64 x) (.lit (.bool true))) (seats.take (i + 1)) ∧ nm + 1 ≤ i + 1 ∧ offE v rows seats now = seatsG v (seats.take (i + 1)) (seats.drop (i + 1))) := hide (by
        have hm := K4.out.map (b := gm) (n := nm) (D := Dm) (List.Mem.head _)
        refine ⟨?_, by have := HM.out.2.1; omega, by rw [HM.out.2.2]; exact seatsG_next HX.out hpl hme⟩
        rw [List.take_add_one, HX.out]
        exact metB_put HM.out.1 hm.isMap x)
      have hvI := plainElem_bool (H := Unit) (P := Tryz.prog) Tryz.underlying4 true
      clear hpl hme
      have tok2 : True := trivial
      go_wp2_with (have zz := tok2; clear zz tok2; refine wpList_mapS [] K4.out rfl _ _ _ 74 rfl 4 lawI Tryz.underlying74 rfl hnm _ _ _ rfl rfl hkI _ [] hvI ?_; intro w9 K5; dsimp only [List.nil_append, List.cons_append] at K5; clear d0 d1 d2 d3 d4 d5 d6 dz hlk1 hlk2 x0 xz)
      have K6 := hide K5
      clear K5 K4
      go_roundw
      case rel => exact ⟨i + 1, nm + 1, _, by go_num, HLT.out, HM2, K6⟩
      case measure => have := HLT.out; simp [intOf]; omega
    · have hli : ¬ (i : Int) < (seats.length : Int) := by omega
      obtain rfl : i = seats.length := by omega
      have HE : Hid (offE v rows seats now = 0) := hide (by rw [HM.out.2.2]; exact seatsG_end (Nat.le_refl _))
      clear hlt HM
      have HAL := hide (pall_any (v := v) (S := loadS (qs v) rows) (dl := addT now v.ttl) (ve := .slice none 0 0) seats C cs HD.out rfl HWF.out HL.out HC.out (fun y L' h => h.rdN (HSE.out w (Ext.refl w))) (K4.out.perm (L' := [As.blk hb 68 (hsC g m (addT now v.ttl) (.slice none 0 0) (.slice none 0 0) (.slice none 0 0) (.slice none 0 0)), AsLs g gr (loadS (qs v) rows), As.map Tryz.prog 3 secR m n D, As.map Tryz.prog 3 metR gm nm Dm, As.blk g8 34 (rsC none none none none 0 0 0 0 0 0 0 0), As.blk g4 24 (vnC v A c)]) ((List.Perm.swap _ _ _).trans (List.Perm.cons _ ((List.Perm.swap _ _ _).trans (List.Perm.cons _ (List.Perm.swap _ _ _)))))))
      go_wp2_with fail
      (with_reducible refine HAL.out.mono ?_)
      rintro e w5 ⟨vg, B', vs', vf, rfl, K5⟩
      have hvg := ownMOne (K5.ownsM (e := 43) (k := 4) (v := vg) (List.Mem.tail _ (List.Mem.head _)))
      have hvf := ownOne (K5.owns (e := 3) (v := vf) (List.Mem.tail _ (List.Mem.tail _ (List.Mem.head _))))
      have HV := hide (rsC_one (show (Value.slice none 0 0).oneCell' = true from rfl) hvg (show (Value.slice B' (loadS (qs v) rows).length (loadS (qs v) rows).length).oneCell' = true from rfl) hvf)
      clear hvg hvf HAL K4
      have tok2 : True := trivial
      go_wp2_with (have zz := tok2; clear zz tok2; refine wpList_stS [_, _, _, _] K5 rfl 34 (.tmp 8) (.tmp 57) rfl rfl (cs := [.slice none 0 0, vg, .slice B' (loadS (qs v) rows).length (loadS (qs v) rows).length, vf]) rfl (by kernel_rfl) rfl HV.out ?_; intro w6 K6; dsimp only [List.nil_append, List.cons_append] at K6; clear K5)
      refine bodyPost_ret (v := .tuple #[.agg #[.slice none 0 0, vg, .slice B' (loadS (qs v) rows).length (loadS (qs v) rows).length, vf], .int .i64 0]) (results_ct rfl _ _ g8 34 [.slice none 0 0, vg, .slice B' (loadS (qs v) rows).length (loadS (qs v) rows).length, vf] _ rfl (K6.blk (g := g8) (e := 34) (List.Mem.tail _ (List.Mem.tail _ (List.Mem.tail _ (List.Mem.tail _ (List.Mem.head _)))))) Tryz.underlying34 rfl (by kernel_rfl) rfl) rfl ?_
      rw [show offA v rows seats now = _ from if_pos HE.out, HE.out]
      obtain ⟨F, hF⟩ := res_as (bb := true) (M := [_, _, _]) K6 (fun y hp => res_pt (n := (loadS (qs v) rows).length) (hp _ (List.Mem.head _)) (hp _ (List.Mem.tail _ (List.Mem.head _))) (hp _ (List.Mem.tail _ (List.Mem.tail _ (List.Mem.head _)))) none 0 [] (rdm_nil _ _ _) (Nat.le_refl _) (by rw [rowsS_len, offO_len]))
      exact ⟨_, F, rfl, hF.sub (.cons_cons _ (List.nil_sublist _))⟩
end Go.Proofs.YtdmaephmkfmehaaGreatDoor
namespace Go.Proofs.YtdmaephmkfmehaaGreatDoor
open Go.RowKit Go.Gr Go.Hp Go.Ad Go.Wl Go.Pm
set_option linter.unusedVariables false
set_option linter.unusedSimpArgs false
attribute [local go_sem] rdOp rdAt rdUpon Cls forall_fr
/-- what is wrong with a house and its holds -/
noncomputable def endE (v : Vn) (rows : List (List Int)) (held : List Ho) (now : Int) : Int := if opE v rows now ≠ 0 then opE v rows now else ldE (sumS v.secs : Nat) held
/-- what Ends answers, if these holds have ended -/
def endA (E : Int) (v : Vn) (rows : List (List Int)) (now : Int) (out : List Ho) : An :=
  if E = 0 then ⟨out, (offO v (addT now v.ttl) (loadS (qs v) rows) (out.map Ho.s)).gr, rowsS (offO v (addT now v.ttl) (loadS (qs v) rows) (out.map Ho.s)).S, (offO v (addT now v.ttl) (loadS (qs v) rows) (out.map Ho.s)).fr⟩ else An0
theorem endA_bad {E : Int} {v : Vn} {rows : List (List Int)} {now : Int} {out : List Ho} (h : E ≠ 0) : endA E v rows now out = An0 := by unfold endA; rw [if_neg h]
theorem endE_open {v : Vn} {rows : List (List Int)} {held : List Ho} {now : Int} (h : opE v rows now ≠ 0) : endE v rows held now = opE v rows now := by unfold endE; rw [if_pos h]
theorem endE_go {v : Vn} {rows : List (List Int)} {held : List Ho} {now : Int} (h : opE v rows now = 0) : endE v rows held now = ldE (sumS v.secs : Nat) held := by unfold endE; rw [if_neg (fun e => e h)]
/-- an answer of Ends -/
def EndR (bb : Bool) (w : World) (v : Vn) (rows : List (List Int)) (held : List Ho) (now : Int) (e : Ending) (w' : World) : Prop := ∃ out, (endE v rows held now = 0 → IsDue now held out) ∧ ResQ bb w (endE v rows held now) (endA (endE v rows held now) v rows now out) e w'
/-- holds without errors -/
structure HoldOk (sn : Int) (l : List Ho) : Prop where
  ran : 1 ≤ sn ∧ sn ≤ 4096
  nd : (l.map Ho.s).Nodup
  d0 : ∀ x ∈ l, 0 ≤ x.d
  s0 : ∀ x ∈ l, 0 ≤ x.s ∧ x.s < sn
theorem ldE_zero {sn : Int} {l : List Ho} (h : ldE sn l = 0) : HoldOk sn l := by
  unfold ldE at h
  split at h
  · cases h
  · rename_i h1
    split at h
    · cases h
    · rename_i h2
      split at h
      · cases h
      · rename_i h3
        have hb : ∀ x ∈ l, badB sn x.s x.d = false := fun x hx => by
          cases hq : badB sn x.s x.d
          · rfl
          · exact absurd (List.any_eq_true.2 ⟨x, hx, hq⟩) h2
        refine ⟨by omega, by simpa using h3, fun x hx => ?_, fun x hx => ?_⟩
        · have := hb x hx
          simp only [badB, Bool.or_eq_false_iff, decide_eq_false_iff_not] at this
          omega
        · have := hb x hx
          simp only [badB, Bool.or_eq_false_iff, decide_eq_false_iff_not] at this
          omega
theorem due_len {now : Int} {l out : List Ho} (h : IsDue now l out) : out.length ≤ l.length := by
  obtain ⟨rest, hp, -⟩ := h
  have := hp.length_eq
  rw [List.length_append] at this
  omega
theorem seats_take {out : List Ho} {i : Nat} {x : Ho} (hx : out[i]? = some x) : i64s ((out.map Ho.s).take i) ++ [.int .i64 x.s] = i64s ((out.map Ho.s).take (i + 1)) := by
  rw [List.take_add_one, List.getElem?_map, hx]
  simp [i64s]

set_option maxRecDepth 100000 in
set_option maxHeartbeats 4000000 in
theorem pends_any (v : Vn) (A : Option Addr) (c : Nat) (rows : List (List Int)) (B : Option Addr) (vs : List Value) (d : Nat) (held : List Ho) (C : Option Addr) (cs : Nat) (now : Int) (w : World) (h : Secs w A v.secs) (hc : v.secs.length ≤ c) (hw : VnW v) (hB : (AsRows B vs rows).p w) (hrm : rows.length ≤ 100000) (hrl : ∀ r ∈ rows, r.length ≤ 1000000 ∧ ∀ x ∈ r, 0 ≤ x ∧ x < 4294967296) (hnow : now ≤ 9223372036854775807) (hC : RdM w C 2 (hoV held)) (hok : ∀ x ∈ held, x.ok) (hls : held.length ≤ cs) (hl : held.length ≤ 4000) :
    Calls Tryz.prog 12 #[.agg #[.int .i64 v.sh, .int .i64 v.ttl, .int .i64 v.ses, .slice A v.secs.length c], .slice B rows.length d, .slice C held.length cs, .int .i64 now] w (EndR true w v rows held now) := by
  obtain ⟨i0, ki, kz0, kz1, kz2⟩ := info_parts infoIq
  have HOP := hide (fun (y : World) (k : Ext w y) => open_any v A c rows B vs d now y (h.ext k) hc hw (asRows_x hB k) hrm hrl hnow)
  have HLO := hide (fun (sn : Int) (y : World) (k : Ext w y) => load_hold sn held C cs y (hC.ext k) hok hls hl)
  have HL := hide hl
  have HOK := hide hok
  clear h hc hw hB hrl hC hls hok
  have K0 := (Sep.refl No w).add 24 (vnC v A c)
  have tok1 : True := trivial
  go_enter Tryz.func12, Tryz.ntmps12
  go_upto_region 1 with (have zz := tok1; clear zz tok1; refine wpList_alS K0 rfl 34 rfl (rsC none none none none 0 0 0 0 0 0 0 0) (by kernel_rfl) ?_; intro w1 hz1 K1; clear hz1 K0)
  obtain ⟨g4, G4⟩ : ∃ g, w.heap.size = g := ⟨_, rfl⟩
  obtain ⟨g8, G8⟩ : ∃ g, (w.alloc (.cells (vnC v A c).toArray 24)).heap.size = g := ⟨_, rfl⟩
  rw [G4, G8] at K1
  try rw [show w.heap.size + 1 = g8 by rw [← G8]; simp]
  try rw [G8]
  rw [G4]
  clear G4 G8
  obtain ⟨c0, c1, c2, c3, cz⟩ := blk4 (K1.blk (g := g4) (e := 24) (List.Mem.tail _ (List.Mem.head _)))
  have K2 := hide K1
  clear K1
  go_wp2_with fail
  (with_reducible refine (HOP.out _ K2.out.toExt).mono ?_)
  rintro e w2 (⟨h0, hb, g, gr, m, n, D, rfl, hD, hS⟩ | ⟨h0, rfl, hx⟩)
  rotate_left
  · have K3 := K2.out.ext hx
    have HE : Hid (endE v rows held now = opE v rows now) := hide (endE_open h0)
    have H0 := hide h0
    have hb : (opE v rows now != 0) = true := bne_iff_ne.2 h0
    clear K2 hx c0 c1 c2 c3 cz h0
    have tok2 : True := trivial
    go_wp2_with (have zz := tok2; clear zz tok2; refine wpList_stS [] K3 rfl 34 (.tmp 8) (.tmp 26) rfl rfl (cs := rsC none none none none 0 0 0 0 0 0 0 0) rfl (by kernel_rfl) rfl (rsC_one rfl rfl rfl rfl) ?_; intro w4 K4; dsimp only [List.nil_append] at K4; clear K3)
    refine bodyPost_ret (v := .tuple #[.agg (rsC none none none none 0 0 0 0 0 0 0 0).toArray, .int .i64 (opE v rows now)]) (results_ct rfl _ _ g8 34 (rsC none none none none 0 0 0 0 0 0 0 0) _ rfl (K4.blk (g := g8) (e := 34) (List.Mem.head _)) Tryz.underlying34 rfl (by kernel_rfl) rfl) rfl ?_
    refine ⟨[], fun h => absurd (HE.out.symm.trans h) H0.out, ?_⟩
    rw [HE.out, endA_bad H0.out]
    exact (resQ_none K4.toExt).elim fun F hF => ⟨_, F, rfl, hF⟩
  have HE := hide (endE_go (held := held) h0)
  have HD := hide hD
  have HZ := hide (opE_zero h0)
  have k3 := K2.out.joinW hS
  dsimp only [List.cons_append, List.nil_append] at k3
  have K3 := hide k3
  have hln := fun (ty : TypeId) => (k3.map (b := m) (n := n) (D := D) (List.Mem.tail _ (List.Mem.tail _ (List.Mem.head _)))).len (t := 66) Tryz.underlying66 ty
  rw [hD.size] at hln
  obtain ⟨sn, hsn⟩ : ∃ sn, sumS v.secs = sn := ⟨_, rfl⟩
  rw [hsn] at hln HE
  obtain ⟨d0, d1, d2, d3, d4, d5, d6, dz⟩ := q7 (k3.blk (g := hb) (e := 68) (List.Mem.head _))
  clear K2 hS h0 hD c0 c1 c2 c3 cz k3 hsn
  go_wp2_with fail
  (with_reducible refine (HLO.out _ _ K3.out.toExt).mono ?_)
  rintro e w3 (⟨h1, hb2, q, m2, mh, n2, nh, hv, D2, Dh, nx, gs, es, rfl, hgl, hh, hp, hhd, hS⟩ | ⟨h1, rfl, hx⟩)
  rotate_left
  · have K4 := K3.out.ext hx
    have H1 := hide h1
    have hb : (ldE (sn : Nat) held != 0) = true := bne_iff_ne.2 h1
    clear K3 hx h1 hln d0 d1 d2 d3 d4 d5 d6 dz
    have tok2 : True := trivial
    go_wp2_with (have zz := tok2; clear zz tok2; refine wpList_stS [_, _, _] K4 rfl 34 (.tmp 8) (.tmp 40) rfl rfl (cs := rsC none none none none 0 0 0 0 0 0 0 0) rfl (by kernel_rfl) rfl (rsC_one rfl rfl rfl rfl) ?_; intro w4 K5; dsimp only [List.nil_append, List.cons_append] at K5; clear K4)
    refine bodyPost_ret (v := .tuple #[.agg (rsC none none none none 0 0 0 0 0 0 0 0).toArray, .int .i64 (ldE (sn : Nat) held)]) (results_ct rfl _ _ g8 34 (rsC none none none none 0 0 0 0 0 0 0 0) _ rfl (K5.blk (g := g8) (e := 34) (List.Mem.tail _ (List.Mem.tail _ (List.Mem.tail _ (List.Mem.head _))))) Tryz.underlying34 rfl (by kernel_rfl) rfl) rfl ?_
    refine ⟨[], fun h => absurd (HE.out.symm.trans h) H1.out, ?_⟩
    rw [HE.out, endA_bad H1.out]
    exact (resQ_none K5.toExt).elim fun F hF => ⟨_, F, rfl, hF⟩
  have HH := ldE_zero h1
  rw [h1] at HE
  have K4 := K3.out.joinW hS
  dsimp only [List.cons_append, List.nil_append] at K4
  have HDU := hide (due_any (now := now) HZ.out.2.2 HH.ran.1 hgl hh hp hhd HH.nd HH.d0 HOK.out HL.out K4)
  have HH2 := hide HH
  clear K3 hS h1 hln d0 d1 d2 d3 d4 d5 d6 dz HH hgl hh hp hhd K4
  go_wp2_with fail
  (with_reducible refine HDU.out.mono ?_)
  rintro e w4 ⟨vo, out, rfl, hdue, K5⟩
  have HDUE := hide hdue
  have hol := due_len hdue
  have hol2 := HL.out
  have hol3 : out.length ≤ 4000 := by omega
  clear HDU hdue hol hol2
  obtain ⟨Ao, co, rfl, -, hco, -⟩ := (K5.ownsM (e := 39) (k := 2) (v := vo) (rows := hoV out) (List.Mem.head _)).form
  rw [hoV_len] at K5 hco ⊢
  have K6 := hide (K5.nilO 3)
  clear K5
  have hol4 : (out.length : Int) ≤ 4000 := by omega
  go_wp2_with fail
  go_loopw [14, 54] (fun v14 v54 wr => ∃ i : Nat, v54 = .int .i64 i ∧ i ≤ out.length ∧ Hid (Sep No w wr [As.own 3 v14 (i64s ((out.map Ho.s).take i)), As.ownM 39 2 (.slice Ao out.length co) (hoV out), As.blk hb 68 (hsC g m (addT now v.ttl) (.slice none 0 0) (.slice none 0 0) (.slice none 0 0) (.slice none 0 0)), AsLs g gr (loadS (qs v) rows), As.map Tryz.prog 3 secR m n D, As.blk g8 34 (rsC none none none none 0 0 0 0 0 0 0 0), As.blk g4 24 (vnC v A c)])) (fun v14 v54 _ => out.length - (intOf v54).toNat)
  case atStart => exact ⟨0, rfl, Nat.zero_le _, K6⟩
  case round =>
    clear K6
    obtain ⟨i, rfl, hil, K7⟩ := hrel
    by_cases hlt : i < out.length
    · have hli : (i : Int) < (out.length : Int) := by omega
      have hic : (i : Int) < (co : Int) := by omega
      obtain ⟨x, hx⟩ := some_of hlt
      obtain ⟨A', c', e', hrm, -, -⟩ := (K7.out.ownsM (e := 39) (k := 2) (v := .slice Ao out.length co) (rows := hoV out) (List.Mem.tail _ (List.Mem.head _))).form
      simp only [Value.slice.injEq] at e'
      obtain ⟨rfl, -, -⟩ := e'
      obtain ⟨b, off, hA, hat⟩ := ho_at hrm hx
      subst hA
      have HST := hide (seats_take hx)
      have HQ : Hid ((i64s ((out.map Ho.s).take i)).length < 1000000000) := hide (by rw [i64s_len, List.length_take]; omega)
      have HLT := hide hlt
      clear hlt hx hrm
      have K7' := K7.out
      clear K7
      have tok2 : True := trivial
      have tok3 : True := trivial
      have tok4 : True := trivial
      go_upto_region 14 with (first
        | (have zz := tok2; clear zz tok2; refine wpList_ldX rfl 39 (.tmp 56) rfl hat rfl _ Tryz.underlying39 rfl (by kernel_rfl) ?_)
        | (have zz := tok3; clear zz tok3; refine wpList_alS K7' rfl 39 rfl [.int .i64 0, .int .i64 0] (by kernel_rfl) ?_; intro w5 hz5 K8; clear hz5 K7')
        | (have zz := tok4; clear zz tok4; refine wpList_stS [] K8 rfl 39 (.tmp 16) (.tmp 57) rfl rfl (cs := hoC x) rfl (by kernel_rfl) rfl (ho_one x.s x.d) ?_; intro w6 K9; dsimp only [List.nil_append] at K9; clear K8))
      obtain ⟨g16, G16⟩ : ∃ g, wr.heap.size = g := ⟨_, rfl⟩
      rw [G16] at K9 ⊢
      clear G16 hat
      obtain ⟨b0, b1, bz⟩ := q2 (K9.blk (g := g16) (e := 39) (cs := hoC x) (List.Mem.head _))
      have tok5 : True := trivial
      go_wp2_with (have zz := tok5; clear zz tok5; refine wpList_pushS [_] K9 rfl (.tmp 58) (.tmp 61) 32 rfl i0 _ 8 Tryz.underlying32 ki kz0 kz1 kz2 rfl rfl rfl (by rfl) HQ.out (by decide) ?_; intro v14' w7 K10; dsimp only [List.nil_append, List.cons_append] at K10; clear K9 b0 b1 bz)
      rw [HST.out] at K10
      have K11 := hide K10.tail
      clear K10
      go_roundw
      case rel => exact ⟨i + 1, by go_num, HLT.out, K11⟩
      case measure => have := HLT.out; simp [intOf]; omega
    · have hli : ¬ (i : Int) < (out.length : Int) := by omega
      obtain rfl : i = out.length := by omega
      have ht : (out.map Ho.s).take out.length = out.map Ho.s := List.take_of_length_le (by rw [List.length_map]; exact Nat.le_refl _)
      rw [ht] at K7
      clear hlt ht
      obtain ⟨As', cs', hv14, -, hcs', -⟩ := (K7.out.owns (e := 3) (v := u14) (xs := i64s (out.map Ho.s)) (List.Mem.head _)).form
      subst hv14
      have hsl : (i64s (out.map Ho.s)).length = (out.map Ho.s).length := i64s_len _
      have K8 := K7.out
      rw [hsl] at K8 hcs'
      rw [hsl, List.length_map]
      have hl8 := (K8.blk (g := hb) (e := 68) (List.Mem.tail _ (List.Mem.tail _ (List.Mem.head _)))).lt
      clear K7 hsl
      have tok2 : True := trivial
      go_upto_region 17 with (have zz := tok2; clear zz tok2; refine wpList_st1S [_, _] K8 rfl 28 (.tmp 68) (.tmp 65) rfl (i := 3) (v := .slice Ao out.length co) rfl rfl (by kernel_rfl) (show 3 < 7 by decide) rfl ?_; intro w6 K9; dsimp only [List.nil_append, List.cons_append, List.set] at K9; clear K8 hl8)
      have HAL := hide (pall_any (v := v) (S := loadS (qs v) rows) (dl := addT now v.ttl) (ve := .slice Ao out.length co) (out.map Ho.s) As' cs' HD.out rfl (fun x hx => by
        obtain ⟨y, hy, rfl⟩ := List.mem_map.1 hx
        have hy2 := HOK.out y (isDue_mem HDUE.out y |>.1 hy).1
        exact wf_i64' hy2.s0 hy2.s1) (by rw [List.length_map]; omega) hcs' (L := [As.own 3 (.slice As' (out.map Ho.s).length cs') (i64s (out.map Ho.s)), As.ownM 39 2 (.slice Ao out.length co) (hoV out), As.blk g8 34 (rsC none none none none 0 0 0 0 0 0 0 0), As.blk g4 24 (vnC v A c)]) (fun y L' h => by
          obtain ⟨A9, c9, e9, h9, -⟩ := (h.owns (e := 3) (v := .slice As' (out.map Ho.s).length cs') (xs := i64s (out.map Ho.s)) (List.mem_append_right _ (List.Mem.head _))).form
          simp only [Value.slice.injEq] at e9
          obtain ⟨rfl, -, -⟩ := e9
          exact h9) (K9.perm (by
          have := (List.perm_append_comm (l₁ := [As.own 3 (.slice As' (out.map Ho.s).length cs') (i64s (out.map Ho.s)), As.ownM 39 2 (.slice Ao out.length co) (hoV out)]) (l₂ := [As.blk hb 68 (hsC g m (addT now v.ttl) (.slice Ao out.length co) (.slice none 0 0) (.slice none 0 0) (.slice none 0 0)), AsLs g gr (loadS (qs v) rows), As.map Tryz.prog 3 secR m n D])).append_right [As.blk g8 34 (rsC none none none none 0 0 0 0 0 0 0 0), As.blk g4 24 (vnC v A c)]
          exact this)))
      rw [List.length_map] at HAL
      clear K9
      go_wp2_with fail
      (with_reducible refine HAL.out.mono ?_)
      rintro e w5 ⟨vg, B', vs', vf, rfl, K5⟩
      have hvg := ownMOne (K5.ownsM (e := 43) (k := 4) (v := vg) (List.Mem.tail _ (List.Mem.head _)))
      have hvf := ownOne (K5.owns (e := 3) (v := vf) (List.Mem.tail _ (List.Mem.tail _ (List.Mem.head _))))
      have HV := hide (rsC_one (show (Value.slice Ao out.length co).oneCell' = true from rfl) hvg (show (Value.slice B' (loadS (qs v) rows).length (loadS (qs v) rows).length).oneCell' = true from rfl) hvf)
      clear hvg hvf HAL
      have tok3 : True := trivial
      go_wp2_with (have zz := tok3; clear zz tok3; refine wpList_stS [_, _, _, _, _] K5 rfl 34 (.tmp 8) (.tmp 72) rfl rfl (cs := [.slice Ao out.length co, vg, .slice B' (loadS (qs v) rows).length (loadS (qs v) rows).length, vf]) rfl (by kernel_rfl) rfl HV.out ?_; intro w6 K6; dsimp only [List.nil_append, List.cons_append] at K6; clear K5)
      refine bodyPost_ret (v := .tuple #[.agg #[.slice Ao out.length co, vg, .slice B' (loadS (qs v) rows).length (loadS (qs v) rows).length, vf], .int .i64 0]) (results_ct rfl _ _ g8 34 [.slice Ao out.length co, vg, .slice B' (loadS (qs v) rows).length (loadS (qs v) rows).length, vf] _ rfl (K6.blk (g := g8) (e := 34) (List.Mem.tail _ (List.Mem.tail _ (List.Mem.tail _ (List.Mem.tail _ (List.Mem.tail _ (List.Mem.head _))))))) Tryz.underlying34 rfl (by kernel_rfl) rfl) rfl ?_
      refine ⟨out, fun _ => HDUE.out, ?_⟩
      rw [HE.out, show endA 0 v rows now out = _ from if_pos rfl]
      obtain ⟨F, hF⟩ := res_as (bb := true) (M := [_, _, _, _, _]) K6 (fun y hp => by
        obtain ⟨A9, c9, e9, h9, -⟩ := OwnM.form (show OwnM y 39 2 (.slice Ao out.length co) (hoV out) from hp _ (List.Mem.tail _ (List.Mem.tail _ (List.Mem.tail _ (List.Mem.tail _ (List.Mem.head _))))))
        simp only [Value.slice.injEq] at e9
        obtain ⟨rfl, -, -⟩ := e9
        exact res_pt (n := (loadS (qs v) rows).length) (hp _ (List.Mem.head _)) (hp _ (List.Mem.tail _ (List.Mem.head _))) (hp _ (List.Mem.tail _ (List.Mem.tail _ (List.Mem.head _)))) Ao co out h9 hco (by rw [rowsS_len, offO_len]))
      exact ⟨_, F, rfl, hF.sub (.cons_cons _ (List.nil_sublist _))⟩
end Go.Proofs.YtdmaephmkfmehaaGreatDoor
