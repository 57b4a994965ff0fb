/- Promote: the law PromoteJust walked. -/
import Derived.Test.YtdmaephmkfmehaaGreatDoorP10c
import Derived.Test.YtdmaephmkfmehaaGreatDoorGq
namespace Go.Pm
open Go.Wl Go.Ad Go.Gr Go.Proofs.YtdmaephmkfmehaaGreatDoor
theorem joinsA_snoc : ∀ (t : List (List Int)) (s : Nat) (r : List Int), joinsA s (t ++ [r]) = joinsA s t ++ joins1 (s + t.length) r
  | [], s, r => by simp [joinsA]
  | q :: t, s, r => by
    rw [List.cons_append, joinsA, joinsA, joinsA_snoc t, List.append_assoc, List.length_cons]
    congr 3
    omega
theorem joinsA_next {rows : List (List Int)} {s : Nat} {r : List Int} (h : rows[s]? = some r) : joinsA 0 (rows.take (s + 1)) = joinsA 0 (rows.take s) ++ joins1 s r := by
  obtain ⟨hs, rfl⟩ := List.getElem?_eq_some_iff.1 h
  rw [List.take_succ_eq_append_getElem hs, joinsA_snoc, List.length_take, show 0 + min s rows.length = s by omega]
theorem joinsA_len : ∀ (t : List (List Int)) (s : Nat), (∀ r ∈ t, r.length ≤ 80) → (joinsA s t).length ≤ 80 * t.length
  | [], _, _ => by simp [joinsA]
  | r :: t, s, h => by
    have h1 := joinsA_len t (s + 1) (fun q hq => h q (List.mem_cons_of_mem _ hq))
    have h2 := h r (List.mem_cons_self ..)
    rw [joinsA, List.length_append, List.length_cons]
    unfold joins1
    rw [List.length_map]
    omega
theorem joins1_next {s : Nat} {r : List Int} {i : Nat} {o : Int} (h : r[i]? = some o) : spV (joins1 s (r.take (i + 1))) = spV (joins1 s (r.take i)) ++ [[.int .i64 1, .int .i64 s, .int .u32 o]] := by
  rw [List.take_add_one, h]
  simp [joins1, spV]
theorem joinsA_own : ∀ (t : List (List Int)) (s : Nat), (∀ r ∈ t, ∀ x ∈ r, 0 ≤ x ∧ x < 4294967296) → ∀ x ∈ joinsA s t, 0 ≤ x.own ∧ x.own < 4294967296
  | [], _, _, x, hx => by simp [joinsA] at hx
  | r :: t, s, h, x, hx => by
    rw [joinsA] at hx
    rcases List.mem_append.1 hx with h1 | h1
    · unfold joins1 at h1
      obtain ⟨o, ho, rfl⟩ := List.mem_map.1 h1
      exact h r (List.mem_cons_self ..) o ho
    · exact joinsA_own t (s + 1) (fun q hq => h q (List.mem_cons_of_mem _ hq)) x h1
theorem play_own {v : Vn} {rows : List (List Int)} {R : Rs} (h : Play v rows R) (hk : Ok (loadS (qs v) rows)) (hr : ∀ r ∈ rows, ∀ x ∈ r, 0 ≤ x ∧ x < 4294967296) : ∀ x ∈ playL rows R.gr, 0 ≤ x.own ∧ x.own < 4294967296 := by
  intro x hx
  unfold playL at hx
  rcases List.mem_append.1 hx with h1 | h1
  · exact joinsA_own rows 0 hr x h1
  · obtain ⟨g, hg, rfl⟩ := List.mem_map.1 h1
    have hs := h.sec g hg
    have h2 : g.own ∈ wt (loadS (qs v) rows) g.sec := by
      rw [h.ws _ hs.1]
      refine List.mem_append_left _ ?_
      unfold gotBy
      exact List.mem_map_of_mem (List.mem_filter.2 ⟨hg, by simp⟩)
    obtain ⟨k, hk2⟩ : ∃ k : Nat, g.sec = k := ⟨g.sec.toNat, by have := hs.1; omega⟩
    rw [hk2] at h2 hs
    have hlt : k < (loadS (qs v) rows).length := by have := hs.2; omega
    have h3 := (hk.all _ (List.getElem_mem hlt)).rng g.own
    refine h3 ?_
    unfold wt at h2
    simpa [List.getD_eq_getElem?_getD, hlt] using h2
theorem playL_at {rows : List (List Int)} {X : List Gt} {j : Nat} {q : Gt} (h : X[j]? = some q) : (playL rows X)[(joinsA 0 rows).length + j]? = some (give1 q) := by
  unfold playL
  rw [List.getElem?_append_right (by omega), Nat.add_sub_cancel_left, List.getElem?_map, h]
  rfl
end Go.Pm
namespace Go.Proofs.YtdmaephmkfmehaaGreatDoor
open Go.RowKit Go.Gr Go.Hp Go.Ad Go.Wl Go.Pm
set_option linter.unusedVariables false
set_option linter.unusedSimpArgs false
attribute [local go_sem] rdOp rdAt rdUpon Cls forall_fr
theorem isres_en2 {bb : Bool} {y : World} {E G B F : Option Addr} {ne ng nb nf ce cg cb cf : Nat} {a : An} (h : IsRes bb y (.agg (rsC E G B F ne ng nb nf ce cg cb cf).toArray) a) :
    a.en.length ≤ ce ∧ a.gr.length ≤ cg ∧ RdM y E 2 (hoV a.en) ∧ RdM y G 4 (gtV a.gr) := by
  obtain ⟨E', G', B', F', ce', cg', cb', cf', vs, h1, h2, h3, h4, h5, h6, h7, h8, h9⟩ := h
  have h10 : rsC E G B F ne ng nb nf ce cg cb cf = rsC E' G' B' F' a.en.length a.gr.length a.rows.length a.fr.length ce' cg' cb' cf' := by
    have := Value.agg.inj h1
    exact congrArg Array.toList this
  simp only [rsC, List.cons.injEq, Value.slice.injEq, and_true] at h10
  obtain ⟨⟨rfl, rfl, rfl⟩, ⟨rfl, rfl, rfl⟩, ⟨rfl, rfl, rfl⟩, ⟨rfl, rfl, rfl⟩⟩ := h10
  exact ⟨h2, h3, h6, h7⟩
theorem infoSp : (Tryz.prog.info? 49).map (fun i => (i.zero, i.size, i.bytes)) = some (some (.agg #[.int .i64 0, .int .i64 0, .int .u32 0]), 3, 24) := by kernel_rfl
theorem sp3_one (a b : Int) (o : Int) : ∀ u ∈ ([.int .i64 a, .int .i64 b, .int .u32 o] : List Value), u.oneCell' = true := by
  intro u hu
  simp only [List.mem_cons, List.not_mem_nil, or_false] at hu
  rcases hu with rfl | rfl | rfl <;> rfl
theorem spV_app (a b : List Sp) : spV (a ++ b) = spV a ++ spV b := by simp [spV]
theorem own_at8 {w : World} {e : TypeId} {n c g i : Nat} {l : List Sp} {x : Sp} (h : OwnM w e 3 (.slice (some ⟨g, 0, none⟩) n c) (spV l)) (hx : l[i]? = some x) : At5 w g (i * 3) (spC x) := by
  obtain ⟨g', c', hv, -, h1⟩ := h.at5 (by decide) (spV_at hx)
  simp only [Value.slice.injEq, Option.some.injEq, Addr.mk.injEq] at hv
  obtain ⟨⟨rfl, -, -⟩, -, -⟩ := hv
  exact h1
/-- what lies there while a play is made -/
abbrev PlL (v9 : Value) (l : List Sp) (g5 g2 : Nat) (cs5 : List Value) (a : An) (Fp : Nat → Prop) (h5 : List Value) : List As :=
  [As.ownM 49 3 v9 (spV l), As.blk g5 34 cs5, As.res true (.agg cs5.toArray) a Fp, As.blk g2 27 h5]
set_option maxRecDepth 100000 in
set_option maxHeartbeats 4000000 in
theorem just_law (w : World) (_ : True) (v0 : Value) (h0 : ∃ cs, v0 = .agg cs ∧ Lvs Tryz.prog w [.int .i64, .int .i64, .int .i64, .slice 100, .slice 47, .int .i64] cs.toList) (v1 : Value) (h1 : LfOk Tryz.prog w (.slice 3) v1) (bt : Int) (hbt : 0 ≤ bt ∧ bt < 256) : Calls Tryz.prog 4 #[v0, v1, .int .u8 bt] w fun e w' => e = .returned (.bool true) ∧ Ext w w' := by
  obtain ⟨i0, ki, kz0, kz1, kz2⟩ := info_parts infoSp
  obtain ⟨v, A, c, rows, B, vs, d, now, rfl, hH⟩ := house_arg h0
  obtain ⟨C, seats, cs, rfl, hC, hwf, hls, hlm⟩ := pints_arg h1
  clear h0 h1
  have HFAR := hide (fun (y : World) (k : Ext w y) => far_any v A c rows B vs d now y (hH.ext k).secs hH.cap hH.vw (hH.ext k).rws hH.rcap hH.many (fun r hr => (hH.row r hr).1))
  have HSOK := hide (fun (h : opE v rows now = 0) => loadS_ok (opE_zero h).2.1 (fun r hr => (hH.row r hr).2))
  have HFEW := hide (fun (hl : seats.length ≤ 9000) => offA_few (now := now) hl HSOK.out)
  have HOF := hide (fun (hm : rows.length ≤ 10) (hr : ∀ r ∈ rows, r.length ≤ 80) (hl : seats.length ≤ 9000) (y : World) (k : Ext w y) => poffer_any v A c rows B vs d seats C cs now y (hH.ext k).secs hH.cap hH.vw (hH.ext k).rws (by omega) (fun r h => ⟨by have := hr r h; omega, (hH.row r h).2⟩) hH.now.2 (hC.ext k) hwf hls hl)
  have HPL := hide (fun (hE : offE v rows seats now = 0) => play_offer hE (HSOK.out (offE_zero hE).1))
  have HOW := hide (fun (hE : offE v rows seats now = 0) => play_own (play_offer hE (HSOK.out (offE_zero hE).1)) (HSOK.out (offE_zero hE).1) (fun r hr => (hH.row r hr).2))
  have HPF := hide (fun (l : List Sp) (C' : Option Addr) (cs' : Nat) (y : World) (k : Ext w y) (hC' : RdM y C' 3 (spV l)) (ho : ∀ x ∈ l, 0 ≤ x.own ∧ x.own < 4294967296) (hls' : l.length ≤ cs') (hl' : l.length ≤ 1000000) => pfair_any v A c l C' cs' y (hH.ext k).secs hH.cap hH.vw hC' ho hls' hl')
  have HRB := hide (fun (y : World) (k : Ext w y) => (hH.ext k).rws)
  have HALL := hide (fun (hE : offE v rows seats now = 0) => offA_good hE)
  have HBAD := hide (fun (hE : offE v rows seats now ≠ 0) => offA_bad rfl hE)
  obtain ⟨E, hE⟩ : ∃ q, offE v rows seats now = q := ⟨_, rfl⟩
  obtain ⟨a, ha⟩ : ∃ q, offA v rows seats now = q := ⟨_, rfl⟩
  rw [hE, ha] at HOF HBAD
  have hrc := hH.rcap
  have hrm := hH.many
  have HE := hide hE
  have HA := hide ha
  have HB0 := hide hH.rws
  have HSE := hide (fun (y : World) (k : Ext w y) => hC.ext k)
  clear hE ha hC hwf hH HSOK
  have K0 := (Sep.refl No w).add 27 (hoX v A c B rows.length d now)
  go_enter Tryz.func4, Tryz.ntmps4
  go_upto_region 1 with fail
  generalize w.alloc _ = w1 at K0 ⊢
  obtain ⟨g2, G2⟩ : ∃ g, w.heap.size = g := ⟨_, rfl⟩
  rw [G2] at K0 ⊢
  clear G2
  have K1 := hide K0
  clear K0
  obtain ⟨c0, c1, c2, c3, c4, c5, cz⟩ := q6 (K1.out.blk (g := g2) (e := 27) (List.Mem.head _))
  go_wp2_with fail
  (with_reducible refine (HFAR.out _ K1.out.toExt).mono ?_)
  rintro e w2 ⟨b, rfl, hb, hx⟩
  have K2 := hide (K1.out.ext hx)
  clear K1 hx HFAR c0 c1 c2 c3 c4 c5 cz
  cases b
  rotate_left
  · go_wp2_with fail
    (with_reducible refine (pawake_any _).mono ?_)
    rintro e w3 ⟨rfl, hx⟩
    go_wp2_with fail
    go_ret
    exact ⟨rfl, K2.out.toExt.trans hx⟩
  obtain ⟨hr10, hr80⟩ := hb rfl
  clear hb
  by_cases hl : 100 < seats.length
  · have e1 : (100 : Int) < (seats.length : Int) := by omega
    clear hl
    go_wp2_with fail
    (with_reducible refine (pawake_any _).mono ?_)
    rintro e w3 ⟨rfl, hx⟩
    go_wp2_with fail
    go_ret
    exact ⟨rfl, K2.out.toExt.trans hx⟩
  have e1 : ¬ (100 : Int) < (seats.length : Int) := by omega
  have HO := hide (HOF.out hr10 hr80 (by omega))
  have HFW := hide (HFEW.out (by omega))
  have hl9 : seats.length ≤ 100 := by omega
  have H80 := hide hr80
  clear HOF HFEW hl hr80
  obtain ⟨c0, c1, c2, c3, c4, c5, cz⟩ := q6 (K2.out.blk (g := g2) (e := 27) (List.Mem.head _))
  go_wp2_with fail
  (with_reducible refine (HO.out _ K2.out.toExt).mono ?_)
  rintro e w3 ⟨x, Fp, rfl, hS⟩
  obtain ⟨E1, G1, B1, F1, ce1, cg1, cb1, cf1, vs1, rfl, -⟩ := res_get (hS.get (List.Mem.head _))
  have K3 := K2.out.joinW hS
  dsimp only [List.cons_append, List.nil_append] at K3
  clear hS K2 HO c0 c1 c2 c3 c4 c5 cz
  have tok1 : True := trivial
  have tok2 : True := trivial
  go_upto_region 4 with (first
    | (have zz := tok1; clear zz tok1; refine wpList_alS K3 rfl 34 rfl (rsC none none none none 0 0 0 0 0 0 0 0) (by kernel_rfl) ?_; intro w4 hz4 K4; clear hz4 K3)
    | (have zz := tok2; clear zz tok2; refine wpList_stS [] K4 rfl 34 (.tmp 7) (.tmp 37) rfl rfl (cs := rsC E1 G1 B1 F1 a.en.length a.gr.length a.rows.length a.fr.length ce1 cg1 cb1 cf1) rfl (by kernel_rfl) rfl (rsC_one rfl rfl rfl rfl) ?_; intro w5 K5; dsimp only [List.nil_append] at K5; clear K4))
  obtain ⟨g5, G5⟩ : ∃ g, w3.heap.size = g := ⟨_, rfl⟩
  rw [G5] at K5 ⊢
  clear G5
  by_cases hE : E = 0
  rotate_left
  · have eE : (E != 0) = true := bne_iff_ne.2 hE
    have K6 := hide K5
    clear K5 HBAD HPL HOW HALL HE HA HPF HRB H80 HFW
    go_wp2_with fail
    (with_reducible refine (pawake_any _).mono ?_)
    rintro e w10 ⟨rfl, hx⟩
    go_wp2_with fail
    go_ret
    exact ⟨rfl, K6.out.toExt.trans hx⟩
  have h0 := HE.out.trans hE
  subst hE
  have eE : ((0 : Int) != 0) = false := rfl
  have HA3 := hide (HA.out.symm.trans (HALL.out h0))
  have HP := hide (HPL.out h0)
  have HO := hide (HOW.out h0)
  have HMY := hide (offO_many v (addT now v.ttl) (loadS (qs v) rows) seats)
  clear HPL HOW HALL HE HA HBAD h0 HFW
  obtain ⟨R, hR⟩ : ∃ q, offO v (addT now v.ttl) (loadS (qs v) rows) seats = q := ⟨_, rfl⟩
  have ha := HA3.out
  rw [hR] at ha HP HO HMY
  clear HA3 hR
  subst ha
  dsimp only [List.length_nil] at K5 ⊢
  have hgl : R.gr.length ≤ 100 := by have := HMY.out; omega
  clear HMY
  have K6 : Hid (Sep No w w5 (PlL (.slice none 0 0) (joinsA 0 (rows.take 0)) g5 g2 (rsC E1 G1 B1 F1 0 R.gr.length (rowsS R.S).length R.fr.length ce1 cg1 cb1 cf1) ⟨[], R.gr, rowsS R.S, R.fr⟩ Fp (hoX v A c B rows.length d now))) := hide (K5.nilM 49 3)
  clear K5
  go_wp2_with fail
  go_loopw [9, 10] (fun v9 v10 wr => ∃ s : Nat, v10 = .int .i64 s ∧ s ≤ rows.length ∧ Hid (Sep No w wr (PlL v9 (joinsA 0 (rows.take s)) g5 g2 (rsC E1 G1 B1 F1 0 R.gr.length (rowsS R.S).length R.fr.length ce1 cg1 cb1 cf1) ⟨[], R.gr, rowsS R.S, R.fr⟩ Fp (hoX v A c B rows.length d now)))) (fun v9 v10 _ => rows.length - (intOf v10).toNat)
  case atStart => exact ⟨0, rfl, Nat.zero_le _, K6⟩
  case round =>
    clear K6
    obtain ⟨s, rfl, hsl, K7⟩ := hrel
    obtain ⟨d0, d1, d2, d3, d4, d5, dz⟩ := q6 (K7.out.blk (g := g2) (e := 27) (List.Mem.tail _ (List.Mem.tail _ (List.Mem.tail _ (List.Mem.head _)))))
    by_cases hlt : s < rows.length
    · have hs1 : (s : Int) < (rows.length : Int) := by omega
      have hs2 : (s : Int) < (d : Int) := by omega
      obtain ⟨r, hr⟩ : ∃ r, rows[s] = r := ⟨_, rfl⟩
      have HR1 : Hid (rows[s]? = some r) := hide (by rw [List.getElem?_eq_getElem hlt, hr])
      obtain ⟨bd, _, _, hBa, -, -, -⟩ := rowsL_at (HRB.out _ K7.out.toExt) (s := s) hlt
      subst hBa
      have hr80 := H80.out r (List.mem_of_getElem? HR1.out)
      have hjl : (joinsA 0 (rows.take s)).length ≤ 800 := by
        have := joinsA_len (rows.take s) 0 (fun q hq => H80.out q (List.mem_of_mem_take hq))
        rw [List.length_take] at this; omega
      have HLT := hide hlt
      have K8 : Hid (Sep No w wr (PlL u9 (joinsA 0 (rows.take s) ++ joins1 s (r.take 0)) g5 g2 (rsC E1 G1 B1 F1 0 R.gr.length (rowsS R.S).length R.fr.length ce1 cg1 cb1 cf1) ⟨[], R.gr, rowsS R.S, R.fr⟩ Fp (hoX v A c (some bd) rows.length d now))) := hide (by have h1 := K7.out; rw [show joinsA 0 (rows.take s) ++ joins1 s (r.take 0) = joinsA 0 (rows.take s) by simp [joins1]]; exact h1)
      clear K7 hlt hr
      go_wp2_with fail
      clear d0 d1 d2 d3 d4 d5 dz
      go_loopw [9, 11] (fun v9 v11 wr => ∃ i : Nat, v11 = .int .i64 i ∧ i ≤ r.length ∧ Hid (Sep No w wr (PlL v9 (joinsA 0 (rows.take s) ++ joins1 s (r.take i)) g5 g2 (rsC E1 G1 B1 F1 0 R.gr.length (rowsS R.S).length R.fr.length ce1 cg1 cb1 cf1) ⟨[], R.gr, rowsS R.S, R.fr⟩ Fp (hoX v A c (some bd) rows.length d now)))) (fun v9 v11 _ => r.length - (intOf v11).toNat)
      case atStart => exact ⟨0, rfl, Nat.zero_le _, K8⟩
      case round =>
        clear K8
        obtain ⟨i, rfl, hil, K9⟩ := hrel
        obtain ⟨d0, d1, d2, d3, d4, d5, dz⟩ := q6 (K9.out.blk (g := g2) (e := 27) (List.Mem.tail _ (List.Mem.tail _ (List.Mem.tail _ (List.Mem.head _)))))
        obtain ⟨bd2, Cr, cr, hBa, r0, hrq, hcq⟩ := rowsL_at (HRB.out _ K9.out.toExt) (s := s) HLT.out
        cases hBa
        have hrr : rows[s]'HLT.out = r := by
          have := HR1.out
          rw [List.getElem?_eq_getElem HLT.out, Option.some.injEq] at this
          exact this
        rw [hrr] at r0 hrq hcq
        by_cases hit : i < r.length
        · have hi1 : (i : Int) < (r.length : Int) := by omega
          have hi2 : (i : Int) < (cr : Int) := by omega
          obtain ⟨ad, rfl, x0⟩ := u32s_at hrq hit
          obtain ⟨o, ho'⟩ : ∃ q, r[i] = q := ⟨_, rfl⟩
          rw [ho'] at x0
          have ho : r[i]? = some o := by rw [List.getElem?_eq_getElem hit, ho']
          have hnx := joins1_next (s := s) ho
          have HNX := hide hnx
          have HQ : Hid ((spV (joinsA 0 (rows.take s) ++ joins1 s (r.take i))).length < 100000) := hide (by rw [spV_len, List.length_append]; unfold joins1; rw [List.length_map, List.length_take]; omega)
          have HIT := hide hit
          clear hit hnx ho ho' hrq
          have K9' := K9.out
          clear K9
          have tok5 : True := trivial
          go_wp2_with (have zz := tok5; clear zz tok5; refine wpList_pushM [] K9' rfl (.tmp 59) (.tmp 70) 46 rfl i0 _ 24 Tryz.underlying46 ki kz0 kz1 kz2 rfl (by decide) rfl rfl (r := [.int .i64 1, .int .i64 (s : Nat), .int .u32 o]) rfl (sp3_one _ _ _) HQ.out (by decide) ?_; intro v9' w7 K10; dsimp only [List.nil_append, List.cons_append] at K10; clear K9')
          have K11 : Hid (Sep No w w7 (PlL v9' (joinsA 0 (rows.take s) ++ joins1 s (r.take (i + 1))) g5 g2 (rsC E1 G1 B1 F1 0 R.gr.length (rowsS R.S).length R.fr.length ce1 cg1 cb1 cf1) ⟨[], R.gr, rowsS R.S, R.fr⟩ Fp (hoX v A c (some bd) rows.length d now))) := hide (by
            have e1 : spV (joinsA 0 (rows.take s) ++ joins1 s (r.take (i + 1))) = spV (joinsA 0 (rows.take s) ++ joins1 s (r.take i)) ++ [[.int .i64 1, .int .i64 (s : Nat), .int .u32 o]] := by
              rw [spV_app, spV_app, HNX.out, List.append_assoc]
            have h1 := K10
            rw [← e1] at h1
            exact h1)
          clear K10 d0 d1 d2 d3 d4 d5 dz r0 x0
          try go_frame
          go_roundw
          case rel => exact ⟨i + 1, by go_num, HIT.out, K11⟩
          case measure => have := HIT.out; simp [intOf]; omega
        · have hi1 : ¬ (i : Int) < (r.length : Int) := by omega
          obtain rfl : i = r.length := by omega
          have K10 : Hid (Sep No w wr (PlL u9 (joinsA 0 (rows.take (s + 1))) g5 g2 (rsC E1 G1 B1 F1 0 R.gr.length (rowsS R.S).length R.fr.length ce1 cg1 cb1 cf1) ⟨[], R.gr, rowsS R.S, R.fr⟩ Fp (hoX v A c (some bd) rows.length d now))) := hide (by
            rw [joinsA_next HR1.out]
            have h1 := K9.out
            rw [List.take_length] at h1
            exact h1)
          clear K9 hrq hcq hit
          go_wp2_with fail
          clear d0 d1 d2 d3 d4 d5 dz r0
          try go_frame
          go_roundw
          case rel => exact ⟨s + 1, by go_num, HLT.out, K10⟩
          case measure => have := HLT.out; simp [intOf]; omega
    · have hs1 : ¬ (s : Int) < (rows.length : Int) := by omega
      obtain rfl : s = rows.length := by omega
      rw [List.take_length] at K7
      have hJl : (joinsA 0 rows).length ≤ 800 := by have := joinsA_len rows 0 H80.out; omega
      obtain ⟨A9, c9, hv9, -, hc9, -⟩ := (K7.out.ownsM (e := 49) (k := 3) (v := u9) (rows := spV (joinsA 0 rows)) (List.Mem.head _)).form
      subst hv9
      rw [spV_len] at K7 hc9 ⊢
      obtain ⟨J, hJ⟩ : ∃ q, (joinsA 0 rows).length = q := ⟨_, rfl⟩
      have HJ := hide hJ
      rw [hJ] at K7 hc9 hJl ⊢
      clear hJ
      have K8 : Hid (Sep No w wr (PlL (.slice A9 J c9) (joinsA 0 rows ++ (R.gr.take 0).map give1) g5 g2 (rsC E1 G1 B1 F1 0 R.gr.length (rowsS R.S).length R.fr.length ce1 cg1 cb1 cf1) ⟨[], R.gr, rowsS R.S, R.fr⟩ Fp (hoX v A c B rows.length d now))) := hide (by have h1 := K7.out; rw [show joinsA 0 rows ++ (R.gr.take 0).map give1 = joinsA 0 rows by simp]; exact h1)
      clear K7 hlt
      go_wp2_with fail
      clear d0 d1 d2 d3 d4 d5 dz
      go_loopw [9, 13] (fun v9 v13 wr => ∃ i : Nat, v13 = .int .i64 i ∧ i ≤ R.gr.length ∧ Hid (Sep No w wr (PlL v9 (joinsA 0 rows ++ (R.gr.take i).map give1) g5 g2 (rsC E1 G1 B1 F1 0 R.gr.length (rowsS R.S).length R.fr.length ce1 cg1 cb1 cf1) ⟨[], R.gr, rowsS R.S, R.fr⟩ Fp (hoX v A c B rows.length d now)))) (fun v9 v13 _ => R.gr.length - (intOf v13).toNat)
      case atStart => exact ⟨0, rfl, Nat.zero_le _, K8⟩
      case round =>
        clear K8
        obtain ⟨i, rfl, hil, K9⟩ := hrel
        obtain ⟨c0, c1, c2, c3, cz⟩ := blk4 (K9.out.blk (g := g5) (e := 34) (List.Mem.tail _ (List.Mem.head _)))
        by_cases hit : i < R.gr.length
        · have hi1 : (i : Int) < (R.gr.length : Int) := by omega
          obtain ⟨g, hg⟩ := some_of hit
          have HG := hide hg
          have HIT := hide hit
          have hre := isres_en2 (res_get (K9.out.get (List.Mem.tail _ (List.Mem.tail _ (List.Mem.head _)))))
          have hi2 : (i : Int) < (cg1 : Int) := by have := hre.2.1; dsimp only at this; omega
          obtain ⟨b, off, hA, -⟩ := gt_at hre.2.2.2 hg
          subst hA
          clear hit hg hre
          go_upto_region 18 with fail
          refine wp_region_wmr (RT.fr (fun k => u9.ownBlock = some k)) [0, 1, 2, 3, 4, 5, 6, 7, 8, 9, 10, 11, 12, 13, 14, 15, 16] (by kernel_rfl) (by kernel_rfl) (by kernel_rfl) (by kernel_rfl) ?_
          have KD := K9.out.drew
          clear K9 c0 c1 c2 c3 cz
          generalize World.drew _ = wd at *
          obtain ⟨c0, c1, c2, c3, cz⟩ := blk4 (KD.blk (g := g5) (e := 34) (List.Mem.tail _ (List.Mem.head _)))
          have hne : ¬ u9.ownBlock = some g5 := fun hq => (List.pairwise_cons.1 KD.dis).1 _ (List.Mem.head _) g5 hq rfl
          have HCE : ∀ w' : World, Fr (fun k => u9.ownBlock = some k) wd w' → At5 w' b (off + i * 4) (gtC g) := fun w' h => by
            have h1 := KD.get (List.Mem.tail _ (List.Mem.tail _ (List.Mem.head _)))
            have h2 := h1.2 w' (fun k hk => h.block k (h1.1 k hk) (fun hq => (List.pairwise_cons.1 KD.dis).1 _ (List.Mem.tail _ (List.Mem.head _)) k hq hk))
            obtain ⟨_, _, e, h3⟩ := gt_at (isres_en2 h2).2.2.2 HG.out
            cases e
            exact h3
          iterate 2 (refine wmr_rd rfl rfl (fun K hK => ?_); go_simp; refine hK _ ?_; clear hK K)
          refine wmr_ld1 rfl rfl 31 (.tmp 82) rfl rfl (fun w' h => Fr.cell h c1 hne) _ Tryz.underlying31 rfl ?_
          iterate 3 (refine wmr_rd rfl rfl (fun K hK => ?_); go_simp; refine hK _ ?_; clear hK K)
          refine wmr_ld1 rfl rfl 3 (.tmp 86) rfl rfl (fun w' h => HCE w' h 1 _ rfl) _ Tryz.underlying3 rfl ?_
          iterate 1 (refine wmr_rd rfl rfl (fun K hK => ?_); go_simp; refine hK _ ?_; clear hK K)
          refine wmr_ld1 rfl rfl 31 (.tmp 88) rfl rfl (fun w' h => Fr.cell h c1 hne) _ Tryz.underlying31 rfl ?_
          iterate 3 (refine wmr_rd rfl rfl (fun K hK => ?_); go_simp; refine hK _ ?_; clear hK K)
          refine wmr_ld1 rfl rfl 41 (.tmp 92) rfl rfl (fun w' h => HCE w' h 2 _ rfl) _ Tryz.underlying41 rfl ?_
          iterate 1 (refine wmr_rd rfl rfl (fun K hK => ?_); go_simp; refine hK _ ?_; clear hK K)
          clear c0 c1 c2 c3 cz hne HCE
          refine wmr_ext rfl rfl (fun K hK => ?_)
          go_simp
          refine hK _ _ ((Fr.of_ext ((Ext.refl wd).alloc _)).mono (fun i h => h.elim)) ?_
          clear hK K
          have HN := hide (rdM_new wd 49 (spC (give1 g)))
          have KA := KD.ext ((Ext.refl wd).alloc (.cells (spC (give1 g)).toArray 49))
          clear KD
          have HQ : Hid ((spV (joinsA 0 rows ++ (R.gr.take i).map give1)).length + [spC (give1 g)].length ≤ 100000) := hide (by rw [spV_len, List.length_append, HJ.out, List.length_map, List.length_take, List.length_singleton]; omega)
          refine wmr_ext rfl rfl (fun K hK => ?_)
          rw [if_pos (show Region.wanted _ _ = true from rfl)]
          refine wp_apsM [] KA (.tmp 81) (.tmp 95) 46 rfl i0 _ 24 Tryz.underlying46 ki kz0 kz1 kz2 rfl (by decide) rfl (A := some ⟨wd.heap.size, 0, none⟩) (m := 1) (c := 1) (news := [spC (give1 g)]) rfl rfl HN.out (by intro r hr; rw [List.mem_singleton] at hr; subst hr; rfl) (by intro r hr; rw [List.mem_singleton] at hr; subst hr; exact spC_one _) HQ.out (by decide) ?_
          intro v9' w7 K10 hg1
          dsimp only [List.nil_append, List.cons_append] at K10
          refine hK _ _ hg1.fr ?_
          clear hK K hg1 KA HN HQ
          iterate 1 (refine wmr_rd rfl rfl (fun K hK => ?_); go_simp; refine hK _ ?_; clear hK K)
          refine wmr_nil ?_
          have K11 : Hid (Sep No w w7 (PlL v9' (joinsA 0 rows ++ (R.gr.take (i + 1)).map give1) g5 g2 (rsC E1 (some ⟨b, off, none⟩) B1 F1 0 R.gr.length (rowsS R.S).length R.fr.length ce1 cg1 cb1 cf1) ⟨[], R.gr, rowsS R.S, R.fr⟩ Fp (hoX v A c B rows.length d now))) := hide (by
            have e1 : spV (joinsA 0 rows ++ (R.gr.take (i + 1)).map give1) = spV (joinsA 0 rows ++ (R.gr.take i).map give1) ++ [spC (give1 g)] := by
              rw [List.take_add_one, HG.out, Option.toList, List.map_append, ← List.append_assoc, spV_app]; rfl
            have h1 := K10
            rw [← e1] at h1
            exact h1)
          clear K10
          go_wp2_with fail
          try go_frame
          go_roundw
          case rel => exact ⟨i + 1, by go_num, HIT.out, K11⟩
          case measure => have := HIT.out; simp [intOf]; omega
        · have hi1 : ¬ (i : Int) < (R.gr.length : Int) := by omega
          obtain rfl : i = R.gr.length := by omega
          rw [List.take_length] at K9
          have K10 : Hid (Sep No w wr (PlL u9 (playL rows R.gr) g5 g2 (rsC E1 G1 B1 F1 0 R.gr.length (rowsS R.S).length R.fr.length ce1 cg1 cb1 cf1) ⟨[], R.gr, rowsS R.S, R.fr⟩ Fp (hoX v A c B rows.length d now))) := K9
          clear K9 hit
          obtain ⟨A8, c8, hv8, hrd, hc8, -⟩ := (K10.out.ownsM (e := 49) (k := 3) (v := u9) (rows := spV (playL rows R.gr)) (List.Mem.head _)).form
          subst hv8
          obtain ⟨n, hnn⟩ : ∃ q, J + R.gr.length = q := ⟨_, rfl⟩
          have hn : (playL rows R.gr).length = n := by unfold playL; rw [List.length_append, HJ.out, List.length_map]; exact hnn
          have HN := hide hn
          have HNN := hide hnn
          rw [spV_len, hn] at K10 hc8 ⊢
          have hn9 : n ≤ 900 := by omega
          have HF1 := hide (HPF.out (playL rows R.gr) A8 c8 wr K10.out.toExt hrd HO.out (by rw [hn]; exact hc8) (by omega))
          rw [play_fair HP.out (by omega), hn] at HF1
          obtain ⟨d0, d1, d2, d3, d4, d5, dz⟩ := q6 (K10.out.blk (g := g2) (e := 27) (List.Mem.tail _ (List.Mem.tail _ (List.Mem.tail _ (List.Mem.head _)))))
          have n1 : ¬ (1000 : Int) < (n : Int) := by omega
          clear hn hnn hrd
          go_wp2_with fail
          (with_reducible refine HF1.out.mono ?_)
          rintro e w3 ⟨rfl, hx⟩
          have K11 := hide (K10.out.ext hx)
          clear K10 hx HF1 d0 d1 d2 d3 d4 d5 dz c0 c1 c2 c3 cz
          have m1 : ((-1 : Int) != -1) = false := rfl
          have m2 : ((0 : Int) != 0) = false := rfl
          obtain ⟨c0, c1, c2, c3, cz⟩ := blk4 (K11.out.blk (g := g5) (e := 34) (List.Mem.tail _ (List.Mem.head _)))
          by_cases hg2 : R.gr.length < 2
          · have g2l : (R.gr.length : Int) < 2 := by omega
            go_wp2_with fail
            (with_reducible refine (pawake_any _).mono ?_)
            rintro e w10 ⟨rfl, hx⟩
            go_wp2_with fail
            go_ret
            exact ⟨rfl, K11.out.toExt.trans hx⟩
          · have g2l : ¬ (R.gr.length : Int) < 2 := by omega
            obtain ⟨k, hk⟩ : ∃ k : Nat, bt.tmod (R.gr.length : Int) = (k : Int) := ⟨(bt % (R.gr.length : Int)).toNat, by
              rw [Int.tmod_eq_emod_of_nonneg hbt.1]; have := Int.emod_nonneg bt (show (R.gr.length : Int) ≠ 0 by omega); omega⟩
            have hkl : k < R.gr.length := by
              rw [Int.tmod_eq_emod_of_nonneg hbt.1] at hk
              have := Int.emod_lt_of_pos bt (show (0 : Int) < (R.gr.length : Int) by omega)
              omega
            obtain ⟨p, hp⟩ := some_of hkl
            obtain ⟨a, ha⟩ : ∃ q, J + k = q := ⟨_, rfl⟩
            have hn2 := HNN.out
            have w1 : IntKind.i64.wrap bt = bt := IntWalk.i64_in _ (by omega)
            have w2 : IntKind.i64.wrap (k : Int) = (k : Int) := IntWalk.i64_in _ (by omega)
            have w3' : IntKind.i64.wrap ((J : Int) + (k : Int)) = (a : Int) := by rw [IntWalk.i64_in _ (by omega)]; omega
            have w4 : IntKind.i64.wrap ((a : Int) + 1) = ((a + 1 : Nat) : Int) := by rw [IntWalk.i64_in _ (by omega)]; omega
            have z0 : ¬ (R.gr.length : Int) = 0 := by omega
            have hpa : (playL rows R.gr)[a]? = some (give1 p) := by have := playL_at (rows := rows) hp; rw [HJ.out, ha] at this; exact this
            obtain ⟨g8, c9', hv, -, -⟩ := (K11.out.ownsM (e := 49) (k := 3) (v := .slice A8 n c8) (rows := spV (playL rows R.gr)) (List.Mem.head _)).at5 (by decide) (spV_at hpa)
            simp only [Value.slice.injEq] at hv
            obtain ⟨rfl, -, -⟩ := hv
            have HPA := hide hpa
            have HPP := hide hp
            have HKL := hide hkl
            have HAK := hide ha
            clear hpa hp hkl ha hn2
            go_wp2_with fail
            clear c0 c1 c2 c3 cz w1 w2 w3' w4 z0
            go_loopw [17] (fun v17 wr => ∃ b : Nat, v17 = .int .i64 b ∧ a < b ∧ b ≤ n ∧ Hid (Sep No w wr (PlL (.slice (some ⟨g8, 0, none⟩) n c8) (playL rows R.gr) g5 g2 (rsC E1 G1 B1 F1 0 R.gr.length (rowsS R.S).length R.fr.length ce1 cg1 cb1 cf1) ⟨[], R.gr, rowsS R.S, R.fr⟩ Fp (hoX v A c B rows.length d now)))) (fun v17 _ => n - (intOf v17).toNat)
            case atStart => exact ⟨a + 1, by go_num, by omega, by have := HAK.out; have := HKL.out; have := HNN.out; omega, K11⟩
            case round =>
              clear K11
              obtain ⟨b, rfl, hab, hbn, K12⟩ := hrel
              by_cases hlt : b < n
              · obtain ⟨j, hj⟩ : ∃ j, b = J + j := ⟨b - J, by have := HAK.out; omega⟩
                have hjl : j < R.gr.length := by have := HNN.out; omega
                obtain ⟨q, hq⟩ := some_of hjl
                have hqb : (playL rows R.gr)[b]? = some (give1 q) := by have := playL_at (rows := rows) hq; rw [HJ.out, ← hj] at this; exact this
                have i1 : (b : Int) < (n : Int) := by omega
                have i2 : (a : Int) < (n : Int) := by omega
                have i3 : (b : Int) < (c8 : Int) := by omega
                have i4 : (a : Int) < (c8 : Int) := by omega
                have HQB := hide hqb
                have HQ := hide hq
                have HKJ : Hid (k < j) := hide (by have := HAK.out; omega)
                have HJB := hide hj
                have HLT := hide hlt
                have HAB := hide hab
                clear hqb hq hj hlt hjl hab
                go_upto_region 30 with fail
                refine wp_region_wm [0, 1, 2, 3, 4, 5, 6, 7, 8, 9, 10] (by kernel_rfl) (by kernel_rfl) (by kernel_rfl) (by kernel_rfl) ?_
                have K13 : Hid (Sep No w wr.drew (PlL (.slice (some ⟨g8, 0, none⟩) n c8) (playL rows R.gr) g5 g2 (rsC E1 G1 B1 F1 0 R.gr.length (rowsS R.S).length R.fr.length ce1 cg1 cb1 cf1) ⟨[], R.gr, rowsS R.S, R.fr⟩ Fp (hoX v A c B rows.length d now))) := hide K12.out.drew
                clear K12
                generalize World.drew _ = wd at *
                have aq := own_at8 (K13.out.ownsM (e := 49) (k := 3) (v := .slice (some ⟨g8, 0, none⟩) n c8) (rows := spV (playL rows R.gr)) (List.Mem.head _)) HQB.out
                have ap := own_at8 (K13.out.ownsM (e := 49) (k := 3) (v := .slice (some ⟨g8, 0, none⟩) n c8) (rows := spV (playL rows R.gr)) (List.Mem.head _)) HPA.out
                have q1 : wd.cell? ⟨g8, b * 3 + 1, none⟩ = some (.int .i64 q.sec) := aq 1 _ rfl
                have p1 : wd.cell? ⟨g8, a * 3 + 1, none⟩ = some (.int .i64 p.sec) := ap 1 _ rfl
                clear aq ap
                iterate 4 (refine wm_rd rfl rfl (fun K hK => ?_); go_simp; refine hK _ ?_; clear hK K)
                refine wm_ld1 rfl rfl 3 (.tmp 138) rfl rfl q1 _ Tryz.underlying3 rfl ?_
                iterate 4 (refine wm_rd rfl rfl (fun K hK => ?_); go_simp; refine hK _ ?_; clear hK K)
                refine wm_ld1 rfl rfl 3 (.tmp 143) rfl rfl p1 _ Tryz.underlying3 rfl ?_
                iterate 1 (refine wm_rd rfl rfl (fun K hK => ?_); go_simp; refine hK _ ?_; clear hK K)
                refine wm_nil ?_
                clear q1 p1
                by_cases hs : q.sec = p.sec
                rotate_left
                · have e1 : (q.sec != p.sec) = true := bne_iff_ne.2 hs
                  clear hs
                  go_wp2_with fail
                  try go_frame
                  go_roundw
                  case rel => exact ⟨b + 1, by go_num, by have := HAB.out; omega, HLT.out, K13⟩
                  case measure => have := HLT.out; simp [intOf]; omega
                · have e1 : (q.sec != p.sec) = false := by simp [hs]
                  have HS := hide hs
                  clear hs
                  go_upto_region 31 with fail
                  refine wp_region_ws2 (RT.fr No) (RT.fr (At g8)) (fun _ _ h => h.mono (fun _ h => h.elim)) 13 [0, 1, 2, 3, 4, 5, 6, 7, 8, 9, 10, 11, 12, 13, 14, 15] (by kernel_rfl) (by kernel_rfl) (by kernel_rfl) (by kernel_rfl) ?_
                  have KD := K13.out.drew
                  clear K13
                  generalize World.drew _ = we at *
                  have aq := own_at8 (KD.ownsM (e := 49) (k := 3) (v := .slice (some ⟨g8, 0, none⟩) n c8) (rows := spV (playL rows R.gr)) (List.Mem.head _)) HQB.out
                  have ap := own_at8 (KD.ownsM (e := 49) (k := 3) (v := .slice (some ⟨g8, 0, none⟩) n c8) (rows := spV (playL rows R.gr)) (List.Mem.head _)) HPA.out
                  iterate 2 (refine ws2_rd rfl rfl rfl (by kernel_rfl) (fun K hK => ?_); go_simp; refine hK _ ?_; clear hK K)
                  iterate 2 (refine ws2_pure rfl rfl rfl (by kernel_rfl) (fun K hK => ?_); go_simp; refine hK _ ?_; clear hK K)
                  iterate 3 (refine ws2_rd rfl rfl rfl (by kernel_rfl) (fun K hK => ?_); go_simp; refine hK _ ?_; clear hK K)
                  refine ws2_ldX rfl rfl (by kernel_rfl) rfl 49 (.tmp 152) rfl (fun w' h' => aq.fr h' (fun h => h)) rfl _ Tryz.underlying49 rfl (by kernel_rfl) ?_
                  iterate 3 (refine ws2_pure rfl rfl rfl (by kernel_rfl) (fun K hK => ?_); go_simp; refine hK _ ?_; clear hK K)
                  refine ws2_ldX rfl rfl (by kernel_rfl) rfl 49 (.tmp 156) rfl (fun w' h' => ap.fr h' (fun h => h)) rfl _ Tryz.underlying49 rfl (by kernel_rfl) ?_
                  iterate 1 (refine ws2_rd rfl rfl rfl (by kernel_rfl) (fun K hK => ?_); go_simp; refine hK _ ?_; clear hK K)
                  clear aq ap
                  have HB2 : Hid (((spV (playL rows R.gr)).set a [.int .i64 3, .int .i64 q.sec, .int .u32 q.own])[b]? = some (spC (give1 q))) := hide (by rw [List.getElem?_set_ne (by have := HAB.out; omega)]; exact spV_at HQB.out)
                  refine ws2_at rfl (fun K hK => ?_)
                  rw [if_pos (show Region.wanted _ _ = true from rfl)]
                  refine wp_stM3 [] KD 49 (.tmp 158) (.tmp 153) rfl (i := a) (spV_at HPA.out) rfl (u0 := .int .i64 3) (u1 := .int .i64 q.sec) (u2 := .int .u32 q.own) rfl rfl (by kernel_rfl) (spC_one (give1 q)) (fun w5 K5 hu5 => hK _ _ (Fr.of_upd hu5) ?_)
                  dsimp only [List.nil_append, List.cons_append] at K5
                  clear hK K hu5 KD
                  iterate 1 (refine wmr_rd rfl rfl (fun K hK => ?_); go_simp; refine hK _ ?_; clear hK K)
                  refine wmr_ext rfl rfl (fun K hK => ?_)
                  rw [if_pos (show Region.wanted _ _ = true from rfl)]
                  refine wp_stM3 [] K5 49 (.tmp 159) (.tmp 157) rfl (i := b) HB2.out rfl (u0 := .int .i64 3) (u1 := .int .i64 p.sec) (u2 := .int .u32 p.own) rfl rfl (by kernel_rfl) (spC_one (give1 p)) (fun w6 K6 hu6 => hK _ _ (Fr.of_upd hu6) ?_)
                  dsimp only [List.nil_append, List.cons_append] at K6
                  clear hK K hu6 K5 HB2
                  refine wmr_nil ?_
                  obtain ⟨l2, hl2⟩ : ∃ z, ((playL rows R.gr).set a (give1 q)).set b (give1 p) = z := ⟨_, rfl⟩
                  have K7 : Hid (Sep No w w6 (PlL (.slice (some ⟨g8, 0, none⟩) n c8) l2 g5 g2 (rsC E1 G1 B1 F1 0 R.gr.length (rowsS R.S).length R.fr.length ce1 cg1 cb1 cf1) ⟨[], R.gr, rowsS R.S, R.fr⟩ Fp (hoX v A c B rows.length d now))) := hide (by
                    have e1 : spV l2 = ((spV (playL rows R.gr)).set a [.int .i64 3, .int .i64 q.sec, .int .u32 q.own]).set b [.int .i64 3, .int .i64 p.sec, .int .u32 p.own] := by
                      rw [← hl2]; unfold spV; rw [List.map_set, List.map_set]; rfl
                    have h1 := K6
                    rw [← e1] at h1
                    exact h1)
                  clear K6
                  have hn : l2.length = n := by rw [← hl2, List.length_set, List.length_set]; exact HN.out
                  obtain ⟨A9, c9, hv9, hrd, -, -⟩ := (K7.out.ownsM (e := 49) (k := 3) (v := .slice (some ⟨g8, 0, none⟩) n c8) (rows := spV l2) (List.Mem.head _)).form
                  simp only [Value.slice.injEq] at hv9
                  obtain ⟨rfl, -, -⟩ := hv9
                  have ho2 : ∀ x ∈ l2, 0 ≤ x.own ∧ x.own < 4294967296 := fun x hx => by
                    rw [← hl2] at hx
                    rcases List.mem_or_eq_of_mem_set hx with hx | rfl
                    · rcases List.mem_or_eq_of_mem_set hx with hx | rfl
                      · exact HO.out x hx
                      · exact HO.out _ (List.mem_of_getElem? HQB.out)
                    · exact HO.out _ (List.mem_of_getElem? HPA.out)
                  have hfe : fairE v l2 = ((a : Int), 7) := by
                    have h1 := play_turned HP.out (by rw [HN.out]; omega) HKJ.out HPP.out HQ.out HS.out
                    rw [HJ.out, HAK.out, ← HJB.out, hl2] at h1
                    exact h1
                  have HF2 := hide (HPF.out l2 (some ⟨g8, 0, none⟩) c8 w6 K7.out.toExt hrd ho2 (by rw [hn]; exact hc8) (by omega))
                  rw [hfe, hn] at HF2
                  obtain ⟨d0, d1, d2, d3, d4, d5, dz⟩ := q6 (K7.out.blk (g := g2) (e := 27) (List.Mem.tail _ (List.Mem.tail _ (List.Mem.tail _ (List.Mem.head _)))))
                  have f1 : ((a : Int) == (a : Int)) = true := beq_self_eq_true _
                  have f2 : ((7 : Int) == 7) = true := rfl
                  clear hn hfe ho2 hrd hl2
                  go_wp2_with fail
                  (with_reducible refine HF2.out.mono ?_)
                  rintro e w7 ⟨rfl, hx⟩
                  have K8 := hide (K7.out.ext hx)
                  clear K7 hx HF2 d0 d1 d2 d3 d4 d5 dz
                  go_wp2_with fail
                  (with_reducible refine (pawake_any _).mono ?_)
                  rintro e w10 ⟨rfl, hx⟩
                  go_wp2_with fail
                  go_ret
                  exact ⟨rfl, K8.out.toExt.trans hx⟩
              · have i1 : ¬ (b : Int) < (n : Int) := by omega
                clear hlt
                go_wp2_with fail
                (with_reducible refine (pawake_any _).mono ?_)
                rintro e w10 ⟨rfl, hx⟩
                go_wp2_with fail
                go_ret
                exact ⟨rfl, K12.out.toExt.trans hx⟩
end Go.Proofs.YtdmaephmkfmehaaGreatDoor
