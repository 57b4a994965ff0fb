/- Lists of waiters: the reference's Join, Leave, Take. -/
import Derived.Test.YteecgieigjfjiaaW16
import Derived.Test.YteecgieigjfjiaaMonoF
namespace Go.Gr
open Go.RowKit Go.Sort
theorem results_ctt {P : Program} {fn : Func} {p q u : Tmp} {t1 : TypeId} (h : fn.results = #[.cell p t1, .tmp q, .tmp u]) (tmps : Array Value) (w : World) (g1 : Nat) (e1 : TypeId) (c1 : List Value) (d1 : TypeDesc)
    (hp : tmps.getD p undef = .pointer (some ⟨g1, 0, none⟩)) (hB1 : Blk w g1 e1 c1)
    (hu1 : P.underlying t1 = some d1) (hd1 : (match d1 with | .struct _ | .array _ _ => true | _ => false) = true) (hi1 : (P.info? t1).map (·.size) = some c1.length)
    {x y : Value} (hx : tmps.getD q undef = x) (hy : tmps.getD u undef = y) :
    (results fn tmps).run P w = .ok (.tuple #[.agg c1.toArray, x, y]) w := by
  subst hx hy
  have r1 := run_loadVar_row (P := P) w g1 e1 t1 c1.toArray (0, 0) d1 hB1 hu1 hd1 (by simpa using hi1)
  rw [Array.getD_eq_getD_getElem?] at hp
  simp only [results, h]
  simp [Result.andThen, hp, asAddr, r1]
end Go.Gr
namespace Go.Proofs.Yteecgieigjfjiaa
open Go.RowKit Go.Gr Go.Wl
set_option linter.unusedVariables false
set_option linter.unusedSimpArgs false
attribute [local go_sem] rdOp rdAt rdUpon Cls forall_fr
theorem rf_same {c d : Nat} {w w' : World} {A B : Option Addr} {vs : List Value} {S : St} (h : (AsRf A B vs S).p w) (hx : Ext w w') : RfTo c w A B vs S w' (rv A B S.length c d) S :=
  ⟨B, vs, d, rfl, rf_ext h hx, hx, fun _ h => .inl h⟩
/-- a new variable is written behind it -/
theorem rf_store {c : Nat} {w wx w8 w9 : World} {A B : Option Addr} {vs : List Value} {S S' : St} {v : Value} {g : Nat} (h : (AsRf A B vs S).p w) (hx : Ext w wx) (hr : RfTo c wx A B vs S w8 v S') (hg0 : w.heap.size ≤ g) (hg1 : g < wx.heap.size) (hu : Upd g w8 w9) (he : Ext w w9) : RfTo c w A B vs S w9 v S' := by
  obtain ⟨B', vs', d', rfl, hp, hx8, hf⟩ := hr
  have hne : ∀ k, (AsRf A B' vs' S').fp k → k ≠ g := by
    intro k hk e
    subst e
    rcases hf k hk with h1 | h1
    · have := (AsRf A B vs S).lt h k h1
      omega
    · omega
  refine ⟨B', vs', d', rfl, (AsRf A B' vs' S').loc hp fun k hk => hu.block k ((AsRf A B' vs' S').lt hp k hk) (fun e => hne k hk (by first | exact e | (cases e; rfl))), he, fun k hk => ?_⟩
  rcases hf k hk with h1 | h1
  · exact .inl h1
  · exact .inr (Nat.le_trans hx.size h1)
theorem rf_row_all {A B : Option Addr} {vs : List Value} {S : St} {w : World} (h : (AsRf A B vs S).p w) {s : Nat} (hs : s < S.length) : ∃ bd C cr, B = some bd ∧ (∀ w', Ext w w' → w'.cell? (bd.add s) = some (.slice C (wt S s).length cr) ∧ Rd w' C (u32s (wt S s))) ∧ (wt S s).length ≤ cr := by
  obtain ⟨bd, C, cr, e, hc, hv, hcr, hr⟩ := rf_row h hs
  exact ⟨bd, C, cr, e, fun w' x => ⟨(Below.cell x (cell_lt hc)).trans hc, hr.ext x⟩, hcr⟩
theorem rf_lim_all {A B : Option Addr} {vs : List Value} {S : St} {w : World} (h : (AsRf A B vs S).p w) {s : Nat} (hs : s < S.length) : ∃ ad, A = some ad ∧ ∀ w', Ext w w' → w'.cell? (ad.add s) = some (.int .i64 ((lm S s : Nat) : Int)) := by
  obtain ⟨ad, e, hc⟩ := rf_lim h hs
  exact ⟨ad, e, fun w' x => (Below.cell x (cell_lt hc)).trans hc⟩
set_option maxRecDepth 100000 in
set_option maxHeartbeats 8000000 in
theorem rjoin_any {A B : Option Addr} {vs : List Value} {S : St} {c d : Nat} {i o : Int} {w : World} (h : (AsRf A B vs S).p w) (hok : Ok S) (ho : 0 ≤ o ∧ o < 4294967296) : Calls Try.prog 31 #[rv A B S.length c d, .int .i64 i, .int .u32 o] w fun e w' => ∃ v, e = .returned (.tuple #[v, .int .i64 (joinS S i o).2.1, .int .i64 (joinS S i o).2.2]) ∧ RfTo c w A B vs S w' v (joinS S i o).1 := by
  obtain ⟨i32, ki, kz0, kz1, kz2⟩ := info_parts info32
  have H := hide h
  have H0 := (Sep.refl No w).newB ((Ext.refl w).alloc (.cells #[.slice A S.length c, .slice B S.length d] 45)) (Blk.new w 45 [.slice A S.length c, .slice B S.length d]) (Nat.le_refl _)
  have HSO := hide (fun (x : World) => some_any (A := A) (B := B) (n := S.length) (c := c) (m := S.length) (d := d) i x)
  have tok1 : True := trivial
  clear h
  by_cases hin : inS S i
  · obtain ⟨hb, s, rfl, hs⟩ := inB_true hin
    rw [hb] at HSO
    have hsi : (s : Int) < (S.length : Int) := by omega
    have hS8 := hok.len
    have h1k := hok.get hin
    have hlen := h1k.len
    have hlim := h1k.lim
    simp only at hlen hlim
    obtain ⟨bd, C, cr, hB, hrow, hcr⟩ := rf_row_all H.out hs
    obtain ⟨ad, hA, hlm⟩ := rf_lim_all H.out hs
    subst hB hA
    have HROW := hide hrow
    have HLM := hide hlm
    clear hb hrow hlm h1k
    by_cases hfull : (wt S s).length = lm S s
    · have HE : Hid (joinS S s o = (S, 0, 5)) := hide (by unfold joinS; rw [if_neg (fun h => h hin), if_pos hfull])
      have hge : ((lm S s : Nat) : Int) ≤ ((wt S s).length : Int) := by omega
      clear hin hfull
      go_enter Try.func31, Try.ntmps31
      go_upto_region 1 with (have zz := tok1; clear zz tok1; refine wpList_alS H0 rfl 45 rfl [.slice none 0 0, .slice none 0 0] (by kernel_rfl) ?_; intro w1 hz1 K1; clear hz1)
      rw [show (World.alloc w (.cells #[.slice (some ad) S.length c, .slice (some bd) S.length d] 45)).heap.size = w.heap.size + 1 by simp] at K1
      try simp only [show (World.alloc w (.cells #[.slice (some ad) S.length c, .slice (some bd) S.length d] 45)).heap.size = w.heap.size + 1 by simp]
      obtain ⟨g3, G3⟩ : ∃ g, w.heap.size = g := ⟨_, rfl⟩
      rw [G3] at K1 ⊢
      have hG3 := hide G3
      clear H0 G3
      obtain ⟨c0, c1, hg0⟩ := cells2 (K1.blk (g := g3) (e := 45) (cs := [.slice (some ad) S.length c, .slice (some bd) S.length d]) (List.Mem.tail _ (List.Mem.head _)))
      have KK := hide K1
      clear K1
      go_wp2_with fail
      (with_reducible refine (HSO.out _).mono ?_)
      rintro e w2 ⟨rfl, hx2⟩
      have K2 := KK.out.ext hx2
      clear KK hx2 c0 c1 hg0
      obtain ⟨c0, c1, hg0⟩ := cells2 (K2.blk (g := g3) (e := 45) (cs := [.slice (some ad) S.length c, .slice (some bd) S.length d]) (List.Mem.tail _ (List.Mem.head _)))
      have KK := hide K2
      clear K2
      have c2 := (HROW.out _ KK.out.toExt).1
      have c3 := HLM.out _ KK.out.toExt
      have tok2 : True := trivial
      go_wp2_with (have zz := tok2; clear zz tok2; refine wpList_stS [] KK.out rfl 45 (.tmp 6) (.tmp 28) rfl rfl (cs := [.slice (some ad) S.length c, .slice (some bd) S.length d]) rfl (by kernel_rfl) rfl (refs_one _ _ rfl rfl) ?_; intro w9 K9; dsimp only [List.nil_append] at K9)
      refine bodyPost_ret (v := .tuple #[rv (some ad) (some bd) S.length c d, .int .i64 0, .int .i64 5]) (results_ctt rfl _ _ (g3 + 1) 45 [.slice (some ad) S.length c, .slice (some bd) S.length d] _ rfl (K9.blk (g := g3 + 1) (e := 45) (List.Mem.head _)) Try.underlying45 rfl (by kernel_rfl) rfl rfl) rfl ⟨_, by rw [HE.out]; try rfl, by rw [HE.out]; exact rf_same H.out K9.toExt⟩
    · have hlt : ¬ ((lm S s : Nat) : Int) ≤ ((wt S s).length : Int) := by omega
      have HPLC := hide (fun (x : World) (hr : Rd x C (u32s (wt S s))) => rplace_any (wt S s) o C cr x hr (by omega))
      by_cases hom : o ∈ wt S s
      · have HE : Hid (joinS S s o = (S, 0, 8)) := hide (by unfold joinS; rw [if_neg (fun h => h hin), if_neg hfull, if_pos hom])
        rw [fnd_in hom] at HPLC
        have hgt : (0 : Int) < (((wt S s).idxOf o : Nat) : Int) + 1 := by omega
        obtain ⟨q, hq⟩ : ∃ q : Int, (((wt S s).idxOf o : Nat) : Int) + 1 = q := ⟨_, rfl⟩
        rw [hq] at HPLC hgt
        clear hin hfull hom hq
        go_enter Try.func31, Try.ntmps31
        go_upto_region 1 with (have zz := tok1; clear zz tok1; refine wpList_alS H0 rfl 45 rfl [.slice none 0 0, .slice none 0 0] (by kernel_rfl) ?_; intro w1 hz1 K1; clear hz1)
        rw [show (World.alloc w (.cells #[.slice (some ad) S.length c, .slice (some bd) S.length d] 45)).heap.size = w.heap.size + 1 by simp] at K1
        try simp only [show (World.alloc w (.cells #[.slice (some ad) S.length c, .slice (some bd) S.length d] 45)).heap.size = w.heap.size + 1 by simp]
        obtain ⟨g3, G3⟩ : ∃ g, w.heap.size = g := ⟨_, rfl⟩
        rw [G3] at K1 ⊢
        have hG3 := hide G3
        clear H0 G3
        obtain ⟨c0, c1, hg0⟩ := cells2 (K1.blk (g := g3) (e := 45) (cs := [.slice (some ad) S.length c, .slice (some bd) S.length d]) (List.Mem.tail _ (List.Mem.head _)))
        have KK := hide K1
        clear K1
        go_wp2_with fail
        (with_reducible refine (HSO.out _).mono ?_)
        rintro e w2 ⟨rfl, hx2⟩
        have K2 := KK.out.ext hx2
        clear KK hx2 c0 c1 hg0
        obtain ⟨c0, c1, hg0⟩ := cells2 (K2.blk (g := g3) (e := 45) (cs := [.slice (some ad) S.length c, .slice (some bd) S.length d]) (List.Mem.tail _ (List.Mem.head _)))
        have KK := hide K2
        clear K2
        have c2 := (HROW.out _ KK.out.toExt).1
        have c3 := HLM.out _ KK.out.toExt
        have HRR := hide (HROW.out _ KK.out.toExt).2
        go_wp2_with fail
        (with_reducible refine (HPLC.out _ HRR.out).mono ?_)
        rintro e wz ⟨rfl, rfl⟩
        have tok2 : True := trivial
        go_wp2_with (have zz := tok2; clear zz tok2; refine wpList_stS [] KK.out rfl 45 (.tmp 6) (.tmp 33) rfl rfl (cs := [.slice (some ad) S.length c, .slice (some bd) S.length d]) rfl (by kernel_rfl) rfl (refs_one _ _ rfl rfl) ?_; intro w9 K9; dsimp only [List.nil_append] at K9)
        refine bodyPost_ret (v := .tuple #[rv (some ad) (some bd) S.length c d, .int .i64 0, .int .i64 8]) (results_ctt rfl _ _ (g3 + 1) 45 [.slice (some ad) S.length c, .slice (some bd) S.length d] _ rfl (K9.blk (g := g3 + 1) (e := 45) (List.Mem.head _)) Try.underlying45 rfl (by kernel_rfl) rfl rfl) rfl ⟨_, by rw [HE.out]; try rfl, by rw [HE.out]; exact rf_same H.out K9.toExt⟩
      · have HE : Hid (joinS S s o = (put S s (wt S s ++ [o]), ((wt S s).length : Int) + 1, 0)) := hide (by unfold joinS; rw [if_neg (fun h => h hin), if_neg hfull, if_neg hom])
        rw [fnd_out hom] at HPLC
        have hw1 : IntKind.i64.wrap (((wt S s).length : Int) + 1) = ((wt S s).length : Int) + 1 := IntWalk.i64_in _ (by omega)
        have HL1 : Hid ((wt S s).length = (u32s (wt S s)).length) := hide (u32s_len _).symm
        have HB1 : Hid (([] : List Value).length + (u32s (wt S s)).length ≤ 1000000000) := hide (by rw [u32s_len, List.length_nil]; omega)
        have HB2 : Hid (([] ++ u32s (wt S s)).length + [Value.int .u32 o].length ≤ 1000000000) := hide (by rw [List.nil_append, u32s_len, List.length_singleton]; omega)
        have HB2' : Hid ((u32s (wt S s)).length + [Value.int .u32 o].length ≤ 1000000000) := hide (by rw [u32s_len, List.length_singleton]; omega)
        have HAPP : Hid (u32s (wt S s) ++ [Value.int .u32 o] = u32s (wt S s ++ [o])) := hide (by rw [u32s_append]; rfl)
        have HLR : Hid ((wt S s ++ [o]).length ≤ 1000000) := hide (by rw [List.length_append, List.length_singleton]; omega)
        clear hin hfull hom
        go_enter Try.func31, Try.ntmps31
        go_upto_region 1 with (have zz := tok1; clear zz tok1; refine wpList_alS H0 rfl 45 rfl [.slice none 0 0, .slice none 0 0] (by kernel_rfl) ?_; intro w1 hz1 K1; clear hz1)
        rw [show (World.alloc w (.cells #[.slice (some ad) S.length c, .slice (some bd) S.length d] 45)).heap.size = w.heap.size + 1 by simp] at K1
        try simp only [show (World.alloc w (.cells #[.slice (some ad) S.length c, .slice (some bd) S.length d] 45)).heap.size = w.heap.size + 1 by simp]
        obtain ⟨g3, G3⟩ : ∃ g, w.heap.size = g := ⟨_, rfl⟩
        rw [G3] at K1 ⊢
        have hG3 := hide G3
        clear H0 G3
        obtain ⟨c0, c1, hg0⟩ := cells2 (K1.blk (g := g3) (e := 45) (cs := [.slice (some ad) S.length c, .slice (some bd) S.length d]) (List.Mem.tail _ (List.Mem.head _)))
        have KK := hide K1
        clear K1
        go_wp2_with fail
        (with_reducible refine (HSO.out _).mono ?_)
        rintro e w2 ⟨rfl, hx2⟩
        have K2 := KK.out.ext hx2
        clear KK hx2 c0 c1 hg0
        obtain ⟨c0, c1, hg0⟩ := cells2 (K2.blk (g := g3) (e := 45) (cs := [.slice (some ad) S.length c, .slice (some bd) S.length d]) (List.Mem.tail _ (List.Mem.head _)))
        have KK := hide K2
        clear K2
        have c2 := (HROW.out _ KK.out.toExt).1
        have c3 := HLM.out _ KK.out.toExt
        have HRR := hide (HROW.out _ KK.out.toExt).2
        go_wp2_with fail
        (with_reducible refine (HPLC.out _ HRR.out).mono ?_)
        rintro e wz ⟨rfl, rfl⟩
        clear c2 c3 HRR
        go_upto_region 8 with fail
        refine wp_region_wf (RT.fr fun k => w2.drew.heap.size ≤ k ∨ k = g3 + 1) 6 [0, 1, 3, 5, 9, 10, 11, 2, 4, 6, 7, 8, 12, 13, 14] (by kernel_rfl) (by kernel_rfl) (by kernel_rfl) (by kernel_rfl) (by kernel_rfl) ?_
        have H1 := KK.out.drew
        clear KK c0 c1 hg0
        generalize w2.drew = wd at *
        obtain ⟨SB, hSB⟩ : ∃ s, wd.heap.size = s := ⟨_, rfl⟩
        have hB3 := H1.blk (g := g3) (e := 45) (cs := [.slice (some ad) S.length c, .slice (some bd) S.length d]) (List.Mem.tail _ (List.Mem.head _))
        have hg3SB : g3 < SB := by rw [← hSB]; exact hB3.lt
        have hsz1 : SB ≤ wd.heap.size := Nat.le_of_eq hSB.symm
        rw [hSB]
        refine wf_ldX rfl rfl rfl 45 (.tmp 3) rfl (fun w' h' => hB3.at5.fr h' (by omega)) rfl _ Try.underlying45 rfl (by kernel_rfl) ?_
        iterate 6 (refine wf_rd rfl rfl rfl (fun K hK => ?_); go_simp; refine hK _ ?_; clear hK K)
        clear hB3 hSB
        refine wf_ext rfl rfl rfl (fun K hK => ?_) ?_
        · go_simp
          refine hK _ _ ((Fr.of_ext ((Ext.refl wd).alloc _)).mono (fun i h => h.elim)) ?_
          clear hK K
          have H2 := bs0 H1 23
          obtain ⟨wb1, hwb⟩ : ∃ x, World.alloc wd (.cells #[] 23) = x := ⟨_, rfl⟩
          have hsz2 : SB ≤ wb1.heap.size := by rw [← hwb]; simp; omega
          rw [hwb] at H2 ⊢
          have hov2 : SB ≤ wd.heap.size := hsz1
          clear hwb H1
          refine wf_ext rfl rfl rfl (fun K hK => ?_) ?_
          · rw [if_pos (show Region.wanted _ _ = true from rfl)]
            refine wp_apS [] H2 (.tmp 36) (.tmp 37) 39 rfl i32 (.int .u32 0) 4 Try.underlying39 ki kz0 kz1 kz2 rfl rfl (A := C) (m := (wt S s).length) (c := cr) (news := u32s (wt S s)) rfl HL1.out (HROW.out _ H2.toExt).2 (u32s_one _) HB1.out (by decide) ?_
            intro v38 w2a H3 hf5 hv5
            dsimp only [List.nil_append, List.cons_append] at H3
            have hov3 : ∀ j, v38.ownBlock = some j → SB ≤ j := fun j hj => (hv5 j hj).elim (fun h => by cases h; exact hov2) (fun h => Nat.le_trans hsz2 h)
            have hsz3 : SB ≤ w2a.heap.size := Nat.le_trans hsz2 hf5.size
            refine hK _ _ (hf5.mono (fun j hj => .inl (by cases hj; exact hov2))) ?_
            clear hK K hf5 hv5 H2
            refine wf_at rfl ?_
            refine wmr_ext rfl rfl (fun K hK => ?_)
            go_simp
            refine hK _ _ ((Fr.of_ext ((Ext.refl w2a).alloc _)).mono (fun i h => h.elim)) ?_
            clear hK K
            have H4 : Sep No w (World.alloc w2a (.cells #[.int .u32 o] 23)) (As.blk w2a.heap.size 23 [.int .u32 o] :: _) := Sep.add H3 23 [.int .u32 o]
            obtain ⟨wb3, hwb⟩ : ∃ x, World.alloc w2a (.cells #[.int .u32 o] 23) = x := ⟨_, rfl⟩
            have hsz4 : SB ≤ wb3.heap.size := by rw [← hwb]; simp; omega
            rw [hwb] at H4 ⊢
            clear hwb H3
            refine wmr_ext rfl rfl (fun K hK => ?_)
            rw [if_pos (show Region.wanted _ _ = true from rfl)]
            refine wp_apS [_] H4 (.tmp 38) (.tmp 40) 39 rfl i32 (.int .u32 0) 4 Try.underlying39 ki kz0 kz1 kz2 rfl rfl (A := some ⟨w2a.heap.size, 0, none⟩) (m := 1) (c := 1) (news := [.int .u32 o]) rfl rfl (H4.blk (g := w2a.heap.size) (e := 23) (List.Mem.head _)).rd (by simp [Value.oneCell']) HB2'.out (by decide) ?_
            intro v41 w4a H5 hf5 hv5
            dsimp only [List.nil_append, List.cons_append] at H5
            have hsz5 : SB ≤ w4a.heap.size := Nat.le_trans hsz4 hf5.size
            refine hK _ _ (hf5.mono (fun j hj => .inl (hov3 j hj))) ?_
            rw [HAPP.out] at H5
            clear hK K hf5 hv5 H4
            obtain ⟨C41, c41, hv41, hc41, hr41⟩ := own_row (H5.owns (e := 23) (v := v41) (List.Mem.tail _ (List.Mem.head _)))
            subst hv41
            refine wmr_ext rfl rfl (fun K hK => ?_)
            go_simp
            go_at_call 40
            have hW := with_any (c := c) (d := d) (rf_ext H.out H5.toExt) hs hS8 (wt S s ++ [o]) C41 c41 hr41 HLR.out
            rw [List.length_append, List.length_singleton] at hW
            (with_reducible refine hW.mono ?_)
            rintro e w8 ⟨v8, rfl, hRF⟩
            obtain ⟨B', vs', d', rfl, hp8, hx8, hf8⟩ := hRF
            have HRF : Hid (RfTo c w4a (some ad) (some bd) vs S w8 (rv (some ad) B' (put S s (wt S s ++ [o])).length c d') (put S s (wt S s ++ [o]))) := hide ⟨B', vs', d', rfl, hp8, hx8, hf8⟩
            refine hK _ _ ((Fr.of_ext hx8).mono (fun i h => h.elim)) ?_
            clear hK K
            have K8 := H5.ext hx8
            have HXA := hide H5.toExt
            have hgx : g3 + 1 < w4a.heap.size := (H5.blk (g := g3 + 1) (e := 45) (List.Mem.tail _ (List.Mem.tail _ (List.Mem.head _)))).lt
            clear hp8 hx8 hf8 hr41 hc41 hW H5
            refine wmr_ext rfl rfl (fun K hK => ?_)
            rw [if_pos (show Region.wanted _ _ = true from rfl)]
            refine wp_stS [_, _] K8 45 (.tmp 6) (.tmp 42) rfl (cs := [.slice (some ad) (put S s (wt S s ++ [o])).length c, .slice B' (put S s (wt S s ++ [o])).length d']) rfl rfl (by kernel_rfl) rfl (refs_one _ _ rfl rfl) (fun w9 K9 hu9 => hK _ _ ((Fr.of_upd hu9).mono fun k hk => .inr hk) ?_)
            dsimp only [List.nil_append, List.cons_append] at K9
            have HU9 := hide hu9
            clear hK K K8 hu9
            iterate 2 (refine wmr_rd rfl rfl (fun K hK => ?_); go_simp; refine hK _ ?_; clear hK K)
            refine wmr_nil ?_
            go_wp2_with fail
            refine bodyPost_ret (v := .tuple #[rv (some ad) B' (put S s (wt S s ++ [o])).length c d', .int .i64 (((wt S s).length : Int) + 1), .int .i64 0]) (results_ctt rfl _ _ (g3 + 1) 45 [.slice (some ad) (put S s (wt S s ++ [o])).length c, .slice B' (put S s (wt S s ++ [o])).length d'] _ rfl (K9.blk (g := g3 + 1) (e := 45) (List.Mem.tail _ (List.Mem.tail _ (List.Mem.head _)))) Try.underlying45 rfl (by kernel_rfl) rfl rfl) rfl ⟨_, by rw [HE.out]; try rfl, by rw [HE.out]; exact rf_store H.out HXA.out HRF.out (by rw [hG3.out]; omega) hgx HU9.out K9.toExt⟩
          · refine wmr_ext rfl rfl (fun K hK => ?_)
            go_simp
            refine hK _ _ ((Fr.of_ext ((Ext.refl wb1).alloc _)).mono (fun i h => h.elim)) ?_
            clear hK K
            have H3 : Sep No w (World.alloc wb1 (.cells #[.int .u32 o] 23)) (As.blk wb1.heap.size 23 [.int .u32 o] :: _) := Sep.add H2 23 [.int .u32 o]
            obtain ⟨wb2, hwb⟩ : ∃ x, World.alloc wb1 (.cells #[.int .u32 o] 23) = x := ⟨_, rfl⟩
            have hsz3 : SB ≤ wb2.heap.size := by rw [← hwb]; simp; omega
            rw [hwb] at H3 ⊢
            clear hwb H2
            refine wmr_ext rfl rfl (fun K hK => ?_)
            rw [if_pos (show Region.wanted _ _ = true from rfl)]
            refine wp_apS [_] H3 (.tmp 36) (.tmp 37) 39 rfl i32 (.int .u32 0) 4 Try.underlying39 ki kz0 kz1 kz2 rfl rfl (A := C) (m := (wt S s).length) (c := cr) (news := u32s (wt S s)) rfl HL1.out (HROW.out _ H3.toExt).2 (u32s_one _) HB1.out (by decide) ?_
            intro v38 w3a H4 hf5 hv5
            dsimp only [List.nil_append, List.cons_append] at H4
            have hov4 : ∀ j, v38.ownBlock = some j → SB ≤ j := fun j hj => (hv5 j hj).elim (fun h => by cases h; exact hov2) (fun h => Nat.le_trans hsz3 h)
            have hsz4 : SB ≤ w3a.heap.size := Nat.le_trans hsz3 hf5.size
            refine hK _ _ (hf5.mono (fun j hj => .inl (by cases hj; exact hov2))) ?_
            clear hK K hf5 hv5 H3
            refine wmr_ext rfl rfl (fun K hK => ?_)
            rw [if_pos (show Region.wanted _ _ = true from rfl)]
            refine wp_apS [_] H4 (.tmp 38) (.tmp 40) 39 rfl i32 (.int .u32 0) 4 Try.underlying39 ki kz0 kz1 kz2 rfl rfl (A := some ⟨wb1.heap.size, 0, none⟩) (m := 1) (c := 1) (news := [.int .u32 o]) rfl rfl (H4.blk (g := wb1.heap.size) (e := 23) (List.Mem.head _)).rd (by simp [Value.oneCell']) HB2'.out (by decide) ?_
            intro v41 w4a H5 hf5 hv5
            dsimp only [List.nil_append, List.cons_append] at H5
            have hsz5 : SB ≤ w4a.heap.size := Nat.le_trans hsz4 hf5.size
            refine hK _ _ (hf5.mono (fun j hj => .inl (hov4 j hj))) ?_
            rw [HAPP.out] at H5
            clear hK K hf5 hv5 H4
            obtain ⟨C41, c41, hv41, hc41, hr41⟩ := own_row (H5.owns (e := 23) (v := v41) (List.Mem.tail _ (List.Mem.head _)))
            subst hv41
            refine wmr_ext rfl rfl (fun K hK => ?_)
            go_simp
            go_at_call 40
            have hW := with_any (c := c) (d := d) (rf_ext H.out H5.toExt) hs hS8 (wt S s ++ [o]) C41 c41 hr41 HLR.out
            rw [List.length_append, List.length_singleton] at hW
            (with_reducible refine hW.mono ?_)
            rintro e w8 ⟨v8, rfl, hRF⟩
            obtain ⟨B', vs', d', rfl, hp8, hx8, hf8⟩ := hRF
            have HRF : Hid (RfTo c w4a (some ad) (some bd) vs S w8 (rv (some ad) B' (put S s (wt S s ++ [o])).length c d') (put S s (wt S s ++ [o]))) := hide ⟨B', vs', d', rfl, hp8, hx8, hf8⟩
            refine hK _ _ ((Fr.of_ext hx8).mono (fun i h => h.elim)) ?_
            clear hK K
            have K8 := H5.ext hx8
            have HXA := hide H5.toExt
            have hgx : g3 + 1 < w4a.heap.size := (H5.blk (g := g3 + 1) (e := 45) (List.Mem.tail _ (List.Mem.tail _ (List.Mem.head _)))).lt
            clear hp8 hx8 hf8 hr41 hc41 hW H5
            refine wmr_ext rfl rfl (fun K hK => ?_)
            rw [if_pos (show Region.wanted _ _ = true from rfl)]
            refine wp_stS [_, _] K8 45 (.tmp 6) (.tmp 42) rfl (cs := [.slice (some ad) (put S s (wt S s ++ [o])).length c, .slice B' (put S s (wt S s ++ [o])).length d']) rfl rfl (by kernel_rfl) rfl (refs_one _ _ rfl rfl) (fun w9 K9 hu9 => hK _ _ ((Fr.of_upd hu9).mono fun k hk => .inr hk) ?_)
            dsimp only [List.nil_append, List.cons_append] at K9
            have HU9 := hide hu9
            clear hK K K8 hu9
            iterate 2 (refine wmr_rd rfl rfl (fun K hK => ?_); go_simp; refine hK _ ?_; clear hK K)
            refine wmr_nil ?_
            go_wp2_with fail
            refine bodyPost_ret (v := .tuple #[rv (some ad) B' (put S s (wt S s ++ [o])).length c d', .int .i64 (((wt S s).length : Int) + 1), .int .i64 0]) (results_ctt rfl _ _ (g3 + 1) 45 [.slice (some ad) (put S s (wt S s ++ [o])).length c, .slice B' (put S s (wt S s ++ [o])).length d'] _ rfl (K9.blk (g := g3 + 1) (e := 45) (List.Mem.tail _ (List.Mem.tail _ (List.Mem.head _)))) Try.underlying45 rfl (by kernel_rfl) rfl rfl) rfl ⟨_, by rw [HE.out]; try rfl, by rw [HE.out]; exact rf_store H.out HXA.out HRF.out (by rw [hG3.out]; omega) hgx HU9.out K9.toExt⟩
        · refine wmr_ext rfl rfl (fun K hK => ?_)
          go_simp
          refine hK _ _ ((Fr.of_ext ((Ext.refl wd).alloc _)).mono (fun i h => h.elim)) ?_
          clear hK K
          have H2 : Sep No w (World.alloc wd (.cells #[.int .u32 o] 23)) (As.blk wd.heap.size 23 [.int .u32 o] :: _) := Sep.add H1 23 [.int .u32 o]
          obtain ⟨wb1, hwb⟩ : ∃ x, World.alloc wd (.cells #[.int .u32 o] 23) = x := ⟨_, rfl⟩
          have hsz2 : SB ≤ wb1.heap.size := by rw [← hwb]; simp; omega
          rw [hwb] at H2 ⊢
          clear hwb H1
          refine wmr_ext rfl rfl (fun K hK => ?_)
          go_simp
          refine hK _ _ ((Fr.of_ext ((Ext.refl wb1).alloc _)).mono (fun i h => h.elim)) ?_
          clear hK K
          have H3 := bs0 H2 23
          obtain ⟨wb2, hwb⟩ : ∃ x, World.alloc wb1 (.cells #[] 23) = x := ⟨_, rfl⟩
          have hsz3 : SB ≤ wb2.heap.size := by rw [← hwb]; simp; omega
          rw [hwb] at H3 ⊢
          have hov3 : SB ≤ wb1.heap.size := hsz2
          clear hwb H2
          refine wmr_ext rfl rfl (fun K hK => ?_)
          rw [if_pos (show Region.wanted _ _ = true from rfl)]
          refine wp_apS [] H3 (.tmp 36) (.tmp 37) 39 rfl i32 (.int .u32 0) 4 Try.underlying39 ki kz0 kz1 kz2 rfl rfl (A := C) (m := (wt S s).length) (c := cr) (news := u32s (wt S s)) rfl HL1.out (HROW.out _ H3.toExt).2 (u32s_one _) HB1.out (by decide) ?_
          intro v38 w3a H4 hf5 hv5
          dsimp only [List.nil_append, List.cons_append] at H4
          have hov4 : ∀ j, v38.ownBlock = some j → SB ≤ j := fun j hj => (hv5 j hj).elim (fun h => by cases h; exact hov3) (fun h => Nat.le_trans hsz3 h)
          have hsz4 : SB ≤ w3a.heap.size := Nat.le_trans hsz3 hf5.size
          refine hK _ _ (hf5.mono (fun j hj => .inl (by cases hj; exact hov3))) ?_
          clear hK K hf5 hv5 H3
          refine wmr_ext rfl rfl (fun K hK => ?_)
          rw [if_pos (show Region.wanted _ _ = true from rfl)]
          refine wp_apS [] H4 (.tmp 38) (.tmp 40) 39 rfl i32 (.int .u32 0) 4 Try.underlying39 ki kz0 kz1 kz2 rfl rfl (A := some ⟨wd.heap.size, 0, none⟩) (m := 1) (c := 1) (news := [.int .u32 o]) rfl rfl (H4.blk (g := wd.heap.size) (e := 23) (List.Mem.tail _ (List.Mem.head _))).rd (by simp [Value.oneCell']) HB2'.out (by decide) ?_
          intro v41 w4a H5 hf5 hv5
          dsimp only [List.nil_append, List.cons_append] at H5
          have hsz5 : SB ≤ w4a.heap.size := Nat.le_trans hsz4 hf5.size
          refine hK _ _ (hf5.mono (fun j hj => .inl (hov4 j hj))) ?_
          rw [HAPP.out] at H5
          clear hK K hf5 hv5 H4
          obtain ⟨C41, c41, hv41, hc41, hr41⟩ := own_row (H5.owns (e := 23) (v := v41) (List.Mem.head _))
          subst hv41
          refine wmr_ext rfl rfl (fun K hK => ?_)
          go_simp
          go_at_call 40
          have hW := with_any (c := c) (d := d) (rf_ext H.out H5.toExt) hs hS8 (wt S s ++ [o]) C41 c41 hr41 HLR.out
          rw [List.length_append, List.length_singleton] at hW
          (with_reducible refine hW.mono ?_)
          rintro e w8 ⟨v8, rfl, hRF⟩
          obtain ⟨B', vs', d', rfl, hp8, hx8, hf8⟩ := hRF
          have HRF : Hid (RfTo c w4a (some ad) (some bd) vs S w8 (rv (some ad) B' (put S s (wt S s ++ [o])).length c d') (put S s (wt S s ++ [o]))) := hide ⟨B', vs', d', rfl, hp8, hx8, hf8⟩
          refine hK _ _ ((Fr.of_ext hx8).mono (fun i h => h.elim)) ?_
          clear hK K
          have K8 := H5.ext hx8
          have HXA := hide H5.toExt
          have hgx : g3 + 1 < w4a.heap.size := (H5.blk (g := g3 + 1) (e := 45) (List.Mem.tail _ (List.Mem.tail _ (List.Mem.head _)))).lt
          clear hp8 hx8 hf8 hr41 hc41 hW H5
          refine wmr_ext rfl rfl (fun K hK => ?_)
          rw [if_pos (show Region.wanted _ _ = true from rfl)]
          refine wp_stS [_, _] K8 45 (.tmp 6) (.tmp 42) rfl (cs := [.slice (some ad) (put S s (wt S s ++ [o])).length c, .slice B' (put S s (wt S s ++ [o])).length d']) rfl rfl (by kernel_rfl) rfl (refs_one _ _ rfl rfl) (fun w9 K9 hu9 => hK _ _ ((Fr.of_upd hu9).mono fun k hk => .inr hk) ?_)
          dsimp only [List.nil_append, List.cons_append] at K9
          have HU9 := hide hu9
          clear hK K K8 hu9
          iterate 2 (refine wmr_rd rfl rfl (fun K hK => ?_); go_simp; refine hK _ ?_; clear hK K)
          refine wmr_nil ?_
          go_wp2_with fail
          refine bodyPost_ret (v := .tuple #[rv (some ad) B' (put S s (wt S s ++ [o])).length c d', .int .i64 (((wt S s).length : Int) + 1), .int .i64 0]) (results_ctt rfl _ _ (g3 + 1) 45 [.slice (some ad) (put S s (wt S s ++ [o])).length c, .slice B' (put S s (wt S s ++ [o])).length d'] _ rfl (K9.blk (g := g3 + 1) (e := 45) (List.Mem.tail _ (List.Mem.tail _ (List.Mem.head _)))) Try.underlying45 rfl (by kernel_rfl) rfl rfl) rfl ⟨_, by rw [HE.out]; try rfl, by rw [HE.out]; exact rf_store H.out HXA.out HRF.out (by rw [hG3.out]; omega) hgx HU9.out K9.toExt⟩
  · have hb := inB_false hin
    rw [hb] at HSO
    have HE : Hid (joinS S i o = (S, 0, 4)) := hide (by unfold joinS; rw [if_pos hin])
    clear hb hin
    go_enter Try.func31, Try.ntmps31
    go_upto_region 1 with (have zz := tok1; clear zz tok1; refine wpList_alS H0 rfl 45 rfl [.slice none 0 0, .slice none 0 0] (by kernel_rfl) ?_; intro w1 hz1 K1; clear hz1)
    rw [show (World.alloc w (.cells #[.slice A S.length c, .slice B S.length d] 45)).heap.size = w.heap.size + 1 by simp] at K1
    try simp only [show (World.alloc w (.cells #[.slice A S.length c, .slice B S.length d] 45)).heap.size = w.heap.size + 1 by simp]
    obtain ⟨g3, G3⟩ : ∃ g, w.heap.size = g := ⟨_, rfl⟩
    rw [G3] at K1 ⊢
    have hG3 := hide G3
    clear H0 G3
    obtain ⟨c0, c1, hg0⟩ := cells2 (K1.blk (g := g3) (e := 45) (cs := [.slice A S.length c, .slice B S.length d]) (List.Mem.tail _ (List.Mem.head _)))
    have KK := hide K1
    clear K1
    go_wp2_with fail
    (with_reducible refine (HSO.out _).mono ?_)
    rintro e w2 ⟨rfl, hx2⟩
    have K2 := KK.out.ext hx2
    clear KK hx2 c0 c1 hg0
    obtain ⟨c0, c1, hg0⟩ := cells2 (K2.blk (g := g3) (e := 45) (cs := [.slice A S.length c, .slice B S.length d]) (List.Mem.tail _ (List.Mem.head _)))
    have KK := hide K2
    clear K2
    have tok2 : True := trivial
    go_wp2_with (have zz := tok2; clear zz tok2; refine wpList_stS [] KK.out rfl 45 (.tmp 6) (.tmp 14) rfl rfl (cs := [.slice A S.length c, .slice B S.length d]) rfl (by kernel_rfl) rfl (refs_one _ _ rfl rfl) ?_; intro w9 K9; dsimp only [List.nil_append] at K9)
    refine bodyPost_ret (v := .tuple #[rv A B S.length c d, .int .i64 0, .int .i64 4]) (results_ctt rfl _ _ (g3 + 1) 45 [.slice A S.length c, .slice B S.length d] _ rfl (K9.blk (g := g3 + 1) (e := 45) (List.Mem.head _)) Try.underlying45 rfl (by kernel_rfl) rfl rfl) rfl ⟨_, by rw [HE.out]; try rfl, by rw [HE.out]; exact rf_same H.out K9.toExt⟩
end Go.Proofs.Yteecgieigjfjiaa
