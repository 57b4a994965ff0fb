/- Texts put together: W17 W18 W19. -/
import Derived.Test.YtdmaephmkfmehaaGreatDoorGg
import Derived.Test.YtdmaephmkfmehaaGreatDoorGb
import Derived.Test.YtdmaephmkfmehaaGreatDoorGa
import Derived.Laws.ResultCell
namespace Go.Gr
open Go.RowKit Go.Sort
theorem wresults_ctt {P : Program} {fn : Func} {p q u : Tmp} {t1 : TypeId} (h : fn.results = #[.cell p t1, .tmp q, .tmp u]) (tmps : Array Value) (w : World) (g1 : Nat) (e1 : TypeId) (c1 : List Value) (d1 : TypeDesc)
    (hp : tmps.getD p undef = .pointer (some ⟨g1, 0, none⟩)) (hB1 : Blk w g1 e1 c1)
    (hu1 : P.underlying t1 = some d1) (hd1 : (match d1 with | .struct _ | .array _ _ => true | _ => false) = true) (hi1 : (P.info? t1).map (·.size) = some c1.length)
    {x y : Value} (hx : tmps.getD q undef = x) (hy : tmps.getD u undef = y) :
    (results fn tmps).run P w = .ok (.tuple #[.agg c1.toArray, x, y]) w := by
  subst hx hy
  have r1 := run_loadVar_row (P := P) w g1 e1 t1 c1.toArray (0, 0) d1 hB1 hu1 hd1 (by simpa using hi1)
  rw [Array.getD_eq_getD_getElem?] at hp
  simp only [results, h]
  simp [Result.andThen, hp, asAddr, r1]
end Go.Gr
namespace Go.Proofs.YtdmaephmkfmehaaGreatDoor
open Go.RowKit Go.Gr Go.Wl
set_option linter.unusedVariables false
set_option linter.unusedSimpArgs false
attribute [local go_sem] rdOp rdAt rdUpon Cls forall_fr
theorem rf_same {c d : Nat} {w w' : World} {A B : Option Addr} {vs : List Value} {S : St} (h : (AsRf A B vs S).p w) (hx : Ext w w') : RfTo c w A B vs S w' (rv A B S.length c d) S :=
  ⟨B, vs, d, rfl, rf_ext h hx, hx, fun _ h => .inl h⟩
/-- a new variable is written behind it -/
theorem rf_store {c : Nat} {w wx w8 w9 : World} {A B : Option Addr} {vs : List Value} {S S' : St} {v : Value} {g : Nat} (h : (AsRf A B vs S).p w) (hx : Ext w wx) (hr : RfTo c wx A B vs S w8 v S') (hg0 : w.heap.size ≤ g) (hg1 : g < wx.heap.size) (hu : Upd g w8 w9) (he : Ext w w9) : RfTo c w A B vs S w9 v S' := by
  obtain ⟨B', vs', d', rfl, hp, hx8, hf⟩ := hr
  have hne : ∀ k, (AsRf A B' vs' S').fp k → k ≠ g := by
    intro k hk e
    subst e
    rcases hf k hk with h1 | h1
    · have := (AsRf A B vs S).lt h k h1
      omega
    · omega
  refine ⟨B', vs', d', rfl, (AsRf A B' vs' S').loc hp fun k hk => hu.block k ((AsRf A B' vs' S').lt hp k hk) (fun e => hne k hk (by first | exact e | (cases e; rfl))), he, fun k hk => ?_⟩
  rcases hf k hk with h1 | h1
  · exact .inl h1
  · exact .inr (Nat.le_trans hx.size h1)
theorem rf_row_all {A B : Option Addr} {vs : List Value} {S : St} {w : World} (h : (AsRf A B vs S).p w) {s : Nat} (hs : s < S.length) : ∃ bd C cr, B = some bd ∧ (∀ w', Ext w w' → w'.cell? (bd.add s) = some (.slice C (wt S s).length cr) ∧ Rd w' C (u32s (wt S s))) ∧ (wt S s).length ≤ cr := by
  obtain ⟨bd, C, cr, e, hc, hv, hcr, hr⟩ := rf_row h hs
  exact ⟨bd, C, cr, e, fun w' x => ⟨(Below.cell x (cell_lt hc)).trans hc, hr.ext x⟩, hcr⟩
theorem rf_lim_all {A B : Option Addr} {vs : List Value} {S : St} {w : World} (h : (AsRf A B vs S).p w) {s : Nat} (hs : s < S.length) : ∃ ad, A = some ad ∧ ∀ w', Ext w w' → w'.cell? (ad.add s) = some (.int .i64 ((lm S s : Nat) : Int)) := by
  obtain ⟨ad, e, hc⟩ := rf_lim h hs
  exact ⟨ad, e, fun w' x => (Below.cell x (cell_lt hc)).trans hc⟩
set_option maxRecDepth 100000 in
set_option maxHeartbeats 8000000 in
theorem rjoin_any {A B : Option Addr} {vs : List Value} {S : St} {c d : Nat} {i o : Int} {w : World} (h : (AsRf A B vs S).p w) (hok : Ok S) (ho : 0 ≤ o ∧ o < 4294967296) : Calls Tryz.prog 81 #[rv A B S.length c d, .int .i64 i, .int .u32 o] w fun e w' => ∃ v, e = .returned (.tuple #[v, .int .i64 (joinS S i o).2.1, .int .i64 (joinS S i o).2.2]) ∧ RfTo c w A B vs S w' v (joinS S i o).1 := by
  obtain ⟨i32, ki, kz0, kz1, kz2⟩ := info_parts info32
  have H := hide h
  have H0 := (Sep.refl No w).newB ((Ext.refl w).alloc (.cells #[.slice A S.length c, .slice B S.length d] 82)) (Blk.new w 82 [.slice A S.length c, .slice B S.length d]) (Nat.le_refl _)
  have HSO := hide (fun (x : World) => some_any (A := A) (B := B) (n := S.length) (c := c) (m := S.length) (d := d) i x)
  have tok1 : True := trivial
  clear h
  by_cases hin : inS S i
  · obtain ⟨hb, s, rfl, hs⟩ := inB_true hin
    rw [hb] at HSO
    have hsi : (s : Int) < (S.length : Int) := by omega
    have hS8 := hok.len
    have h1k := hok.get hin
    have hlen := h1k.len
    have hlim := h1k.lim
    simp only at hlen hlim
    obtain ⟨bd, C, cr, hB, hrow, hcr⟩ := rf_row_all H.out hs
    obtain ⟨ad, hA, hlm⟩ := rf_lim_all H.out hs
    subst hB hA
    have HROW := hide hrow
    have HLM := hide hlm
    clear hb hrow hlm h1k
    by_cases hfull : (wt S s).length = lm S s
    · have HE : Hid (joinS S s o = (S, 0, 5)) := hide (by unfold joinS; rw [if_neg (fun h => h hin), if_pos hfull])
      have hge : ((lm S s : Nat) : Int) ≤ ((wt S s).length : Int) := by omega
      clear hin hfull
      go_enter Tryz.func81, Tryz.ntmps81
      go_upto_region 1 with (have zz := tok1; clear zz tok1; refine wpList_alS H0 rfl 82 rfl [.slice none 0 0, .slice none 0 0] (by kernel_rfl) ?_; intro w1 hz1 K1; clear hz1)
      rw [show (World.alloc w (.cells #[.slice (some ad) S.length c, .slice (some bd) S.length d] 82)).heap.size = w.heap.size + 1 by simp] at K1
      try simp only [show (World.alloc w (.cells #[.slice (some ad) S.length c, .slice (some bd) S.length d] 82)).heap.size = w.heap.size + 1 by simp]
      obtain ⟨g3, G3⟩ : ∃ g, w.heap.size = g := ⟨_, rfl⟩
      rw [G3] at K1 ⊢
      have hG3 := hide G3
      clear H0 G3
      obtain ⟨c0, c1, hg0⟩ := cells2 (K1.blk (g := g3) (e := 82) (cs := [.slice (some ad) S.length c, .slice (some bd) S.length d]) (List.Mem.tail _ (List.Mem.head _)))
      have KK := hide K1
      clear K1
      go_wp2_with fail
      (with_reducible refine (HSO.out _).mono ?_)
      rintro e w2 ⟨rfl, hx2⟩
      have K2 := KK.out.ext hx2
      clear KK hx2 c0 c1 hg0
      obtain ⟨c0, c1, hg0⟩ := cells2 (K2.blk (g := g3) (e := 82) (cs := [.slice (some ad) S.length c, .slice (some bd) S.length d]) (List.Mem.tail _ (List.Mem.head _)))
      have KK := hide K2
      clear K2
      have c2 := (HROW.out _ KK.out.toExt).1
      have c3 := HLM.out _ KK.out.toExt
      have tok2 : True := trivial
      go_wp2_with (have zz := tok2; clear zz tok2; refine wpList_stS [] KK.out rfl 82 (.tmp 6) (.tmp 28) rfl rfl (cs := [.slice (some ad) S.length c, .slice (some bd) S.length d]) rfl (by kernel_rfl) rfl (refs_one _ _ rfl rfl) ?_; intro w9 K9; dsimp only [List.nil_append] at K9)
      refine bodyPost_ret (v := .tuple #[rv (some ad) (some bd) S.length c d, .int .i64 0, .int .i64 5]) (wresults_ctt rfl _ _ (g3 + 1) 82 [.slice (some ad) S.length c, .slice (some bd) S.length d] _ rfl (K9.blk (g := g3 + 1) (e := 82) (List.Mem.head _)) Tryz.underlying82 rfl (by kernel_rfl) rfl rfl) rfl ⟨_, by rw [HE.out]; try rfl, by rw [HE.out]; exact rf_same H.out K9.toExt⟩
    · have hlt : ¬ ((lm S s : Nat) : Int) ≤ ((wt S s).length : Int) := by omega
      have HPLC := hide (fun (x : World) (hr : Rd x C (u32s (wt S s))) => rplace_any (wt S s) o C cr x hr (by omega))
      by_cases hom : o ∈ wt S s
      · have HE : Hid (joinS S s o = (S, 0, 8)) := hide (by unfold joinS; rw [if_neg (fun h => h hin), if_neg hfull, if_pos hom])
        rw [fnd_in hom] at HPLC
        have hgt : (0 : Int) < (((wt S s).idxOf o : Nat) : Int) + 1 := by omega
        obtain ⟨q, hq⟩ : ∃ q : Int, (((wt S s).idxOf o : Nat) : Int) + 1 = q := ⟨_, rfl⟩
        rw [hq] at HPLC hgt
        clear hin hfull hom hq
        go_enter Tryz.func81, Tryz.ntmps81
        go_upto_region 1 with (have zz := tok1; clear zz tok1; refine wpList_alS H0 rfl 82 rfl [.slice none 0 0, .slice none 0 0] (by kernel_rfl) ?_; intro w1 hz1 K1; clear hz1)
        rw [show (World.alloc w (.cells #[.slice (some ad) S.length c, .slice (some bd) S.length d] 82)).heap.size = w.heap.size + 1 by simp] at K1
        try simp only [show (World.alloc w (.cells #[.slice (some ad) S.length c, .slice (some bd) S.length d] 82)).heap.size = w.heap.size + 1 by simp]
        obtain ⟨g3, G3⟩ : ∃ g, w.heap.size = g := ⟨_, rfl⟩
        rw [G3] at K1 ⊢
        have hG3 := hide G3
        clear H0 G3
        obtain ⟨c0, c1, hg0⟩ := cells2 (K1.blk (g := g3) (e := 82) (cs := [.slice (some ad) S.length c, .slice (some bd) S.length d]) (List.Mem.tail _ (List.Mem.head _)))
        have KK := hide K1
        clear K1
        go_wp2_with fail
        (with_reducible refine (HSO.out _).mono ?_)
        rintro e w2 ⟨rfl, hx2⟩
        have K2 := KK.out.ext hx2
        clear KK hx2 c0 c1 hg0
        obtain ⟨c0, c1, hg0⟩ := cells2 (K2.blk (g := g3) (e := 82) (cs := [.slice (some ad) S.length c, .slice (some bd) S.length d]) (List.Mem.tail _ (List.Mem.head _)))
        have KK := hide K2
        clear K2
        have c2 := (HROW.out _ KK.out.toExt).1
        have c3 := HLM.out _ KK.out.toExt
        have HRR := hide (HROW.out _ KK.out.toExt).2
        go_wp2_with fail
        (with_reducible refine (HPLC.out _ HRR.out).mono ?_)
        rintro e wz ⟨rfl, rfl⟩
        have tok2 : True := trivial
        go_wp2_with (have zz := tok2; clear zz tok2; refine wpList_stS [] KK.out rfl 82 (.tmp 6) (.tmp 33) rfl rfl (cs := [.slice (some ad) S.length c, .slice (some bd) S.length d]) rfl (by kernel_rfl) rfl (refs_one _ _ rfl rfl) ?_; intro w9 K9; dsimp only [List.nil_append] at K9)
        refine bodyPost_ret (v := .tuple #[rv (some ad) (some bd) S.length c d, .int .i64 0, .int .i64 8]) (wresults_ctt rfl _ _ (g3 + 1) 82 [.slice (some ad) S.length c, .slice (some bd) S.length d] _ rfl (K9.blk (g := g3 + 1) (e := 82) (List.Mem.head _)) Tryz.underlying82 rfl (by kernel_rfl) rfl rfl) rfl ⟨_, by rw [HE.out]; try rfl, by rw [HE.out]; exact rf_same H.out K9.toExt⟩
      · have HE : Hid (joinS S s o = (put S s (wt S s ++ [o]), ((wt S s).length : Int) + 1, 0)) := hide (by unfold joinS; rw [if_neg (fun h => h hin), if_neg hfull, if_neg hom])
        rw [fnd_out hom] at HPLC
        have hw1 : IntKind.i64.wrap (((wt S s).length : Int) + 1) = ((wt S s).length : Int) + 1 := IntWalk.i64_in _ (by omega)
        have HL1 : Hid ((wt S s).length = (u32s (wt S s)).length) := hide (u32s_len _).symm
        have HB1 : Hid (([] : List Value).length + (u32s (wt S s)).length ≤ 1000000000) := hide (by rw [u32s_len, List.length_nil]; omega)
        have HB2 : Hid (([] ++ u32s (wt S s)).length + [Value.int .u32 o].length ≤ 1000000000) := hide (by rw [List.nil_append, u32s_len, List.length_singleton]; omega)
        have HB2' : Hid ((u32s (wt S s)).length + [Value.int .u32 o].length ≤ 1000000000) := hide (by rw [u32s_len, List.length_singleton]; omega)
        have HAPP : Hid (u32s (wt S s) ++ [Value.int .u32 o] = u32s (wt S s ++ [o])) := hide (by rw [u32s_append]; rfl)
        have HLR : Hid ((wt S s ++ [o]).length ≤ 1000000) := hide (by rw [List.length_append, List.length_singleton]; omega)
        clear hin hfull hom
        go_enter Tryz.func81, Tryz.ntmps81
        go_upto_region 1 with (have zz := tok1; clear zz tok1; refine wpList_alS H0 rfl 82 rfl [.slice none 0 0, .slice none 0 0] (by kernel_rfl) ?_; intro w1 hz1 K1; clear hz1)
        rw [show (World.alloc w (.cells #[.slice (some ad) S.length c, .slice (some bd) S.length d] 82)).heap.size = w.heap.size + 1 by simp] at K1
        try simp only [show (World.alloc w (.cells #[.slice (some ad) S.length c, .slice (some bd) S.length d] 82)).heap.size = w.heap.size + 1 by simp]
        obtain ⟨g3, G3⟩ : ∃ g, w.heap.size = g := ⟨_, rfl⟩
        rw [G3] at K1 ⊢
        have hG3 := hide G3
        clear H0 G3
        obtain ⟨c0, c1, hg0⟩ := cells2 (K1.blk (g := g3) (e := 82) (cs := [.slice (some ad) S.length c, .slice (some bd) S.length d]) (List.Mem.tail _ (List.Mem.head _)))
        have KK := hide K1
        clear K1
        go_wp2_with fail
        (with_reducible refine (HSO.out _).mono ?_)
        rintro e w2 ⟨rfl, hx2⟩
        have K2 := KK.out.ext hx2
        clear KK hx2 c0 c1 hg0
        obtain ⟨c0, c1, hg0⟩ := cells2 (K2.blk (g := g3) (e := 82) (cs := [.slice (some ad) S.length c, .slice (some bd) S.length d]) (List.Mem.tail _ (List.Mem.head _)))
        have KK := hide K2
        clear K2
        have c2 := (HROW.out _ KK.out.toExt).1
        have c3 := HLM.out _ KK.out.toExt
        have HRR := hide (HROW.out _ KK.out.toExt).2
        go_wp2_with fail
        (with_reducible refine (HPLC.out _ HRR.out).mono ?_)
        rintro e wz ⟨rfl, rfl⟩
        clear c2 c3 HRR
        go_upto_region 8 with fail
        refine wp_region_wf (RT.fr fun k => w2.drew.heap.size ≤ k ∨ k = g3 + 1) 6 [0, 1, 3, 5, 9, 10, 11, 2, 4, 6, 7, 8, 12, 13, 14] (by kernel_rfl) (by kernel_rfl) (by kernel_rfl) (by kernel_rfl) (by kernel_rfl) ?_
        have H1 := KK.out.drew
        clear KK c0 c1 hg0
        generalize w2.drew = wd at *
        obtain ⟨SB, hSB⟩ : ∃ s, wd.heap.size = s := ⟨_, rfl⟩
        have hB3 := H1.blk (g := g3) (e := 82) (cs := [.slice (some ad) S.length c, .slice (some bd) S.length d]) (List.Mem.tail _ (List.Mem.head _))
        have hg3SB : g3 < SB := by rw [← hSB]; exact hB3.lt
        have hsz1 : SB ≤ wd.heap.size := Nat.le_of_eq hSB.symm
        rw [hSB]
        refine wf_ldX rfl rfl rfl 82 (.tmp 3) rfl (fun w' h' => hB3.at5.fr h' (by omega)) rfl _ Tryz.underlying82 rfl (by kernel_rfl) ?_
        iterate 6 (refine wf_rd rfl rfl rfl (fun K hK => ?_); go_simp; refine hK _ ?_; clear hK K)
        clear hB3 hSB
        refine wf_ext rfl rfl rfl (fun K hK => ?_) ?_
        · go_simp
          refine hK _ _ ((Fr.of_ext ((Ext.refl wd).alloc _)).mono (fun i h => h.elim)) ?_
          clear hK K
          have H2 := bs0 H1 41
          obtain ⟨wb1, hwb⟩ : ∃ x, World.alloc wd (.cells #[] 41) = x := ⟨_, rfl⟩
          have hsz2 : SB ≤ wb1.heap.size := by rw [← hwb]; simp; omega
          rw [hwb] at H2 ⊢
          have hov2 : SB ≤ wd.heap.size := hsz1
          clear hwb H1
          refine wf_ext rfl rfl rfl (fun K hK => ?_) ?_
          · rw [if_pos (show Region.wanted _ _ = true from rfl)]
            refine wp_apS [] H2 (.tmp 36) (.tmp 37) 47 rfl i32 (.int .u32 0) 4 Tryz.underlying47 ki kz0 kz1 kz2 rfl rfl (A := C) (m := (wt S s).length) (c := cr) (news := u32s (wt S s)) rfl HL1.out (HROW.out _ H2.toExt).2 (u32s_one _) HB1.out (by decide) ?_
            intro v38 w2a H3 hf5 hv5
            dsimp only [List.nil_append, List.cons_append] at H3
            have hov3 : ∀ j, v38.ownBlock = some j → SB ≤ j := fun j hj => (hv5 j hj).elim (fun h => by cases h; exact hov2) (fun h => Nat.le_trans hsz2 h)
            have hsz3 : SB ≤ w2a.heap.size := Nat.le_trans hsz2 hf5.size
            refine hK _ _ (hf5.mono (fun j hj => .inl (by cases hj; exact hov2))) ?_
            clear hK K hf5 hv5 H2
            refine wf_at rfl ?_
            refine wmr_ext rfl rfl (fun K hK => ?_)
            go_simp
            refine hK _ _ ((Fr.of_ext ((Ext.refl w2a).alloc _)).mono (fun i h => h.elim)) ?_
            clear hK K
            have H4 : Sep No w (World.alloc w2a (.cells #[.int .u32 o] 41)) (As.blk w2a.heap.size 41 [.int .u32 o] :: _) := Sep.add H3 41 [.int .u32 o]
            obtain ⟨wb3, hwb⟩ : ∃ x, World.alloc w2a (.cells #[.int .u32 o] 41) = x := ⟨_, rfl⟩
            have hsz4 : SB ≤ wb3.heap.size := by rw [← hwb]; simp; omega
            rw [hwb] at H4 ⊢
            clear hwb H3
            refine wmr_ext rfl rfl (fun K hK => ?_)
            rw [if_pos (show Region.wanted _ _ = true from rfl)]
            refine wp_apS [_] H4 (.tmp 38) (.tmp 40) 47 rfl i32 (.int .u32 0) 4 Tryz.underlying47 ki kz0 kz1 kz2 rfl rfl (A := some ⟨w2a.heap.size, 0, none⟩) (m := 1) (c := 1) (news := [.int .u32 o]) rfl rfl (H4.blk (g := w2a.heap.size) (e := 41) (List.Mem.head _)).rd (by simp [Value.oneCell']) HB2'.out (by decide) ?_
            intro v41 w4a H5 hf5 hv5
            dsimp only [List.nil_append, List.cons_append] at H5
            have hsz5 : SB ≤ w4a.heap.size := Nat.le_trans hsz4 hf5.size
            refine hK _ _ (hf5.mono (fun j hj => .inl (hov3 j hj))) ?_
            rw [HAPP.out] at H5
            clear hK K hf5 hv5 H4
            obtain ⟨C41, c41, hv41, hc41, hr41⟩ := own_row (H5.owns (e := 41) (v := v41) (List.Mem.tail _ (List.Mem.head _)))
            subst hv41
            refine wmr_ext rfl rfl (fun K hK => ?_)
            go_simp
            go_at_call 109
            have hW := with_any (c := c) (d := d) (rf_ext H.out H5.toExt) hs hS8 (wt S s ++ [o]) C41 c41 hr41 HLR.out
            rw [List.length_append, List.length_singleton] at hW
            (with_reducible refine hW.mono ?_)
            rintro e w8 ⟨v8, rfl, hRF⟩
            obtain ⟨B', vs', d', rfl, hp8, hx8, hf8⟩ := hRF
            have HRF : Hid (RfTo c w4a (some ad) (some bd) vs S w8 (rv (some ad) B' (put S s (wt S s ++ [o])).length c d') (put S s (wt S s ++ [o]))) := hide ⟨B', vs', d', rfl, hp8, hx8, hf8⟩
            refine hK _ _ ((Fr.of_ext hx8).mono (fun i h => h.elim)) ?_
            clear hK K
            have K8 := H5.ext hx8
            have HXA := hide H5.toExt
            have hgx : g3 + 1 < w4a.heap.size := (H5.blk (g := g3 + 1) (e := 82) (List.Mem.tail _ (List.Mem.tail _ (List.Mem.head _)))).lt
            clear hp8 hx8 hf8 hr41 hc41 hW H5
            refine wmr_ext rfl rfl (fun K hK => ?_)
            rw [if_pos (show Region.wanted _ _ = true from rfl)]
            refine wp_stS [_, _] K8 82 (.tmp 6) (.tmp 42) rfl (cs := [.slice (some ad) (put S s (wt S s ++ [o])).length c, .slice B' (put S s (wt S s ++ [o])).length d']) rfl rfl (by kernel_rfl) rfl (refs_one _ _ rfl rfl) (fun w9 K9 hu9 => hK _ _ ((Fr.of_upd hu9).mono fun k hk => .inr hk) ?_)
            dsimp only [List.nil_append, List.cons_append] at K9
            have HU9 := hide hu9
            clear hK K K8 hu9
            iterate 2 (refine wmr_rd rfl rfl (fun K hK => ?_); go_simp; refine hK _ ?_; clear hK K)
            refine wmr_nil ?_
            go_wp2_with fail
            refine bodyPost_ret (v := .tuple #[rv (some ad) B' (put S s (wt S s ++ [o])).length c d', .int .i64 (((wt S s).length : Int) + 1), .int .i64 0]) (wresults_ctt rfl _ _ (g3 + 1) 82 [.slice (some ad) (put S s (wt S s ++ [o])).length c, .slice B' (put S s (wt S s ++ [o])).length d'] _ rfl (K9.blk (g := g3 + 1) (e := 82) (List.Mem.tail _ (List.Mem.tail _ (List.Mem.head _)))) Tryz.underlying82 rfl (by kernel_rfl) rfl rfl) rfl ⟨_, by rw [HE.out]; try rfl, by rw [HE.out]; exact rf_store H.out HXA.out HRF.out (by rw [hG3.out]; omega) hgx HU9.out K9.toExt⟩
          · refine wmr_ext rfl rfl (fun K hK => ?_)
            go_simp
            refine hK _ _ ((Fr.of_ext ((Ext.refl wb1).alloc _)).mono (fun i h => h.elim)) ?_
            clear hK K
            have H3 : Sep No w (World.alloc wb1 (.cells #[.int .u32 o] 41)) (As.blk wb1.heap.size 41 [.int .u32 o] :: _) := Sep.add H2 41 [.int .u32 o]
            obtain ⟨wb2, hwb⟩ : ∃ x, World.alloc wb1 (.cells #[.int .u32 o] 41) = x := ⟨_, rfl⟩
            have hsz3 : SB ≤ wb2.heap.size := by rw [← hwb]; simp; omega
            rw [hwb] at H3 ⊢
            clear hwb H2
            refine wmr_ext rfl rfl (fun K hK => ?_)
            rw [if_pos (show Region.wanted _ _ = true from rfl)]
            refine wp_apS [_] H3 (.tmp 36) (.tmp 37) 47 rfl i32 (.int .u32 0) 4 Tryz.underlying47 ki kz0 kz1 kz2 rfl rfl (A := C) (m := (wt S s).length) (c := cr) (news := u32s (wt S s)) rfl HL1.out (HROW.out _ H3.toExt).2 (u32s_one _) HB1.out (by decide) ?_
            intro v38 w3a H4 hf5 hv5
            dsimp only [List.nil_append, List.cons_append] at H4
            have hov4 : ∀ j, v38.ownBlock = some j → SB ≤ j := fun j hj => (hv5 j hj).elim (fun h => by cases h; exact hov2) (fun h => Nat.le_trans hsz3 h)
            have hsz4 : SB ≤ w3a.heap.size := Nat.le_trans hsz3 hf5.size
            refine hK _ _ (hf5.mono (fun j hj => .inl (by cases hj; exact hov2))) ?_
            clear hK K hf5 hv5 H3
            refine wmr_ext rfl rfl (fun K hK => ?_)
            rw [if_pos (show Region.wanted _ _ = true from rfl)]
            refine wp_apS [_] H4 (.tmp 38) (.tmp 40) 47 rfl i32 (.int .u32 0) 4 Tryz.underlying47 ki kz0 kz1 kz2 rfl rfl (A := some ⟨wb1.heap.size, 0, none⟩) (m := 1) (c := 1) (news := [.int .u32 o]) rfl rfl (H4.blk (g := wb1.heap.size) (e := 41) (List.Mem.head _)).rd (by simp [Value.oneCell']) HB2'.out (by decide) ?_
            intro v41 w4a H5 hf5 hv5
            dsimp only [List.nil_append, List.cons_append] at H5
            have hsz5 : SB ≤ w4a.heap.size := Nat.le_trans hsz4 hf5.size
            refine hK _ _ (hf5.mono (fun j hj => .inl (hov4 j hj))) ?_
            rw [HAPP.out] at H5
            clear hK K hf5 hv5 H4
            obtain ⟨C41, c41, hv41, hc41, hr41⟩ := own_row (H5.owns (e := 41) (v := v41) (List.Mem.tail _ (List.Mem.head _)))
            subst hv41
            refine wmr_ext rfl rfl (fun K hK => ?_)
            go_simp
            go_at_call 109
            have hW := with_any (c := c) (d := d) (rf_ext H.out H5.toExt) hs hS8 (wt S s ++ [o]) C41 c41 hr41 HLR.out
            rw [List.length_append, List.length_singleton] at hW
            (with_reducible refine hW.mono ?_)
            rintro e w8 ⟨v8, rfl, hRF⟩
            obtain ⟨B', vs', d', rfl, hp8, hx8, hf8⟩ := hRF
            have HRF : Hid (RfTo c w4a (some ad) (some bd) vs S w8 (rv (some ad) B' (put S s (wt S s ++ [o])).length c d') (put S s (wt S s ++ [o]))) := hide ⟨B', vs', d', rfl, hp8, hx8, hf8⟩
            refine hK _ _ ((Fr.of_ext hx8).mono (fun i h => h.elim)) ?_
            clear hK K
            have K8 := H5.ext hx8
            have HXA := hide H5.toExt
            have hgx : g3 + 1 < w4a.heap.size := (H5.blk (g := g3 + 1) (e := 82) (List.Mem.tail _ (List.Mem.tail _ (List.Mem.head _)))).lt
            clear hp8 hx8 hf8 hr41 hc41 hW H5
            refine wmr_ext rfl rfl (fun K hK => ?_)
            rw [if_pos (show Region.wanted _ _ = true from rfl)]
            refine wp_stS [_, _] K8 82 (.tmp 6) (.tmp 42) rfl (cs := [.slice (some ad) (put S s (wt S s ++ [o])).length c, .slice B' (put S s (wt S s ++ [o])).length d']) rfl rfl (by kernel_rfl) rfl (refs_one _ _ rfl rfl) (fun w9 K9 hu9 => hK _ _ ((Fr.of_upd hu9).mono fun k hk => .inr hk) ?_)
            dsimp only [List.nil_append, List.cons_append] at K9
            have HU9 := hide hu9
            clear hK K K8 hu9
            iterate 2 (refine wmr_rd rfl rfl (fun K hK => ?_); go_simp; refine hK _ ?_; clear hK K)
            refine wmr_nil ?_
            go_wp2_with fail
            refine bodyPost_ret (v := .tuple #[rv (some ad) B' (put S s (wt S s ++ [o])).length c d', .int .i64 (((wt S s).length : Int) + 1), .int .i64 0]) (wresults_ctt rfl _ _ (g3 + 1) 82 [.slice (some ad) (put S s (wt S s ++ [o])).length c, .slice B' (put S s (wt S s ++ [o])).length d'] _ rfl (K9.blk (g := g3 + 1) (e := 82) (List.Mem.tail _ (List.Mem.tail _ (List.Mem.head _)))) Tryz.underlying82 rfl (by kernel_rfl) rfl rfl) rfl ⟨_, by rw [HE.out]; try rfl, by rw [HE.out]; exact rf_store H.out HXA.out HRF.out (by rw [hG3.out]; omega) hgx HU9.out K9.toExt⟩
        · refine wmr_ext rfl rfl (fun K hK => ?_)
          go_simp
          refine hK _ _ ((Fr.of_ext ((Ext.refl wd).alloc _)).mono (fun i h => h.elim)) ?_
          clear hK K
          have H2 : Sep No w (World.alloc wd (.cells #[.int .u32 o] 41)) (As.blk wd.heap.size 41 [.int .u32 o] :: _) := Sep.add H1 41 [.int .u32 o]
          obtain ⟨wb1, hwb⟩ : ∃ x, World.alloc wd (.cells #[.int .u32 o] 41) = x := ⟨_, rfl⟩
          have hsz2 : SB ≤ wb1.heap.size := by rw [← hwb]; simp; omega
          rw [hwb] at H2 ⊢
          clear hwb H1
          refine wmr_ext rfl rfl (fun K hK => ?_)
          go_simp
          refine hK _ _ ((Fr.of_ext ((Ext.refl wb1).alloc _)).mono (fun i h => h.elim)) ?_
          clear hK K
          have H3 := bs0 H2 41
          obtain ⟨wb2, hwb⟩ : ∃ x, World.alloc wb1 (.cells #[] 41) = x := ⟨_, rfl⟩
          have hsz3 : SB ≤ wb2.heap.size := by rw [← hwb]; simp; omega
          rw [hwb] at H3 ⊢
          have hov3 : SB ≤ wb1.heap.size := hsz2
          clear hwb H2
          refine wmr_ext rfl rfl (fun K hK => ?_)
          rw [if_pos (show Region.wanted _ _ = true from rfl)]
          refine wp_apS [] H3 (.tmp 36) (.tmp 37) 47 rfl i32 (.int .u32 0) 4 Tryz.underlying47 ki kz0 kz1 kz2 rfl rfl (A := C) (m := (wt S s).length) (c := cr) (news := u32s (wt S s)) rfl HL1.out (HROW.out _ H3.toExt).2 (u32s_one _) HB1.out (by decide) ?_
          intro v38 w3a H4 hf5 hv5
          dsimp only [List.nil_append, List.cons_append] at H4
          have hov4 : ∀ j, v38.ownBlock = some j → SB ≤ j := fun j hj => (hv5 j hj).elim (fun h => by cases h; exact hov3) (fun h => Nat.le_trans hsz3 h)
          have hsz4 : SB ≤ w3a.heap.size := Nat.le_trans hsz3 hf5.size
          refine hK _ _ (hf5.mono (fun j hj => .inl (by cases hj; exact hov3))) ?_
          clear hK K hf5 hv5 H3
          refine wmr_ext rfl rfl (fun K hK => ?_)
          rw [if_pos (show Region.wanted _ _ = true from rfl)]
          refine wp_apS [] H4 (.tmp 38) (.tmp 40) 47 rfl i32 (.int .u32 0) 4 Tryz.underlying47 ki kz0 kz1 kz2 rfl rfl (A := some ⟨wd.heap.size, 0, none⟩) (m := 1) (c := 1) (news := [.int .u32 o]) rfl rfl (H4.blk (g := wd.heap.size) (e := 41) (List.Mem.tail _ (List.Mem.head _))).rd (by simp [Value.oneCell']) HB2'.out (by decide) ?_
          intro v41 w4a H5 hf5 hv5
          dsimp only [List.nil_append, List.cons_append] at H5
          have hsz5 : SB ≤ w4a.heap.size := Nat.le_trans hsz4 hf5.size
          refine hK _ _ (hf5.mono (fun j hj => .inl (hov4 j hj))) ?_
          rw [HAPP.out] at H5
          clear hK K hf5 hv5 H4
          obtain ⟨C41, c41, hv41, hc41, hr41⟩ := own_row (H5.owns (e := 41) (v := v41) (List.Mem.head _))
          subst hv41
          refine wmr_ext rfl rfl (fun K hK => ?_)
          go_simp
          go_at_call 109
          have hW := with_any (c := c) (d := d) (rf_ext H.out H5.toExt) hs hS8 (wt S s ++ [o]) C41 c41 hr41 HLR.out
          rw [List.length_append, List.length_singleton] at hW
          (with_reducible refine hW.mono ?_)
          rintro e w8 ⟨v8, rfl, hRF⟩
          obtain ⟨B', vs', d', rfl, hp8, hx8, hf8⟩ := hRF
          have HRF : Hid (RfTo c w4a (some ad) (some bd) vs S w8 (rv (some ad) B' (put S s (wt S s ++ [o])).length c d') (put S s (wt S s ++ [o]))) := hide ⟨B', vs', d', rfl, hp8, hx8, hf8⟩
          refine hK _ _ ((Fr.of_ext hx8).mono (fun i h => h.elim)) ?_
          clear hK K
          have K8 := H5.ext hx8
          have HXA := hide H5.toExt
          have hgx : g3 + 1 < w4a.heap.size := (H5.blk (g := g3 + 1) (e := 82) (List.Mem.tail _ (List.Mem.tail _ (List.Mem.head _)))).lt
          clear hp8 hx8 hf8 hr41 hc41 hW H5
          refine wmr_ext rfl rfl (fun K hK => ?_)
          rw [if_pos (show Region.wanted _ _ = true from rfl)]
          refine wp_stS [_, _] K8 82 (.tmp 6) (.tmp 42) rfl (cs := [.slice (some ad) (put S s (wt S s ++ [o])).length c, .slice B' (put S s (wt S s ++ [o])).length d']) rfl rfl (by kernel_rfl) rfl (refs_one _ _ rfl rfl) (fun w9 K9 hu9 => hK _ _ ((Fr.of_upd hu9).mono fun k hk => .inr hk) ?_)
          dsimp only [List.nil_append, List.cons_append] at K9
          have HU9 := hide hu9
          clear hK K K8 hu9
          iterate 2 (refine wmr_rd rfl rfl (fun K hK => ?_); go_simp; refine hK _ ?_; clear hK K)
          refine wmr_nil ?_
          go_wp2_with fail
          refine bodyPost_ret (v := .tuple #[rv (some ad) B' (put S s (wt S s ++ [o])).length c d', .int .i64 (((wt S s).length : Int) + 1), .int .i64 0]) (wresults_ctt rfl _ _ (g3 + 1) 82 [.slice (some ad) (put S s (wt S s ++ [o])).length c, .slice B' (put S s (wt S s ++ [o])).length d'] _ rfl (K9.blk (g := g3 + 1) (e := 82) (List.Mem.tail _ (List.Mem.tail _ (List.Mem.head _)))) Tryz.underlying82 rfl (by kernel_rfl) rfl rfl) rfl ⟨_, by rw [HE.out]; try rfl, by rw [HE.out]; exact rf_store H.out HXA.out HRF.out (by rw [hG3.out]; omega) hgx HU9.out K9.toExt⟩
  · have hb := inB_false hin
    rw [hb] at HSO
    have HE : Hid (joinS S i o = (S, 0, 4)) := hide (by unfold joinS; rw [if_pos hin])
    clear hb hin
    go_enter Tryz.func81, Tryz.ntmps81
    go_upto_region 1 with (have zz := tok1; clear zz tok1; refine wpList_alS H0 rfl 82 rfl [.slice none 0 0, .slice none 0 0] (by kernel_rfl) ?_; intro w1 hz1 K1; clear hz1)
    rw [show (World.alloc w (.cells #[.slice A S.length c, .slice B S.length d] 82)).heap.size = w.heap.size + 1 by simp] at K1
    try simp only [show (World.alloc w (.cells #[.slice A S.length c, .slice B S.length d] 82)).heap.size = w.heap.size + 1 by simp]
    obtain ⟨g3, G3⟩ : ∃ g, w.heap.size = g := ⟨_, rfl⟩
    rw [G3] at K1 ⊢
    have hG3 := hide G3
    clear H0 G3
    obtain ⟨c0, c1, hg0⟩ := cells2 (K1.blk (g := g3) (e := 82) (cs := [.slice A S.length c, .slice B S.length d]) (List.Mem.tail _ (List.Mem.head _)))
    have KK := hide K1
    clear K1
    go_wp2_with fail
    (with_reducible refine (HSO.out _).mono ?_)
    rintro e w2 ⟨rfl, hx2⟩
    have K2 := KK.out.ext hx2
    clear KK hx2 c0 c1 hg0
    obtain ⟨c0, c1, hg0⟩ := cells2 (K2.blk (g := g3) (e := 82) (cs := [.slice A S.length c, .slice B S.length d]) (List.Mem.tail _ (List.Mem.head _)))
    have KK := hide K2
    clear K2
    have tok2 : True := trivial
    go_wp2_with (have zz := tok2; clear zz tok2; refine wpList_stS [] KK.out rfl 82 (.tmp 6) (.tmp 14) rfl rfl (cs := [.slice A S.length c, .slice B S.length d]) rfl (by kernel_rfl) rfl (refs_one _ _ rfl rfl) ?_; intro w9 K9; dsimp only [List.nil_append] at K9)
    refine bodyPost_ret (v := .tuple #[rv A B S.length c d, .int .i64 0, .int .i64 4]) (wresults_ctt rfl _ _ (g3 + 1) 82 [.slice A S.length c, .slice B S.length d] _ rfl (K9.blk (g := g3 + 1) (e := 82) (List.Mem.head _)) Tryz.underlying82 rfl (by kernel_rfl) rfl rfl) rfl ⟨_, by rw [HE.out]; try rfl, by rw [HE.out]; exact rf_same H.out K9.toExt⟩
end Go.Proofs.YtdmaephmkfmehaaGreatDoor
namespace Go.Gr
open Go.RowKit
theorem results_row_tmp {P : Program} {fn : Func} {p u : Tmp} {ty : TypeId} (h : fn.results = #[.cell p ty, .tmp u]) (tmps : Array Value) (w : World) (g : Nat) (t : TypeId) (cs : Array Value) (fr : Nat × Nat) (d : TypeDesc)
    (hp : tmps.getD p undef = .pointer (some ⟨g, 0, none⟩)) (hg : w.heap[g]? = some (.cells cs t fr))
    (hu : P.underlying ty = some d) (hd : (match d with | .struct _ | .array _ _ => true | _ => false) = true) (hi : (P.info? ty).map (·.size) = some cs.size) {x : Value} (hx : tmps.getD u undef = x) :
    (results fn tmps).run P w = .ok (.tuple #[.agg cs, x]) w := by
  subst hx
  rw [results_cell_tmp h, hp]
  simp [asAddr, run_loadVar_row w g t ty cs fr d hg hu hd hi]
end Go.Gr
namespace Go.Proofs.YtdmaephmkfmehaaGreatDoor
open Go.RowKit Go.Gr Go.Wl
set_option linter.unusedVariables false
set_option linter.unusedSimpArgs false
attribute [local go_sem] rdOp rdAt rdUpon Cls forall_fr
theorem rd_dropA {w : World} {cd : Addr} {xs : List Value} (h : Rd w (some cd) xs) (m : Nat) : Rd w (some (cd.add m)) (xs.drop m) := by
  intro j u hu
  rw [List.getElem?_drop] at hu
  obtain ⟨ad, e, hc⟩ := h (m + j) u hu
  cases e
  exact ⟨_, rfl, by rw [add_add']; exact hc⟩
theorem rd_nilA (w : World) (A : Option Addr) : Rd w A (u32s []) := by intro j u hu; simp [u32s] at hu
set_option maxRecDepth 100000 in
set_option maxHeartbeats 8000000 in
theorem rleave_any {A B : Option Addr} {vs : List Value} {S : St} {c d : Nat} {i o : Int} {w : World} (h : (AsRf A B vs S).p w) (hok : Ok S) : Calls Tryz.prog 82 #[rv A B S.length c d, .int .i64 i, .int .u32 o] w fun e w' => ∃ v, e = .returned (.tuple #[v, .int .i64 (leaveS S i o).2]) ∧ RfTo c w A B vs S w' v (leaveS S i o).1 := by
  obtain ⟨i32, ki, kz0, kz1, kz2⟩ := info_parts info32
  have H := hide h
  have H0 := (Sep.refl No w).newB ((Ext.refl w).alloc (.cells #[.slice A S.length c, .slice B S.length d] 82)) (Blk.new w 82 [.slice A S.length c, .slice B S.length d]) (Nat.le_refl _)
  have HPL := hide (fun (x : World) (hx : Ext w x) => rplaceL_any (A := A) (B := B) (c := c) (d := d) (i := i) (o := o) (rf_ext h hx) hok)
  have tok1 : True := trivial
  clear h
  by_cases hin : inS S i ∧ o ∈ wt S i
  · obtain ⟨hin, hom⟩ := hin
    obtain ⟨hb, s, rfl, hs⟩ := inB_true hin
    have hsi : (s : Int) < (S.length : Int) := by omega
    have hS8 := hok.len
    have h1k := hok.get hin
    have hlen := h1k.len
    have hlim := h1k.lim
    simp only at hlen hlim
    obtain ⟨k, HK⟩ : ∃ k, Hid ((wt S s).idxOf o = k) := ⟨_, hide rfl⟩
    have hkl := idxOf_lt hom
    rw [HK.out] at hkl
    have HE : Hid (leaveS S s o = (put S s ((wt S s).eraseIdx k), 0)) := hide (by unfold leaveS; rw [if_neg (fun h => h hin), if_pos hom, HK.out])
    rw [show placeS S s o = ((k : Int) + 1, 0) by unfold placeS; rw [if_neg (fun h => h hin), if_pos hom, HK.out]] at HPL
    obtain ⟨bd, C, cr, hB, hrow, hcr⟩ := rf_row_all H.out hs
    obtain ⟨cd, hC, _⟩ := u32s_at (hrow w (Ext.refl w)).2 hkl
    obtain ⟨ad, hA, _⟩ := rf_lim_all H.out hs
    subst hB hC hA
    have HROW := hide hrow
    have hw1 : IntKind.i64.wrap ((k : Int) + 1 - 1) = (k : Int) := by rw [show (k : Int) + 1 - 1 = k by omega]; exact IntWalk.i64_in _ (by omega)
    have hw2 : (k : Int) + 1 - 1 = k := by omega
    have hw3 : IntKind.i64.wrap (k : Int) = k := IntWalk.i64_in _ (by omega)
    have hkc : (k : Int) ≤ (cr : Int) := by omega
    have hkl2 : (k : Int) + 1 ≤ ((wt S s).length : Int) := by omega
    have hcrl : ((wt S s).length : Int) ≤ (cr : Int) := by omega
    have hcr0 : ¬ cr = 0 := by omega
    have hii : (k : Int) ≤ (k : Int) + 1 := by omega
    have hi01 : (0 : Int) ≤ (k : Int) + 1 := by omega
    have HRT : Hid (∀ wz, Ext w wz → Rd wz (some cd) (u32s ((wt S s).take k))) := hide (fun wz x => by rw [← u32s_take]; exact (hrow wz x).2.take_ k)
    have HRD : Hid (∀ wz, Ext w wz → Rd wz (some (cd.add (k + 1))) (u32s ((wt S s).drop (k + 1)))) := hide (fun wz x => by rw [← u32s_drop]; exact rd_dropA (hrow wz x).2 (k + 1))
    have HRD0 : Hid (k + 1 = cr → ∀ wz A', Rd wz A' (u32s ((wt S s).drop (k + 1)))) := hide (fun e wz A' => by rw [List.drop_eq_nil_of_le (by omega)]; exact rd_nilA _ _)
    have HL1 : Hid (k = (u32s ((wt S s).take k)).length) := hide (by rw [u32s_len, List.length_take]; omega)
    have HL2 : Hid ((wt S s).length - (k + 1) = (u32s ((wt S s).drop (k + 1))).length) := hide (by rw [u32s_len, List.length_drop])
    have HB1 : Hid (([] : List Value).length + (u32s ((wt S s).take k)).length ≤ 1000000000) := hide (by rw [u32s_len, List.length_take, List.length_nil]; omega)
    have HB2 : Hid ((u32s ((wt S s).take k)).length + (u32s ((wt S s).drop (k + 1))).length ≤ 1000000000) := hide (by rw [u32s_len, u32s_len, List.length_take, List.length_drop]; omega)
    have HAPP : Hid (u32s ((wt S s).take k) ++ u32s ((wt S s).drop (k + 1)) = u32s ((wt S s).eraseIdx k)) := hide (by rw [← u32s_append, List.eraseIdx_eq_take_drop_succ])
    have HLR : Hid (((wt S s).eraseIdx k).length ≤ 1000000) := hide (by rw [List.length_eraseIdx, if_pos hkl]; omega)
    have HLEN : Hid (((wt S s).eraseIdx k).length = k + ((wt S s).length - (k + 1))) := hide (by rw [List.length_eraseIdx, if_pos hkl]; omega)
    clear hb hrow h1k hin hom
    go_enter Tryz.func82, Tryz.ntmps82
    go_upto_region 1 with (have zz := tok1; clear zz tok1; refine wpList_alS H0 rfl 82 rfl [.slice none 0 0, .slice none 0 0] (by kernel_rfl) ?_; intro w1 hz1 K1; clear hz1)
    rw [show (World.alloc w (.cells #[.slice (some ad) S.length c, .slice (some bd) S.length d] 82)).heap.size = w.heap.size + 1 by simp] at K1
    try simp only [show (World.alloc w (.cells #[.slice (some ad) S.length c, .slice (some bd) S.length d] 82)).heap.size = w.heap.size + 1 by simp]
    obtain ⟨g3, G3⟩ : ∃ g, w.heap.size = g := ⟨_, rfl⟩
    rw [G3] at K1 ⊢
    have hG3 := hide G3
    clear H0 G3
    obtain ⟨c0, c1, hg0⟩ := cells2 (K1.blk (g := g3) (e := 82) (cs := [.slice (some ad) S.length c, .slice (some bd) S.length d]) (List.Mem.tail _ (List.Mem.head _)))
    have KK := hide K1
    clear K1
    go_wp2_with fail
    (with_reducible refine (HPL.out _ KK.out.toExt).mono ?_)
    rintro e w2 ⟨rfl, hx2⟩
    have K2 := KK.out.ext hx2
    clear KK hx2 c0 c1 hg0
    obtain ⟨c0, c1, hg0⟩ := cells2 (K2.blk (g := g3) (e := 82) (cs := [.slice (some ad) S.length c, .slice (some bd) S.length d]) (List.Mem.tail _ (List.Mem.head _)))
    have KK := hide K2
    clear K2
    have c2 := (HROW.out _ KK.out.toExt).1
    by_cases hci : cr = k + 1
    · have HCI := hide hci.symm
      go_upto_region 5 with fail
      refine wp_region_wmr (RT.fr fun k => w2.drew.heap.size ≤ k ∨ k = g3 + 1) [0, 1, 3, 4, 5, 6, 8, 9, 10, 2, 7, 11, 12, 13, 14] (by kernel_rfl) (by kernel_rfl) (by kernel_rfl) (by kernel_rfl) ?_
      have H1 := KK.out.drew
      clear KK c0 c1 hg0
      generalize w2.drew = wd at *
      obtain ⟨SB, hSB⟩ : ∃ s, wd.heap.size = s := ⟨_, rfl⟩
      have hB3 := H1.blk (g := g3) (e := 82) (cs := [.slice (some ad) S.length c, .slice (some bd) S.length d]) (List.Mem.tail _ (List.Mem.head _))
      have hg3SB : g3 < SB := by rw [← hSB]; exact hB3.lt
      have hsz1 : SB ≤ wd.heap.size := Nat.le_of_eq hSB.symm
      rw [hSB]
      refine wmr_ldX rfl rfl 82 (.tmp 3) rfl (fun w' h' => hB3.at5.fr h' (by omega)) rfl _ Tryz.underlying82 rfl (by kernel_rfl) ?_
      iterate 8 (refine wmr_rd rfl rfl (fun K hK => ?_); go_simp; refine hK _ ?_; clear hK K)
      clear hB3 hSB
      refine wmr_ext rfl rfl (fun K hK => ?_)
      go_simp
      refine hK _ _ ((Fr.of_ext ((Ext.refl wd).alloc _)).mono (fun i h => h.elim)) ?_
      clear hK K
      have H2 := bs0 H1 41
      obtain ⟨wb1, hwb⟩ : ∃ x, World.alloc wd (.cells #[] 41) = x := ⟨_, rfl⟩
      have hsz2 : SB ≤ wb1.heap.size := by rw [← hwb]; simp; omega
      rw [hwb] at H2 ⊢
      have hov2 : SB ≤ wd.heap.size := hsz1
      clear hwb H1
      refine wmr_ext rfl rfl (fun K hK => ?_)
      rw [if_pos (show Region.wanted _ _ = true from rfl)]
      refine wp_apS [] H2 (.tmp 29) (.tmp 33) 47 rfl i32 (.int .u32 0) 4 Tryz.underlying47 ki kz0 kz1 kz2 rfl rfl (A := some cd) (m := k) (c := _) (news := u32s ((wt S s).take k)) rfl HL1.out (HRT.out _ H2.toExt) (u32s_one _) HB1.out (by decide) ?_
      intro v38 w2a H3 hf5 hv5
      dsimp only [List.nil_append, List.cons_append] at H3
      have hov3 : ∀ j, v38.ownBlock = some j → SB ≤ j := fun j hj => (hv5 j hj).elim (fun h => by cases h; exact hov2) (fun h => Nat.le_trans hsz2 h)
      have hsz3 : SB ≤ w2a.heap.size := Nat.le_trans hsz2 hf5.size
      refine hK _ _ (hf5.mono (fun j hj => .inl (by cases hj; exact hov2))) ?_
      clear hK K hf5 hv5 H2
      refine wmr_ext rfl rfl (fun K hK => ?_)
      rw [if_pos (show Region.wanted _ _ = true from rfl)]
      refine wp_apS [] H3 (.tmp 34) (.tmp 37) 47 rfl i32 (.int .u32 0) 4 Tryz.underlying47 ki kz0 kz1 kz2 rfl rfl (A := some (cd)) (m := (wt S s).length - (k + 1)) (c := _) (news := u32s ((wt S s).drop (k + 1))) rfl HL2.out (HRD0.out HCI.out _ _) (u32s_one _) HB2.out (by decide) ?_
      intro v41 w3a H4 hf5 hv5
      dsimp only [List.nil_append, List.cons_append] at H4
      have hsz4 : SB ≤ w3a.heap.size := Nat.le_trans hsz3 hf5.size
      refine hK _ _ (hf5.mono (fun j hj => .inl (hov3 j hj))) ?_
      rw [HAPP.out] at H4
      clear hK K hf5 hv5 H3
      obtain ⟨C41, c41, hv41, hc41, hr41⟩ := own_row (H4.owns (e := 41) (v := v41) (List.Mem.head _))
      subst hv41
      refine wmr_ext rfl rfl (fun K hK => ?_)
      go_simp
      go_at_call 109
      have hW := with_any (c := c) (d := d) (rf_ext H.out H4.toExt) hs hS8 ((wt S s).eraseIdx k) C41 c41 hr41 HLR.out
      skip
      (with_reducible refine hW.mono ?_)
      rintro e w8 ⟨v8, rfl, hRF⟩
      obtain ⟨B', vs', d', rfl, hp8, hx8, hf8⟩ := hRF
      have HRF : Hid (RfTo c w3a (some ad) (some bd) vs S w8 (rv (some ad) B' (put S s ((wt S s).eraseIdx k)).length c d') (put S s ((wt S s).eraseIdx k))) := hide ⟨B', vs', d', rfl, hp8, hx8, hf8⟩
      refine hK _ _ ((Fr.of_ext hx8).mono (fun i h => h.elim)) ?_
      clear hK K
      have K8 := H4.ext hx8
      have HXA := hide H4.toExt
      have hgx : g3 + 1 < w3a.heap.size := (H4.blk (g := g3 + 1) (e := 82) (List.Mem.tail _ (List.Mem.head _))).lt
      clear hp8 hx8 hf8 hr41 hW H4
      refine wmr_ext rfl rfl (fun K hK => ?_)
      rw [if_pos (show Region.wanted _ _ = true from rfl)]
      refine wp_stS [_] K8 82 (.tmp 6) (.tmp 39) rfl (cs := [.slice (some ad) (put S s ((wt S s).eraseIdx k)).length c, .slice B' (put S s ((wt S s).eraseIdx k)).length d']) rfl rfl (by kernel_rfl) rfl (refs_one _ _ rfl rfl) (fun w9 K9 hu9 => hK _ _ ((Fr.of_upd hu9).mono fun k hk => .inr hk) ?_)
      dsimp only [List.nil_append, List.cons_append] at K9
      have HU9 := hide hu9
      clear hK K K8 hu9
      iterate 1 (refine wmr_rd rfl rfl (fun K hK => ?_); go_simp; refine hK _ ?_; clear hK K)
      refine wmr_nil ?_
      go_wp2_with fail
      refine bodyPost_ret (v := .tuple #[rv (some ad) B' (put S s ((wt S s).eraseIdx k)).length c d', .int .i64 0]) (results_row_tmp rfl _ _ (g3 + 1) 82 #[.slice (some ad) (put S s ((wt S s).eraseIdx k)).length c, .slice B' (put S s ((wt S s).eraseIdx k)).length d'] (0, 0) _ rfl (K9.blk (g := g3 + 1) (e := 82) (List.Mem.tail _ (List.Mem.head _))) Tryz.underlying82 rfl (by kernel_rfl) rfl) rfl ⟨_, by rw [HE.out]; try rfl, by rw [HE.out]; exact rf_store H.out HXA.out HRF.out (by rw [hG3.out]; omega) hgx HU9.out K9.toExt⟩
    · go_upto_region 5 with fail
      refine wp_region_wmr (RT.fr fun k => w2.drew.heap.size ≤ k ∨ k = g3 + 1) [0, 1, 3, 4, 5, 6, 8, 9, 10, 2, 7, 11, 12, 13, 14] (by kernel_rfl) (by kernel_rfl) (by kernel_rfl) (by kernel_rfl) ?_
      have H1 := KK.out.drew
      clear KK c0 c1 hg0
      generalize w2.drew = wd at *
      obtain ⟨SB, hSB⟩ : ∃ s, wd.heap.size = s := ⟨_, rfl⟩
      have hB3 := H1.blk (g := g3) (e := 82) (cs := [.slice (some ad) S.length c, .slice (some bd) S.length d]) (List.Mem.tail _ (List.Mem.head _))
      have hg3SB : g3 < SB := by rw [← hSB]; exact hB3.lt
      have hsz1 : SB ≤ wd.heap.size := Nat.le_of_eq hSB.symm
      rw [hSB]
      refine wmr_ldX rfl rfl 82 (.tmp 3) rfl (fun w' h' => hB3.at5.fr h' (by omega)) rfl _ Tryz.underlying82 rfl (by kernel_rfl) ?_
      iterate 8 (refine wmr_rd rfl rfl (fun K hK => ?_); go_simp; refine hK _ ?_; clear hK K)
      clear hB3 hSB
      refine wmr_ext rfl rfl (fun K hK => ?_)
      go_simp
      refine hK _ _ ((Fr.of_ext ((Ext.refl wd).alloc _)).mono (fun i h => h.elim)) ?_
      clear hK K
      have H2 := bs0 H1 41
      obtain ⟨wb1, hwb⟩ : ∃ x, World.alloc wd (.cells #[] 41) = x := ⟨_, rfl⟩
      have hsz2 : SB ≤ wb1.heap.size := by rw [← hwb]; simp; omega
      rw [hwb] at H2 ⊢
      have hov2 : SB ≤ wd.heap.size := hsz1
      clear hwb H1
      refine wmr_ext rfl rfl (fun K hK => ?_)
      rw [if_pos (show Region.wanted _ _ = true from rfl)]
      refine wp_apS [] H2 (.tmp 29) (.tmp 33) 47 rfl i32 (.int .u32 0) 4 Tryz.underlying47 ki kz0 kz1 kz2 rfl rfl (A := some cd) (m := k) (c := _) (news := u32s ((wt S s).take k)) rfl HL1.out (HRT.out _ H2.toExt) (u32s_one _) HB1.out (by decide) ?_
      intro v38 w2a H3 hf5 hv5
      dsimp only [List.nil_append, List.cons_append] at H3
      have hov3 : ∀ j, v38.ownBlock = some j → SB ≤ j := fun j hj => (hv5 j hj).elim (fun h => by cases h; exact hov2) (fun h => Nat.le_trans hsz2 h)
      have hsz3 : SB ≤ w2a.heap.size := Nat.le_trans hsz2 hf5.size
      refine hK _ _ (hf5.mono (fun j hj => .inl (by cases hj; exact hov2))) ?_
      clear hK K hf5 hv5 H2
      refine wmr_ext rfl rfl (fun K hK => ?_)
      rw [if_pos (show Region.wanted _ _ = true from rfl)]
      refine wp_apS [] H3 (.tmp 34) (.tmp 37) 47 rfl i32 (.int .u32 0) 4 Tryz.underlying47 ki kz0 kz1 kz2 rfl rfl (A := some (cd.add (k + 1))) (m := (wt S s).length - (k + 1)) (c := _) (news := u32s ((wt S s).drop (k + 1))) rfl HL2.out (HRD.out _ H3.toExt) (u32s_one _) HB2.out (by decide) ?_
      intro v41 w3a H4 hf5 hv5
      dsimp only [List.nil_append, List.cons_append] at H4
      have hsz4 : SB ≤ w3a.heap.size := Nat.le_trans hsz3 hf5.size
      refine hK _ _ (hf5.mono (fun j hj => .inl (hov3 j hj))) ?_
      rw [HAPP.out] at H4
      clear hK K hf5 hv5 H3
      obtain ⟨C41, c41, hv41, hc41, hr41⟩ := own_row (H4.owns (e := 41) (v := v41) (List.Mem.head _))
      subst hv41
      refine wmr_ext rfl rfl (fun K hK => ?_)
      go_simp
      go_at_call 109
      have hW := with_any (c := c) (d := d) (rf_ext H.out H4.toExt) hs hS8 ((wt S s).eraseIdx k) C41 c41 hr41 HLR.out
      skip
      (with_reducible refine hW.mono ?_)
      rintro e w8 ⟨v8, rfl, hRF⟩
      obtain ⟨B', vs', d', rfl, hp8, hx8, hf8⟩ := hRF
      have HRF : Hid (RfTo c w3a (some ad) (some bd) vs S w8 (rv (some ad) B' (put S s ((wt S s).eraseIdx k)).length c d') (put S s ((wt S s).eraseIdx k))) := hide ⟨B', vs', d', rfl, hp8, hx8, hf8⟩
      refine hK _ _ ((Fr.of_ext hx8).mono (fun i h => h.elim)) ?_
      clear hK K
      have K8 := H4.ext hx8
      have HXA := hide H4.toExt
      have hgx : g3 + 1 < w3a.heap.size := (H4.blk (g := g3 + 1) (e := 82) (List.Mem.tail _ (List.Mem.head _))).lt
      clear hp8 hx8 hf8 hr41 hW H4
      refine wmr_ext rfl rfl (fun K hK => ?_)
      rw [if_pos (show Region.wanted _ _ = true from rfl)]
      refine wp_stS [_] K8 82 (.tmp 6) (.tmp 39) rfl (cs := [.slice (some ad) (put S s ((wt S s).eraseIdx k)).length c, .slice B' (put S s ((wt S s).eraseIdx k)).length d']) rfl rfl (by kernel_rfl) rfl (refs_one _ _ rfl rfl) (fun w9 K9 hu9 => hK _ _ ((Fr.of_upd hu9).mono fun k hk => .inr hk) ?_)
      dsimp only [List.nil_append, List.cons_append] at K9
      have HU9 := hide hu9
      clear hK K K8 hu9
      iterate 1 (refine wmr_rd rfl rfl (fun K hK => ?_); go_simp; refine hK _ ?_; clear hK K)
      refine wmr_nil ?_
      go_wp2_with fail
      refine bodyPost_ret (v := .tuple #[rv (some ad) B' (put S s ((wt S s).eraseIdx k)).length c d', .int .i64 0]) (results_row_tmp rfl _ _ (g3 + 1) 82 #[.slice (some ad) (put S s ((wt S s).eraseIdx k)).length c, .slice B' (put S s ((wt S s).eraseIdx k)).length d'] (0, 0) _ rfl (K9.blk (g := g3 + 1) (e := 82) (List.Mem.tail _ (List.Mem.head _))) Tryz.underlying82 rfl (by kernel_rfl) rfl) rfl ⟨_, by rw [HE.out]; try rfl, by rw [HE.out]; exact rf_store H.out HXA.out HRF.out (by rw [hG3.out]; omega) hgx HU9.out K9.toExt⟩
  · obtain ⟨hpl, hlv⟩ := place_no hin
    rw [hpl] at HPL
    have HE := hide hlv
    clear hin hpl hlv
    go_enter Tryz.func82, Tryz.ntmps82
    go_upto_region 1 with (have zz := tok1; clear zz tok1; refine wpList_alS H0 rfl 82 rfl [.slice none 0 0, .slice none 0 0] (by kernel_rfl) ?_; intro w1 hz1 K1; clear hz1)
    rw [show (World.alloc w (.cells #[.slice A S.length c, .slice B S.length d] 82)).heap.size = w.heap.size + 1 by simp] at K1
    try simp only [show (World.alloc w (.cells #[.slice A S.length c, .slice B S.length d] 82)).heap.size = w.heap.size + 1 by simp]
    obtain ⟨g3, G3⟩ : ∃ g, w.heap.size = g := ⟨_, rfl⟩
    rw [G3] at K1 ⊢
    have hG3 := hide G3
    clear H0 G3
    obtain ⟨c0, c1, hg0⟩ := cells2 (K1.blk (g := g3) (e := 82) (cs := [.slice A S.length c, .slice B S.length d]) (List.Mem.tail _ (List.Mem.head _)))
    have KK := hide K1
    clear K1
    go_wp2_with fail
    (with_reducible refine (HPL.out _ KK.out.toExt).mono ?_)
    rintro e w2 ⟨rfl, hx2⟩
    have K2 := KK.out.ext hx2
    clear KK hx2 c0 c1 hg0
    obtain ⟨c0, c1, hg0⟩ := cells2 (K2.blk (g := g3) (e := 82) (cs := [.slice A S.length c, .slice B S.length d]) (List.Mem.tail _ (List.Mem.head _)))
    have KK := hide K2
    clear K2
    have tok2 : True := trivial
    go_wp2_with (have zz := tok2; clear zz tok2; refine wpList_stS [] KK.out rfl 82 (.tmp 6) (.tmp 20) rfl rfl (cs := [.slice A S.length c, .slice B S.length d]) rfl (by kernel_rfl) rfl (refs_one _ _ rfl rfl) ?_; intro w9 K9; dsimp only [List.nil_append] at K9)
    refine bodyPost_ret (v := .tuple #[rv A B S.length c d, .int .i64 4]) (results_row_tmp rfl _ _ (g3 + 1) 82 #[.slice A S.length c, .slice B S.length d] (0, 0) _ rfl (K9.blk (g := g3 + 1) (e := 82) (List.Mem.head _)) Tryz.underlying82 rfl (by kernel_rfl) rfl) rfl ⟨_, by rw [HE.out]; try rfl, by rw [HE.out]; exact rf_same H.out K9.toExt⟩
set_option maxRecDepth 100000 in
set_option maxHeartbeats 8000000 in
theorem rtake_any {A B : Option Addr} {vs : List Value} {S : St} {c d : Nat} {i : Int} {w : World} (h : (AsRf A B vs S).p w) (hok : Ok S) : Calls Tryz.prog 72 #[rv A B S.length c d, .int .i64 i] w fun e w' => ∃ v, e = .returned (.tuple #[v, .int .u32 (takeS S i).2.1, .int .i64 (takeS S i).2.2]) ∧ RfTo c w A B vs S w' v (takeS S i).1 := by
  have H := hide h
  have H0 := (Sep.refl No w).newB ((Ext.refl w).alloc (.cells #[.slice A S.length c, .slice B S.length d] 82)) (Blk.new w 82 [.slice A S.length c, .slice B S.length d]) (Nat.le_refl _)
  have HPL := hide (fun (x : World) (hx : Ext w x) => rfirst_any (A := A) (B := B) (c := c) (d := d) (i := i) (rf_ext h hx))
  have tok1 : True := trivial
  clear h
  by_cases hin : inS S i ∧ wt S i ≠ []
  · obtain ⟨hin, hne⟩ := hin
    obtain ⟨hb, s, rfl, hs⟩ := inB_true hin
    have hsi : (s : Int) < (S.length : Int) := by omega
    have hS8 := hok.len
    have h1k := hok.get hin
    have hlen := h1k.len
    have hlim := h1k.lim
    simp only at hlen hlim
    obtain ⟨x, HX0⟩ : ∃ x, Hid ((wt S s).getD 0 0 = x) := ⟨_, hide rfl⟩
    have hpos := List.length_pos_iff.2 hne
    have HE : Hid (takeS S s = (put S s (wt S s).tail, x, 0)) := hide (by unfold takeS; rw [if_neg (fun h => h hin), if_neg hne, HX0.out])
    rw [show firstS S s = (x, 0) by unfold firstS; rw [if_neg (fun h => h hin), if_neg hne, HX0.out]] at HPL
    obtain ⟨bd, C, cr, hB, hrow, hcr⟩ := rf_row_all H.out hs
    obtain ⟨cd, hC, _⟩ := u32s_at (hrow w (Ext.refl w)).2 hpos
    obtain ⟨ad, hA, _⟩ := rf_lim_all H.out hs
    subst hB hC hA
    have HROW := hide hrow
    have hl1 : (1 : Int) ≤ ((wt S s).length : Int) := by omega
    have hcrl : ((wt S s).length : Int) ≤ (cr : Int) := by omega
    have hcr0 : ¬ cr = 0 := by omega
    have HRD : Hid (∀ wz, Ext w wz → Rd wz (some ⟨cd.block, cd.off + 1, none⟩) (u32s (wt S s).tail)) := hide (fun wz x => by rw [← List.drop_one, ← u32s_drop, show (⟨cd.block, cd.off + 1, none⟩ : Addr) = cd.add 1 by simp [Addr.add]]; exact rd_dropA (hrow wz x).2 1)
    have HRD0 : Hid (1 = cr → ∀ wz A', Rd wz A' (u32s (wt S s).tail)) := hide (fun e wz A' => by rw [← List.drop_one, List.drop_eq_nil_of_le (by omega)]; exact rd_nilA _ _)
    have HLR : Hid ((wt S s).tail.length ≤ 1000000) := hide (by rw [List.length_tail]; omega)
    have HLEN : Hid ((wt S s).tail.length = (wt S s).length - 1) := hide (by rw [List.length_tail])
    clear hb hrow h1k hin hne
    go_enter Tryz.func72, Tryz.ntmps72
    go_upto_region 1 with (have zz := tok1; clear zz tok1; refine wpList_alS H0 rfl 82 rfl [.slice none 0 0, .slice none 0 0] (by kernel_rfl) ?_; intro w1 hz1 K1; clear hz1)
    rw [show (World.alloc w (.cells #[.slice (some ad) S.length c, .slice (some bd) S.length d] 82)).heap.size = w.heap.size + 1 by simp] at K1
    try simp only [show (World.alloc w (.cells #[.slice (some ad) S.length c, .slice (some bd) S.length d] 82)).heap.size = w.heap.size + 1 by simp]
    obtain ⟨g3, G3⟩ : ∃ g, w.heap.size = g := ⟨_, rfl⟩
    rw [G3] at K1 ⊢
    have hG3 := hide G3
    clear H0 G3
    obtain ⟨c0, c1, hg0⟩ := cells2 (K1.blk (g := g3) (e := 82) (cs := [.slice (some ad) S.length c, .slice (some bd) S.length d]) (List.Mem.tail _ (List.Mem.head _)))
    have KK := hide K1
    clear K1
    go_wp2_with fail
    (with_reducible refine (HPL.out _ KK.out.toExt).mono ?_)
    rintro e w2 ⟨rfl, hx2⟩
    have K2 := KK.out.ext hx2
    clear KK hx2 c0 c1 hg0
    obtain ⟨c0, c1, hg0⟩ := cells2 (K2.blk (g := g3) (e := 82) (cs := [.slice (some ad) S.length c, .slice (some bd) S.length d]) (List.Mem.tail _ (List.Mem.head _)))
    have KK := hide K2
    clear K2
    by_cases hci : cr = 1
    · have HCI := hide hci.symm
      go_upto_region 4 with fail
      refine wp_region_wmr (RT.fr fun k => w2.drew.heap.size ≤ k ∨ k = g3 + 1) [0, 1, 2, 3, 4, 5, 6, 7, 9, 8, 10, 11, 12] (by kernel_rfl) (by kernel_rfl) (by kernel_rfl) (by kernel_rfl) ?_
      have H1 := KK.out.drew
      clear KK c0 c1 hg0
      generalize w2.drew = wd at *
      obtain ⟨SB, hSB⟩ : ∃ s, wd.heap.size = s := ⟨_, rfl⟩
      have hB3 := H1.blk (g := g3) (e := 82) (cs := [.slice (some ad) S.length c, .slice (some bd) S.length d]) (List.Mem.tail _ (List.Mem.head _))
      have hg3SB : g3 < SB := by rw [← hSB]; exact hB3.lt
      have hcB := (HROW.out _ H1.toExt).1
      have hbSB : bd.block < SB := by rw [← hSB]; have := cell_lt hcB; rwa [add_block] at this
      have hbg : bd.block < g3 := by have := cell_lt (HROW.out _ (Ext.refl w)).1; rw [add_block] at this; rw [← hG3.out]; exact this
      rw [hSB]
      refine wmr_ldX rfl rfl 82 (.tmp 2) rfl (fun w' h' => hB3.at5.fr h' (by omega)) rfl _ Tryz.underlying82 rfl (by kernel_rfl) ?_
      iterate 2 (refine wmr_rd rfl rfl (fun K hK => ?_); go_simp; refine hK _ ?_; clear hK K)
      refine wmr_ld1 rfl rfl 25 (.tmp 21) rfl rfl (fun w' h' => ((h'.blk hB3 (by omega)).cell 1).trans rfl) _ Tryz.underlying25 rfl ?_
      iterate 2 (refine wmr_rd rfl rfl (fun K hK => ?_); go_simp; refine hK _ ?_; clear hK K)
      refine wmr_ld1 rfl rfl 47 (.tmp 24) rfl rfl (fun w' h' => h'.cell hcB (by rw [add_block]; omega)) _ Tryz.underlying47 rfl ?_
      iterate 2 (refine wmr_rd rfl rfl (fun K hK => ?_); go_simp; refine hK _ ?_; clear hK K)
      clear hB3 hSB hcB
      have hr41 := HRD0.out HCI.out wd (some cd)
      refine wmr_ext rfl rfl (fun K hK => ?_)
      go_simp
      go_at_call 109
      have hW := with_any (c := c) (d := d) (rf_ext H.out H1.toExt) hs hS8 (wt S s).tail (some cd) (0) hr41 HLR.out
      rw [HLEN.out] at hW
      (with_reducible refine hW.mono ?_)
      rintro e w8 ⟨v8, rfl, hRF⟩
      obtain ⟨B', vs', d', rfl, hp8, hx8, hf8⟩ := hRF
      have HRF : Hid (RfTo c wd (some ad) (some bd) vs S w8 (rv (some ad) B' (put S s (wt S s).tail).length c d') (put S s (wt S s).tail)) := hide ⟨B', vs', d', rfl, hp8, hx8, hf8⟩
      refine hK _ _ ((Fr.of_ext hx8).mono (fun i h => h.elim)) ?_
      clear hK K
      have K8 := H1.ext hx8
      have HXA := hide H1.toExt
      have hgx : g3 + 1 < wd.heap.size := (H1.blk (g := g3 + 1) (e := 82) (List.Mem.head _)).lt
      clear hp8 hx8 hf8 hr41 hW H1
      refine wmr_ext rfl rfl (fun K hK => ?_)
      rw [if_pos (show Region.wanted _ _ = true from rfl)]
      refine wp_stS [] K8 82 (.tmp 4) (.tmp 27) rfl (cs := [.slice (some ad) (put S s (wt S s).tail).length c, .slice B' (put S s (wt S s).tail).length d']) rfl rfl (by kernel_rfl) rfl (refs_one _ _ rfl rfl) (fun w9 K9 hu9 => hK _ _ ((Fr.of_upd hu9).mono fun k hk => .inr hk) ?_)
      dsimp only [List.nil_append, List.cons_append] at K9
      have HU9 := hide hu9
      clear hK K K8 hu9
      iterate 2 (refine wmr_rd rfl rfl (fun K hK => ?_); go_simp; refine hK _ ?_; clear hK K)
      refine wmr_nil ?_
      go_wp2_with fail
      refine bodyPost_ret (v := .tuple #[rv (some ad) B' (put S s (wt S s).tail).length c d', .int .u32 x, .int .i64 0]) (wresults_ctt rfl _ _ (g3 + 1) 82 [.slice (some ad) (put S s (wt S s).tail).length c, .slice B' (put S s (wt S s).tail).length d'] _ rfl (K9.blk (g := g3 + 1) (e := 82) (List.Mem.head _)) Tryz.underlying82 rfl (by kernel_rfl) rfl rfl) rfl ⟨_, by rw [HE.out]; try rfl, by rw [HE.out]; exact rf_store H.out HXA.out HRF.out (by rw [hG3.out]; omega) hgx HU9.out K9.toExt⟩
    · go_upto_region 4 with fail
      refine wp_region_wmr (RT.fr fun k => w2.drew.heap.size ≤ k ∨ k = g3 + 1) [0, 1, 2, 3, 4, 5, 6, 7, 9, 8, 10, 11, 12] (by kernel_rfl) (by kernel_rfl) (by kernel_rfl) (by kernel_rfl) ?_
      have H1 := KK.out.drew
      clear KK c0 c1 hg0
      generalize w2.drew = wd at *
      obtain ⟨SB, hSB⟩ : ∃ s, wd.heap.size = s := ⟨_, rfl⟩
      have hB3 := H1.blk (g := g3) (e := 82) (cs := [.slice (some ad) S.length c, .slice (some bd) S.length d]) (List.Mem.tail _ (List.Mem.head _))
      have hg3SB : g3 < SB := by rw [← hSB]; exact hB3.lt
      have hcB := (HROW.out _ H1.toExt).1
      have hbSB : bd.block < SB := by rw [← hSB]; have := cell_lt hcB; rwa [add_block] at this
      have hbg : bd.block < g3 := by have := cell_lt (HROW.out _ (Ext.refl w)).1; rw [add_block] at this; rw [← hG3.out]; exact this
      rw [hSB]
      refine wmr_ldX rfl rfl 82 (.tmp 2) rfl (fun w' h' => hB3.at5.fr h' (by omega)) rfl _ Tryz.underlying82 rfl (by kernel_rfl) ?_
      iterate 2 (refine wmr_rd rfl rfl (fun K hK => ?_); go_simp; refine hK _ ?_; clear hK K)
      refine wmr_ld1 rfl rfl 25 (.tmp 21) rfl rfl (fun w' h' => ((h'.blk hB3 (by omega)).cell 1).trans rfl) _ Tryz.underlying25 rfl ?_
      iterate 2 (refine wmr_rd rfl rfl (fun K hK => ?_); go_simp; refine hK _ ?_; clear hK K)
      refine wmr_ld1 rfl rfl 47 (.tmp 24) rfl rfl (fun w' h' => h'.cell hcB (by rw [add_block]; omega)) _ Tryz.underlying47 rfl ?_
      iterate 2 (refine wmr_rd rfl rfl (fun K hK => ?_); go_simp; refine hK _ ?_; clear hK K)
      clear hB3 hSB hcB
      have hr41 := HRD.out _ H1.toExt
      refine wmr_ext rfl rfl (fun K hK => ?_)
      go_simp
      go_at_call 109
      have hW := with_any (c := c) (d := d) (rf_ext H.out H1.toExt) hs hS8 (wt S s).tail (some ⟨cd.block, cd.off + 1, none⟩) (cr - 1) hr41 HLR.out
      rw [HLEN.out] at hW
      (with_reducible refine hW.mono ?_)
      rintro e w8 ⟨v8, rfl, hRF⟩
      obtain ⟨B', vs', d', rfl, hp8, hx8, hf8⟩ := hRF
      have HRF : Hid (RfTo c wd (some ad) (some bd) vs S w8 (rv (some ad) B' (put S s (wt S s).tail).length c d') (put S s (wt S s).tail)) := hide ⟨B', vs', d', rfl, hp8, hx8, hf8⟩
      refine hK _ _ ((Fr.of_ext hx8).mono (fun i h => h.elim)) ?_
      clear hK K
      have K8 := H1.ext hx8
      have HXA := hide H1.toExt
      have hgx : g3 + 1 < wd.heap.size := (H1.blk (g := g3 + 1) (e := 82) (List.Mem.head _)).lt
      clear hp8 hx8 hf8 hr41 hW H1
      refine wmr_ext rfl rfl (fun K hK => ?_)
      rw [if_pos (show Region.wanted _ _ = true from rfl)]
      refine wp_stS [] K8 82 (.tmp 4) (.tmp 27) rfl (cs := [.slice (some ad) (put S s (wt S s).tail).length c, .slice B' (put S s (wt S s).tail).length d']) rfl rfl (by kernel_rfl) rfl (refs_one _ _ rfl rfl) (fun w9 K9 hu9 => hK _ _ ((Fr.of_upd hu9).mono fun k hk => .inr hk) ?_)
      dsimp only [List.nil_append, List.cons_append] at K9
      have HU9 := hide hu9
      clear hK K K8 hu9
      iterate 2 (refine wmr_rd rfl rfl (fun K hK => ?_); go_simp; refine hK _ ?_; clear hK K)
      refine wmr_nil ?_
      go_wp2_with fail
      refine bodyPost_ret (v := .tuple #[rv (some ad) B' (put S s (wt S s).tail).length c d', .int .u32 x, .int .i64 0]) (wresults_ctt rfl _ _ (g3 + 1) 82 [.slice (some ad) (put S s (wt S s).tail).length c, .slice B' (put S s (wt S s).tail).length d'] _ rfl (K9.blk (g := g3 + 1) (e := 82) (List.Mem.head _)) Tryz.underlying82 rfl (by kernel_rfl) rfl rfl) rfl ⟨_, by rw [HE.out]; try rfl, by rw [HE.out]; exact rf_store H.out HXA.out HRF.out (by rw [hG3.out]; omega) hgx HU9.out K9.toExt⟩
  · obtain ⟨hpl, hlv⟩ := first_no hin
    rw [hpl] at HPL
    have HE := hide hlv
    clear hin hpl hlv
    go_enter Tryz.func72, Tryz.ntmps72
    go_upto_region 1 with (have zz := tok1; clear zz tok1; refine wpList_alS H0 rfl 82 rfl [.slice none 0 0, .slice none 0 0] (by kernel_rfl) ?_; intro w1 hz1 K1; clear hz1)
    rw [show (World.alloc w (.cells #[.slice A S.length c, .slice B S.length d] 82)).heap.size = w.heap.size + 1 by simp] at K1
    try simp only [show (World.alloc w (.cells #[.slice A S.length c, .slice B S.length d] 82)).heap.size = w.heap.size + 1 by simp]
    obtain ⟨g3, G3⟩ : ∃ g, w.heap.size = g := ⟨_, rfl⟩
    rw [G3] at K1 ⊢
    have hG3 := hide G3
    clear H0 G3
    obtain ⟨c0, c1, hg0⟩ := cells2 (K1.blk (g := g3) (e := 82) (cs := [.slice A S.length c, .slice B S.length d]) (List.Mem.tail _ (List.Mem.head _)))
    have KK := hide K1
    clear K1
    go_wp2_with fail
    (with_reducible refine (HPL.out _ KK.out.toExt).mono ?_)
    rintro e w2 ⟨rfl, hx2⟩
    have K2 := KK.out.ext hx2
    clear KK hx2 c0 c1 hg0
    obtain ⟨c0, c1, hg0⟩ := cells2 (K2.blk (g := g3) (e := 82) (cs := [.slice A S.length c, .slice B S.length d]) (List.Mem.tail _ (List.Mem.head _)))
    have KK := hide K2
    clear K2
    have tok2 : True := trivial
    go_wp2_with (have zz := tok2; clear zz tok2; refine wpList_stS [] KK.out rfl 82 (.tmp 4) (.tmp 17) rfl rfl (cs := [.slice A S.length c, .slice B S.length d]) rfl (by kernel_rfl) rfl (refs_one _ _ rfl rfl) ?_; intro w9 K9; dsimp only [List.nil_append] at K9)
    refine bodyPost_ret (v := .tuple #[rv A B S.length c d, .int .u32 0, .int .i64 4]) (wresults_ctt rfl _ _ (g3 + 1) 82 [.slice A S.length c, .slice B S.length d] _ rfl (K9.blk (g := g3 + 1) (e := 82) (List.Mem.head _)) Tryz.underlying82 rfl (by kernel_rfl) rfl rfl) rfl ⟨_, by rw [HE.out]; try rfl, by rw [HE.out]; exact rf_same H.out K9.toExt⟩
end Go.Proofs.YtdmaephmkfmehaaGreatDoor
namespace Go.Proofs.YtdmaephmkfmehaaGreatDoor
open Go.RowKit Go.Gr Go.Wl
set_option linter.unusedVariables false
set_option linter.unusedSimpArgs false
attribute [local go_sem] rdOp rdAt rdUpon Cls forall_fr
theorem infoI : (Tryz.prog.info? 3).map (fun i => (i.zero, i.size, i.bytes)) = some (some (.int .i64 0), 1, 8) := by kernel_rfl
theorem limsS_new {l : List Int} (h : limE l = 0) : limsS (newS l) = l := by
  obtain ⟨_, _, h3⟩ := limE_zero h
  unfold limsS newS
  rw [List.map_map]
  conv => rhs; rw [← List.map_id l]
  refine List.map_congr_left fun x hx => ?_
  have := h3 x hx
  simp only [Function.comp, id]
  omega
theorem rowsS_new (l : List Int) : rowsS (newS l) = List.replicate l.length [] := by
  unfold rowsS newS
  rw [List.map_map]
  apply List.ext_getElem?
  intro j
  rw [List.getElem?_map, List.getElem?_replicate]
  rcases hq : l[j]? with _ | x
  · rw [if_neg (by have := List.getElem?_eq_none_iff.1 hq; omega)]; rfl
  · rw [if_pos (List.getElem?_eq_some_iff.1 hq).1]; rfl
theorem newS_len (l : List Int) : (newS l).length = l.length := by simp [newS]
/-- the reference's lists, all of them new -/
theorem sep_rf {w w' : World} {L : List As} {v : Value} {g : Nat} {l : List Int} (h0 : limE l = 0) {A : Option Addr} {c : Nat} (hv : v = .slice A l.length c) (H : Sep No w w' (As.own 3 v (i64s l) :: As.blk g 47 (List.replicate l.length (.slice none 0 0)) :: L)) :
    Sep No w w' (AsRf A (some ⟨g, 0, none⟩) (List.replicate l.length (.slice none 0 0)) (newS l) :: L) := by
  subst hv
  obtain ⟨A', c', e', hr, _⟩ := (H.owns (e := 3) (List.Mem.head _)).form
  rw [i64s_len] at e'
  cases e'
  have H1 := H.weak [] (B := As.rd A (i64s l)) (fun _ => hr) (fun i ⟨hne, ad, e, hi⟩ => by subst e; subst hi; rfl)
  have H2 := Sep.weak [_] H1 (B := AsRows (some ⟨g, 0, none⟩) (List.replicate l.length (.slice none 0 0)) (rowsS (newS l))) (fun hb => ⟨Blk.rd hb, by rw [rowsS_new]; exact AreRows.same _⟩) (fun i hi => by
    rcases hi with ⟨_, ad, e, rfl⟩ | ⟨ad, n, c, hm, _⟩
    · cases e; rfl
    · have := List.eq_of_mem_replicate hm
      cases this)
  exact H2.merge (C := AsRf A (some ⟨g, 0, none⟩) (List.replicate l.length (.slice none 0 0)) (newS l)) (fun ha hb => ⟨by rw [limsS_new h0]; exact ha, hb⟩) (fun i hi => by
    rcases hi with hi | hi
    · rw [limsS_new h0] at hi; exact .inl hi
    · exact .inr hi)
set_option maxRecDepth 100000 in
set_option maxHeartbeats 4000000 in
theorem rnew_any (l : List Int) (A : Option Addr) (c : Nat) (w : World) (hr : Rd w A (i64s l)) (hlm : l.length ≤ 100000) :
    Calls Tryz.prog 43 #[.slice A l.length c] w fun e w' => (limE l = 0 → ∃ A' B' c' d' vs, e = .returned (.tuple #[rv A' B' l.length c' d', .int .i64 0]) ∧ Sep No w w' [AsRf A' B' vs (newS l)]) ∧ (limE l ≠ 0 → e = .returned (.tuple #[rv none none 0 0 0, .int .i64 (limE l)]) ∧ Ext w w') := by
  obtain ⟨i39, hi, hz0, hz1, hz2⟩ := info_parts info39
  obtain ⟨i64, ki, kz0, kz1, kz2⟩ := info_parts infoI
  have HR := hide hr
  have HLC := hide (fun (x : World) (h : Ext w x) => limited_any l A c x (hr.ext h) hlm)
  have HL1 : Hid (l.length = (i64s l).length) := hide (i64s_len l).symm
  have HB1 : Hid (([] : List Value).length + (i64s l).length ≤ 1000000000) := hide (by rw [i64s_len, List.length_nil]; omega)
  have tok1 : True := trivial
  have tok2 : True := trivial
  clear hr
  by_cases h0 : limE l = 0
  · have HLIM := hide h0
    rw [h0] at HLC
    clear h0
    go_enter Tryz.func43, Tryz.ntmps43
    go_upto_region 1 with (have zz := tok1; clear zz tok1; refine wpList_alS (Sep.refl No w) rfl 82 rfl [.slice none 0 0, .slice none 0 0] (by kernel_rfl) ?_; intro w1 hz1 K1; clear hz1)
    obtain ⟨g2, G2⟩ : ∃ g, w.heap.size = g := ⟨_, rfl⟩
    rw [G2] at K1 ⊢
    have KK := hide K1
    clear K1 G2
    go_wp2_with fail
    (with_reducible refine (HLC.out _ KK.out.toExt).mono ?_)
    rintro e w2 ⟨rfl, rfl⟩
    go_upto_region 4 with fail
    refine wp_region_wf (RT.fr fun k => w1.drew.heap.size ≤ k ∨ k = g2) 5 [1, 3, 4, 0, 2, 5, 6, 7, 8] (by kernel_rfl) (by kernel_rfl) (by kernel_rfl) (by kernel_rfl) (by kernel_rfl) ?_
    have H1 := KK.out.drew
    clear KK
    generalize w1.drew = wd at *
    obtain ⟨SB, hSB⟩ : ∃ s, wd.heap.size = s := ⟨_, rfl⟩
    have hsz1 : SB ≤ wd.heap.size := Nat.le_of_eq hSB.symm
    rw [hSB]
    iterate 3 (refine wf_rd rfl rfl rfl (fun K hK => ?_); go_simp; refine hK _ ?_; clear hK K)
    clear hSB
    refine wf_ext rfl rfl rfl (fun K hK => ?_) ?_
    · go_simp
      refine hK _ _ ((Fr.of_ext ((Ext.refl wd).alloc _)).mono (fun i h => h.elim)) ?_
      clear hK K
      have H2 := bs0 H1 3
      obtain ⟨wb1, hwb⟩ : ∃ x, World.alloc wd (.cells #[] 3) = x := ⟨_, rfl⟩
      have hsz2 : SB ≤ wb1.heap.size := by rw [← hwb]; simp; omega
      rw [hwb] at H2 ⊢
      have hov2 : SB ≤ wd.heap.size := hsz1
      clear hwb H1
      refine wf_ext rfl rfl rfl (fun K hK => ?_) ?_
      · rw [if_pos (show Region.wanted _ _ = true from rfl)]
        refine wp_apS [] H2 (.tmp 11) (.tmp 12) 32 rfl i64 (.int .i64 0) 8 Tryz.underlying32 ki kz0 kz1 kz2 rfl rfl (A := A) (m := l.length) (c := c) (news := i64s l) rfl HL1.out (H2.rdN HR.out) (i64s_one _) HB1.out (by decide) ?_
        intro v13 w2a H3 hf5 hv5
        dsimp only [List.nil_append, List.cons_append] at H3
        have hsz3 : SB ≤ w2a.heap.size := Nat.le_trans hsz2 hf5.size
        refine hK _ _ (hf5.mono (fun j hj => .inl (by cases hj; exact hov2))) ?_
        clear hK K hf5 hv5 H2
        refine wf_at rfl ?_
        refine wmr_ext rfl rfl (fun K hK => ?_)
        rw [if_pos (show Region.wanted _ _ = true from rfl)]
        refine wp_mkG H3 (.tmp 15) (.tmp 15) 25 rfl 47 i39 (.slice none 0 0) 24 Tryz.underlying25 hi hz0 hz1 hz2 rfl rfl rfl (by omega) (by decide) (fun wb3 hzz hxx H4 => ?_)
        refine hK _ _ ((Fr.of_ext hxx).mono (fun i h => h.elim)) ?_
        have hsz4 : SB ≤ wb3.heap.size := by omega
        obtain ⟨g16, hg16⟩ : ∃ g, w2a.heap.size = g := ⟨_, rfl⟩
        rw [hg16] at H4 ⊢
        clear hK K hzz hxx hg16 H3
        obtain ⟨A13, c13, hv13, _, _⟩ := (H4.owns (e := 3) (v := v13) (List.Mem.tail _ (List.Mem.head _))).form
        rw [i64s_len] at hv13
        subst hv13
        have HH := H4.swap
        clear H4
        have H9 := sep_rf HLIM.out rfl HH
        clear HH
        iterate 1 (refine wmr_rd rfl rfl (fun K hK => ?_); go_simp; refine hK _ ?_; clear hK K)
        refine wmr_ext rfl rfl (fun K hK => ?_)
        rw [if_pos (show Region.wanted _ _ = true from rfl)]
        refine wp_stS [_] H9 82 (.tmp 2) (.tmp 17) rfl (cs := [.slice A13 l.length c13, .slice (some ⟨g16, 0, none⟩) l.length l.length]) rfl rfl (by kernel_rfl) rfl (refs_one _ _ rfl rfl) (fun w9 K9 hu9 => hK _ _ ((Fr.of_upd hu9).mono fun k hk => .inr hk) ?_)
        dsimp only [List.nil_append, List.cons_append] at K9
        clear hK K H9 hu9
        iterate 1 (refine wmr_rd rfl rfl (fun K hK => ?_); go_simp; refine hK _ ?_; clear hK K)
        refine wmr_nil ?_
        go_wp2_with fail
        refine bodyPost_ret (v := .tuple #[rv A13 (some ⟨g16, 0, none⟩) l.length c13 l.length, .int .i64 0]) (results_row_tmp rfl _ _ g2 82 #[.slice A13 l.length c13, .slice (some ⟨g16, 0, none⟩) l.length l.length] (0, 0) _ rfl (K9.blk (g := g2) (e := 82) (List.Mem.tail _ (List.Mem.head _))) Tryz.underlying82 rfl (by kernel_rfl) rfl) rfl ⟨fun _ => ⟨_, _, _, _, _, rfl, K9.sub (List.cons_sublist_cons.2 (List.nil_sublist _))⟩, fun h => absurd HLIM.out h⟩
      · refine wmr_ext rfl rfl (fun K hK => ?_)
        rw [if_pos (show Region.wanted _ _ = true from rfl)]
        refine wp_mkG H2 (.tmp 15) (.tmp 15) 25 rfl 47 i39 (.slice none 0 0) 24 Tryz.underlying25 hi hz0 hz1 hz2 rfl rfl rfl (by omega) (by decide) (fun wb2 hzz hxx H3 => ?_)
        refine hK _ _ ((Fr.of_ext hxx).mono (fun i h => h.elim)) ?_
        have hsz3 : SB ≤ wb2.heap.size := by omega
        obtain ⟨g16, hg16⟩ : ∃ g, wb1.heap.size = g := ⟨_, rfl⟩
        rw [hg16] at H3 ⊢
        clear hK K hzz hxx hg16 H2
        refine wmr_ext rfl rfl (fun K hK => ?_)
        rw [if_pos (show Region.wanted _ _ = true from rfl)]
        refine wp_apS [_] H3 (.tmp 11) (.tmp 12) 32 rfl i64 (.int .i64 0) 8 Tryz.underlying32 ki kz0 kz1 kz2 rfl rfl (A := A) (m := l.length) (c := c) (news := i64s l) rfl HL1.out (H3.rdN HR.out) (i64s_one _) HB1.out (by decide) ?_
        intro v13 w3a H4 hf5 hv5
        dsimp only [List.nil_append, List.cons_append] at H4
        have hsz4 : SB ≤ w3a.heap.size := Nat.le_trans hsz3 hf5.size
        refine hK _ _ (hf5.mono (fun j hj => .inl (by cases hj; exact hov2))) ?_
        clear hK K hf5 hv5 H3
        obtain ⟨A13, c13, hv13, _, _⟩ := (H4.owns (e := 3) (v := v13) (List.Mem.tail _ (List.Mem.head _))).form
        rw [i64s_len] at hv13
        subst hv13
        have HH := H4.swap
        clear H4
        have H9 := sep_rf HLIM.out rfl HH
        clear HH
        iterate 1 (refine wmr_rd rfl rfl (fun K hK => ?_); go_simp; refine hK _ ?_; clear hK K)
        refine wmr_ext rfl rfl (fun K hK => ?_)
        rw [if_pos (show Region.wanted _ _ = true from rfl)]
        refine wp_stS [_] H9 82 (.tmp 2) (.tmp 17) rfl (cs := [.slice A13 l.length c13, .slice (some ⟨g16, 0, none⟩) l.length l.length]) rfl rfl (by kernel_rfl) rfl (refs_one _ _ rfl rfl) (fun w9 K9 hu9 => hK _ _ ((Fr.of_upd hu9).mono fun k hk => .inr hk) ?_)
        dsimp only [List.nil_append, List.cons_append] at K9
        clear hK K H9 hu9
        iterate 1 (refine wmr_rd rfl rfl (fun K hK => ?_); go_simp; refine hK _ ?_; clear hK K)
        refine wmr_nil ?_
        go_wp2_with fail
        refine bodyPost_ret (v := .tuple #[rv A13 (some ⟨g16, 0, none⟩) l.length c13 l.length, .int .i64 0]) (results_row_tmp rfl _ _ g2 82 #[.slice A13 l.length c13, .slice (some ⟨g16, 0, none⟩) l.length l.length] (0, 0) _ rfl (K9.blk (g := g2) (e := 82) (List.Mem.tail _ (List.Mem.head _))) Tryz.underlying82 rfl (by kernel_rfl) rfl) rfl ⟨fun _ => ⟨_, _, _, _, _, rfl, K9.sub (List.cons_sublist_cons.2 (List.nil_sublist _))⟩, fun h => absurd HLIM.out h⟩
    · refine wmr_ext rfl rfl (fun K hK => ?_)
      rw [if_pos (show Region.wanted _ _ = true from rfl)]
      refine wp_mkG H1 (.tmp 15) (.tmp 15) 25 rfl 47 i39 (.slice none 0 0) 24 Tryz.underlying25 hi hz0 hz1 hz2 rfl rfl rfl (by omega) (by decide) (fun wb1 hzz hxx H2 => ?_)
      refine hK _ _ ((Fr.of_ext hxx).mono (fun i h => h.elim)) ?_
      have hsz2 : SB ≤ wb1.heap.size := by omega
      obtain ⟨g16, hg16⟩ : ∃ g, wd.heap.size = g := ⟨_, rfl⟩
      rw [hg16] at H2 ⊢
      clear hK K hzz hxx hg16 H1
      refine wmr_ext rfl rfl (fun K hK => ?_)
      go_simp
      refine hK _ _ ((Fr.of_ext ((Ext.refl wb1).alloc _)).mono (fun i h => h.elim)) ?_
      clear hK K
      have H3 := bs0 H2 3
      obtain ⟨wb2, hwb⟩ : ∃ x, World.alloc wb1 (.cells #[] 3) = x := ⟨_, rfl⟩
      have hsz3 : SB ≤ wb2.heap.size := by rw [← hwb]; simp; omega
      rw [hwb] at H3 ⊢
      have hov3 : SB ≤ wb1.heap.size := hsz2
      clear hwb H2
      refine wmr_ext rfl rfl (fun K hK => ?_)
      rw [if_pos (show Region.wanted _ _ = true from rfl)]
      refine wp_apS [] H3 (.tmp 11) (.tmp 12) 32 rfl i64 (.int .i64 0) 8 Tryz.underlying32 ki kz0 kz1 kz2 rfl rfl (A := A) (m := l.length) (c := c) (news := i64s l) rfl HL1.out (H3.rdN HR.out) (i64s_one _) HB1.out (by decide) ?_
      intro v13 w3a H4 hf5 hv5
      dsimp only [List.nil_append, List.cons_append] at H4
      have hsz4 : SB ≤ w3a.heap.size := Nat.le_trans hsz3 hf5.size
      refine hK _ _ (hf5.mono (fun j hj => .inl (by cases hj; exact hov3))) ?_
      clear hK K hf5 hv5 H3
      obtain ⟨A13, c13, hv13, _, _⟩ := (H4.owns (e := 3) (v := v13) (List.Mem.head _)).form
      rw [i64s_len] at hv13
      subst hv13
      have HH := H4
      clear H4
      have H9 := sep_rf HLIM.out rfl HH
      clear HH
      iterate 1 (refine wmr_rd rfl rfl (fun K hK => ?_); go_simp; refine hK _ ?_; clear hK K)
      refine wmr_ext rfl rfl (fun K hK => ?_)
      rw [if_pos (show Region.wanted _ _ = true from rfl)]
      refine wp_stS [_] H9 82 (.tmp 2) (.tmp 17) rfl (cs := [.slice A13 l.length c13, .slice (some ⟨g16, 0, none⟩) l.length l.length]) rfl rfl (by kernel_rfl) rfl (refs_one _ _ rfl rfl) (fun w9 K9 hu9 => hK _ _ ((Fr.of_upd hu9).mono fun k hk => .inr hk) ?_)
      dsimp only [List.nil_append, List.cons_append] at K9
      clear hK K H9 hu9
      iterate 1 (refine wmr_rd rfl rfl (fun K hK => ?_); go_simp; refine hK _ ?_; clear hK K)
      refine wmr_nil ?_
      go_wp2_with fail
      refine bodyPost_ret (v := .tuple #[rv A13 (some ⟨g16, 0, none⟩) l.length c13 l.length, .int .i64 0]) (results_row_tmp rfl _ _ g2 82 #[.slice A13 l.length c13, .slice (some ⟨g16, 0, none⟩) l.length l.length] (0, 0) _ rfl (K9.blk (g := g2) (e := 82) (List.Mem.tail _ (List.Mem.head _))) Tryz.underlying82 rfl (by kernel_rfl) rfl) rfl ⟨fun _ => ⟨_, _, _, _, _, rfl, K9.sub (List.cons_sublist_cons.2 (List.nil_sublist _))⟩, fun h => absurd HLIM.out h⟩
  · obtain ⟨el, HEL⟩ : ∃ x, Hid (limE l = x) := ⟨_, hide rfl⟩
    rw [HEL.out] at HLC
    have h0' : el ≠ 0 := by rw [← HEL.out]; exact h0
    have e1 : (el != 0) = true := bne_iff_ne.2 h0'
    have HN := hide h0
    clear h0
    go_enter Tryz.func43, Tryz.ntmps43
    go_upto_region 1 with (have zz := tok1; clear zz tok1; refine wpList_alS (Sep.refl No w) rfl 82 rfl [.slice none 0 0, .slice none 0 0] (by kernel_rfl) ?_; intro w1 hz1 K1; clear hz1)
    obtain ⟨g2, G2⟩ : ∃ g, w.heap.size = g := ⟨_, rfl⟩
    rw [G2] at K1 ⊢
    have KK := hide K1
    clear K1 G2
    go_wp2_with fail
    (with_reducible refine (HLC.out _ KK.out.toExt).mono ?_)
    rintro e w2 ⟨rfl, rfl⟩
    go_wp2_with (have zz := tok2; clear zz tok2; refine wpList_stS [] KK.out rfl 82 (.tmp 2) (.tmp 9) rfl rfl (cs := [.slice none 0 0, .slice none 0 0]) rfl (by kernel_rfl) rfl (refs_one _ _ rfl rfl) ?_; intro w9 K9; dsimp only [List.nil_append] at K9)
    refine bodyPost_ret (v := .tuple #[rv none none 0 0 0, .int .i64 el]) (results_row_tmp rfl _ _ g2 82 #[.slice none 0 0, .slice none 0 0] (0, 0) _ rfl (K9.blk (g := g2) (e := 82) (List.Mem.head _)) Tryz.underlying82 rfl (by kernel_rfl) rfl) rfl ⟨fun h => absurd h HN.out, fun _ => ⟨by rw [HEL.out], K9.toExt⟩⟩
end Go.Proofs.YtdmaephmkfmehaaGreatDoor
