/- Texts put together: X0 X1 X2 X3 X4 X5. -/
import Derived.Test.YtdmaephmkfmehaaGreatDoorGl
import Derived.Test.YtdmaephmkfmehaaGreatDoorGb
namespace Go.Gr
open Go.RowKit
set_option linter.unusedSimpArgs false
theorem results_ct {P : Program} {fn : Func} {p u : Tmp} {ty : TypeId} (h : fn.results = #[.cell p ty, .tmp u]) (tmps : Array Value) (w : World) (g : Nat) (t : TypeId) (cs : List Value) (d : TypeDesc)
    (hp : tmps.getD p undef = .pointer (some ⟨g, 0, none⟩)) (hB : Blk w g t cs) (hu : P.underlying ty = some d) (hd : (match d with | .struct _ | .array _ _ => true | _ => false) = true) (hi : (P.info? ty).map (·.size) = some cs.length) {y : Value} (hy : tmps.getD u undef = y) :
    (results fn tmps).run P w = .ok (.tuple #[.agg cs.toArray, y]) w := by
  subst hy
  have r1 := run_loadVar_row (P := P) w g t ty cs.toArray (0, 0) d hB hu hd (by simpa using hi)
  rw [Array.getD_eq_getD_getElem?] at hp
  simp only [results, h]
  simp [Sem.run_bind, Result.andThen, hp, asAddr, r1]
end Go.Gr
namespace Go.Proofs.YtdmaephmkfmehaaGreatDoor
open Go.RowKit Go.Gr Go.Hp
set_option linter.unusedVariables false
set_option linter.unusedSimpArgs false
attribute [local go_sem] rdOp rdAt rdUpon Cls forall_fr
def askE (sn s t : Int) : Int := if badB sn s t = true then 7 else 0
/-- holds, as the reference has them -/
abbrev hrC (sn : Int) (A : Option Addr) (n c : Nat) : List Value := [.int .i64 sn, .slice A n c]
theorem hrC_one (sn : Int) (A : Option Addr) (n c : Nat) : ∀ v ∈ hrC sn A n c, v.oneCell' = true := by
  intro v hv; simp at hv; rcases hv with rfl | rfl <;> rfl

set_option maxRecDepth 100000 in
set_option maxHeartbeats 2000000 in
theorem rhnew_bad (sn : Int) (h : sn < 1 ∨ 4096 < sn) (w : World) : Calls Tryz.prog 73 #[.int .i64 sn] w fun e w' => e = .returned (.tuple #[.agg (hrC 0 none 0 0).toArray, .int .i64 7]) ∧ Ext w w' := by
  rcases h with h | h
  ·
    have tok1 : True := trivial
    have tok2 : True := trivial
    go_enter Tryz.func73, Tryz.ntmps73
    go_upto_region 1 with (have zz := tok1; clear zz tok1; refine wpList_alS (Sep.refl No w) rfl 94 rfl (hrC 0 none 0 0) (by kernel_rfl) ?_; intro w1 hz1 K1; clear hz1)
    obtain ⟨g2, G2⟩ : ∃ g, w.heap.size = g := ⟨_, rfl⟩
    rw [G2] at K1 ⊢
    clear G2
    go_wp2_with (have zz := tok2; clear zz tok2; refine wpList_stS [] K1 rfl 94 (.tmp 2) (.tmp 10) rfl rfl (cs := hrC 0 none 0 0) rfl (by kernel_rfl) rfl (hrC_one _ _ _ _) ?_; intro w2 K2; dsimp only [List.nil_append] at K2; clear K1)
    refine bodyPost_ret (v := .tuple #[.agg (hrC 0 none 0 0).toArray, .int .i64 7]) (results_ct rfl _ _ g2 94 (hrC 0 none 0 0) _ rfl (K2.blk (g := g2) (e := 94) (cs := hrC 0 none 0 0) (List.Mem.head _)) Tryz.underlying94 rfl (by kernel_rfl) rfl) rfl ?_
    exact ⟨rfl, K2.toExt⟩
  · have h2 : ¬ sn < 1 := by omega
    have tok1 : True := trivial
    have tok2 : True := trivial
    go_enter Tryz.func73, Tryz.ntmps73
    go_upto_region 1 with (have zz := tok1; clear zz tok1; refine wpList_alS (Sep.refl No w) rfl 94 rfl (hrC 0 none 0 0) (by kernel_rfl) ?_; intro w1 hz1 K1; clear hz1)
    obtain ⟨g2, G2⟩ : ∃ g, w.heap.size = g := ⟨_, rfl⟩
    rw [G2] at K1 ⊢
    clear G2
    go_wp2_with (have zz := tok2; clear zz tok2; refine wpList_stS [] K1 rfl 94 (.tmp 2) (.tmp 10) rfl rfl (cs := hrC 0 none 0 0) rfl (by kernel_rfl) rfl (hrC_one _ _ _ _) ?_; intro w2 K2; dsimp only [List.nil_append] at K2; clear K1)
    refine bodyPost_ret (v := .tuple #[.agg (hrC 0 none 0 0).toArray, .int .i64 7]) (results_ct rfl _ _ g2 94 (hrC 0 none 0 0) _ rfl (K2.blk (g := g2) (e := 94) (cs := hrC 0 none 0 0) (List.Mem.head _)) Tryz.underlying94 rfl (by kernel_rfl) rfl) rfl ?_
    exact ⟨rfl, K2.toExt⟩
theorem rhnew_ok (sn : Int) (h1 : ¬ sn < 1) (h2 : ¬ 4096 < sn) (w : World) : Calls Tryz.prog 73 #[.int .i64 sn] w fun e w' => e = .returned (.tuple #[.agg (hrC sn none 0 0).toArray, .int .i64 0]) ∧ Ext w w' := by
  ·
    have tok1 : True := trivial
    have tok2 : True := trivial
    go_enter Tryz.func73, Tryz.ntmps73
    go_upto_region 1 with (have zz := tok1; clear zz tok1; refine wpList_alS (Sep.refl No w) rfl 94 rfl (hrC 0 none 0 0) (by kernel_rfl) ?_; intro w1 hz1 K1; clear hz1)
    obtain ⟨g2, G2⟩ : ∃ g, w.heap.size = g := ⟨_, rfl⟩
    rw [G2] at K1 ⊢
    clear G2
    go_wp2_with (have zz := tok2; clear zz tok2; refine wpList_stS [] K1 rfl 94 (.tmp 2) (.tmp 12) rfl rfl (cs := hrC sn none 0 0) rfl (by kernel_rfl) rfl (hrC_one _ _ _ _) ?_; intro w2 K2; dsimp only [List.nil_append] at K2; clear K1)
    refine bodyPost_ret (v := .tuple #[.agg (hrC sn none 0 0).toArray, .int .i64 0]) (results_ct rfl _ _ g2 94 (hrC sn none 0 0) _ rfl (K2.blk (g := g2) (e := 94) (cs := hrC sn none 0 0) (List.Mem.head _)) Tryz.underlying94 rfl (by kernel_rfl) rfl) rfl ?_
    exact ⟨rfl, K2.toExt⟩

set_option maxRecDepth 100000 in
set_option maxHeartbeats 2000000 in
theorem asked_any (sn : Int) (A : Option Addr) (n c : Nat) (s t : Int) (w : World) : Calls Tryz.prog 74 #[.agg #[.int .i64 sn, .slice A n c], .int .i64 s, .int .i64 t] w fun e w' => e = .returned (.int .i64 (askE sn s t)) ∧ Ext w w' := by
  have K0 := (Sep.refl No w).add 94 (hrC sn A n c)
  obtain ⟨c0, -, cz⟩ := q2 (K0.blk (g := w.heap.size) (e := 94) (List.Mem.head _))
  have HX := hide K0.toExt
  clear K0
  by_cases h1 : s < 0
  · have HR : Hid (askE sn s t = 7) := hide (by unfold askE badB; simp [h1])
    go_enter Tryz.func74, Tryz.ntmps74
    go_wp2_with fail
    go_ret
    exact ⟨by rw [HR.out]; rfl, HX.out⟩
  by_cases h2 : sn ≤ s
  · have HR : Hid (askE sn s t = 7) := hide (by unfold askE badB; simp [h2])
    go_enter Tryz.func74, Tryz.ntmps74
    go_wp2_with fail
    go_ret
    exact ⟨by rw [HR.out]; rfl, HX.out⟩
  by_cases h3 : t < 0
  · have HR : Hid (askE sn s t = 7) := hide (by unfold askE badB; simp [h3])
    go_enter Tryz.func74, Tryz.ntmps74
    go_wp2_with fail
    go_ret
    exact ⟨by rw [HR.out]; rfl, HX.out⟩
  · have HR : Hid (askE sn s t = 0) := hide (by unfold askE badB; simp [h1, h2, h3])
    go_enter Tryz.func74, Tryz.ntmps74
    go_wp2_with fail
    go_ret
    exact ⟨by rw [HR.out]; rfl, HX.out⟩

end Go.Proofs.YtdmaephmkfmehaaGreatDoor
namespace Go.Proofs.YtdmaephmkfmehaaGreatDoor
open Go.RowKit Go.Gr Go.Hp
set_option linter.unusedVariables false
set_option linter.unusedSimpArgs false
attribute [local go_sem] rdOp rdAt rdUpon Cls forall_fr
theorem ownM_nil {w : World} {g : Nat} {e : TypeId} {k : Nat} (h : Blk w g e []) : OwnM w e k (.slice (some ⟨g, 0, none⟩) 0 0) [] :=
  ⟨⟨by simp, .inr ⟨g, 0, #[], rfl, Nat.zero_le _, h, Nat.le_refl _, Nat.zero_le _, by simp, by simp⟩⟩, by simp⟩
theorem sep_nilM {G : Nat → Prop} {w0 w : World} {L : List As} {g : Nat} {e : TypeId} {k : Nat} (h : Sep G w0 w (As.blk g e [] :: L)) : Sep G w0 w (As.ownM e k (.slice (some ⟨g, 0, none⟩) 0 0) [] :: L) :=
  Sep.weak [] (A := As.blk g e []) (B := As.ownM e k (.slice (some ⟨g, 0, none⟩) 0 0) []) h (fun hb => ownM_nil hb) (fun i hi => by cases hi; rfl)
theorem hoV_one (l : List Ho) : ∀ r ∈ hoV l, ∀ u ∈ r, u.oneCell' = true := fun r hr u hu => by
  obtain ⟨x, _, rfl⟩ := List.mem_map.1 hr
  exact ho_one x.s x.d u hu
theorem hoV_two (l : List Ho) : ∀ r ∈ hoV l, r.length = 2 := fun r hr => by
  obtain ⟨x, _, rfl⟩ := List.mem_map.1 hr
  rfl
/-- what the reference's Load answers -/
def RLoadA (w : World) (sn : Int) (l : List Ho) (e : Ending) (w' : World) : Prop := (ldE sn l = 0 ∧ ∃ (A : Option Addr) (c : Nat), l.length ≤ c ∧ e = .returned (.tuple #[.agg (hrC sn A l.length c).toArray, .int .i64 0]) ∧ RdM w' A 2 (hoV l) ∧ Ext w w') ∨ (ldE sn l ≠ 0 ∧ e = .returned (.tuple #[.agg (hrC 0 none 0 0).toArray, .int .i64 (ldE sn l)]) ∧ Ext w w')
theorem rloadA_bad {w w' : World} {sn : Int} {l : List Ho} {e : Ending} {k : Int} (h : ldE sn l = k) (hk : k ≠ 0) (he : e = .returned (.tuple #[.agg (hrC 0 none 0 0).toArray, .int .i64 k])) (hx : Ext w w') : RLoadA w sn l e w' := .inr ⟨by rw [h]; exact hk, by rw [h]; exact he, hx⟩

set_option maxRecDepth 100000 in
set_option maxHeartbeats 2000000 in
theorem rload_hold (sn : Int) (l : List Ho) (A : Option Addr) (c : Nat) (w : World) (hr : RdM w A 2 (hoV l)) (hok : ∀ x ∈ l, x.ok) (hc : l.length ≤ c) (hn : l.length ≤ 4000) :
    Calls Tryz.prog 40 #[.int .i64 sn, .slice A l.length c] w (RLoadA w sn l) := by
  obtain ⟨i0, ki, kz0, kz1, kz2⟩ := info_parts infoHo
  have tok1 : True := trivial
  have tok2 : True := trivial
  have tok3 : True := trivial
  have tok4 : True := trivial
  by_cases hsn : sn < 1 ∨ 4096 < sn
  · have HE : Hid (ldE sn l = 7) := hide (by unfold ldE; rw [if_pos hsn])
    have HNB := hide (fun (x : World) => rhnew_bad sn hsn x)
    clear hsn hr hok
    go_enter Tryz.func40, Tryz.ntmps40
    go_upto_region 1 with (have zz := tok1; clear zz tok1; refine wpList_alS (Sep.refl No w) rfl 94 rfl (hrC 0 none 0 0) (by kernel_rfl) ?_; intro w1 hz1 K1; clear hz1)
    obtain ⟨g4, G4⟩ : ∃ g, w.heap.size = g := ⟨_, rfl⟩
    rw [G4] at K1 ⊢
    clear G4
    go_wp2_with fail
    (with_reducible refine (HNB.out _).mono ?_)
    rintro e w2 ⟨rfl, hx⟩
    have K2 := K1.ext hx
    clear K1 hx
    go_wp2_with (first
      | (have zz := tok2; clear zz tok2; refine wpList_alS K2 rfl 94 rfl (hrC 0 none 0 0) (by kernel_rfl) ?_; intro w3 hz3 K3; clear hz3 K2)
      | (have zz := tok3; clear zz tok3; refine wpList_stS [] K3 rfl 94 (.tmp 6) (.tmp 15) rfl rfl (cs := hrC 0 none 0 0) rfl (by kernel_rfl) rfl (hrC_one _ _ _ _) ?_; intro w4 K4; dsimp only [List.nil_append] at K4; clear K3)
      | (have zz := tok4; clear zz tok4; refine wpList_stS [_] K4 rfl 94 (.tmp 4) (.tmp 19) rfl rfl (cs := hrC 0 none 0 0) rfl (by kernel_rfl) rfl (hrC_one _ _ _ _) ?_; intro w5 K5; dsimp only [List.nil_append, List.cons_append] at K5; clear K4))
    refine bodyPost_ret (v := .tuple #[.agg (hrC 0 none 0 0).toArray, .int .i64 7]) (results_ct rfl _ _ g4 94 (hrC 0 none 0 0) _ rfl (K5.blk (g := g4) (e := 94) (cs := hrC 0 none 0 0) (List.Mem.tail _ (List.Mem.head _))) Tryz.underlying94 rfl (by kernel_rfl) rfl) rfl ?_
    exact rloadA_bad HE.out (by decide) rfl K5.toExt
  have HNB := hide (fun (x : World) => rhnew_ok sn (by omega) (by omega) x)
  have HSN := hide hsn
  have HR := hide hr
  have HOK := hide hok
  have HC := hide hc
  have hn2 : (l.length : Int) ≤ 4000 := by omega
  clear hsn hr hok hc
  go_enter Tryz.func40, Tryz.ntmps40
  go_upto_region 1 with (have zz := tok1; clear zz tok1; refine wpList_alS (Sep.refl No w) rfl 94 rfl (hrC 0 none 0 0) (by kernel_rfl) ?_; intro w1 hz1 K1; clear hz1)
  obtain ⟨g4, G4⟩ : ∃ g, w.heap.size = g := ⟨_, rfl⟩
  rw [G4] at K1 ⊢
  clear G4
  go_wp2_with fail
  (with_reducible refine (HNB.out _).mono ?_)
  rintro e w2 ⟨rfl, hx⟩
  have K2 := K1.ext hx
  clear K1 hx HNB
  go_wp2_with (first
    | (have zz := tok2; clear zz tok2; refine wpList_alS K2 rfl 94 rfl (hrC 0 none 0 0) (by kernel_rfl) ?_; intro w3 hz3 K3; clear hz3 K2)
    | (have zz := tok3; clear zz tok3; refine wpList_stS [] K3 rfl 94 (.tmp 6) (.tmp 15) rfl rfl (cs := hrC sn none 0 0) rfl (by kernel_rfl) rfl (hrC_one _ _ _ _) ?_; intro w4 K4; dsimp only [List.nil_append] at K4; clear K3))
  obtain ⟨g6, G6⟩ : ∃ g, w2.heap.size = g := ⟨_, rfl⟩
  rw [G6] at K4 ⊢
  clear G6 tok4
  have HS0 := hide K4
  clear K4
  go_loopw [8] (fun v8 wr => ∃ i : Nat, v8 = .int .i64 i ∧ i ≤ l.length ∧ Hid (∀ x ∈ l.take i, badB sn x.s x.d = false) ∧ Hid (Sep No w wr [As.blk g6 94 (hrC sn none 0 0), As.blk g4 94 (hrC 0 none 0 0)])) (fun v8 _ => l.length - (intOf v8).toNat)
  case atStart => exact ⟨0, rfl, Nat.zero_le _, hide (fun x hx => by cases hx), HS0⟩
  case round =>
    clear HS0
    obtain ⟨i, rfl, hil, HB, HS⟩ := hrel
    by_cases i1 : i < l.length
    · have i2 : (i : Int) < (l.length : Int) := by omega
      obtain ⟨x, hx⟩ := some_of i1
      have HX := hide hx
      go_upto_region 7 with fail
      refine wp_region_wm [0, 1, 2, 3, 4, 5, 6, 7, 8, 9, 10, 11, 12] (by kernel_rfl) (by kernel_rfl) (by kernel_rfl) (by kernel_rfl) ?_
      have KD := HS.out.drew
      clear HS
      generalize World.drew _ = wd at *
      obtain ⟨g, off, hA, hat⟩ := ho_at (HR.out.ext KD.toExt) hx
      subst hA
      have x0 := hat 0 _ rfl
      have x1 := hat 1 _ rfl
      have xz := cell_lt x0
      clear hat hx
      refine wm_ldS KD (List.Mem.head _) rfl rfl 94 (.tmp 6) rfl rfl _ Tryz.underlying94 rfl (by kernel_rfl) ?_
      iterate 4 (refine wm_rd rfl rfl (fun K hK => ?_); go_simp; refine hK _ ?_; clear hK K)
      refine wm_ld1 rfl rfl 3 (.tmp 31) rfl rfl x0 _ Tryz.underlying3 rfl ?_
      iterate 4 (refine wm_rd rfl rfl (fun K hK => ?_); go_simp; refine hK _ ?_; clear hK K)
      refine wm_ld1 rfl rfl 2 (.tmp 36) rfl rfl x1 _ Tryz.underlying2 rfl ?_
      clear x0 x1 xz
      refine wm_ext rfl rfl (fun K hK => ?_)
      go_simp
      go_at_call 74
      (with_reducible refine (asked_any sn none 0 0 x.s x.d _).mono ?_)
      rintro e w6 ⟨rfl, hx6⟩
      refine hK _ _ hx6 ?_
      clear hK K
      have HS6 := hide (KD.ext hx6)
      clear KD hx6
      obtain ⟨ae, HAE⟩ : ∃ a, Hid (askE sn x.s x.d = a) := ⟨_, hide rfl⟩
      rw [HAE.out]
      iterate 1 (refine wm_rd rfl rfl (fun K hK => ?_); go_simp; refine hK _ ?_; clear hK K)
      refine wm_nil ?_
      obtain ⟨bb, HBB⟩ : ∃ b, Hid (badB sn x.s x.d = b) := ⟨_, hide rfl⟩
      have hae := HAE.out
      unfold askE at hae
      rw [HBB.out] at hae
      cases bb
      rotate_left
      · have HE : Hid (ldE sn l = 7) := hide (by
          unfold ldE
          rw [if_neg HSN.out, if_pos (show anyBad sn l = true from List.any_eq_true.2 ⟨x, List.mem_of_getElem? HX.out, HBB.out⟩)])
        rw [if_pos rfl] at hae
        subst hae
        have tok4 : True := trivial
        have K6 := HS6.out
        clear HS6
        go_wp2_with (have zz := tok4; clear zz tok4; refine wpList_stS [_] K6 rfl 94 (.tmp 4) (.tmp 41) rfl rfl (cs := hrC 0 none 0 0) rfl (by kernel_rfl) rfl (hrC_one _ _ _ _) ?_; intro w7 K7; dsimp only [List.nil_append, List.cons_append] at K7; clear K6)
        refine bodyPost_ret (v := .tuple #[.agg (hrC 0 none 0 0).toArray, .int .i64 7]) (results_ct rfl _ _ g4 94 (hrC 0 none 0 0) _ rfl (K7.blk (g := g4) (e := 94) (cs := hrC 0 none 0 0) (List.Mem.tail _ (List.Mem.head _))) Tryz.underlying94 rfl (by kernel_rfl) rfl) rfl ?_
        exact rloadA_bad HE.out (by decide) rfl K7.toExt
      rw [if_neg (by decide)] at hae
      subst hae
      have HB2 : Hid (∀ x ∈ l.take (i + 1), badB sn x.s x.d = false) := hide (fun y hy => by
        have e : l.take (i + 1) = l.take i ++ [x] := by rw [List.take_add_one, HX.out]; rfl
        rw [e] at hy
        rcases List.mem_append.1 hy with h | h
        · exact HB.out y h
        · rw [List.mem_singleton] at h
          subst h
          exact HBB.out)
      go_wp2_with fail
      go_roundw
      case rel => exact ⟨i + 1, by go_num, by omega, HB2, HS6⟩
      case measure => simp [intOf]; omega
    · have i2 : ¬ (i : Int) < (l.length : Int) := by omega
      have hto : l.take i = l := List.take_of_length_le (by omega)
      rw [hto] at HB
      have hnb : ¬ anyBad sn l = true := fun h => by
        obtain ⟨x, hx, hb⟩ := List.any_eq_true.1 h
        rw [HB.out x hx] at hb
        cases hb
      have HNB := hide hnb
      clear hto hnb
      go_wp2_with fail
      clear i1 i2
      go_loopw [9] (fun v9 wr => ∃ i : Nat, v9 = .int .i64 i ∧ i ≤ l.length ∧ Hid ((l.take i).map Ho.s).Nodup ∧ Hid (Sep No w wr [As.blk g6 94 (hrC sn none 0 0), As.blk g4 94 (hrC 0 none 0 0)])) (fun v9 _ => l.length - (intOf v9).toNat)
      case atStart => exact ⟨0, rfl, Nat.zero_le _, hide List.nodup_nil, HS⟩
      case round =>
        clear HS hil
        obtain ⟨i, rfl, hil, HD, HS⟩ := hrel
        by_cases i1 : i < l.length
        · have i2 : (i : Int) < (l.length : Int) := by omega
          obtain ⟨x, hx⟩ := some_of i1
          have HX := hide hx
          clear hx
          go_wp2_with fail
          go_loopw [10] (fun v10 wr => ∃ k : Nat, v10 = .int .i64 k ∧ k ≤ i ∧ Hid (∀ (j : Nat) (y : Ho), j < k → l[j]? = some y → y.s ≠ x.s) ∧ Hid (Sep No w wr [As.blk g6 94 (hrC sn none 0 0), As.blk g4 94 (hrC 0 none 0 0)])) (fun v10 _ => i - (intOf v10).toNat)
          case atStart => exact ⟨0, rfl, Nat.zero_le _, hide (fun j y hj => by omega), HS⟩
          case round =>
            clear HS
            obtain ⟨k, rfl, hki, HK, HS⟩ := hrel
            by_cases k1 : k < i
            · have k2 : (k : Int) < (i : Int) := by omega
              have k3 : (k : Int) < (l.length : Int) := by omega
              obtain ⟨y, hy⟩ := some_of (l := l) (i := k) (by omega)
              have HY := hide hy
              go_upto_region 16 with fail
              refine wp_region_wm [0, 1, 2, 3, 4, 5, 6, 7, 8, 9, 10] (by kernel_rfl) (by kernel_rfl) (by kernel_rfl) (by kernel_rfl) ?_
              have KD := HS.out.drew
              clear HS
              generalize World.drew _ = wd at *
              obtain ⟨g, off, hA, hax⟩ := ho_at (HR.out.ext KD.toExt) HX.out
              subst hA
              obtain ⟨g', off', hA, hay⟩ := ho_at (HR.out.ext KD.toExt) hy
              simp only [Option.some.injEq, Addr.mk.injEq, and_true] at hA
              obtain ⟨rfl, rfl⟩ := hA
              have x0 := hax 0 _ rfl
              have y0 := hay 0 _ rfl
              have xz := cell_lt x0
              clear hax hay hy
              iterate 4 (refine wm_rd rfl rfl (fun K hK => ?_); go_simp; refine hK _ ?_; clear hK K)
              refine wm_ld1 rfl rfl 3 (.tmp 57) rfl rfl y0 _ Tryz.underlying3 rfl ?_
              iterate 4 (refine wm_rd rfl rfl (fun K hK => ?_); go_simp; refine hK _ ?_; clear hK K)
              refine wm_ld1 rfl rfl 3 (.tmp 62) rfl rfl x0 _ Tryz.underlying3 rfl ?_
              clear x0 y0 xz
              iterate 1 (refine wm_rd rfl rfl (fun K hK => ?_); go_simp; refine hK _ ?_; clear hK K)
              refine wm_nil ?_
              by_cases hxy : y.s = x.s
              · have hb : (y.s == x.s) = true := beq_iff_eq.2 hxy
                have HE : Hid (ldE sn l = 8) := hide (by
                  unfold ldE
                  rw [if_neg HSN.out, if_neg HNB.out, if_pos (fun hnd => by
                    have h1 : (l.map Ho.s)[k]? = some x.s := by rw [List.getElem?_map, HY.out, Option.map_some, hxy]
                    have h2 : (l.map Ho.s)[i]? = some x.s := by rw [List.getElem?_map, HX.out]; rfl
                    have := nodup_idx hnd h1 h2
                    omega)])
                clear hxy
                have tok4 : True := trivial
                go_wp2_with (have zz := tok4; clear zz tok4; refine wpList_stS [_] KD rfl 94 (.tmp 4) (.tmp 65) rfl rfl (cs := hrC 0 none 0 0) rfl (by kernel_rfl) rfl (hrC_one _ _ _ _) ?_; intro w7 K7; dsimp only [List.nil_append, List.cons_append] at K7; clear KD)
                refine bodyPost_ret (v := .tuple #[.agg (hrC 0 none 0 0).toArray, .int .i64 8]) (results_ct rfl _ _ g4 94 (hrC 0 none 0 0) _ rfl (K7.blk (g := g4) (e := 94) (cs := hrC 0 none 0 0) (List.Mem.tail _ (List.Mem.head _))) Tryz.underlying94 rfl (by kernel_rfl) rfl) rfl ?_
                exact rloadA_bad HE.out (by decide) rfl K7.toExt
              · have hb : (y.s == x.s) = false := beq_eq_false_iff_ne.2 hxy
                have HK2 : Hid (∀ (j : Nat) (y : Ho), j < k + 1 → l[j]? = some y → y.s ≠ x.s) := hide (fun j z hj hz => by
                  by_cases e : j = k
                  · subst e
                    rw [HY.out] at hz
                    cases hz
                    exact hxy
                  · exact HK.out j z (by omega) hz)
                have HS2 := hide KD
                clear hxy KD
                go_wp2_with fail
                go_roundw
                case rel => exact ⟨k + 1, by go_num, by omega, HK2, HS2⟩
                case measure => simp [intOf]; omega
            · have k2 : ¬ (k : Int) < (i : Int) := by omega
              have HD2 : Hid ((l.take (i + 1)).map Ho.s).Nodup := hide (by
                have e : l.take (i + 1) = l.take i ++ [x] := by rw [List.take_add_one, HX.out]; rfl
                rw [e, List.map_append, List.nodup_append]
                refine ⟨HD.out, by simp, fun a ha b hb => ?_⟩
                simp only [List.map_cons, List.map_nil, List.mem_singleton] at hb
                subst hb
                obtain ⟨y, hy, rfl⟩ := List.mem_map.1 ha
                obtain ⟨j, hj, rfl⟩ := List.getElem_of_mem hy
                rw [List.length_take] at hj
                exact HK.out j _ (by omega) (by rw [List.getElem_take, List.getElem?_eq_getElem]))
              go_wp2_with fail
              go_roundw
              case rel => exact ⟨i + 1, by go_num, by omega, HD2, HS⟩
              case measure => simp [intOf]; omega
        · have i2 : ¬ (i : Int) < (l.length : Int) := by omega
          have hto : l.take i = l := List.take_of_length_le (by omega)
          rw [hto] at HD
          clear hto
          have HS1 := HS
          clear HS
          go_wp2_with fail
          clear i1 i2 hil
          go_loopw [11] (fun v11 wr => ∃ i : Nat, v11 = .int .i64 i ∧ 1 ≤ i ∧ i ≤ l.length + 1 ∧ Hid (∀ (j : Nat) (x y : Ho), j + 1 < i → l[j]? = some x → l[j + 1]? = some y → x.s ≤ y.s) ∧ Hid (Sep No w wr [As.blk g6 94 (hrC sn none 0 0), As.blk g4 94 (hrC 0 none 0 0)])) (fun v11 _ => l.length + 1 - (intOf v11).toNat)
          case atStart => exact ⟨1, rfl, Nat.le_refl _, by omega, hide (fun j x y hj => by omega), HS1⟩
          case round =>
            clear HS1
            obtain ⟨i, rfl, hi1, hil, HT, HS⟩ := hrel
            by_cases i1 : i < l.length
            · have i2 : (i : Int) < (l.length : Int) := by omega
              obtain ⟨p, rfl⟩ : ∃ p, i = p + 1 := ⟨i - 1, by omega⟩
              have hp1 : ((p + 1 : Nat) : Int) = (p : Int) + 1 := by omega
              have hpw : IntKind.i64.wrap (p : Int) = (p : Int) := IntWalk.i64_in _ (by omega)
              have hp2 : ((p : Int) + 1).toNat = p + 1 := by omega
              have hp0 : (0 : Int) ≤ (p : Int) + 1 := by omega
              rw [hp1] at i2
              have hpl : (p : Int) < (l.length : Int) := by omega
              obtain ⟨x, hx⟩ := some_of (l := l) (i := p + 1) i1
              obtain ⟨y, hy⟩ := some_of (l := l) (i := p) (by omega)
              have HX := hide hx
              have HY := hide hy
              rw [hp1]
              go_upto_region 21 with fail
              refine wp_region_wm [0, 1, 2, 3, 4, 5, 6, 7, 8, 9, 10, 11] (by kernel_rfl) (by kernel_rfl) (by kernel_rfl) (by kernel_rfl) ?_
              have KD := HS.out.drew
              clear HS
              generalize World.drew _ = wd at *
              obtain ⟨g, off, hA, hax⟩ := ho_at (HR.out.ext KD.toExt) hx
              subst hA
              obtain ⟨g', off', hA, hay⟩ := ho_at (HR.out.ext KD.toExt) hy
              simp only [Option.some.injEq, Addr.mk.injEq, and_true] at hA
              obtain ⟨rfl, rfl⟩ := hA
              have x0 := hax 0 _ rfl
              have y0 := hay 0 _ rfl
              have xz := cell_lt x0
              clear hax hay hy hx hp1
              iterate 4 (refine wm_rd rfl rfl (fun K hK => ?_); go_simp; refine hK _ ?_; clear hK K)
              refine wm_ld1 rfl rfl 3 (.tmp 75) rfl rfl x0 _ Tryz.underlying3 rfl ?_
              iterate 5 (refine wm_rd rfl rfl (fun K hK => ?_); go_simp; refine hK _ ?_; clear hK K)
              refine wm_ld1 rfl rfl 3 (.tmp 81) rfl rfl y0 _ Tryz.underlying3 rfl ?_
              clear x0 y0 xz
              iterate 1 (refine wm_rd rfl rfl (fun K hK => ?_); go_simp; refine hK _ ?_; clear hK K)
              refine wm_nil ?_
              clear hpw
              by_cases hxy : x.s < y.s
              · have HE : Hid (ldE sn l = 6) := hide (by
                  unfold ldE
                  rw [if_neg HSN.out, if_neg HNB.out, if_neg (fun h => h HD.out), if_pos (fun hs => by have := hs p y x HY.out HX.out; omega)])
                have tok4 : True := trivial
                go_wp2_with (have zz := tok4; clear zz tok4; refine wpList_stS [_] KD rfl 94 (.tmp 4) (.tmp 84) rfl rfl (cs := hrC 0 none 0 0) rfl (by kernel_rfl) rfl (hrC_one _ _ _ _) ?_; intro w7 K7; dsimp only [List.nil_append, List.cons_append] at K7; clear KD)
                refine bodyPost_ret (v := .tuple #[.agg (hrC 0 none 0 0).toArray, .int .i64 6]) (results_ct rfl _ _ g4 94 (hrC 0 none 0 0) _ rfl (K7.blk (g := g4) (e := 94) (cs := hrC 0 none 0 0) (List.Mem.tail _ (List.Mem.head _))) Tryz.underlying94 rfl (by kernel_rfl) rfl) rfl ?_
                exact rloadA_bad HE.out (by decide) rfl K7.toExt
              · have HT2 : Hid (∀ (j : Nat) (x y : Ho), j + 1 < p + 1 + 1 → l[j]? = some x → l[j + 1]? = some y → x.s ≤ y.s) := hide (fun j x' y' hj hx' hy' => by
                  by_cases e : j = p
                  · subst e
                    rw [HY.out] at hx'
                    rw [HX.out] at hy'
                    cases hx'; cases hy'
                    omega
                  · exact HT.out j x' y' (by omega) hx' hy')
                have HS2 := hide KD
                clear KD
                go_wp2_with fail
                go_roundw
                case rel => exact ⟨p + 1 + 1, by go_num, by omega, by omega, HT2, HS2⟩
                case measure => simp [intOf]; omega
            · have i2 : ¬ (i : Int) < (l.length : Int) := by omega
              have HE : Hid (ldE sn l = 0) := hide (by
                unfold ldE
                rw [if_neg HSN.out, if_neg HNB.out, if_neg (fun h => h HD.out), if_neg (fun h => h (fun j x y hx hy => HT.out j x y (by have := lt_of_some hy; omega) hx hy))])
              have K1 := HS.out.newB ((Ext.refl wr).alloc (.cells #[] 39)) (Blk.new wr 39 []) (Nat.le_refl _)
              have K2 := sep_nilM (k := 2) K1
              have HRR := hide (HR.out.ext K2.toExt)
              have h6 := (K2.blk (g := g6) (e := 94) (List.Mem.tail _ (List.Mem.head _))).lt
              have HLN : Hid (([] : List (List Value)).length + (hoV l).length ≤ 100000) := hide (by rw [hoV_len]; simp; omega)
              clear HS K1 HT
              have tok4 : True := trivial
              have tok5 : True := trivial
              have tok6 : True := trivial
              have tok7 : True := trivial
              go_upto_region 23 with fail
              go_wp2_with (first
                | (have zz := tok4; clear zz tok4; refine wpList_apsM [] K2 rfl (.tmp 85) (.tmp 86) 28 rfl i0 _ 16 Tryz.underlying28 ki kz0 kz1 kz2 rfl (by decide) rfl (A := A) (m := l.length) (c := c) (news := hoV l) rfl (by rw [hoV_len]) HRR.out (hoV_two l) (hoV_one l) HLN.out (by decide) ?_; intro v5 w5 K5; dsimp only [List.nil_append] at K5; clear K2)
                | (have zz := tok5; clear zz tok5; refine wpList_st1S [_] K5 rfl 28 (.tmp 88) (.tmp 87) rfl (i := 1) rfl rfl (by kernel_rfl) (show _ < 2 by decide) (by obtain ⟨A', c', hv, -⟩ := (K5.ownsM (e := 39) (k := 2) (v := v5) (rows := hoV l) (List.Mem.head _)).form; rw [hv]; rfl) ?_; intro w6 K6; dsimp only [List.nil_append, List.cons_append, List.set] at K6; clear K5)
                | (have zz := tok6; clear zz tok6; refine wpList_ldS K6 (List.Mem.tail _ (List.Mem.head _)) rfl 94 (.tmp 6) rfl rfl _ Tryz.underlying94 rfl (by kernel_rfl) ?_)
                | (have zz := tok7; clear zz tok7; refine wpList_stS [_, _] K6 rfl 94 (.tmp 4) (.tmp 89) rfl rfl (cs := [.int .i64 sn, v5]) rfl (by kernel_rfl) rfl (by obtain ⟨A', c', hv, -⟩ := (K6.ownsM (e := 39) (k := 2) (v := v5) (rows := hoV l) (List.Mem.head _)).form; rw [hv]; exact hrC_one _ _ _ _) ?_; intro w7 K7; dsimp only [List.nil_append, List.cons_append] at K7; clear K6))
              obtain ⟨A', c', hv, hrr, hcc, -⟩ := (K7.ownsM (e := 39) (k := 2) (v := v5) (rows := hoV l) (List.Mem.head _)).form
              subst hv
              rw [hoV_len] at hcc K7
              refine bodyPost_ret (v := .tuple #[.agg (hrC sn A' l.length c').toArray, .int .i64 0]) (results_ct rfl _ _ g4 94 (hrC sn A' l.length c') _ rfl (K7.blk (g := g4) (e := 94) (cs := hrC sn A' l.length c') (List.Mem.tail _ (List.Mem.tail _ (List.Mem.head _)))) Tryz.underlying94 rfl (by kernel_rfl) rfl) rfl ?_
              exact .inl ⟨HE.out, A', c', hcc, rfl, hrr, K7.toExt⟩

end Go.Proofs.YtdmaephmkfmehaaGreatDoor
namespace Go.Proofs.YtdmaephmkfmehaaGreatDoor
open Go.RowKit Go.Gr Go.Hp
set_option linter.unusedVariables false
set_option linter.unusedSimpArgs false
attribute [local go_sem] rdOp rdAt rdUpon Cls forall_fr
theorem nhoLt_trans {a b c : Ho} (h : ¬ hoLt b a) (k : ¬ hoLt c b) : ¬ hoLt c a := by unfold hoLt at *; omega

set_option maxRecDepth 100000 in
set_option maxHeartbeats 2000000 in
theorem first_any (l : List Ho) (A : Option Addr) (c : Nat) (w : World) (hr : RdM w A 2 (hoV l)) (hl : 0 < l.length) (hn : l.length ≤ 100000) :
    Calls Tryz.prog 75 #[.slice A l.length c] w fun e w' => ∃ b : Nat, e = .returned (.int .i64 b) ∧ b < l.length ∧ (∀ (k : Nat) (x y : Ho), l[k]? = some x → l[b]? = some y → ¬ hoLt x y) ∧ Ext w w' := by
  have HR := hide hr
  have hn2 : (l.length : Int) ≤ 100000 := by omega
  clear hr
  go_enter Tryz.func75, Tryz.ntmps75
  go_wp2_with fail
  go_loopw [3, 4] (fun v3 v4 wr => ∃ b i : Nat, v3 = .int .i64 b ∧ v4 = .int .i64 i ∧ b < i ∧ i ≤ l.length ∧ Hid (∀ (k : Nat) (x y : Ho), k < i → l[k]? = some x → l[b]? = some y → ¬ hoLt x y) ∧ Hid (Ext w wr)) (fun _ v4 _ => l.length - (intOf v4).toNat)
  case atStart => exact ⟨0, 1, rfl, rfl, by omega, by omega, hide (fun k x y hk hx hy => by
    obtain rfl : k = 0 := by omega
    rw [hx] at hy
    cases hy
    exact hoLt_irrefl _), hide (Ext.refl w)⟩
  case round =>
    obtain ⟨b, i, rfl, rfl, hbi, hil, HM, HE⟩ := hrel
    by_cases i1 : i < l.length
    · have i2 : (i : Int) < (l.length : Int) := by omega
      have b2 : (b : Int) < (l.length : Int) := by omega
      obtain ⟨x, hx⟩ := some_of i1
      obtain ⟨y, hy⟩ := some_of (l := l) (i := b) (by omega)
      have HX := hide hx
      have HY := hide hy
      go_upto_region 5 with fail
      refine wp_region_wm [0, 1, 2, 3, 4, 5, 6, 7, 8, 9, 10, 11, 12, 13, 14, 15, 16, 17, 18, 19, 20, 21, 22, 23, 24, 25, 26, 27, 28, 29, 30, 31, 32, 33, 34, 35, 36] (by kernel_rfl) (by kernel_rfl) (by kernel_rfl) (by kernel_rfl) ?_
      have h0 : Ext w wr.drew := HE.out.drew
      clear HE
      generalize wr.drew = wd at *
      obtain ⟨g, off, hA, hax⟩ := ho_at (HR.out.ext h0) hx
      subst hA
      obtain ⟨g', off', hA, hay⟩ := ho_at (HR.out.ext h0) hy
      simp only [Option.some.injEq, Addr.mk.injEq, and_true] at hA
      obtain ⟨rfl, rfl⟩ := hA
      have x0 := hax 0 _ rfl
      have x1 := hax 1 _ rfl
      have y0 := hay 0 _ rfl
      have y1 := hay 1 _ rfl
      have xz := cell_lt x0
      clear hax hay hx hy
      iterate 4 (refine wm_rd rfl rfl (fun K hK => ?_); go_simp; refine hK _ ?_; clear hK K)
      refine wm_ld1 rfl rfl 2 (.tmp 14) rfl rfl x1 _ Tryz.underlying2 rfl ?_
      iterate 4 (refine wm_rd rfl rfl (fun K hK => ?_); go_simp; refine hK _ ?_; clear hK K)
      refine wm_ld1 rfl rfl 2 (.tmp 19) rfl rfl y1 _ Tryz.underlying2 rfl ?_
      by_cases hd : x.d < y.d
      · have HLT : Hid (hoLt x y) := hide (.inl hd)
        iterate 27 (refine wm_rd rfl rfl (fun K hK => ?_); go_simp; refine hK _ ?_; clear hK K)
        refine wm_nil ?_
        have HM2 : Hid (∀ (k : Nat) (z y' : Ho), k < i + 1 → l[k]? = some z → l[i]? = some y' → ¬ hoLt z y') := hide (fun k z y' hk hz hy' => by
          rw [HX.out] at hy'
          cases hy'
          by_cases e : k = i
          · subst e
            rw [HX.out] at hz
            cases hz
            exact hoLt_irrefl _
          · have h1 := HM.out k z y (by omega) hz HY.out
            exact nhoLt_trans (fun h => hoLt_asymm HLT.out h) h1)
        have HX2 := hide h0
        clear h0 x0 x1 y0 y1 xz
        go_wp2_with fail
        go_roundw
        case rel => exact ⟨i, i + 1, rfl, by go_num, by omega, by omega, HM2, HX2⟩
        case measure => simp [intOf]; omega
      by_cases he : x.d = y.d
      · have hb : (x.d == y.d) = true := beq_iff_eq.2 he
        by_cases hs : x.s < y.s
        · have HLT : Hid (hoLt x y) := hide (.inr ⟨he, hs⟩)
          have HE2 := hide he
          clear he
          iterate 6 (refine wm_rd rfl rfl (fun K hK => ?_); go_simp; refine hK _ ?_; clear hK K)
          refine wm_ld1 rfl rfl 2 (.tmp 26) rfl rfl x1 _ Tryz.underlying2 rfl ?_
          iterate 4 (refine wm_rd rfl rfl (fun K hK => ?_); go_simp; refine hK _ ?_; clear hK K)
          refine wm_ld1 rfl rfl 2 (.tmp 31) rfl rfl y1 _ Tryz.underlying2 rfl ?_
          iterate 6 (refine wm_rd rfl rfl (fun K hK => ?_); go_simp; refine hK _ ?_; clear hK K)
          refine wm_ld1 rfl rfl 3 (.tmp 38) rfl rfl x0 _ Tryz.underlying3 rfl ?_
          iterate 4 (refine wm_rd rfl rfl (fun K hK => ?_); go_simp; refine hK _ ?_; clear hK K)
          refine wm_ld1 rfl rfl 3 (.tmp 43) rfl rfl y0 _ Tryz.underlying3 rfl ?_
          iterate 3 (refine wm_rd rfl rfl (fun K hK => ?_); go_simp; refine hK _ ?_; clear hK K)
          refine wm_nil ?_
          have HM2 : Hid (∀ (k : Nat) (z y' : Ho), k < i + 1 → l[k]? = some z → l[i]? = some y' → ¬ hoLt z y') := hide (fun k z y' hk hz hy' => by
            rw [HX.out] at hy'
            cases hy'
            by_cases e : k = i
            · subst e
              rw [HX.out] at hz
              cases hz
              exact hoLt_irrefl _
            · have h1 := HM.out k z y (by omega) hz HY.out
              exact nhoLt_trans (fun h => hoLt_asymm HLT.out h) h1)
          have HX2 := hide h0
          clear h0 x0 x1 y0 y1 xz
          go_wp2_with fail
          go_roundw
          case rel => exact ⟨i, i + 1, rfl, by go_num, by omega, by omega, HM2, HX2⟩
          case measure => simp [intOf]; omega
        · have HLT : Hid (¬ hoLt x y) := hide (by unfold hoLt; omega)
          have HE2 := hide he
          clear he
          iterate 6 (refine wm_rd rfl rfl (fun K hK => ?_); go_simp; refine hK _ ?_; clear hK K)
          refine wm_ld1 rfl rfl 2 (.tmp 26) rfl rfl x1 _ Tryz.underlying2 rfl ?_
          iterate 4 (refine wm_rd rfl rfl (fun K hK => ?_); go_simp; refine hK _ ?_; clear hK K)
          refine wm_ld1 rfl rfl 2 (.tmp 31) rfl rfl y1 _ Tryz.underlying2 rfl ?_
          iterate 6 (refine wm_rd rfl rfl (fun K hK => ?_); go_simp; refine hK _ ?_; clear hK K)
          refine wm_ld1 rfl rfl 3 (.tmp 38) rfl rfl x0 _ Tryz.underlying3 rfl ?_
          iterate 4 (refine wm_rd rfl rfl (fun K hK => ?_); go_simp; refine hK _ ?_; clear hK K)
          refine wm_ld1 rfl rfl 3 (.tmp 43) rfl rfl y0 _ Tryz.underlying3 rfl ?_
          iterate 3 (refine wm_rd rfl rfl (fun K hK => ?_); go_simp; refine hK _ ?_; clear hK K)
          refine wm_nil ?_
          have HM2 : Hid (∀ (k : Nat) (z y' : Ho), k < i + 1 → l[k]? = some z → l[b]? = some y' → ¬ hoLt z y') := hide (fun k z y' hk hz hy' => by
            by_cases e : k = i
            · subst e
              rw [HX.out] at hz
              rw [HY.out] at hy'
              cases hz; cases hy'
              exact HLT.out
            · exact HM.out k z y' (by omega) hz hy')
          have HX2 := hide h0
          clear h0 x0 x1 y0 y1 xz
          go_wp2_with fail
          go_roundw
          case rel => exact ⟨b, i + 1, rfl, by go_num, by omega, by omega, HM2, HX2⟩
          case measure => simp [intOf]; omega
      · have hb : (x.d == y.d) = false := beq_eq_false_iff_ne.2 he
        have HLT : Hid (¬ hoLt x y) := hide (by unfold hoLt; omega)
        iterate 6 (refine wm_rd rfl rfl (fun K hK => ?_); go_simp; refine hK _ ?_; clear hK K)
        refine wm_ld1 rfl rfl 2 (.tmp 26) rfl rfl x1 _ Tryz.underlying2 rfl ?_
        iterate 4 (refine wm_rd rfl rfl (fun K hK => ?_); go_simp; refine hK _ ?_; clear hK K)
        refine wm_ld1 rfl rfl 2 (.tmp 31) rfl rfl y1 _ Tryz.underlying2 rfl ?_
        iterate 15 (refine wm_rd rfl rfl (fun K hK => ?_); go_simp; refine hK _ ?_; clear hK K)
        refine wm_nil ?_
        have HM2 : Hid (∀ (k : Nat) (z y' : Ho), k < i + 1 → l[k]? = some z → l[b]? = some y' → ¬ hoLt z y') := hide (fun k z y' hk hz hy' => by
          by_cases e : k = i
          · subst e
            rw [HX.out] at hz
            rw [HY.out] at hy'
            cases hz; cases hy'
            exact HLT.out
          · exact HM.out k z y' (by omega) hz hy')
        have HX2 := hide h0
        clear h0 x0 x1 y0 y1 xz
        go_wp2_with fail
        go_roundw
        case rel => exact ⟨b, i + 1, rfl, by go_num, by omega, by omega, HM2, HX2⟩
        case measure => simp [intOf]; omega
    · have i2 : ¬ (i : Int) < (l.length : Int) := by omega
      have HF : Hid (b < l.length ∧ ∀ (k : Nat) (x y : Ho), l[k]? = some x → l[b]? = some y → ¬ hoLt x y) := hide ⟨by omega, fun k x y hx hy => HM.out k x y (by have := lt_of_some hx; omega) hx hy⟩
      clear HM
      go_wp2_with fail
      go_ret
      exact ⟨b, rfl, HF.out.1, HF.out.2, HE.out⟩

end Go.Proofs.YtdmaephmkfmehaaGreatDoor
namespace Go.Proofs.YtdmaephmkfmehaaGreatDoor
open Go.RowKit Go.Gr Go.Hp
set_option linter.unusedVariables false
set_option linter.unusedSimpArgs false
attribute [local go_sem] rdOp rdAt rdUpon Cls forall_fr

set_option maxRecDepth 100000 in
set_option maxHeartbeats 2000000 in
theorem hsame_any (l : List Ho) (A B : Option Addr) (c d : Nat) (w : World) (hr : RdM w A 2 (hoV l)) (hs : RdM w B 2 (hoV l)) (hn : l.length ≤ 100000) :
    Calls Tryz.prog 36 #[.slice A l.length c, .slice B l.length d] w fun e w' => e = .returned (.bool true) ∧ Ext w w' := by
  have HR := hide hr
  have HS := hide hs
  have hn2 : (l.length : Int) ≤ 100000 := by omega
  clear hr hs
  go_enter Tryz.func36, Tryz.ntmps36
  go_wp2_with fail
  go_loopw [5] (fun v5 wr => ∃ i : Nat, v5 = .int .i64 i ∧ i ≤ l.length ∧ Hid (Ext w wr)) (fun v5 _ => l.length - (intOf v5).toNat)
  case atStart => exact ⟨0, rfl, Nat.zero_le _, hide (Ext.refl w)⟩
  case round =>
    obtain ⟨i, rfl, hil, HE⟩ := hrel
    by_cases i1 : i < l.length
    · have i2 : (i : Int) < (l.length : Int) := by omega
      obtain ⟨x, hx⟩ := some_of i1
      go_upto_region 6 with fail
      refine wp_region_wm [0, 1, 2, 3, 4, 5, 6, 7, 8] (by kernel_rfl) (by kernel_rfl) (by kernel_rfl) (by kernel_rfl) ?_
      have h0 : Ext w wr.drew := HE.out.drew
      clear HE
      generalize wr.drew = wd at *
      obtain ⟨g, off, hA, hax⟩ := ho_at (HR.out.ext h0) hx
      obtain ⟨g', off', hB, hay⟩ := ho_at (HS.out.ext h0) hx
      subst hA hB
      clear hx
      iterate 3 (refine wm_rd rfl rfl (fun K hK => ?_); go_simp; refine hK _ ?_; clear hK K)
      refine wm_ldX rfl rfl 39 (.tmp 19) rfl hax rfl _ Tryz.underlying39 rfl (by kernel_rfl) ?_
      iterate 3 (refine wm_rd rfl rfl (fun K hK => ?_); go_simp; refine hK _ ?_; clear hK K)
      refine wm_ldX rfl rfl 39 (.tmp 23) rfl hay rfl _ Tryz.underlying39 rfl (by kernel_rfl) ?_
      clear hax hay
      iterate 1 (refine wm_rd rfl rfl (fun K hK => ?_); go_simp; refine hK _ ?_; clear hK K)
      refine wm_nil ?_
      have HX2 := hide h0
      clear h0
      go_wp2_with fail
      go_roundw
      case rel => exact ⟨i + 1, by go_num, by omega, HX2⟩
      case measure => simp [intOf]; omega
    · have i2 : ¬ (i : Int) < (l.length : Int) := by omega
      go_wp2_with fail
      go_ret
      exact ⟨rfl, HE.out⟩

end Go.Proofs.YtdmaephmkfmehaaGreatDoor
namespace Go.Gr
open Go.RowKit
set_option linter.unusedSimpArgs false
theorem results_c {P : Program} {fn : Func} {p : Tmp} {ty : TypeId} (h : fn.results = #[.cell p ty]) (tmps : Array Value) (w : World) (g : Nat) (t : TypeId) (cs : List Value) (d : TypeDesc)
    (hp : tmps.getD p undef = .pointer (some ⟨g, 0, none⟩)) (hB : Blk w g t cs) (hu : P.underlying ty = some d) (hd : (match d with | .struct _ | .array _ _ => true | _ => false) = true) (hi : (P.info? ty).map (·.size) = some cs.length) :
    (results fn tmps).run P w = .ok (.agg cs.toArray) w := by
  have r1 := run_loadVar_row (P := P) w g t ty cs.toArray (0, 0) d hB hu hd (by simpa using hi)
  rw [Array.getD_eq_getD_getElem?] at hp
  simp only [results, h]
  simp [Sem.run_bind, Result.andThen, hp, asAddr, r1]
end Go.Gr
namespace Go.Proofs.YtdmaephmkfmehaaGreatDoor
open Go.RowKit Go.Gr Go.Hp
set_option linter.unusedVariables false
set_option linter.unusedSimpArgs false
attribute [local go_sem] rdOp rdAt rdUpon Cls forall_fr
theorem rdM_take {w : World} {A : Option Addr} {k : Nat} {rows : List (List Value)} (h : RdM w A k rows) (n : Nat) : RdM w A k (rows.take n) := fun i r hr => by
  rw [List.getElem?_take] at hr
  split at hr
  · exact h i r hr
  · cases hr
theorem rdM_drop {w : World} {g off k n : Nat} {rows : List (List Value)} (h : RdM w (some ⟨g, off, none⟩) k rows) : RdM w (some ⟨g, off + n * k, none⟩) k (rows.drop n) := fun i r hr => by
  rw [List.getElem?_drop] at hr
  obtain ⟨ad, e, hc⟩ := h _ r hr
  cases e
  refine ⟨_, rfl, fun j u hu => ?_⟩
  have := hc j u hu
  rw [Go.WideShapes.add_plain] at this ⊢
  rw [← this]
  congr 2
  rw [Nat.add_mul]
  omega

set_option maxRecDepth 100000 in
set_option maxHeartbeats 2000000 in
theorem without_any (sn : Int) (l : List Ho) (g off c i : Nat) (w : World) (hr : RdM w (some ⟨g, off, none⟩) 2 (hoV l)) (hc : l.length ≤ c) (hi : i < l.length) (hn : l.length ≤ 50000) :
    Calls Tryz.prog 77 #[.agg #[.int .i64 sn, .slice (some ⟨g, off, none⟩) l.length c], .int .i64 i] w fun e w' => ∃ (A : Option Addr) (c' : Nat), l.length - 1 ≤ c' ∧ e = .returned (.agg (hrC sn A (l.length - 1) c').toArray) ∧ Sep No w w' [As.ownM 39 2 (.slice A (l.length - 1) c') (hoV (l.take i ++ l.drop (i + 1)))] := by
  obtain ⟨i0, ki, kz0, kz1, kz2⟩ := info_parts infoHo
  have K0 := (Sep.refl No w).add 94 (hrC sn (some ⟨g, off, none⟩) l.length c)
  have tok1 : True := trivial
  have i2 : (i : Int) ≤ (c : Int) := by omega
  have i3 : (i : Int) + 1 ≤ (l.length : Int) := by omega
  have hiw : IntKind.i64.wrap ((i : Int) + 1) = (i : Int) + 1 := IntWalk.i64_in _ (by omega)
  have hnn : (0 : Int) ≤ (i : Int) + 1 := by omega
  have HR := hide hr
  have HC := hide hc
  have HI := hide hi
  have HN := hide hn
  clear hr hc hi hn
  go_enter Tryz.func77, Tryz.ntmps77
  go_upto_region 1 with (have zz := tok1; clear zz tok1; refine wpList_alS K0 rfl 94 rfl (hrC 0 none 0 0) (by kernel_rfl) ?_; intro w1 hz1 K1; clear hz1 K0)
  have h2lt : w.heap.size < w1.heap.size := (K1.blk (g := w.heap.size) (e := 94) (cs := hrC sn (some ⟨g, off, none⟩) l.length c) (List.Mem.tail _ (List.Mem.head _))).lt
  obtain ⟨g2, G2⟩ : ∃ g, w.heap.size = g := ⟨_, rfl⟩
  obtain ⟨g4, G4⟩ : ∃ gg, (w.alloc (.cells (hrC sn (some ⟨g, off, none⟩) l.length c).toArray 94)).heap.size = gg := ⟨_, rfl⟩
  rw [G2] at h2lt
  rw [G2, G4] at K1
  try rw [show w.heap.size + 1 = g4 by rw [← G4]; simp]
  try rw [G4]
  rw [G2]
  clear G2 G4
  obtain ⟨SB, hSB⟩ : ∃ SB, w1.heap.size = SB := ⟨_, rfl⟩
  refine wp_region_wtR (RT.fr (fun i => SB ≤ i)) 13 [1, 2, 3, 4, 6, 7, 8, 9, 10, 0, 5, 11, 12] (by kernel_rfl) (by kernel_rfl) (by kernel_rfl) ?_
  have KD := K1.drew
  have hSB' : w1.drew.heap.size = SB := hSB
  rw [hSB] at h2lt
  clear K1 hSB
  generalize w1.drew = wd at *
  obtain ⟨-, c1, cz⟩ := q2 (KD.blk (g := g2) (e := 94) (cs := hrC sn (some ⟨g, off, none⟩) l.length c) (List.Mem.tail _ (List.Mem.head _)))
  have HSB := hide hSB'
  clear hSB'
  iterate 1 (refine wr_rd rfl rfl (fun K hK => ?_); go_simp; refine hK _ ?_; clear hK K)
  refine wr_ld1 rfl rfl 28 (.tmp 6) rfl rfl (fun w' h => Fr.cell h c1 (by show ¬ SB ≤ g2; omega)) _ Tryz.underlying28 rfl ?_
  iterate 3 (refine wr_rd rfl rfl (fun K hK => ?_); go_simp; refine hK _ ?_; clear hK K)
  refine wr_ld1 rfl rfl 28 (.tmp 11) rfl rfl (fun w' h => Fr.cell h c1 (by show ¬ SB ≤ g2; omega)) _ Tryz.underlying28 rfl ?_
  iterate 3 (refine wr_rd rfl rfl (fun K hK => ?_); go_simp; refine hK _ ?_; clear hK K)
  clear c1
  obtain ⟨A2, HA2⟩ : ∃ A2, Hid ((if c = i + 1 then some (⟨g, off, none⟩ : Addr) else some ⟨g, off + (i + 1) * 2, none⟩) = A2) := ⟨_, hide rfl⟩
  rw [HA2.out]
  have HRT : Hid (∀ x, Ext w x → RdM x (some ⟨g, off, none⟩) 2 (hoV (l.take i))) := hide (fun x hx => by
    have := rdM_take (HR.out.ext hx) i
    unfold hoV at this ⊢
    rwa [← List.map_take] at this)
  have HRD : Hid (∀ x, Ext w x → RdM x A2 2 (hoV (l.drop (i + 1)))) := hide (fun x hx => by
    by_cases e : c = i + 1
    · have : l.drop (i + 1) = [] := List.drop_eq_nil_of_le (by have := HC.out; omega)
      rw [this]
      exact fun j r hr => by simp [hoV] at hr
    · have h1 := rdM_drop (n := i + 1) (HR.out.ext hx)
      rw [← HA2.out, if_neg e]
      unfold hoV at h1 ⊢
      rwa [← List.map_drop] at h1)
  refine wr_ext rfl rfl (fun K hK => ?_)
  go_simp
  refine hK _ _ ((Fr.of_ext ((Ext.refl wd).alloc _)).mono (fun i h => h.elim)) ?_
  clear hK K
  have H4 := sep_nilM (k := 2) (KD.newB ((Ext.refl wd).alloc (.cells #[] 39)) (Blk.new wd 39 []) (Nat.le_refl _))
  have hs4 : SB ≤ (wd.alloc (.cells #[] 39)).heap.size := by rw [← HSB.out]; simp
  clear KD
  refine wr_ext rfl rfl (fun K hK => ?_)
  rw [if_pos (show Region.wanted _ _ = true from rfl)]
  refine wp_apsM [] H4 (.tmp 5) (.tmp 9) 28 rfl i0 _ 16 Tryz.underlying28 ki kz0 kz1 kz2 rfl (by decide) rfl (A := some ⟨g, off, none⟩) (m := i) (c := c) (news := hoV (l.take i)) rfl (by rw [hoV_len, List.length_take]; have := HI.out; omega) (HRT.out _ H4.toExt) (hoV_two _) (hoV_one _) (by rw [hoV_len, List.length_take]; have := HN.out; simp; omega) (by decide) ?_
  intro v1 w4 H5 hg5
  dsimp only [List.nil_append] at H5
  have hv5 : ∀ i, v1.ownBlock = some i → SB ≤ i := fun i hi => (hg5.own i hi).elim (fun h => by cases h; exact Nat.le_of_eq HSB.out.symm) (fun h => Nat.le_trans hs4 h)
  refine hK _ _ (hg5.fr.mono (fun i hi => by cases hi; exact Nat.le_of_eq HSB.out.symm)) ?_
  clear hK K hg5 hs4
  refine wr_ext rfl rfl (fun K hK => ?_)
  rw [if_pos (show Region.wanted _ _ = true from rfl)]
  refine wp_apsM [] H5 (.tmp 10) (.tmp 15) 28 rfl i0 _ 16 Tryz.underlying28 ki kz0 kz1 kz2 rfl (by decide) rfl (A := A2) (m := l.length - (i + 1)) (c := c - (i + 1)) (news := hoV (l.drop (i + 1))) rfl (by rw [hoV_len, List.length_drop]) (HRD.out _ H5.toExt) (hoV_two _) (hoV_one _) (by rw [hoV_len, hoV_len, List.length_take, List.length_drop]; have := HN.out; omega) (by decide) ?_
  intro v2 w5 H6 hg6
  dsimp only [List.nil_append] at H6
  refine hK _ _ (hg6.fr.mono hv5) ?_
  clear hK K hg6 hv5 H5 H4
  rw [show hoV (l.take i) ++ hoV (l.drop (i + 1)) = hoV (l.take i ++ l.drop (i + 1)) by simp [hoV]] at H6
  obtain ⟨A', c', hv, hrr, hcc, -⟩ := (H6.ownsM (e := 39) (k := 2) (v := v2) (rows := hoV (l.take i ++ l.drop (i + 1))) (List.Mem.head _)).form
  have hll : (hoV (l.take i ++ l.drop (i + 1))).length = l.length - 1 := by rw [hoV_len, List.length_append, List.length_take, List.length_drop]; have := HI.out; omega
  rw [hll] at hv hcc
  subst hv
  have h6 := (H6.blk (g := g2) (e := 94) (cs := hrC sn (some ⟨g, off, none⟩) l.length c) (List.Mem.tail _ (List.Mem.tail _ (List.Mem.head _)))).lt
  iterate 1 (refine wr_rd rfl rfl (fun K hK => ?_); go_simp; refine hK _ ?_; clear hK K)
  refine wr_nil ?_
  simp only [List.drop_succ_cons, List.drop_zero]
  refine wpList_st1S [_, _] H6 rfl 28 (.tmp 17) (.tmp 16) rfl (i := 1) rfl rfl (by kernel_rfl) (show _ < 2 by decide) rfl ?_
  intro w7 H7
  dsimp only [List.nil_append, List.cons_append, List.set] at H7
  clear H6 h6
  go_wp2_with fail
  refine NoPanic.normal ?_
  have tok5 : True := trivial
  have tok6 : True := trivial
  go_wp2_with (first
    | (have zz := tok5; clear zz tok5; refine wpList_ldS H7 (List.Mem.tail _ (List.Mem.tail _ (List.Mem.head _))) rfl 94 (.tmp 2) rfl rfl _ Tryz.underlying94 rfl (by kernel_rfl) ?_)
    | (have zz := tok6; clear zz tok6; refine wpList_stS [_] H7 rfl 94 (.tmp 4) (.tmp 18) rfl rfl (cs := hrC sn A' (l.length - 1) c') rfl (by kernel_rfl) rfl (hrC_one _ _ _ _) ?_; intro w8 H8; dsimp only [List.nil_append, List.cons_append] at H8; clear H7))
  refine bodyPost_ret (v := .agg (hrC sn A' (l.length - 1) c').toArray) (results_c rfl _ _ g4 94 (hrC sn A' (l.length - 1) c') _ rfl (H8.blk (g := g4) (e := 94) (cs := hrC sn A' (l.length - 1) c') (List.Mem.tail _ (List.Mem.head _))) Tryz.underlying94 rfl (by kernel_rfl)) rfl ?_
  exact ⟨_, _, hcc, rfl, H8.sub (List.cons_sublist_cons.2 (List.nil_sublist _))⟩

end Go.Proofs.YtdmaephmkfmehaaGreatDoor
namespace Go.Gr
open Go.RowKit
set_option linter.unusedSimpArgs false
theorem results_ctt {P : Program} {fn : Func} {p s u : Tmp} {ty : TypeId} (h : fn.results = #[.cell p ty, .tmp s, .tmp u]) (tmps : Array Value) (w : World) (g : Nat) (t : TypeId) (cs : List Value) (d : TypeDesc)
    (hp : tmps.getD p undef = .pointer (some ⟨g, 0, none⟩)) (hB : Blk w g t cs) (hu : P.underlying ty = some d) (hd : (match d with | .struct _ | .array _ _ => true | _ => false) = true) (hi : (P.info? ty).map (·.size) = some cs.length) {x y : Value} (hx : tmps.getD s undef = x) (hy : tmps.getD u undef = y) :
    (results fn tmps).run P w = .ok (.tuple #[.agg cs.toArray, x, y]) w := by
  subst hx hy
  have r1 := run_loadVar_row (P := P) w g t ty cs.toArray (0, 0) d hB hu hd (by simpa using hi)
  rw [Array.getD_eq_getD_getElem?] at hp
  simp only [results, h]
  simp [Sem.run_bind, Result.andThen, hp, asAddr, r1]
end Go.Gr
namespace Go.Proofs.YtdmaephmkfmehaaGreatDoor
open Go.RowKit Go.Gr Go.Hp
set_option linter.unusedVariables false
set_option linter.unusedSimpArgs false
attribute [local go_sem] rdOp rdAt rdUpon Cls forall_fr
theorem dueI_take {now : Int} {l out rest : List Ho} {i : Nat} {r : Ho} (h : DueI now l out rest) (hr : rest[i]? = some r) (hd : r.d ≤ now) (hmin : ∀ (k : Nat) (x y : Ho), rest[k]? = some x → rest[i]? = some y → ¬ hoLt x y) (hnd : (rest.map Ho.s).Nodup) : DueI now l (out ++ [r]) (rest.take i ++ rest.drop (i + 1)) := by
  have hil := lt_of_some hr
  have e : rest = rest.take i ++ r :: rest.drop (i + 1) := by
    rw [List.getElem?_eq_getElem hil, Option.some.injEq] at hr
    rw [← hr, List.getElem_cons_drop, List.take_append_drop]
  refine dueI_step h ?_ hd (fun y hy => ?_)
  · conv => rhs; rw [e]
    rw [List.append_assoc]
    exact List.Perm.append_left _ (List.perm_append_comm)
  · have hne : ∃ k, k ≠ i ∧ rest[k]? = some y := by
      rcases List.mem_append.1 hy with h' | h'
      · obtain ⟨k, hk, rfl⟩ := List.getElem_of_mem h'
        rw [List.length_take] at hk
        exact ⟨k, by omega, by rw [List.getElem_take, List.getElem?_eq_getElem]⟩
      · obtain ⟨k, hk, rfl⟩ := List.getElem_of_mem h'
        rw [List.length_drop] at hk
        exact ⟨i + 1 + k, by omega, by rw [List.getElem_drop, List.getElem?_eq_getElem]⟩
    obtain ⟨k, hki, hk⟩ := hne
    have h1 := hmin k y r hk hr
    have h2 : y.s ≠ r.s := fun es => hki (nodup_idx hnd (by rw [List.getElem?_map, hk]; rfl) (by rw [List.getElem?_map, hr, Option.map_some, es]))
    unfold hoLt at *
    omega
theorem dueI_nodup {now : Int} {l out rest : List Ho} (h : DueI now l out rest) (hnd : (l.map Ho.s).Nodup) : (rest.map Ho.s).Nodup := by
  have h1 := (h.p.map Ho.s).nodup_iff.2 hnd
  rw [List.map_append] at h1
  exact (List.nodup_append.1 h1).2.1

/-- what the reference's Due answers -/
def RDueR (w : World) (sn now : Int) (l : List Ho) (e : Ending) (w' : World) : Prop := ∃ (A' : Option Addr) (n' c' : Nat) (vo : Value) (out : List Ho), e = .returned (.tuple #[.agg (hrC sn A' n' c').toArray, vo, .int .i64 0]) ∧ IsDue now l out ∧ Sep No w w' [As.ownM 39 2 vo (hoV out)]

set_option maxRecDepth 100000 in
set_option maxHeartbeats 2000000 in
theorem rdue_any (sn now : Int) (l : List Ho) (A : Option Addr) (c : Nat) (w : World) (hr : RdM w A 2 (hoV l)) (hc : l.length ≤ c) (hn : l.length ≤ 4000) (hnow : 0 ≤ now) (hnd : (l.map Ho.s).Nodup) (hdl : ∀ x ∈ l, 0 ≤ x.d) :
    Calls Tryz.prog 41 #[.agg #[.int .i64 sn, .slice A l.length c], .int .i64 now] w (RDueR w sn now l) := by
  obtain ⟨i0, ki, kz0, kz1, kz2⟩ := info_parts infoHo
  have K0 := (Sep.refl No w).add 94 (hrC sn A l.length c)
  have tok1 : True := trivial
  have h1 : ¬ now < 0 := by omega
  have hn2 : (l.length : Int) ≤ 4000 := by omega
  have HR := hide hr
  have HC := hide hc
  have HND := hide hnd
  have HDL := hide hdl
  clear hr hc hnd hdl
  go_enter Tryz.func41, Tryz.ntmps41
  go_upto_region 1 with (have zz := tok1; clear zz tok1; refine wpList_alS K0 rfl 94 rfl (hrC 0 none 0 0) (by kernel_rfl) ?_; intro w1 hz1 K1; clear hz1 K0)
  obtain ⟨g2, G2⟩ : ∃ g, w.heap.size = g := ⟨_, rfl⟩
  obtain ⟨g4, G4⟩ : ∃ g, (w.alloc (.cells (hrC sn A l.length c).toArray 94)).heap.size = g := ⟨_, rfl⟩
  rw [G2, G4] at K1
  try rw [show w.heap.size + 1 = g4 by rw [← G4]; simp]
  try rw [G4]
  rw [G2]
  clear G2 G4
  have K2 := hide (K1.nilM 39 2)
  clear K1
  go_wp2_with fail
  go_loopw [7] (fun v7 wr => ∃ (X : As) (A' : Option Addr) (c' : Nat) (out rest : List Ho), sLen v7 = out.length ∧ out.length + rest.length = l.length ∧ rest.length ≤ c' ∧ Hid (DueI now l out rest) ∧ Hid (∀ y, Ext w y → X.p y → RdM y A' 2 (hoV rest)) ∧ Hid (Sep No w wr [As.ownM 39 2 v7 (hoV out), As.blk g4 94 (hrC 0 none 0 0), As.blk g2 94 (hrC sn A' rest.length c'), X])) (fun v7 _ => l.length - sLen v7)
  case atStart =>
    have K3 := (K2.out.new (B := As.rd none []) (Ext.refl _) (fun j u hu => by cases hu) (fun i hi => absurd rfl hi.1)).perm ((List.Perm.swap _ _ _).trans (List.Perm.cons _ ((List.Perm.swap _ _ _).trans (List.Perm.cons _ (List.Perm.swap _ _ _)))))
    exact ⟨As.rd none [], A, c, [], l, rfl, by simp, HC.out, hide (dueI_start now l), hide (fun y hy _ => HR.out.ext hy), hide K3⟩
  case round =>
    clear K2
    obtain ⟨X, A', c', out, rest, hsl, hol, hcc, HF, HX, HS⟩ := hrel
    obtain ⟨b0, b1, bz⟩ := q2 (HS.out.blk (g := g2) (e := 94) (cs := hrC sn A' rest.length c') (List.Mem.tail _ (List.Mem.tail _ (List.Mem.head _))))
    rcases Nat.eq_zero_or_pos rest.length with h0 | h0
    · have HD : Hid (IsDue now l out) := hide (dueI_end HF.out (fun x hx => by rw [List.length_eq_zero_iff.1 h0] at hx; cases hx))
      have KE := HS.out
      rw [h0] at KE b1
      clear HS
      have tok3 : True := trivial
      have tok4 : True := trivial
      go_wp2_with (first
        | (have zz := tok3; clear zz tok3; refine wpList_ldS KE (List.Mem.tail _ (List.Mem.tail _ (List.Mem.head _))) rfl 94 (.tmp 2) rfl rfl _ Tryz.underlying94 rfl (by kernel_rfl) ?_)
        | (have zz := tok4; clear zz tok4; refine wpList_stS [_] KE rfl 94 (.tmp 4) (.tmp 45) rfl rfl (cs := hrC sn A' 0 c') rfl (by kernel_rfl) rfl (hrC_one _ _ _ _) ?_; intro w8 H8; dsimp only [List.nil_append, List.cons_append] at H8; clear KE))
      refine bodyPost_ret (v := .tuple #[.agg (hrC sn A' 0 c').toArray, _, .int .i64 0]) (results_ctt rfl _ _ g4 94 (hrC sn A' 0 c') _ rfl (H8.blk (g := g4) (e := 94) (cs := hrC sn A' 0 c') (List.Mem.tail _ (List.Mem.head _))) Tryz.underlying94 rfl (by kernel_rfl) rfl rfl) rfl ?_
      exact ⟨_, _, _, _, out, rfl, HD.out, H8.sub (List.cons_sublist_cons.2 (List.nil_sublist _))⟩
    · have hgt : (0 : Int) < (rest.length : Int) := by omega
      have HRM := hide (HX.out _ HS.out.toExt (HS.out.get (A := X) (List.Mem.tail _ (List.Mem.tail _ (List.Mem.tail _ (List.Mem.head _))))))
      have HFI := hide (first_any rest A' c' wr HRM.out h0 (by omega))
      go_wp2_with fail
      (with_reducible refine HFI.out.mono ?_)
      rintro e w2 ⟨b, rfl, hb, hmin, hx⟩
      obtain ⟨r, hr⟩ := some_of hb
      have HRM2 := hide (HRM.out.ext hx)
      have HS1 := hide (HS.out.ext hx)
      clear HRM HFI HS hx b0 b1 bz
      obtain ⟨g, off, hA, hat⟩ := ho_at HRM2.out hr
      subst hA
      have hb2 : (b : Int) < (rest.length : Int) := by omega
      obtain ⟨b0, b1, bz⟩ := q2 (HS1.out.blk (g := g2) (e := 94) (cs := hrC sn (some ⟨g, off, none⟩) rest.length c') (List.Mem.tail _ (List.Mem.tail _ (List.Mem.head _))))
      have x1 := hat 1 _ rfl
      have xz := cell_lt x1
      have hrl : r ∈ l := HF.out.p.mem_iff.1 (List.mem_append_right _ (List.mem_of_getElem? hr))
      have HPS := hide (rpassed_any r.d now (HDL.out _ hrl) hnow w2)
      have HR1 := hide hr
      have HMN := hide hmin
      clear hrl hr hmin
      go_wp2_with fail
      (with_reducible refine HPS.out.mono ?_)
      rintro e w3 ⟨rfl, rfl⟩
      clear HPS
      by_cases hdn : r.d ≤ now
      rotate_left
      · rw [decide_eq_false hdn]
        have HD : Hid (IsDue now l out) := hide (dueI_end HF.out (fun x hx => by
          obtain ⟨j, hj, rfl⟩ := List.getElem_of_mem hx
          have := HMN.out j _ r (List.getElem?_eq_getElem hj) HR1.out
          unfold hoLt at this
          omega))
        clear hdn
        have tok3 : True := trivial
        have tok4 : True := trivial
        have KE := HS1.out
        clear HS1 b0 b1 bz x1 xz
        go_wp2_with (first
          | (have zz := tok3; clear zz tok3; refine wpList_ldS KE (List.Mem.tail _ (List.Mem.tail _ (List.Mem.head _))) rfl 94 (.tmp 2) rfl rfl _ Tryz.underlying94 rfl (by kernel_rfl) ?_)
          | (have zz := tok4; clear zz tok4; refine wpList_stS [_] KE rfl 94 (.tmp 4) (.tmp 45) rfl rfl (cs := hrC sn (some ⟨g, off, none⟩) rest.length c') rfl (by kernel_rfl) rfl (hrC_one _ _ _ _) ?_; intro w8 H8; dsimp only [List.nil_append, List.cons_append] at H8; clear KE))
        refine bodyPost_ret (v := .tuple #[.agg (hrC sn (some ⟨g, off, none⟩) rest.length c').toArray, _, .int .i64 0]) (results_ctt rfl _ _ g4 94 (hrC sn (some ⟨g, off, none⟩) rest.length c') _ rfl (H8.blk (g := g4) (e := 94) (cs := hrC sn (some ⟨g, off, none⟩) rest.length c') (List.Mem.tail _ (List.Mem.head _))) Tryz.underlying94 rfl (by kernel_rfl) rfl rfl) rfl ?_
        exact ⟨_, _, _, _, out, rfl, HD.out, H8.sub (List.cons_sublist_cons.2 (List.nil_sublist _))⟩
      rw [decide_eq_true hdn]
      have HDN := hide hdn
      clear hdn
      have HMANY : Hid ((hoV out).length < 100000) := hide (by rw [hoV_len]; omega)
      have tok3 : True := trivial
      have tok4 : True := trivial
      have KE := HS1.out
      clear HS1
      go_upto_region 9 with (first
        | (have zz := tok3; clear zz tok3; refine wpList_ldX rfl 39 (.tmp 38) rfl hat rfl _ Tryz.underlying39 rfl (by kernel_rfl) ?_)
        | (have zz := tok4; clear zz tok4; refine wpList_pushM [] KE rfl (.tmp 34) (.tmp 40) 28 rfl i0 _ 16 Tryz.underlying28 ki kz0 kz1 kz2 rfl (by decide) rfl rfl (r := [.int .i64 r.s, .int .i64 r.d]) rfl (ho_one r.s r.d) HMANY.out (by decide) ?_; intro v6' w5 K5; dsimp only [List.nil_append] at K5; clear b0 b1 bz x1 xz hat KE))
      rw [show hoV out ++ [[Value.int .i64 r.s, Value.int .i64 r.d]] = hoV (out ++ [r]) by simp [hoV]] at K5
      have hsl2 : sLen v6' = (out ++ [r]).length := by
        obtain ⟨A9, c9, e', -⟩ := (K5.ownsM (e := 39) (k := 2) (v := v6') (rows := hoV (out ++ [r])) (List.Mem.head _)).form
        rw [e']
        show (hoV (out ++ [r])).length = _
        rw [hoV_len]
      have HWO := hide (without_any sn rest g off c' b w5 (HX.out _ K5.toExt (K5.get (A := X) (List.Mem.tail _ (List.Mem.tail _ (List.Mem.tail _ (List.Mem.head _)))))) hcc hb (by omega))
      have tok5 : True := trivial
      have tok6 : True := trivial
      go_wp2_with (have zz := tok5; clear zz tok5; refine wpList_ldS K5 (List.Mem.tail _ (List.Mem.tail _ (List.Mem.head _))) rfl 94 (.tmp 2) rfl rfl _ Tryz.underlying94 rfl (by kernel_rfl) ?_)
      (with_reducible refine HWO.out.mono ?_)
      rintro e w6 ⟨A9, c9, hc9, rfl, hS9⟩
      have K6 := K5.joinW hS9
      dsimp only [List.nil_append, List.cons_append] at K6
      clear K5 hS9 HWO
      go_wp2_with (have zz := tok6; clear zz tok6; refine wpList_stS [_, _, _] K6 rfl 94 (.tmp 2) (.tmp 44) rfl rfl (cs := hrC sn A9 (rest.length - 1) c9) rfl (by kernel_rfl) rfl (hrC_one _ _ _ _) ?_; intro w7 K7; dsimp only [List.nil_append, List.cons_append] at K7; clear K6)
      have hrl2 : (rest.take b ++ rest.drop (b + 1)).length = rest.length - 1 := by rw [List.length_append, List.length_take, List.length_drop]; omega
      have HF2 : Hid (DueI now l (out ++ [r]) (rest.take b ++ rest.drop (b + 1))) := hide (dueI_take HF.out HR1.out HDN.out HMN.out (dueI_nodup HF.out HND.out))
      have HX2 : Hid (∀ y, Ext w y → (As.ownM 39 2 (.slice A9 (rest.length - 1) c9) (hoV (rest.take b ++ rest.drop (b + 1)))).p y → RdM y A9 2 (hoV (rest.take b ++ rest.drop (b + 1)))) := hide (fun y _ hp => by
        obtain ⟨A0, c0, e', h2, -⟩ := OwnM.form (show OwnM y 39 2 (.slice A9 (rest.length - 1) c9) (hoV (rest.take b ++ rest.drop (b + 1))) from hp)
        simp only [Value.slice.injEq] at e'
        obtain ⟨rfl, -, rfl⟩ := e'
        exact h2)
      rw [← hrl2] at K7 HX2 hc9
      have K8 := hide ((K7.perm ((List.Perm.swap _ _ _).trans (List.Perm.cons _ ((List.Perm.swap _ _ _).trans (List.Perm.cons _ (List.Perm.swap _ _ _)))))).sub (List.cons_sublist_cons.2 (List.cons_sublist_cons.2 (List.cons_sublist_cons.2 (List.cons_sublist_cons.2 (List.nil_sublist _))))))
      clear K7
      try go_frame
      go_roundw
      case rel => exact ⟨_, A9, c9, out ++ [r], rest.take b ++ rest.drop (b + 1), hsl2, by rw [List.length_append, hrl2, List.length_singleton]; omega, hc9, HF2, HX2, K8⟩
      case measure => rw [hsl2, hsl, List.length_append, List.length_singleton]; omega

end Go.Proofs.YtdmaephmkfmehaaGreatDoor
