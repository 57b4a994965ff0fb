/- Tickets: Decode, by the program. -/
import Derived.Test.YtamlngdjbmndlaaDoorGb
import Derived.Test.YtamlngdjbmndlaaDoorGa
namespace Go.Proofs.YtamlngdjbmndlaaDoor
open Go.RowKit Go.Gr
set_option linter.unusedVariables false
set_option linter.unusedSimpArgs false
attribute [local go_sem] rdOp rdAt rdUpon Cls forall_fr
theorem rd_spot {w : World} {A : Option Addr} {l : List Value} (h : Rd w A l) (h0 : 0 < l.length) : ∃ g off, A = some ⟨g, off, none⟩ ∧ Go.Gr.At5 w g off l := by
  obtain ⟨ad, rfl, hc⟩ := h 0 _ (List.getElem?_eq_getElem h0)
  obtain ⟨g, off, sp⟩ := ad
  have hs : sp = none := by
    unfold Addr.add at hc
    rw [if_pos rfl] at hc
    unfold World.cell? at hc
    split at hc
    · split at hc
      · cases hc
      · rename_i h1; simpa using h1
    · cases hc
  subst hs
  refine ⟨g, off, rfl, fun j v hv => ?_⟩
  obtain ⟨ad, e, h2⟩ := h j v hv
  cases e
  rwa [Addr.add_mid] at h2
theorem neq24 (l t : List Int) (h : l.length = 24) (h2 : t.length = 24) (w : World) : (binOp .neq 59 (.agg (byt l).toArray) (.agg (byt t).toArray)).run Tryd.prog w = .ok (.bool (!(l == t))) w :=
  run_neq_ints (P := Tryd.prog) Tryd.underlying59 Tryd.underlying5 (by kernel_rfl) (by kernel_rfl) l t h h2 w
theorem run_arrayAt {P : Program} (t e : TypeId) (n : Nat) (h : P.underlying t = some (.array n e)) (A : Option Addr) (len c : Nat) (hl : n ≤ len) (w : World) : (Instr.arrayAt t (.slice A len c)).run P w = .ok (.pointer A) w := by
  unfold Instr.arrayAt
  rw [Sem.run_bind, run_underlying h w]
  simp only [Result.andThen_ok]
  rw [if_neg (by omega)]
  rfl
theorem or_byte64' (n x : Int) (h : 0 ≤ n ∧ n < 72057594037927936) (hx : 0 ≤ x ∧ x < 256) : bits .or .u64 (n * 256) x = n * 256 + x := or_byte64 n x h hx
theorem numB_nextD {b : List Int} {d k : Nat} (h : d + k < b.length) (m : Nat) (hk : k < m) : numB (((b.drop d).take m).take (k + 1)) = numB (((b.drop d).take m).take k) * 256 + b[d + k] := by
  have hl : k < ((b.drop d).take m).length := by rw [List.length_take, List.length_drop]; omega
  rw [numB_next hl]
  congr 1
  rw [List.getElem_take, List.getElem_drop]
theorem numB_ltD {b : List Int} (hb : isB b) (d m : Nat) {k q : Nat} (hk : k ≤ q) : 0 ≤ numB (((b.drop d).take m).take k) ∧ numB (((b.drop d).take m).take k) < 256 ^ q := numB_take_lt (isB_take (isB_drop hb d) m) hk
/-- the number of the first bytes of a part -/
def pa (b : List Int) (d m k : Nat) : Int := numB (((b.drop d).take m).take k)
theorem pa_zero (b : List Int) (d m : Nat) : pa b d m 0 = 0 := by simp [pa, numB]
theorem pa_step {b : List Int} {d k m : Nat} (h : d + k < b.length) (hk : k < m) : pa b d m (k + 1) = pa b d m k * 256 + b[d + k] := numB_nextD h m hk
theorem pa_lt {b : List Int} (hb : isB b) (d m : Nat) {k q : Nat} (hk : k ≤ q) : 0 ≤ pa b d m k ∧ pa b d m k < 256 ^ q := numB_ltD hb d m hk
theorem pa_all {b : List Int} {d m : Nat} : pa b d m m = numB ((b.drop d).take m) := by unfold pa; rw [List.take_of_length_le (by rw [List.length_take]; omega)]
/-- a ticket's value out of its four numbers -/
abbrev tkt (t : Tk) : Value := tkv t.1 t.2.1 t.2.2.1 t.2.2.2
set_option maxRecDepth 100000 in
set_option maxHeartbeats 4000000 in
theorem tdec_any (b : List Int) (A : Option Addr) (c : Nat) (w : World) (hr : Rd w A (byt b)) (hb : isB b) (hlb : b.length ≤ 100000) (hc : b.length ≤ c) : Calls Tryd.prog 13 #[.slice A b.length c] w fun e w' => e = .returned (.tuple #[tkt (decTV b), .int .i64 (decTE b)]) ∧ Ext w w' := by
  have HR := hide hr
  have HB := hide hb
  have tok1 : True := trivial
  have tok2 : True := trivial
  have tok3 : True := trivial
  have tok4 : True := trivial
  by_cases h24 : b.length = 24
  rotate_left
  · have HE : Hid (decTE b = 11 ∧ decTV b = (0, 0, 0, 0)) := hide (by
      have h : decTE b = 11 := by unfold decTE; rw [if_neg h24]
      exact ⟨h, by unfold decTV; rw [if_neg (by rw [h]; decide)]⟩)
    have hne2 : ((b.length : Int) != 24) = true := bne_iff_ne.2 (by omega)
    clear h24 hr hb
    go_enter Tryd.func13, Tryd.ntmps13
    go_upto_region 3 with (first
      | (have zz := tok1; clear zz tok1; refine wpList_alS (Sep.refl No w) rfl 25 rfl (tkc 0 0 0 0) (by kernel_rfl) ?_; intro w1 hz1 K1; clear hz1)
      | (have zz := tok2; clear zz tok2; refine wpList_alS K1 rfl 25 rfl (tkc 0 0 0 0) (by kernel_rfl) ?_; intro w2 hz2 K2; clear hz2 K1))
    obtain ⟨gb, GB⟩ : ∃ g, w.heap.size = g := ⟨_, rfl⟩
    rw [GB] at K2 ⊢
    clear GB
    go_wp2_with (first
      | (have zz := tok3; clear zz tok3; refine wpList_ldS K2 (List.Mem.head _) rfl 25 (.tmp 4) rfl rfl _ Tryd.underlying25 rfl (by kernel_rfl) ?_)
      | (have zz := tok4; clear zz tok4; refine wpList_stS [_] K2 rfl 25 (.tmp 2) (.tmp 10) rfl rfl (cs := tkc 0 0 0 0) rfl (by kernel_rfl) rfl (tkc_one 0 0 0 0) ?_; intro w5 K5; dsimp only [List.nil_append, List.cons_append] at K5))
    refine bodyPost_ret (v := .tuple #[tkv 0 0 0 0, .int .i64 11]) (results_row_tmp rfl _ _ gb 25 (tkc 0 0 0 0).toArray (0, 0) _ rfl (K5.blk (g := gb) (e := 25) (cs := tkc 0 0 0 0) (List.Mem.tail _ (List.Mem.head _))) Tryd.underlying25 rfl (by kernel_rfl) rfl) rfl ⟨by rw [HE.out.1, HE.out.2], K5.toExt⟩
  have HL := hide h24
  have hne2 : ((b.length : Int) != 24) = false := by rw [h24]; rfl
  obtain ⟨ga, oa, rfl, hat⟩ := rd_spot hr (by rw [byt_length]; omega)
  have hga := cell_lt (hat 0 _ (List.getElem?_eq_getElem (by rw [byt_length]; omega)))
  dsimp only at hga
  have HAT := hide (fun (x : World) (h : Ext w x) => (Go.Gr.At5.ext hat h))
  have HBY := hide (fun (i : Nat) (hi : i < b.length) => (⟨by simp [byt, List.getElem?_eq_getElem hi], hb b[i] (List.getElem_mem hi)⟩ : (byt b)[i]? = some (Value.int .u8 b[i]) ∧ (0 ≤ b[i] ∧ b[i] < 256)))
  have HSTE := hide (fun (d m k : Nat) (h : d + k < b.length) (hk : k < m) => pa_step h hk)
  have HLT4 := hide (fun (d k : Nat) (hk : k ≤ 3) => pa_lt hb d 4 hk)
  have HLT8 := hide (fun (d k : Nat) (hk : k ≤ 7) => pa_lt hb d 8 hk)
  have hcc : 24 ≤ c := by omega
  rw [h24]
  clear hr hb hat hne2 hc hlb
  go_enter Tryd.func13, Tryd.ntmps13
  go_upto_region 4 with (first
    | (have zz := tok1; clear zz tok1; refine wpList_alS (Sep.refl No w) rfl 25 rfl (tkc 0 0 0 0) (by kernel_rfl) ?_; intro w1 hz1 K1; clear hz1)
    | (have zz := tok2; clear zz tok2; refine wpList_alS K1 rfl 25 rfl (tkc 0 0 0 0) (by kernel_rfl) ?_; intro w2 hz2 K2; clear hz2))
  obtain ⟨g2, G2⟩ : ∃ g, w.heap.size = g := ⟨_, rfl⟩
  obtain ⟨g4, G4⟩ : ∃ g, w1.heap.size = g := ⟨_, rfl⟩
  have h24' : g2 < g4 := by rw [← G2, ← G4]; exact (K1.blk (g := w.heap.size) (List.Mem.head _)).lt
  have hag4 : ¬ At g4 ga := by unfold At; omega
  rw [G2, G4] at K2
  rw [G2, G4]
  clear K1 G4
  have K3 : Hid (Sep No w w2 [As.blk g4 25 (tkc (pa b 0 4 0) (pa b 4 4 0) 0 0), As.blk g2 25 (tkc 0 0 0 0)]) := hide (by rw [pa_zero, pa_zero]; exact K2)
  clear K2
  go_wp2_with fail
  go_loopw [11] (fun i wr => ∃ k : Nat, i = .int .i64 k ∧ k ≤ 4 ∧ Hid (Sep No w wr [As.blk g4 25 (tkc (pa b 0 4 k) (pa b 4 4 k) 0 0), As.blk g2 25 (tkc 0 0 0 0)])) (fun i _ => 4 - (intOf i).toNat)
  case atStart => exact ⟨0, rfl, by omega, K3⟩
  case round =>
    obtain ⟨k, rfl, hk, HK⟩ := hrel
    clear K3
    by_cases hlt : k < 4
    · have hki : (k : Int) < 4 := by omega
      have hl1 : 0 + k < b.length := by rw [HL.out]; omega
      have hl2 : 4 + k < b.length := by rw [HL.out]; omega
      obtain ⟨hx1, hx2⟩ := HBY.out _ hl1
      obtain ⟨hy1, hy2⟩ := HBY.out _ hl2
      have hs1 := hide (HSTE.out 0 4 k hl1 hlt)
      have hs2 := hide (HSTE.out 4 4 k hl2 hlt)
      have hq1 := HLT4.out 0 k (by omega)
      have hq2 := HLT4.out 4 k (by omega)
      obtain ⟨x, HX⟩ : ∃ x, Hid (b[0 + k] = x) := ⟨_, hide rfl⟩
      obtain ⟨y, HY⟩ : ∃ x, Hid (b[4 + k] = x) := ⟨_, hide rfl⟩
      rw [HX.out] at hx1 hx2 hs1
      rw [HY.out] at hy1 hy2 hs2
      have HLT := hide hlt
      have e1 : pa b 0 4 k = pa b 0 4 k := rfl
      clear e1 HX HY hl1 hl2 hlt
      obtain ⟨p1, hp1⟩ : ∃ x, pa b 0 4 k = x := ⟨_, rfl⟩
      obtain ⟨p2, hp2⟩ : ∃ x, pa b 4 4 k = x := ⟨_, rfl⟩
      rw [hp1, hp2] at HK
      rw [hp1] at hs1 hq1
      rw [hp2] at hs2 hq2
      clear hp1 hp2
      simp only [Int.reducePow] at hq1 hq2
      have hor1 := or_byte32 p1 x hq1 hx2
      have hor2 := or_byte32 p2 y hq2 hy2
      obtain ⟨q10, q11⟩ := hq1
      obtain ⟨q20, q21⟩ := hq2
      obtain ⟨x0, x1⟩ := hx2
      obtain ⟨y0, y1⟩ := hy2
      have hw4 : IntKind.i64.wrap (4 + (k : Int)) = 4 + (k : Int) := IntWalk.i64_in _ (by omega)
      have hz4 : (0 : Int) ≤ 4 + (k : Int) := by omega
      have hu4 : 4 + (k : Int) < 24 := by omega
      have ht4 : (4 + (k : Int)).toNat = 4 + k := by omega
      have hu0 : (k : Int) < 24 := by omega
      have hwx : IntKind.u32.wrap x = x := IntWalk.u32_in _ (by omega)
      have hwy : IntKind.u32.wrap y = y := IntWalk.u32_in _ (by omega)
      have hwp : IntKind.u32.wrap (p1 * 256) = p1 * 256 := IntWalk.u32_in _ (by omega)
      have hwq : IntKind.u32.wrap (p2 * 256) = p2 * 256 := IntWalk.u32_in _ (by omega)
      go_upto_region 7 with fail
      refine wp_region_ws2 (RT.fr No) (RT.fr (At g4)) (fun _ _ h => h.mono (fun _ h => h.elim)) 20 [0, 1, 2, 3, 4, 5, 6, 7, 8, 9, 10, 11, 12, 13, 14, 15, 16, 17, 18, 19, 20, 21, 22] (by kernel_rfl) (by kernel_rfl) (by kernel_rfl) (by kernel_rfl) ?_
      have KD := HK.out.drew
      clear HK
      generalize World.drew _ = wd at *
      have hb4 := KD.blk (g := g4) (e := 25) (List.Mem.head _)
      have hg4 := hb4.lt
      have hcx := (HAT.out _ KD.toExt) (0 + k) _ hx1
      rw [Nat.zero_add] at hcx
      have hcy := (HAT.out _ KD.toExt) (4 + k) _ hy1
      iterate 1 (refine ws2_rd rfl rfl rfl (by kernel_rfl) (fun K hK => ?_); go_simp; refine hK _ ?_; clear hK K)
      refine ws2_ld1 rfl rfl (by kernel_rfl) rfl 22 (.tmp 14) rfl rfl (fun w' h' => Fr.cell h' ((hb4.cell 0).trans rfl) (fun h => h)) _ Tryd.underlying22 rfl ?_
      iterate 4 (refine ws2_rd rfl rfl rfl (by kernel_rfl) (fun K hK => ?_); go_simp; refine hK _ ?_; clear hK K)
      refine ws2_ld1 rfl rfl (by kernel_rfl) rfl 5 (.tmp 19) rfl rfl (fun w' h' => Fr.cell h' (hcx) (fun h => h)) _ Tryd.underlying5 rfl ?_
      iterate 3 (refine ws2_rd rfl rfl rfl (by kernel_rfl) (fun K hK => ?_); go_simp; refine hK _ ?_; clear hK K)
      refine ws2_ld1 rfl rfl (by kernel_rfl) rfl 22 (.tmp 23) rfl rfl (fun w' h' => Fr.cell h' ((hb4.cell 1).trans rfl) (fun h => h)) _ Tryd.underlying22 rfl ?_
      iterate 5 (refine ws2_pure rfl rfl rfl (by kernel_rfl) (fun K hK => ?_); go_simp; refine hK _ ?_; clear hK K)
      refine ws2_ld1p rfl rfl (by kernel_rfl) rfl 5 (.tmp 29) rfl rfl (fun w' h' => Fr.cell h' (hcy) hag4) _ Tryd.underlying5 rfl ?_
      iterate 2 (refine ws2_pure rfl rfl rfl (by kernel_rfl) (fun K hK => ?_); go_simp; refine hK _ ?_; clear hK K)
      iterate 1 (refine ws2_rd rfl rfl rfl (by kernel_rfl) (fun K hK => ?_); go_simp; refine hK _ ?_; clear hK K)
      refine ws2_at rfl (fun K hK => ?_)
      rw [if_pos (show Region.wanted _ _ = true from rfl)]
      refine wp_st1S [] KD 22 (.tmp 33) (.tmp 22) rfl (v := .int .u32 (p1 * 256 + x)) (i := 0) rfl rfl (by kernel_rfl) (show _ < 4 by decide) rfl (fun w5 K5 hu5 => hK _ _ (Fr.of_upd hu5) ?_)
      dsimp only [List.nil_append, tkc, List.set] at K5
      clear hK K hu5 KD hb4 hcx hcy
      iterate 1 (refine wmr_rd rfl rfl (fun K hK => ?_); go_simp; refine hK _ ?_; clear hK K)
      refine wmr_ext rfl rfl (fun K hK => ?_)
      rw [if_pos (show Region.wanted _ _ = true from rfl)]
      refine wp_st1S [] K5 22 (.tmp 34) (.tmp 32) rfl (v := .int .u32 (p2 * 256 + y)) (i := 1) rfl rfl (by kernel_rfl) (show _ < 4 by decide) rfl (fun w6 K6 hu6 => hK _ _ (Fr.of_upd hu6) ?_)
      dsimp only [List.nil_append, tkc, List.set] at K6
      rw [← hs1.out, ← hs2.out] at K6
      clear hK K hu6 K5
      have K7 := hide K6
      clear K6
      refine wmr_nil ?_
      go_wp2_with fail
      go_roundw
      case rel => exact ⟨k + 1, by go_num, HLT.out, K7⟩
      case measure => have := HLT.out; simp [intOf]; omega
    · have hki : ¬ (k : Int) < 4 := by omega
      obtain rfl : k = 4 := by omega
      clear hlt
      have HPS : Hid (pa b 0 4 4 = tS b) := hide pa_all
      have HPO : Hid (pa b 4 4 4 = tO b) := hide pa_all
      rw [HPS.out, HPO.out] at HK
      obtain ⟨s1, HS1⟩ : ∃ x, Hid (tS b = x) := ⟨_, hide rfl⟩
      obtain ⟨o1, HO1⟩ : ∃ x, Hid (tO b = x) := ⟨_, hide rfl⟩
      rw [HS1.out, HO1.out] at HK
      have K6 : Hid (Sep No w wr [As.blk g4 25 (tkc s1 o1 (pa b 8 8 0) (pa b 16 8 0)), As.blk g2 25 (tkc 0 0 0 0)]) := hide (by rw [pa_zero, pa_zero]; exact HK.out)
      clear HK HPS HPO
      go_wp2_with fail
      go_loopw [36] (fun i wr => ∃ k : Nat, i = .int .i64 k ∧ k ≤ 8 ∧ Hid (Sep No w wr [As.blk g4 25 (tkc s1 o1 (pa b 8 8 k) (pa b 16 8 k)), As.blk g2 25 (tkc 0 0 0 0)])) (fun i _ => 8 - (intOf i).toNat)
      case atStart => exact ⟨0, rfl, by omega, K6⟩
      case round =>
        obtain ⟨k, rfl, hk, HK⟩ := hrel
        clear K6
        by_cases hlt : k < 8
        · have hki : (k : Int) < 8 := by omega
          have hl1 : 8 + k < b.length := by rw [HL.out]; omega
          have hl2 : 16 + k < b.length := by rw [HL.out]; omega
          obtain ⟨hx1, hx2⟩ := HBY.out _ hl1
          obtain ⟨hy1, hy2⟩ := HBY.out _ hl2
          have hs1 := hide (HSTE.out 8 8 k hl1 hlt)
          have hs2 := hide (HSTE.out 16 8 k hl2 hlt)
          have hq1 := HLT8.out 8 k (by omega)
          have hq2 := HLT8.out 16 k (by omega)
          obtain ⟨x, HX⟩ : ∃ x, Hid (b[8 + k] = x) := ⟨_, hide rfl⟩
          obtain ⟨y, HY⟩ : ∃ x, Hid (b[16 + k] = x) := ⟨_, hide rfl⟩
          rw [HX.out] at hx1 hx2 hs1
          rw [HY.out] at hy1 hy2 hs2
          have HLT := hide hlt
          have e1 : pa b 8 8 k = pa b 8 8 k := rfl
          clear e1 HX HY hl1 hl2 hlt
          obtain ⟨p1, hp1⟩ : ∃ x, pa b 8 8 k = x := ⟨_, rfl⟩
          obtain ⟨p2, hp2⟩ : ∃ x, pa b 16 8 k = x := ⟨_, rfl⟩
          rw [hp1, hp2] at HK
          rw [hp1] at hs1 hq1
          rw [hp2] at hs2 hq2
          clear hp1 hp2
          simp only [Int.reducePow] at hq1 hq2
          have hor1 := or_byte64 p1 x hq1 hx2
          have hor2 := or_byte64 p2 y hq2 hy2
          obtain ⟨q10, q11⟩ := hq1
          obtain ⟨q20, q21⟩ := hq2
          obtain ⟨x0, x1⟩ := hx2
          obtain ⟨y0, y1⟩ := hy2
          have hw8 : IntKind.i64.wrap (8 + (k : Int)) = 8 + (k : Int) := IntWalk.i64_in _ (by omega)
          have hz8 : (0 : Int) ≤ 8 + (k : Int) := by omega
          have hu8 : 8 + (k : Int) < 24 := by omega
          have ht8 : (8 + (k : Int)).toNat = 8 + k := by omega
          have hw16 : IntKind.i64.wrap (16 + (k : Int)) = 16 + (k : Int) := IntWalk.i64_in _ (by omega)
          have hz16 : (0 : Int) ≤ 16 + (k : Int) := by omega
          have hu16 : 16 + (k : Int) < 24 := by omega
          have ht16 : (16 + (k : Int)).toNat = 16 + k := by omega
          have hu0 : (k : Int) < 24 := by omega
          have hwx : IntKind.u64.wrap x = x := IntWalk.u64_in _ (by omega)
          have hwy : IntKind.u64.wrap y = y := IntWalk.u64_in _ (by omega)
          have hwp : IntKind.u64.wrap (p1 * 256) = p1 * 256 := IntWalk.u64_in _ (by omega)
          have hwq : IntKind.u64.wrap (p2 * 256) = p2 * 256 := IntWalk.u64_in _ (by omega)
          go_upto_region 12 with fail
          refine wp_region_ws2 (RT.fr No) (RT.fr (At g4)) (fun _ _ h => h.mono (fun _ h => h.elim)) 21 [0, 1, 2, 3, 4, 5, 6, 7, 8, 9, 10, 11, 12, 13, 14, 15, 16, 17, 18, 19, 20, 21, 22, 23] (by kernel_rfl) (by kernel_rfl) (by kernel_rfl) (by kernel_rfl) ?_
          have KD := HK.out.drew
          clear HK
          generalize World.drew _ = wd at *
          have hb4 := KD.blk (g := g4) (e := 25) (List.Mem.head _)
          have hg4 := hb4.lt
          have hcx := (HAT.out _ KD.toExt) (8 + k) _ hx1
          have hcy := (HAT.out _ KD.toExt) (16 + k) _ hy1
          iterate 1 (refine ws2_rd rfl rfl rfl (by kernel_rfl) (fun K hK => ?_); go_simp; refine hK _ ?_; clear hK K)
          refine ws2_ld1 rfl rfl (by kernel_rfl) rfl 23 (.tmp 39) rfl rfl (fun w' h' => Fr.cell h' ((hb4.cell 2).trans rfl) (fun h => h)) _ Tryd.underlying23 rfl ?_
          iterate 5 (refine ws2_rd rfl rfl rfl (by kernel_rfl) (fun K hK => ?_); go_simp; refine hK _ ?_; clear hK K)
          refine ws2_ld1 rfl rfl (by kernel_rfl) rfl 5 (.tmp 45) rfl rfl (fun w' h' => Fr.cell h' (hcx) (fun h => h)) _ Tryd.underlying5 rfl ?_
          iterate 3 (refine ws2_rd rfl rfl rfl (by kernel_rfl) (fun K hK => ?_); go_simp; refine hK _ ?_; clear hK K)
          refine ws2_ld1 rfl rfl (by kernel_rfl) rfl 23 (.tmp 49) rfl rfl (fun w' h' => Fr.cell h' ((hb4.cell 3).trans rfl) (fun h => h)) _ Tryd.underlying23 rfl ?_
          iterate 5 (refine ws2_pure rfl rfl rfl (by kernel_rfl) (fun K hK => ?_); go_simp; refine hK _ ?_; clear hK K)
          refine ws2_ld1p rfl rfl (by kernel_rfl) rfl 5 (.tmp 55) rfl rfl (fun w' h' => Fr.cell h' (hcy) hag4) _ Tryd.underlying5 rfl ?_
          iterate 2 (refine ws2_pure rfl rfl rfl (by kernel_rfl) (fun K hK => ?_); go_simp; refine hK _ ?_; clear hK K)
          iterate 1 (refine ws2_rd rfl rfl rfl (by kernel_rfl) (fun K hK => ?_); go_simp; refine hK _ ?_; clear hK K)
          refine ws2_at rfl (fun K hK => ?_)
          rw [if_pos (show Region.wanted _ _ = true from rfl)]
          refine wp_st1S [] KD 23 (.tmp 59) (.tmp 48) rfl (v := .int .u64 (p1 * 256 + x)) (i := 2) rfl rfl (by kernel_rfl) (show _ < 4 by decide) rfl (fun w5 K5 hu5 => hK _ _ (Fr.of_upd hu5) ?_)
          dsimp only [List.nil_append, tkc, List.set] at K5
          clear hK K hu5 KD hb4 hcx hcy
          iterate 1 (refine wmr_rd rfl rfl (fun K hK => ?_); go_simp; refine hK _ ?_; clear hK K)
          refine wmr_ext rfl rfl (fun K hK => ?_)
          rw [if_pos (show Region.wanted _ _ = true from rfl)]
          refine wp_st1S [] K5 23 (.tmp 60) (.tmp 58) rfl (v := .int .u64 (p2 * 256 + y)) (i := 3) rfl rfl (by kernel_rfl) (show _ < 4 by decide) rfl (fun w6 K6 hu6 => hK _ _ (Fr.of_upd hu6) ?_)
          dsimp only [List.nil_append, tkc, List.set] at K6
          rw [← hs1.out, ← hs2.out] at K6
          clear hK K hu6 K5
          have K7 := hide K6
          clear K6
          refine wmr_nil ?_
          go_wp2_with fail
          go_roundw
          case rel => exact ⟨k + 1, by go_num, HLT.out, K7⟩
          case measure => have := HLT.out; simp [intOf]; omega
        · have hki : ¬ (k : Int) < 8 := by omega
          obtain rfl : k = 8 := by omega
          clear hlt
          have HPN : Hid (pa b 8 8 8 = tN b) := hide pa_all
          have HPE : Hid (pa b 16 8 8 = tE b) := hide (by
            rw [pa_all]
            unfold tE
            rw [List.take_of_length_le (by rw [List.length_drop, HL.out]; omega)])
          rw [HPN.out, HPE.out] at HK
          obtain ⟨n1, HN1⟩ : ∃ x, Hid (tN b = x) := ⟨_, hide rfl⟩
          obtain ⟨e1, HE1⟩ : ∃ x, Hid (tE b = x) := ⟨_, hide rfl⟩
          rw [HN1.out, HE1.out] at HK
          have HTB : Hid (TiB s1 o1 n1 e1) := hide (by
            have := dec_TiB HB.out HL.out
            rw [HS1.out, HO1.out, HN1.out, HE1.out] at this
            exact this)
          have HREC : Hid (recT s1 o1 n1 e1 = b) := hide (by
            have := dec_recT HB.out HL.out
            rw [HS1.out, HO1.out, HN1.out, HE1.out] at this
            exact this)
          have HPK := hide (fun (x : World) => pack_any s1 o1 n1 e1 x HTB.out)
          rw [HREC.out] at HPK
          have hs0 := HTB.out.s0
          have hn0 := HTB.out.n0
          have HHZ : Hid (decTE b = (if s1 < 4096 ∧ n1 ≠ 0 then 0 else 11) ∧ decTV b = if s1 < 4096 ∧ n1 ≠ 0 then (s1, o1, n1, e1) else (0, 0, 0, 0)) := hide (by
            have h1 : decTE b = (if s1 < 4096 ∧ n1 ≠ 0 then 0 else 11) := by unfold decTE; rw [if_pos HL.out, HS1.out, HN1.out]
            refine ⟨h1, ?_⟩
            unfold decTV
            rw [h1]
            by_cases h : s1 < 4096 ∧ n1 ≠ 0
            · rw [if_pos h, if_pos h, if_pos rfl, HS1.out, HO1.out, HN1.out, HE1.out]
            · rw [if_neg h, if_neg h, if_neg (by decide)])
          have HBL : Hid ((byt b).length = 24) := hide (by rw [byt_length]; exact HL.out)
          have hne := neq24 b b HL.out HL.out
          simp only [beq_self_eq_true, Bool.not_true] at hne
          have HNE := hide hne
          have K7 := hide HK.out.drew
          clear HK hne HREC HTB
          go_wp2_with fail
          try go_upto_region 14 with fail
          by_cases h1 : s1 < 4096
          rotate_left
          · have HE2 : Hid (decTE b = 11 ∧ decTV b = (0, 0, 0, 0)) := hide (by
              have := HHZ.out
              rw [if_neg (fun h => h1 h.1), if_neg (fun h => h1 h.1)] at this
              exact this)
            have d1 : 4096 ≤ s1 := by omega
            clear h1
            refine wp_region_wm [0, 1, 2, 3, 4, 5, 6, 7, 8, 9, 11, 12, 13, 10, 14, 15] (by kernel_rfl) (by kernel_rfl) (by kernel_rfl) (by kernel_rfl) ?_
            generalize World.drew _ = wd at *
            have K8 := K7.out
            clear K7
            have hb4 := K8.blk (g := g4) (e := 25) (List.Mem.head _)
            iterate 1 (refine wm_rd rfl rfl (fun K hK => ?_); go_simp; refine hK _ ?_; clear hK K)
            refine wm_ld1 rfl rfl 22 (.tmp 62) rfl rfl ((hb4.cell 0).trans rfl) _ Tryd.underlying22 rfl ?_
            iterate 11 (refine wm_rd rfl rfl (fun K hK => ?_); go_simp; refine hK _ ?_; clear hK K)
            refine wm_ext rfl rfl (fun K hK => ?_)
            go_simp
            refine hK _ _ (Ext.refl _) ?_
            clear hK K
            iterate 2 (refine wm_rd rfl rfl (fun K hK => ?_); go_simp; refine hK _ ?_; clear hK K)
            refine wm_nil ?_
            clear hb4
            have tok5 : True := trivial
            go_wp2_with (have zz := tok5; clear zz tok5; refine wpList_stS [_] K8 rfl 25 (.tmp 2) (.tmp 78) rfl rfl (cs := tkc 0 0 0 0) rfl (by kernel_rfl) rfl (tkc_one 0 0 0 0) ?_; intro w9 K9; dsimp only [List.nil_append, List.cons_append] at K9)
            refine bodyPost_ret (v := .tuple #[tkv 0 0 0 0, .int .i64 11]) (results_row_tmp rfl _ _ g2 25 (tkc 0 0 0 0).toArray (0, 0) _ rfl (K9.blk (g := g2) (e := 25) (cs := tkc 0 0 0 0) (List.Mem.tail _ (List.Mem.head _))) Tryd.underlying25 rfl (by kernel_rfl) rfl) rfl ⟨by rw [HE2.out.1, HE2.out.2], K9.toExt⟩
          have d1 : ¬ 4096 ≤ s1 := by omega
          by_cases h2 : n1 = 0
          · have HE2 : Hid (decTE b = 11 ∧ decTV b = (0, 0, 0, 0)) := hide (by
              have := HHZ.out
              rw [if_neg (fun h => h.2 h2), if_neg (fun h => h.2 h2)] at this
              exact this)
            have d2 : (n1 == 0) = true := beq_iff_eq.2 h2
            clear h1 h2
            refine wp_region_wm [0, 1, 2, 3, 4, 5, 6, 7, 8, 9, 11, 12, 13, 10, 14, 15] (by kernel_rfl) (by kernel_rfl) (by kernel_rfl) (by kernel_rfl) ?_
            generalize World.drew _ = wd at *
            have K8 := K7.out
            clear K7
            have hb4 := K8.blk (g := g4) (e := 25) (List.Mem.head _)
            iterate 1 (refine wm_rd rfl rfl (fun K hK => ?_); go_simp; refine hK _ ?_; clear hK K)
            refine wm_ld1 rfl rfl 22 (.tmp 62) rfl rfl ((hb4.cell 0).trans rfl) _ Tryd.underlying22 rfl ?_
            iterate 3 (refine wm_rd rfl rfl (fun K hK => ?_); go_simp; refine hK _ ?_; clear hK K)
            refine wm_ld1 rfl rfl 23 (.tmp 66) rfl rfl ((hb4.cell 2).trans rfl) _ Tryd.underlying23 rfl ?_
            iterate 7 (refine wm_rd rfl rfl (fun K hK => ?_); go_simp; refine hK _ ?_; clear hK K)
            refine wm_ext rfl rfl (fun K hK => ?_)
            go_simp
            refine hK _ _ (Ext.refl _) ?_
            clear hK K
            iterate 2 (refine wm_rd rfl rfl (fun K hK => ?_); go_simp; refine hK _ ?_; clear hK K)
            refine wm_nil ?_
            clear hb4
            have tok5 : True := trivial
            go_wp2_with (have zz := tok5; clear zz tok5; refine wpList_stS [_] K8 rfl 25 (.tmp 2) (.tmp 78) rfl rfl (cs := tkc 0 0 0 0) rfl (by kernel_rfl) rfl (tkc_one 0 0 0 0) ?_; intro w9 K9; dsimp only [List.nil_append, List.cons_append] at K9)
            refine bodyPost_ret (v := .tuple #[tkv 0 0 0 0, .int .i64 11]) (results_row_tmp rfl _ _ g2 25 (tkc 0 0 0 0).toArray (0, 0) _ rfl (K9.blk (g := g2) (e := 25) (cs := tkc 0 0 0 0) (List.Mem.tail _ (List.Mem.head _))) Tryd.underlying25 rfl (by kernel_rfl) rfl) rfl ⟨by rw [HE2.out.1, HE2.out.2], K9.toExt⟩
          have HE2 : Hid (decTE b = 0 ∧ decTV b = (s1, o1, n1, e1)) := hide (by
            have := HHZ.out
            rw [if_pos ⟨h1, h2⟩, if_pos ⟨h1, h2⟩] at this
            exact this)
          have d2 : (n1 == 0) = false := beq_eq_false_iff_ne.2 h2
          clear h1 h2
          refine wp_region_wm [0, 1, 2, 3, 4, 5, 6, 7, 8, 9, 11, 12, 13, 10, 14, 15] (by kernel_rfl) (by kernel_rfl) (by kernel_rfl) (by kernel_rfl) ?_
          generalize World.drew _ = wd at *
          have K8 := K7.out
          clear K7
          have hb4 := K8.blk (g := g4) (e := 25) (List.Mem.head _)
          have hrow := HAT.out _ K8.toExt
          have harr := fun x => run_arrayAt (P := Tryd.prog) 59 _ 24 Tryd.underlying59 (some ⟨ga, oa, none⟩) 24 c (Nat.le_refl _) x
          iterate 1 (refine wm_rd rfl rfl (fun K hK => ?_); go_simp; refine hK _ ?_; clear hK K)
          refine wm_ld1 rfl rfl 22 (.tmp 62) rfl rfl ((hb4.cell 0).trans rfl) _ Tryd.underlying22 rfl ?_
          iterate 3 (refine wm_rd rfl rfl (fun K hK => ?_); go_simp; refine hK _ ?_; clear hK K)
          refine wm_ld1 rfl rfl 23 (.tmp 66) rfl rfl ((hb4.cell 2).trans rfl) _ Tryd.underlying23 rfl ?_
          iterate 3 (refine wm_rd rfl rfl (fun K hK => ?_); go_simp; refine hK _ ?_; clear hK K)
          refine wm_ldS K8 (List.Mem.head _) rfl rfl 25 (.tmp 4) rfl rfl _ Tryd.underlying25 rfl (by kernel_rfl) ?_
          iterate 2 (refine wm_rd rfl rfl (fun K hK => ?_); go_simp; refine hK _ ?_; clear hK K)
          refine wm_ldX rfl rfl 59 (.tmp 74) rfl hrow rfl _ Tryd.underlying59 rfl (by rw [HBL.out]; kernel_rfl) ?_
          refine wm_ext rfl rfl (fun K hK => ?_)
          go_simp
          go_at_call 25
          (with_reducible refine (HPK.out _).mono ?_)
          rintro e w8 ⟨rfl, hx⟩
          refine hK _ _ hx ?_
          clear hK K hb4 hrow harr
          have K9 := K8.ext hx
          clear K8 hx
          have hne := fun x => HNE.out x
          iterate 2 (refine wm_rd rfl rfl (fun K hK => ?_); go_simp; refine hK _ ?_; clear hK K)
          refine wm_nil ?_
          clear hne
          have tok5 : True := trivial
          have tok6 : True := trivial
          go_wp2_with (first
            | (have zz := tok6; clear zz tok6; refine wpList_ldS K9 (List.Mem.head _) rfl 25 (.tmp 4) rfl rfl _ Tryd.underlying25 rfl (by kernel_rfl) ?_)
            | (have zz := tok5; clear zz tok5; refine wpList_stS [_] K9 rfl 25 (.tmp 2) (.tmp 79) rfl rfl (cs := tkc s1 o1 n1 e1) rfl (by kernel_rfl) rfl (tkc_one s1 o1 n1 e1) ?_; intro wa Ka; dsimp only [List.nil_append, List.cons_append] at Ka))
          refine bodyPost_ret (v := .tuple #[tkv s1 o1 n1 e1, .int .i64 0]) (results_row_tmp rfl _ _ g2 25 (tkc s1 o1 n1 e1).toArray (0, 0) _ rfl (Ka.blk (g := g2) (e := 25) (cs := tkc s1 o1 n1 e1) (List.Mem.tail _ (List.Mem.head _))) Tryd.underlying25 rfl (by kernel_rfl) rfl) rfl ⟨by rw [HE2.out.1, HE2.out.2], Ka.toExt⟩
end Go.Proofs.YtamlngdjbmndlaaDoor
