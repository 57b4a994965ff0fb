/- Lists of waiters: the law WaitlistLoads walked. -/
import Derived.Test.YteecgieigjfjiaaW24
import Derived.Deep.CutBlock
import Derived.Deep.DeepCutAuto
namespace Go.Gr
open Go.RowKit
theorem Sep.joinU2 {G S : Nat → Prop} {w0 w w' : World} {A B : As} {L M : List As} (h : Sep G w0 w (A :: B :: L)) (k : Sep S w w' M) (hS : ∀ i, S i → A.fp i ∨ B.fp i) : Sep G w0 w' (M ++ L) := by
  have hd := List.pairwise_cons.1 h.dis
  have hd2 := List.pairwise_cons.1 hd.2
  have hA : A ∈ A :: B :: L := List.Mem.head _
  have hB : B ∈ A :: B :: L := List.Mem.tail _ (List.Mem.head _)
  have hin : ∀ C, C ∈ L → C ∈ A :: B :: L := fun C hC => List.Mem.tail _ (List.Mem.tail _ hC)
  have hapart : ∀ C ∈ L, ∀ i, C.fp i → ¬ S i := fun C hC i hi hs => by
    rcases hS i hs with h1 | h1
    · exact hd.1 C (List.Mem.tail _ hC) i h1 hi
    · exact hd2.1 C hC i h1 hi
  refine ⟨?_, ?_, ?_, ?_⟩
  · refine ⟨k.fr.os.trans h.fr.os, k.fr.tape.trans h.fr.tape, k.fr.output.trans h.fr.output, Nat.le_trans h.fr.size k.fr.size, fun i hi hn => ?_⟩
    refine (k.fr.block i (Nat.lt_of_lt_of_le hi h.fr.size) (fun hs => ?_)).trans (h.fr.block i hi hn)
    rcases hS i hs with h1 | h1
    · rcases h.own A hA i h1 with hg | hg
      · exact hn hg
      · omega
    · rcases h.own B hB i h1 with hg | hg
      · exact hn hg
      · omega
  · intro D hD
    rcases List.mem_append.1 hD with hD | hD
    · exact k.all D hD
    · exact D.loc (h.all D (hin D hD)) fun i hi => k.fr.block i (D.lt (h.all D (hin D hD)) i hi) (hapart D hD i hi)
  · intro D hD i hi
    rcases List.mem_append.1 hD with hD | hD
    · rcases k.own D hD i hi with h1 | h1
      · rcases hS i h1 with h2 | h2
        · exact h.own A hA i h2
        · exact h.own B hB i h2
      · exact .inr (Nat.le_trans h.fr.size h1)
    · exact h.own D (hin D hD) i hi
  · refine List.pairwise_append.2 ⟨k.dis, hd2.2, fun D hD E hE i hi hi' => ?_⟩
    have := E.lt (h.all E (hin E hE)) i hi'
    rcases k.own D hD i hi with h1 | h1
    · exact hapart E hE i hi' h1
    · omega
theorem Sep.two {G : Nat → Prop} {w0 w : World} {A B : As} {L : List As} (h : Sep G w0 w (A :: B :: L)) : Sep (fun k => A.fp k ∨ B.fp k) w w [A, B] := by
  have hd := List.pairwise_cons.1 h.dis
  refine ⟨Fr.refl _ _, ?_, ?_, ?_⟩
  · intro C hC
    rcases List.mem_cons.1 hC with rfl | hC
    · exact h.all _ (List.Mem.head _)
    · rw [List.mem_singleton] at hC; subst hC
      exact h.all _ (List.Mem.tail _ (List.Mem.head _))
  · intro C hC i hi
    rcases List.mem_cons.1 hC with rfl | hC
    · exact .inl (.inl hi)
    · rw [List.mem_singleton] at hC; subst hC
      exact .inl (.inr hi)
  · refine List.Pairwise.cons (fun C hC => ?_) (List.pairwise_singleton _ _)
    rw [List.mem_singleton] at hC; subst hC
    exact hd.1 _ (List.Mem.head _)
theorem Sep.apart2 {G : Nat → Prop} {w0 w : World} {A B : As} {g : Nat} {e : TypeId} {cs : List Value} {L : List As} (h : Sep G w0 w (A :: B :: As.blk g e cs :: L)) : ¬ (A.fp g ∨ B.fp g) := by
  have hd := List.pairwise_cons.1 h.dis
  have hd2 := List.pairwise_cons.1 hd.2
  rintro (h1 | h1)
  · exact hd.1 (As.blk g e cs) (List.Mem.tail _ (List.Mem.head _)) g h1 rfl
  · exact hd2.1 (As.blk g e cs) (List.Mem.head _) g h1 rfl
end Go.Gr
namespace Go.Proofs.Yteecgieigjfjiaa
open Go.RowKit Go.Gr Go.Wl
set_option linter.unusedVariables false
set_option linter.unusedSimpArgs false
attribute [local go_sem] rdOp rdAt rdUpon Cls forall_fr
theorem call_at5 {w : World} {A : Option Addr} {l : List Cl} (h : RdM w A 3 (l.map xc)) {k : Nat} (hk : k < l.length) : ∃ b off, A = some ⟨b, off, none⟩ ∧ At5 w b (off + k * 3) (xc l[k]) ∧ b < w.heap.size := by
  obtain ⟨b, off, e, hc⟩ := h.at5 (fun r hr => by
    obtain ⟨x, _, rfl⟩ := List.mem_map.1 hr
    exact Nat.succ_pos _) (i := k) (r := xc l[k]) (by simp [hk])
  exact ⟨b, off, e, hc, cell_lt (hc 0 _ rfl)⟩
theorem lims_putS {S : St} {y : Int} (hy : inS S y) (r : List Int) : limsS (put S y r) = limsS S := by
  obtain ⟨s, rfl⟩ : ∃ s : Nat, y = s := ⟨y.toNat, by have := hy.1; omega⟩
  exact limsS_put (by have := hy.2; omega) r
theorem lims_one (S : St) (x : Cl) : limsS (oneS S x) = limsS S := by
  unfold oneS joinS leaveS takeS
  repeat' split
  all_goals first
    | rfl
    | (rename_i h1 h2; exact lims_putS (by first | exact Classical.not_not.1 h1 | exact Classical.not_not.1 h2) _)
    | (rename_i h1 h2 h3; exact lims_putS (by first | exact Classical.not_not.1 h1 | exact Classical.not_not.1 h2 | exact Classical.not_not.1 h3) _)
theorem load_again {S : St} (h : Ok S) {m : List Int} (hm : limsS S = m) (hl : limE m = 0) : loadE m (rowsS S) = (0, 0) ∧ loadS m (rowsS S) = S := by
  refine ⟨?_, (st_eq hm rfl).symm⟩
  have hlen : (rowsS S).length = m.length := by rw [rowsS_len, ← hm, limsS_len]
  rw [loadE_go hl hlen]
  have key : ∀ n i, i + n = m.length → loadG i ((m.zip (rowsS S)).drop i) = (0, 0) := by
    intro n
    induction n with
    | zero => intro i hi; exact loadG_end (by omega)
    | succ n ih =>
      intro i hi
      have hiS : i < S.length := by rw [← limsS_len, hm]; omega
      have hk := h.get (i := (i : Int)) ⟨by omega, by omega⟩
      have e1 : m[i]'(by omega) = ((lm S i : Nat) : Int) := by
        have e := limsS_get hiS
        simp only [hm] at e
        exact e
      have e2 : (rowsS S)[i]'(by rw [rowsS_len]; exact hiS) = wt S i := rowsS_get hiS
      have hkl := hk.len
      simp only at hkl
      rw [loadG_next (by omega) (by rw [rowsS_len]; exact hiS) (by rw [e1, e2]; omega) (by rw [e2]; exact hk.nod)]
      exact ih (i + 1) (by omega)
  exact key m.length 0 (by omega)
theorem rowsA {w : World} {v : Value} (h : LfOk Try.prog w (.slice 39) v) : ∃ A vs rows c, v = .slice A rows.length c ∧ (AsRows A vs rows).p w ∧ (∀ r ∈ rows, ∀ x ∈ r, 0 ≤ x ∧ x < 4294967296) ∧ rows.length ≤ c ∧ c ≤ maxLen := by
  obtain ⟨A, xs, c, rfl, hr, hx, hc, hm⟩ := slice_lf (l := .slice 23) 8 (by kernel_rfl) (by kernel_rfl) h
  obtain ⟨rows, hl, hp⟩ := exists_list (p := fun r x => IsRow w x r ∧ ∀ e ∈ r, 0 ≤ e ∧ e < 4294967296) xs (fun x hxs => by
    obtain ⟨A', l, c', rfl, h1, h2, h3, h4⟩ := slice_ints Try.underlying23 (by kernel_rfl) (hx x hxs)
    exact ⟨l, ⟨A', c', rfl, h3, h1⟩, fun e he => wf_u32 (h2 e he)⟩)
  refine ⟨A, xs, rows, c, by rw [hl], ⟨hr, hl.symm, fun j v r hv hrr => ?_⟩, fun r hrr => ?_, by omega, hm⟩
  · obtain ⟨hj, rfl⟩ := List.getElem?_eq_some_iff.1 hv
    obtain ⟨hj', rfl⟩ := List.getElem?_eq_some_iff.1 hrr
    exact (hp j hj' hj).1
  · obtain ⟨i, hi, rfl⟩ := List.getElem_of_mem hrr
    exact (hp i hi (by omega)).2
set_option maxRecDepth 100000 in
set_option maxHeartbeats 8000000 in
theorem loads_law (w : World) (v0 : Value) (h0 : LfOk Try.prog w (.slice 3) v0) (v1 : Value) (h1 : LfOk Try.prog w (.slice 39) v1) (v2 : Value) (h2 : LfOk Try.prog w (.slice 31) v2) : Calls Try.prog 8 #[v0, v1, v2] w fun e w' => e = .returned (.bool true) ∧ Ext w w' := by
  obtain ⟨A0, m, c0, rfl, hr0, hb0, hc0, hm0⟩ := ints_arg h0
  obtain ⟨A1, vr, rows, c1, rfl, hr1, hx1, hc1, hm1⟩ := rowsA h1
  obtain ⟨A2, l, c2, rfl, hr2, hok, hc2, hm2⟩ := callsA h2
  clear h0 h1 h2
  by_cases hs0 : 20 < m.length
  · have d0 : (20 : Int) < (m.length : Int) := by omega
    clear hr0 hr1 hr2 hok hx1 hs0
    go_enter Try.func8, Try.ntmps8
    go_wp2_with fail
    (with_reducible refine (awake_any _).mono ?_)
    rintro e w1 ⟨rfl, hx⟩
    go_wp2_with fail
    go_ret
    exact ⟨rfl, hx⟩
  have d0 : ¬ (20 : Int) < (m.length : Int) := by omega
  by_cases hs1 : 20 < rows.length
  · have d1 : (20 : Int) < (rows.length : Int) := by omega
    clear hr0 hr1 hr2 hok hx1 hs0 hs1
    go_enter Try.func8, Try.ntmps8
    go_wp2_with fail
    (with_reducible refine (awake_any _).mono ?_)
    rintro e w1 ⟨rfl, hx⟩
    go_wp2_with fail
    go_ret
    exact ⟨rfl, hx⟩
  have d1 : ¬ (20 : Int) < (rows.length : Int) := by omega
  by_cases hs : 50 < l.length
  · have d2 : (50 : Int) < (l.length : Int) := by omega
    clear hr0 hr1 hr2 hok hx1 hs0 hs1 hs
    go_enter Try.func8, Try.ntmps8
    go_wp2_with fail
    (with_reducible refine (awake_any _).mono ?_)
    rintro e w1 ⟨rfl, hx⟩
    go_wp2_with fail
    go_ret
    exact ⟨rfl, hx⟩
  have d2 : ¬ (50 : Int) < (l.length : Int) := by omega
  have HR0 := hide hr0
  have HR1 := hide hr1
  have HR := hide hr2
  have HOK := hide hok
  have HX1 := hide hx1
  have hml : m.length ≤ 20 := by omega
  have hrl20 : rows.length ≤ 20 := by omega
  clear hr0 hr1 hr2 hok hx1 hs0 hs1 hs
  go_enter Try.func8, Try.ntmps8
  go_wp2_with fail
  go_loopw [7] (fun v7 wr => ∃ i : Nat, v7 = .int .i64 i ∧ i ≤ rows.length ∧ Hid (∀ j (hj : j < rows.length), j < i → rows[j].length ≤ 80) ∧ Hid (Ext w wr)) (fun v7 _ => rows.length - (intOf v7).toNat)
  case atStart => exact ⟨0, rfl, by omega, hide (fun j hj h => by omega), hide (Ext.refl w)⟩
  case round =>
    obtain ⟨i, rfl, hi, HSM, HX⟩ := hrel
    by_cases hlt : i < rows.length
    · have hlti : (i : Int) < (rows.length : Int) := by omega
      obtain ⟨bd, Cr, cr, hB, cb0, _, hcr⟩ := rowsL_at HR1.out hlt
      subst hB
      have cb := cellX HX.out cb0
      obtain ⟨r, hrr⟩ : ∃ r, rows[i] = r := ⟨_, rfl⟩
      rw [hrr] at cb
      have HRR := hide hrr
      clear hrr cb0 hcr
      by_cases h80 : 80 < r.length
      · have h80i : (80 : Int) < (r.length : Int) := by omega
        go_wp2_with fail
        (with_reducible refine (awake_any _).mono ?_)
        rintro e w5 ⟨rfl, hx⟩
        have HX2 := hide (HX.out.trans hx)
        clear hx cb
        go_wp2_with fail
        go_ret
        exact ⟨rfl, HX2.out⟩
      · have h80i : ¬ (80 : Int) < (r.length : Int) := by omega
        have HSM2 : Hid (∀ j (hj : j < rows.length), j < i + 1 → rows[j].length ≤ 80) := hide (fun j hj h => by
          by_cases e : j = i
          · subst e; rw [HRR.out]; omega
          · exact HSM.out j hj (by omega))
        go_wp2_with fail
        go_roundw
        case rel => first | exact ⟨i + 1, by go_num, by omega, HSM2, HX⟩ | exact ⟨i + 1, by go_num, by omega, HSM2⟩
        case measure => simp [intOf]; omega
    · obtain rfl : i = rows.length := by omega
      have hlti : ¬ ((rows.length : Nat) : Int) < (rows.length : Int) := by omega
      have HRL : Hid (∀ r ∈ rows, r.length ≤ 1000000 ∧ ∀ x ∈ r, 0 ≤ x ∧ x < 4294967296) := hide (fun r hr => by
        refine ⟨?_, HX1.out r hr⟩
        obtain ⟨j, hj, rfl⟩ := List.getElem_of_mem hr
        have := HSM.out j hj hj
        omega)
      have HLA := hide (fun (y : World) (h : Ext w y) => load_any m A0 c0 rows A1 vr c1 y (HR0.out.ext h) (asRows_ext HR1.out h) (by omega) (by omega) HRL.out)
      have HLB := hide (fun (y : World) (h : Ext w y) => rload_any m A0 c0 rows A1 vr c1 y (HR0.out.ext h) (asRows_ext HR1.out h) (by omega) (by omega) HRL.out)
      have tok1 : True := trivial
      have tok2 : True := trivial
      by_cases hE : (loadE m rows).2 = 0
      · have HLIM : Hid (limE m = 0) := hide (by
          by_cases h : limE m = 0
          · exact h
          · rw [loadE_bad h] at hE; exact hE)
        have HEE := hide hE
        have HLMS : Hid (limsS (loadS m rows) = m) := hide (by
          by_cases hl : rows.length = m.length
          · exact lims_load HLIM.out hl
          · rw [loadE_len HLIM.out hl] at hE; exact absurd hE (by decide))
        clear hE
        go_wp2_with fail
        (with_reducible refine (HLA.out _ HX.out).mono ?_)
        rintro e w1 ⟨h1, _⟩
        obtain ⟨g, gr, rfl, hS1⟩ := h1 HEE.out
        have KK := hide (((Sep.refl No w).ext HX.out).joinW hS1)
        clear h1 hS1 HLA HX
        go_wp2_with fail
        (with_reducible refine (HLB.out _ KK.out.toExt).mono ?_)
        rintro e w2 ⟨h2, _⟩
        obtain ⟨A', c', B', d', vs, rfl, hS2⟩ := h2 HEE.out
        have K2 := (KK.out.joinW hS2).swap
        clear KK h2 hS2 HLB
        obtain ⟨S0, HS0⟩ : ∃ S0, loadS m rows = S0 := ⟨_, rfl⟩
        rw [HS0] at K2 HLMS
        have HSL := hide (show m.length = S0.length by rw [← HLMS.out, limsS_len])
        clear HS0
        go_upto_region 10 with (first
          | (have zz := tok1; clear zz tok1; refine wpList_alS K2 rfl 45 rfl [.slice none 0 0, .slice none 0 0] (by kernel_rfl) ?_; intro w3 hz3 K3; clear hz3 K2)
          | (have zz := tok2; clear zz tok2; refine wpList_stS [] K3 rfl 45 (.tmp 11) (.tmp 58) rfl rfl (cs := [.slice A' m.length c', .slice B' m.length d']) rfl (by kernel_rfl) rfl (refs_one _ _ rfl rfl) ?_; intro w4 K4; dsimp only [List.nil_append] at K4; clear K3))
        obtain ⟨g7, G7⟩ : ∃ g, w2.heap.size = g := ⟨_, rfl⟩
        rw [G7] at K4 ⊢
        clear G7
        have K5 : Hid (Sep No w w4 [AsLs g gr S0, AsRf A' B' vs S0, As.blk g7 45 [.slice A' S0.length c', .slice B' S0.length d']]) := hide (by have e := K4.rot; rw [HSL.out] at e; exact e)
        clear K4
        go_wp2_with fail
        go_loopw [14] (fun v14 wr => ∃ (k : Nat) (S : St) (A B : Option Addr) (vs : List Value) (c d : Nat), v14 = .int .i64 k ∧ k ≤ l.length ∧ Hid (limsS S = m) ∧ Hid (Sep No w wr [AsLs g gr S, AsRf A B vs S, As.blk g7 45 [.slice A S.length c, .slice B S.length d]])) (fun v14 _ => l.length - (intOf v14).toNat)
        case atStart => exact ⟨0, S0, A', B', vs, c', d', rfl, by omega, HLMS, K5⟩
        case round =>
          obtain ⟨k, S, A, B, vs, c, d, rfl, hk, HLM, HK⟩ := hrel
          clear K5
          by_cases hlt : k < l.length
          · have hlti : (k : Int) < (l.length : Int) := by omega
            obtain ⟨bb, off, hA, hat, hbl⟩ := call_at5 HR.out hlt
            subst hA
            obtain ⟨x, HX⟩ : ∃ x, l[k] = x := ⟨_, rfl⟩
            have hxok : x.ok := by rw [← HX]; exact HOK.out _ (List.getElem_mem hlt)
            rw [HX] at hat
            have HXO := hide hxok
            have HAT := hide hat
            clear HX hxok hat
            go_upto_region 17 with fail
            refine wp_region_wm [0, 2, 3, 1, 4, 5] (by kernel_rfl) (by kernel_rfl) (by kernel_rfl) (by kernel_rfl) ?_
            have HOKS := ls_ok (HK.out.get (A := AsLs g gr S) (List.Mem.head _))
            have hl8 := HOKS.len
            have hrl : ∀ r ∈ rowsS S, r.length ≤ 1000000 := fun r hr => by
              obtain ⟨p, hp, rfl⟩ := List.mem_map.1 hr
              have h1 := (HOKS.all p hp).len
              have h2 := (HOKS.all p hp).lim
              omega
            have HRLS := hide hrl
            clear HOKS hrl
            have H1 := HK.out.drew
            clear HK
            generalize World.drew _ = wd at *
            have hg7 := (H1.blk (g := g7) (e := 45) (List.Mem.tail _ (List.Mem.tail _ (List.Mem.head _)))).lt
            have cB := ((H1.blk (g := g7) (e := 45) (cs := [.slice A S.length c, .slice B S.length d]) (List.Mem.tail _ (List.Mem.tail _ (List.Mem.head _)))).cell 1).trans rfl
            iterate 2 (refine wm_rd rfl rfl (fun K hK => ?_); go_simp; refine hK _ ?_; clear hK K)
            refine wm_ld1 rfl rfl 37 (.tmp 87) rfl rfl cB _ Try.underlying37 rfl ?_
            refine wm_ext rfl rfl (fun K hK => ?_)
            go_simp
            go_at_call 15
            (with_reducible refine (save_any (H1.get (A := AsLs g gr S) (List.Mem.head _))).mono ?_)
            rintro e wa ⟨Bs, vss, rfl, hS⟩
            refine hK _ _ hS.toExt ?_
            clear hK K cB
            have H2 := H1.ext hS.toExt
            have JS := same_any (rowsS S) (rowsS S) vss vs Bs B S.length d wa (hS.get (A := AsRows Bs vss (rowsS S)) (List.Mem.head _)) (H2.get (A := AsRf A B vs S) (List.Mem.tail _ (List.Mem.head _))).2 (by rw [rowsS_len]; omega) (by rw [rowsS_len]; omega) HRLS.out HRLS.out
            rw [decide_eq_true rfl, rowsS_len] at JS
            have JJ := hide JS
            clear JS hS H1
            refine wm_ext rfl rfl (fun K hK => ?_)
            go_simp
            go_at_call 19
            (with_reducible refine JJ.out.mono ?_)
            rintro e wz ⟨rfl, hxb⟩
            refine hK _ _ hxb ?_
            clear hK K
            have HK1 := hide (H2.ext hxb)
            clear H2 hxb JJ
            iterate 1 (refine wm_rd rfl rfl (fun K hK => ?_); go_simp; refine hK _ ?_; clear hK K)
            refine wm_nil ?_

            go_upto_region 19 with fail
            go_cut [15, 16] (fun v10 v11 wx => ∃ (g10 : Nat) (B' : Option Addr) (vs' : List Value) (d' : Nat), v10 = pt g10 ∧ v11 = .bool true ∧ Hid (Sep No w wx [As.blk g10 45 [.slice A (oneS S x).length c, .slice B' (oneS S x).length d'], AsLs g gr (oneS S x), AsRf A B' vs' (oneS S x), As.blk g7 45 [.slice A S.length c, .slice B S.length d]]))
            case first =>
              refine wp_region_wf (RT.fr fun j => wz.drew.heap.size ≤ j ∨ GG g gr A B vs S j) 10 [0, 1, 2, 3, 4, 5, 6, 7, 8, 9, 10, 11, 12] (by kernel_rfl) (by kernel_rfl) (by kernel_rfl) (by kernel_rfl) (by kernel_rfl) ?_
              have H1 := HK1.out.drew
              clear HK1
              generalize wz.drew = wd at *
              have B7 := H1.blk (g := g7) (e := 45) (cs := [.slice A S.length c, .slice B S.length d]) (List.Mem.tail _ (List.Mem.tail _ (List.Mem.head _)))
              have n7 : ¬ (wd.heap.size ≤ g7 ∨ GG g gr A B vs S g7) := by
                rintro (h | h)
                · have := B7.lt; omega
                · exact H1.apart2 h
              have nb : ¬ (wd.heap.size ≤ bb ∨ GG g gr A B vs S bb) := by
                have hle := H1.le
                rintro (h | h)
                · omega
                · rcases h with h | h
                  · rcases H1.own _ (List.Mem.head _) bb h with h1 | h1
                    · exact h1.elim
                    · omega
                  · rcases H1.own _ (List.Mem.tail _ (List.Mem.head _)) bb h with h1 | h1
                    · exact h1.elim
                    · omega
              have hat2 : At5 wd bb (off + k * 3) [.int .u8 x.what, .int .i64 x.sec, .int .u32 x.own] := HAT.out.ext H1.toExt
              iterate 1 (refine wf_rd rfl rfl rfl (fun K hK => ?_); go_simp; refine hK _ ?_; clear hK K)
              refine wf_ldX rfl rfl rfl 45 (.tmp 11) rfl (fun w' h' => B7.at5.fr h' n7) rfl _ Try.underlying45 rfl (by kernel_rfl) ?_
              iterate 3 (refine wf_rd rfl rfl rfl (fun K hK => ?_); go_simp; refine hK _ ?_; clear hK K)
              refine wf_ldX rfl rfl rfl 31 (.tmp 96) rfl (fun w' h' => hat2.fr h' nb) rfl _ Try.underlying31 rfl (by kernel_rfl) ?_
              clear B7 n7 nb hat2
              refine wf_ext rfl rfl rfl (fun K hK => ?_) ?_
              · go_simp
                go_at_call 18
                have HT2 : Sep (GG g gr A B vs S) wd wd [AsLs g gr S, AsRf A B vs S] := H1.two
                (with_reducible refine (one_any (c := c) (d := d) x HXO.out HT2).mono ?_)
                rintro e wa ⟨B2, vs2, d2, rfl, hS⟩
                refine hK _ _ (hS.fr.mono fun j hj => .inr hj) ?_
                clear hK K
                have H2 := H1.joinU2 hS (fun j hj => hj)
                dsimp only [List.nil_append, List.cons_append] at H2
                have hsz := hS.fr.size
                clear hS H1
                iterate 3 (refine wf_rd rfl rfl rfl (fun K hK => ?_); go_simp; refine hK _ ?_; clear hK K)
                refine wf_at rfl ?_
                refine wmr_ext rfl rfl (fun K hK => ?_)
                rw [if_pos (show Region.wanted _ _ = true from rfl)]
                refine wp_alS H2 45 rfl [.slice none 0 0, .slice none 0 0] (by kernel_rfl) (fun wb hzb hxb H3 => ?_)
                refine hK _ _ ((Fr.of_ext hxb).mono fun j h => h.elim) ?_
                clear hK K hzb hxb
                refine wmr_ext rfl rfl (fun K hK => ?_)
                rw [if_pos (show Region.wanted _ _ = true from rfl)]
                refine wp_stS [] H3 45 (.tmp 15) (.tmp 99) rfl (cs := [.slice A (oneS S x).length c, .slice B2 (oneS S x).length d2]) rfl rfl (by kernel_rfl) rfl (refs_one _ _ rfl rfl) (fun wc H4 hu4 => hK _ _ ((Fr.of_upd hu4).mono fun j hj => .inl (by cases hj; exact hsz)) ?_)
                dsimp only [List.nil_append] at H4
                clear hK K hu4 H3 H2
                iterate 1 (refine wmr_rd rfl rfl (fun K hK => ?_); go_simp; refine hK _ ?_; clear hK K)
                refine wmr_nil ?_
                have K9 := hide H4
                clear H4
                go_wp2_with fail
                go_meet
                case rel => exact ⟨_, B2, vs2, d2, rfl, rfl, K9⟩
              · refine wmr_ext rfl rfl (fun K hK => ?_)
                rw [if_pos (show Region.wanted _ _ = true from rfl)]
                refine wp_alS H1 45 rfl [.slice none 0 0, .slice none 0 0] (by kernel_rfl) (fun wb hzb hxb H2 => ?_)
                refine hK _ _ ((Fr.of_ext hxb).mono fun j h => h.elim) ?_
                obtain ⟨SB, hSB⟩ : ∃ s, wd.heap.size = s := ⟨_, rfl⟩
                rw [hSB] at H2 ⊢
                clear hK K hzb hxb
                have H3 := H2.rot
                clear H2 H1
                refine wmr_ext rfl rfl (fun K hK => ?_)
                go_simp
                go_at_call 18
                have HT2 : Sep (GG g gr A B vs S) wb wb [AsLs g gr S, AsRf A B vs S] := H3.two
                (with_reducible refine (one_any (c := c) (d := d) x HXO.out HT2).mono ?_)
                rintro e wa ⟨B2, vs2, d2, rfl, hS⟩
                refine hK _ _ (hS.fr.mono fun j hj => .inr hj) ?_
                clear hK K
                have H4 := H3.joinU2 hS (fun j hj => hj)
                dsimp only [List.nil_append, List.cons_append] at H4
                clear hS H3
                iterate 3 (refine wmr_rd rfl rfl (fun K hK => ?_); go_simp; refine hK _ ?_; clear hK K)
                refine wmr_ext rfl rfl (fun K hK => ?_)
                rw [if_pos (show Region.wanted _ _ = true from rfl)]
                refine wp_stS [_, _] H4 45 (.tmp 15) (.tmp 99) rfl (cs := [.slice A (oneS S x).length c, .slice B2 (oneS S x).length d2]) rfl rfl (by kernel_rfl) rfl (refs_one _ _ rfl rfl) (fun wc H5 hu5 => hK _ _ ((Fr.of_upd hu5).mono fun j hj => .inl (by cases hj; exact Nat.le_refl _)) ?_)
                dsimp only [List.nil_append, List.cons_append] at H5
                clear hK K hu5 H4
                iterate 1 (refine wmr_rd rfl rfl (fun K hK => ?_); go_simp; refine hK _ ?_; clear hK K)
                refine wmr_nil ?_
                have K9 := hide H5.rot.rot
                clear H5
                go_wp2_with fail
                go_meet
                case rel => exact ⟨_, B2, vs2, d2, rfl, rfl, K9⟩
            case rest =>
              obtain ⟨g10, B2, vs2, d2, rfl, rfl, HK2⟩ := hcut
              have HLM2 : Hid (limsS (oneS S x) = m) := hide ((lims_one S x).trans HLM.out)
              obtain ⟨S', hS'⟩ : ∃ S', oneS S x = S' := ⟨_, rfl⟩
              rw [hS'] at HK2 HLM2
              clear HK1 hS'
              have H3 := HK2.out
              clear HK2
              have tok3 : True := trivial
              have tok4 : True := trivial
              go_wp2_with (first
                | (have zz := tok3; clear zz tok3; refine wpList_ldS H3 (List.Mem.head _) rfl 45 (.tmp 15) rfl rfl _ Try.underlying45 rfl (by kernel_rfl) ?_)
                | (have zz := tok4; clear zz tok4; refine wpList_stS [_, _, _] H3 rfl 45 (.tmp 11) (.tmp 103) rfl rfl (cs := [.slice A S'.length c, .slice B2 S'.length d2]) rfl (by kernel_rfl) rfl (refs_one _ _ rfl rfl) ?_; intro wc H4; dsimp only [List.nil_append, List.cons_append] at H4; have K4 := hide H4.tail; clear H4 H3))
              go_roundw
              case rel => exact ⟨k + 1, S', A, B2, vs2, c, d2, by go_num, by omega, HLM2, K4⟩
              case measure => simp [intOf]; omega
          · obtain rfl : k = l.length := by omega
            have hlti : ¬ ((l.length : Nat) : Int) < (l.length : Int) := by omega
            have HOKS := ls_ok (HK.out.get (A := AsLs g gr S) (List.Mem.head _))
            have hl8 := HOKS.len
            have hrl : ∀ r ∈ rowsS S, r.length ≤ 1000000 ∧ ∀ x ∈ r, 0 ≤ x ∧ x < 4294967296 := fun r hr => by
              obtain ⟨p, hp, rfl⟩ := List.mem_map.1 hr
              have h1 := (HOKS.all p hp).len
              have h2 := (HOKS.all p hp).lim
              exact ⟨by omega, (HOKS.all p hp).rng⟩
            have HRLS := hide hrl
            obtain ⟨ea, eb⟩ := load_again HOKS HLM.out HLIM.out
            have HEA := hide ea
            have HEB := hide eb
            clear HOKS hrl ea eb
            go_wp2_with fail
            (with_reducible refine (save_any (HK.out.get (A := AsLs g gr S) (List.Mem.head _))).mono ?_)
            rintro e w5 ⟨B5, vs5, rfl, hS⟩
            have K5 := hide (HK.out.joinW hS)
            clear hS HK
            go_wp2_with fail
            have JL := load_any m A0 c0 (rowsS S) B5 vs5 S.length _ (HR0.out.ext K5.out.toExt) (K5.out.get (A := AsRows B5 vs5 (rowsS S)) (List.Mem.head _)) (by omega) (by rw [rowsS_len]; omega) HRLS.out
            rw [rowsS_len] at JL
            (with_reducible refine JL.mono ?_)
            rintro e w6 ⟨h6, _⟩
            obtain ⟨g6, gr6, rfl, hS6⟩ := h6 (by rw [HEA.out])
            rw [HEB.out] at hS6
            have K6 := hide (K5.out.joinW hS6)
            clear JL h6 hS6 K5
            go_wp2_with fail
            (with_reducible refine (save_any (K6.out.get (A := AsLs g6 gr6 S) (List.Mem.head _))).mono ?_)
            rintro e w7 ⟨B7, vs7, rfl, hS⟩
            have K7 := hide (K6.out.joinW hS)
            clear hS K6
            go_wp2_with fail
            (with_reducible refine (save_any (K7.out.get (A := AsLs g gr S) (List.Mem.tail _ (List.Mem.tail _ (List.Mem.tail _ (List.Mem.head _)))))).mono ?_)
            rintro e w8 ⟨B8, vs8, rfl, hS⟩
            have K8 := hide (K7.out.joinW hS)
            clear hS K7
            have JS := same_any (rowsS S) (rowsS S) vs7 vs8 B7 B8 S.length S.length w8 (K8.out.get (A := AsRows B7 vs7 (rowsS S)) (List.Mem.tail _ (List.Mem.head _))) (K8.out.get (A := AsRows B8 vs8 (rowsS S)) (List.Mem.head _)) (by rw [rowsS_len]; omega) (by rw [rowsS_len]; omega) (fun r hr => (HRLS.out r hr).1) (fun r hr => (HRLS.out r hr).1)
            rw [decide_eq_true rfl, rowsS_len] at JS
            have JJ := hide JS
            have HX := hide K8.out.toExt
            clear JS K8
            go_wp2_with fail
            (with_reducible refine JJ.out.mono ?_)
            rintro e w9 ⟨rfl, hx9⟩
            have HX9 := hide (HX.out.trans hx9)
            clear hx9 HX
            go_wp2_with fail
            (with_reducible refine (awake_any _).mono ?_)
            rintro e w10 ⟨rfl, hx⟩
            have HX2 := hide (HX9.out.trans hx)
            clear hx
            go_wp2_with fail
            go_ret
            exact ⟨rfl, HX2.out⟩
      · obtain ⟨a, b, hab⟩ : ∃ a b, loadE m rows = (a, b) := ⟨_, _, rfl⟩
        have hb : b ≠ 0 := by rw [hab] at hE; exact hE
        have HEE := hide hE
        have HAB := hide hab
        have e1 : (a != a) = false := bne_self_eq_false _
        have e2 : (b != b) = false := bne_self_eq_false _
        have e3 : (b != 0) = true := bne_iff_ne.2 hb
        clear hE hab
        go_wp2_with fail
        (with_reducible refine (HLA.out _ HX.out).mono ?_)
        rintro e w1 ⟨_, h1⟩
        obtain ⟨rfl, hx1⟩ := h1 HEE.out
        rw [HAB.out]
        have HX1 := hide (HX.out.trans hx1)
        clear h1 hx1 HLA
        go_wp2_with fail
        (with_reducible refine (HLB.out _ HX1.out).mono ?_)
        rintro e w2 ⟨_, h2⟩
        obtain ⟨rfl, hx2⟩ := h2 HEE.out
        rw [HAB.out]
        have K2 := (Sep.refl No w).ext (HX1.out.trans hx2)
        clear HX1 h2 hx2 HLB HX
        go_upto_region 10 with (first
          | (have zz := tok1; clear zz tok1; refine wpList_alS K2 rfl 45 rfl [.slice none 0 0, .slice none 0 0] (by kernel_rfl) ?_; intro w3 hz3 K3; clear hz3 K2)
          | (have zz := tok2; clear zz tok2; refine wpList_stS [] K3 rfl 45 (.tmp 11) (.tmp 58) rfl rfl (cs := [.slice none 0 0, .slice none 0 0]) rfl (by kernel_rfl) rfl (refs_one _ _ rfl rfl) ?_; intro w4 K4; dsimp only [List.nil_append] at K4; clear K3))
        have HX4 := hide K4.toExt
        clear K4
        go_wp2_with fail
        (with_reducible refine (awake_any _).mono ?_)
        rintro e w5 ⟨rfl, hx⟩
        have HX2 := hide (HX4.out.trans hx)
        clear hx
        go_wp2_with fail
        go_ret
        exact ⟨rfl, HX2.out⟩
end Go.Proofs.Yteecgieigjfjiaa

