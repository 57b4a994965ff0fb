/- Seats side by side: slices.Delete of one run, in place. -/
import Derived.Test.YtkhinagagncblaaDoorA13
namespace Go.Proofs.YtkhinagagncblaaDoor
open Go.RowKit Go.Gr Go.Ad
set_option linter.unusedVariables false
set_option linter.unusedSimpArgs false
attribute [local go_sem] rdOp rdAt rdUpon Cls forall_fr
section
variable {P : Program} {w : World}
theorem wp_appendRoom {o : Oper} {a : Act} {Q : Exit → Act → World → Prop} {K : Act → World → Prop} (s x : Operand) (t e : TypeId) (i : TypeInfo)
    (ho : o.op = .call { callee := .builtin .append, args := #[s, x], argTypes := #[t, t] }) (ht : P.underlying t = some (.slice e)) (hi : P.info? e = some i)
    (g sLen sCap : Nat) (cur : List Value) (hg : Blk w g e cur) (A : Addr) (m c : Nat) (news : List Value) (hs : a.eval s = .slice (some ⟨g, 0, none⟩) sLen sCap) (hx : a.eval x = .slice (some A) m c)
    (hl : news.length = m * i.size) (hnews : ∀ j u, news[j]? = some u → w.cell? (A.add j) = some u) (h1 : ∀ u ∈ news, u.oneCell' = true)
    (hroom : sLen + m ≤ sCap) (hfit : sLen * i.size + news.length ≤ cur.length)
    (h : ∀ w', Upd g w w' → Blk w' g e (cur.take (sLen * i.size) ++ news ++ cur.drop (sLen * i.size + news.length)) → K (a.put o.dst (.slice (some ⟨g, 0, none⟩) (sLen + m) sCap)) w') : o.wp P a w K Q := by
  have hrun := run_append_room (P := P) (w := w) t o.type e i ht hi g sLen sCap cur.toArray hg A m c news hl hnews h1 hroom (by simpa using hfit)
  unfold Oper.wp execOp
  simp only [ho, resolve, invoke, builtin, Sem.run_bind, Sem.run_pure, Result.andThen_ok, List.map_toArray, List.map_cons, List.map_nil, hs, hx, hrun]
  refine h _ ?_ ?_
  · exact ⟨rfl, rfl, rfl, by simp, fun k hk hn => setRow_other w g k _ (fun e => hn (by rw [e]))⟩
  · have := setRow_heap w g cur.toArray (cur.take (sLen * i.size) ++ news ++ cur.drop (sLen * i.size + news.length)).toArray e (0, 0) hg
    exact this
theorem run_clear3 (t e ty : TypeId) (a b c : Value) (ht : P.underlying t = some (.slice e)) (hv : (zeroValue e).run P w = .ok (.agg #[a, b, c]) w) (h1 : ∀ v ∈ [a, b, c], v.oneCell' = true) (g o k : Nat) (cur : List Value) {te : TypeId} (hB : Blk w g te cur) (hl : o + 3 ≤ cur.length) :
    (Builtin.clear_ #[t] ty #[.slice (some ⟨g, o, none⟩) 1 k]).run P w = .ok (.tuple #[]) (((w.setCell ⟨g, o, none⟩ a).setCell ⟨g, o + 1, none⟩ b).setCell ⟨g, o + 2, none⟩ c) := by
  have hst := run_storeCells_cells (P := P) g o [a, b, c] 0 w (fun j hj => by
    have : j < 3 := by simpa using hj
    rw [hB.cell, List.getElem?_eq_getElem (by omega)]; rfl) (fun j _ => hB.free _) h1
  simp only [Nat.add_zero] at hst
  have hz : (Builtin.zeroCells (Value.agg #[a, b, c]).cells 1).toList = [a, b, c] := by
    simp [Builtin.zeroCells, Value.cells]; rfl
  unfold Builtin.clear_
  simp [Sem.run_bind, run_underlying ht, hv, hz, hst, Result.andThen_ok, World.setCells]
end
theorem runC_len (r : Run) : (runC r).length = 3 := rfl
theorem flat_len (l : List Run) : (runV l).flatten.length = l.length * 3 := by
  rw [flatten_len (k := 3), runV_len]
  intro r hr
  obtain ⟨x, _, rfl⟩ := List.mem_map.1 hr
  rfl
theorem flat_app (l m : List Run) : (runV (l ++ m)).flatten = (runV l).flatten ++ (runV m).flatten := by rw [runV_append, List.flatten_append]
theorem flat_one (l : List Run) : ∀ u ∈ (runV l).flatten, u.oneCell' = true := by
  intro u hu
  obtain ⟨r, hr, hu⟩ := List.mem_flatten.1 hu
  obtain ⟨x, _, rfl⟩ := List.mem_map.1 hr
  exact runC_one x u hu
theorem erase_eq (l : List Run) (i : Nat) : l.eraseIdx i = l.take i ++ l.drop (i + 1) := List.eraseIdx_eq_take_drop_succ ..
theorem set_take {l : List Value} {n i : Nat} (h : n ≤ i) (v : Value) : (l.set i v).take n = l.take n := by
  rw [List.take_set]
  apply List.ext_getElem?
  intro j
  rw [List.getElem?_set]
  split
  · rename_i e; subst e
    rw [if_neg (by rw [List.length_take]; omega), List.getElem?_eq_none (by rw [List.length_take]; omega)]
  · rfl
set_option maxRecDepth 100000 in
set_option maxHeartbeats 4000000 in
theorem delete_run (l : List Run) (g c i : Nat) (w : World) (hO : OwnM w 47 3 (.slice (some ⟨g, 0, none⟩) l.length c) (runV l)) (hil : i < l.length) (hl : l.length ≤ 2000) :
    Calls Tryd.prog 40 #[.slice (some ⟨g, 0, none⟩) l.length c, .int .i64 (i : Nat), .int .i64 ((i + 1 : Nat) : Int)] w fun e w' =>
      e = .returned (.slice (some ⟨g, 0, none⟩) (l.length - 1) c) ∧ OwnM w' 47 3 (.slice (some ⟨g, 0, none⟩) (l.length - 1) c) (runV (l.eraseIdx i)) ∧ Upd g w w' := by
  obtain ⟨i0, ki, kz0, kz1, kz2⟩ := info_parts infoA
  obtain ⟨cur, hB, hcl, hct, hcc, hcm⟩ : ∃ cur : List Value, Blk w g 47 cur ∧ cur.length = c * 3 ∧ cur.take (l.length * 3) = (runV l).flatten ∧ l.length ≤ c ∧ c ≤ maxLen := by
    rcases hO.row.2 with ⟨h1, h⟩ | ⟨g', cap, cur, hv, hb, hh, hc, hm, hs, ht⟩
    · cases h1
    · simp only [Value.slice.injEq, Option.some.injEq, Addr.mk.injEq] at hv
      obtain ⟨⟨rfl, _⟩, _, rfl⟩ := hv
      rw [runV_len] at hc ht
      exact ⟨cur.toList, by show w.heap[_]? = _; rw [hh, Array.toArray_toList], by simpa using hs, by simpa using ht, hc, hm⟩
  have hn1 : (i : Int) ≤ ((i + 1 : Nat) : Int) := by omega
  have hn2 : ((i + 1 : Nat) : Int) ≤ (l.length : Int) := by omega
  have hn3 : (l.length : Int) ≤ (c : Int) := by omega
  have hne : ((i : Int) == ((i + 1 : Nat) : Int)) = false := beq_eq_false_iff_ne.2 (by omega)
  have HB := hide hB
  have HCT := hide hct
  have HCL := hide hcl
  have HCC := hide hcc
  have HIL := hide hil
  have HL := hide hl
  have HCM := hide hcm
  clear hB hct hcl hO hcm
  go_enter Tryd.func40, Tryd.ntmps40
  go_wp2_with fail
  obtain ⟨B, hB2, hsrc⟩ : ∃ B : Addr, (if c = i + 1 then (⟨g, 0, none⟩ : Addr) else ⟨g, (i + 1) * 3, none⟩) = B ∧ Hid (∀ y : World, Blk y g 47 cur → ∀ j u, (runV (l.drop (i + 1))).flatten[j]? = some u → y.cell? (B.add j) = some u) := by
    by_cases h : c = i + 1
    · refine ⟨⟨g, 0, none⟩, by rw [if_pos h], hide fun y _ j u hu => ?_⟩
      have : l.drop (i + 1) = [] := List.drop_of_length_le (by have := HCC.out; omega)
      rw [this] at hu; simp [runV] at hu
    · refine ⟨⟨g, (i + 1) * 3, none⟩, by rw [if_neg h], hide fun y hy j u hu => ?_⟩
      have hj : j < (l.length - (i + 1)) * 3 := by
        have := (List.getElem?_eq_some_iff.1 hu).1
        rwa [flat_len, List.length_drop] at this
      have hlen : i + 1 ≤ l.length := HIL.out
      rw [Addr.add_lit, hy.cell]
      have h2 : (cur.take (l.length * 3))[(i + 1) * 3 + j]? = some u := by
        rw [HCT.out]
        conv => lhs; rw [← List.take_append_drop (i + 1) l, flat_app]
        rw [List.getElem?_append_right (by rw [flat_len, List.length_take]; omega), flat_len, List.length_take, Nat.min_eq_left hlen, Nat.add_sub_cancel_left]
        exact hu
      rwa [List.getElem?_take, if_pos (by omega)] at h2
  refine wp_region_wmr (RT.fr (At g)) [0, 1, 2, 3, 4, 5, 6, 7] (by kernel_rfl) (by kernel_rfl) (by kernel_rfl) (by kernel_rfl) ?_
  have HBd : Hid (Blk w.drew g 47 cur) := HB
  have HU : Hid (Upd g w w.drew) := hide (Fr.upd ((Fr.of_ext (Ext.refl w).drew).mono (fun _ h => h.elim)))
  clear HB
  generalize World.drew _ = wd at *
  have hif : (if c = i + 1 then (some ⟨g, 0, none⟩ : Option Addr) else some ⟨g, (i + 1) * 3, none⟩) = some B := by rw [← hB2]; split <;> rfl
  have hbb : 0 ≤ (i : Int) + 1 ∧ (i : Int) + 1 ≤ (l.length : Int) := by omega
  clear hB2
  have hic : i ≤ c := by omega
  have hij : i + 1 ≤ l.length := by omega
  have hijc : i + 1 ≤ c := by omega
  iterate 5 (refine wmr_rd rfl rfl (fun K hK => ?_); go_simp; refine hK _ ?_; clear hK K)
  iterate 1 (refine wmr_rd rfl rfl (fun K hK => ?_); go_simp; refine hK _ ?_; clear hK K)
  refine wmr_ext rfl rfl (fun K hK => ?_)
  rw [if_pos (show Region.wanted _ _ = true from rfl)]
  have hmm : (runV (l.drop (i + 1))).flatten.length = (l.length - (i + 1)) * 3 := by rw [flat_len, List.length_drop]
  refine wp_appendRoom (.tmp 22) (.tmp 25) 30 47 i0 rfl Tryd.underlying30 ki g i c cur HBd.out B (l.length - (i + 1)) (c - (i + 1)) (runV (l.drop (i + 1))).flatten rfl rfl (by rw [hmm, kz1]) (hsrc.out wd HBd.out) (flat_one _) (by omega) (by rw [kz1, hmm, HCL.out]; omega) ?_
  intro w2 hu2 hb2
  rw [kz1, hmm] at hb2
  have HB2 := hide hb2
  have HU2 := hide (HU.out.trans hu2)
  refine hK _ _ (Fr.of_upd hu2) ?_
  clear hK K hb2 hu2 hif hmm
  obtain ⟨q, hq⟩ : ∃ q, l.length = q + 1 := ⟨l.length - 1, by omega⟩
  rw [show i + (l.length - (i + 1)) = q by omega]
  have hlen2 : (cur.take (i * 3) ++ (runV (l.drop (i + 1))).flatten ++ cur.drop (i * 3 + (l.length - (i + 1)) * 3)).length = c * 3 := by
    rw [List.length_append, List.length_append, List.length_take, List.length_drop, flat_len, List.length_drop, HCL.out]; omega
  have hclr : ∀ ty, Sem.run Tryd.prog (Builtin.clear_ #[30] ty #[.slice (some ⟨g, q * 3, none⟩) 1 (c - q)]) w2 = .ok (.tuple #[]) (((w2.setCell ⟨g, q * 3, none⟩ (.int .i64 0)).setCell ⟨g, q * 3 + 1, none⟩ (.int .i64 0)).setCell ⟨g, q * 3 + 2, none⟩ (.int .i64 0)) := fun ty =>
    run_clear3 30 47 ty (.int .i64 0) (.int .i64 0) (.int .i64 0) Tryd.underlying30 (Tryd.zeroValue47 w2) (int3_one 0 0 0) g (q * 3) (c - q) _ HB2.out (by rw [hlen2]; omega)
  have HLEN2 := hide hlen2
  have hq1 : q ≤ l.length := by omega
  have hq2 : (q : Int) ≤ (l.length : Int) := by omega
  have hq3 : ¬ c = q := by omega
  have hq4 : l.length - q = 1 := by omega
  have HQ := hide hq
  clear hlen2 hq
  iterate 1 (refine wmr_rd rfl rfl (fun K hK => ?_); go_simp; refine hK _ ?_; clear hK K)
  refine wmr_nil ?_
  go_wp2_with fail
  go_ret
  refine ⟨by rw [HQ.out]; rfl, ?_, ?_⟩
  ·
    have hil := HIL.out
    have hq := HQ.out
    have he : (l.eraseIdx i).length = q := by rw [List.length_eraseIdx, if_pos hil, hq]; rfl
    have hft : (cur.take (i * 3)) = (runV (l.take i)).flatten := by
      have h1 : (cur.take (l.length * 3)).take (i * 3) = (runV l).flatten.take (i * 3) := by rw [HCT.out]
      rw [List.take_take, Nat.min_eq_left (by omega)] at h1
      rw [h1]
      conv => lhs; rw [← List.take_append_drop i l, flat_app]
      rw [List.take_append_of_le_length (by rw [flat_len, List.length_take]; omega), List.take_of_length_le (by rw [flat_len, List.length_take]; omega)]
    have hfe : (runV (l.eraseIdx i)).flatten = cur.take (i * 3) ++ (runV (l.drop (i + 1))).flatten := by rw [erase_eq, flat_app, hft]
    have hB3 := ((HB2.out.set (q * 3) (.int .i64 0)).set (q * 3 + 1) (.int .i64 0)).set (q * 3 + 2) (.int .i64 0)
    refine ⟨⟨?_, .inr ⟨g, c, _, by rw [runV_len, he, hq]; rfl, Nat.zero_le _, hB3, ?_, HCM.out, ?_, ?_⟩⟩, ?_⟩
    · rw [flat_len, runV_len]
    · rw [runV_len, he]; omega
    · simp only [List.size_toArray, List.length_set]; rw [HLEN2.out]
    · rw [runV_len, he, hfe]
      simp only
      rw [set_take (by omega), set_take (by omega), set_take (by omega)]
      rw [List.take_append_of_le_length, List.take_of_length_le]
      · rw [List.length_append, List.length_take, flat_len, List.length_drop, HCL.out]; omega
      · rw [List.length_append, List.length_take, flat_len, List.length_drop, HCL.out]; omega
    · intro r hr
      obtain ⟨x, _, rfl⟩ := List.mem_map.1 hr
      rfl
  · exact ((HU2.out.cell _ _).cell _ _).cell _ _
end Go.Proofs.YtkhinagagncblaaDoor
