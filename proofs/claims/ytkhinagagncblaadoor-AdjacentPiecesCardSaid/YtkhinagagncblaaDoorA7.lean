/- Venues: the seats of a section, by the program. -/
import Derived.Test.YtkhinagagncblaaDoorA6
namespace Go.Proofs.YtkhinagagncblaaDoor
open Go.RowKit Go.Gr Go.Ad
set_option linter.unusedVariables false
set_option linter.unusedSimpArgs false
attribute [local go_sem] Oper.semAt_some rdOp rdAt rdUpon Cls forall_fr
def foldB (s : Int) (l : List RowB) : Nat × Nat := l.foldl (fun st x => gOf (fun i _ => decide ((i : Int) = s)) st x.r) (0, 0)
theorem foldB_snoc (s : Int) (l : List RowB) (x : RowB) : foldB s (l ++ [x]) = gOf (fun i _ => decide ((i : Int) = s)) (foldB s l) x.r := by simp [foldB, List.foldl_append]
theorem foldB_le (s : Int) (l : List RowB) : (foldB s l).1 ≤ 100000 ∧ (foldB s l).2 ≤ l.length * 64 := by
  have key : ∀ (l : List RowB) (st : Nat × Nat) (b : Nat), st.1 ≤ 100000 → st.2 ≤ b → (l.foldl (fun st x => gOf (fun i _ => decide ((i : Int) = s)) st x.r) st).1 ≤ 100000 ∧ (l.foldl (fun st x => gOf (fun i _ => decide ((i : Int) = s)) st x.r) st).2 ≤ b + l.length * 64 := by
    intro l
    induction l with
    | nil => intro st b h1 h2; exact ⟨h1, by simpa using h2⟩
    | cons x l ih =>
      intro st b h1 h2
      rw [List.foldl_cons]
      have := ih (gOf (fun i _ => decide ((i : Int) = s)) st x.r) (b + 64) (by
        unfold gOf; split
        · split
          · exact x.first
          · exact h1
        · exact h1) (by
        have := x.many
        unfold gOf; split
        · show st.2 + x.r.many ≤ _; omega
        · omega)
      refine ⟨this.1, ?_⟩
      have := this.2
      rw [List.length_cons]; omega
  have := key l (0, 0) 0 (by decide) (Nat.le_refl _)
  simpa [foldB] using this
theorem foldB_rows {v : Vn} {xs : List RowB} (h : RowsOf v xs) (s : Int) : foldB s xs = (rl 0 0 v.secs).foldl (gOf fun i _ => decide ((i : Int) = s)) (0, 0) := by
  rw [← h.eq, List.foldl_map]; rfl
/-- the seats of a section: the first one, how many, and what is wrong -/
def ofE (v : Vn) (s : Int) : Int × Int × Int :=
  if (chk v).2 = 0 then
    (if 0 ≤ s then (match v.secs[s.toNat]? with | some x => ((fst0 v.secs s.toNat : Nat), (x.sum : Nat), 0) | none => (0, 0, 4)) else (0, 0, 4))
  else (0, 0, (chk v).2)
theorem sum_pos {s : Sc} (h : ScOk s) : 0 < s.sum := by
  obtain ⟨n, ns, hr⟩ : ∃ n ns, s.rows = n :: ns := by
    cases hr : s.rows with
    | nil => have := h.pos; rw [hr] at this; simp at this
    | cons n ns => exact ⟨n, ns, rfl⟩
  have := h.row n (by rw [hr]; simp)
  unfold Sc.sum Sc.rowsN
  rw [hr, List.map_cons, List.sum_cons]; omega
theorem of_ok {v : Vn} (h : VnOk v) (hz : (chk v).2 = 0) (s : Int) : ((rl 0 0 v.secs).foldl (gOf fun i _ => decide ((i : Int) = s)) (0, 0)).2 ≠ 0 →
    ofE v s = (((((rl 0 0 v.secs).foldl (gOf fun i _ => decide ((i : Int) = s)) (0, 0)).1 : Nat) : Int), ((((rl 0 0 v.secs).foldl (gOf fun i _ => decide ((i : Int) = s)) (0, 0)).2 : Nat) : Int), 0) := by
  intro hne
  unfold ofE
  rw [if_pos hz]
  by_cases h0 : 0 ≤ s
  · rw [if_pos h0]
    obtain ⟨j, rfl⟩ : ∃ j : Nat, s = j := ⟨s.toNat, by omega⟩
    have hp : (fun (i _ : Nat) => decide ((i : Int) = (j : Int))) = (fun i _ => decide (i = j)) := by
      funext i k; by_cases e : i = j
      · simp [e]
      · rw [decide_eq_false e, decide_eq_false (by omega)]
    rw [hp] at hne ⊢
    simp only [Int.toNat_natCast]
    cases hs : v.secs[j]? with
    | some x => rw [of_sec hs (h.sec x (List.mem_of_getElem? hs))]
    | none =>
      exfalso; apply hne
      rw [of_none]
      intro R hR
      have h1 := rl_mem hR
      have h2 := List.getElem?_eq_none_iff.1 hs
      rw [decide_eq_false_iff_not]; omega
  · exfalso; apply hne
    rw [of_none]
    intro R hR
    rw [decide_eq_false_iff_not]; omega
theorem of_bad {v : Vn} (h : VnOk v) (hz : (chk v).2 = 0) (s : Int) : ((rl 0 0 v.secs).foldl (gOf fun i _ => decide ((i : Int) = s)) (0, 0)).2 = 0 → ofE v s = (0, 0, 4) := by
  intro he
  unfold ofE
  rw [if_pos hz]
  by_cases h0 : 0 ≤ s
  · rw [if_pos h0]
    obtain ⟨j, rfl⟩ : ∃ j : Nat, s = j := ⟨s.toNat, by omega⟩
    have hp : (fun (i _ : Nat) => decide ((i : Int) = (j : Int))) = (fun i _ => decide (i = j)) := by
      funext i k; by_cases e : i = j
      · simp [e]
      · rw [decide_eq_false e, decide_eq_false (by omega)]
    rw [hp] at he
    simp only [Int.toNat_natCast]
    cases hs : v.secs[j]? with
    | some x =>
      rw [of_sec hs (h.sec x (List.mem_of_getElem? hs))] at he
      have := sum_pos (h.sec x (List.mem_of_getElem? hs))
      simp at he; omega
    | none => rfl
  · rw [if_neg h0]
theorem set_same {w : World} {g i : Nat} {e : TypeId} {cs : List Value} {v : Value} (h : Blk w g e cs) (hv : cs[i]? = some v) : w.setCell ⟨g, i, none⟩ v = w := by
  have h1 := h.set i v
  have hl : cs.set i v = cs := by
    apply List.ext_getElem?
    intro j
    rw [List.getElem?_set]
    split
    · rename_i e; subst e; split
      · exact hv.symm
      · rename_i hh; rw [List.getElem?_eq_none (by omega)] at hv; cases hv
    · rfl
  rw [hl] at h1
  show { w with heap := _ } = w
  have : (w.setCell ⟨g, i, none⟩ v).heap = w.heap := by
    apply Array.ext_getElem?
    intro k
    by_cases hk : k = g
    · subst hk; rw [show (w.setCell ⟨k, i, none⟩ v).heap[k]? = _ from h1, show w.heap[k]? = _ from h]
    · exact Below.heap_setCell w ⟨g, i, none⟩ v k hk
  exact congrArg (fun h => ({ w with heap := h } : World)) this
theorem wp_st1Same {P : Program} {w : World} {o : Oper} {a : Act} {Q : Exit → Act → World → Prop} {K : Act → World → Prop} {g i : Nat} {t : TypeId} {cs : List Value} {v : Value} (hB : Blk w g t cs) (ty : TypeId) (x y : Operand) (ho : o.op = .store ty x y)
    (hx : a.eval x = .pointer (some ⟨g, i, none⟩)) (hy : a.eval y = v) (hi : (P.info? ty).map (·.size) = some 1) (hv : cs[i]? = some v) (h1 : v.oneCell' = true)
    (h : K (a.put o.dst undef) w) : o.wp P a w K Q := by
  have hr := run_storeVar_cell (P := P) (w := w) g i ty v (by rw [hB.cell i, hv]; rfl) (hB.free i) hi h1
  unfold Oper.wp execOp
  simp only [ho, hx, hy, Instr.storeAt, Instr.sureAddr, Sem.run_bind, Sem.run_pure, Result.andThen_ok, hr]
  rw [set_same hB hv]
  exact h
set_option maxRecDepth 100000 in
set_option maxHeartbeats 8000000 in
theorem venue_of (v : Vn) (A : Option Addr) (c : Nat) (s : Int) (w : World) (h : Secs w A v.secs) (hc : v.secs.length ≤ c) (hw : VnW v) :
    Calls Tryd.prog 48 #[.agg #[.int .i64 v.sh, .int .i64 v.ttl, .int .i64 v.ses, .slice A v.secs.length c], .int .i64 s] w fun e w' => e = .returned (.tuple #[.int .i64 (ofE v s).1, .int .i64 (ofE v s).2.1, .int .i64 (ofE v s).2.2]) ∧ Ext w w' := by
  have HS := hide (fun (y : World) (k : Ext w y) => h.ext k)
  have HC := hide hc
  have HW := hide hw
  clear h hc hw
  have K0 := ((((Sep.refl No w).add2 24 3 [.int .i64 v.sh, .int .i64 v.ttl, .int .i64 v.ses, .slice A v.secs.length c] [.int .i64 s]).add 3 [.int .i64 0]).add 3 [.int .i64 0])
  simp only [World.size_alloc] at K0
  have hck := hide (fun y (k : Ext w y) => venue_check v A c y (HS.out y k) HC.out HW.out)
  refine (callsIn_wide (n := 6)).1 ?_
  refine callsIn_of_wp_marks Tryd.func48 rfl trivial ?_ rfl
  simp only [Tryd.ntmps48, List.size_toArray, List.length_cons, List.length_nil, Nat.reduceAdd, Nat.reduceSub, Array.replicate_succ, Array.replicate_zero, List.push_toArray, List.append_toArray, List.nil_append, List.cons_append]
  have hf53 : Fence.wide.fn 53 := trivial
  have hf54 : Fence.wide.fn 54 := trivial
  gi_wp2_with fail
  refine (callsIn_wide.2 (hck.out _ K0.toExt)).mono ?_
  rintro e w1 ⟨rfl, hx⟩
  have K1 := hide (K0.ext hx)
  clear K0 hx hck
  simp only [Nat.add_assoc, Nat.reduceAdd] at K1
  obtain ⟨c0, c1, c2, c3, cz⟩ := blk4 (K1.out.blk (g := w.heap.size) (e := 24) (List.Mem.tail _ (List.Mem.tail _ (List.Mem.tail _ (List.Mem.head _)))))
  have p2 := (K1.out.blk (g := w.heap.size + 2) (e := 3) (List.Mem.tail _ (List.Mem.head _))).cell 0
  have f2 := (K1.out.blk (g := w.heap.size + 2) (e := 3) (List.Mem.tail _ (List.Mem.head _))).free 0
  have p3 := (K1.out.blk (g := w.heap.size + 3) (e := 3) (List.Mem.head _)).cell 0
  have f3 := (K1.out.blk (g := w.heap.size + 3) (e := 3) (List.Mem.head _)).free 0
  simp only [List.getElem?_cons_zero] at p2 p3
  by_cases hz : (chk v).2 = 0
  · obtain ⟨hok, hch⟩ := chk_zero hz
    have HOK := hide hok
    have HOF := hide (of_ok hok hz s)
    have HOB := hide (of_bad hok hz s)
    rw [hch]
    clear hok hch hz
    gi_wp2_with fail
    refine (rows_in Fence.wide _ trivial rfl _ _ _ _ _).mono ?_
    rintro e w2 ⟨rfl, rfl⟩
    clear c0 c1 c2 c3 cz p2 f2 p3 f3
    have K2 := K1.out.add 24 [.int .i64 v.sh, .int .i64 v.ttl, .int .i64 v.ses, .slice A v.secs.length c]
    clear K1
    generalize w1.alloc _ = w2 at K2 ⊢
    generalize w1.heap.size = g3 at K2 ⊢
    have KK := hide K2
    clear K2
    gi_wp2_with fail
    obtain ⟨xs, hxs⟩ := rowsOf_ex HOK.out
    have HXS := hide hxs
    have hxl : xs.length ≤ 128 := by
      have h1 := rl_few HOK.out
      rw [← hxs.eq, List.length_map] at h1; exact h1
    have HXL := hide hxl
    clear hxs hxl
    refine wpIn_rangeFunc_ownH rfl (by decide) (gf := 60) (lb := #[.pointer (some ⟨g3, 0, none⟩)]) rfl trivial (enters_of Tryd.func60 (by kernel_rfl) rfl)
      (rows_stops v A c g3 w w2 (HS.out _ (Ext.refl w)) HC.out HOK.out xs HXS.out 5 (by decide) KK.out.toExt ((KK.out.blk (List.Mem.head _)).cell 3)) belowK_t (belowK_b KK.out.le) (Below.refl _ _) (fun _ => rfl)
      (fun pre W => Sep No w W [As.blk (w.heap.size + 3) 3 [.int .i64 ((foldB s pre).2 : Nat)], As.blk (w.heap.size + 2) 3 [.int .i64 ((foldB s pre).1 : Nat)], As.blk (w.heap.size + 1) 3 [.int .i64 s]])
      (fun _ _ _ => False)
      (fun s X Y row hs hg hr => sep_turn hs (by intro A hA; simp only [List.mem_cons, List.not_mem_nil, or_false] at hA; rcases hA with rfl | rfl | rfl <;> exact celB _ _ _) hg (fun r e => ⟨Nat.le_trans KK.out.le (hr r e).1, (hr r e).2⟩))
      (fun _ _ _ _ _ hs _ _ => hs)
      (KK.out.tail.sub (List.Sublist.cons_cons _ (List.Sublist.cons_cons _ (List.Sublist.cons_cons _ (List.nil_sublist _)))))
      (fun x a' W => ∃ Bx, Blk W Bx 86 [.int .i64 x.r.sec, .int .i64 x.r.row, .int .i64 x.r.first, .int .i64 x.r.many] ∧ a' = { tmps := #[.agg #[.int .i64 v.sh, .int .i64 v.ttl, .int .i64 v.ses, .slice A v.secs.length c], .int .i64 s, .pointer (some ⟨w.heap.size, 0, none⟩), .pointer (some ⟨w.heap.size + 1, 0, none⟩), .pointer (some ⟨w.heap.size + 2, 0, none⟩), .pointer (some ⟨w.heap.size + 3, 0, none⟩), .int .i64 0, .int .i64 0, .int .i64 0, .pointer (some ⟨Bx, 0, none⟩), .tuple #[.int .i64 0, .int .i64 0], .agg #[.int .i64 v.sh, .int .i64 v.ttl, .int .i64 v.ses, .slice A v.secs.length c], .tuple #[.int .i64 0, .int .i64 0], .int .i64 0, .int .i64 0, .int .i64 0, .bool false, undef, .agg #[.int .i64 v.sh, .int .i64 v.ttl, .int .i64 v.ses, .slice A v.secs.length c], .func (.func 60) #[] #[.pointer (some ⟨g3, 0, none⟩)], .agg #[.int .i64 x.r.sec, .int .i64 x.r.row, .int .i64 x.r.first, .int .i64 x.r.many], undef, undef, undef, undef, undef, undef, undef, undef, undef, undef, undef, undef, undef, undef, undef, undef], defers := [] })
      (fun x a' _ X Y row hs hg hr => by obtain ⟨Bx, h1, h2⟩ := hs; exact ⟨Bx, blk_turn h1 hg (fun r e => (hr r e).2), h2⟩)
      ?assign ?body ?done ?stop
    case assign =>
      rintro l pre x W K hI hK
      simp only [encR]
      gi_wp2
      exact hK _ _ ((KeepsOthers.alloc _ _).from _) ((Below.refl _ W).alloc hI.le _) (hI.ext ((Ext.refl W).alloc _)) ⟨W.heap.size, Blk.new W _ _, rfl⟩
    case body =>
      rintro l pre x a' W hl _ hI ⟨Bx, hB, rfl⟩ hlt
      obtain ⟨r0, r1, r2, r3, rz⟩ := blk4 hB
      have h128 : pre.length ≤ 128 := by have := HXL.out; omega
      have hsb := foldB_le s pre
      have hmb := x.many
      have HSN := hide (foldB_snoc s pre x)
      have HI := hide hI
      have HSM : (foldB s pre).2 ≤ 8192 := by omega
      obtain ⟨t1, ht1⟩ : ∃ t, (foldB s pre).1 = t := ⟨_, rfl⟩
      obtain ⟨t2, ht2⟩ : ∃ t, (foldB s pre).2 = t := ⟨_, rfl⟩
      have hfd : foldB s pre = (t1, t2) := by rw [← ht1, ← ht2]
      rw [hfd] at HSN HI
      rw [ht2] at HSM
      have p1 := (HI.out.blk (g := w.heap.size + 1) (e := 3) (List.Mem.tail _ (List.Mem.tail _ (List.Mem.head _)))).cell 0
      have p2 := (HI.out.blk (g := w.heap.size + 2) (e := 3) (List.Mem.tail _ (List.Mem.head _))).cell 0
      have f2 := (HI.out.blk (g := w.heap.size + 2) (e := 3) (List.Mem.tail _ (List.Mem.head _))).free 0
      have p3 := (HI.out.blk (g := w.heap.size + 3) (e := 3) (List.Mem.head _)).cell 0
      have f3 := (HI.out.blk (g := w.heap.size + 3) (e := 3) (List.Mem.head _)).free 0
      simp only [List.getElem?_cons_zero] at p1 p2 p3
      clear hI hsb ht1 ht2 hfd
      have low2 : w.heap.size ≤ (⟨w.heap.size + 2, 0, none⟩ : Addr).block := by show w.heap.size ≤ w.heap.size + 2; omega
      have low3 : w.heap.size ≤ (⟨w.heap.size + 3, 0, none⟩ : Addr).block := by show w.heap.size ≤ w.heap.size + 3; omega
      have L2 := hide low2
      have L3 := hide low3
      clear low2 low3
      by_cases hse : (x.r.sec : Int) = s
      · have e1 : ((x.r.sec : Int) != s) = false := by rw [hse]; exact bne_self_eq_false _
        by_cases ht0 : t2 = 0
        · have e2 : ((t2 : Int) == 0) = true := by rw [ht0]; rfl
          have HG : Hid (gOf (fun i _ => decide ((i : Int) = s)) (t1, t2) x.r = (x.r.first, t2 + x.r.many)) := hide (by
            unfold gOf; rw [if_pos (decide_eq_true hse), if_pos ht0])
          clear hse ht0
          gi_wp2
          refine ⟨((KeepsOthers.setCell _ _ _).trans (KeepsOthers.setCell _ _ _)).from _, ((Below.refl _ W).setCell L2.out _).setCell L3.out _, ?_⟩
          show Sep No w _ [As.blk (w.heap.size + 3) 3 [.int .i64 ((foldB s (pre ++ [x])).2 : Nat)], As.blk (w.heap.size + 2) 3 [.int .i64 ((foldB s (pre ++ [x])).1 : Nat)], As.blk (w.heap.size + 1) 3 [.int .i64 s]]
          rw [HSN.out, HG.out, Int.natCast_add]
          exact (HI.out.cell (L1 := [_]) 0 _).cell (L1 := []) 0 _
        · have e2 : ((t2 : Int) == 0) = false := beq_eq_false_iff_ne.2 (by omega)
          have HG : Hid (gOf (fun i _ => decide ((i : Int) = s)) (t1, t2) x.r = (t1, t2 + x.r.many)) := hide (by
            unfold gOf; rw [if_pos (decide_eq_true hse), if_neg ht0])
          clear hse ht0
          gi_wp2
          refine ⟨(KeepsOthers.setCell _ _ _).from _, (Below.refl _ W).setCell L3.out _, ?_⟩
          show Sep No w _ [As.blk (w.heap.size + 3) 3 [.int .i64 ((foldB s (pre ++ [x])).2 : Nat)], As.blk (w.heap.size + 2) 3 [.int .i64 ((foldB s (pre ++ [x])).1 : Nat)], As.blk (w.heap.size + 1) 3 [.int .i64 s]]
          rw [HSN.out, HG.out, Int.natCast_add]
          exact HI.out.cell (L1 := []) 0 _
      · have e1 : ((x.r.sec : Int) != s) = true := bne_iff_ne.2 hse
        have HG : Hid (gOf (fun i _ => decide ((i : Int) = s)) (t1, t2) x.r = (t1, t2)) := hide (by
          unfold gOf; rw [if_neg (by show ¬ decide ((x.r.sec : Int) = s) = true; rw [decide_eq_false hse]; exact Bool.false_ne_true)])
        clear hse
        gi_wp2
        refine ⟨KeepsFrom.refl _ _, Below.refl _ _, ?_⟩
        show Sep No w _ [As.blk (w.heap.size + 3) 3 [.int .i64 ((foldB s (pre ++ [x])).2 : Nat)], As.blk (w.heap.size + 2) 3 [.int .i64 ((foldB s (pre ++ [x])).1 : Nat)], As.blk (w.heap.size + 1) 3 [.int .i64 s]]
        rw [HSN.out, HG.out]
        exact HI.out
    case done =>
      rintro D ys W hD rfl hI hK
      rw [← foldB_rows HXS.out] at HOF HOB
      obtain ⟨t1, ht1⟩ : ∃ t, (foldB s ys).1 = t := ⟨_, rfl⟩
      obtain ⟨t2, ht2⟩ : ∃ t, (foldB s ys).2 = t := ⟨_, rfl⟩
      have hfd : foldB s ys = (t1, t2) := by rw [← ht1, ← ht2]
      have HI := hide hI
      rw [hfd] at HOF HOB HI
      clear hI ht1 ht2 hfd
      have HK := hide hK
      clear hK
      have p2 := (HI.out.blk (g := w.heap.size + 2) (e := 3) (List.Mem.tail _ (List.Mem.head _))).cell 0
      have f2 := (HI.out.blk (g := w.heap.size + 2) (e := 3) (List.Mem.tail _ (List.Mem.head _))).free 0
      have p3 := (HI.out.blk (g := w.heap.size + 3) (e := 3) (List.Mem.head _)).cell 0
      have f3 := (HI.out.blk (g := w.heap.size + 3) (e := 3) (List.Mem.head _)).free 0
      simp only [List.getElem?_cons_zero] at p2 p3
      by_cases ht0 : t2 = 0
      · have e2 : ((t2 : Int) == 0) = true := by rw [ht0]; rfl
        have HE := hide (HOB.out ht0)
        clear ht0
        gi_wp2
        have K5 : Sep No w _ [As.blk (w.heap.size + 3) 3 [.int .i64 0], As.blk (w.heap.size + 2) 3 [.int .i64 0], As.blk (w.heap.size + 1) 3 [.int .i64 s]] := (HI.out.cell (L1 := [_]) 0 (.int .i64 0)).cell (L1 := []) 0 (.int .i64 0)
        have hK2 := ((KeepsOthers.setCell W ⟨w.heap.size + 2, 0, none⟩ (.int .i64 0)).trans (KeepsOthers.setCell _ ⟨w.heap.size + 3, 0, none⟩ (.int .i64 0))).same D _ HK.out rfl
        have K6 := sep_turn K5 (by intro A hA; simp only [List.mem_cons, List.not_mem_nil, or_false] at hA; rcases hA with rfl | rfl | rfl <;> exact celB _ _ _) (grownBy_putObj' _ D (.deferred none)) (fun r e => by cases e; exact ⟨Nat.le_trans KK.out.le hD, _, hK2, rfl⟩)
        refine ⟨by simp, .inl ⟨_, _, rfl, run_takeDeferred hK2, ?_⟩⟩
        have r3 := (K6.blk (g := w.heap.size + 3) (e := 3) (List.Mem.head _)).cell 0
        have r2 := (K6.blk (g := w.heap.size + 2) (e := 3) (List.Mem.tail _ (List.Mem.head _))).cell 0
        simp only [List.set, List.getElem?_cons_zero] at r2 r3
        refine ⟨.tuple #[.int .i64 0, .int .i64 0, .int .i64 4], by simp [results, Tryd.results48, go_sem, r2, r3], ?_, K6.toExt⟩
        rw [HE.out]
      · have e2 : ((t2 : Int) == 0) = false := beq_eq_false_iff_ne.2 (by omega)
        have HE := hide (HOF.out ht0)
        clear ht0
        gi_wp2
        refine wpIn_wide.2 ?_
        refine wp_region_wmr (RT.fr No) [0, 1, 2, 3, 4] (by kernel_rfl) (by kernel_rfl) (by kernel_rfl) (by kernel_rfl) ?_
        have H1 := HI.out.drew
        have hKd : W.drew.heap[D]? = some (.deferred (some [])) := HK.out
        clear HI HK p2 f2 p3 f3
        generalize World.drew _ = wd at *
        have B3 := H1.blk (g := w.heap.size + 3) (e := 3) (List.Mem.head _)
        have B2 := H1.blk (g := w.heap.size + 2) (e := 3) (List.Mem.tail _ (List.Mem.head _))
        have nn : ∀ k, ¬ No k := fun _ h => h
        refine wmr_ld1 rfl rfl 3 (.tmp 4) rfl rfl (fun w' h' => h'.cell (B2.cell 0) (nn _)) _ Tryd.underlying3 rfl ?_
        refine wmr_ld1 rfl rfl 3 (.tmp 5) rfl rfl (fun w' h' => h'.cell (B3.cell 0) (nn _)) _ Tryd.underlying3 rfl ?_
        refine wmr_ext rfl rfl (fun K hK => ?_)
        rw [if_pos (show Region.wanted _ _ = true from rfl)]
        refine wp_st1Same B2 3 (.tmp 4) (.tmp 35) rfl rfl rfl (by kernel_rfl) rfl rfl (hK _ _ (Fr.refl _ _) ?_)
        clear hK K
        refine wmr_ext rfl rfl (fun K hK => ?_)
        rw [if_pos (show Region.wanted _ _ = true from rfl)]
        refine wp_st1Same B3 3 (.tmp 5) (.tmp 36) rfl rfl rfl (by kernel_rfl) rfl rfl (hK _ _ (Fr.refl _ _) ?_)
        clear hK K
        iterate 1 (refine wmr_rd rfl rfl (fun K hK => ?_); go_simp; refine hK _ ?_; clear hK K)
        refine wmr_nil ?_
        clear B2 B3 nn
        have HKD := hide hKd
        clear hKd
        gi_wp2
        have K6 := sep_turn H1 (by intro A hA; simp only [List.mem_cons, List.not_mem_nil, or_false] at hA; rcases hA with rfl | rfl | rfl <;> exact celB _ _ _) (grownBy_putObj' _ D (.deferred none)) (fun r e => by cases e; exact ⟨Nat.le_trans KK.out.le hD, _, HKD.out, rfl⟩)
        refine ⟨by simp, .inl ⟨_, _, rfl, run_takeDeferred HKD.out, ?_⟩⟩
        have r3 := (K6.blk (g := w.heap.size + 3) (e := 3) (List.Mem.head _)).cell 0
        have r2 := (K6.blk (g := w.heap.size + 2) (e := 3) (List.Mem.tail _ (List.Mem.head _))).cell 0
        simp only [List.getElem?_cons_zero] at r2 r3
        refine ⟨.tuple #[.int .i64 (t1 : Nat), .int .i64 (t2 : Nat), .int .i64 0], by simp [results, Tryd.results48, go_sem, r2, r3], ?_, K6.toExt⟩
        rw [HE.out]
    case stop =>
      rintro D c pre W _ _ h _
      exact h.elim
  · have HE : Hid (ofE v s = (0, 0, (chk v).2)) := hide (by unfold ofE; rw [if_neg hz])
    have e1 : ((chk v).2 != 0) = true := bne_iff_ne.2 hz
    clear hz
    gi_wp2_with fail
    have K5 := (K1.out.cell (L1 := [_]) 0 (.int .i64 0)).cell (L1 := []) 0 (.int .i64 0)
    have r3 := (K5.blk (g := w.heap.size + 3) (e := 3) (List.Mem.head _)).cell 0
    have r2 := (K5.blk (g := w.heap.size + 2) (e := 3) (List.Mem.tail _ (List.Mem.head _))).cell 0
    simp only [List.set, List.getElem?_cons_zero] at r2 r3
    refine ⟨.tuple #[.int .i64 0, .int .i64 0, .int .i64 (chk v).2], by simp [results, Tryd.results48, go_sem, r2, r3], ?_, K5.toExt⟩
    rw [HE.out]
end Go.Proofs.YtkhinagagncblaaDoor
