/- Seats side by side: the best choice, by the program. -/
import Derived.Test.YtkhinagagncblaaDoorA12
import Derived.Laws.EntriesVeiled
namespace Go.Proofs.YtkhinagagncblaaDoor
open Go.RowKit Go.Gr Go.Ad
set_option linter.unusedVariables false
set_option linter.unusedSimpArgs false
attribute [local go_sem] Oper.semAt_some rdOp rdAt rdUpon Cls forall_fr
/-- what a choice leaves alone, more than before -/
def moreI (x : Run × Nat × Nat) : Int := oneE (x.2.1 : Nat) + oneE (x.2.2 : Nat) - oneE (x.1.many : Nat)
def stB (o : Option (Run × Nat × Nat)) (x : Run × Nat × Nat) : Option (Run × Nat × Nat) := match o with
  | none => some x
  | some y => if moreI x < moreI y then some x else some y
/-- the best one, the first of those -/
def bestL (l : List (Run × Nat × Nat)) : Option (Run × Nat × Nat) := l.foldl stB none
theorem bestL_snoc (l : List (Run × Nat × Nat)) (x : Run × Nat × Nat) : bestL (l ++ [x]) = stB (bestL l) x := by simp [bestL]
def choV (o : Option (Run × Nat × Nat)) : List Value := match o with
  | none => [.int .i64 0, .int .i64 0, .int .i64 0, .int .i64 0, .int .i64 0]
  | some x => choC x.1 x.2.1 x.2.2
theorem choC_one (r : Run) (k b : Nat) : ∀ v ∈ choC r k b, v.oneCell' = true := by
  intro v hv
  simp only [choC, List.mem_cons, List.not_mem_nil, or_false] at hv
  rcases hv with rfl | rfl | rfl | rfl | rfl <;> rfl
theorem oneE_01 (n : Int) : oneE n = 0 ∨ oneE n = 1 := by unfold oneE; split <;> simp
set_option maxHeartbeats 4000000 in
theorem more_any (r : Run) (k b : Nat) (w : World) : Calls Tryd.prog 51 #[.agg #[.int .i64 (r.row : Nat), .int .i64 (r.first : Nat), .int .i64 (r.many : Nat), .int .i64 (k : Nat), .int .i64 (b : Nat)]] w fun e w' => e = .returned (.int .i64 (moreI (r, k, b))) ∧ Ext w w' := by
  have K0 := (Sep.refl No w).add 66 [.int .i64 (r.row : Nat), .int .i64 (r.first : Nat), .int .i64 (r.many : Nat), .int .i64 (k : Nat), .int .i64 (b : Nat)]
  go_enter Tryd.func51, Tryd.ntmps51
  go_upto_region 1 with fail
  generalize w.alloc _ = w1 at K0 ⊢
  generalize w.heap.size = g1 at K0 ⊢
  refine wp_region_wm [0, 1, 3, 4, 7, 8, 9, 2, 5, 6, 10, 11, 12] (by kernel_rfl) (by kernel_rfl) (by kernel_rfl) (by kernel_rfl) ?_
  have K1 := K0.drew
  clear K0
  generalize World.drew _ = wd at *
  have b0 := (K1.blk (List.Mem.head _)).cell 2
  have b3 := (K1.blk (List.Mem.head _)).cell 3
  have b4 := (K1.blk (List.Mem.head _)).cell 4
  iterate 1 (refine wm_rd rfl rfl (fun K hK => ?_); go_simp; refine hK _ ?_; clear hK K)
  refine wm_ld1 rfl rfl 3 (.tmp 3) rfl rfl b3 _ Tryd.underlying3 rfl ?_
  iterate 1 (refine wm_rd rfl rfl (fun K hK => ?_); go_simp; refine hK _ ?_; clear hK K)
  refine wm_ld1 rfl rfl 3 (.tmp 6) rfl rfl b4 _ Tryd.underlying3 rfl ?_
  iterate 2 (refine wm_rd rfl rfl (fun K hK => ?_); go_simp; refine hK _ ?_; clear hK K)
  refine wm_ld1 rfl rfl 3 (.tmp 11) rfl rfl b0 _ Tryd.underlying3 rfl ?_
  clear b0 b3 b4
  have KK := hide K1.toExt
  clear K1
  refine wm_ext rfl rfl (fun K hK => ?_)
  go_simp
  go_at_call 33
  (with_reducible refine (alone_one _ _).mono ?_)
  rintro e w2 ⟨rfl, rfl⟩
  refine hK _ _ (Ext.refl _) ?_
  clear hK K
  refine wm_ext rfl rfl (fun K hK => ?_)
  go_simp
  go_at_call 33
  (with_reducible refine (alone_one _ _).mono ?_)
  rintro e w3 ⟨rfl, rfl⟩
  refine hK _ _ (Ext.refl _) ?_
  clear hK K
  have h1 := oneE_01 (k : Nat)
  have h2 := oneE_01 (b : Nat)
  have h3 := oneE_01 (r.many : Nat)
  have HM : Hid (moreI (r, k, b) = oneE (k : Nat) + oneE (b : Nat) - oneE (r.many : Nat)) := hide rfl
  generalize oneE (k : Nat) = x at *
  generalize oneE (b : Nat) = y at *
  have hx : 0 ≤ x ∧ x ≤ 1 := by omega
  have hy : 0 ≤ y ∧ y ≤ 1 := by omega
  have hz : 0 ≤ oneE (r.many : Nat) ∧ oneE (r.many : Nat) ≤ 1 := by omega
  clear h1 h2 h3
  have e1 : IntKind.i64.wrap (x + y) = x + y := by rw [Go.IntWalk.i64_left]; exact Go.IntWalk.wrap64_in _ (by omega)
  have e2 : IntKind.i64.wrap (x + y - oneE (r.many : Nat)) = x + y - oneE (r.many : Nat) := by rw [Go.IntWalk.i64_left]; exact Go.IntWalk.wrap64_in _ (by omega)
  iterate 1 (refine wm_rd rfl rfl (fun K hK => ?_); go_simp; refine hK _ ?_; clear hK K)
  refine wm_ext rfl rfl (fun K hK => ?_)
  go_simp
  go_at_call 33
  (with_reducible refine (alone_one _ _).mono ?_)
  rintro e w4 ⟨rfl, rfl⟩
  refine hK _ _ (Ext.refl _) ?_
  clear hK K
  generalize oneE (r.many : Nat) = z at *
  iterate 2 (refine wm_rd rfl rfl (fun K hK => ?_); go_simp; refine hK _ ?_; clear hK K)
  refine wm_nil ?_
  go_wp2_with fail
  go_ret
  exact ⟨by rw [HM.out]; rfl, KK.out⟩
theorem more_any' (r : Run) (k b : Nat) (w : World) : Calls Tryd.prog 51 #[.agg (choC r k b).toArray] w fun e w' => e = .returned (.int .i64 (moreI (r, k, b))) ∧ Ext w w' := more_any r k b w
theorem more_any2 (r : Run) (k b : Nat) (w : World) : Calls Tryd.prog 51 #[.agg (choV (some (r, k, b))).toArray] w fun e w' => e = .returned (.int .i64 (moreI (r, k, b))) ∧ Ext w w' := more_any r k b w
theorem choMem' {w0 w : World} {v' : Value} {l : List Run} {n b1 b2 : Nat} {B : Option Addr} {bc : Nat} (hO : OwnM w 47 3 (.slice B l.length bc) (runV l))
    (h2 : w.cell? ⟨b1, 0, none⟩ = some (.slice B l.length bc)) (h3 : w.cell? ⟨b2, 0, none⟩ = some (.int .i64 (n : Nat))) : ChoMem w B bc l n b1 b2 (At b2) := by
  obtain ⟨B', c', e, _, hc', _⟩ := hO.form
  rw [runV_len] at e hc'
  simp only [Value.slice.injEq] at e
  obtain ⟨rfl, _, rfl⟩ := e
  refine ⟨fun i r hr => ?_, hc', h2, h3, rfl⟩
  obtain ⟨g, c, e, _, h5⟩ := hO.at5 (by decide) (runV_at hr)
  simp only [Value.slice.injEq] at e
  obtain ⟨rfl, _, rfl⟩ := e
  refine ⟨g, rfl, ?_, h5⟩
  rcases hO.row.2 with ⟨hv, _⟩ | ⟨g', cap, cur, hv, _, hh, _⟩
  · cases hv
  · simp only [Value.slice.injEq, Option.some.injEq, Addr.mk.injEq] at hv
    obtain ⟨⟨rfl, _⟩, _⟩ := hv
    exact ⟨_, _, hh⟩
theorem results_cs {P : Program} {fn : Func} {p q : Tmp} {t1 t2 : TypeId} (h : fn.results = #[.cell p t1, .cell q t2]) (tmps : Array Value) (w : World) (g1 : Nat) (e1 : TypeId) (c1 : List Value) (d1 : TypeDesc) {d2 : TypeDesc} {ad : Addr} {v : Value}
    (hp : tmps.getD p undef = .pointer (some ⟨g1, 0, none⟩)) (hq : tmps.getD q undef = .pointer (some ad)) (hB1 : Blk w g1 e1 c1) (hc : w.cell? ad = some v)
    (hu1 : P.underlying t1 = some d1) (hd1 : (match d1 with | .struct _ | .array _ _ => true | _ => false) = true) (hi1 : (P.info? t1).map (·.size) = some c1.length)
    (hu2 : P.underlying t2 = some d2) (hd2 : (match d2 with | .struct _ | .array _ _ => false | _ => true) = true) :
    (results fn tmps).run P w = .ok (.tuple #[.agg c1.toArray, v]) w := by
  have r1 := run_loadVar_row (P := P) w g1 e1 t1 c1.toArray (0, 0) d1 hB1 hu1 hd1 (by simpa using hi1)
  have r2 := run_loadVar_one (P := P) (w := w) t2 ad v d2 hu2 hd2 hc
  rw [Array.getD_eq_getD_getElem?] at hp hq
  simp only [results, h]
  simp [Sem.run_bind, Result.andThen, hp, hq, asAddr, r1, r2]
theorem choV_one (o : Option (Run × Nat × Nat)) : ∀ v ∈ choV o, v.oneCell' = true := by
  cases o with
  | none =>
    intro v hv
    simp only [choV, List.mem_cons, List.not_mem_nil, or_false] at hv
    rcases hv with rfl | rfl | rfl | rfl | rfl <;> rfl
  | some x => exact choC_one _ _ _
theorem wp_stSameR {P : Program} {w : World} {o : Oper} {a : Act} {Q : Exit → Act → World → Prop} {K : Act → World → Prop} {g : Nat} {t : TypeId} {cs : List Value} (hB : Blk w g t cs) (ty : TypeId) (x y : Operand) (ho : o.op = .store ty x y)
    (hx : a.eval x = .pointer (some ⟨g, 0, none⟩)) (hy : a.eval y = .agg cs.toArray)
    (hi : (P.info? ty).map (·.size) = some cs.length) (h1 : ∀ v ∈ cs, v.oneCell' = true)
    (h : K (a.put o.dst undef) w) : o.wp P a w K Q :=
  wp_store_row ty x y ho g cs.toArray hx hy t cs.toArray hB (by simpa using hi) rfl (Array.all_eq_true_iff_forall_mem.2 (fun v hv => h1 v (by simpa using hv))) (by rw [setRow_self w g cs.toArray t (0, 0) hB]; exact h)
theorem sep_pick {G : Nat → Prop} {w0 w : World} {L L' M : List As} (h : Sep G w0 w L) (p : L.Perm L') (s : M.Sublist L') : Sep G w0 w M := (h.perm p).sub s
theorem perm_be {a b c d e : As} : [a, b, c, d, e].Perm [e, d, a, c, b] :=
  (List.perm_append_comm (l₁ := [a, b, c]) (l₂ := [d, e])).trans ((List.Perm.swap e d _).trans (List.Perm.cons _ (List.Perm.cons _ (List.Perm.cons _ (List.Perm.swap _ _ _)))))
theorem choV_len (o : Option (Run × Nat × Nat)) : (choV o).length = 5 := by cases o <;> rfl
set_option maxRecDepth 100000 in
set_option maxHeartbeats 8000000 in
theorem ad_best (l : List Run) (B : Option Addr) (bc n : Nat) (w : World) (hO : OwnM w 47 3 (.slice B l.length bc) (runV l)) (hsm : Small l) (hl : l.length ≤ 2000) (hn1 : 1 ≤ n) (hn64 : n ≤ 64) :
    Calls Tryd.prog 38 #[.slice B l.length bc, .int .i64 (n : Nat)] w fun e w' => e = .returned (.tuple #[.agg (choV (bestL (chs l n))).toArray, .bool (bestL (chs l n)).isSome]) ∧ Ext w w' := by
  have HO := hide (fun (y : World) (k : Ext w y) => hO.ext k)
  have HSML := hide hsm
  have HFEW := hide hl
  clear hO hsm hl
  have K0 := (((Sep.refl No w).add2 66 4 [.int .i64 0, .int .i64 0, .int .i64 0, .int .i64 0, .int .i64 0] [.bool false]).add 81 [.func (.func 51) #[] #[]])
  simp only [World.size_alloc, Nat.add_assoc, Nat.reduceAdd] at K0
  refine (callsIn_wide (n := 6)).1 ?_
  refine callsIn_of_wp_marks Tryd.func38 rfl trivial ?_ rfl
  simp only [Tryd.ntmps38, List.size_toArray, List.length_cons, List.length_nil, Nat.reduceAdd, Nat.reduceSub, Array.replicate_succ, Array.replicate_zero, List.push_toArray, List.append_toArray, List.nil_append, List.cons_append]
  have hf36 : Fence.wide.fn 36 := trivial
  gi_wp2_with fail
  refine (choices_in Fence.wide _ trivial rfl _ _ _ _ _).mono ?_
  rintro e w4 ⟨rfl, rfl⟩
  have K4 := (K0.add2 30 3 [.slice B l.length bc] [.int .i64 (n : Nat)])
  simp only [World.size_alloc, Nat.add_assoc, Nat.reduceAdd] at K4 ⊢
  clear K0
  generalize World.alloc _ _ = w4 at K4 ⊢
  have KK := hide K4
  clear K4
  gi_wp2_with fail
  obtain ⟨xs, hxs⟩ := choices_ex HSML.out n
  have HXS := hide hxs
  clear hxs
  refine wpIn_rangeFunc_ownH rfl (by decide) (gf := 50) (lb := #[.pointer (some ⟨w.heap.size + 3, 0, none⟩), .pointer (some ⟨w.heap.size + 4, 0, none⟩)]) rfl trivial (enters_of Tryd.func50 (by kernel_rfl) rfl)
    (cho_stops B bc (w.heap.size + 3) (w.heap.size + 4) l n hn1 hn64 (At (w.heap.size + 4)) HSML.out HFEW.out xs HXS.out w4 (choMem' (w0 := w) (v' := undef) (HO.out _ KK.out.toExt) ((KK.out.blk (g := w.heap.size + 3) (e := 30) (List.Mem.tail _ (List.Mem.head _))).cell 0) ((KK.out.blk (g := w.heap.size + 4) (e := 3) (List.Mem.head _)).cell 0)) (fun k hk => by cases hk; exact (KK.out.blk (g := w.heap.size + 4) (e := 3) (List.Mem.head _)).lt) 5 (by decide)) kpT_t (kpT_b (fun k hk => by cases hk; exact (KK.out.blk (g := w.heap.size + 4) (e := 3) (List.Mem.head _)).lt)) (Below.refl _ _) (fun _ => rfl)
    (fun pre W => Sep No w W ([As.blk w.heap.size 66 (choV (bestL (pre.map Cho.t))), As.blk (w.heap.size + 1) 4 [.bool (bestL (pre.map Cho.t)).isSome]] ++ [As.blk (w.heap.size + 4) 3 [.int .i64 (n : Nat)], As.blk (w.heap.size + 2) 81 [.func (.func 51) #[] #[]]]))
    (fun _ _ _ => False)
    (fun s X Y row hs hg hr => sep_turn hs (by intro A hA; simp only [List.cons_append, List.nil_append, List.mem_cons, List.not_mem_nil, or_false] at hA; rcases hA with rfl | rfl | rfl | rfl <;> exact celB _ _ _) hg (fun r e => ⟨Nat.le_trans KK.out.le (hr r e).1, (hr r e).2⟩))
    (fun _ _ _ _ _ hs _ _ => hs)
    (sep_pick KK.out perm_be (List.Sublist.cons_cons _ (List.Sublist.cons_cons _ (List.Sublist.cons_cons _ (List.Sublist.cons_cons _ (List.nil_sublist _))))))
    (fun x a' W => ∃ Bx, Blk W Bx 66 (choC x.r x.k x.b) ∧ a' = { tmps := #[.slice B l.length bc, .int .i64 n, undef, undef, .pointer (some ⟨w.heap.size, 0, none⟩), .pointer (some ⟨w.heap.size + 1, 0, none⟩), .pointer (some ⟨w.heap.size + 2, 0, none⟩), .pointer (some ⟨Bx, 0, none⟩), .slice B l.length bc, .int .i64 n, .func (.func 50) #[] #[.pointer (some ⟨w.heap.size + 3, 0, none⟩), .pointer (some ⟨w.heap.size + 4, 0, none⟩)], .agg #[.int .i64 (x.r.row : Nat), .int .i64 (x.r.first : Nat), .int .i64 (x.r.many : Nat), .int .i64 (x.k : Nat), .int .i64 (x.b : Nat)], undef, undef, undef, undef, undef, undef, undef, undef, undef, undef, undef, undef, undef, undef], defers := [] })
    (fun x a' _ X Y row hs hg hr => by obtain ⟨Bx, h1, h2⟩ := hs; exact ⟨Bx, blk_turn h1 hg (fun r e => (hr r e).2), h2⟩)
    ?assign ?body ?done ?stop
  case assign =>
    rintro l2 pre x W K hI hK
    simp only [encC]
    gi_wp2
    exact hK _ _ ((KeepsOthers.alloc _ _).from _) (kpT_ext ((Ext.refl W).alloc _) (fun k hk => by cases hk; exact (hI.blk (g := w.heap.size + 4) (e := 3) (List.Mem.tail _ (List.Mem.tail _ (List.Mem.head _)))).lt)) (hI.ext ((Ext.refl W).alloc _)) ⟨W.heap.size, Blk.new W _ _, rfl⟩
  case body =>
    rintro l2 pre x a' W hl _ hI ⟨Bx, hB, rfl⟩ hlt
    have HI := hide hI
    have HB := hide hB
    have HBS : Hid (bestL ((pre ++ [x]).map Cho.t) = stB (bestL (pre.map Cho.t)) (x.r, x.k, x.b)) := hide (by rw [List.map_append, List.map_singleton, bestL_snoc]; rfl)
    obtain ⟨o, ho⟩ : ∃ o, bestL (pre.map Cho.t) = o := ⟨_, rfl⟩
    rw [ho] at HI HBS
    clear hI hB ho
    refine wpIn_block ?_
    have H0 := (HI.out.sub (List.sublist_append_left _ _)).rebase
    have HF0 := HI.out.drew
    refine wpIn_seq ?_
    refine wpIn_round_wm [0, 1, 2, 3, 4, 6, 7, 5, 8, 9, 10] (fun a w h => h) rfl (by kernel_rfl) (by kernel_rfl) (by kernel_rfl) (by kernel_rfl) ?_
    have H1 := H0.drew
    have hBd : Blk W.drew Bx 66 (choC x.r x.k x.b) := HB.out
    clear H0
    generalize World.drew _ = wd at *
    have s0 := (H1.blk (g := w.heap.size + 1) (e := 4) (List.Mem.tail _ (List.Mem.head _))).cell 0
    refine wm_ld1 rfl rfl 4 (.tmp 5) rfl rfl s0 _ Tryd.underlying4 rfl ?_
    clear s0
    cases o with
    | none =>
      iterate 6 (refine wm_rd rfl rfl (fun K hK => ?_); go_simp; refine hK _ ?_; clear hK K)
      iterate 2 (refine wm_ext rfl rfl (fun K hK => ?_); go_simp; refine hK _ _ (Ext.refl _) ?_; clear hK K)
      iterate 2 (refine wm_rd rfl rfl (fun K hK => ?_); go_simp; refine hK _ ?_; clear hK K)
      refine wm_nil ?_
      refine wpIn_cond_true rfl ?_
      clear HF0
      have tok1 : True := trivial
      refine wpIn_round (fun a w h => h) rfl ?_
      obtain ⟨y0, y1, y2, y3, y4, yz⟩ := blk5 hBd
      go_wp2_with (first
        | (have zz := tok1; clear zz tok1; refine wpList_stS [] H1 rfl 66 (.tmp 4) (.tmp 23) rfl rfl (cs := choC x.r x.k x.b) rfl (by kernel_rfl) (choV_len _) (choC_one _ _ _) ?_; intro w8 K8; dsimp only [List.nil_append, List.cons_append] at K8)
        | (refine wpList_st1S [_] K8 rfl 4 (.tmp 5) (.const (.bool true)) rfl rfl rfl (by kernel_rfl) Nat.zero_lt_one rfl ?_; intro w9 K9; dsimp only [List.nil_append, List.cons_append, List.set] at K9))
      obtain ⟨h1, h2, h3⟩ := body_post (B := w4.heap.size) (t := 47) (S := At (w.heap.size + 4)) HI.out K9 (by intro A hA; simp only [List.mem_cons, List.not_mem_nil, or_false] at hA; rcases hA with rfl | rfl <;> exact typB _ _ _ (by decide)) (fun k hk => ⟨_, List.Mem.head _, hk⟩)
      refine ⟨h1, h2, ?_⟩
      show Sep No w _ _
      rw [HBS.out]
      exact h3
    | some y =>
      obtain ⟨yr, yk, yb⟩ := y
      have f2 := (HF0.blk (g := w.heap.size + 2) (e := 81) (List.Mem.tail _ (List.Mem.tail _ (List.Mem.tail _ (List.Mem.head _))))).cell 0
      iterate 2 (refine wm_rd rfl rfl (fun K hK => ?_); go_simp; refine hK _ ?_; clear hK K)
      refine wm_ld1 rfl rfl 81 (.tmp 6) rfl rfl f2 _ Tryd.underlying81 rfl ?_
      refine wm_ldX rfl rfl 66 (.tmp 7) rfl (hBd.at5) rfl _ Tryd.underlying66 rfl (by kernel_rfl) ?_
      refine wm_ld1 rfl rfl 81 (.tmp 6) rfl rfl f2 _ Tryd.underlying81 rfl ?_
      refine wm_ldS H1 (List.Mem.head _) rfl rfl 66 (.tmp 4) rfl rfl _ Tryd.underlying66 rfl (by kernel_rfl) ?_
      clear f2
      have e51 := enters_of Tryd.func51 (by kernel_rfl) rfl
      refine wm_ext rfl rfl (fun K hK => ?_)
      go_simp
      (with_reducible refine (more_any' x.r x.k x.b _).mono ?_)
      rintro e w5 ⟨rfl, hx⟩
      refine hK _ _ hx ?_
      have H2 := H1.ext hx
      have hBe : Blk w5 Bx 66 (choC x.r x.k x.b) := hBd.ext hx
      clear hK K H1 hBd hx
      refine wm_ext rfl rfl (fun K hK => ?_)
      go_simp
      (with_reducible refine (more_any2 yr yk yb _).mono ?_)
      rintro e w6 ⟨rfl, hx⟩
      refine hK _ _ hx ?_
      have H3 := H2.ext hx
      have hBd : Blk w6 Bx 66 (choC x.r x.k x.b) := hBe.ext hx
      clear hK K H2 hBe hx e51
      by_cases hmo : moreI (x.r, x.k, x.b) < moreI (yr, yk, yb)
      · have HMO := hide hmo
        iterate 2 (refine wm_rd rfl rfl (fun K hK => ?_); go_simp; refine hK _ ?_; clear hK K)
        refine wm_nil ?_
        refine wpIn_cond_true rfl ?_
        have H1 := H3
        clear H3 hmo
        clear HF0
        have tok1 : True := trivial
        refine wpIn_round (fun a w h => h) rfl ?_
        obtain ⟨y0, y1, y2, y3, y4, yz⟩ := blk5 hBd
        go_wp2_with (first
          | (have zz := tok1; clear zz tok1; refine wpList_stS [] H1 rfl 66 (.tmp 4) (.tmp 23) rfl rfl (cs := choC x.r x.k x.b) rfl (by kernel_rfl) (choV_len _) (choC_one _ _ _) ?_; intro w8 K8; dsimp only [List.nil_append, List.cons_append] at K8)
          | (refine wpList_st1S [_] K8 rfl 4 (.tmp 5) (.const (.bool true)) rfl rfl rfl (by kernel_rfl) Nat.zero_lt_one rfl ?_; intro w9 K9; dsimp only [List.nil_append, List.cons_append, List.set] at K9))
        obtain ⟨h1, h2, h3⟩ := body_post (B := w4.heap.size) (t := 47) (S := At (w.heap.size + 4)) HI.out K9 (by intro A hA; simp only [List.mem_cons, List.not_mem_nil, or_false] at hA; rcases hA with rfl | rfl <;> exact typB _ _ _ (by decide)) (fun k hk => ⟨_, List.Mem.head _, hk⟩)
        refine ⟨h1, h2, ?_⟩
        show Sep No w _ _
        rw [HBS.out]
        rw [show stB (some (yr, yk, yb)) (x.r, x.k, x.b) = some (x.r, x.k, x.b) from if_pos HMO.out]
        exact h3
      · have HMO := hide hmo
        iterate 2 (refine wm_rd rfl rfl (fun K hK => ?_); go_simp; refine hK _ ?_; clear hK K)
        refine wm_nil ?_
        refine wpIn_cond_false rfl ?_
        obtain ⟨h1, h2, h3⟩ := body_post (B := w4.heap.size) (t := 47) (S := At (w.heap.size + 4)) HI.out H3 (by intro A hA; simp only [List.mem_cons, List.not_mem_nil, or_false] at hA; rcases hA with rfl | rfl <;> exact typB _ _ _ (by decide)) (fun k hk => ⟨_, List.Mem.head _, hk⟩)
        clear hmo
        gi_wp2
        refine ⟨h1, h2, ?_⟩
        show Sep No w _ _
        rw [HBS.out, show stB (some (yr, yk, yb)) (x.r, x.k, x.b) = some (yr, yk, yb) from if_neg (by first | exact HMO.out | exact Int.not_lt.2 HMO.out)]
        exact h3
  case done =>
    rintro D ys W hD rfl hI hK
    have HI := hide hI
    have HK := hide hK
    have HB : Hid (ys.map Cho.t = chs l n) := HXS
    rw [HB.out] at HI
    obtain ⟨o, ho⟩ : ∃ o, bestL (chs l n) = o := ⟨_, rfl⟩
    have HO2 := hide ho
    rw [ho] at HI
    clear hI hK ho
    gi_wp2
    refine wpIn_wide.2 ?_
    refine wp_region_wmr (RT.fr No) [0, 1, 2, 3] (by kernel_rfl) (by kernel_rfl) (by kernel_rfl) (by kernel_rfl) ?_
    have H1 := HI.out.drew
    have hKd : W.drew.heap[D]? = some (.deferred (some [])) := HK.out
    clear HI HK
    generalize World.drew _ = wd at *
    have B4 := H1.blk (g := w.heap.size) (e := 66) (List.Mem.head _)
    have B5 := H1.blk (g := w.heap.size + 1) (e := 4) (List.Mem.tail _ (List.Mem.head _))
    have nn : ∀ k, ¬ No k := fun _ h => h
    refine wmr_ldR rfl rfl 66 (.tmp 4) rfl (off := 0) (cs := choV o) (fun w' h' => h'.blk B4 (nn _)) (fun j v h => by rwa [Nat.zero_add]) rfl _ Tryd.underlying66 rfl (by rw [choV_len]; kernel_rfl) ?_
    refine wmr_ld1 rfl rfl 4 (.tmp 5) rfl rfl (fun w' h' => h'.cell (B5.cell 0) (nn _)) _ Tryd.underlying4 rfl ?_
    refine wmr_ext rfl rfl (fun K hK => ?_)
    rw [if_pos (show Region.wanted _ _ = true from rfl)]
    refine wp_stSameR B4 66 (.tmp 4) (.tmp 24) rfl rfl rfl (by rw [choV_len]; kernel_rfl) (choV_one o) (hK _ _ (Fr.refl _ _) ?_)
    clear hK K
    refine wmr_ext rfl rfl (fun K hK => ?_)
    rw [if_pos (show Region.wanted _ _ = true from rfl)]
    refine wp_st1Same B5 4 (.tmp 5) (.tmp 25) rfl rfl rfl (by kernel_rfl) rfl rfl (hK _ _ (Fr.refl _ _) ?_)
    clear hK K
    refine wmr_nil ?_
    clear B4 B5 nn
    have HKD := hide hKd
    clear hKd
    gi_wp2
    have K6 := sep_turn H1 (by intro A hA; simp only [List.cons_append, List.nil_append, List.mem_cons, List.not_mem_nil, or_false] at hA; rcases hA with rfl | rfl | rfl | rfl <;> exact celB _ _ _) (grownBy_putObj' _ D (.deferred none)) (fun r e => by cases e; exact ⟨Nat.le_trans KK.out.le hD, _, HKD.out, rfl⟩)
    refine ⟨by simp, .inl ⟨_, _, rfl, run_takeDeferred HKD.out, ?_⟩⟩
    refine ⟨_, results_cs rfl _ _ (w.heap.size) 66 (choV o) _ rfl rfl (K6.blk (List.Mem.head _)) ((K6.blk (g := w.heap.size + 1) (e := 4) (List.Mem.tail _ (List.Mem.head _))).cell 0) Tryd.underlying66 rfl (by rw [choV_len]; kernel_rfl) Tryd.underlying4 rfl, ?_, K6.toExt⟩
    rw [HO2.out]
  case stop =>
    rintro D c pre W _ _ h _
    exact h.elim
end Go.Proofs.YtkhinagagncblaaDoor
