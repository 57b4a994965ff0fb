/- Venues: how many seats there are, and those of a section, by the program. -/
import Derived.Test.YtkhinagagncblaaDoorA5
namespace Go.Proofs.YtkhinagagncblaaDoor
open Go.RowKit Go.Gr Go.Ad
set_option linter.unusedVariables false
set_option linter.unusedSimpArgs false
attribute [local go_sem] Oper.semAt_some
/-- what it owns is cells -/
def Cel (A : As) : Prop := ∀ (W : World) (k : Nat), A.p W → A.fp k → ∃ o : Obj, W.heap[k]? = some o ∧ o.isCells = true
theorem celB (g : Nat) (e : TypeId) (cs : List Value) : Cel (As.blk g e cs) := fun W k h hk => by cases hk; exact ⟨_, h, rfl⟩
theorem celM (e : TypeId) (k : Nat) (v : Value) (rows : List (List Value)) : Cel (As.ownM e k v rows) := fun W i h hi => by
  rcases h.row.2 with ⟨rfl, _⟩ | ⟨g, cap, cur, rfl, _, hh, _⟩
  · cases hi
  · cases hi; exact ⟨_, hh, rfl⟩
theorem celO (e : TypeId) (v : Value) (xs : List Value) : Cel (As.own e v xs) := fun W i h hi => by
  rcases h.2 with ⟨rfl, _⟩ | ⟨g, cap, cur, rfl, _, hh, _⟩
  · cases hi
  · cases hi; exact ⟨_, hh, rfl⟩
theorem sep_turn {w W W' : World} {L : List As} {row : Option Nat} (h : Sep No w W L) (hc : ∀ A ∈ L, Cel A) (hg : W.grownBy W' row) (hr : ∀ r, row = some r → w.heap.size ≤ r ∧ ∃ o : Obj, W.heap[r]? = some o ∧ o.isCells = false) : Sep No w W' L := by
  have hs : ∀ k, (∀ r, row = some r → k ≠ r) → some k ≠ row := fun k h e => h k e.symm rfl
  refine ⟨⟨hg.os.trans h.fr.os, hg.tape.trans h.fr.tape, hg.output.trans h.fr.output, Nat.le_trans h.fr.size hg.size, fun k hk hn => ?_⟩, fun A hA => ?_, h.own, h.dis⟩
  · refine (hg.block k (Nat.lt_of_lt_of_le hk h.fr.size) (hs k fun r e => ?_)).trans (h.fr.block k hk hn)
    have := (hr r e).1; omega
  · have hp := h.all A hA
    refine A.loc hp fun k hk => hg.block k (A.lt hp k hk) (hs k fun r e e2 => ?_)
    subst e2
    obtain ⟨o, ho, ho2⟩ := (hr k e).2
    obtain ⟨o', ho', ho2'⟩ := hc A hA W k hp hk
    rw [ho] at ho'; cases ho'; rw [ho2] at ho2'; cases ho2'
theorem blk_turn {W W' : World} {g : Nat} {e : TypeId} {cs : List Value} {row : Option Nat} (h : Blk W g e cs) (hg : W.grownBy W' row) (hr : ∀ r, row = some r → ∃ o : Obj, W.heap[r]? = some o ∧ o.isCells = false) : Blk W' g e cs :=
  (hg.block g h.lt fun e' => by
    obtain ⟨o, ho, hc⟩ := hr g e'.symm
    rw [show W.heap[g]? = _ from h] at ho; cases ho; cases hc).trans h
theorem rows_stops (v : Vn) (A : Option Addr) (c Bn : Nat) (w0 w1 : World) (hS : Secs w0 A v.secs) (hc : v.secs.length ≤ c) (hok : VnOk v) (xs : List RowB) (hxs : RowsOf v xs) (n : Nat) (hn : 1 ≤ n) (h01 : Ext w0 w1)
    (hB : w1.cell? ⟨Bn, 3, none⟩ = some (.slice A v.secs.length c)) :
    SeqStopsK Fence.wide n Tryd.prog 60 #[.pointer (some ⟨Bn, 0, none⟩)] encR (Below w0.heap.size) (fun ys => ys = xs) (fun pre => pre <+: xs) xs.length w1 := fun l J Jx W hW hJ _ hY h0 => by
  refine (rows1_in n hn l Bn v A c w0 hS hc hok xs hxs J Jx W (Below.trans h01 (hW.mono h01.size)) hJ hY ((hW.cell (p := ⟨Bn, 3, none⟩) (cell_lt hB)).trans hB) h0).mono ?_
  rintro e W' ⟨hv, h | h⟩
  · exact ⟨hv, .inl ⟨xs, rfl, h⟩⟩
  · exact ⟨hv, .inr h⟩
/-- the rows of a venue without errors are small -/
theorem fst0_le {v : Vn} (h : VnOk v) {j : Nat} : fst0 v.secs j ≤ 8192 := by
  have h1 := sumS_le (l := v.secs.take j) fun s hs => h.sec s (List.mem_of_mem_take hs)
  have h2 : (v.secs.take j).length ≤ 8 := by rw [List.length_take]; have := h.few; omega
  have := Nat.mul_le_mul_right 1024 h2
  unfold fst0; omega
theorem row_small {v : Vn} (h : VnOk v) : ∀ R ∈ rl 0 0 v.secs, R.sec ≤ 8 ∧ R.row ≤ 16 ∧ R.first ≤ 100000 ∧ R.many ≤ 64 := by
  intro R hR
  obtain ⟨j, s, h1, h2⟩ := rl_inv hR
  have hj : j < v.secs.length := (List.getElem?_eq_some_iff.1 h1).1
  have hs := h.sec s (List.mem_of_getElem? h1)
  obtain ⟨q, n, h3, rfl⟩ := rlSec_inv h2
  have hq : q < s.rowsN.length := (List.getElem?_eq_some_iff.1 h3).1
  have hl : s.rowsN.length = s.rows.length := by unfold Sc.rowsN; rw [List.length_map]
  have hn : n ≤ 64 := by
    obtain ⟨x, hx, rfl⟩ := List.mem_map.1 (List.mem_of_getElem? h3)
    have := hs.row x hx; omega
  have h4 := fst0_le h (j := j)
  have h5 := sum_take_le s.rowsN q
  have h6 := sc_sum hs
  have := h.few
  have := hs.few
  unfold Sc.sum at h6
  exact ⟨by show 0 + j ≤ 8; omega, by show 0 + q ≤ 16; omega, by show 0 + fst0 v.secs j + _ ≤ 100000; omega, hn⟩
theorem rowsOf_ex {v : Vn} (h : VnOk v) : ∃ xs, RowsOf v xs := by
  have key : ∀ l : List RowI, (∀ R ∈ l, R.sec ≤ 8 ∧ R.row ≤ 16 ∧ R.first ≤ 100000 ∧ R.many ≤ 64) → ∃ xs : List RowB, xs.map RowB.r = l := by
    intro l
    induction l with
    | nil => exact fun _ => ⟨[], rfl⟩
    | cons R l ih =>
      intro hl
      obtain ⟨xs, hx⟩ := ih fun x hx => hl x (by simp [hx])
      obtain ⟨h1, h2, h3, h4⟩ := hl R (by simp)
      exact ⟨⟨R, h1, h2, h3, h4⟩ :: xs, by simp [hx]⟩
  obtain ⟨xs, hx⟩ := key _ (row_small h)
  exact ⟨xs, ⟨hx⟩⟩
theorem rl_few {v : Vn} (h : VnOk v) : (rl 0 0 v.secs).length ≤ 128 := by
  have key : ∀ (l : List Sc) (i a : Nat), (∀ s ∈ l, ScOk s) → (rl i a l).length ≤ l.length * 16 := by
    intro l
    induction l with
    | nil => intro i a _; simp [rl]
    | cons s l ih =>
      intro i a hl
      have h1 := ih (i + 1) (a + s.sum) fun x hx => hl x (by simp [hx])
      have h2 := (hl s (by simp)).few
      rw [rl, List.length_append, rlSec_len, List.length_cons]
      have : s.rowsN.length = s.rows.length := by unfold Sc.rowsN; rw [List.length_map]
      omega
  have := key v.secs 0 0 h.sec
  have := h.few
  omega
def sumB (l : List RowB) : Nat := (l.map fun x => x.r.many).sum
theorem sumB_le (l : List RowB) : sumB l ≤ l.length * 64 := by
  have := sum_le (l := l.map fun x => x.r.many) (b := 64) (by
    intro n hn
    obtain ⟨x, _, rfl⟩ := List.mem_map.1 hn
    exact x.many)
  rwa [List.length_map] at this
theorem sumB_snoc (l : List RowB) (x : RowB) : sumB (l ++ [x]) = sumB l + x.r.many := by simp [sumB]
theorem sumB_rows {v : Vn} {xs : List RowB} (h : RowsOf v xs) : sumB xs = sumS v.secs := by
  have : sumB xs = sumR (xs.map RowB.r) := by simp [sumB, sumR, Function.comp_def]
  rw [this, h.eq, sumR_rl]
/-- how many seats there are -/
def seatsE (v : Vn) : Int × Int := if (chk v).2 = 0 then ((sumS v.secs : Nat), 0) else (0, (chk v).2)
set_option maxRecDepth 100000 in
set_option maxHeartbeats 4000000 in
theorem venue_seats (v : Vn) (A : Option Addr) (c : Nat) (w : World) (h : Secs w A v.secs) (hc : v.secs.length ≤ c) (hw : VnW v) :
    Calls Tryd.prog 47 #[.agg #[.int .i64 v.sh, .int .i64 v.ttl, .int .i64 v.ses, .slice A v.secs.length c]] w fun e w' => e = .returned (.tuple #[.int .i64 (seatsE v).1, .int .i64 (seatsE v).2]) ∧ Ext w w' := by
  have HS := hide (fun (y : World) (k : Ext w y) => h.ext k)
  have HC := hide hc
  have HW := hide hw
  clear h hc hw
  have K0 := ((Sep.refl No w).add2 24 3 [.int .i64 v.sh, .int .i64 v.ttl, .int .i64 v.ses, .slice A v.secs.length c] [.int .i64 0])
  have hck := hide (fun y (k : Ext w y) => venue_check v A c y (HS.out y k) HC.out HW.out)
  refine (callsIn_wide (n := 6)).1 ?_
  have hro : Fence.wide.round = none := rfl
  refine callsIn_of_wp_marks Tryd.func47 rfl trivial ?_ rfl
  simp only [Tryd.ntmps47, List.size_toArray, List.length_cons, List.length_nil, Nat.reduceAdd, Nat.reduceSub, Array.replicate_succ, Array.replicate_zero, List.push_toArray, List.append_toArray, List.nil_append, List.cons_append]
  have hf53 : Fence.wide.fn 53 := trivial
  have hf54 : Fence.wide.fn 54 := trivial
  gi_wp2_with fail
  refine (callsIn_wide.2 (hck.out _ K0.toExt)).mono ?_
  rintro e w1 ⟨rfl, hx⟩
  have K1 := hide (K0.ext hx)
  clear K0 hx hck
  obtain ⟨c0, c1, c2, c3, cz⟩ := blk4 (K1.out.blk (g := w.heap.size) (e := 24) (List.Mem.tail _ (List.Mem.head _)))
  have q0 := (K1.out.blk (g := w.heap.size + 1) (e := 3) (List.Mem.head _)).cell 0
  have qf := (K1.out.blk (g := w.heap.size + 1) (e := 3) (List.Mem.head _)).free 0
  by_cases hz : (chk v).2 = 0
  · obtain ⟨hok, hch⟩ := chk_zero hz
    have HOK := hide hok
    have HE : Hid (seatsE v = (((sumS v.secs : Nat) : Int), 0)) := hide (by unfold seatsE; rw [if_pos hz])
    rw [hch]
    clear hok hch hz
    gi_wp2_with fail
    refine (rows_in Fence.wide _ trivial rfl _ _ _ _ _).mono ?_
    rintro e w2 ⟨rfl, rfl⟩
    clear c0 c1 c2 c3 cz q0 qf
    have K2 := K1.out.add 24 [.int .i64 v.sh, .int .i64 v.ttl, .int .i64 v.ses, .slice A v.secs.length c]
    clear K1
    generalize w1.alloc _ = w2 at K2 ⊢
    generalize w1.heap.size = g3 at K2 ⊢
    have KK := hide K2
    clear K2
    gi_wp2_with fail
    obtain ⟨xs, hxs⟩ := rowsOf_ex HOK.out
    have HXS := hide hxs
    have hxl : xs.length ≤ 128 := by
      have h1 := rl_few HOK.out
      rw [← hxs.eq, List.length_map] at h1; exact h1
    have HXL := hide hxl
    clear hxs hxl
    refine wpIn_rangeFunc_ownH rfl (by decide) (gf := 60) (lb := #[.pointer (some ⟨g3, 0, none⟩)]) rfl trivial (enters_of Tryd.func60 (by kernel_rfl) rfl)
      (rows_stops v A c g3 w w2 (HS.out _ (Ext.refl w)) HC.out HOK.out xs HXS.out 5 (by decide) KK.out.toExt ((KK.out.blk (List.Mem.head _)).cell 3)) belowK_t (belowK_b KK.out.le) (Below.refl _ _) (fun _ => rfl)
      (fun pre W => Sep No w W [As.blk (w.heap.size + 1) 3 [.int .i64 (sumB pre : Nat)]])
      (fun _ _ _ => False)
      (fun s X Y row hs hg hr => sep_turn hs (by intro A hA; rw [List.mem_singleton] at hA; subst hA; exact celB _ _ _) hg (fun r e => ⟨Nat.le_trans KK.out.le (hr r e).1, (hr r e).2⟩))
      (fun _ _ _ _ _ hs _ _ => hs)
      (KK.out.tail.sub (List.Sublist.cons_cons _ (List.nil_sublist _)))
      (fun x a' W => ∃ Bx, Blk W Bx 86 [.int .i64 x.r.sec, .int .i64 x.r.row, .int .i64 x.r.first, .int .i64 x.r.many] ∧ a' = { tmps := #[.agg #[.int .i64 v.sh, .int .i64 v.ttl, .int .i64 v.ses, .slice A v.secs.length c], .pointer (some ⟨w.heap.size, 0, none⟩), .pointer (some ⟨w.heap.size + 1, 0, none⟩), .int .i64 0, .int .i64 0, .int .i64 0, .pointer (some ⟨Bx, 0, none⟩), .tuple #[.int .i64 0, .int .i64 0], .agg #[.int .i64 v.sh, .int .i64 v.ttl, .int .i64 v.ses, .slice A v.secs.length c], .tuple #[.int .i64 0, .int .i64 0], .int .i64 0, .int .i64 0, .int .i64 0, .bool false, undef, .agg #[.int .i64 v.sh, .int .i64 v.ttl, .int .i64 v.ses, .slice A v.secs.length c], .func (.func 60) #[] #[.pointer (some ⟨g3, 0, none⟩)], .agg #[.int .i64 x.r.sec, .int .i64 x.r.row, .int .i64 x.r.first, .int .i64 x.r.many], undef, undef, undef, undef, undef], defers := [] })
      (fun x a' _ X Y row hs hg hr => by obtain ⟨Bx, h1, h2⟩ := hs; exact ⟨Bx, blk_turn h1 hg (fun r e => (hr r e).2), h2⟩)
      ?assign ?body ?done ?stop
    case assign =>
      rintro l pre x W K hI hK
      simp only [encR]
      gi_wp2
      exact hK _ _ ((KeepsOthers.alloc _ _).from _) ((Below.refl _ W).alloc hI.le _) (hI.ext ((Ext.refl W).alloc _)) ⟨W.heap.size, Blk.new W _ _, rfl⟩
    case body =>
      rintro l pre x a' W hl _ hI ⟨Bx, hB, rfl⟩ hlt
      obtain ⟨r0, r1, r2, r3, rz⟩ := blk4 hB
      have q0 := (hI.blk (List.Mem.head _)).cell 0
      have qf := (hI.blk (List.Mem.head _)).free 0
      simp only [List.getElem?_cons_zero] at q0
      have h128 : pre.length ≤ 128 := by have := HXL.out; omega
      have hsb : sumB pre ≤ 8192 := by have := sumB_le pre; omega
      have hmb := x.many
      have HSN := hide (sumB_snoc pre x)
      have HI := hide hI
      clear hI
      gi_wp2
      refine ⟨(KeepsOthers.setCell _ _ _).from _, (Below.refl _ W).setCell (p := ⟨w.heap.size + 1, 0, none⟩) (by simp) _, ?_⟩
      show Sep No w _ [As.blk (w.heap.size + 1) 3 [.int .i64 ((sumB (pre ++ [x]) : Nat) : Int)]]
      rw [HSN.out, Int.natCast_add]
      exact HI.out.cell (L1 := []) 0 _
    case done =>
      rintro D ys W hD rfl hI hK
      have q0 := (hI.blk (List.Mem.head _)).cell 0
      have qf := (hI.blk (List.Mem.head _)).free 0
      simp only [List.getElem?_cons_zero] at q0
      have HI := hide hI
      have HK := hide hK
      clear hI hK
      gi_wp2
      have K5 := HI.out.cell (L1 := []) (L2 := []) 0 (.int .i64 (sumB ys : Nat))
      have hK2 : (W.setCell ⟨w.heap.size + 1, 0, none⟩ (.int .i64 (sumB ys : Nat))).heap[D]? = some (.deferred (some [])) := (KeepsOthers.setCell W _ _).same D _ HK.out rfl
      have K6 := sep_turn K5 (by intro A hA; simp only [List.nil_append, List.mem_singleton] at hA; subst hA; exact celB _ _ _) (grownBy_putObj' _ D (.deferred none)) (fun r e => by cases e; exact ⟨Nat.le_trans KK.out.le hD, _, hK2, rfl⟩)
      refine ⟨by simp, .inl ⟨_, _, rfl, run_takeDeferred hK2, ?_⟩⟩
      have r0 := (K6.blk (List.Mem.head _)).cell 0
      simp only [List.set, List.getElem?_cons_zero] at r0
      refine ⟨.tuple #[.int .i64 (sumB ys : Nat), .int .i64 0], by simp [results, Tryd.results47, go_sem, r0], ?_, K6.toExt⟩
      rw [HE.out, sumB_rows HXS.out]
    case stop =>
      rintro D c pre W _ _ h _
      exact h.elim
  · have HE : Hid (seatsE v = (0, (chk v).2)) := hide (by unfold seatsE; rw [if_neg hz])
    have e1 : ((chk v).2 != 0) = true := bne_iff_ne.2 hz
    clear hz
    gi_wp2_with fail
    have K5 := K1.out.cell (L1 := []) 0 (.int .i64 0)
    have r0 := (K5.blk (List.Mem.head _)).cell 0
    simp only [List.set, List.getElem?_cons_zero] at r0
    refine ⟨.tuple #[.int .i64 0, .int .i64 (chk v).2], by simp [results, Tryd.results47, go_sem, r0], ?_, K5.toExt⟩
    rw [HE.out]
end Go.Proofs.YtkhinagagncblaaDoor
