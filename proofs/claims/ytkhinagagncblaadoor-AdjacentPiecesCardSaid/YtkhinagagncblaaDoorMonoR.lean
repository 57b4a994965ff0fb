/- General: a region that draws its order: reading operations, and others whose doings are told by a relation, in one walk; then a tail in the order of the text. -/
import Derived.Test.YtkhinagagncblaaDoorSep
namespace Go.Gr
open Go.RowKit Go.Sort
set_option linter.unusedVariables false
/-- what may become of a world while such a region runs -/
structure RT where
  r : World → World → Prop
  refl : ∀ w, r w w
  trans : ∀ a b c, r a b → r b c → r a c
def RT.fr (S : Nat → Prop) : RT := ⟨Fr S, Fr.refl S, fun _ _ _ h k => h.trans k⟩
/-- and this cell is kept -/
def RT.keep (S : Nat → Prop) (ad : Addr) : RT := ⟨fun w w' => Fr S w w' ∧ ∀ v, w.cell? ad = some v → w'.cell? ad = some v, fun w => ⟨Fr.refl S w, fun _ h => h⟩, fun _ _ _ h k => ⟨h.1.trans k.1, fun v hv => k.2 v (h.2 v hv)⟩⟩
/-- is it more than reading? -/
def isX (o : Oper) : Bool := isExt o || (match o.op with | .store _ _ _ => true | .call { callee := .builtin .copy, .. } => true | _ => false)
/-- in this order each reading operation comes as early as its edges allow, and what adds memory stands in one line -/
def okAllX (ops : Array Oper) : Array Bool → List Nat → Bool
  | listed, [] => (Region.ready .any ops listed).isEmpty
  | listed, i :: rest =>
    match ops[i]? with
    | none => false
    | some o =>
      (if isX o then Region.ready .any ops listed == [i]
       else (Region.ready .any ops listed).contains i &&
        (List.range ops.size).all fun j => j == i || listed.getD j true || (match ops[j]? with
          | some oj => !(oj.after.all fun e => !Region.binds .any e || e.on != i) || o.apart ops oj
          | none => true)) &&
      okAllX ops (listed.setIfInBounds i true) rest
def wpMR (R : RT) (P : Program) (ops : Array Oper) (Q : Exit → Act → World → Prop) : List Nat → Act → World → Prop
  | [], a, w => Q .normal a w
  | i :: rest, a, w =>
    match ops[i]? with
    | none => False
    | some o =>
      if Region.wanted o (yielded ops a.tmps) then
        (if isX o then o.wp P a w (fun a' w' => R.r w w' ∧ wpMR R P ops Q rest a' w') Q else rdOp P o a (R.r w) (fun a' => wpMR R P ops Q rest a' w))
      else wpMR R P ops Q rest (a.put o.dst undef) w
section
variable {P : Program} {ops : Array Oper} {Q : Exit → Act → World → Prop} {R : RT}
theorem run_monoR (hsel : ∀ (j : Nat) (o : Oper) cs b, ops[j]? = some o → o.op ≠ .select cs b) (hQ : ∀ c a w, ¬ Q (.panic c) a w) :
    ∀ (perm : List Nat) (listed : Array Bool) (a : Act) (w : World), okAllX ops listed perm = true → wpMR R P ops Q perm a w → wpAnyH P .any ops Q (R.r w) perm.length listed a w
  | [], listed, a, w, hok, h => by
    simp only [okAllX, List.isEmpty_iff] at hok
    exact ⟨hok, h⟩
  | i :: rest, listed, a, w, hok, h => by
    unfold okAllX at hok
    unfold wpMR at h
    cases ho : ops[i]? with
    | none => rw [ho] at h; exact h.elim
    | some o =>
      simp only [ho] at hok h
      rw [Bool.and_eq_true] at hok
      obtain ⟨hok1, hok2⟩ := hok
      by_cases hx : isX o = true
      · simp only [hx, if_true] at hok1 h
        have hr : Region.ready .any ops listed = [i] := by simpa using hok1
        refine wpAnyH_all hr (by simp) fun j hj => ?_
        obtain rfl : j = i := by simpa using hj
        refine wpOp_step ho fun K' hK => ?_
        split
        · rename_i hw
          rw [if_pos hw] at h
          have hm : ∀ a' w', (R.r w w' ∧ wpMR R P ops Q rest a' w') → K' a' w' := fun a' w' ⟨h1, h2⟩ =>
            hK _ _ ⟨h1, wpAnyH_mono (fun x hx => R.trans _ _ _ h1 hx) _ _ _ _ (run_monoR hsel hQ rest _ a' w' hok2 h2)⟩
          exact Oper.wp_mono hm h
        · rename_i hw
          rw [if_neg hw] at h
          exact hK _ _ ⟨R.refl w, run_monoR hsel hQ rest _ _ w hok2 h⟩
      · have hx' : isX o = false := by simpa using hx
        simp only [hx', Bool.false_eq_true, if_false] at hok1 h
        rw [Bool.and_eq_true] at hok1
        obtain ⟨hin, hap⟩ := hok1
        have hmem : i ∈ Region.ready .any ops listed := by simpa using hin
        have hapart : ∀ j oj, ops[j]? = some oj → j ≠ i → listed.getD j true = false → (∀ e ∈ oj.after, Region.binds .any e = true → e.on ≠ i) → o.apart ops oj = true := by
          intro j oj hj hne hl hw
          have hjl : j < ops.size := (Array.getElem?_eq_some_iff.1 hj).1
          have h1 := List.all_eq_true.1 hap j (List.mem_range.2 hjl)
          simp only [hj, Bool.or_eq_true, beq_iff_eq] at h1
          rcases h1 with (h1 | h1) | h1 | h1
          · exact absurd h1 hne
          · rw [hl] at h1; cases h1
          · exfalso
            have : (oj.after.all fun e => !Region.binds .any e || e.on != i) = true := by
              rw [Array.all_eq_true_iff_forall_mem]
              intro e he
              by_cases hb : Region.binds .any e = true
              · have := hw e he hb; simp [this]
              · simp [hb]
            rw [this] at h1; cases h1
          · exact h1
        split at h
        · rename_i hw
          obtain ⟨v, hv, hn⟩ := h
          refine wpAnyH_first ho hsel (fun c a w h => (hQ _ _ _ h).elim) rest.length listed a w hapart hmem (.inl ⟨hw, fun w' hw' => rd_run (hv w' hw')⟩) (R.refl w) ?_
          exact run_monoR hsel hQ rest _ _ w hok2 hn
        · rename_i hw
          refine wpAnyH_first (v := undef) ho hsel (fun c a w h => (hQ _ _ _ h).elim) rest.length listed a w hapart hmem (.inr ⟨by simpa using hw, rfl⟩) (R.refl w) ?_
          exact run_monoR hsel hQ rest _ _ w hok2 h
/-- THE RULE: a region that draws its order, walked in the order 'perm'. -/
theorem wp_region_monoR {id : Nat} {l : List Oper} {a : Act} {w : World} (perm : List Nat) (hm : P.follows .mixedOrders = true) (hs : (l.all fun o => !isSel o) = true) (hl : perm.length = l.toArray.size)
    (hok : okAllX l.toArray (Array.replicate l.toArray.size false) perm = true) (h : wpMR R P l.toArray (NoPanic Q) perm a w.drew) : (Code.region id l.toArray true).wp P Q a w := by
  refine wp_region_noPanic (wp_region_held (S := R.r w.drew) hm ?_)
  rw [← hl] at *
  refine run_monoR ?_ (fun c a w h => h) perm _ a _ hok h
  intro j o cs b hj he
  have hmem : o ∈ l := by
    rw [List.getElem?_toArray] at hj
    exact List.mem_of_getElem? hj
  have := List.all_eq_true.1 hs o hmem
  simp [isSel, he] at this
structure WMR (R : RT) (P : Program) (ops : Array Oper) (Q : Exit → Act → World → Prop) (l : List Nat) (a : Act) (w : World) : Prop where
  out : wpMR R P ops Q l a w
theorem wmr_rd {i : Nat} {o : Oper} {rest : List Nat} {a : Act} {w : World} (ho : ops[i]? = some o) (hx : isX o = false)
    (h : ∀ K : Act → Prop, (∀ a, WMR R P ops Q rest a w → K a) → if Region.wanted o (yielded ops a.tmps) then rdOp P o a (R.r w) K else K (a.put o.dst undef)) : WMR R P ops Q (i :: rest) a w := by
  have := h (fun a => wpMR R P ops Q rest a w) (fun _ h => h.out)
  refine ⟨?_⟩
  unfold wpMR
  simp only [ho, hx]
  exact this
theorem wmr_ext {i : Nat} {o : Oper} {rest : List Nat} {a : Act} {w : World} (ho : ops[i]? = some o) (hx : isX o = true)
    (h : ∀ K : Act → World → Prop, (∀ a' w', R.r w w' → WMR R P ops Q rest a' w' → K a' w') → if Region.wanted o (yielded ops a.tmps) then o.wp P a w K Q else K (a.put o.dst undef) w) : WMR R P ops Q (i :: rest) a w := by
  have := h (fun a' w' => R.r w w' ∧ wpMR R P ops Q rest a' w') (fun _ _ h1 h2 => ⟨h1, h2.out⟩)
  refine ⟨?_⟩
  unfold wpMR
  simp only [ho, hx, if_true]
  split
  · rename_i hw; rw [if_pos hw] at this; exact this
  · rename_i hw; rw [if_neg hw] at this; exact this.2
theorem wmr_nil {a : Act} {w : World} (h : Q .normal a w) : WMR R P ops (NoPanic Q) [] a w := ⟨NoPanic.normal h⟩
theorem wp_region_wmr {id : Nat} {l : List Oper} {a : Act} {w : World} (R : RT) (perm : List Nat) (hm : P.follows .mixedOrders = true) (hs : (l.all fun o => !isSel o) = true) (hl : perm.length = l.toArray.size)
    (hok : okAllX l.toArray (Array.replicate l.toArray.size false) perm = true) (h : WMR R P l.toArray (NoPanic Q) perm a w.drew) : (Code.region id l.toArray true).wp P Q a w :=
  wp_region_monoR (R := R) perm hm hs hl hok h.out
end
/-- the head in this order, each reading operation as early as its edges allow, what adds memory in one line; then the tail from n on, in one line -/
def okTailX (ops : Array Oper) (n g : Nat) : Array Bool → List Nat → Bool
  | listed, [] => Region.seqB .any ops g n listed
  | listed, i :: rest =>
    match ops[i]? with
    | none => false
    | some o =>
      decide (i < n) && (if isX o then Region.ready .any ops listed == [i]
       else (Region.ready .any ops listed).contains i &&
        (List.range ops.size).all fun j => j == i || listed.getD j true || (match ops[j]? with
          | some oj => !(oj.after.all fun e => !Region.binds .any e || e.on != i) || o.apart ops oj
          | none => true)) &&
      okTailX ops n g (listed.setIfInBounds i true) rest
def wpTR (R : RT) (P : Program) (ops : Array Oper) (Q : Exit → Act → World → Prop) (tail : List Oper) : List Nat → Act → World → Prop
  | [], a, w => wpList P ops Q tail a w
  | i :: rest, a, w =>
    match ops[i]? with
    | none => False
    | some o =>
      if Region.wanted o (yielded ops a.tmps) then
        (if isX o then o.wp P a w (fun a' w' => R.r w w' ∧ wpTR R P ops Q tail rest a' w') Q else rdOp P o a (R.r w) (fun a' => wpTR R P ops Q tail rest a' w))
      else wpTR R P ops Q tail rest (a.put o.dst undef) w
section
variable {P : Program} {ops : Array Oper} {Q : Exit → Act → World → Prop} {R : RT} {n g : Nat}
theorem run_tailR {tail : List Oper} (hsel : ∀ (j : Nat) (o : Oper) cs b, ops[j]? = some o → o.op ≠ .select cs b) (hQ : ∀ c a w, ¬ Q (.panic c) a w)
    (hs : Region.sinkB .any ops n = true) (hc : Region.chainB .any ops n = true) (hn : n < ops.size) (htl : ∀ j, tail[j]? = ops[n + j]?) (hg : tail.length = g) :
    ∀ (perm : List Nat) (listed : Array Bool) (a : Act) (w : World), HeadInv .any ops n listed → okTailX ops n g listed perm = true → wpTR R P ops Q tail perm a w → wpAnyT P .any ops Q n g (R.r w) perm.length listed a w
  | [], listed, a, w, inv, hok, h => by
    simp only [okTailX] at hok
    have := wpAny_of_seq (P := P) (md := .any) (ops := ops) (Q' := Q) tail n listed a w htl (by rw [hg]; exact hok) h
    rw [hg] at this
    exact ⟨seqB_ready hok, this⟩
  | i :: rest, listed, a, w, inv, hok, h => by
    unfold okTailX at hok
    unfold wpTR at h
    cases ho : ops[i]? with
    | none => rw [ho] at h; exact h.elim
    | some o =>
      simp only [ho] at hok h
      rw [Bool.and_eq_true, Bool.and_eq_true, decide_eq_true_eq] at hok
      obtain ⟨⟨hin, hok1⟩, hok2⟩ := hok
      by_cases hx : isX o = true
      · simp only [hx, if_true] at hok1 h
        have hr : Region.ready .any ops listed = [i] := by simpa using hok1
        have hir : i ∈ Region.ready .any ops listed := by rw [hr]; simp
        refine ⟨by rw [hr]; simp, fun j hj => ?_⟩
        obtain rfl : j = i := by rw [hr] at hj; simpa using hj
        refine ⟨hin, ?_⟩
        refine wpOp_step ho fun K' hK => ?_
        split
        · rename_i hw
          rw [if_pos hw] at h
          have hm : ∀ a' w', (R.r w w' ∧ wpTR R P ops Q tail rest a' w') → K' a' w' := fun a' w' ⟨h1, h2⟩ =>
            hK _ _ ⟨h1, wpAnyT_mono (fun x hx => R.trans _ _ _ h1 hx) _ _ _ _ (run_tailR hsel hQ hs hc hn htl hg rest _ a' w' (inv.set hir hin) hok2 h2)⟩
          exact Oper.wp_mono hm h
        · rename_i hw
          rw [if_neg hw] at h
          exact hK _ _ ⟨R.refl w, run_tailR hsel hQ hs hc hn htl hg rest _ _ w (inv.set hir hin) hok2 h⟩
      · have hx' : isX o = false := by simpa using hx
        simp only [hx', Bool.false_eq_true, if_false] at hok1 h
        rw [Bool.and_eq_true] at hok1
        obtain ⟨hinr, hap⟩ := hok1
        have hmem : i ∈ Region.ready .any ops listed := by simpa using hinr
        have hapart : ∀ j oj, ops[j]? = some oj → j ≠ i → listed.getD j true = false → (∀ e ∈ oj.after, Region.binds .any e = true → e.on ≠ i) → o.apart ops oj = true := by
          intro j oj hj hne hl hw
          have hjl : j < ops.size := (Array.getElem?_eq_some_iff.1 hj).1
          have h1 := List.all_eq_true.1 hap j (List.mem_range.2 hjl)
          simp only [hj, Bool.or_eq_true, beq_iff_eq] at h1
          rcases h1 with (h1 | h1) | h1 | h1
          · exact absurd h1 hne
          · rw [hl] at h1; cases h1
          · exfalso
            have : (oj.after.all fun e => !Region.binds .any e || e.on != i) = true := by
              rw [Array.all_eq_true_iff_forall_mem]
              intro e he
              by_cases hb : Region.binds .any e = true
              · have := hw e he hb; simp [this]
              · simp [hb]
            rw [this] at h1; cases h1
          · exact h1
        split at h
        · rename_i hw
          obtain ⟨v, hv, hnx⟩ := h
          refine wpAnyT_first ho hsel hs hc hn hin (fun c a w h => (hQ _ _ _ h).elim) rest.length listed a w inv hapart hmem (.inl ⟨hw, fun w' hw' => rd_run (hv w' hw')⟩) (R.refl w) ?_
          exact run_tailR hsel hQ hs hc hn htl hg rest _ _ w (inv.set hmem hin) hok2 hnx
        · rename_i hw
          refine wpAnyT_first (v := undef) ho hsel hs hc hn hin (fun c a w h => (hQ _ _ _ h).elim) rest.length listed a w inv hapart hmem (.inr ⟨by simpa using hw, rfl⟩) (R.refl w) ?_
          exact run_tailR hsel hQ hs hc hn htl hg rest _ _ w (inv.set hmem hin) hok2 h
/-- the same behind a name that does not unfold -/
structure WR (R : RT) (P : Program) (ops : Array Oper) (Q : Exit → Act → World → Prop) (tail : List Oper) (l : List Nat) (a : Act) (w : World) : Prop where
  out : wpTR R P ops Q tail l a w
theorem wr_rd {tail : List Oper} {i : Nat} {o : Oper} {rest : List Nat} {a : Act} {w : World} (ho : ops[i]? = some o) (hx : isX o = false)
    (h : ∀ K : Act → Prop, (∀ a, WR R P ops Q tail rest a w → K a) → if Region.wanted o (yielded ops a.tmps) then rdOp P o a (R.r w) K else K (a.put o.dst undef)) : WR R P ops Q tail (i :: rest) a w := by
  have := h (fun a => wpTR R P ops Q tail rest a w) (fun _ h => h.out)
  refine ⟨?_⟩
  unfold wpTR
  simp only [ho, hx]
  exact this
theorem wr_ext {tail : List Oper} {i : Nat} {o : Oper} {rest : List Nat} {a : Act} {w : World} (ho : ops[i]? = some o) (hx : isX o = true)
    (h : ∀ K : Act → World → Prop, (∀ a' w', R.r w w' → WR R P ops Q tail rest a' w' → K a' w') → if Region.wanted o (yielded ops a.tmps) then o.wp P a w K Q else K (a.put o.dst undef) w) : WR R P ops Q tail (i :: rest) a w := by
  have := h (fun a' w' => R.r w w' ∧ wpTR R P ops Q tail rest a' w') (fun _ _ h1 h2 => ⟨h1, h2.out⟩)
  refine ⟨?_⟩
  unfold wpTR
  simp only [ho, hx, if_true]
  split
  · rename_i hw; rw [if_pos hw] at this; exact this
  · rename_i hw; rw [if_neg hw] at this; exact this.2
theorem wr_nil {tail : List Oper} {a : Act} {w : World} (h : wpList P ops Q tail a w) : WR R P ops Q tail [] a w := ⟨h⟩
/-- THE RULE: n operations of the head in the order 'perm', then the rest in the order of the text. -/
theorem wp_region_wtR {id : Nat} {l : List Oper} {a : Act} {w : World} (R : RT) (n : Nat) (perm : List Nat) (hm : P.follows .mixedOrders = true) (hs : (l.all fun o => !isSel o) = true)
    (hok : (decide (perm.length = n) && decide (n < l.toArray.size) && Region.sinkB .any l.toArray n && Region.chainB .any l.toArray n && okTailX l.toArray n (l.toArray.size - n) (Array.replicate l.toArray.size false) perm) = true)
    (h : WR R P l.toArray (NoPanic Q) (l.drop n) perm a w.drew) : (Code.region id l.toArray true).wp P Q a w := by
  simp only [Bool.and_eq_true, decide_eq_true_eq] at hok
  obtain ⟨⟨⟨⟨hlen, hn⟩, hsk⟩, hc⟩, hk⟩ := hok
  refine wp_region_noPanic (wp_region_any hm ?_)
  have inv0 : HeadInv .any l.toArray n (Array.replicate l.toArray.size false) :=
    ⟨by simp, fun j oj _ hl => (by rw [getD_replicate_false] at hl; cases hl), fun t _ ht => getD_in (by simpa using ht) (getD_replicate_false _ _)⟩
  have hsel : ∀ (j : Nat) (o : Oper) cs b, l.toArray[j]? = some o → o.op ≠ .select cs b := by
    intro j o cs b hj he
    have hmem : o ∈ l := by
      rw [List.getElem?_toArray] at hj
      exact List.mem_of_getElem? hj
    have := List.all_eq_true.1 hs o hmem
    simp [isSel, he] at this
  have H := run_tailR (R := R) (tail := l.drop n) (g := l.toArray.size - n) hsel (fun c a w h => h) hsk hc hn (fun j => by simp [List.getElem?_drop]) (by simp) perm _ a w.drew inv0 hk h.out
  have := wpAny_of_T _ _ _ _ H
  rw [hlen, show n + (l.toArray.size - n) = l.toArray.size by omega] at this
  exact this
end
/-- a scalar out of a cell -/
theorem run_loadVar_one {P : Program} {w : World} (ty : TypeId) (ad : Addr) (v : Value) (d : TypeDesc) (hu : P.underlying ty = some d) (hd : (match d with | .struct _ | .array _ _ => false | _ => true) = true) (hc : w.cell? ad = some v) :
    (loadVar ty ad).run P w = .ok v w := by
  have hagg : (isAgg ty).run P w = .ok false w := by
    unfold isAgg
    rw [Sem.run_bind, run_underlying hu w]
    cases d <;> simp_all
  simp [loadVar, Sem.run_bind, hagg, hc]
section
variable {P : Program} {ops : Array Oper} {Q : Exit → Act → World → Prop} {S : Nat → Prop} {R : RT}
theorem forall_fr {w : World} {p : Prop} : (∀ w', R.r w w' → p) ↔ p := ⟨fun h => h w (R.refl w), fun h _ _ => h⟩
theorem Fr.cell {w w' : World} (h : Fr S w w') {ad : Addr} {v : Value} (hc : w.cell? ad = some v) (hS : ¬ S ad.block) : w'.cell? ad = some v :=
  (World.cell?_of_block (h.block _ (cell_lt hc) hS)).trans hc
theorem Fr.blk {w w' : World} (h : Fr S w w') {g : Nat} {t : TypeId} {cs : List Value} (hB : Blk w g t cs) (hS : ¬ S g) : Blk w' g t cs := (h.block g hB.lt hS).trans hB
theorem rdOp_ld1 {o : Oper} {a : Act} {C : World → Prop} {next : Act → Prop} (ty : TypeId) (x : Operand) (ho : o.op = .load ty x) {ad : Addr} {v : Value} (hx : a.eval x = .pointer (some ad)) (hc : ∀ w', C w' → w'.cell? ad = some v) (d : TypeDesc)
    (hu : P.underlying ty = some d) (hd : (match d with | .struct _ | .array _ _ => false | _ => true) = true) (h : next (a.put o.dst v)) : rdOp P o a C next := by
  refine ⟨_, fun w' hw' => ?_, h⟩
  unfold rdAt execOp
  simp only [ho, hx, Instr.loadAt, Instr.sureAddr, Sem.run_bind, Sem.run_pure, Result.andThen_ok, run_loadVar_one ty ad v d hu hd (hc w' hw')]
  exact ⟨rfl, rfl⟩
theorem rdOp_ldR {o : Oper} {a : Act} {C : World → Prop} {next : Act → Prop} (ty : TypeId) (x : Operand) (ho : o.op = .load ty x)
    {g off : Nat} {t : TypeId} {whole cs : List Value} (hB : ∀ w', C w' → Blk w' g t whole) (hm : ∀ j v, cs[j]? = some v → whole[off + j]? = some v) (hx : a.eval x = .pointer (some ⟨g, off, none⟩)) (d : TypeDesc)
    (hu : P.underlying ty = some d) (hd : d.isRow = true) (hi : (P.info? ty).map (·.size) = some cs.length)
    (h : next (a.put o.dst (.agg cs.toArray))) : rdOp P o a C next := by
  refine ⟨_, fun w' hw' => ?_, h⟩
  have hr := (hB w' hw').mid off hm
  unfold rdAt execOp
  simp only [ho, hx, Instr.loadAt, Instr.sureAddr, Sem.run_bind, Sem.run_pure, Result.andThen_ok, run_loadVar_mid w' g off ty cs d hr hu hd hi]
  exact ⟨rfl, rfl⟩
theorem wr_ld1 {tail : List Oper} {i : Nat} {o : Oper} {rest : List Nat} {a : Act} {w : World} (hi : ops[i]? = some o) (hw : Region.wanted o (yielded ops a.tmps) = true) (ty : TypeId) (x : Operand) (ho : o.op = .load ty x) {ad : Addr} {v : Value} (hx : a.eval x = .pointer (some ad)) (hc : ∀ w', R.r w w' → w'.cell? ad = some v) (d : TypeDesc)
    (hu : P.underlying ty = some d) (hd : (match d with | .struct _ | .array _ _ => false | _ => true) = true) (h : WR R P ops Q tail rest (a.put o.dst v) w) : WR R P ops Q tail (i :: rest) a w := by
  refine wr_rd hi (by simp [isX, isExt, ho]) fun K hK => ?_
  rw [if_pos hw]
  exact rdOp_ld1 ty x ho hx hc d hu hd (hK _ h)
theorem wmr_ld1 {i : Nat} {o : Oper} {rest : List Nat} {a : Act} {w : World} (hi : ops[i]? = some o) (hw : Region.wanted o (yielded ops a.tmps) = true) (ty : TypeId) (x : Operand) (ho : o.op = .load ty x) {ad : Addr} {v : Value} (hx : a.eval x = .pointer (some ad)) (hc : ∀ w', R.r w w' → w'.cell? ad = some v) (d : TypeDesc)
    (hu : P.underlying ty = some d) (hd : (match d with | .struct _ | .array _ _ => false | _ => true) = true) (h : WMR R P ops Q rest (a.put o.dst v) w) : WMR R P ops Q (i :: rest) a w := by
  refine wmr_rd hi (by simp [isX, isExt, ho]) fun K hK => ?_
  rw [if_pos hw]
  exact rdOp_ld1 ty x ho hx hc d hu hd (hK _ h)
theorem wr_ldR {tail : List Oper} {i : Nat} {o : Oper} {rest : List Nat} {a : Act} {w : World} (hi' : ops[i]? = some o) (hw : Region.wanted o (yielded ops a.tmps) = true) (ty : TypeId) (x : Operand) (ho : o.op = .load ty x)
    {g off : Nat} {t : TypeId} {whole cs : List Value} (hB : ∀ w', R.r w w' → Blk w' g t whole) (hm : ∀ j v, cs[j]? = some v → whole[off + j]? = some v) (hx : a.eval x = .pointer (some ⟨g, off, none⟩)) (d : TypeDesc)
    (hu : P.underlying ty = some d) (hd : d.isRow = true) (hi : (P.info? ty).map (·.size) = some cs.length)
    (h : WR R P ops Q tail rest (a.put o.dst (.agg cs.toArray)) w) : WR R P ops Q tail (i :: rest) a w := by
  refine wr_rd hi' (by simp [isX, isExt, ho]) fun K hK => ?_
  rw [if_pos hw]
  exact rdOp_ldR ty x ho hB hm hx d hu hd hi (hK _ h)
theorem wmr_ldR {i : Nat} {o : Oper} {rest : List Nat} {a : Act} {w : World} (hi' : ops[i]? = some o) (hw : Region.wanted o (yielded ops a.tmps) = true) (ty : TypeId) (x : Operand) (ho : o.op = .load ty x)
    {g off : Nat} {t : TypeId} {whole cs : List Value} (hB : ∀ w', R.r w w' → Blk w' g t whole) (hm : ∀ j v, cs[j]? = some v → whole[off + j]? = some v) (hx : a.eval x = .pointer (some ⟨g, off, none⟩)) (d : TypeDesc)
    (hu : P.underlying ty = some d) (hd : d.isRow = true) (hi : (P.info? ty).map (·.size) = some cs.length)
    (h : WMR R P ops Q rest (a.put o.dst (.agg cs.toArray)) w) : WMR R P ops Q (i :: rest) a w := by
  refine wmr_rd hi' (by simp [isX, isExt, ho]) fun K hK => ?_
  rw [if_pos hw]
  exact rdOp_ldR ty x ho hB hm hx d hu hd hi (hK _ h)
theorem wm_ld1 {i : Nat} {o : Oper} {rest : List Nat} {a : Act} {w : World} (hi : ops[i]? = some o) (hw : Region.wanted o (yielded ops a.tmps) = true) (ty : TypeId) (x : Operand) (ho : o.op = .load ty x) {ad : Addr} {v : Value} (hx : a.eval x = .pointer (some ad)) (hc : w.cell? ad = some v) (d : TypeDesc)
    (hu : P.underlying ty = some d) (hd : (match d with | .struct _ | .array _ _ => false | _ => true) = true) (h : WM P ops Q rest (a.put o.dst v) w) : WM P ops Q (i :: rest) a w := by
  refine wm_rd hi (by simp [isExt, ho]) fun K hK => ?_
  rw [if_pos hw]
  refine ⟨_, fun w' hw' => ?_, hK _ h⟩
  have hc' := (Below.cell (cls_iff.1 hw') (cell_lt hc)).trans hc
  unfold rdAt execOp
  simp only [ho, hx, Instr.loadAt, Instr.sureAddr, Sem.run_bind, Sem.run_pure, Result.andThen_ok, run_loadVar_one ty ad v d hu hd hc']
  exact ⟨rfl, rfl⟩
end
end Go.Gr
