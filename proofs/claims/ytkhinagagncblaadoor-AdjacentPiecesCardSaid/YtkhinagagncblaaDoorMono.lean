/- General lemmas: a region that draws its order, whose operations only read, and whose calls only add memory: one walk serves every order. -/
import Derived.Lib.QuietBelow
import Derived.OrdersHeld
import Derived.Deep.RegionHeld3
import Derived.Test.YtkhinagagncblaaDoorBase
namespace Go.Gr
open Go.RowKit Go.Sort
set_option linter.unusedVariables false

/-- does it add memory? (all else only reads) -/
def isExt (o : Oper) : Bool :=
  match o.op with
  | .call { callee := .value _, .. } => true
  | .call { callee := .builtin .append, .. } => true
  | .alloc _ | .box _ _ | .buildSlice _ _ _ | .makeSlice _ _ _ | .makeMap _ _ | .makeInterface _ _ => true
  | _ => false
def isSel (o : Oper) : Bool := match o.op with | .select _ _ => true | _ => false

/-- in this order each reading operation comes as early as its edges allow, and what adds memory stands in one line -/
def okAll (ops : Array Oper) : Array Bool → List Nat → Bool
  | listed, [] => (Region.ready .any ops listed).isEmpty
  | listed, i :: rest =>
    match ops[i]? with
    | none => false
    | some o =>
      (if isExt o then Region.ready .any ops listed == [i]
       else (Region.ready .any ops listed).contains i &&
        (List.range ops.size).all fun j => j == i || listed.getD j true || (match ops[j]? with
          | some oj => !(oj.after.all fun e => !Region.binds .any e || e.on != i) || o.apart ops oj
          | none => true)) &&
      okAll ops (listed.setIfInBounds i true) rest
/-- w with whatever has been added to it -/
def Cls (w w' : World) : Prop := ∃ p : Regrown, w' = grow (redrawn w p.d) p.os
theorem cls_iff {w w' : World} : Cls w w' ↔ Ext w w' :=
  ⟨fun ⟨p, h⟩ => by subst h; exact below_regrown w p.d p.os, fun h => regrown_of_below h⟩

/-- what a reading operation yields: this value, in the world that it got -/
def rdUpon (w : World) (v : Value) : Result Next → Prop
  | .ok (.value u) w' => w' = w ∧ u = v
  | _ => False
def rdAt (P : Program) (o : Oper) (a : Act) (w : World) (v : Value) : Prop := rdUpon w v ((execOp a.eval o).run P w)
def rdOp (P : Program) (o : Oper) (a : Act) (C : World → Prop) (next : Act → Prop) : Prop := ∃ v, (∀ w, C w → rdAt P o a w v) ∧ next (a.put o.dst v)
theorem rd_run {P : Program} {o : Oper} {a : Act} {w : World} {v : Value} (h : rdAt P o a w v) : (execOp a.eval o).run P w = .ok (.value v) w := by
  unfold rdAt at h
  generalize (execOp a.eval o).run P w = r at *
  cases r with
  | halt x w' => exact h.elim
  | ok n w' =>
    cases n <;> simp only [rdUpon] at h
    obtain ⟨rfl, rfl⟩ := h; rfl
def wpM (P : Program) (ops : Array Oper) (Q : Exit → Act → World → Prop) : List Nat → Act → World → Prop
  | [], a, w => Q .normal a w
  | i :: rest, a, w =>
    match ops[i]? with
    | none => False
    | some o =>
      if Region.wanted o (yielded ops a.tmps) then
        (if isExt o then o.wp P a w (fun a' w' => Ext w w' ∧ wpM P ops Q rest a' w') Q else rdOp P o a (Cls w) (fun a' => wpM P ops Q rest a' w))
      else wpM P ops Q rest (a.put o.dst undef) w
section
variable {P : Program} {ops : Array Oper} {Q : Exit → Act → World → Prop}
theorem wpM_rd {i : Nat} {o : Oper} {rest : List Nat} {a : Act} {w : World} (ho : ops[i]? = some o) (hx : isExt o = false)
    (h : ∀ K : Act → Prop, (∀ a, wpM P ops Q rest a w → K a) → if Region.wanted o (yielded ops a.tmps) then rdOp P o a (Cls w) K else K (a.put o.dst undef)) : wpM P ops Q (i :: rest) a w := by
  have := h _ (fun _ h => h)
  unfold wpM
  simp only [ho, hx]
  exact this
theorem wpM_ext {i : Nat} {o : Oper} {rest : List Nat} {a : Act} {w : World} (ho : ops[i]? = some o) (hx : isExt o = true)
    (h : ∀ K : Act → World → Prop, (∀ a' w', Ext w w' → wpM P ops Q rest a' w' → K a' w') → if Region.wanted o (yielded ops a.tmps) then o.wp P a w K Q else K (a.put o.dst undef) w) : wpM P ops Q (i :: rest) a w := by
  have := h (fun a' w' => Ext w w' ∧ wpM P ops Q rest a' w') (fun _ _ h1 h2 => ⟨h1, h2⟩)
  unfold wpM
  simp only [ho, hx, if_true]
  split
  · rename_i hw; rw [if_pos hw] at this; exact this
  · rename_i hw; rw [if_neg hw] at this; exact this.2
theorem wpAnyH_mono {md : Region.Mode} {S S' : World → Prop} (hs : ∀ w, S w → S' w) : ∀ (fuel : Nat) (listed : Array Bool) (a : Act) (w : World), wpAnyH P md ops Q S fuel listed a w → wpAnyH P md ops Q S' fuel listed a w
  | 0, _, _, _, h => h
  | fuel + 1, _, _, _, h => ⟨h.1, fun i hi => wpOp_mono (fun a' w' h' => ⟨hs _ h'.1, wpAnyH_mono hs fuel _ a' w' h'.2⟩) (h.2 i hi)⟩
theorem run_mono (hsel : ∀ (j : Nat) (o : Oper) cs b, ops[j]? = some o → o.op ≠ .select cs b) (hQ : ∀ c a w, ¬ Q (.panic c) a w) :
    ∀ (perm : List Nat) (listed : Array Bool) (a : Act) (w : World), okAll ops listed perm = true → wpM P ops Q perm a w → wpAnyH P .any ops Q (Ext w) perm.length listed a w
  | [], listed, a, w, hok, h => by
    simp only [okAll, List.isEmpty_iff] at hok
    exact ⟨hok, h⟩
  | i :: rest, listed, a, w, hok, h => by
    unfold okAll at hok
    unfold wpM at h
    cases ho : ops[i]? with
    | none => rw [ho] at h; exact h.elim
    | some o =>
      simp only [ho] at hok h
      rw [Bool.and_eq_true] at hok
      obtain ⟨hok1, hok2⟩ := hok
      by_cases hx : isExt o = true
      · simp only [hx, if_true] at hok1 h
        have hr : Region.ready .any ops listed = [i] := by simpa using hok1
        refine wpAnyH_all hr (by simp) fun j hj => ?_
        obtain rfl : j = i := by simpa using hj
        refine wpOp_step ho fun K' hK => ?_
        split
        · rename_i hw
          rw [if_pos hw] at h
          have hm : ∀ a' w', (Ext w w' ∧ wpM P ops Q rest a' w') → K' a' w' := fun a' w' ⟨h1, h2⟩ =>
            hK _ _ ⟨h1, wpAnyH_mono (fun x hx => h1.trans hx) _ _ _ _ (run_mono hsel hQ rest _ a' w' hok2 h2)⟩
          exact Oper.wp_mono hm h
        · rename_i hw
          rw [if_neg hw] at h
          exact hK _ _ ⟨Ext.refl w, run_mono hsel hQ rest _ _ w hok2 h⟩
      · have hx' : isExt o = false := by simpa using hx
        simp only [hx', Bool.false_eq_true, if_false] at hok1 h
        rw [Bool.and_eq_true] at hok1
        obtain ⟨hin, hap⟩ := hok1
        have hmem : i ∈ Region.ready .any ops listed := by simpa using hin
        have hapart : ∀ j oj, ops[j]? = some oj → j ≠ i → listed.getD j true = false → (∀ e ∈ oj.after, Region.binds .any e = true → e.on ≠ i) → o.apart ops oj = true := by
          intro j oj hj hne hl hw
          have hjl : j < ops.size := (Array.getElem?_eq_some_iff.1 hj).1
          have h1 := List.all_eq_true.1 hap j (List.mem_range.2 hjl)
          simp only [hj, Bool.or_eq_true, beq_iff_eq] at h1
          rcases h1 with (h1 | h1) | h1 | h1
          · exact absurd h1 hne
          · rw [hl] at h1; cases h1
          · exfalso
            have : (oj.after.all fun e => !Region.binds .any e || e.on != i) = true := by
              rw [Array.all_eq_true_iff_forall_mem]
              intro e he
              by_cases hb : Region.binds .any e = true
              · have := hw e he hb; simp [this]
              · simp [hb]
            rw [this] at h1; cases h1
          · exact h1
        split at h
        · rename_i hw
          obtain ⟨v, hv, hn⟩ := h
          refine wpAnyH_first ho hsel (fun c a w h => (hQ _ _ _ h).elim) rest.length listed a w hapart hmem (.inl ⟨hw, fun w' hw' => rd_run (hv w' (cls_iff.2 hw'))⟩) (Ext.refl w) ?_
          exact run_mono hsel hQ rest _ _ w hok2 hn
        · rename_i hw
          refine wpAnyH_first (v := undef) ho hsel (fun c a w h => (hQ _ _ _ h).elim) rest.length listed a w hapart hmem (.inr ⟨by simpa using hw, rfl⟩) (Ext.refl w) ?_
          exact run_mono hsel hQ rest _ _ w hok2 h
theorem wpM_nil {a : Act} {w : World} (h : Q .normal a w) : wpM P ops (NoPanic Q) [] a w := NoPanic.normal h
/-- THE RULE: a region that draws its order, walked in the order 'perm'. -/
theorem wp_region_mono {id : Nat} {l : List Oper} {a : Act} {w : World} (perm : List Nat) (hm : P.follows .mixedOrders = true) (hs : (l.all fun o => !isSel o) = true) (hl : perm.length = l.toArray.size)
    (hok : okAll l.toArray (Array.replicate l.toArray.size false) perm = true) (h : wpM P l.toArray (NoPanic Q) perm a w.drew) : (Code.region id l.toArray true).wp P Q a w := by
  refine wp_region_noPanic (wp_region_held (S := Ext w.drew) hm ?_)
  rw [← hl] at *
  refine run_mono ?_ (fun c a w h => h) perm _ a _ hok h
  intro j o cs b hj he
  have hmem : o ∈ l := by
    rw [List.getElem?_toArray] at hj
    exact List.mem_of_getElem? hj
  have := List.all_eq_true.1 hs o hmem
  simp [isSel, he] at this
/-- the same behind a name that does not unfold: each tactic step asks for the goal's head, and an operation that is not wanted would let it run on to the end -/
structure WM (P : Program) (ops : Array Oper) (Q : Exit → Act → World → Prop) (l : List Nat) (a : Act) (w : World) : Prop where
  out : wpM P ops Q l a w
theorem wm_rd {i : Nat} {o : Oper} {rest : List Nat} {a : Act} {w : World} (ho : ops[i]? = some o) (hx : isExt o = false)
    (h : ∀ K : Act → Prop, (∀ a, WM P ops Q rest a w → K a) → if Region.wanted o (yielded ops a.tmps) then rdOp P o a (Cls w) K else K (a.put o.dst undef)) : WM P ops Q (i :: rest) a w :=
  ⟨wpM_rd ho hx fun K hK => h K fun a ha => hK a ha.out⟩
theorem wm_ext {i : Nat} {o : Oper} {rest : List Nat} {a : Act} {w : World} (ho : ops[i]? = some o) (hx : isExt o = true)
    (h : ∀ K : Act → World → Prop, (∀ a' w', Ext w w' → WM P ops Q rest a' w' → K a' w') → if Region.wanted o (yielded ops a.tmps) then o.wp P a w K Q else K (a.put o.dst undef) w) : WM P ops Q (i :: rest) a w :=
  ⟨wpM_ext ho hx fun K hK => h K fun a' w' h1 h2 => hK a' w' h1 h2.out⟩
theorem wm_nil {a : Act} {w : World} (h : Q .normal a w) : WM P ops (NoPanic Q) [] a w := ⟨wpM_nil h⟩
theorem wp_region_wm {id : Nat} {l : List Oper} {a : Act} {w : World} (perm : List Nat) (hm : P.follows .mixedOrders = true) (hs : (l.all fun o => !isSel o) = true) (hl : perm.length = l.toArray.size)
    (hok : okAll l.toArray (Array.replicate l.toArray.size false) perm = true) (h : WM P l.toArray (NoPanic Q) perm a w.drew) : (Code.region id l.toArray true).wp P Q a w :=
  wp_region_mono perm hm hs hl hok h.out
end
end Go.Gr
