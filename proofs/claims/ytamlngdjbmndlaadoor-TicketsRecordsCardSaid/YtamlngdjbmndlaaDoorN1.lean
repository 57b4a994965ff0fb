/- Tickets: Newest: what the two maps read as; the sort of a row of the call's own. -/
import Derived.Test.YtamlngdjbmndlaaDoorGd
import Derived.Test.YtamlngdjbmndlaaDoorGa
import Derived.Test.YtamlngdjbmndlaaDoorShf
import Derived.Sort.OwnSortedInts
namespace Go.Proofs.YtamlngdjbmndlaaDoor
open Go.RowKit Go.Gr
set_option linter.unusedVariables false
set_option linter.unusedSimpArgs false
theorem lawS : Maps.Keyed Tryd.prog 22 := Maps.int_keyed Tryd.underlying22
theorem lawI : Maps.Keyed Tryd.prog 3 := Maps.int_keyed Tryd.underlying3
/-- how a ticket reads as an element of a map -/
def tkD (t : Tk) : DataW Unit := .agg [.lit (.int .u32 t.1), .lit (.int .u32 t.2.1), .lit (.int .u64 t.2.2.1), .lit (.int .u64 t.2.2.2)]
def tkCells : List Value → Option (DataW Unit × List MemPlace)
  | [.int .u32 s, .int .u32 o, .int .u64 n, .int .u64 e] => some (tkD (s, o, n, e), [])
  | _ => none
def tkElem : Value → Option (DataW Unit × List MemPlace)
  | .agg cs => tkCells cs.toList
  | _ => none
theorem tkElem_mk (s o n e : Int) : tkElem (tkv s o n e) = some (tkD (s, o, n, e), []) := rfl
theorem tkCells_inv {l : List Value} {t : Tk} {ps : List MemPlace} (h : tkCells l = some (tkD t, ps)) : l = tkc t.1 t.2.1 t.2.2.1 t.2.2.2 := by
  unfold tkCells at h
  split at h
  · simp only [tkD, Option.some.injEq, Prod.mk.injEq, DataW.agg.injEq, List.cons.injEq, DataW.lit.injEq, Lit.int.injEq, true_and, and_true] at h
    obtain ⟨⟨h1, h2, h3, h4⟩, _⟩ := h
    rw [h1, h2, h3, h4]
  · cases h
theorem tkElem_inv {v : Value} {t : Tk} {ps : List MemPlace} (h : tkElem v = some (tkD t, ps)) : v = tkv t.1 t.2.1 t.2.2.1 t.2.2.2 := by
  unfold tkElem at h
  split at h
  · rename_i cs
    have := tkCells_inv h
    rw [show cs = (tkc t.1 t.2.1 t.2.2.1 t.2.2.2).toArray by rw [← this]]
  · cases h
/-- the first map: the best of each seat -/
def Best (D : DataW Unit) (f : Int → Option Nat) : Prop :=
  Maps.IsMap D ∧ ∀ s, (f s = none → Maps.has D (.int .u32 s) = false) ∧ (∀ j : Nat, f s = some j → ∀ z, D.atKey (.int .u32 s) z = .lit (.int .i64 j))
theorem best_zero : Best (.map []) (fun _ => none) := ⟨Maps.isMap_empty, fun s => ⟨fun _ => rfl, fun j h => by cases h⟩⟩
theorem best_put {D : DataW Unit} {f : Int → Option Nat} (h : Best D f) (s : Int) (i : Nat) : Best (D.put (.int .u32 s) (.lit (.int .i64 i))) (upd f s i) := by
  refine ⟨h.1.put _ _, fun x => ?_⟩
  unfold upd
  by_cases hx : x = s
  · subst hx
    rw [if_pos rfl]
    refine ⟨fun h => (by cases h), fun j hj z => ?_⟩
    cases hj
    exact Maps.atKey_put_same (k := .int .u32 x) h.1 trivial _ _
  · rw [if_neg hx]
    have hne : (Lit.int .u32 x) ≠ .int .u32 s := fun e => hx (by cases e; rfl)
    exact ⟨fun h0 => (Maps.has_put_other hne _).trans ((h.2 x).1 h0), fun j hj z => (Maps.atKey_put_other hne _ _).trans ((h.2 x).2 j hj z)⟩
theorem best_has {D : DataW Unit} {f : Int → Option Nat} (h : Best D f) {s : Int} {j : Nat} (hj : f s = some j) : Maps.has D (.int .u32 s) = true := Maps.has_true_of_atKey ((h.2 s).2 j hj)
/-- the second map: the tickets by their places -/
def Opd (D : DataW Unit) (l : List (Option Tk)) (i : Nat) : Prop :=
  Maps.IsMap D ∧ ∀ k t, k < i → l[k]? = some (some t) → ∀ z, D.atKey (.int .i64 (k : Int)) z = tkD t
theorem opd_zero (l : List (Option Tk)) : Opd (.map []) l 0 := ⟨Maps.isMap_empty, fun k t h => by omega⟩
theorem opd_skip {D : DataW Unit} {l : List (Option Tk)} {i : Nat} (h : Opd D l i) (hl : l[i]? = some none) : Opd D l (i + 1) := by
  refine ⟨h.1, fun k t hk hkt => ?_⟩
  rcases Nat.lt_or_ge k i with h1 | h1
  · exact h.2 k t h1 hkt
  · obtain rfl : k = i := by omega
    rw [hl] at hkt; cases hkt
theorem opd_put {D : DataW Unit} {l : List (Option Tk)} {i : Nat} {t : Tk} (h : Opd D l i) (hl : l[i]? = some (some t)) : Opd (D.put (.int .i64 (i : Int)) (tkD t)) l (i + 1) := by
  refine ⟨h.1.put _ _, fun k u hk hku z => ?_⟩
  rcases Nat.lt_or_ge k i with h1 | h1
  · have hne : (Lit.int .i64 (k : Int)) ≠ .int .i64 (i : Int) := fun e => by
      simp only [Lit.int.injEq, true_and] at e; omega
    exact (Maps.atKey_put_other hne _ _).trans (h.2 k u h1 hku z)
  · obtain rfl : k = i := by omega
    rw [hl] at hku; cases hku
    exact Maps.atKey_put_same (k := .int .i64 (k : Int)) h.1 trivial _ _
theorem wf_u32 {s : Int} (h0 : 0 ≤ s) (h1 : s < 4294967296) : (Lit.int .u32 s).wf = true := by
  have h2 : IntKind.u32.min ≤ s := h0
  have h3 : s ≤ IntKind.u32.max := by
    have : IntKind.u32.max = 4294967295 := by decide
    omega
  simp [Lit.wf, h2, h3]
theorem wf_i64 {s : Int} (h0 : 0 ≤ s) (h1 : s < 9223372036854775808) : (Lit.int .i64 s).wf = true := by
  have h2 : IntKind.i64.min ≤ s := by
    have : IntKind.i64.min = -9223372036854775808 := by decide
    omega
  have h3 : s ≤ IntKind.i64.max := by
    have : IntKind.i64.max = 9223372036854775807 := by decide
    omega
  simp only [Lit.wf, h2, h3, decide_true, Bool.and_self]
section
variable {w w0 : World} {G : Nat → Prop} {L L1 L2 : List As}
theorem look_best_none {D : DataW Unit} {f : Int → Option Nat} {b n : Nat} {s : Int} (h : w.ownsMap Tryd.prog 22 (plainElem Tryd.prog 3) b n D) (hB : Best D f) (hs : (Lit.int .u32 s).wf = true) (hf : f s = none) :
    (Instr.lookup 69 (.map (some b)) (.int .u32 s) true).run Tryd.prog w = .ok (.tuple #[.int .i64 0, .bool false]) w := by
  obtain ⟨v, ps, h1, h2⟩ := h.look_ok lawS Tryd.underlying69 (z := .int .i64 0) (by kernel_rfl) (zd := .lit (.int .i64 0)) (zp := []) (plainElem_int Tryd.underlying3 (by decide)) (Maps.keyOf_int_mk Tryd.underlying22 hs)
  have hh := (hB.2 s).1 hf
  rw [Maps.atKey_of_not_has hh] at h2
  obtain ⟨c, rfl, hc, _⟩ := plainElem_int_inv Tryd.underlying3 h2
  cases hc
  rw [h1, hh]
theorem look_best_some {D : DataW Unit} {f : Int → Option Nat} {b n j : Nat} {s : Int} (h : w.ownsMap Tryd.prog 22 (plainElem Tryd.prog 3) b n D) (hB : Best D f) (hs : (Lit.int .u32 s).wf = true) (hf : f s = some j) :
    (Instr.lookup 69 (.map (some b)) (.int .u32 s) true).run Tryd.prog w = .ok (.tuple #[.int .i64 j, .bool true]) w := by
  obtain ⟨v, ps, h1, h2⟩ := h.look_ok lawS Tryd.underlying69 (z := .int .i64 0) (by kernel_rfl) (zd := .lit (.int .i64 0)) (zp := []) (plainElem_int Tryd.underlying3 (by decide)) (Maps.keyOf_int_mk Tryd.underlying22 hs)
  rw [(hB.2 s).2 j hf] at h2
  obtain ⟨c, rfl, hc, _⟩ := plainElem_int_inv Tryd.underlying3 h2
  cases hc
  rw [h1, best_has hB hf]
theorem look_opd {D : DataW Unit} {l : List (Option Tk)} {b n i j : Nat} {t : Tk} (h : w.ownsMap Tryd.prog 3 tkElem b n D) (hO : Opd D l i) (hj : j < i) (hl : l[j]? = some (some t)) (hb : j < 1000) :
    (Instr.lookup 70 (.map (some b)) (.int .i64 (j : Int)) false).run Tryd.prog w = .ok (tkv t.1 t.2.1 t.2.2.1 t.2.2.2) w := by
  obtain ⟨v, ps, h1, h2⟩ := h.lookup lawI Tryd.underlying70 (z := tkv 0 0 0 0) (by kernel_rfl) (zd := tkD (0, 0, 0, 0)) (zp := []) (tkElem_mk 0 0 0 0) (Maps.keyOf_int_mk Tryd.underlying3 (a := (j : Int)) (wf_i64 (by omega) (by omega)))
  rw [hO.2 j t hj hl] at h2
  rw [h1, tkElem_inv h2]
/-- a row of numbers of the call's own, sorted -/
theorem sort_any (L1 : List As) {L2 : List As} {v : Value} {zs : List Int} (H : Sep G w0 w (L1 ++ As.own 3 v (zs.map (Value.int .i64)) :: L2)) (hz : zs.length ≤ 1000000) :
    Calls Tryd.prog 35 #[v] w fun e w' => e = .returned (.tuple #[]) ∧ Sep G w0 w' (L1 ++ As.own 3 v ((zs.mergeSort fun x y => decide (x ≤ y)).map (Value.int .i64)) :: L2) := by
  have hown := H.owns (e := 3) (v := v) (xs := zs.map (Value.int .i64)) (by simp)
  rcases hown.2 with ⟨rfl, h0⟩ | ⟨g, cap, cur, rfl, hbase, hb, h1, h2, h3, h4⟩
  · have : zs = [] := List.eq_nil_of_length_eq_zero (by simpa using h0)
    subst this
    refine (Tryd.slices_Sort_int_none none 0 w).mono ?_
    rintro e w' ⟨rfl, rfl⟩
    exact ⟨rfl, by rw [List.mergeSort_nil]; exact H⟩
  · rw [List.length_map] at h1 h4 ⊢
    refine (Tryd.slices_Sort_int g 0 cap zs w (holds_of_blockI hb (by simpa using h4)) (Array.getElem?_eq_some_iff.1 hb).1 (by omega)).mono ?_
    rintro e w' ⟨rfl, n, os, rfl⟩
    refine ⟨rfl, ?_⟩
    have hlen : (zs.mergeSort fun x y => decide (x ≤ y)).length = zs.length := List.length_mergeSort _
    refine H.upd (B := As.own 3 (.slice (some ⟨g, 0, none⟩) zs.length cap) ((zs.mergeSort fun x y => decide (x ≤ y)).map (Value.int .i64))) (Fr.of_grown (grownBy_sortedI (w := w) (g := g) (n := n) (os := os) _)) (fun k hk => by rw [show k = g from hk]; rfl) ?_ (fun _ h => .inl h)
    have := ownsRow_sortedI (w := w) (base := 0) (n := n) (e := 3) (os := os) (ss := zs) (ts := zs.mergeSort fun x y => decide (x ≤ y)) hlen hbase hb h1 h2 h3
    show Own _ _ _ _ _
    unfold Own
    rw [List.length_map, hlen]
    exact this
end
/-- what the loop over the first map has taken -/
def Got (vs : List Nat) (f : Int → Option Nat) (left : Lit → Bool) : Prop := vs.Nodup ∧ ∀ j, j ∈ vs ↔ ∃ s, f s = some j ∧ left (.int .u32 s) = false
theorem got_start {D : DataW Unit} {f : Int → Option Nat} (h : Best D f) : Got [] f (Maps.has D) := by
  refine ⟨List.nodup_nil, fun j => ⟨fun h => (by cases h), fun ⟨s, h1, h2⟩ => ?_⟩⟩
  rw [best_has h h1] at h2; cases h2
theorem got_step {D : DataW Unit} {l : List (Option Tk)} {i : Nat} {f : Int → Option Nat} {vs : List Nat} {left : Lit → Bool} {x c : Int} (h : Got vs f left) (hI : Inv f l i) (hB : Best D f) (hx : left (.int .u32 x) = true) (hat : ∀ zd, D.atKey (.int .u32 x) zd = .lit (.int .i64 c)) :
    ∃ j : Nat, c = j ∧ j < i ∧ Got (vs ++ [j]) f (fun z => left z && !z.sameKey (.int .u32 x)) := by
  rcases hf : f x with _ | j
  · have := (hB.2 x).1 hf
    rw [Maps.has_true_of_atKey hat] at this; cases this
  have hc : c = j := by
    have h1 := (hat .nil).symm.trans ((hB.2 x).2 j hf .nil)
    simp only [DataW.lit.injEq, Lit.int.injEq, true_and] at h1
    exact h1
  have hself : (Lit.int .u32 x).sameKey (.int .u32 x) = true := WideAt.sameKey_self trivial
  have hoth : ∀ {s : Int}, s ≠ x → (Lit.int .u32 s).sameKey (.int .u32 x) = false := fun h => Maps.sameKey_ne (fun e => h (by cases e; rfl))
  refine ⟨j, hc, (hI.2 x j hf).1, ?_, fun m => ?_⟩
  · rw [List.nodup_append]
    refine ⟨h.1, by simp, fun a ha b hb e => ?_⟩
    rw [List.mem_singleton] at hb
    subst hb
    subst e
    obtain ⟨s, h1, h2⟩ := (h.2 a).1 ha
    rw [inv_inj hI h1 hf, hx] at h2; cases h2
  · rw [List.mem_append, List.mem_singleton]
    constructor
    · rintro (hm | rfl)
      · obtain ⟨s, h1, h2⟩ := (h.2 m).1 hm
        exact ⟨s, h1, by simp [h2]⟩
      · exact ⟨x, hf, by simp [hself]⟩
    · rintro ⟨s, h1, h2⟩
      by_cases hs : s = x
      · subst hs
        rw [hf] at h1; cases h1
        exact .inr rfl
      · simp only [hoth hs, Bool.not_false, Bool.and_true] at h2
        exact .inl ((h.2 m).2 ⟨s, h1, h2⟩)
theorem got_end {l : List (Option Tk)} {f : Int → Option Nat} {vs : List Nat} {left : Lit → Bool} (h : Got vs f left) (hI : Inv f l l.length) (hl : ∀ kl, left kl = false) :
    ((vs.map (fun n : Nat => (n : Int))).mergeSort fun x y => decide (x ≤ y)) = (newL l).map (fun n : Nat => (n : Int)) :=
  sort_newL h.1 fun j => by
    rw [h.2 j, inv_end hI j]
    exact ⟨fun ⟨s, h1, _⟩ => ⟨s, h1⟩, fun ⟨s, h1⟩ => ⟨s, h1, hl _⟩⟩
end Go.Proofs.YtamlngdjbmndlaaDoor
