/- Lists of waiters: what lies in memory. -/
import Derived.Test.YteecgieigjfjiaaW2
import Derived.Test.YteecgieigjfjiaaW3
namespace Go.Wl
open Go Go.RowKit Go.Gr
set_option linter.unusedVariables false
set_option linter.unusedSimpArgs false
theorem LenOk {R : List Rg} (h : ∀ r ∈ R, r.ok) : LenR R := fun r hr => (h r hr).len
/-- lists in block g, whose rings are block gr -/
structure Ls (w : World) (g gr : Nat) (R : List Rg) : Prop where
  st : Blk w g 56 [.slice (some ⟨gr, 0, none⟩) R.length R.length]
  rg : Blk w gr 66 (cellsR R)
  rok : ∀ r ∈ R, r.ok
  ok : Ok (stR R)
  ne : g ≠ gr
theorem Ls.lenR {w : World} {g gr : Nat} {R : List Rg} (h : Ls w g gr R) : LenR R := LenOk h.rok
theorem Ls.frame {w w' : World} {g gr : Nat} {R : List Rg} (h : Ls w g gr R) (h1 : w'.heap[g]? = w.heap[g]?) (h2 : w'.heap[gr]? = w.heap[gr]?) : Ls w' g gr R :=
  ⟨h1.trans h.st, h2.trans h.rg, h.rok, h.ok, h.ne⟩
theorem Ls.ext {w w' : World} {g gr : Nat} {R : List Rg} (h : Ls w g gr R) (k : Ext w w') : Ls w' g gr R :=
  h.frame (k.block g h.st.lt) (k.block gr h.rg.lt)
/-- lists whose state is S -/
def AsLs (g gr : Nat) (S : St) : As := ⟨fun k => k = g ∨ k = gr, fun w => ∃ R, Ls w g gr R ∧ stR R = S,
  fun {w} h k hk => by
    obtain ⟨R, h, _⟩ := h
    rcases hk with rfl | rfl
    · exact h.st.lt
    · exact h.rg.lt,
  fun {w w'} h k => by
    obtain ⟨R, h, e⟩ := h
    exact ⟨R, h.frame (k g (.inl rfl)) (k gr (.inr rfl)), e⟩⟩
/-- the blocks of rows of rows -/
def rowsFp (B : Option Addr) (vs : List Value) (k : Nat) : Prop := (vs ≠ [] ∧ ∃ ad, B = some ad ∧ ad.block = k) ∨ ∃ ad n c, Value.slice (some ad) n c ∈ vs ∧ 0 < n ∧ ad.block = k
/-- a value that is a row of words -/
def IsRow (w : World) (v : Value) (r : List Int) : Prop := ∃ A c, v = .slice A r.length c ∧ r.length ≤ c ∧ Rd w A (u32s r)
/-- values that are rows of words, each -/
def AreRows (w : World) (vs : List Value) (rows : List (List Int)) : Prop := vs.length = rows.length ∧ ∀ (j : Nat) v r, vs[j]? = some v → rows[j]? = some r → IsRow w v r
theorem u32s_nil {l : List Int} (h : u32s l = []) : l = [] := by cases l <;> simp [u32s] at h ⊢
theorem IsRow.frame {w w' : World} {v : Value} {r : List Int} (h : IsRow w v r) (k : ∀ ad n c, v = .slice (some ad) n c → 0 < n → w'.heap[ad.block]? = w.heap[ad.block]?) : IsRow w' v r := by
  obtain ⟨A, c, rfl, hc, hr⟩ := h
  refine ⟨A, c, rfl, hc, (As.rd A (u32s r)).loc hr fun i hi => ?_⟩
  obtain ⟨hne, ad, rfl, rfl⟩ := hi
  refine k ad _ _ rfl ?_
  rcases r with _ | ⟨x, t⟩
  · exact absurd rfl hne
  · simp
theorem IsRow.ext {w w' : World} {v : Value} {r : List Int} (h : IsRow w v r) (k : Ext w w') : IsRow w' v r := by
  obtain ⟨A, c, rfl, hc, hr⟩ := h
  exact ⟨A, c, rfl, hc, hr.ext k⟩
theorem IsRow.nil (w : World) : IsRow w (.slice none 0 0) [] := ⟨none, 0, rfl, Nat.le_refl _, fun j u hu => by simp [u32s] at hu⟩
theorem AreRows.ext {w w' : World} {vs : List Value} {rows : List (List Int)} (h : AreRows w vs rows) (k : Ext w w') : AreRows w' vs rows :=
  ⟨h.1, fun j v r hv hr => (h.2 j v r hv hr).ext k⟩
theorem AreRows.get {w : World} {vs : List Value} {rows : List (List Int)} (h : AreRows w vs rows) {j : Nat} (hj : j < rows.length) : ∃ v, vs[j]? = some v ∧ IsRow w v rows[j] := by
  have hv : j < vs.length := by rw [h.1]; exact hj
  exact ⟨vs[j], List.getElem?_eq_getElem hv, h.2 j _ _ (List.getElem?_eq_getElem hv) (List.getElem?_eq_getElem hj)⟩
theorem AreRows.nil (w : World) : AreRows w [] [] := ⟨rfl, fun j v r hv => by simp at hv⟩
theorem AreRows.push {w : World} {vs : List Value} {rows : List (List Int)} (h : AreRows w vs rows) {v : Value} {r : List Int} (hv : IsRow w v r) : AreRows w (vs ++ [v]) (rows ++ [r]) := by
  refine ⟨by simp [h.1], fun j v' r' hj hr => ?_⟩
  by_cases hl : j < vs.length
  · rw [List.getElem?_append_left hl] at hj
    rw [List.getElem?_append_left (by rw [← h.1]; exact hl)] at hr
    exact h.2 j v' r' hj hr
  · rw [List.getElem?_append_right (by omega)] at hj
    rw [List.getElem?_append_right (by rw [← h.1]; omega), ← h.1] at hr
    have : j - vs.length = 0 := by
      rcases Nat.eq_zero_or_pos (j - vs.length) with h0 | h0
      · exact h0
      · rw [List.getElem?_eq_none (by simp; omega)] at hj; cases hj
    rw [this] at hj hr
    simp at hj hr
    subst hj hr
    exact hv
theorem AreRows.set {w : World} {vs : List Value} {rows : List (List Int)} (h : AreRows w vs rows) (s : Nat) {v : Value} {r : List Int} (hv : IsRow w v r) : AreRows w (vs.set s v) (rows.set s r) := by
  refine ⟨by simp [h.1], fun j v' r' hj hr => ?_⟩
  by_cases e : s = j
  · subst e
    rw [List.getElem?_set_self' ] at hj hr
    rcases hvs : vs[s]? with _ | x
    · rw [hvs] at hj; cases hj
    · rcases hrs : rows[s]? with _ | y
      · rw [hrs] at hr; cases hr
      · rw [hvs] at hj; rw [hrs] at hr
        simp at hj hr
        subst hj hr
        exact hv
  · rw [List.getElem?_set_ne e] at hj hr
    exact h.2 j v' r' hj hr
theorem AreRows.same {w : World} (n : Nat) : AreRows w (List.replicate n (.slice none 0 0)) (List.replicate n []) := by
  refine ⟨by simp, fun j v r hv hr => ?_⟩
  obtain ⟨hj, e⟩ := List.getElem?_eq_some_iff.1 hv
  obtain ⟨hj', e'⟩ := List.getElem?_eq_some_iff.1 hr
  simp at e e'
  subst e e'
  exact IsRow.nil w
/-- rows of rows that are read -/
def AsRows (B : Option Addr) (vs : List Value) (rows : List (List Int)) : As := ⟨rowsFp B vs, fun w => Rd w B vs ∧ AreRows w vs rows,
  fun {w} h k hk => by
    obtain ⟨hB, hR⟩ := h
    rcases hk with ⟨hne, ad, rfl, rfl⟩ | ⟨ad, n, c, hm, hn, rfl⟩
    · exact (As.rd (some ad) vs).lt hB _ ⟨hne, ad, rfl, rfl⟩
    · obtain ⟨j, hj, e⟩ := List.getElem_of_mem hm
      obtain ⟨A, c', e', _, hr⟩ := hR.2 j _ (rows[j]'(by rw [← hR.1]; exact hj)) (by rw [List.getElem?_eq_getElem hj, e]) (List.getElem?_eq_getElem _)
      cases e'
      exact (As.rd (some ad) _).lt hr _ ⟨fun h0 => by rw [u32s_nil h0] at hn; simp at hn, ad, rfl, rfl⟩,
  fun {w w'} h k => by
    obtain ⟨hB, hR⟩ := h
    refine ⟨(As.rd B vs).loc hB fun i ⟨hne, ad, e, hi⟩ => k i (.inl ⟨hne, ad, e, hi⟩), hR.1, fun j v r hv hr => (hR.2 j v r hv hr).frame fun ad n c e hn => k _ (.inr ⟨ad, n, c, e ▸ List.mem_of_getElem? hv, hn, rfl⟩)⟩⟩
/-- the reference's lists: the limits are read, the waiters are rows -/
def AsRef (A B : Option Addr) (vs : List Value) (S : St) : As := (As.rd A (S.map fun p => Value.int .i64 p.1)).and (AsRows B vs (S.map (·.2)))
end Go.Wl
