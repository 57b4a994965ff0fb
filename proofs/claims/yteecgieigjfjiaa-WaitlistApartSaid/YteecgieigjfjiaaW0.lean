/- Rings of waiters, in plain lists. -/
namespace Go.Wl
set_option linter.unusedVariables false
/-- a ring: its limit, its array, the first index, how many -/
structure Rg where
  lim : Nat
  own : List Int
  first : Nat
  many : Nat
def Rg.at_ (r : Rg) (j : Nat) : Nat := (r.first + j) % 64
def Rg.ws (r : Rg) : List Int := (List.range r.many).map fun j => r.own.getD (r.at_ j) 0
structure Rg.ok (r : Rg) : Prop where
  len : r.own.length = 64
  fst : r.first < 64
  mny : r.many ≤ r.lim
  lim : r.lim ≤ 64
  rng : ∀ x ∈ r.own, 0 ≤ x ∧ x < 4294967296
theorem Rg.ws_length (r : Rg) : r.ws.length = r.many := by simp [Rg.ws]
theorem Rg.ws_get (r : Rg) {j : Nat} (h : j < r.many) : r.ws[j]? = some (r.own.getD (r.at_ j) 0) := by
  simp [Rg.ws, h]
theorem Rg.ws_getD (r : Rg) {j : Nat} (h : j < r.many) : r.ws.getD j 0 = r.own.getD (r.at_ j) 0 := by
  rw [List.getD_eq_getElem?_getD, r.ws_get h]; rfl
theorem Rg.at_lt (r : Rg) (j : Nat) : r.at_ j < 64 := Nat.mod_lt _ (by decide)
theorem getD_set (l : List Int) (i j : Nat) (x : Int) (hi : i < l.length) : (l.set i x).getD j 0 = if j = i then x else l.getD j 0 := by
  simp only [List.getD_eq_getElem?_getD, List.getElem?_set]
  by_cases h : i = j
  · subst h; simp [hi]
  · have h' : ¬ j = i := fun e => h e.symm
    simp [h, h']
theorem ext_getD {l m : List Int} (hl : l.length = m.length) (h : ∀ j, j < l.length → l.getD j 0 = m.getD j 0) : l = m := by
  apply List.ext_getElem hl
  intro i h1 h2
  have := h i h1
  rwa [List.getD_eq_getElem?_getD, List.getD_eq_getElem?_getD, List.getElem?_eq_getElem h1, List.getElem?_eq_getElem h2] at this
/-- an owner at the end -/
def Rg.push (r : Rg) (o : Int) : Rg := { r with own := r.own.set (r.at_ r.many) o, many := r.many + 1 }
theorem Rg.push_ws {r : Rg} (h : r.ok) (hm : r.many < 64) (o : Int) : (r.push o).ws = r.ws ++ [o] := by
  apply ext_getD
  · simp [Rg.ws_length, Rg.push]
  · intro j hj
    rw [Rg.ws_length] at hj
    have hj' : j < r.many + 1 := hj
    rw [Rg.ws_getD _ hj]
    have e : (r.push o).at_ j = r.at_ j := rfl
    rw [e]
    show (r.own.set (r.at_ r.many) o).getD (r.at_ j) 0 = _
    rw [getD_set _ _ _ _ (by rw [h.len]; exact r.at_lt _)]
    by_cases hjm : j = r.many
    · subst hjm
      simp [List.getD_eq_getElem?_getD, Rg.ws_length]
    · have hne : r.at_ j ≠ r.at_ r.many := by unfold Rg.at_; have := h.fst; omega
      rw [if_neg hne, ← r.ws_getD (by omega)]
      simp only [List.getD_eq_getElem?_getD]
      rw [List.getElem?_append_left (by rw [Rg.ws_length]; omega)]
theorem Rg.push_ok {r : Rg} (h : r.ok) (hm : r.many < r.lim) {o : Int} (ho : 0 ≤ o ∧ o < 4294967296) : (r.push o).ok := by
  refine ⟨by simp [Rg.push, h.len], h.fst, hm, h.lim, fun x hx => ?_⟩
  rcases List.mem_or_eq_of_mem_set hx with hx | rfl
  · exact h.rng x hx
  · exact ho
/-- without the first one -/
def Rg.pop (r : Rg) : Rg := { r with first := r.at_ 1, many := r.many - 1 }
theorem Rg.pop_ws {r : Rg} (h : r.ok) (hm : 0 < r.many) : r.pop.ws = r.ws.tail := by
  apply ext_getD
  · simp [Rg.ws_length, Rg.pop]
  · intro j hj
    rw [Rg.ws_length] at hj
    have hj' : j < r.many - 1 := hj
    rw [Rg.ws_getD _ hj]
    have e : r.pop.at_ j = r.at_ (j + 1) := by unfold Rg.at_ Rg.pop Rg.at_; simp only; omega
    rw [e]
    show r.own.getD (r.at_ (j + 1)) 0 = _
    rw [← r.ws_getD (by omega)]
    simp only [List.getD_eq_getElem?_getD, List.getElem?_tail]
theorem Rg.pop_ok {r : Rg} (h : r.ok) : r.pop.ok := ⟨h.len, Nat.mod_lt _ (by decide), by have := h.mny; simp [Rg.pop]; omega, h.lim, h.rng⟩
/-- n steps of moving up behind number i -/
def Rg.sh (r : Rg) (i : Nat) : Nat → List Int
  | 0 => r.own
  | n + 1 => (r.sh i n).set (r.at_ (i + n)) ((r.sh i n).getD (r.at_ (i + n + 1)) 0)
theorem Rg.sh_length (r : Rg) (i : Nat) : ∀ n, (r.sh i n).length = r.own.length
  | 0 => rfl
  | n + 1 => by rw [Rg.sh, List.length_set, Rg.sh_length r i n]
theorem Rg.sh_get {r : Rg} (h : r.ok) (i : Nat) : ∀ n, i + n < r.many → ∀ j, j < r.many → (r.sh i n).getD (r.at_ j) 0 = if i ≤ j ∧ j < i + n then r.own.getD (r.at_ (j + 1)) 0 else r.own.getD (r.at_ j) 0
  | 0, _, j, _ => by rw [if_neg (by omega)]; rfl
  | n + 1, hn, j, hj => by
    have hf := h.fst
    have hm := Nat.le_trans h.mny h.lim
    rw [Rg.sh, getD_set _ _ _ _ (by rw [Rg.sh_length, h.len]; exact r.at_lt _)]
    by_cases e : j = i + n
    · subst e
      rw [if_pos rfl, if_pos (by omega), Rg.sh_get h i n (by omega) (i + n + 1) (by omega), if_neg (by omega)]
    · have hne : r.at_ j ≠ r.at_ (i + n) := by unfold Rg.at_; omega
      rw [if_neg hne, Rg.sh_get h i n (by omega) j hj]
      by_cases c : i ≤ j ∧ j < i + n
      · rw [if_pos c, if_pos (by omega)]
      · rw [if_neg c, if_neg (by omega)]
theorem Rg.sh_rng {r : Rg} (h : r.ok) (i : Nat) : ∀ n, ∀ x ∈ r.sh i n, 0 ≤ x ∧ x < 4294967296
  | 0, x, hx => h.rng x hx
  | n + 1, x, hx => by
    rcases List.mem_or_eq_of_mem_set hx with hx | rfl
    · exact Rg.sh_rng h i n x hx
    · rw [List.getD_eq_getElem?_getD, List.getElem?_eq_getElem (by rw [Rg.sh_length, h.len]; exact r.at_lt _)]
      exact Rg.sh_rng h i n _ (List.getElem_mem _)
/-- without number i, above 0 -/
def Rg.cut (r : Rg) (i : Nat) : Rg := { r with own := r.sh i (r.many - 1 - i), many := r.many - 1 }
theorem Rg.cut_ws {r : Rg} (h : r.ok) {i : Nat} (hi : i < r.many) : (r.cut i).ws = r.ws.eraseIdx i := by
  apply ext_getD
  · rw [Rg.ws_length, List.length_eraseIdx, Rg.ws_length, if_pos hi]; rfl
  · intro j hj
    rw [Rg.ws_length] at hj
    have hj' : j < r.many - 1 := hj
    rw [Rg.ws_getD _ hj]
    have e : (r.cut i).at_ j = r.at_ j := rfl
    rw [e]
    show (r.sh i (r.many - 1 - i)).getD (r.at_ j) 0 = _
    rw [Rg.sh_get h i _ (by omega) j (by omega)]
    simp only [List.getD_eq_getElem?_getD, List.getElem?_eraseIdx]
    by_cases c : j < i
    · rw [if_neg (by omega), if_pos c, ← List.getD_eq_getElem?_getD, ← List.getD_eq_getElem?_getD, r.ws_getD (by omega)]
    · rw [if_pos (by omega), if_neg c, ← List.getD_eq_getElem?_getD, ← List.getD_eq_getElem?_getD, r.ws_getD (by omega)]
theorem Rg.cut_ok {r : Rg} (h : r.ok) (i : Nat) : (r.cut i).ok := ⟨by rw [← h.len]; exact r.sh_length i _, h.fst, by have := h.mny; simp [Rg.cut]; omega, h.lim, Rg.sh_rng h i _⟩
/-- taken out -/
def Rg.drop (r : Rg) (i : Nat) : Rg := if i = 0 then r.pop else r.cut i
theorem Rg.drop_ws {r : Rg} (h : r.ok) {i : Nat} (hi : i < r.many) : (r.drop i).ws = r.ws.eraseIdx i := by
  unfold Rg.drop
  split
  · rename_i h0; subst h0
    rw [Rg.pop_ws h hi, List.eraseIdx_zero]
  · exact Rg.cut_ws h hi
theorem Rg.drop_ok {r : Rg} (h : r.ok) (i : Nat) : (r.drop i).ok := by
  unfold Rg.drop; split
  · exact Rg.pop_ok h
  · exact Rg.cut_ok h i
/-- two copies make up the waiters -/
theorem Rg.ws_parts {r : Rg} (h : r.ok) : r.ws = (r.own.drop r.first).take (min (r.first + r.many) 64 - r.first) ++ r.own.take (r.many - (min (r.first + r.many) 64 - r.first)) := by
  have hf := h.fst
  have hm := Nat.le_trans h.mny h.lim
  have hl := h.len
  apply ext_getD
  · simp [Rg.ws_length, hl]; omega
  · intro j hj
    rw [Rg.ws_length] at hj
    rw [Rg.ws_getD _ hj]
    simp only [List.getD_eq_getElem?_getD]
    by_cases c : j < min (r.first + r.many) 64 - r.first
    · rw [List.getElem?_append_left (by simp [hl]; omega), List.getElem?_take, if_pos c, List.getElem?_drop]
      congr 2
      unfold Rg.at_; omega
    · rw [List.getElem?_append_right (by simp [hl]; omega), List.getElem?_take]
      simp only [List.length_take, List.length_drop, hl]
      rw [if_pos (by omega)]
      congr 2
      unfold Rg.at_; omega
/-- the number of an owner; below 0: none -/
def findI (l : List Int) (o : Int) : Int := match l.findIdx? (· == o) with | some i => (i : Int) | none => -1
end Go.Wl
