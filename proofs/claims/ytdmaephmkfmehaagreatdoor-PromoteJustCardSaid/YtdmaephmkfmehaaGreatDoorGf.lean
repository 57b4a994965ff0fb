/- Texts put together: W0 W1 W2 W3 W5 W4 W7 W8 W9 W6. -/
import Derived.Test.YtdmaephmkfmehaaGreatDoorGa
import Derived.Deep.CutBlock
import Derived.Test.YtdmaephmkfmehaaGreatDoorProg
import Derived.Test.YtdmaephmkfmehaaGreatDoorGb
import Derived.Laws.Small
namespace Go.Wl
set_option linter.unusedVariables false
/-- a ring: its limit, its array, the first index, how many -/
structure Rg where
  lim : Nat
  own : List Int
  first : Nat
  many : Nat
def Rg.at_ (r : Rg) (j : Nat) : Nat := (r.first + j) % 64
def Rg.ws (r : Rg) : List Int := (List.range r.many).map fun j => r.own.getD (r.at_ j) 0
structure Rg.ok (r : Rg) : Prop where
  len : r.own.length = 64
  fst : r.first < 64
  mny : r.many ≤ r.lim
  lim : r.lim ≤ 64
  rng : ∀ x ∈ r.own, 0 ≤ x ∧ x < 4294967296
theorem Rg.ws_length (r : Rg) : r.ws.length = r.many := by simp [Rg.ws]
theorem Rg.ws_get (r : Rg) {j : Nat} (h : j < r.many) : r.ws[j]? = some (r.own.getD (r.at_ j) 0) := by
  simp [Rg.ws, h]
theorem Rg.ws_getD (r : Rg) {j : Nat} (h : j < r.many) : r.ws.getD j 0 = r.own.getD (r.at_ j) 0 := by
  rw [List.getD_eq_getElem?_getD, r.ws_get h]; rfl
theorem Rg.at_lt (r : Rg) (j : Nat) : r.at_ j < 64 := Nat.mod_lt _ (by decide)
theorem getD_set (l : List Int) (i j : Nat) (x : Int) (hi : i < l.length) : (l.set i x).getD j 0 = if j = i then x else l.getD j 0 := by
  simp only [List.getD_eq_getElem?_getD, List.getElem?_set]
  by_cases h : i = j
  · subst h; simp [hi]
  · have h' : ¬ j = i := fun e => h e.symm
    simp [h, h']
theorem ext_getD {l m : List Int} (hl : l.length = m.length) (h : ∀ j, j < l.length → l.getD j 0 = m.getD j 0) : l = m := by
  apply List.ext_getElem hl
  intro i h1 h2
  have := h i h1
  rwa [List.getD_eq_getElem?_getD, List.getD_eq_getElem?_getD, List.getElem?_eq_getElem h1, List.getElem?_eq_getElem h2] at this
/-- an owner at the end -/
def Rg.push (r : Rg) (o : Int) : Rg := { r with own := r.own.set (r.at_ r.many) o, many := r.many + 1 }
theorem Rg.push_ws {r : Rg} (h : r.ok) (hm : r.many < 64) (o : Int) : (r.push o).ws = r.ws ++ [o] := by
  apply ext_getD
  · simp [Rg.ws_length, Rg.push]
  · intro j hj
    rw [Rg.ws_length] at hj
    have hj' : j < r.many + 1 := hj
    rw [Rg.ws_getD _ hj]
    have e : (r.push o).at_ j = r.at_ j := rfl
    rw [e]
    show (r.own.set (r.at_ r.many) o).getD (r.at_ j) 0 = _
    rw [getD_set _ _ _ _ (by rw [h.len]; exact r.at_lt _)]
    by_cases hjm : j = r.many
    · subst hjm
      simp [List.getD_eq_getElem?_getD, Rg.ws_length]
    · have hne : r.at_ j ≠ r.at_ r.many := by unfold Rg.at_; have := h.fst; omega
      rw [if_neg hne, ← r.ws_getD (by omega)]
      simp only [List.getD_eq_getElem?_getD]
      rw [List.getElem?_append_left (by rw [Rg.ws_length]; omega)]
theorem Rg.push_ok {r : Rg} (h : r.ok) (hm : r.many < r.lim) {o : Int} (ho : 0 ≤ o ∧ o < 4294967296) : (r.push o).ok := by
  refine ⟨by simp [Rg.push, h.len], h.fst, hm, h.lim, fun x hx => ?_⟩
  rcases List.mem_or_eq_of_mem_set hx with hx | rfl
  · exact h.rng x hx
  · exact ho
/-- without the first one -/
def Rg.pop (r : Rg) : Rg := { r with first := r.at_ 1, many := r.many - 1 }
theorem Rg.pop_ws {r : Rg} (h : r.ok) (hm : 0 < r.many) : r.pop.ws = r.ws.tail := by
  apply ext_getD
  · simp [Rg.ws_length, Rg.pop]
  · intro j hj
    rw [Rg.ws_length] at hj
    have hj' : j < r.many - 1 := hj
    rw [Rg.ws_getD _ hj]
    have e : r.pop.at_ j = r.at_ (j + 1) := by unfold Rg.at_ Rg.pop Rg.at_; simp only; omega
    rw [e]
    show r.own.getD (r.at_ (j + 1)) 0 = _
    rw [← r.ws_getD (by omega)]
    simp only [List.getD_eq_getElem?_getD, List.getElem?_tail]
theorem Rg.pop_ok {r : Rg} (h : r.ok) : r.pop.ok := ⟨h.len, Nat.mod_lt _ (by decide), by have := h.mny; simp [Rg.pop]; omega, h.lim, h.rng⟩
/-- n steps of moving up behind number i -/
def Rg.sh (r : Rg) (i : Nat) : Nat → List Int
  | 0 => r.own
  | n + 1 => (r.sh i n).set (r.at_ (i + n)) ((r.sh i n).getD (r.at_ (i + n + 1)) 0)
theorem Rg.sh_length (r : Rg) (i : Nat) : ∀ n, (r.sh i n).length = r.own.length
  | 0 => rfl
  | n + 1 => by rw [Rg.sh, List.length_set, Rg.sh_length r i n]
theorem Rg.sh_get {r : Rg} (h : r.ok) (i : Nat) : ∀ n, i + n < r.many → ∀ j, j < r.many → (r.sh i n).getD (r.at_ j) 0 = if i ≤ j ∧ j < i + n then r.own.getD (r.at_ (j + 1)) 0 else r.own.getD (r.at_ j) 0
  | 0, _, j, _ => by rw [if_neg (by omega)]; rfl
  | n + 1, hn, j, hj => by
    have hf := h.fst
    have hm := Nat.le_trans h.mny h.lim
    rw [Rg.sh, getD_set _ _ _ _ (by rw [Rg.sh_length, h.len]; exact r.at_lt _)]
    by_cases e : j = i + n
    · subst e
      rw [if_pos rfl, if_pos (by omega), Rg.sh_get h i n (by omega) (i + n + 1) (by omega), if_neg (by omega)]
    · have hne : r.at_ j ≠ r.at_ (i + n) := by unfold Rg.at_; omega
      rw [if_neg hne, Rg.sh_get h i n (by omega) j hj]
      by_cases c : i ≤ j ∧ j < i + n
      · rw [if_pos c, if_pos (by omega)]
      · rw [if_neg c, if_neg (by omega)]
theorem Rg.sh_rng {r : Rg} (h : r.ok) (i : Nat) : ∀ n, ∀ x ∈ r.sh i n, 0 ≤ x ∧ x < 4294967296
  | 0, x, hx => h.rng x hx
  | n + 1, x, hx => by
    rcases List.mem_or_eq_of_mem_set hx with hx | rfl
    · exact Rg.sh_rng h i n x hx
    · rw [List.getD_eq_getElem?_getD, List.getElem?_eq_getElem (by rw [Rg.sh_length, h.len]; exact r.at_lt _)]
      exact Rg.sh_rng h i n _ (List.getElem_mem _)
/-- without number i, above 0 -/
def Rg.cut (r : Rg) (i : Nat) : Rg := { r with own := r.sh i (r.many - 1 - i), many := r.many - 1 }
theorem Rg.cut_ws {r : Rg} (h : r.ok) {i : Nat} (hi : i < r.many) : (r.cut i).ws = r.ws.eraseIdx i := by
  apply ext_getD
  · rw [Rg.ws_length, List.length_eraseIdx, Rg.ws_length, if_pos hi]; rfl
  · intro j hj
    rw [Rg.ws_length] at hj
    have hj' : j < r.many - 1 := hj
    rw [Rg.ws_getD _ hj]
    have e : (r.cut i).at_ j = r.at_ j := rfl
    rw [e]
    show (r.sh i (r.many - 1 - i)).getD (r.at_ j) 0 = _
    rw [Rg.sh_get h i _ (by omega) j (by omega)]
    simp only [List.getD_eq_getElem?_getD, List.getElem?_eraseIdx]
    by_cases c : j < i
    · rw [if_neg (by omega), if_pos c, ← List.getD_eq_getElem?_getD, ← List.getD_eq_getElem?_getD, r.ws_getD (by omega)]
    · rw [if_pos (by omega), if_neg c, ← List.getD_eq_getElem?_getD, ← List.getD_eq_getElem?_getD, r.ws_getD (by omega)]
theorem Rg.cut_ok {r : Rg} (h : r.ok) (i : Nat) : (r.cut i).ok := ⟨by rw [← h.len]; exact r.sh_length i _, h.fst, by have := h.mny; simp [Rg.cut]; omega, h.lim, Rg.sh_rng h i _⟩
/-- taken out -/
def Rg.drop (r : Rg) (i : Nat) : Rg := if i = 0 then r.pop else r.cut i
theorem Rg.drop_ws {r : Rg} (h : r.ok) {i : Nat} (hi : i < r.many) : (r.drop i).ws = r.ws.eraseIdx i := by
  unfold Rg.drop
  split
  · rename_i h0; subst h0
    rw [Rg.pop_ws h hi, List.eraseIdx_zero]
  · exact Rg.cut_ws h hi
theorem Rg.drop_ok {r : Rg} (h : r.ok) (i : Nat) : (r.drop i).ok := by
  unfold Rg.drop; split
  · exact Rg.pop_ok h
  · exact Rg.cut_ok h i
/-- two copies make up the waiters -/
theorem Rg.ws_parts {r : Rg} (h : r.ok) : r.ws = (r.own.drop r.first).take (min (r.first + r.many) 64 - r.first) ++ r.own.take (r.many - (min (r.first + r.many) 64 - r.first)) := by
  have hf := h.fst
  have hm := Nat.le_trans h.mny h.lim
  have hl := h.len
  apply ext_getD
  · simp [Rg.ws_length, hl]; omega
  · intro j hj
    rw [Rg.ws_length] at hj
    rw [Rg.ws_getD _ hj]
    simp only [List.getD_eq_getElem?_getD]
    by_cases c : j < min (r.first + r.many) 64 - r.first
    · rw [List.getElem?_append_left (by simp [hl]; omega), List.getElem?_take, if_pos c, List.getElem?_drop]
      congr 2
      unfold Rg.at_; omega
    · rw [List.getElem?_append_right (by simp [hl]; omega), List.getElem?_take]
      simp only [List.length_take, List.length_drop, hl]
      rw [if_pos (by omega)]
      congr 2
      unfold Rg.at_; omega
/-- the number of an owner; below 0: none -/
def findI (l : List Int) (o : Int) : Int := match l.findIdx? (· == o) with | some i => (i : Int) | none => -1
end Go.Wl
namespace Go.Wl
set_option linter.unusedVariables false
/-- the sections: each its limit and its waiters -/
abbrev St := List (Nat × List Int)
def inS (S : St) (i : Int) : Prop := 0 ≤ i ∧ i < S.length
instance (S : St) (i : Int) : Decidable (inS S i) := by unfold inS; exact inferInstance
def lm (S : St) (i : Int) : Nat := (S.getD i.toNat (0, [])).1
def wt (S : St) (i : Int) : List Int := (S.getD i.toNat (0, [])).2
def put (S : St) (i : Int) (w : List Int) : St := S.set i.toNat (lm S i, w)
structure Ok1 (p : Nat × List Int) : Prop where
  lim : p.1 ≤ 64
  len : p.2.length ≤ p.1
  rng : ∀ x ∈ p.2, 0 ≤ x ∧ x < 4294967296
  nod : p.2.Nodup
structure Ok (S : St) : Prop where
  pos : 1 ≤ S.length
  len : S.length ≤ 8
  all : ∀ p ∈ S, Ok1 p
def joinS (S : St) (i o : Int) : St × Int × Int :=
  if ¬ inS S i then (S, 0, 4) else if (wt S i).length = lm S i then (S, 0, 5) else if o ∈ wt S i then (S, 0, 8) else (put S i (wt S i ++ [o]), (wt S i).length + 1, 0)
def placeS (S : St) (i o : Int) : Int × Int := if ¬ inS S i then (0, 4) else if o ∈ wt S i then ((wt S i).idxOf o + 1, 0) else (0, 4)
def leaveS (S : St) (i o : Int) : St × Int := if ¬ inS S i then (S, 4) else if o ∈ wt S i then (put S i ((wt S i).eraseIdx ((wt S i).idxOf o)), 0) else (S, 4)
def firstS (S : St) (i : Int) : Int × Int := if ¬ inS S i then (0, 4) else if wt S i = [] then (0, 4) else ((wt S i).getD 0 0, 0)
def takeS (S : St) (i : Int) : St × Int × Int := if ¬ inS S i then (S, 0, 4) else if wt S i = [] then (S, 0, 4) else (put S i (wt S i).tail, (wt S i).getD 0 0, 0)
def lenS (S : St) (i : Int) : Int × Int := if ¬ inS S i then (0, 4) else ((wt S i).length, 0)
theorem Ok.get {S : St} (h : Ok S) {i : Int} (hi : inS S i) : Ok1 (lm S i, wt S i) := by
  obtain ⟨h0, h1⟩ := hi
  have e : S.getD i.toNat (0, []) = S[i.toNat]'(by omega) := by
    rw [List.getD_eq_getElem?_getD, List.getElem?_eq_getElem (by omega)]; rfl
  unfold lm wt
  rw [e]
  exact h.all _ (List.getElem_mem _)
theorem put_ok {S : St} (h : Ok S) {i : Int} (hi : inS S i) {w : List Int} (hw : Ok1 (lm S i, w)) : Ok (put S i w) := by
  refine ⟨by simp [put, h.pos], by simp [put, h.len], fun p hp => ?_⟩
  rcases List.mem_or_eq_of_mem_set hp with hp | rfl
  · exact h.all p hp
  · exact hw
theorem join_ok {S : St} (h : Ok S) (i : Int) {o : Int} (ho : 0 ≤ o ∧ o < 4294967296) : Ok (joinS S i o).1 := by
  unfold joinS
  by_cases hi : inS S i
  · rw [if_neg (by simpa using hi)]
    have hg := h.get hi
    split
    · exact h
    · rename_i hl
      split
      · exact h
      · rename_i hm
        refine put_ok h hi ⟨hg.lim, ?_, ?_, ?_⟩
        · have := hg.len
          simp only [List.length_append, List.length_singleton]
          simp only at this
          omega
        · intro x hx
          rcases List.mem_append.1 hx with hx | hx
          · exact hg.rng x hx
          · rw [List.mem_singleton] at hx; subst hx; exact ho
        · have := hg.nod
          simp only at this ⊢
          rw [List.nodup_append]
          exact ⟨this, by simp, fun a ha b hb e => by rw [List.mem_singleton] at hb; subst hb; subst e; exact hm ha⟩
  · rw [if_pos hi]; exact h
theorem Ok1.sub {n : Nat} {w w' : List Int} (h : Ok1 (n, w)) (hs : w'.Sublist w) : Ok1 (n, w') :=
  ⟨h.lim, Nat.le_trans hs.length_le h.len, fun x hx => h.rng x (hs.mem hx), h.nod.sublist hs⟩
theorem leave_ok {S : St} (h : Ok S) (i o : Int) : Ok (leaveS S i o).1 := by
  unfold leaveS
  by_cases hi : inS S i
  · rw [if_neg (by simpa using hi)]
    split
    · exact put_ok h hi ((h.get hi).sub (List.eraseIdx_sublist _ _))
    · exact h
  · rw [if_pos hi]; exact h
theorem take_ok {S : St} (h : Ok S) (i : Int) : Ok (takeS S i).1 := by
  unfold takeS
  by_cases hi : inS S i
  · rw [if_neg (by simpa using hi)]
    split
    · exact h
    · exact put_ok h hi ((h.get hi).sub (List.tail_sublist _))
  · rw [if_pos hi]; exact h
end Go.Wl
namespace Go.Wl
open Go Go.RowKit Go.Gr
set_option linter.unusedVariables false
set_option linter.unusedSimpArgs false
def u32s (l : List Int) : List Value := l.map fun x => .int .u32 x
theorem u32s_len (l : List Int) : (u32s l).length = l.length := by simp [u32s]
theorem u32s_get (l : List Int) {j : Nat} (h : j < l.length) : (u32s l)[j]? = some (.int .u32 l[j]) := by simp [u32s, h]
theorem u32s_append (a b : List Int) : u32s (a ++ b) = u32s a ++ u32s b := by simp [u32s]
theorem u32s_set (l : List Int) (j : Nat) (x : Int) : (u32s l).set j (.int .u32 x) = u32s (l.set j x) := by simp [u32s, List.map_set]
theorem u32s_take (l : List Int) (n : Nat) : (u32s l).take n = u32s (l.take n) := by simp [u32s, List.map_take]
theorem u32s_drop (l : List Int) (n : Nat) : (u32s l).drop n = u32s (l.drop n) := by simp [u32s, List.map_drop]
theorem u32s_one (l : List Int) : ∀ v ∈ u32s l, v.oneCell' = true := by
  intro v hv
  obtain ⟨x, _, rfl⟩ := List.mem_map.1 hv
  rfl
def Rg.cells (r : Rg) : List Value := .int .i64 r.lim :: (u32s r.own ++ [.int .i64 r.first, .int .i64 r.many])
theorem Rg.cells_len {r : Rg} (h : r.own.length = 64) : r.cells.length = 67 := by simp [Rg.cells, u32s, h]
def cellsR (R : List Rg) : List Value := (R.map Rg.cells).flatten
def LenR (R : List Rg) : Prop := ∀ r ∈ R, r.own.length = 64
theorem LenR.cells {R : List Rg} (h : LenR R) : ∀ c ∈ R.map Rg.cells, c.length = 67 := by
  intro c hc
  obtain ⟨r, hr, rfl⟩ := List.mem_map.1 hc
  exact Rg.cells_len (h r hr)
theorem cellsR_len {R : List Rg} (h : LenR R) : (cellsR R).length = R.length * 67 := by
  unfold cellsR
  rw [flatten_len h.cells, List.length_map]
theorem LenR.set {R : List Rg} (h : LenR R) (s : Nat) {r : Rg} (hr : r.own.length = 64) : LenR (R.set s r) := by
  intro x hx
  rcases List.mem_or_eq_of_mem_set hx with hx | rfl
  · exact h x hx
  · exact hr
theorem cellsR_get {R : List Rg} (h : LenR R) {s : Nat} {r : Rg} (hs : R[s]? = some r) {j : Nat} {u : Value} (hj : r.cells[j]? = some u) : (cellsR R)[s * 67 + j]? = some u :=
  flatten_get h.cells s j (by rw [List.getElem?_map, hs]; rfl) hj
theorem cellsR_lim {R : List Rg} (h : LenR R) {s : Nat} {r : Rg} (hs : R[s]? = some r) : (cellsR R)[s * 67]? = some (.int .i64 r.lim) := cellsR_get h hs (j := 0) rfl
theorem cellsR_own {R : List Rg} (h : LenR R) {s : Nat} {r : Rg} (hs : R[s]? = some r) {j : Nat} (hj : j < r.own.length) : (cellsR R)[s * 67 + (1 + j)]? = some (.int .u32 r.own[j]) := by
  refine cellsR_get h hs ?_
  unfold Rg.cells
  rw [Nat.add_comm, List.getElem?_cons_succ, List.getElem?_append_left (by rw [u32s_len]; exact hj), u32s_get _ hj]
theorem cellsR_first {R : List Rg} (h : LenR R) {s : Nat} {r : Rg} (hs : R[s]? = some r) : (cellsR R)[s * 67 + 65]? = some (.int .i64 r.first) := by
  refine cellsR_get h hs ?_
  have hl := h r (List.mem_of_getElem? hs)
  unfold Rg.cells
  rw [List.getElem?_cons_succ, List.getElem?_append_right (by rw [u32s_len, hl]; exact Nat.le_refl _), u32s_len, hl]; rfl
theorem cellsR_many {R : List Rg} (h : LenR R) {s : Nat} {r : Rg} (hs : R[s]? = some r) : (cellsR R)[s * 67 + 66]? = some (.int .i64 r.many) := by
  refine cellsR_get h hs ?_
  have hl := h r (List.mem_of_getElem? hs)
  unfold Rg.cells
  rw [List.getElem?_cons_succ, List.getElem?_append_right (by rw [u32s_len, hl]; decide), u32s_len, hl]; rfl
theorem flatten_set {k : Nat} : ∀ {rows : List (List Value)}, (∀ r ∈ rows, r.length = k) → ∀ (i j : Nat) {r : List Value} (u : Value), rows[i]? = some r → j < k → rows.flatten.set (i * k + j) u = (rows.set i (r.set j u)).flatten
  | [], _, i, j, r, u, hr, _ => by simp at hr
  | a :: rows, h, 0, j, r, u, hr, hj => by
    simp only [List.getElem?_cons_zero, Option.some.injEq] at hr
    subst hr
    have ha := h a (by simp)
    rw [List.flatten_cons, Nat.zero_mul, Nat.zero_add, List.set_append_left _ _ (by omega), List.set_cons_zero, List.flatten_cons]
  | a :: rows, h, i + 1, j, r, u, hr, hj => by
    rw [List.getElem?_cons_succ] at hr
    have ha := h a (by simp)
    rw [List.flatten_cons, List.set_append_right _ _ (by rw [ha, Nat.add_mul]; omega), List.set_cons_succ, List.flatten_cons]
    have := flatten_set (rows := rows) (fun x hx => h x (by simp [hx])) i j u hr hj
    rw [ha, show (i + 1) * k + j - k = i * k + j by rw [Nat.add_mul]; omega, this]
theorem cellsR_set {R : List Rg} (h : LenR R) {s : Nat} {r r' : Rg} (hs : R[s]? = some r) {j : Nat} {u : Value} (hj : j < 67) (hr : r.cells.set j u = r'.cells) : (cellsR R).set (s * 67 + j) u = cellsR (R.set s r') := by
  unfold cellsR
  rw [flatten_set h.cells s j u (by rw [List.getElem?_map, hs]; rfl) hj, hr, List.map_set]
theorem cellsR_set_own {R : List Rg} (h : LenR R) {s : Nat} {r : Rg} (hs : R[s]? = some r) {j : Nat} (hj : j < 64) (o : Int) : (cellsR R).set (s * 67 + (1 + j)) (.int .u32 o) = cellsR (R.set s { r with own := r.own.set j o }) := by
  refine cellsR_set h hs (by omega) ?_
  have hl := h r (List.mem_of_getElem? hs)
  unfold Rg.cells
  rw [Nat.add_comm, List.set_cons_succ, List.set_append_left _ _ (by rw [u32s_len, hl]; exact hj), u32s_set]
theorem cellsR_set_first {R : List Rg} (h : LenR R) {s : Nat} {r : Rg} (hs : R[s]? = some r) (n : Nat) : (cellsR R).set (s * 67 + 65) (.int .i64 n) = cellsR (R.set s { r with first := n }) := by
  refine cellsR_set h hs (by omega) ?_
  have hl := h r (List.mem_of_getElem? hs)
  unfold Rg.cells
  rw [List.set_cons_succ, List.set_append_right _ _ (by rw [u32s_len, hl]; exact Nat.le_refl _), u32s_len, hl]; rfl
theorem cellsR_set_many {R : List Rg} (h : LenR R) {s : Nat} {r : Rg} (hs : R[s]? = some r) (n : Nat) : (cellsR R).set (s * 67 + 66) (.int .i64 n) = cellsR (R.set s { r with many := n }) := by
  refine cellsR_set h hs (by omega) ?_
  have hl := h r (List.mem_of_getElem? hs)
  unfold Rg.cells
  rw [List.set_cons_succ, List.set_append_right _ _ (by rw [u32s_len, hl]; decide), u32s_len, hl]; rfl
theorem cellsR_set_lim {R : List Rg} (h : LenR R) {s : Nat} {r : Rg} (hs : R[s]? = some r) (n : Nat) : (cellsR R).set (s * 67) (.int .i64 n) = cellsR (R.set s { r with lim := n }) := cellsR_set h hs (j := 0) (by omega) rfl
/-- the lists that rings are -/
def stR (R : List Rg) : St := R.map fun r => (r.lim, r.ws)
theorem stR_len (R : List Rg) : (stR R).length = R.length := by simp [stR]
theorem stR_get {R : List Rg} {s : Nat} {r : Rg} (hs : R[s]? = some r) : lm (stR R) s = r.lim ∧ wt (stR R) s = r.ws := by
  unfold lm wt stR
  simp [List.getD_eq_getElem?_getD, hs]
theorem stR_set {R : List Rg} {s : Nat} {r r' : Rg} (hs : R[s]? = some r) (hl : r'.lim = r.lim) : stR (R.set s r') = put (stR R) s r'.ws := by
  unfold put
  rw [(stR_get hs).1]
  unfold stR
  rw [List.map_set, hl]; simp
end Go.Wl
namespace Go.Wl
set_option linter.unusedVariables false
set_option linter.unusedSimpArgs false
theorem idxOf_first : ∀ (l : List Int) (o : Int) (i : Nat), l[i]? = some o → (∀ j, j < i → l[j]? ≠ some o) → l.idxOf o = i
  | [], o, i, h, _ => by simp at h
  | x :: l, o, 0, h, _ => by
    simp only [List.getElem?_cons_zero, Option.some.injEq] at h
    subst h; simp
  | x :: l, o, i + 1, h, hb => by
    have hx : x ≠ o := fun e => hb 0 (by omega) (by simp [e])
    rw [List.idxOf_cons]
    have : (x == o) = false := by simpa using hx
    rw [this]
    simp only [cond_false]
    rw [idxOf_first l o i (by simpa using h) (fun j hj => by simpa using hb (j + 1) (by omega))]
theorem mem_of_get {l : List Int} {o : Int} {i : Nat} (h : l[i]? = some o) : o ∈ l := List.mem_of_getElem? h
theorem not_mem_all {l : List Int} {o : Int} (h : ∀ j, j < l.length → l[j]? ≠ some o) : o ∉ l := by
  intro hm
  obtain ⟨j, hj, e⟩ := List.getElem_of_mem hm
  exact h j hj (by rw [List.getElem?_eq_getElem hj, e])
theorem idxOf_lt {l : List Int} {o : Int} (h : o ∈ l) : l.idxOf o < l.length := List.idxOf_lt_length_iff.2 h
theorem get_idxOf {l : List Int} {o : Int} (h : o ∈ l) : l[l.idxOf o]? = some o := by
  rw [List.getElem?_eq_getElem (idxOf_lt h)]; simp
theorem nodup_get {l : List Int} (h : l.Nodup) {i j : Nat} {o : Int} (hi : l[i]? = some o) (hj : l[j]? = some o) : i = j := by
  obtain ⟨h1, e1⟩ := List.getElem?_eq_some_iff.1 hi
  obtain ⟨h2, e2⟩ := List.getElem?_eq_some_iff.1 hj
  have hn := List.pairwise_iff_getElem.1 h
  rcases Nat.lt_trichotomy i j with hlt | rfl | hlt
  · exact absurd (e1.trans e2.symm) (hn i j h1 h2 hlt)
  · rfl
  · exact absurd (e2.trans e1.symm) (hn j i h2 h1 hlt)
theorem idxOf_nodup {l : List Int} (h : l.Nodup) {i : Nat} {o : Int} (hi : l[i]? = some o) : l.idxOf o = i := nodup_get h (get_idxOf (mem_of_get hi)) hi
/-- who stays does not come later -/
theorem idxOf_erase {l : List Int} (h : l.Nodup) {i : Nat} {o : Int} (ho : o ∈ l.eraseIdx i) : (l.eraseIdx i).idxOf o ≤ l.idxOf o := by
  have hn : (l.eraseIdx i).Nodup := h.sublist (List.eraseIdx_sublist _ _)
  have hg := get_idxOf ho
  rw [List.getElem?_eraseIdx] at hg
  split at hg
  · rw [idxOf_nodup h hg]; exact Nat.le_refl _
  · rw [idxOf_nodup h hg]; omega
theorem idxOf_tail {l : List Int} (h : l.Nodup) {o : Int} (ho : o ∈ l.tail) : l.tail.idxOf o ≤ l.idxOf o := by
  rw [← List.eraseIdx_zero] at ho ⊢
  exact idxOf_erase h ho
theorem idxOf_app {l : List Int} {o x : Int} (ho : o ∈ l) : (l ++ [x]).idxOf o = l.idxOf o := by
  rw [List.idxOf_append, if_pos ho]
theorem erase_first {l : List Int} {o : Int} (h : o ∈ l) : l.eraseIdx (l.idxOf o) = l.take (l.idxOf o) ++ l.drop (l.idxOf o + 1) := List.eraseIdx_eq_take_drop_succ _ _
end Go.Wl
namespace Go.Wl
set_option linter.unusedVariables false
set_option linter.unusedSimpArgs false
/-- the number of an owner; below 0: none -/
def fnd (l : List Int) (o : Int) : Int := if o ∈ l then (l.idxOf o : Int) else -1
theorem fnd_some {l : List Int} {o : Int} {i : Nat} (h : l[i]? = some o) (hb : ∀ j, j < i → l[j]? ≠ some o) : fnd l o = i := by
  unfold fnd
  rw [if_pos (mem_of_get h), idxOf_first l o i h hb]
theorem fnd_none {l : List Int} {o : Int} (h : ∀ j, j < l.length → l[j]? ≠ some o) : fnd l o = -1 := by
  unfold fnd
  rw [if_neg (not_mem_all h)]
theorem fnd_in {l : List Int} {o : Int} (h : o ∈ l) : fnd l o = l.idxOf o := by unfold fnd; rw [if_pos h]
theorem fnd_out {l : List Int} {o : Int} (h : o ∉ l) : fnd l o = -1 := by unfold fnd; rw [if_neg h]
/-- a ring without waiters -/
def Rg.zero (n : Nat) : Rg := ⟨n, List.replicate 64 0, 0, 0⟩
theorem Rg.zero_ok {n : Nat} (h : n ≤ 64) : (Rg.zero n).ok := ⟨by simp [Rg.zero], by simp [Rg.zero], by simp [Rg.zero], h, fun x hx => by rw [List.eq_of_mem_replicate hx]; decide⟩
theorem Rg.zero_ws (n : Nat) : (Rg.zero n).ws = [] := by simp [Rg.ws, Rg.zero]
/-- the error of limits -/
def limE (l : List Int) : Int := if l.length < 1 ∨ 8 < l.length then 3 else if ∀ n ∈ l, 0 ≤ n ∧ n ≤ 64 then 0 else 7
def newS (l : List Int) : St := l.map fun n => (n.toNat, [])
def newR (l : List Int) : List Rg := l.map fun n => Rg.zero n.toNat
theorem limE_cases (l : List Int) : limE l = 0 ∨ limE l = 3 ∨ limE l = 7 := by
  unfold limE
  split
  · simp
  · split <;> simp
theorem limE_zero {l : List Int} (h : limE l = 0) : 1 ≤ l.length ∧ l.length ≤ 8 ∧ ∀ n ∈ l, 0 ≤ n ∧ n ≤ 64 := by
  unfold limE at h
  split at h
  · cases h
  · rename_i h1
    split at h
    · rename_i h2
      exact ⟨by omega, by omega, h2⟩
    · cases h
theorem stR_newR (l : List Int) : stR (newR l) = newS l := by
  unfold stR newR newS
  rw [List.map_map]
  refine List.map_congr_left fun n _ => ?_
  simp [Function.comp, Rg.zero_ws]; rfl
theorem newR_ok {l : List Int} (h : limE l = 0) : ∀ r ∈ newR l, r.ok := by
  intro r hr
  obtain ⟨n, hn, rfl⟩ := List.mem_map.1 hr
  have := (limE_zero h).2.2 n hn
  exact Rg.zero_ok (by omega)
theorem newS_ok {l : List Int} (h : limE l = 0) : Ok (newS l) := by
  obtain ⟨h1, h2, h3⟩ := limE_zero h
  refine ⟨by simpa [newS] using h1, by simpa [newS] using h2, fun p hp => ?_⟩
  obtain ⟨n, hn, rfl⟩ := List.mem_map.1 hp
  have := h3 n hn
  exact ⟨by simp only; omega, by simp, by simp, by simp⟩
/-- what Load says of lists, from number i on -/
def loadG : Nat → List (Int × List Int) → Int × Int
  | _, [] => (0, 0)
  | i, (n, w) :: t => if n < (w.length : Int) then ((i : Int), 5) else if ¬ w.Nodup then ((i : Int), 8) else loadG (i + 1) t
def loadE (l : List Int) (w : List (List Int)) : Int × Int := if limE l ≠ 0 then (-1, limE l) else if w.length ≠ l.length then (-1, 3) else loadG 0 (l.zip w)
def loadS (l : List Int) (w : List (List Int)) : St := (l.zip w).map fun p => (p.1.toNat, p.2)
end Go.Wl
namespace Go.Wl
open Go Go.RowKit Go.Gr
set_option linter.unusedVariables false
set_option linter.unusedSimpArgs false
theorem LenOk {R : List Rg} (h : ∀ r ∈ R, r.ok) : LenR R := fun r hr => (h r hr).len
/-- lists in block g, whose rings are block gr -/
structure Ls (w : World) (g gr : Nat) (R : List Rg) : Prop where
  st : Blk w g 130 [.slice (some ⟨gr, 0, none⟩) R.length R.length]
  rg : Blk w gr 133 (cellsR R)
  rok : ∀ r ∈ R, r.ok
  ok : Ok (stR R)
  ne : g ≠ gr
theorem Ls.lenR {w : World} {g gr : Nat} {R : List Rg} (h : Ls w g gr R) : LenR R := LenOk h.rok
theorem Ls.frame {w w' : World} {g gr : Nat} {R : List Rg} (h : Ls w g gr R) (h1 : w'.heap[g]? = w.heap[g]?) (h2 : w'.heap[gr]? = w.heap[gr]?) : Ls w' g gr R :=
  ⟨h1.trans h.st, h2.trans h.rg, h.rok, h.ok, h.ne⟩
theorem Ls.ext {w w' : World} {g gr : Nat} {R : List Rg} (h : Ls w g gr R) (k : Ext w w') : Ls w' g gr R :=
  h.frame (k.block g h.st.lt) (k.block gr h.rg.lt)
/-- lists whose state is S -/
def AsLs (g gr : Nat) (S : St) : As := ⟨fun k => k = g ∨ k = gr, fun w => ∃ R, Ls w g gr R ∧ stR R = S,
  fun {w} h k hk => by
    obtain ⟨R, h, _⟩ := h
    rcases hk with rfl | rfl
    · exact h.st.lt
    · exact h.rg.lt,
  fun {w w'} h k => by
    obtain ⟨R, h, e⟩ := h
    exact ⟨R, h.frame (k g (.inl rfl)) (k gr (.inr rfl)), e⟩⟩
/-- the blocks of rows of rows -/
def rowsFp (B : Option Addr) (vs : List Value) (k : Nat) : Prop := (vs ≠ [] ∧ ∃ ad, B = some ad ∧ ad.block = k) ∨ ∃ ad n c, Value.slice (some ad) n c ∈ vs ∧ 0 < n ∧ ad.block = k
/-- a value that is a row of words -/
def IsRow (w : World) (v : Value) (r : List Int) : Prop := ∃ A c, v = .slice A r.length c ∧ r.length ≤ c ∧ Rd w A (u32s r)
/-- values that are rows of words, each -/
def AreRows (w : World) (vs : List Value) (rows : List (List Int)) : Prop := vs.length = rows.length ∧ ∀ (j : Nat) v r, vs[j]? = some v → rows[j]? = some r → IsRow w v r
theorem u32s_nil {l : List Int} (h : u32s l = []) : l = [] := by cases l <;> simp [u32s] at h ⊢
theorem IsRow.frame {w w' : World} {v : Value} {r : List Int} (h : IsRow w v r) (k : ∀ ad n c, v = .slice (some ad) n c → 0 < n → w'.heap[ad.block]? = w.heap[ad.block]?) : IsRow w' v r := by
  obtain ⟨A, c, rfl, hc, hr⟩ := h
  refine ⟨A, c, rfl, hc, (As.rd A (u32s r)).loc hr fun i hi => ?_⟩
  obtain ⟨hne, ad, rfl, rfl⟩ := hi
  refine k ad _ _ rfl ?_
  rcases r with _ | ⟨x, t⟩
  · exact absurd rfl hne
  · simp
theorem IsRow.ext {w w' : World} {v : Value} {r : List Int} (h : IsRow w v r) (k : Ext w w') : IsRow w' v r := by
  obtain ⟨A, c, rfl, hc, hr⟩ := h
  exact ⟨A, c, rfl, hc, hr.ext k⟩
theorem IsRow.nil (w : World) : IsRow w (.slice none 0 0) [] := ⟨none, 0, rfl, Nat.le_refl _, fun j u hu => by simp [u32s] at hu⟩
theorem AreRows.ext {w w' : World} {vs : List Value} {rows : List (List Int)} (h : AreRows w vs rows) (k : Ext w w') : AreRows w' vs rows :=
  ⟨h.1, fun j v r hv hr => (h.2 j v r hv hr).ext k⟩
theorem AreRows.get {w : World} {vs : List Value} {rows : List (List Int)} (h : AreRows w vs rows) {j : Nat} (hj : j < rows.length) : ∃ v, vs[j]? = some v ∧ IsRow w v rows[j] := by
  have hv : j < vs.length := by rw [h.1]; exact hj
  exact ⟨vs[j], List.getElem?_eq_getElem hv, h.2 j _ _ (List.getElem?_eq_getElem hv) (List.getElem?_eq_getElem hj)⟩
theorem AreRows.nil (w : World) : AreRows w [] [] := ⟨rfl, fun j v r hv => by simp at hv⟩
theorem AreRows.push {w : World} {vs : List Value} {rows : List (List Int)} (h : AreRows w vs rows) {v : Value} {r : List Int} (hv : IsRow w v r) : AreRows w (vs ++ [v]) (rows ++ [r]) := by
  refine ⟨by simp [h.1], fun j v' r' hj hr => ?_⟩
  by_cases hl : j < vs.length
  · rw [List.getElem?_append_left hl] at hj
    rw [List.getElem?_append_left (by rw [← h.1]; exact hl)] at hr
    exact h.2 j v' r' hj hr
  · rw [List.getElem?_append_right (by omega)] at hj
    rw [List.getElem?_append_right (by rw [← h.1]; omega), ← h.1] at hr
    have : j - vs.length = 0 := by
      rcases Nat.eq_zero_or_pos (j - vs.length) with h0 | h0
      · exact h0
      · rw [List.getElem?_eq_none (by simp; omega)] at hj; cases hj
    rw [this] at hj hr
    simp at hj hr
    subst hj hr
    exact hv
theorem AreRows.set {w : World} {vs : List Value} {rows : List (List Int)} (h : AreRows w vs rows) (s : Nat) {v : Value} {r : List Int} (hv : IsRow w v r) : AreRows w (vs.set s v) (rows.set s r) := by
  refine ⟨by simp [h.1], fun j v' r' hj hr => ?_⟩
  by_cases e : s = j
  · subst e
    rw [List.getElem?_set_self' ] at hj hr
    rcases hvs : vs[s]? with _ | x
    · rw [hvs] at hj; cases hj
    · rcases hrs : rows[s]? with _ | y
      · rw [hrs] at hr; cases hr
      · rw [hvs] at hj; rw [hrs] at hr
        simp at hj hr
        subst hj hr
        exact hv
  · rw [List.getElem?_set_ne e] at hj hr
    exact h.2 j v' r' hj hr
theorem AreRows.same {w : World} (n : Nat) : AreRows w (List.replicate n (.slice none 0 0)) (List.replicate n []) := by
  refine ⟨by simp, fun j v r hv hr => ?_⟩
  obtain ⟨hj, e⟩ := List.getElem?_eq_some_iff.1 hv
  obtain ⟨hj', e'⟩ := List.getElem?_eq_some_iff.1 hr
  simp at e e'
  subst e e'
  exact IsRow.nil w
/-- rows of rows that are read -/
def AsRows (B : Option Addr) (vs : List Value) (rows : List (List Int)) : As := ⟨rowsFp B vs, fun w => Rd w B vs ∧ AreRows w vs rows,
  fun {w} h k hk => by
    obtain ⟨hB, hR⟩ := h
    rcases hk with ⟨hne, ad, rfl, rfl⟩ | ⟨ad, n, c, hm, hn, rfl⟩
    · exact (As.rd (some ad) vs).lt hB _ ⟨hne, ad, rfl, rfl⟩
    · obtain ⟨j, hj, e⟩ := List.getElem_of_mem hm
      obtain ⟨A, c', e', _, hr⟩ := hR.2 j _ (rows[j]'(by rw [← hR.1]; exact hj)) (by rw [List.getElem?_eq_getElem hj, e]) (List.getElem?_eq_getElem _)
      cases e'
      exact (As.rd (some ad) _).lt hr _ ⟨fun h0 => by rw [u32s_nil h0] at hn; simp at hn, ad, rfl, rfl⟩,
  fun {w w'} h k => by
    obtain ⟨hB, hR⟩ := h
    refine ⟨(As.rd B vs).loc hB fun i ⟨hne, ad, e, hi⟩ => k i (.inl ⟨hne, ad, e, hi⟩), hR.1, fun j v r hv hr => (hR.2 j v r hv hr).frame fun ad n c e hn => k _ (.inr ⟨ad, n, c, e ▸ List.mem_of_getElem? hv, hn, rfl⟩)⟩⟩
/-- the reference's lists: the limits are read, the waiters are rows -/
def AsRef (A B : Option Addr) (vs : List Value) (S : St) : As := (As.rd A (S.map fun p => Value.int .i64 p.1)).and (AsRows B vs (S.map (·.2)))
end Go.Wl
namespace Go.Proofs.YtdmaephmkfmehaaGreatDoor
open Go.RowKit Go.Gr Go.Wl
set_option linter.unusedVariables false
set_option linter.unusedSimpArgs false
attribute [local go_sem] rdOp rdAt rdUpon Cls forall_fr
/-- ring number s of block gr is r -/
structure Ring (w : World) (gr off s : Nat) (R : List Rg) (r : Rg) : Prop where
  B : Blk w gr 133 (cellsR R)
  L : LenR R
  S : R[s]? = some r
  O : off = s * 67
  ok : r.ok
theorem Ring.own64 {w : World} {gr off s : Nat} {R : List Rg} {r : Rg} (h : Ring w gr off s R r) : r.own.length = 64 := h.ok.len
theorem Ring.lim {w : World} {gr off s : Nat} {R : List Rg} {r : Rg} (h : Ring w gr off s R r) : w.cell? ⟨gr, off, none⟩ = some (.int .i64 r.lim) := by
  rw [h.O, h.B.cell]; exact cellsR_lim h.L h.S
theorem Ring.own {w : World} {gr off s : Nat} {R : List Rg} {r : Rg} (h : Ring w gr off s R r) {j : Nat} (hj : j < 64) : w.cell? ⟨gr, off + 1 + j, none⟩ = some (.int .u32 (r.own.getD j 0)) := by
  rw [h.O, h.B.cell, Nat.add_assoc, cellsR_own h.L h.S (by rw [h.own64]; exact hj), List.getD_eq_getElem?_getD, List.getElem?_eq_getElem (by rw [h.own64]; exact hj)]
  rfl
theorem Ring.first {w : World} {gr off s : Nat} {R : List Rg} {r : Rg} (h : Ring w gr off s R r) : w.cell? ⟨gr, off + 65, none⟩ = some (.int .i64 r.first) := by
  rw [h.O, h.B.cell]; exact cellsR_first h.L h.S
theorem Ring.many {w : World} {gr off s : Nat} {R : List Rg} {r : Rg} (h : Ring w gr off s R r) : w.cell? ⟨gr, off + 66, none⟩ = some (.int .i64 r.many) := by
  rw [h.O, h.B.cell]; exact cellsR_many h.L h.S
theorem Ring.ext {w w' : World} {gr off s : Nat} {R : List Rg} {r : Rg} (h : Ring w gr off s R r) (k : Ext w w') : Ring w' gr off s R r := ⟨h.B.ext k, h.L, h.S, h.O, h.ok⟩
theorem Ring.many64 {w : World} {gr off s : Nat} {R : List Rg} {r : Rg} (h : Ring w gr off s R r) : r.many ≤ 64 := Nat.le_trans h.ok.mny h.ok.lim
theorem Ring.slt {w : World} {gr off s : Nat} {R : List Rg} {r : Rg} (h : Ring w gr off s R r) : off + 67 ≤ (cellsR R).length := by
  have := (List.getElem?_eq_some_iff.1 h.S).1
  rw [h.O, cellsR_len h.L]
  omega
theorem at_any {w : World} {gr off s : Nat} {R : List Rg} {r : Rg} (h : Ring w gr off s R r) (j : Nat) (hj : j < 1000) : Calls Tryz.prog 120 #[.pointer (some ⟨gr, off, none⟩), .int .i64 j] w fun e w' => e = .returned (.int .i64 (r.at_ j)) ∧ w = w' := by
  have h1 := h.first
  have hf := h.ok.fst
  have hlt := h.B.lt
  have hw : IntKind.i64.wrap ((r.first : Int) + (j : Int)) = (r.first : Int) + (j : Int) := IntWalk.i64_in _ (by omega)
  have hm : ((r.first : Int) + (j : Int)).tmod 64 = ((r.at_ j : Nat) : Int) := by rw [Int.tmod_eq_emod_of_nonneg (by omega)]; unfold Rg.at_; omega
  clear h
  go_enter Tryz.func120, Tryz.ntmps120
  go_wp2_with fail
  go_ret
  exact ⟨rfl, rfl⟩
set_option maxRecDepth 100000 in
theorem find_any {w : World} {gr off s : Nat} {R : List Rg} {r : Rg} (h : Ring w gr off s R r) (o : Int) : Calls Tryz.prog 103 #[.pointer (some ⟨gr, off, none⟩), .int .u32 o] w fun e w' => e = .returned (.int .i64 (fnd r.ws o)) ∧ Ext w w' := by
  have h1 := h.many
  have hlt := h.B.lt
  have hm64 := h.many64
  have H := hide h
  clear h
  go_enter Tryz.func103, Tryz.ntmps103
  go_wp2_with fail
  clear h1 hlt
  go_loopw [10] (fun i wr => ∃ k : Nat, i = .int .i64 k ∧ k ≤ r.many ∧ (∀ j, j < k → r.ws[j]? ≠ some o) ∧ Hid (Ext w wr)) (fun i _ => r.many - (intOf i).toNat)
  case atStart => exact ⟨0, rfl, by omega, fun j hj => by omega, hide (Ext.refl w)⟩
  case round =>
    obtain ⟨k, rfl, hk, hno, HX⟩ := hrel
    have HNO := hide hno
    clear hno
    by_cases hlt : k < r.many
    · have hki : (k : Int) < (r.many : Int) := by omega
      have hat := r.at_lt k
      have hati : ((r.at_ k : Nat) : Int) < 64 := by omega
      have hws := r.ws_get hlt
      have HD := hide (HX.out.drew)
      obtain ⟨x, HXx⟩ : ∃ x, Hid (r.own.getD (r.at_ k) 0 = x) := ⟨_, hide rfl⟩
      have c1 := (H.out.ext HD.out).own hat
      rw [HXx.out] at c1 hws
      have HWS := hide hws
      clear hws
      have hl2 := (H.out.ext HD.out).B.lt
      go_upto_region 4 with fail
      refine wp_region_wm [0, 1, 2, 4, 5, 8, 3, 6, 7, 9] (by kernel_rfl) (by kernel_rfl) (by kernel_rfl) (by kernel_rfl) ?_
      generalize wr.drew = wd at *
      by_cases hxo : x = o
      · have e1 : (x == o) = true := beq_iff_eq.2 hxo
        have HE := hide (fnd_some (hxo ▸ HWS.out) HNO.out)
        clear hxo
        iterate 6 (refine wm_rd rfl rfl (fun K hK => ?_); go_simp; refine hK _ ?_; clear hK K)
        refine wm_ext rfl rfl (fun K hK => ?_)
        go_simp
        go_at_call 120
        (with_reducible refine (at_any (H.out.ext HD.out) k (by omega)).mono ?_)
        rintro e w2 ⟨rfl, rfl⟩
        refine hK _ _ (Ext.refl _) ?_
        clear hK K
        iterate 1 (refine wm_rd rfl rfl (fun K hK => ?_); go_simp; refine hK _ ?_; clear hK K)
        refine wm_ld1 rfl rfl 41 (.tmp 19) rfl rfl c1 _ Tryz.underlying41 rfl ?_
        iterate 1 (refine wm_rd rfl rfl (fun K hK => ?_); go_simp; refine hK _ ?_; clear hK K)
        refine wm_nil ?_
        go_wp2_with fail
        go_ret
        exact ⟨by rw [HE.out]; rfl, HD.out⟩
      · have e1 : (x == o) = false := beq_eq_false_iff_ne.2 hxo
        have HN2 : Hid (∀ j, j < k + 1 → r.ws[j]? ≠ some o) := hide (fun j hj e => by
          rcases Nat.lt_or_ge j k with h | h
          · exact HNO.out j h e
          · obtain rfl : j = k := by omega
            rw [HWS.out] at e
            exact hxo (Option.some.inj e))
        clear hxo
        iterate 6 (refine wm_rd rfl rfl (fun K hK => ?_); go_simp; refine hK _ ?_; clear hK K)
        refine wm_ext rfl rfl (fun K hK => ?_)
        go_simp
        go_at_call 120
        (with_reducible refine (at_any (H.out.ext HD.out) k (by omega)).mono ?_)
        rintro e w2 ⟨rfl, rfl⟩
        refine hK _ _ (Ext.refl _) ?_
        clear hK K
        iterate 1 (refine wm_rd rfl rfl (fun K hK => ?_); go_simp; refine hK _ ?_; clear hK K)
        refine wm_ld1 rfl rfl 41 (.tmp 19) rfl rfl c1 _ Tryz.underlying41 rfl ?_
        iterate 1 (refine wm_rd rfl rfl (fun K hK => ?_); go_simp; refine hK _ ?_; clear hK K)
        refine wm_nil ?_
        go_wp2_with fail
        go_roundw
        case rel => exact ⟨k + 1, by go_num, by omega, HN2.out, HD⟩
        case measure => simp [intOf]; omega
    · have hki : ¬ (k : Int) < (r.many : Int) := by omega
      have HE := hide (fnd_none (l := r.ws) (o := o) (fun j hj => HNO.out j (by rw [r.ws_length] at hj; omega)))
      go_wp2_with fail
      go_ret
      exact ⟨by rw [HE.out]; rfl, HX.out⟩
theorem push_any {w : World} {gr off s : Nat} {R : List Rg} {r : Rg} (h : Ring w gr off s R r) (o : Int) (hm : r.many < 64) : Calls Tryz.prog 104 #[.pointer (some ⟨gr, off, none⟩), .int .u32 o] w fun e w' => e = .returned (.tuple #[]) ∧ Blk w' gr 133 (cellsR (R.set s (r.push o))) ∧ Upd gr w w' := by
  have hlt := h.B.lt
  have hat := r.at_lt r.many
  have hati : ((r.at_ r.many : Nat) : Int) < 64 := by omega
  have H := hide h
  have HS := Sep.start (A := As.blk gr 133 (cellsR R)) h.B
  have HP : Hid (((cellsR R).set (off + 1 + r.at_ r.many) (.int .u32 o)).set (off + 66) (.int .i64 ((r.many : Int) + 1)) = cellsR (R.set s (r.push o))) := hide (by
    have hs := (List.getElem?_eq_some_iff.1 h.S).1
    rw [h.O, Nat.add_assoc, cellsR_set_own h.L h.S hat, show (r.many : Int) + 1 = ((r.many + 1 : Nat) : Int) by omega,
      cellsR_set_many (h.L.set s (by simp [h.own64])) (List.getElem?_set_self hs), List.set_set]
    rfl)
  have c1 := (h.ext ((Ext.refl w).drew)).many
  have HM : Hid (∀ w' : World, w'.cell? ⟨gr, off + 66, none⟩ = ((cellsR R).set (off + 1 + r.at_ r.many) (.int .u32 o))[off + 66]? → w'.cell? ⟨gr, off + 66, none⟩ = some (.int .i64 r.many)) := hide (fun w' e => by
    rw [e, List.getElem?_set_ne (by omega), ← h.B.cell]; exact h.many)
  have hsl := h.slt
  clear h
  go_enter Tryz.func104, Tryz.ntmps104
  go_upto_region 0 with fail
  refine wp_region_wtR (RT.fr No) 11 [0, 1, 2, 3, 4, 5, 7, 8, 9, 6, 10] (by kernel_rfl) (by kernel_rfl) (by kernel_rfl) ?_
  have H1 := HS.drew
  have HR := hide (H.out.ext ((Ext.refl w).drew))
  clear HS
  have hx : Ext w w.drew := (Ext.refl w).drew
  generalize w.drew = wd at *
  iterate 5 (refine wr_rd rfl rfl (fun K hK => ?_); go_simp; refine hK _ ?_; clear hK K)
  refine wr_ld1 rfl rfl 3 (.tmp 8) rfl rfl (fun w' h => Fr.cell h c1 (fun h => h)) _ Tryz.underlying3 rfl ?_
  iterate 3 (refine wr_rd rfl rfl (fun K hK => ?_); go_simp; refine hK _ ?_; clear hK K)
  refine wr_ext rfl rfl (fun K hK => ?_)
  go_simp
  go_at_call 120
  (with_reducible refine (at_any HR.out r.many (by omega)).mono ?_)
  rintro e w2 ⟨rfl, rfl⟩
  refine hK _ _ (Fr.refl _ _) ?_
  clear hK K
  iterate 1 (refine wr_rd rfl rfl (fun K hK => ?_); go_simp; refine hK _ ?_; clear hK K)
  refine wr_nil ?_
  simp only [List.drop_succ_cons, List.drop_zero]
  refine wpList_st1S [] H1 rfl 41 (.tmp 14) (.tmp 11) rfl (v := .int .u32 o) rfl rfl (by kernel_rfl) (by omega) rfl ?_
  intro w3 H3
  dsimp only [List.nil_append] at H3
  clear H1 c1
  refine NoPanic.normal ?_
  have hB3 := H3.blk (g := gr) (e := 133) (List.Mem.head _)
  have c3 := HM.out w3 (hB3.cell (off + 66))
  have hlt3 := hB3.lt
  have hwm : IntKind.i64.wrap ((r.many : Int) + 1) = (r.many : Int) + 1 := IntWalk.i64_in _ (by omega)
  have tok : True := trivial
  go_wp2_with (have zz := tok; clear zz tok; refine wpList_st1S [] H3 rfl 3 (.tmp 21) (.tmp 19) rfl (v := .int .i64 ((r.many : Int) + 1)) rfl rfl (by kernel_rfl) (by rw [List.length_set]; omega) rfl ?_; intro w4 H4; dsimp only [List.nil_append] at H4; have K4 := hide H4; clear H4)
  go_end0
  have H4 := K4.out
  rw [HP.out] at H4
  exact ⟨rfl, H4.blk (List.Mem.head _), H4.toUpd⟩
end Go.Proofs.YtdmaephmkfmehaaGreatDoor
namespace Go.Proofs.YtdmaephmkfmehaaGreatDoor
open Go.RowKit Go.Gr Go.Wl
set_option linter.unusedVariables false
set_option linter.unusedSimpArgs false
attribute [local go_sem] rdOp rdAt rdUpon Cls forall_fr
/-- the ring when n waiters have moved up -/
def shR (r : Rg) (i n : Nat) : Rg := { r with own := r.sh i n }
theorem shR_ok {r : Rg} (h : r.ok) (i n : Nat) : (shR r i n).ok := ⟨by unfold shR; simp only; rw [Rg.sh_length, h.len], h.fst, h.mny, h.lim, Rg.sh_rng h i n⟩
theorem shR_at (r : Rg) (i n j : Nat) : (shR r i n).at_ j = r.at_ j := rfl
theorem shR_step {gr off s : Nat} {w : World} {R : List Rg} {r : Rg} {i n : Nat} (h : Ring w gr off s (R.set s (shR r i n)) (shR r i n)) : (cellsR (R.set s (shR r i n))).set (off + 1 + r.at_ (i + n)) (.int .u32 ((shR r i n).own.getD (r.at_ (i + n + 1)) 0)) = cellsR (R.set s (shR r i (n + 1))) := by
  have hs := (List.getElem?_eq_some_iff.1 h.S).1
  rw [h.O, Nat.add_assoc, cellsR_set_own h.L h.S (r.at_lt _), List.set_set]
  rfl
theorem ring_set {gr off s : Nat} {w w' : World} {R : List Rg} {r r' : Rg} (h : Ring w gr off s R r) (hB : Blk w' gr 133 (cellsR (R.set s r'))) (hok : r'.ok) : Ring w' gr off s (R.set s r') r' :=
  ⟨hB, h.L.set s hok.len, List.getElem?_set_self (List.getElem?_eq_some_iff.1 h.S).1, h.O, hok⟩
theorem wset_same {R : List Rg} {s : Nat} {r : Rg} (h : R[s]? = some r) : R.set s r = R := by
  apply List.ext_getElem?
  intro j
  by_cases e : s = j
  · subst e
    rw [List.getElem?_set_self (List.getElem?_eq_some_iff.1 h).1, h]
  · rw [List.getElem?_set_ne e]
set_option maxRecDepth 100000 in
set_option maxHeartbeats 1000000 in
theorem drop_any {w : World} {gr off s : Nat} {R : List Rg} {r : Rg} (h : Ring w gr off s R r) (i : Nat) (hi : i < r.many) : Calls Tryz.prog 105 #[.pointer (some ⟨gr, off, none⟩), .int .i64 i] w fun e w' => e = .returned (.tuple #[]) ∧ Blk w' gr 133 (cellsR (R.set s (r.drop i))) ∧ Upd gr w w' := by
  have hlt := h.B.lt
  have hm64 := h.many64
  have hsl := h.slt
  have HS := Sep.start (A := As.blk gr 133 (cellsR R)) h.B
  have hs := (List.getElem?_eq_some_iff.1 h.S).1
  by_cases h0 : i = 0
  · subst h0
    have H := hide h
    have c1 := h.many
    have HP : Hid (((cellsR R).set (off + 65) (.int .i64 ((r.at_ 1 : Nat) : Int))).set (off + 66) (.int .i64 ((r.many : Int) - 1)) = cellsR (R.set s (r.drop 0))) := hide (by
      rw [h.O, cellsR_set_first h.L h.S, show (r.many : Int) - 1 = ((r.many - 1 : Nat) : Int) by omega,
        cellsR_set_many (h.L.set s (by simp [h.own64])) (List.getElem?_set_self hs), List.set_set]
      rfl)
    have HM : Hid (∀ w' : World, w'.cell? ⟨gr, off + 66, none⟩ = ((cellsR R).set (off + 65) (.int .i64 ((r.at_ 1 : Nat) : Int)))[off + 66]? → w'.cell? ⟨gr, off + 66, none⟩ = some (.int .i64 r.many)) := hide (fun w' e => by
      rw [e, List.getElem?_set_ne (by omega), ← h.B.cell]; exact h.many)
    have HAT := hide (at_any H.out 1 (by omega))
    rw [show ((1 : Nat) : Int) = 1 from rfl] at HAT
    clear h
    go_enter Tryz.func105, Tryz.ntmps105
    go_wp2_with fail
    (with_reducible refine HAT.out.mono ?_)
    rintro e w2 ⟨rfl, rfl⟩
    have tok : True := trivial
    go_wp2_with (have zz := tok; clear zz tok; refine wpList_st1S [] HS rfl 3 (.tmp 11) (.tmp 9) rfl (v := .int .i64 ((r.at_ 1 : Nat) : Int)) rfl rfl (by kernel_rfl) (by omega) rfl ?_; intro w3 H3; dsimp only [List.nil_append] at H3; clear HS)
    have K3 := hide H3
    clear H3
    go_loopw [4] (fun i wr => i = .int .i64 0 ∧ Hid (Sep (As.blk gr 133 (cellsR R)).fp w wr [As.blk gr 133 ((cellsR R).set (off + 65) (.int .i64 ((r.at_ 1 : Nat) : Int)))])) (fun i _ => 0)
    case atStart => exact ⟨rfl, K3⟩
    case round =>
      obtain ⟨rfl, HK⟩ := hrel
      clear K3
      have hB3 := HK.out.blk (g := gr) (e := 133) (List.Mem.head _)
      have c3 := HM.out wr (hB3.cell (off + 66))
      have hlt3 := hB3.lt
      have hwm : IntKind.i64.wrap ((r.many : Int) - 1) = (r.many : Int) - 1 := IntWalk.i64_in _ (by omega)
      have tok : True := trivial
      go_wp2_with (have zz := tok; clear zz tok; refine wpList_st1S [] HK.out rfl 3 (.tmp 48) (.tmp 46) rfl (v := .int .i64 ((r.many : Int) - 1)) rfl rfl (by kernel_rfl) (by rw [List.length_set]; omega) rfl ?_; intro w4 H4; dsimp only [List.nil_append] at H4; have K4 := hide H4; clear H4)
      go_end0
      have H4 := K4.out
      rw [HP.out] at H4
      exact ⟨rfl, H4.blk (List.Mem.head _), H4.toUpd⟩
  · have d0 : ¬ (i : Int) = 0 := by omega
    have e0 : ((i : Int) == 0) = false := beq_eq_false_iff_ne.2 d0
    have hok := h.ok
    have H := hide h
    have HSET : Hid (R.set s (shR r i 0) = R) := hide (wset_same h.S)
    rw [← HSET.out] at HS
    have K0 := hide HS
    have HP : Hid (Sep (As.blk gr 133 (cellsR (R.set s (shR r i 0)))).fp w w [As.blk gr 133 (cellsR (R.set s (shR r i 0)))]) := K0
    have HE : Hid (∀ n, n = r.many - 1 - i → (cellsR (R.set s (shR r i n))).set (off + 66) (.int .i64 ((r.many : Int) - 1)) = cellsR (R.set s (r.drop i))) := hide (fun n hn => by
      subst hn
      rw [h.O, show (r.many : Int) - 1 = ((r.many - 1 : Nat) : Int) by omega, cellsR_set_many (h.L.set s (shR_ok hok _ _).len) (List.getElem?_set_self hs), List.set_set]
      unfold Rg.drop
      rw [if_neg h0]
      rfl)
    have HRG : Hid (∀ (w' : World) (n : Nat), Blk w' gr 133 (cellsR (R.set s (shR r i n))) → Ring w' gr off s (R.set s (shR r i n)) (shR r i n)) := hide (fun w' n hB => ring_set h hB (shR_ok hok i n))
    clear h HS HP
    go_enter Tryz.func105, Tryz.ntmps105
    go_wp2_with fail
    go_loopw [4] (fun v wr => ∃ n : Nat, v = .int .i64 ((i : Int) + n) ∧ n ≤ r.many - 1 - i ∧ Hid (Sep (As.blk gr 133 (cellsR (R.set s (shR r i 0)))).fp w wr [As.blk gr 133 (cellsR (R.set s (shR r i n)))])) (fun v _ => r.many - (intOf v).toNat)
    case atStart => exact ⟨0, by simp, by omega, K0⟩
    case round =>
      obtain ⟨n, rfl, hn, HK⟩ := hrel
      clear K0
      have hB3 := HK.out.blk (g := gr) (e := 133) (List.Mem.head _)
      have c3 := (HRG.out wr n hB3).many
      have c3' : wr.cell? ⟨gr, off + 66, none⟩ = some (.int .i64 r.many) := c3
      have hlt3 := hB3.lt
      have hpos : (0 : Int) < (i : Int) + (n : Int) := by omega
      have hw1 : IntKind.i64.wrap ((i : Int) + (n : Int) + 1) = (i : Int) + (n : Int) + 1 := IntWalk.i64_in _ (by omega)
      clear c3
      by_cases hlt : i + n + 1 < r.many
      · have hlti : (i : Int) + (n : Int) + 1 < (r.many : Int) := by omega
        have HR := hide ((HRG.out wr n hB3).ext ((Ext.refl wr).drew))
        have H1 := HK.out.drew
        have hat1 := r.at_lt (i + n)
        have hat2 := r.at_lt (i + n + 1)
        have hat1i : ((r.at_ (i + n) : Nat) : Int) < 64 := by omega
        have hat2i : ((r.at_ (i + n + 1) : Nat) : Int) < 64 := by omega
        have HAT1 := hide (at_any HR.out (i + n) (by omega))
        have HAT2 := hide (at_any HR.out (i + n + 1) (by omega))
        rw [shR_at, show ((i + n : Nat) : Int) = (i : Int) + (n : Int) by omega] at HAT1
        rw [shR_at, show ((i + n + 1 : Nat) : Int) = (i : Int) + (n : Int) + 1 by omega] at HAT2
        have c1 := HR.out.own hat2
        obtain ⟨x, HX⟩ : ∃ x, Hid ((shR r i n).own.getD (r.at_ (i + n + 1)) 0 = x) := ⟨_, hide rfl⟩
        have HST := hide (shR_step HR.out)
        rw [HX.out] at c1 HST
        have hlt4 := HR.out.B.lt
        have hsl4 := HR.out.slt
        clear hB3
        go_upto_region 5 with fail
        refine wp_region_wtR (RT.fr No) 16 [0, 1, 2, 4, 5, 6, 7, 9, 10, 13, 14, 3, 8, 11, 12, 15] (by kernel_rfl) (by kernel_rfl) (by kernel_rfl) ?_
        clear HK c3' hlt3
        generalize wr.drew = wd at *
        iterate 11 (refine wr_rd rfl rfl (fun K hK => ?_); go_simp; refine hK _ ?_; clear hK K)
        refine wr_ext rfl rfl (fun K hK => ?_)
        go_simp
        go_at_call 120
        (with_reducible refine HAT1.out.mono ?_)
        rintro e w2 ⟨rfl, rfl⟩
        refine hK _ _ (Fr.refl _ _) ?_
        clear hK K
        refine wr_ext rfl rfl (fun K hK => ?_)
        go_simp
        go_at_call 120
        (with_reducible refine HAT2.out.mono ?_)
        rintro e w2 ⟨rfl, rfl⟩
        refine hK _ _ (Fr.refl _ _) ?_
        clear hK K
        iterate 1 (refine wr_rd rfl rfl (fun K hK => ?_); go_simp; refine hK _ ?_; clear hK K)
        refine wr_ld1 rfl rfl 41 (.tmp 37) rfl rfl (fun w' h => Fr.cell h c1 (fun h => h)) _ Tryz.underlying41 rfl ?_
        iterate 1 (refine wr_rd rfl rfl (fun K hK => ?_); go_simp; refine hK _ ?_; clear hK K)
        refine wr_nil ?_
        simp only [List.drop_succ_cons, List.drop_zero]
        refine wpList_st1S [] H1 rfl 41 (.tmp 41) (.tmp 38) rfl (v := .int .u32 x) rfl rfl (by kernel_rfl) (by omega) rfl ?_
        intro w5 H5
        dsimp only [List.nil_append] at H5
        rw [HST.out] at H5
        have K5 := hide H5
        clear H1 H5 c1 HR HAT1 HAT2 HST HX
        refine NoPanic.normal ?_
        go_wp2_with fail
        go_roundw
        case rel => exact ⟨n + 1, by go_num, by omega, K5⟩
        case measure => simp [intOf]; omega
      · have hlti : ¬ (i : Int) + (n : Int) + 1 < (r.many : Int) := by omega
        have hwm : IntKind.i64.wrap ((r.many : Int) - 1) = (r.many : Int) - 1 := IntWalk.i64_in _ (by omega)
        have hsl4 := (HRG.out wr n hB3).slt
        have tok : True := trivial
        clear hB3
        go_wp2_with (have zz := tok; clear zz tok; refine wpList_st1S [] HK.out rfl 3 (.tmp 48) (.tmp 46) rfl (v := .int .i64 ((r.many : Int) - 1)) rfl rfl (by kernel_rfl) (by omega) rfl ?_; intro w4 H4; dsimp only [List.nil_append] at H4; have K4 := hide H4; clear H4)
        go_end0
        have H4 := K4.out
        rw [HE.out n (by omega)] at H4
        exact ⟨rfl, H4.blk (List.Mem.head _), H4.toUpd⟩
end Go.Proofs.YtdmaephmkfmehaaGreatDoor
namespace Go.Proofs.YtdmaephmkfmehaaGreatDoor
open Go.RowKit Go.Gr Go.Wl
set_option linter.unusedVariables false
set_option linter.unusedSimpArgs false
attribute [local go_sem] rdOp rdAt rdUpon Cls forall_fr
theorem info32 : (Tryz.prog.info? 41).map (fun i => (i.zero, i.size, i.bytes)) = some (some (.int .u32 0), 1, 4) := by kernel_rfl
theorem Ring.rdOwn {w : World} {gr off s : Nat} {R : List Rg} {r : Rg} (h : Ring w gr off s R r) (a n : Nat) : Rd w (some ⟨gr, off + 1 + a, none⟩) (u32s ((r.own.drop a).take n)) := by
  intro j u hu
  refine ⟨_, rfl, ?_⟩
  have hadd : (⟨gr, off + 1 + a, none⟩ : Addr).add j = ⟨gr, off + 1 + (a + j), none⟩ := by unfold Addr.add; split <;> simp_all <;> omega
  rw [hadd]
  unfold u32s at hu
  rw [List.getElem?_map, List.getElem?_take] at hu
  split at hu
  · rw [List.getElem?_drop] at hu
    rcases he : r.own[a + j]? with _ | x
    · rw [he] at hu; cases hu
    · rw [he] at hu
      cases hu
      have hlt : a + j < 64 := by rw [← h.own64]; exact (List.getElem?_eq_some_iff.1 he).1
      rw [h.own hlt, List.getD_eq_getElem?_getD, he]; rfl
  · cases hu
theorem splice2 {A B : List Value} {n m : Nat} (z : Value) (hA : A.length = n) (hB : B.length = m - n) (hn : n ≤ m) : splice (splice (List.replicate m z) 0 A) n B = A ++ B := by
  subst hA
  have e : splice (List.replicate m z) 0 A = A ++ List.replicate (m - A.length) z := by
    unfold splice
    rw [List.take_zero, List.nil_append, Nat.zero_add, List.drop_replicate]
  rw [e]
  unfold splice
  rw [List.take_left, hB, List.drop_append, List.drop_eq_nil_of_le (by omega), List.drop_replicate, show m - A.length - (A.length + (m - A.length) - A.length) = 0 by omega]
  simp
theorem two_copies {r : Rg} (h : r.ok) {m : Nat} (hm : m = min (r.first + r.many) 64) :
    splice (splice (List.replicate r.many (Value.int .u32 0)) 0 ((u32s ((r.own.drop r.first).take (m - r.first))).take (m - r.first))) (m - r.first) ((u32s ((r.own.drop 0).take 64)).take (r.many - (m - r.first))) = u32s r.ws := by
  have hf := h.fst
  have hl := h.len
  have h64 := Nat.le_trans h.mny h.lim
  subst hm
  rw [Rg.ws_parts h, u32s_append]
  generalize hn : min (r.first + r.many) 64 - r.first = n1
  have e1 : (u32s ((r.own.drop r.first).take n1)).length = n1 := by rw [u32s_len, List.length_take, List.length_drop, hl]; omega
  have e3 : (u32s (r.own.take (r.many - n1))).length = r.many - n1 := by rw [u32s_len, List.length_take, hl]; omega
  have e2 : (u32s ((r.own.drop 0).take 64)).take (r.many - n1) = u32s (r.own.take (r.many - n1)) := by
    rw [u32s_take, List.drop_zero, List.take_take]
    congr 2; omega
  rw [List.take_of_length_le (Nat.le_of_eq e1), e2]
  exact splice2 _ e1 e3 (by omega)
set_option maxRecDepth 100000 in
set_option maxHeartbeats 1000000 in
theorem all_any {w : World} {gr off s : Nat} {R : List Rg} {r : Rg} (h : Ring w gr off s R r) : Calls Tryz.prog 95 #[.pointer (some ⟨gr, off, none⟩)] w fun e w' => ∃ v, e = .returned v ∧ Sep No w w' [As.own 41 v (u32s r.ws)] := by
  obtain ⟨i0, hi, hz0, hz1, hz2⟩ := info_parts info32
  have hlt := h.B.lt
  have hm64 := h.many64
  have c1 := h.many
  by_cases h0 : r.many = 0
  · have HW : Hid (r.ws = []) := hide (by rw [← List.length_eq_zero_iff, r.ws_length, h0])
    have hd : ((r.many : Int) == 0) = true := by rw [h0]; rfl
    clear h
    go_enter Tryz.func95, Tryz.ntmps95
    go_wp2_with fail
    go_ret
    exact ⟨_, rfl, by rw [HW.out]; exact (Sep.refl No w).nilO 41⟩
  · have hd : ((r.many : Int) == 0) = false := beq_eq_false_iff_ne.2 (by omega)
    have hok := h.ok
    have hf := hok.fst
    obtain ⟨M, hM⟩ : ∃ M, M = min (r.first + r.many) 64 := ⟨_, rfl⟩
    have hmin : (if (64 : Int) < (r.first : Int) + (r.many : Int) then (64 : Int) else (r.first : Int) + (r.many : Int)) = (M : Int) := by split <;> omega
    have hw : IntKind.i64.wrap ((r.first : Int) + (r.many : Int)) = (r.first : Int) + (r.many : Int) := IntWalk.i64_in _ (by omega)
    have HTC := hide (two_copies hok hM)
    have H := hide h
    have hfM : (r.first : Int) ≤ (M : Int) := by omega
    have hne64 : ¬ 64 = r.first := by omega
    have hM64 : (M : Int) ≤ 64 := by omega
    have HM := hide hM
    clear h hM
    have tok : True := trivial
    go_enter Tryz.func95, Tryz.ntmps95
    go_upto_region 4 with (have zz := tok; clear zz tok; refine wpList_mkG (Sep.refl No w) rfl (.tmp 13) (.tmp 13) 47 rfl 41 i0 (.int .u32 0) 4 Tryz.underlying47 hi hz0 hz1 hz2 rfl rfl rfl (by omega) (by decide) ?_; intro w1 H1)
    obtain ⟨g, hg⟩ : ∃ g, w.heap.size = g := ⟨_, rfl⟩
    rw [hg] at H1 ⊢
    clear c1 hlt hg
    refine wp_region_wtR (RT.fr No) 19 [0, 1, 2, 3, 4, 5, 6, 7, 8, 9, 10, 11, 12, 13, 14, 15, 16, 17, 18] (by kernel_rfl) (by kernel_rfl) (by kernel_rfl) ?_
    have H2 := H1.drew
    clear H1
    generalize w1.drew = wd at *
    have HR := hide (H.out.ext H2.toExt)
    have c1 := HR.out.many
    have c2 := HR.out.first
    have hlt := HR.out.B.lt
    iterate 7 (refine wr_rd rfl rfl (fun K hK => ?_); go_simp; refine hK _ ?_; clear hK K)
    refine wr_ld1 rfl rfl 3 (.tmp 21) rfl rfl (fun w' h => Fr.cell h c2 (fun h => h)) _ Tryz.underlying3 rfl ?_
    iterate 3 (refine wr_rd rfl rfl (fun K hK => ?_); go_simp; refine hK _ ?_; clear hK K)
    refine wr_ld1 rfl rfl 3 (.tmp 25) rfl rfl (fun w' h => Fr.cell h c2 (fun h => h)) _ Tryz.underlying3 rfl ?_
    iterate 3 (refine wr_rd rfl rfl (fun K hK => ?_); go_simp; refine hK _ ?_; clear hK K)
    refine wr_ld1 rfl rfl 3 (.tmp 29) rfl rfl (fun w' h => Fr.cell h c1 (fun h => h)) _ Tryz.underlying3 rfl ?_
    iterate 3 (refine wr_rd rfl rfl (fun K hK => ?_); go_simp; refine hK _ ?_; clear hK K)
    refine wr_nil ?_
    simp only [List.drop_succ_cons, List.drop_zero]
    have hsrc := HR.out.rdOwn r.first (M - r.first)
    refine wpList_cpG [] H2 rfl (.tmp 15) (.tmp 33) 47 47 rfl 41 Tryz.underlying47 (by kernel_rfl) rfl rfl hsrc (by rw [u32s_len, List.length_take, List.length_drop, HR.out.own64]; have := HM.out; omega) (M - r.first) (by have := HM.out; show _ = min _ _; omega) (by rw [List.length_replicate]; have := HM.out; omega) (u32s_one _) ?_
    intro w3 H3
    dsimp only [List.nil_append] at H3
    clear H2 hsrc c1 c2 hlt
    go_wp2_with fail
    refine NoPanic.normal ?_
    have hn1 : (M - r.first : Nat) ≤ r.many := by have := HM.out; omega
    obtain ⟨n1, hN1⟩ : ∃ n, M - r.first = n := ⟨_, rfl⟩
    rw [hN1] at H3 HTC hn1
    simp only [hN1]
    have hn1i : (n1 : Int) ≤ (r.many : Int) := by omega
    clear hN1 HR
    have hlen : (splice (List.replicate r.many (Value.int .u32 0)) 0 ((u32s ((r.own.drop r.first).take n1)).take n1)).length = r.many := by
      have e1 : ((u32s ((r.own.drop r.first).take n1)).take n1).length ≤ n1 := by rw [List.length_take]; exact Nat.min_le_left _ _
      unfold splice
      simp only [List.take_zero, List.nil_append, Nat.zero_add, List.length_append, List.length_drop, List.length_replicate]
      omega
    have HLN := hide hlen
    clear hlen
    go_upto_region 5 with fail
    refine wp_region_wtR (RT.fr No) 7 [0, 1, 2, 3, 4, 5, 6] (by kernel_rfl) (by kernel_rfl) (by kernel_rfl) ?_
    have H4 := H3.drew
    clear H3
    generalize w3.drew = we at *
    have HR := hide (H.out.ext H4.toExt)
    have hlt := HR.out.B.lt
    have hgl := (H4.blk (g := g) (e := 41) (List.Mem.head _)).lt
    have hsrc : Rd we (some ⟨gr, off + 1, none⟩) (u32s ((r.own.drop 0).take 64)) := HR.out.rdOwn 0 64
    have hsl64 : (u32s ((r.own.drop 0).take 64)).length = 64 := by rw [u32s_len, List.length_take, List.length_drop, HR.out.own64]; rfl
    have HSR := hide (And.intro hsrc hsl64)
    clear hsrc hsl64 HR
    by_cases hnm : r.many = n1
    · have HNM : Hid (n1 = r.many) := hide hnm.symm
      iterate 7 (refine wr_rd rfl rfl (fun K hK => ?_); go_simp; refine hK _ ?_; clear hK K)
      refine wr_nil ?_
      simp only [List.drop_succ_cons, List.drop_zero]
      refine wpList_cpG [] H4 rfl (.tmp 37) (.tmp 41) 47 47 rfl 41 Tryz.underlying47 (by kernel_rfl) (off := 0) rfl rfl HSR.out.1 HSR.out.2 0 (by show _ = min _ _; omega) (by omega) (u32s_one _) ?_
      intro w5 H5
      dsimp only [List.nil_append] at H5
      have HE : Hid (∀ B : List Value, splice (splice (List.replicate r.many (Value.int .u32 0)) 0 ((u32s ((r.own.drop r.first).take n1)).take n1)) 0 (B.take 0) = splice (splice (List.replicate r.many (Value.int .u32 0)) 0 ((u32s ((r.own.drop r.first).take n1)).take n1)) n1 (B.take (r.many - n1))) := hide (fun B => by
        rw [show r.many - n1 = 0 by have := HNM.out; omega]
        unfold splice
        simp)
      rw [HE.out, HTC.out] at H5
      have K5 := hide (Sep.toOwn [] H5 (by rw [u32s_len, r.ws_length]; omega))
      clear H4 H5 HSR
      refine NoPanic.normal ?_
      go_wp2_with fail
      go_ret
      refine ⟨_, rfl, ?_⟩
      have K6 := K5.out
      dsimp only [List.nil_append] at K6
      rw [u32s_len, r.ws_length, ← HNM.out] at K6
      exact K6
    · iterate 7 (refine wr_rd rfl rfl (fun K hK => ?_); go_simp; refine hK _ ?_; clear hK K)
      refine wr_nil ?_
      simp only [List.drop_succ_cons, List.drop_zero]
      refine wpList_cpG [] H4 rfl (.tmp 37) (.tmp 41) 47 47 rfl 41 Tryz.underlying47 (by kernel_rfl) (off := n1) rfl rfl HSR.out.1 HSR.out.2 (r.many - n1) (by show _ = min _ _; omega) (by rw [HLN.out]; omega) (u32s_one _) ?_
      intro w5 H5
      dsimp only [List.nil_append] at H5
      rw [HTC.out] at H5
      have K5 := hide (Sep.toOwn [] H5 (by rw [u32s_len, r.ws_length]; omega))
      clear H4 H5 HSR
      refine NoPanic.normal ?_
      go_wp2_with fail
      go_ret
      refine ⟨_, rfl, ?_⟩
      have K6 := K5.out
      dsimp only [List.nil_append] at K6
      rw [u32s_len, r.ws_length] at K6
      exact K6
end Go.Proofs.YtdmaephmkfmehaaGreatDoor
namespace Go.Wl
set_option linter.unusedVariables false
set_option linter.unusedSimpArgs false
abbrev S1 (n : Nat) (ws : List Int) : St := [(n, ws)]
theorem in1 (n : Nat) (ws : List Int) : inS (S1 n ws) 0 := ⟨by decide, by simp⟩
theorem lm1 (n : Nat) (ws : List Int) : lm (S1 n ws) 0 = n := rfl
theorem wt1 (n : Nat) (ws : List Int) : wt (S1 n ws) 0 = ws := rfl
theorem put1 (n : Nat) (ws w : List Int) : put (S1 n ws) 0 w = S1 n w := rfl
theorem join1_full {n : Nat} {ws : List Int} (o : Int) (h : ws.length = n) : joinS (S1 n ws) 0 o = (S1 n ws, 0, 5) := by
  unfold joinS
  rw [if_neg (fun h => h (in1 n ws)), wt1, lm1, if_pos h]
theorem join1_twice {n : Nat} {ws : List Int} {o : Int} (h : ws.length ≠ n) (ho : o ∈ ws) : joinS (S1 n ws) 0 o = (S1 n ws, 0, 8) := by
  unfold joinS
  rw [if_neg (fun h => h (in1 n ws)), wt1, lm1, if_neg h, if_pos ho]
theorem join1_ok {n : Nat} {ws : List Int} {o : Int} (h : ws.length ≠ n) (ho : o ∉ ws) : joinS (S1 n ws) 0 o = (S1 n (ws ++ [o]), (ws.length : Int) + 1, 0) := by
  unfold joinS
  rw [if_neg (fun h => h (in1 n ws)), wt1, lm1, if_neg h, if_neg ho, put1]
theorem leave1_no {n : Nat} {ws : List Int} {o : Int} (ho : o ∉ ws) : leaveS (S1 n ws) 0 o = (S1 n ws, 4) := by
  unfold leaveS
  rw [if_neg (fun h => h (in1 n ws)), wt1, if_neg ho]
theorem leave1_ok {n : Nat} {ws : List Int} {o : Int} (ho : o ∈ ws) : leaveS (S1 n ws) 0 o = (S1 n (ws.eraseIdx (ws.idxOf o)), 0) := by
  unfold leaveS
  rw [if_neg (fun h => h (in1 n ws)), wt1, if_pos ho, put1]
theorem take1_no (n : Nat) : takeS (S1 n []) 0 = (S1 n [], 0, 4) := by
  unfold takeS
  rw [if_neg (fun h => h (in1 n [])), wt1, if_pos rfl]
theorem take1_ok (n : Nat) (x : Int) (t : List Int) : takeS (S1 n (x :: t)) 0 = (S1 n t, x, 0) := by
  unfold takeS
  rw [if_neg (fun h => h (in1 n (x :: t))), wt1, if_neg (by simp), put1]; rfl
theorem len1 (n : Nat) (ws : List Int) : lenS (S1 n ws) 0 = ((ws.length : Int), 0) := by
  unfold lenS
  rw [if_neg (fun h => h (in1 n ws)), wt1]
theorem place1_no {n : Nat} {ws : List Int} {o : Int} (ho : o ∉ ws) : placeS (S1 n ws) 0 o = (0, 4) := by
  unfold placeS
  rw [if_neg (fun h => h (in1 n ws)), wt1, if_neg ho]
theorem place1_ok {n : Nat} {ws : List Int} {o : Int} (ho : o ∈ ws) : placeS (S1 n ws) 0 o = ((ws.idxOf o : Int) + 1, 0) := by
  unfold placeS
  rw [if_neg (fun h => h (in1 n ws)), wt1, if_pos ho]
theorem first1_no (n : Nat) : firstS (S1 n []) 0 = (0, 4) := by
  unfold firstS
  rw [if_neg (fun h => h (in1 n [])), wt1, if_pos rfl]
theorem first1_ok (n : Nat) (x : Int) (t : List Int) : firstS (S1 n (x :: t)) 0 = (x, 0) := by
  unfold firstS
  rw [if_neg (fun h => h (in1 n (x :: t))), wt1, if_neg (by simp)]; rfl
/-- a call changes the waiters of one section only so -/
inductive Step : List Int → List Int → Prop
  | same (w : List Int) : Step w w
  | app (w : List Int) (o : Int) : o ∉ w → Step w (w ++ [o])
  | del (w : List Int) (i : Nat) : Step w (w.eraseIdx i)
/-- who stays does not come later -/
theorem Step.idx {w w' : List Int} (h : Step w w') (hn : w.Nodup) {o : Int} (ho : o ∈ w) (ho' : o ∈ w') : w'.idxOf o ≤ w.idxOf o := by
  cases h with
  | same => exact Nat.le_refl _
  | app x _ => rw [idxOf_app ho]; exact Nat.le_refl _
  | del i => exact idxOf_erase hn ho'
end Go.Wl
