/- Lists of waiters: the cells of rings. -/
import Derived.Test.YteecgieigjfjiaaW1
import Derived.Test.YteecgieigjfjiaaRowM
namespace Go.Wl
open Go Go.RowKit Go.Gr
set_option linter.unusedVariables false
set_option linter.unusedSimpArgs false
def u32s (l : List Int) : List Value := l.map fun x => .int .u32 x
theorem u32s_len (l : List Int) : (u32s l).length = l.length := by simp [u32s]
theorem u32s_get (l : List Int) {j : Nat} (h : j < l.length) : (u32s l)[j]? = some (.int .u32 l[j]) := by simp [u32s, h]
theorem u32s_append (a b : List Int) : u32s (a ++ b) = u32s a ++ u32s b := by simp [u32s]
theorem u32s_set (l : List Int) (j : Nat) (x : Int) : (u32s l).set j (.int .u32 x) = u32s (l.set j x) := by simp [u32s, List.map_set]
theorem u32s_take (l : List Int) (n : Nat) : (u32s l).take n = u32s (l.take n) := by simp [u32s, List.map_take]
theorem u32s_drop (l : List Int) (n : Nat) : (u32s l).drop n = u32s (l.drop n) := by simp [u32s, List.map_drop]
theorem u32s_one (l : List Int) : ∀ v ∈ u32s l, v.oneCell' = true := by
  intro v hv
  obtain ⟨x, _, rfl⟩ := List.mem_map.1 hv
  rfl
def Rg.cells (r : Rg) : List Value := .int .i64 r.lim :: (u32s r.own ++ [.int .i64 r.first, .int .i64 r.many])
theorem Rg.cells_len {r : Rg} (h : r.own.length = 64) : r.cells.length = 67 := by simp [Rg.cells, u32s, h]
def cellsR (R : List Rg) : List Value := (R.map Rg.cells).flatten
def LenR (R : List Rg) : Prop := ∀ r ∈ R, r.own.length = 64
theorem LenR.cells {R : List Rg} (h : LenR R) : ∀ c ∈ R.map Rg.cells, c.length = 67 := by
  intro c hc
  obtain ⟨r, hr, rfl⟩ := List.mem_map.1 hc
  exact Rg.cells_len (h r hr)
theorem cellsR_len {R : List Rg} (h : LenR R) : (cellsR R).length = R.length * 67 := by
  unfold cellsR
  rw [flatten_len h.cells, List.length_map]
theorem LenR.set {R : List Rg} (h : LenR R) (s : Nat) {r : Rg} (hr : r.own.length = 64) : LenR (R.set s r) := by
  intro x hx
  rcases List.mem_or_eq_of_mem_set hx with hx | rfl
  · exact h x hx
  · exact hr
theorem cellsR_get {R : List Rg} (h : LenR R) {s : Nat} {r : Rg} (hs : R[s]? = some r) {j : Nat} {u : Value} (hj : r.cells[j]? = some u) : (cellsR R)[s * 67 + j]? = some u :=
  flatten_get h.cells s j (by rw [List.getElem?_map, hs]; rfl) hj
theorem cellsR_lim {R : List Rg} (h : LenR R) {s : Nat} {r : Rg} (hs : R[s]? = some r) : (cellsR R)[s * 67]? = some (.int .i64 r.lim) := cellsR_get h hs (j := 0) rfl
theorem cellsR_own {R : List Rg} (h : LenR R) {s : Nat} {r : Rg} (hs : R[s]? = some r) {j : Nat} (hj : j < r.own.length) : (cellsR R)[s * 67 + (1 + j)]? = some (.int .u32 r.own[j]) := by
  refine cellsR_get h hs ?_
  unfold Rg.cells
  rw [Nat.add_comm, List.getElem?_cons_succ, List.getElem?_append_left (by rw [u32s_len]; exact hj), u32s_get _ hj]
theorem cellsR_first {R : List Rg} (h : LenR R) {s : Nat} {r : Rg} (hs : R[s]? = some r) : (cellsR R)[s * 67 + 65]? = some (.int .i64 r.first) := by
  refine cellsR_get h hs ?_
  have hl := h r (List.mem_of_getElem? hs)
  unfold Rg.cells
  rw [List.getElem?_cons_succ, List.getElem?_append_right (by rw [u32s_len, hl]; exact Nat.le_refl _), u32s_len, hl]; rfl
theorem cellsR_many {R : List Rg} (h : LenR R) {s : Nat} {r : Rg} (hs : R[s]? = some r) : (cellsR R)[s * 67 + 66]? = some (.int .i64 r.many) := by
  refine cellsR_get h hs ?_
  have hl := h r (List.mem_of_getElem? hs)
  unfold Rg.cells
  rw [List.getElem?_cons_succ, List.getElem?_append_right (by rw [u32s_len, hl]; decide), u32s_len, hl]; rfl
theorem flatten_set {k : Nat} : ∀ {rows : List (List Value)}, (∀ r ∈ rows, r.length = k) → ∀ (i j : Nat) {r : List Value} (u : Value), rows[i]? = some r → j < k → rows.flatten.set (i * k + j) u = (rows.set i (r.set j u)).flatten
  | [], _, i, j, r, u, hr, _ => by simp at hr
  | a :: rows, h, 0, j, r, u, hr, hj => by
    simp only [List.getElem?_cons_zero, Option.some.injEq] at hr
    subst hr
    have ha := h a (by simp)
    rw [List.flatten_cons, Nat.zero_mul, Nat.zero_add, List.set_append_left _ _ (by omega), List.set_cons_zero, List.flatten_cons]
  | a :: rows, h, i + 1, j, r, u, hr, hj => by
    rw [List.getElem?_cons_succ] at hr
    have ha := h a (by simp)
    rw [List.flatten_cons, List.set_append_right _ _ (by rw [ha, Nat.add_mul]; omega), List.set_cons_succ, List.flatten_cons]
    have := flatten_set (rows := rows) (fun x hx => h x (by simp [hx])) i j u hr hj
    rw [ha, show (i + 1) * k + j - k = i * k + j by rw [Nat.add_mul]; omega, this]
theorem cellsR_set {R : List Rg} (h : LenR R) {s : Nat} {r r' : Rg} (hs : R[s]? = some r) {j : Nat} {u : Value} (hj : j < 67) (hr : r.cells.set j u = r'.cells) : (cellsR R).set (s * 67 + j) u = cellsR (R.set s r') := by
  unfold cellsR
  rw [flatten_set h.cells s j u (by rw [List.getElem?_map, hs]; rfl) hj, hr, List.map_set]
theorem cellsR_set_own {R : List Rg} (h : LenR R) {s : Nat} {r : Rg} (hs : R[s]? = some r) {j : Nat} (hj : j < 64) (o : Int) : (cellsR R).set (s * 67 + (1 + j)) (.int .u32 o) = cellsR (R.set s { r with own := r.own.set j o }) := by
  refine cellsR_set h hs (by omega) ?_
  have hl := h r (List.mem_of_getElem? hs)
  unfold Rg.cells
  rw [Nat.add_comm, List.set_cons_succ, List.set_append_left _ _ (by rw [u32s_len, hl]; exact hj), u32s_set]
theorem cellsR_set_first {R : List Rg} (h : LenR R) {s : Nat} {r : Rg} (hs : R[s]? = some r) (n : Nat) : (cellsR R).set (s * 67 + 65) (.int .i64 n) = cellsR (R.set s { r with first := n }) := by
  refine cellsR_set h hs (by omega) ?_
  have hl := h r (List.mem_of_getElem? hs)
  unfold Rg.cells
  rw [List.set_cons_succ, List.set_append_right _ _ (by rw [u32s_len, hl]; exact Nat.le_refl _), u32s_len, hl]; rfl
theorem cellsR_set_many {R : List Rg} (h : LenR R) {s : Nat} {r : Rg} (hs : R[s]? = some r) (n : Nat) : (cellsR R).set (s * 67 + 66) (.int .i64 n) = cellsR (R.set s { r with many := n }) := by
  refine cellsR_set h hs (by omega) ?_
  have hl := h r (List.mem_of_getElem? hs)
  unfold Rg.cells
  rw [List.set_cons_succ, List.set_append_right _ _ (by rw [u32s_len, hl]; decide), u32s_len, hl]; rfl
theorem cellsR_set_lim {R : List Rg} (h : LenR R) {s : Nat} {r : Rg} (hs : R[s]? = some r) (n : Nat) : (cellsR R).set (s * 67) (.int .i64 n) = cellsR (R.set s { r with lim := n }) := cellsR_set h hs (j := 0) (by omega) rfl
/-- the lists that rings are -/
def stR (R : List Rg) : St := R.map fun r => (r.lim, r.ws)
theorem stR_len (R : List Rg) : (stR R).length = R.length := by simp [stR]
theorem stR_get {R : List Rg} {s : Nat} {r : Rg} (hs : R[s]? = some r) : lm (stR R) s = r.lim ∧ wt (stR R) s = r.ws := by
  unfold lm wt stR
  simp [List.getD_eq_getElem?_getD, hs]
theorem stR_set {R : List Rg} {s : Nat} {r r' : Rg} (hs : R[s]? = some r) (hl : r'.lim = r.lim) : stR (R.set s r') = put (stR R) s r'.ws := by
  unfold put
  rw [(stR_get hs).1]
  unfold stR
  rw [List.map_set, hl]; simp
end Go.Wl
