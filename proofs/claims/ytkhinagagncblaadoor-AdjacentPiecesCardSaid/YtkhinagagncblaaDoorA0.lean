/- Seats side by side: the plain part: runs of free seats, in one row and in the rows of a section; what becomes of them when seats are taken. -/
import Derived.Test.YtkhinagagncblaaDoorBase
namespace Go.Ad
set_option linter.unusedVariables false
structure Run where
  row : Nat
  first : Nat
  many : Nat
deriving DecidableEq, Inhabited
/-- a run that is closed -/
def cl (r a m : Nat) : List Run := if m = 0 then [] else [⟨r, a, m⟩]
@[simp] theorem cl_zero (r a : Nat) : cl r a 0 = [] := rfl
theorem cl_pos {r a m : Nat} (h : 0 < m) : cl r a m = [⟨r, a, m⟩] := by unfold cl; rw [if_neg (by omega)]
/-- runs of a row: the open one begins at a, and has m seats -/
def runsGo (r : Nat) : Nat → Nat → List Bool → List Run
  | a, m, [] => cl r a m
  | a, m, true :: l => runsGo r a (m + 1) l
  | a, m, false :: l => cl r a m ++ runsGo r (a + m + 1) 0 l
/-- one seat more -/
structure Sta where
  done : List Run
  a : Nat
  m : Nat
def stp (r : Nat) (s : Sta) (b : Bool) : Sta := if b then ⟨s.done, s.a, s.m + 1⟩ else ⟨s.done ++ cl r s.a s.m, s.a + s.m + 1, 0⟩
def Sta.all (r : Nat) (s : Sta) : List Run := s.done ++ cl r s.a s.m
theorem stp_go (r : Nat) : ∀ (l : List Bool) (s : Sta), (l.foldl (stp r) s).all r = s.done ++ runsGo r s.a s.m l
  | [], s => rfl
  | true :: l, s => by
    rw [List.foldl_cons, stp_go r l]; rfl
  | false :: l, s => by
    rw [List.foldl_cons, stp_go r l]
    show (s.done ++ cl r s.a s.m) ++ _ = _
    rw [List.append_assoc]; rfl
theorem stp_pos (r : Nat) : ∀ (l : List Bool) (s : Sta), (l.foldl (stp r) s).a + (l.foldl (stp r) s).m = s.a + s.m + l.length
  | [], s => by simp
  | b :: l, s => by
    rw [List.foldl_cons, stp_pos r l]
    cases b <;> simp [stp] <;> omega
theorem stp_done (r : Nat) (d : List Run) : ∀ (l : List Bool) (s : Sta), l.foldl (stp r) ⟨d ++ s.done, s.a, s.m⟩ = ⟨d ++ (l.foldl (stp r) s).done, (l.foldl (stp r) s).a, (l.foldl (stp r) s).m⟩
  | [], s => rfl
  | b :: l, s => by
    rw [List.foldl_cons, List.foldl_cons]
    have : stp r ⟨d ++ s.done, s.a, s.m⟩ b = ⟨d ++ (stp r s b).done, (stp r s b).a, (stp r s b).m⟩ := by
      cases b <;> simp [stp, List.append_assoc]
    rw [this, stp_done r d l]
def go0 (r a : Nat) (l : List Bool) : Sta := l.foldl (stp r) ⟨[], a, 0⟩
theorem go0_all (r a : Nat) (l : List Bool) : (go0 r a l).all r = runsGo r a 0 l := by rw [go0, stp_go]; rfl
theorem go0_pos (r a : Nat) (l : List Bool) : (go0 r a l).a + (go0 r a l).m = a + l.length := by rw [go0, stp_pos]; simp
theorem go0_nil (r a : Nat) : go0 r a [] = ⟨[], a, 0⟩ := rfl
theorem go0_snoc (r a : Nat) (l : List Bool) (b : Bool) : go0 r a (l ++ [b]) = stp r (go0 r a l) b := by simp [go0, List.foldl_append]
/-- on behind l1 -/
theorem runsGo_app (r a : Nat) (l1 l2 : List Bool) : runsGo r a 0 (l1 ++ l2) = (go0 r a l1).done ++ runsGo r (go0 r a l1).a (go0 r a l1).m l2 := by
  rw [← go0_all, go0, List.foldl_append, stp_go]; rfl
theorem runsGo_trues (r : Nat) : ∀ (n a m : Nat) (l : List Bool), runsGo r a m (List.replicate n true ++ l) = runsGo r a (m + n) l
  | 0, a, m, l => rfl
  | n + 1, a, m, l => by
    rw [List.replicate_succ, List.cons_append]
    show runsGo r a (m + 1) _ = _
    rw [runsGo_trues r n, show m + 1 + n = m + (n + 1) by omega]
theorem runsGo_falses (r : Nat) : ∀ (n a : Nat) (l : List Bool), runsGo r a 0 (List.replicate n false ++ l) = runsGo r (a + n) 0 l
  | 0, a, l => rfl
  | n + 1, a, l => by
    rw [List.replicate_succ, List.cons_append]
    show cl r a 0 ++ runsGo r (a + 0 + 1) 0 _ = _
    rw [runsGo_falses r n, cl_zero, List.nil_append, show a + 0 + 1 + n = a + (n + 1) by omega]
theorem runsGo_falses' (r n a m : Nat) (l : List Bool) (h : 0 < n) : runsGo r a m (List.replicate n false ++ l) = cl r a m ++ runsGo r (a + m + n) 0 l := by
  obtain ⟨n, rfl⟩ : ∃ k, n = k + 1 := ⟨n - 1, by omega⟩
  rw [List.replicate_succ, List.cons_append]
  show cl r a m ++ runsGo r (a + m + 1) 0 _ = _
  rw [runsGo_falses, show a + m + 1 + n = a + m + (n + 1) by omega]
/-- nothing, or not free at its begin | at its end -/
def Shut (l : List Bool) : Prop := l = [] ∨ ∃ t, l = false :: t
def ShutE (l : List Bool) : Prop := l = [] ∨ ∃ t, l = t ++ [false]
theorem runsGo_shut {l : List Bool} (h : Shut l) (r a m : Nat) : runsGo r a m l = cl r a m ++ runsGo r (a + m) 0 l := by
  rcases h with rfl | ⟨t, rfl⟩
  · simp [runsGo]
  · simp [runsGo]
theorem go0_shutE {l : List Bool} (h : ShutE l) (r a : Nat) : go0 r a l = ⟨runsGo r a 0 l, a + l.length, 0⟩ := by
  have hm : (go0 r a l).m = 0 := by
    rcases h with rfl | ⟨t, rfl⟩
    · rfl
    · rw [go0_snoc]; rfl
  have h1 := go0_all r a l
  have h2 := go0_pos r a l
  rw [Sta.all, hm, cl_zero, List.append_nil] at h1
  rw [hm] at h2
  rw [← h1]
  have : (go0 r a l).a = a + l.length := by omega
  rw [← this]
  have h3 : go0 r a l = ⟨(go0 r a l).done, (go0 r a l).a, (go0 r a l).m⟩ := rfl
  rw [hm] at h3
  exact h3
theorem runsGo_break {l1 : List Bool} (h : ShutE l1) (r a : Nat) (l2 : List Bool) : runsGo r a 0 (l1 ++ l2) = runsGo r a 0 l1 ++ runsGo r (a + l1.length) 0 l2 := by
  rw [runsGo_app, go0_shutE h]
/-- where a run lies -/
theorem runsGo_mem (r : Nat) : ∀ (l : List Bool) (a : Nat) (pre : List Bool) (m : Nat) (x : Run), ShutE pre → x ∈ runsGo r (a + pre.length) m l →
    ∃ l1 l2, pre ++ List.replicate m true ++ l = l1 ++ List.replicate x.many true ++ l2 ∧ ShutE l1 ∧ Shut l2 ∧ x.row = r ∧ x.first = a + l1.length ∧ 0 < x.many
  | [], a, pre, m, x, hp, hx => by
    unfold runsGo cl at hx
    split at hx
    · cases hx
    · rename_i hm
      rw [List.mem_singleton] at hx
      subst hx
      exact ⟨pre, [], rfl, hp, .inl rfl, rfl, rfl, by show 0 < m; omega⟩
  | true :: l, a, pre, m, x, hp, hx => by
    obtain ⟨l1, l2, h1, h2⟩ := runsGo_mem r l a pre (m + 1) x hp hx
    refine ⟨l1, l2, ?_, h2⟩
    rw [← h1, List.replicate_succ', ← List.append_assoc, List.append_assoc _ [true] l]; rfl
  | false :: l, a, pre, m, x, hp, hx => by
    unfold runsGo at hx
    rcases List.mem_append.1 hx with hx | hx
    · unfold cl at hx
      split at hx
      · cases hx
      · rename_i hm
        rw [List.mem_singleton] at hx
        subst hx
        exact ⟨pre, false :: l, rfl, hp, .inr ⟨l, rfl⟩, rfl, rfl, by show 0 < m; omega⟩
    · have he : a + pre.length + m + 1 = a + (pre ++ List.replicate m true ++ [false]).length := by simp; omega
      rw [he] at hx
      obtain ⟨l1, l2, h1, h2⟩ := runsGo_mem r l a (pre ++ List.replicate m true ++ [false]) 0 x (.inr ⟨_, rfl⟩) hx
      refine ⟨l1, l2, ?_, h2⟩
      rw [← h1]; simp
theorem runs_mem {r a : Nat} {l : List Bool} {x : Run} (h : x ∈ runsGo r a 0 l) :
    ∃ l1 l2, l = l1 ++ List.replicate x.many true ++ l2 ∧ ShutE l1 ∧ Shut l2 ∧ x.row = r ∧ x.first = a + l1.length ∧ 0 < x.many := by
  obtain ⟨l1, l2, h1, h2⟩ := runsGo_mem r l a [] 0 x (.inl rfl) (by simpa using h)
  exact ⟨l1, l2, by simpa using h1, h2⟩
/-- free seats side by side lie in one run -/
theorem open_run (r a : Nat) : ∀ (l : List Bool) (m q : Nat), (∀ j, j < q → l[j]? = some true) → 0 < m + q → ∃ x ∈ runsGo r a m l, x.first = a ∧ m + q ≤ x.many
  | [], m, q, h, hp => by
    have hq : q = 0 := by
      rcases Nat.eq_zero_or_pos q with h0 | h0
      · exact h0
      · have := h 0 h0; simp at this
    subst hq
    exact ⟨⟨r, a, m⟩, by simp [runsGo, cl_pos (show 0 < m by omega)], rfl, Nat.le_refl _⟩
  | true :: l, m, q, h, hp => by
    obtain ⟨x, h1, h2, h3⟩ := open_run r a l (m + 1) (q - 1) (fun j hj => by have := h (j + 1) (by omega); simpa using this) (by omega)
    exact ⟨x, h1, h2, by omega⟩
  | false :: l, m, q, h, hp => by
    have hq : q = 0 := by
      rcases Nat.eq_zero_or_pos q with h0 | h0
      · exact h0
      · have := h 0 h0; simp at this
    subst hq
    exact ⟨⟨r, a, m⟩, by simp [runsGo, cl_pos (show 0 < m by omega)], rfl, Nat.le_refl _⟩
theorem runs_find (r : Nat) (n : Nat) (hn : 0 < n) : ∀ (l : List Bool) (a m i : Nat), (∀ j, j < n → l[i + j]? = some true) → ∃ x ∈ runsGo r a m l, x.first ≤ a + m + i ∧ a + m + i + n ≤ x.first + x.many
  | [], a, m, i, h => by have := h 0 hn; simp at this
  | b :: l, a, m, 0, h => by
    obtain ⟨x, h1, h2, h3⟩ := open_run r a (b :: l) m n (fun j hj => by have := h j hj; simpa using this) (by omega)
    exact ⟨x, h1, by omega, by omega⟩
  | true :: l, a, m, i + 1, h => by
    obtain ⟨x, h1, h2, h3⟩ := runs_find r n hn l a (m + 1) i (fun j hj => by
      have := h j hj
      rwa [show i + 1 + j = (i + j) + 1 by omega, List.getElem?_cons_succ] at this)
    exact ⟨x, h1, by omega, by omega⟩
  | false :: l, a, m, i + 1, h => by
    obtain ⟨x, h1, h2, h3⟩ := runs_find r n hn l (a + m + 1) 0 i (fun j hj => by
      have := h j hj
      rwa [show i + 1 + j = (i + j) + 1 by omega, List.getElem?_cons_succ] at this)
    exact ⟨x, List.mem_append_right _ h1, by omega, by omega⟩
/-- what is free without some seats -/
def off (f : List Bool) (i n : Nat) : List Bool := f.take i ++ List.replicate n false ++ f.drop (i + n)
theorem off_len {f : List Bool} {i n : Nat} (h : i + n ≤ f.length) : (off f i n).length = f.length := by
  simp [off]; omega
theorem off_get {f : List Bool} {i n : Nat} (h : i + n ≤ f.length) (j : Nat) : (off f i n)[j]? = if i ≤ j ∧ j < i + n then some false else f[j]? := by
  unfold off
  by_cases h1 : j < i
  · rw [List.append_assoc, List.getElem?_append_left (by simp; omega), List.getElem?_take, if_pos h1, if_neg (by omega)]
  · by_cases h2 : j < i + n
    · rw [List.getElem?_append_left (by simp; omega), List.getElem?_append_right (by simp; omega), if_pos (by omega), List.getElem?_replicate, if_pos (by simp; omega)]
    · rw [List.getElem?_append_right (by simp; omega), if_neg (by omega), List.getElem?_drop]
      congr 1; simp; omega
theorem off_drop {f : List Bool} {i n b : Nat} (h : i + n ≤ b) (hf : i + n ≤ f.length) : (off f i n).drop b = f.drop b := by
  apply List.ext_getElem?
  intro j
  rw [List.getElem?_drop, List.getElem?_drop, off_get hf, if_neg (by omega)]
theorem off_seg {f : List Bool} {i n a k : Nat} (h : a + k ≤ i) (hf : i + n ≤ f.length) : ((off f i n).drop a).take k = (f.drop a).take k := by
  apply List.ext_getElem?
  intro j
  rw [List.getElem?_take, List.getElem?_take]
  split
  · rw [List.getElem?_drop, List.getElem?_drop, off_get hf, if_neg (by omega)]
  · rfl
theorem off_in {f : List Bool} {i n a k : Nat} (h1 : a ≤ i) (h2 : i + n ≤ a + k) (hf : i + n ≤ f.length) : ((off f i n).drop a).take k = off ((f.drop a).take k) (i - a) n := by
  apply List.ext_getElem?
  intro j
  rw [List.getElem?_take]
  by_cases hl : a + k ≤ f.length
  · rw [off_get (by simp; omega), List.getElem?_take]
    split
    · rw [List.getElem?_drop, off_get hf, List.getElem?_drop]
      by_cases hc : i ≤ a + j ∧ a + j < i + n
      · rw [if_pos hc, if_pos (by omega)]
      · rw [if_neg hc, if_neg (by omega)]
    · rw [if_neg (by omega)]
  · rw [off_get (by simp; omega), List.getElem?_take]
    split
    · rw [List.getElem?_drop, off_get hf, List.getElem?_drop]
      by_cases hc : i ≤ a + j ∧ a + j < i + n
      · rw [if_pos hc, if_pos (by omega)]
      · rw [if_neg hc, if_neg (by omega)]
    · rw [if_neg (by omega)]
/-- a run parts the others, and is parted itself -/
theorem runs_split {r a : Nat} {l : List Bool} {x : Run} (h : x ∈ runsGo r a 0 l) :
    a ≤ x.first ∧ x.first + x.many ≤ a + l.length ∧ x.row = r ∧ 0 < x.many ∧ (∀ j, j < x.many → l[x.first - a + j]? = some true) ∧
    ∃ L1 L2, runsGo r a 0 l = L1 ++ x :: L2 ∧ (∀ y ∈ L1, y.first + y.many < x.first) ∧ (∀ y ∈ L2, x.first + x.many < y.first) ∧
      ∀ k n, 0 < n → k + n ≤ x.many → runsGo r a 0 (off l (x.first - a + k) n) = L1 ++ (cl r x.first k ++ cl r (x.first + k + n) (x.many - k - n)) ++ L2 := by
  obtain ⟨l1, l2, rfl, h1, h2, hr, hf, hm⟩ := runs_mem h
  have hx : x = ⟨r, a + l1.length, x.many⟩ := by rw [← hr, ← hf]
  refine ⟨by omega, by simp; omega, hr, hm, fun j hj => ?_, runsGo r a 0 l1, runsGo r (a + l1.length + x.many) 0 l2, ?_, ?_, ?_, ?_⟩
  · rw [List.append_assoc, List.getElem?_append_right (by omega), List.getElem?_append_left (by simp; omega), List.getElem?_replicate, if_pos (by omega)]
  · rw [List.append_assoc, runsGo_break h1, runsGo_trues, Nat.zero_add, runsGo_shut h2, cl_pos hm, ← hx]; rfl
  · intro y hy
    obtain ⟨m1, m2, e, s1, s2, _, hyf, _⟩ := runs_mem hy
    rw [hyf, hf]
    rcases h1 with rfl | ⟨t, rfl⟩
    · have := congrArg List.length e; simp at this; omega
    · rcases s2 with rfl | ⟨u, rfl⟩
      · exfalso
        rw [List.append_nil] at e
        have h3 := congrArg (fun z => z.getLast?) e
        have hp : 0 < y.many := by omega
        obtain ⟨n, hn⟩ : ∃ n, y.many = n + 1 := ⟨y.many - 1, by omega⟩
        rw [hn, List.replicate_succ', ← List.append_assoc] at h3
        simp at h3
      · have := congrArg List.length e; simp at this; simp; omega
  · intro y hy
    obtain ⟨m1, m2, e, s1, s2, _, hyf, hyp⟩ := runs_mem hy
    rw [hyf, hf]
    rcases h2 with rfl | ⟨t, rfl⟩
    · have := congrArg List.length e; simp at this; omega
    · rcases s1 with rfl | ⟨u, rfl⟩
      · exfalso
        obtain ⟨n, hn⟩ : ∃ n, y.many = n + 1 := ⟨y.many - 1, by omega⟩
        rw [hn, List.replicate_succ] at e
        simp at e
      · simp
  · intro k n hn hk
    have e : off (l1 ++ List.replicate x.many true ++ l2) (x.first - a + k) n = l1 ++ (List.replicate k true ++ (List.replicate n false ++ (List.replicate (x.many - k - n) true ++ l2))) := by
      rw [hf, show a + l1.length - a + k = l1.length + k by omega]
      unfold off
      have e1 : (l1 ++ List.replicate x.many true ++ l2).take (l1.length + k) = l1 ++ List.replicate k true := by
        rw [List.append_assoc, List.take_append, List.take_of_length_le (by omega), show l1.length + k - l1.length = k by omega, List.take_append, List.take_replicate, Nat.min_eq_left (by omega)]
        rw [List.length_replicate, show k - x.many = 0 by omega]; simp
      have e2 : (l1 ++ List.replicate x.many true ++ l2).drop (l1.length + k + n) = List.replicate (x.many - k - n) true ++ l2 := by
        rw [List.append_assoc, List.drop_append, List.drop_of_length_le (by omega), show l1.length + k + n - l1.length = k + n by omega, List.drop_append, List.drop_replicate, List.length_replicate,
          show k + n - x.many = 0 by omega, show x.many - (k + n) = x.many - k - n by omega]; simp
      rw [e1, e2]; simp
    rw [e, runsGo_break h1, runsGo_trues, Nat.zero_add, runsGo_falses' _ _ _ _ _ hn, runsGo_trues, Nat.zero_add, runsGo_shut h2, hf,
      show a + l1.length + k + n + (x.many - k - n) = a + l1.length + x.many by omega]
    simp
/-- the runs in the rows of a section -/
def secRuns (f : List Bool) : Nat → Nat → List Nat → List Run
  | _, _, [] => []
  | r, a, n :: ns => runsGo r a 0 ((f.drop a).take n) ++ secRuns f (r + 1) (a + n) ns
theorem secRuns_far {f : List Bool} {i n : Nat} (hf : i + n ≤ f.length) : ∀ (ns : List Nat) (r b : Nat), i + n ≤ b → secRuns (off f i n) r b ns = secRuns f r b ns
  | [], _, _, _ => rfl
  | m :: ns, r, b, h => by
    unfold secRuns
    rw [off_drop h hf, secRuns_far hf ns (r + 1) (b + m) (by omega)]
/-- how two runs lie, the first one before the other -/
def Bef (x y : Run) : Prop := x.first + x.many ≤ y.first ∧ (x.row = y.row → x.first + x.many < y.first)
theorem secRuns_low {f : List Bool} : ∀ (ns : List Nat) (r b : Nat), ∀ y ∈ secRuns f r b ns, b ≤ y.first ∧ r ≤ y.row ∧ y.row < r + ns.length ∧ 0 < y.many
  | [], _, _, y, hy => by cases hy
  | m :: ns, r, b, y, hy => by
    unfold secRuns at hy
    rcases List.mem_append.1 hy with hy | hy
    · obtain ⟨h1, _, h3, h4, _⟩ := runs_split hy
      exact ⟨h1, by omega, by simp; omega, h4⟩
    · obtain ⟨h1, h2, h3, h4⟩ := secRuns_low ns (r + 1) (b + m) y hy
      exact ⟨by omega, by omega, by simp; omega, h4⟩
/-- a run of a section: what becomes of the others if seats of it are taken -/
theorem sec_split {f : List Bool} : ∀ (ns : List Nat) (r a : Nat) {x : Run}, a + ns.sum ≤ f.length → x ∈ secRuns f r a ns →
    a ≤ x.first ∧ x.first + x.many ≤ a + ns.sum ∧ 0 < x.many ∧ (∀ j, j < x.many → f[x.first + j]? = some true) ∧
    ∃ L1 L2, secRuns f r a ns = L1 ++ x :: L2 ∧ (∀ y ∈ L1, Bef y x) ∧ (∀ y ∈ L2, Bef x y) ∧
      ∀ k n, 0 < n → k + n ≤ x.many → secRuns (off f (x.first + k) n) r a ns = L1 ++ (cl x.row x.first k ++ cl x.row (x.first + k + n) (x.many - k - n)) ++ L2
  | [], _, _, x, _, hx => by cases hx
  | m :: ns, r, a, x, hl, hx => by
    have hs : (m :: ns).sum = m + ns.sum := by simp
    have hin := hx
    unfold secRuns at hx
    rcases List.mem_append.1 hx with hx | hx
    · obtain ⟨h1, h2, h3, h4, h5, L1, L2, e, b1, b2, hk⟩ := runs_split hx
      have hlen : ((f.drop a).take m).length = m := by simp; omega
      rw [hlen] at h2
      refine ⟨h1, by omega, h4, fun j hj => ?_, L1, L2 ++ secRuns f (r + 1) (a + m) ns, ?_, ?_, ?_, ?_⟩
      · have := h5 j hj
        rw [List.getElem?_take, if_pos (by omega), List.getElem?_drop, show a + (x.first - a + j) = x.first + j by omega] at this
        exact this
      · rw [secRuns, e]; simp
      · intro y hy
        have := b1 y hy
        exact ⟨by omega, fun _ => this⟩
      · intro y hy
        rcases List.mem_append.1 hy with hy | hy
        · have := b2 y hy
          exact ⟨by omega, fun _ => this⟩
        · have := secRuns_low ns (r + 1) (a + m) y hy
          exact ⟨by omega, fun h => by omega⟩
      · intro k n hn hkn
        rw [secRuns, secRuns_far (by omega) ns (r + 1) (a + m) (by omega), off_in (by omega) (by omega) (by omega), show x.first + k - a = x.first - a + k by omega, hk k n hn hkn, h3]
        simp
    · obtain ⟨h1, h2, h4, h5, L1, L2, e, b1, b2, hk⟩ := sec_split ns (r + 1) (a + m) (by omega) hx
      have hlow := secRuns_low ns (r + 1) (a + m) x hx
      refine ⟨by omega, by omega, h4, h5, runsGo r a 0 ((f.drop a).take m) ++ L1, L2, ?_, ?_, b2, ?_⟩
      · rw [secRuns, e]; simp
      · intro y hy
        rcases List.mem_append.1 hy with hy | hy
        · obtain ⟨g1, g2, g3, _⟩ := runs_split hy
          have hlen : ((f.drop a).take m).length = m := by simp; omega
          rw [hlen] at g2
          exact ⟨by omega, fun h => by omega⟩
        · exact b1 y hy
      · intro k n hn hkn
        rw [secRuns, hk k n hn hkn, off_seg (by omega) (by omega)]
        simp
/-- free seats side by side in one row lie in one run -/
theorem sec_find {f : List Bool} (n : Nat) (hn : 0 < n) (i : Nat) (hfree : ∀ j, j < n → f[i + j]? = some true) : ∀ (ns : List Nat) (r a : Nat) (q : Nat) (m : Nat), ns[q]? = some m → a + (ns.take q).sum ≤ i → i + n ≤ a + (ns.take q).sum + m →
    ∃ x ∈ secRuns f r a ns, x.row = r + q ∧ x.first ≤ i ∧ i + n ≤ x.first + x.many
  | [], _, _, q, m, hq, _, _ => by simp at hq
  | m' :: ns, r, a, 0, m, hq, h1, h2 => by
    simp only [List.getElem?_cons_zero, Option.some.injEq] at hq
    subst hq
    simp only [List.take_zero, List.sum_nil, Nat.add_zero] at h1 h2
    obtain ⟨x, hx, h3, h4⟩ := runs_find r n hn ((f.drop a).take m') a 0 (i - a) (fun j hj => by
      rw [List.getElem?_take, if_pos (by omega), List.getElem?_drop, show a + (i - a + j) = i + j by omega]
      exact hfree j hj)
    obtain ⟨_, _, h5, _⟩ := runs_split hx
    exact ⟨x, List.mem_append_left _ hx, by omega, by omega, by omega⟩
  | m' :: ns, r, a, q + 1, m, hq, h1, h2 => by
    rw [List.getElem?_cons_succ] at hq
    simp only [List.take_succ_cons, List.sum_cons] at h1 h2
    obtain ⟨x, hx, h3, h4, h5⟩ := sec_find n hn i hfree ns (r + 1) (a + m') q m hq (by omega) (by omega)
    exact ⟨x, List.mem_append_right _ hx, by omega, h4, h5⟩
/-- in which row a run lies -/
theorem sec_row {f : List Bool} : ∀ (ns : List Nat) (r a : Nat) {x : Run}, a + ns.sum ≤ f.length → x ∈ secRuns f r a ns →
    ∃ q m, ns[q]? = some m ∧ x.row = r + q ∧ a + (ns.take q).sum ≤ x.first ∧ x.first + x.many ≤ a + (ns.take q).sum + m
  | [], _, _, x, _, hx => by cases hx
  | m :: ns, r, a, x, hl, hx => by
    have hs : (m :: ns).sum = m + ns.sum := by simp
    unfold secRuns at hx
    rcases List.mem_append.1 hx with hx | hx
    · obtain ⟨h1, h2, h3, _⟩ := runs_split hx
      have hlen : ((f.drop a).take m).length = m := by simp; omega
      rw [hlen] at h2
      exact ⟨0, m, rfl, by omega, by simpa using h1, by simpa using h2⟩
    · obtain ⟨q, m', h1, h2, h3, h4⟩ := sec_row ns (r + 1) (a + m) (by omega) hx
      exact ⟨q + 1, m', h1, by omega, by simp; omega, by simp; omega⟩
end Go.Ad
