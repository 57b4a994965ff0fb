/- Texts put together: A0 A1 A2 A3. -/
import Derived.Test.YtdmaephmkfmehaaGreatDoorGa
import Derived.Test.YtdmaephmkfmehaaGreatDoorShf
import Derived.Shelf.Strings.SlTrimAscii
import Derived.Test.YtdmaephmkfmehaaGreatDoorGb
namespace Go.Ad
set_option linter.unusedVariables false
structure Run where
  row : Nat
  first : Nat
  many : Nat
deriving DecidableEq, Inhabited
/-- a run that is closed -/
def cl (r a m : Nat) : List Run := if m = 0 then [] else [⟨r, a, m⟩]
@[simp] theorem cl_zero (r a : Nat) : cl r a 0 = [] := rfl
theorem cl_pos {r a m : Nat} (h : 0 < m) : cl r a m = [⟨r, a, m⟩] := by unfold cl; rw [if_neg (by omega)]
/-- runs of a row: the open one begins at a, and has m seats -/
def runsGo (r : Nat) : Nat → Nat → List Bool → List Run
  | a, m, [] => cl r a m
  | a, m, true :: l => runsGo r a (m + 1) l
  | a, m, false :: l => cl r a m ++ runsGo r (a + m + 1) 0 l
/-- one seat more -/
structure Sta where
  done : List Run
  a : Nat
  m : Nat
def stp (r : Nat) (s : Sta) (b : Bool) : Sta := if b then ⟨s.done, s.a, s.m + 1⟩ else ⟨s.done ++ cl r s.a s.m, s.a + s.m + 1, 0⟩
def Sta.all (r : Nat) (s : Sta) : List Run := s.done ++ cl r s.a s.m
theorem stp_go (r : Nat) : ∀ (l : List Bool) (s : Sta), (l.foldl (stp r) s).all r = s.done ++ runsGo r s.a s.m l
  | [], s => rfl
  | true :: l, s => by
    rw [List.foldl_cons, stp_go r l]; rfl
  | false :: l, s => by
    rw [List.foldl_cons, stp_go r l]
    show (s.done ++ cl r s.a s.m) ++ _ = _
    rw [List.append_assoc]; rfl
theorem stp_pos (r : Nat) : ∀ (l : List Bool) (s : Sta), (l.foldl (stp r) s).a + (l.foldl (stp r) s).m = s.a + s.m + l.length
  | [], s => by simp
  | b :: l, s => by
    rw [List.foldl_cons, stp_pos r l]
    cases b <;> simp [stp] <;> omega
theorem stp_done (r : Nat) (d : List Run) : ∀ (l : List Bool) (s : Sta), l.foldl (stp r) ⟨d ++ s.done, s.a, s.m⟩ = ⟨d ++ (l.foldl (stp r) s).done, (l.foldl (stp r) s).a, (l.foldl (stp r) s).m⟩
  | [], s => rfl
  | b :: l, s => by
    rw [List.foldl_cons, List.foldl_cons]
    have : stp r ⟨d ++ s.done, s.a, s.m⟩ b = ⟨d ++ (stp r s b).done, (stp r s b).a, (stp r s b).m⟩ := by
      cases b <;> simp [stp, List.append_assoc]
    rw [this, stp_done r d l]
def go0 (r a : Nat) (l : List Bool) : Sta := l.foldl (stp r) ⟨[], a, 0⟩
theorem go0_all (r a : Nat) (l : List Bool) : (go0 r a l).all r = runsGo r a 0 l := by rw [go0, stp_go]; rfl
theorem go0_pos (r a : Nat) (l : List Bool) : (go0 r a l).a + (go0 r a l).m = a + l.length := by rw [go0, stp_pos]; simp
theorem go0_nil (r a : Nat) : go0 r a [] = ⟨[], a, 0⟩ := rfl
theorem go0_snoc (r a : Nat) (l : List Bool) (b : Bool) : go0 r a (l ++ [b]) = stp r (go0 r a l) b := by simp [go0, List.foldl_append]
/-- on behind l1 -/
theorem runsGo_app (r a : Nat) (l1 l2 : List Bool) : runsGo r a 0 (l1 ++ l2) = (go0 r a l1).done ++ runsGo r (go0 r a l1).a (go0 r a l1).m l2 := by
  rw [← go0_all, go0, List.foldl_append, stp_go]; rfl
theorem runsGo_trues (r : Nat) : ∀ (n a m : Nat) (l : List Bool), runsGo r a m (List.replicate n true ++ l) = runsGo r a (m + n) l
  | 0, a, m, l => rfl
  | n + 1, a, m, l => by
    rw [List.replicate_succ, List.cons_append]
    show runsGo r a (m + 1) _ = _
    rw [runsGo_trues r n, show m + 1 + n = m + (n + 1) by omega]
theorem runsGo_falses (r : Nat) : ∀ (n a : Nat) (l : List Bool), runsGo r a 0 (List.replicate n false ++ l) = runsGo r (a + n) 0 l
  | 0, a, l => rfl
  | n + 1, a, l => by
    rw [List.replicate_succ, List.cons_append]
    show cl r a 0 ++ runsGo r (a + 0 + 1) 0 _ = _
    rw [runsGo_falses r n, cl_zero, List.nil_append, show a + 0 + 1 + n = a + (n + 1) by omega]
theorem runsGo_falses' (r n a m : Nat) (l : List Bool) (h : 0 < n) : runsGo r a m (List.replicate n false ++ l) = cl r a m ++ runsGo r (a + m + n) 0 l := by
  obtain ⟨n, rfl⟩ : ∃ k, n = k + 1 := ⟨n - 1, by omega⟩
  rw [List.replicate_succ, List.cons_append]
  show cl r a m ++ runsGo r (a + m + 1) 0 _ = _
  rw [runsGo_falses, show a + m + 1 + n = a + m + (n + 1) by omega]
/-- nothing, or not free at its begin | at its end -/
def Shut (l : List Bool) : Prop := l = [] ∨ ∃ t, l = false :: t
def ShutE (l : List Bool) : Prop := l = [] ∨ ∃ t, l = t ++ [false]
theorem runsGo_shut {l : List Bool} (h : Shut l) (r a m : Nat) : runsGo r a m l = cl r a m ++ runsGo r (a + m) 0 l := by
  rcases h with rfl | ⟨t, rfl⟩
  · simp [runsGo]
  · simp [runsGo]
theorem go0_shutE {l : List Bool} (h : ShutE l) (r a : Nat) : go0 r a l = ⟨runsGo r a 0 l, a + l.length, 0⟩ := by
  have hm : (go0 r a l).m = 0 := by
    rcases h with rfl | ⟨t, rfl⟩
    · rfl
    · rw [go0_snoc]; rfl
  have h1 := go0_all r a l
  have h2 := go0_pos r a l
  rw [Sta.all, hm, cl_zero, List.append_nil] at h1
  rw [hm] at h2
  rw [← h1]
  have : (go0 r a l).a = a + l.length := by omega
  rw [← this]
  have h3 : go0 r a l = ⟨(go0 r a l).done, (go0 r a l).a, (go0 r a l).m⟩ := rfl
  rw [hm] at h3
  exact h3
theorem runsGo_break {l1 : List Bool} (h : ShutE l1) (r a : Nat) (l2 : List Bool) : runsGo r a 0 (l1 ++ l2) = runsGo r a 0 l1 ++ runsGo r (a + l1.length) 0 l2 := by
  rw [runsGo_app, go0_shutE h]
/-- where a run lies -/
theorem runsGo_mem (r : Nat) : ∀ (l : List Bool) (a : Nat) (pre : List Bool) (m : Nat) (x : Run), ShutE pre → x ∈ runsGo r (a + pre.length) m l →
    ∃ l1 l2, pre ++ List.replicate m true ++ l = l1 ++ List.replicate x.many true ++ l2 ∧ ShutE l1 ∧ Shut l2 ∧ x.row = r ∧ x.first = a + l1.length ∧ 0 < x.many
  | [], a, pre, m, x, hp, hx => by
    unfold runsGo cl at hx
    split at hx
    · cases hx
    · rename_i hm
      rw [List.mem_singleton] at hx
      subst hx
      exact ⟨pre, [], rfl, hp, .inl rfl, rfl, rfl, by show 0 < m; omega⟩
  | true :: l, a, pre, m, x, hp, hx => by
    obtain ⟨l1, l2, h1, h2⟩ := runsGo_mem r l a pre (m + 1) x hp hx
    refine ⟨l1, l2, ?_, h2⟩
    rw [← h1, List.replicate_succ', ← List.append_assoc, List.append_assoc _ [true] l]; rfl
  | false :: l, a, pre, m, x, hp, hx => by
    unfold runsGo at hx
    rcases List.mem_append.1 hx with hx | hx
    · unfold cl at hx
      split at hx
      · cases hx
      · rename_i hm
        rw [List.mem_singleton] at hx
        subst hx
        exact ⟨pre, false :: l, rfl, hp, .inr ⟨l, rfl⟩, rfl, rfl, by show 0 < m; omega⟩
    · have he : a + pre.length + m + 1 = a + (pre ++ List.replicate m true ++ [false]).length := by simp; omega
      rw [he] at hx
      obtain ⟨l1, l2, h1, h2⟩ := runsGo_mem r l a (pre ++ List.replicate m true ++ [false]) 0 x (.inr ⟨_, rfl⟩) hx
      refine ⟨l1, l2, ?_, h2⟩
      rw [← h1]; simp
theorem runs_mem {r a : Nat} {l : List Bool} {x : Run} (h : x ∈ runsGo r a 0 l) :
    ∃ l1 l2, l = l1 ++ List.replicate x.many true ++ l2 ∧ ShutE l1 ∧ Shut l2 ∧ x.row = r ∧ x.first = a + l1.length ∧ 0 < x.many := by
  obtain ⟨l1, l2, h1, h2⟩ := runsGo_mem r l a [] 0 x (.inl rfl) (by simpa using h)
  exact ⟨l1, l2, by simpa using h1, h2⟩
/-- free seats side by side lie in one run -/
theorem open_run (r a : Nat) : ∀ (l : List Bool) (m q : Nat), (∀ j, j < q → l[j]? = some true) → 0 < m + q → ∃ x ∈ runsGo r a m l, x.first = a ∧ m + q ≤ x.many
  | [], m, q, h, hp => by
    have hq : q = 0 := by
      rcases Nat.eq_zero_or_pos q with h0 | h0
      · exact h0
      · have := h 0 h0; simp at this
    subst hq
    exact ⟨⟨r, a, m⟩, by simp [runsGo, cl_pos (show 0 < m by omega)], rfl, Nat.le_refl _⟩
  | true :: l, m, q, h, hp => by
    obtain ⟨x, h1, h2, h3⟩ := open_run r a l (m + 1) (q - 1) (fun j hj => by have := h (j + 1) (by omega); simpa using this) (by omega)
    exact ⟨x, h1, h2, by omega⟩
  | false :: l, m, q, h, hp => by
    have hq : q = 0 := by
      rcases Nat.eq_zero_or_pos q with h0 | h0
      · exact h0
      · have := h 0 h0; simp at this
    subst hq
    exact ⟨⟨r, a, m⟩, by simp [runsGo, cl_pos (show 0 < m by omega)], rfl, Nat.le_refl _⟩
theorem runs_find (r : Nat) (n : Nat) (hn : 0 < n) : ∀ (l : List Bool) (a m i : Nat), (∀ j, j < n → l[i + j]? = some true) → ∃ x ∈ runsGo r a m l, x.first ≤ a + m + i ∧ a + m + i + n ≤ x.first + x.many
  | [], a, m, i, h => by have := h 0 hn; simp at this
  | b :: l, a, m, 0, h => by
    obtain ⟨x, h1, h2, h3⟩ := open_run r a (b :: l) m n (fun j hj => by have := h j hj; simpa using this) (by omega)
    exact ⟨x, h1, by omega, by omega⟩
  | true :: l, a, m, i + 1, h => by
    obtain ⟨x, h1, h2, h3⟩ := runs_find r n hn l a (m + 1) i (fun j hj => by
      have := h j hj
      rwa [show i + 1 + j = (i + j) + 1 by omega, List.getElem?_cons_succ] at this)
    exact ⟨x, h1, by omega, by omega⟩
  | false :: l, a, m, i + 1, h => by
    obtain ⟨x, h1, h2, h3⟩ := runs_find r n hn l (a + m + 1) 0 i (fun j hj => by
      have := h j hj
      rwa [show i + 1 + j = (i + j) + 1 by omega, List.getElem?_cons_succ] at this)
    exact ⟨x, List.mem_append_right _ h1, by omega, by omega⟩
/-- what is free without some seats -/
def off (f : List Bool) (i n : Nat) : List Bool := f.take i ++ List.replicate n false ++ f.drop (i + n)
theorem off_len {f : List Bool} {i n : Nat} (h : i + n ≤ f.length) : (off f i n).length = f.length := by
  simp [off]; omega
theorem off_get {f : List Bool} {i n : Nat} (h : i + n ≤ f.length) (j : Nat) : (off f i n)[j]? = if i ≤ j ∧ j < i + n then some false else f[j]? := by
  unfold off
  by_cases h1 : j < i
  · rw [List.append_assoc, List.getElem?_append_left (by simp; omega), List.getElem?_take, if_pos h1, if_neg (by omega)]
  · by_cases h2 : j < i + n
    · rw [List.getElem?_append_left (by simp; omega), List.getElem?_append_right (by simp; omega), if_pos (by omega), List.getElem?_replicate, if_pos (by simp; omega)]
    · rw [List.getElem?_append_right (by simp; omega), if_neg (by omega), List.getElem?_drop]
      congr 1; simp; omega
theorem off_drop {f : List Bool} {i n b : Nat} (h : i + n ≤ b) (hf : i + n ≤ f.length) : (off f i n).drop b = f.drop b := by
  apply List.ext_getElem?
  intro j
  rw [List.getElem?_drop, List.getElem?_drop, off_get hf, if_neg (by omega)]
theorem off_seg {f : List Bool} {i n a k : Nat} (h : a + k ≤ i) (hf : i + n ≤ f.length) : ((off f i n).drop a).take k = (f.drop a).take k := by
  apply List.ext_getElem?
  intro j
  rw [List.getElem?_take, List.getElem?_take]
  split
  · rw [List.getElem?_drop, List.getElem?_drop, off_get hf, if_neg (by omega)]
  · rfl
theorem off_in {f : List Bool} {i n a k : Nat} (h1 : a ≤ i) (h2 : i + n ≤ a + k) (hf : i + n ≤ f.length) : ((off f i n).drop a).take k = off ((f.drop a).take k) (i - a) n := by
  apply List.ext_getElem?
  intro j
  rw [List.getElem?_take]
  by_cases hl : a + k ≤ f.length
  · rw [off_get (by simp; omega), List.getElem?_take]
    split
    · rw [List.getElem?_drop, off_get hf, List.getElem?_drop]
      by_cases hc : i ≤ a + j ∧ a + j < i + n
      · rw [if_pos hc, if_pos (by omega)]
      · rw [if_neg hc, if_neg (by omega)]
    · rw [if_neg (by omega)]
  · rw [off_get (by simp; omega), List.getElem?_take]
    split
    · rw [List.getElem?_drop, off_get hf, List.getElem?_drop]
      by_cases hc : i ≤ a + j ∧ a + j < i + n
      · rw [if_pos hc, if_pos (by omega)]
      · rw [if_neg hc, if_neg (by omega)]
    · rw [if_neg (by omega)]
/-- a run parts the others, and is parted itself -/
theorem runs_split {r a : Nat} {l : List Bool} {x : Run} (h : x ∈ runsGo r a 0 l) :
    a ≤ x.first ∧ x.first + x.many ≤ a + l.length ∧ x.row = r ∧ 0 < x.many ∧ (∀ j, j < x.many → l[x.first - a + j]? = some true) ∧
    ∃ L1 L2, runsGo r a 0 l = L1 ++ x :: L2 ∧ (∀ y ∈ L1, y.first + y.many < x.first) ∧ (∀ y ∈ L2, x.first + x.many < y.first) ∧
      ∀ k n, 0 < n → k + n ≤ x.many → runsGo r a 0 (off l (x.first - a + k) n) = L1 ++ (cl r x.first k ++ cl r (x.first + k + n) (x.many - k - n)) ++ L2 := by
  obtain ⟨l1, l2, rfl, h1, h2, hr, hf, hm⟩ := runs_mem h
  have hx : x = ⟨r, a + l1.length, x.many⟩ := by rw [← hr, ← hf]
  refine ⟨by omega, by simp; omega, hr, hm, fun j hj => ?_, runsGo r a 0 l1, runsGo r (a + l1.length + x.many) 0 l2, ?_, ?_, ?_, ?_⟩
  · rw [List.append_assoc, List.getElem?_append_right (by omega), List.getElem?_append_left (by simp; omega), List.getElem?_replicate, if_pos (by omega)]
  · rw [List.append_assoc, runsGo_break h1, runsGo_trues, Nat.zero_add, runsGo_shut h2, cl_pos hm, ← hx]; rfl
  · intro y hy
    obtain ⟨m1, m2, e, s1, s2, _, hyf, _⟩ := runs_mem hy
    rw [hyf, hf]
    rcases h1 with rfl | ⟨t, rfl⟩
    · have := congrArg List.length e; simp at this; omega
    · rcases s2 with rfl | ⟨u, rfl⟩
      · exfalso
        rw [List.append_nil] at e
        have h3 := congrArg (fun z => z.getLast?) e
        have hp : 0 < y.many := by omega
        obtain ⟨n, hn⟩ : ∃ n, y.many = n + 1 := ⟨y.many - 1, by omega⟩
        rw [hn, List.replicate_succ', ← List.append_assoc] at h3
        simp at h3
      · have := congrArg List.length e; simp at this; simp; omega
  · intro y hy
    obtain ⟨m1, m2, e, s1, s2, _, hyf, hyp⟩ := runs_mem hy
    rw [hyf, hf]
    rcases h2 with rfl | ⟨t, rfl⟩
    · have := congrArg List.length e; simp at this; omega
    · rcases s1 with rfl | ⟨u, rfl⟩
      · exfalso
        obtain ⟨n, hn⟩ : ∃ n, y.many = n + 1 := ⟨y.many - 1, by omega⟩
        rw [hn, List.replicate_succ] at e
        simp at e
      · simp
  · intro k n hn hk
    have e : off (l1 ++ List.replicate x.many true ++ l2) (x.first - a + k) n = l1 ++ (List.replicate k true ++ (List.replicate n false ++ (List.replicate (x.many - k - n) true ++ l2))) := by
      rw [hf, show a + l1.length - a + k = l1.length + k by omega]
      unfold off
      have e1 : (l1 ++ List.replicate x.many true ++ l2).take (l1.length + k) = l1 ++ List.replicate k true := by
        rw [List.append_assoc, List.take_append, List.take_of_length_le (by omega), show l1.length + k - l1.length = k by omega, List.take_append, List.take_replicate, Nat.min_eq_left (by omega)]
        rw [List.length_replicate, show k - x.many = 0 by omega]; simp
      have e2 : (l1 ++ List.replicate x.many true ++ l2).drop (l1.length + k + n) = List.replicate (x.many - k - n) true ++ l2 := by
        rw [List.append_assoc, List.drop_append, List.drop_of_length_le (by omega), show l1.length + k + n - l1.length = k + n by omega, List.drop_append, List.drop_replicate, List.length_replicate,
          show k + n - x.many = 0 by omega, show x.many - (k + n) = x.many - k - n by omega]; simp
      rw [e1, e2]; simp
    rw [e, runsGo_break h1, runsGo_trues, Nat.zero_add, runsGo_falses' _ _ _ _ _ hn, runsGo_trues, Nat.zero_add, runsGo_shut h2, hf,
      show a + l1.length + k + n + (x.many - k - n) = a + l1.length + x.many by omega]
    simp
/-- the runs in the rows of a section -/
def secRuns (f : List Bool) : Nat → Nat → List Nat → List Run
  | _, _, [] => []
  | r, a, n :: ns => runsGo r a 0 ((f.drop a).take n) ++ secRuns f (r + 1) (a + n) ns
theorem secRuns_far {f : List Bool} {i n : Nat} (hf : i + n ≤ f.length) : ∀ (ns : List Nat) (r b : Nat), i + n ≤ b → secRuns (off f i n) r b ns = secRuns f r b ns
  | [], _, _, _ => rfl
  | m :: ns, r, b, h => by
    unfold secRuns
    rw [off_drop h hf, secRuns_far hf ns (r + 1) (b + m) (by omega)]
/-- how two runs lie, the first one before the other -/
def Bef (x y : Run) : Prop := x.first + x.many ≤ y.first ∧ (x.row = y.row → x.first + x.many < y.first)
theorem secRuns_low {f : List Bool} : ∀ (ns : List Nat) (r b : Nat), ∀ y ∈ secRuns f r b ns, b ≤ y.first ∧ r ≤ y.row ∧ y.row < r + ns.length ∧ 0 < y.many
  | [], _, _, y, hy => by cases hy
  | m :: ns, r, b, y, hy => by
    unfold secRuns at hy
    rcases List.mem_append.1 hy with hy | hy
    · obtain ⟨h1, _, h3, h4, _⟩ := runs_split hy
      exact ⟨h1, by omega, by simp; omega, h4⟩
    · obtain ⟨h1, h2, h3, h4⟩ := secRuns_low ns (r + 1) (b + m) y hy
      exact ⟨by omega, by omega, by simp; omega, h4⟩
/-- a run of a section: what becomes of the others if seats of it are taken -/
theorem sec_split {f : List Bool} : ∀ (ns : List Nat) (r a : Nat) {x : Run}, a + ns.sum ≤ f.length → x ∈ secRuns f r a ns →
    a ≤ x.first ∧ x.first + x.many ≤ a + ns.sum ∧ 0 < x.many ∧ (∀ j, j < x.many → f[x.first + j]? = some true) ∧
    ∃ L1 L2, secRuns f r a ns = L1 ++ x :: L2 ∧ (∀ y ∈ L1, Bef y x) ∧ (∀ y ∈ L2, Bef x y) ∧
      ∀ k n, 0 < n → k + n ≤ x.many → secRuns (off f (x.first + k) n) r a ns = L1 ++ (cl x.row x.first k ++ cl x.row (x.first + k + n) (x.many - k - n)) ++ L2
  | [], _, _, x, _, hx => by cases hx
  | m :: ns, r, a, x, hl, hx => by
    have hs : (m :: ns).sum = m + ns.sum := by simp
    have hin := hx
    unfold secRuns at hx
    rcases List.mem_append.1 hx with hx | hx
    · obtain ⟨h1, h2, h3, h4, h5, L1, L2, e, b1, b2, hk⟩ := runs_split hx
      have hlen : ((f.drop a).take m).length = m := by simp; omega
      rw [hlen] at h2
      refine ⟨h1, by omega, h4, fun j hj => ?_, L1, L2 ++ secRuns f (r + 1) (a + m) ns, ?_, ?_, ?_, ?_⟩
      · have := h5 j hj
        rw [List.getElem?_take, if_pos (by omega), List.getElem?_drop, show a + (x.first - a + j) = x.first + j by omega] at this
        exact this
      · rw [secRuns, e]; simp
      · intro y hy
        have := b1 y hy
        exact ⟨by omega, fun _ => this⟩
      · intro y hy
        rcases List.mem_append.1 hy with hy | hy
        · have := b2 y hy
          exact ⟨by omega, fun _ => this⟩
        · have := secRuns_low ns (r + 1) (a + m) y hy
          exact ⟨by omega, fun h => by omega⟩
      · intro k n hn hkn
        rw [secRuns, secRuns_far (by omega) ns (r + 1) (a + m) (by omega), off_in (by omega) (by omega) (by omega), show x.first + k - a = x.first - a + k by omega, hk k n hn hkn, h3]
        simp
    · obtain ⟨h1, h2, h4, h5, L1, L2, e, b1, b2, hk⟩ := sec_split ns (r + 1) (a + m) (by omega) hx
      have hlow := secRuns_low ns (r + 1) (a + m) x hx
      refine ⟨by omega, by omega, h4, h5, runsGo r a 0 ((f.drop a).take m) ++ L1, L2, ?_, ?_, b2, ?_⟩
      · rw [secRuns, e]; simp
      · intro y hy
        rcases List.mem_append.1 hy with hy | hy
        · obtain ⟨g1, g2, g3, _⟩ := runs_split hy
          have hlen : ((f.drop a).take m).length = m := by simp; omega
          rw [hlen] at g2
          exact ⟨by omega, fun h => by omega⟩
        · exact b1 y hy
      · intro k n hn hkn
        rw [secRuns, hk k n hn hkn, off_seg (by omega) (by omega)]
        simp
/-- free seats side by side in one row lie in one run -/
theorem sec_find {f : List Bool} (n : Nat) (hn : 0 < n) (i : Nat) (hfree : ∀ j, j < n → f[i + j]? = some true) : ∀ (ns : List Nat) (r a : Nat) (q : Nat) (m : Nat), ns[q]? = some m → a + (ns.take q).sum ≤ i → i + n ≤ a + (ns.take q).sum + m →
    ∃ x ∈ secRuns f r a ns, x.row = r + q ∧ x.first ≤ i ∧ i + n ≤ x.first + x.many
  | [], _, _, q, m, hq, _, _ => by simp at hq
  | m' :: ns, r, a, 0, m, hq, h1, h2 => by
    simp only [List.getElem?_cons_zero, Option.some.injEq] at hq
    subst hq
    simp only [List.take_zero, List.sum_nil, Nat.add_zero] at h1 h2
    obtain ⟨x, hx, h3, h4⟩ := runs_find r n hn ((f.drop a).take m') a 0 (i - a) (fun j hj => by
      rw [List.getElem?_take, if_pos (by omega), List.getElem?_drop, show a + (i - a + j) = i + j by omega]
      exact hfree j hj)
    obtain ⟨_, _, h5, _⟩ := runs_split hx
    exact ⟨x, List.mem_append_left _ hx, by omega, by omega, by omega⟩
  | m' :: ns, r, a, q + 1, m, hq, h1, h2 => by
    rw [List.getElem?_cons_succ] at hq
    simp only [List.take_succ_cons, List.sum_cons] at h1 h2
    obtain ⟨x, hx, h3, h4, h5⟩ := sec_find n hn i hfree ns (r + 1) (a + m') q m hq (by omega) (by omega)
    exact ⟨x, List.mem_append_right _ hx, by omega, h4, h5⟩
/-- in which row a run lies -/
theorem sec_row {f : List Bool} : ∀ (ns : List Nat) (r a : Nat) {x : Run}, a + ns.sum ≤ f.length → x ∈ secRuns f r a ns →
    ∃ q m, ns[q]? = some m ∧ x.row = r + q ∧ a + (ns.take q).sum ≤ x.first ∧ x.first + x.many ≤ a + (ns.take q).sum + m
  | [], _, _, x, _, hx => by cases hx
  | m :: ns, r, a, x, hl, hx => by
    have hs : (m :: ns).sum = m + ns.sum := by simp
    unfold secRuns at hx
    rcases List.mem_append.1 hx with hx | hx
    · obtain ⟨h1, h2, h3, _⟩ := runs_split hx
      have hlen : ((f.drop a).take m).length = m := by simp; omega
      rw [hlen] at h2
      exact ⟨0, m, rfl, by omega, by simpa using h1, by simpa using h2⟩
    · obtain ⟨q, m', h1, h2, h3, h4⟩ := sec_row ns (r + 1) (a + m) (by omega) hx
      exact ⟨q + 1, m', h1, by omega, by simp; omega, by simp; omega⟩
end Go.Ad
namespace Go.Ad
set_option linter.unusedVariables false
structure Sc where
  name : ByteArray
  rows : List Int
  queue : Int
structure Vn where
  sh : Int
  ttl : Int
  ses : Int
  secs : List Sc
def lowB (b : UInt8) : Bool := decide (97 ≤ b.toNat) && decide (b.toNat ≤ 122)
def inset (b : UInt8) : Bool := lowB b || (decide (48 ≤ b.toNat) && decide (b.toNat ≤ 57)) || b.toNat == 45
def nameL (l : List UInt8) : Bool := decide (1 ≤ l.length) && decide (l.length ≤ 16) && (match l with | [] => false | b :: _ => lowB b) && l.all inset
def nameOk (s : ByteArray) : Bool := nameL s.data.toList
/-- outside a range -/
def outB (n lo hi : Int) : Bool := decide (n < lo) || decide (hi < n)
/-- the error of a section -/
def secE (bef : List Sc) (s : Sc) : Int :=
  if nameOk s.name = false then 6
  else if bef.any (fun x => decide (x.name = s.name)) = true then 8
  else if s.rows.length = 0 then 6
  else if 16 < s.rows.length then 3
  else if s.rows.any (fun n => outB n 1 64) = true then 7
  else if outB s.queue 0 64 = true then 7
  else 0
def secsGo (bef : List Sc) : List Sc → Option (Nat × Int)
  | [] => none
  | s :: r => if secE bef s ≠ 0 then some (bef.length, secE bef s) else secsGo (bef ++ [s]) r
def Sc.rowsN (s : Sc) : List Nat := s.rows.map Int.toNat
def Sc.sum (s : Sc) : Nat := s.rowsN.sum
def sumS (l : List Sc) : Nat := (l.map Sc.sum).sum
def headE (v : Vn) : Bool := outB v.sh 1 16 || outB v.ttl 1 1000000000 || outB v.ses 1 1000000000
/-- what is wrong with a venue -/
def chk (v : Vn) : Int × Int :=
  if headE v = true then (-1, 7)
  else if v.secs.length = 0 then (-1, 6)
  else if 8 < v.secs.length then (-1, 3)
  else match secsGo [] v.secs with
    | some (i, e) => ((i : Int), e)
    | none => if 4096 < sumS v.secs then (-1, 3) else (0, 0)
/-- a section without errors -/
structure ScOk (s : Sc) : Prop where
  pos : 0 < s.rows.length
  few : s.rows.length ≤ 16
  row : ∀ n ∈ s.rows, 1 ≤ n ∧ n ≤ 64
  que : 0 ≤ s.queue ∧ s.queue ≤ 64
theorem outB_false {n lo hi : Int} (h : outB n lo hi = false) : lo ≤ n ∧ n ≤ hi := by
  simp only [outB, Bool.or_eq_false_iff, decide_eq_false_iff_not] at h
  omega
theorem outB_of {n lo hi : Int} (h1 : lo ≤ n) (h2 : n ≤ hi) : outB n lo hi = false := by
  simp only [outB, Bool.or_eq_false_iff, decide_eq_false_iff_not]; omega
theorem secE_zero {bef : List Sc} {s : Sc} (h : secE bef s = 0) : ScOk s := by
  unfold secE at h
  split at h
  · cases h
  · split at h
    · cases h
    · split at h
      · cases h
      · split at h
        · cases h
        · split at h
          · cases h
          · split at h
            · cases h
            · rename_i h1 h2 h3 h4 h5 h6
              refine ⟨by omega, by omega, fun n hn => ?_, outB_false (by simpa using h6)⟩
              have h7 : outB n 1 64 = false := by
                cases hb : outB n 1 64
                · rfl
                · exact absurd (List.any_eq_true.2 ⟨n, hn, hb⟩) h5
              exact outB_false h7
theorem secsGo_none : ∀ (l bef : List Sc), secsGo bef l = none → ∀ s ∈ l, ScOk s
  | [], _, _, s, hs => by cases hs
  | x :: l, bef, h, s, hs => by
    unfold secsGo at h
    split at h
    · cases h
    · rename_i h1
      rcases List.mem_cons.1 hs with rfl | hs
      · exact secE_zero (by simpa using h1)
      · exact secsGo_none l _ h s hs
theorem secsGo_pos : ∀ (l bef : List Sc) {i : Nat} {e : Int}, secsGo bef l = some (i, e) → e ≠ 0
  | [], _, i, e, h => by cases h
  | x :: l, bef, i, e, h => by
    unfold secsGo at h
    split at h
    · rename_i h1
      cases h
      exact h1
    · exact secsGo_pos l _ h
structure VnOk (v : Vn) : Prop where
  sh : 1 ≤ v.sh ∧ v.sh ≤ 16
  ttl : 1 ≤ v.ttl ∧ v.ttl ≤ 1000000000
  ses : 1 ≤ v.ses ∧ v.ses ≤ 1000000000
  pos : 0 < v.secs.length
  few : v.secs.length ≤ 8
  sec : ∀ s ∈ v.secs, ScOk s
  sum : sumS v.secs ≤ 4096
theorem chk_zero {v : Vn} (h : (chk v).2 = 0) : VnOk v ∧ chk v = (0, 0) := by
  unfold chk at h ⊢
  split at h
  · cases h
  · rename_i h1
    split at h
    · cases h
    · rename_i h2
      split at h
      · cases h
      · rename_i h3
        rw [if_neg h1, if_neg h2, if_neg h3]
        cases hg : secsGo [] v.secs with
        | some p =>
          obtain ⟨i, e⟩ := p
          rw [hg] at h
          exact absurd h (secsGo_pos _ _ hg)
        | none =>
          rw [hg] at h
          simp only at h ⊢
          split at h
          · cases h
          · rename_i h4
            rw [if_neg h4]
            have h5 : headE v = false := by simpa using h1
            simp only [headE, Bool.or_eq_false_iff] at h5
            exact ⟨⟨outB_false h5.1.1, outB_false h5.1.2, outB_false h5.2, by omega, by omega, secsGo_none _ _ hg, by omega⟩, rfl⟩
/-- a row of a venue -/
structure RowI where
  sec : Nat
  row : Nat
  first : Nat
  many : Nat
def rlSec (i : Nat) : Nat → Nat → List Nat → List RowI
  | _, _, [] => []
  | k, a, n :: ns => ⟨i, k, a, n⟩ :: rlSec i (k + 1) (a + n) ns
def rl : Nat → Nat → List Sc → List RowI
  | _, _, [] => []
  | i, a, s :: ss => rlSec i 0 a s.rowsN ++ rl (i + 1) (a + s.sum) ss
def sumR (l : List RowI) : Nat := (l.map RowI.many).sum
theorem sumR_append (l m : List RowI) : sumR (l ++ m) = sumR l + sumR m := by simp [sumR]
theorem sumR_sec (i : Nat) : ∀ (ns : List Nat) (k a : Nat), sumR (rlSec i k a ns) = ns.sum
  | [], _, _ => rfl
  | n :: ns, k, a => by
    have := sumR_sec i ns (k + 1) (a + n)
    unfold sumR at this ⊢
    simp [rlSec, this]
theorem sumR_rl : ∀ (ss : List Sc) (i a : Nat), sumR (rl i a ss) = sumS ss
  | [], _, _ => rfl
  | s :: ss, i, a => by
    rw [rl, sumR_append, sumR_sec, sumR_rl ss]; simp [sumS, Sc.sum]
/-- how the seats of some rows are found -/
def gOf (p : Nat → Nat → Bool) (st : Nat × Nat) (R : RowI) : Nat × Nat := if p R.sec R.row then (if st.2 = 0 then R.first else st.1, st.2 + R.many) else st
theorem gOf_skip {p : Nat → Nat → Bool} : ∀ (l : List RowI) (st : Nat × Nat), (∀ R ∈ l, p R.sec R.row = false) → l.foldl (gOf p) st = st
  | [], _, _ => rfl
  | R :: l, st, h => by
    rw [List.foldl_cons, gOf, if_neg (by rw [h R (by simp)]; simp)]
    exact gOf_skip l st fun R hR => h R (by simp [hR])
theorem rlSec_mem {i : Nat} : ∀ {ns : List Nat} {k a : Nat} {R : RowI}, R ∈ rlSec i k a ns → R.sec = i ∧ k ≤ R.row ∧ R.row < k + ns.length ∧ a ≤ R.first
  | [], _, _, _, h => by cases h
  | n :: ns, k, a, R, h => by
    rcases List.mem_cons.1 h with rfl | h
    · exact ⟨rfl, Nat.le_refl _, by simp, Nat.le_refl _⟩
    · obtain ⟨h1, h2, h3, h4⟩ := rlSec_mem h
      exact ⟨h1, by omega, by simp; omega, by omega⟩
theorem rl_mem : ∀ {ss : List Sc} {i a : Nat} {R : RowI}, R ∈ rl i a ss → i ≤ R.sec ∧ R.sec < i + ss.length
  | [], _, _, _, h => by cases h
  | s :: ss, i, a, R, h => by
    rw [rl] at h
    rcases List.mem_append.1 h with h | h
    · obtain ⟨h1, _⟩ := rlSec_mem h
      exact ⟨by omega, by simp; omega⟩
    · obtain ⟨h1, h2⟩ := rl_mem h
      exact ⟨by omega, by simp; omega⟩
theorem gOf_sec {p : Nat → Nat → Bool} {i : Nat} (hp : ∀ k, p i k = true) : ∀ (ns : List Nat) (k a : Nat) (st : Nat × Nat), 0 < st.2 → (rlSec i k a ns).foldl (gOf p) st = (st.1, st.2 + ns.sum)
  | [], _, _, st, _ => by simp [rlSec]
  | n :: ns, k, a, st, h => by
    rw [rlSec, List.foldl_cons, gOf, if_pos (hp _), if_neg (by omega), gOf_sec hp ns _ _ _ (by show 0 < st.2 + n; omega)]
    simp; omega
theorem gOf_row {p : Nat → Nat → Bool} {i : Nat} (q : Nat) (hp : ∀ k, p i k = decide (k = q)) : ∀ (ns : List Nat) (k a j n : Nat), ns[j]? = some n → k + j = q → (rlSec i k a ns).foldl (gOf p) (0, 0) = (a + (ns.take j).sum, n)
  | [], _, _, j, n, h, _ => by simp at h
  | m :: ns, k, a, 0, n, h, hk => by
    simp only [List.getElem?_cons_zero, Option.some.injEq] at h
    subst h
    rw [rlSec, List.foldl_cons, gOf, if_pos (by rw [hp]; simp; omega), if_pos rfl, gOf_skip]
    · simp
    · intro R hR
      obtain ⟨h1, h2, _⟩ := rlSec_mem hR
      rw [h1, hp, decide_eq_false_iff_not]; omega
  | m :: ns, k, a, j + 1, n, h, hk => by
    rw [List.getElem?_cons_succ] at h
    rw [rlSec, List.foldl_cons, gOf, if_neg (by rw [hp]; simp; omega), gOf_row q hp ns (k + 1) (a + m) j n h (by omega)]
    simp; omega
/-- the first seat of a section -/
def fst0 (ss : List Sc) (j : Nat) : Nat := sumS (ss.take j)
theorem gOf_rl {p : Nat → Nat → Bool} {s0 : Nat} (hne : ∀ i k, i ≠ s0 → p i k = false) (st : Nat × Nat) : ∀ (ss : List Sc) (i a j : Nat) (s : Sc), ss[j]? = some s → i + j = s0 →
    (rl i a ss).foldl (gOf p) st = (rlSec s0 0 (a + fst0 ss j) s.rowsN).foldl (gOf p) st
  | [], _, _, j, s, h, _ => by simp at h
  | x :: ss, i, a, 0, s, h, hi => by
    simp only [List.getElem?_cons_zero, Option.some.injEq] at h
    subst h
    obtain rfl : i = s0 := by omega
    rw [rl, List.foldl_append, gOf_skip]
    · simp [fst0, sumS]
    · intro R hR
      have := rl_mem hR
      exact hne _ _ (by omega)
  | x :: ss, i, a, j + 1, s, h, hi => by
    rw [List.getElem?_cons_succ] at h
    rw [rl, List.foldl_append, gOf_skip (rlSec _ _ _ _), gOf_rl hne st ss (i + 1) (a + x.sum) j s h (by omega)]
    · simp [fst0, sumS, Nat.add_assoc]
    · intro R hR
      have := (rlSec_mem hR).1
      exact hne _ _ (by omega)
/-- the seats of a section -/
theorem of_sec {ss : List Sc} {j : Nat} {s : Sc} (h : ss[j]? = some s) (hs : ScOk s) : (rl 0 0 ss).foldl (gOf fun i _ => decide (i = j)) (0, 0) = (fst0 ss j, s.sum) := by
  rw [gOf_rl (s0 := j) (fun i k hi => by simpa using hi) (0, 0) ss 0 0 j s h (by omega), Nat.zero_add]
  obtain ⟨n, ns, hr⟩ : ∃ n ns, s.rows = n :: ns := by
    cases hr : s.rows with
    | nil => have := hs.pos; rw [hr] at this; simp at this
    | cons n ns => exact ⟨n, ns, rfl⟩
  have hn := hs.row n (by rw [hr]; simp)
  have e : s.rowsN = n.toNat :: ns.map Int.toNat := by rw [Sc.rowsN, hr]; rfl
  rw [Sc.sum, e, rlSec, List.foldl_cons, gOf, if_pos (by simp), if_pos rfl, gOf_sec (by simp) _ _ _ _ (by show 0 < 0 + n.toNat; omega)]
  simp
/-- the seats of a row -/
theorem of_row {ss : List Sc} {j q : Nat} {s : Sc} {n : Nat} (h : ss[j]? = some s) (hn : s.rowsN[q]? = some n) : (rl 0 0 ss).foldl (gOf fun i k => decide (i = j) && decide (k = q)) (0, 0) = (fst0 ss j + (s.rowsN.take q).sum, n) := by
  rw [gOf_rl (s0 := j) (fun i k hi => by simp [hi]) (0, 0) ss 0 0 j s h (by omega), Nat.zero_add]
  exact gOf_row q (fun k => by simp) _ _ _ q n hn (by omega)
theorem of_none {p : Nat → Nat → Bool} {ss : List Sc} (h : ∀ R ∈ rl 0 0 ss, p R.sec R.row = false) : (rl 0 0 ss).foldl (gOf p) (0, 0) = (0, 0) := gOf_skip _ _ h
/-- rows one behind the other -/
def Chain : Nat → List RowI → Prop
  | _, [] => True
  | a, R :: l => R.first = a ∧ Chain (a + R.many) l
theorem chain_append : ∀ {l m : List RowI} {a : Nat}, Chain a l → Chain (a + sumR l) m → Chain a (l ++ m)
  | [], m, a, _, h => by simpa [sumR] using h
  | R :: l, m, a, ⟨h1, h2⟩, h => by
    refine ⟨h1, chain_append h2 ?_⟩
    rwa [show a + sumR (R :: l) = a + R.many + sumR l by simp [sumR]; omega] at h
theorem chain_sec (i : Nat) : ∀ (ns : List Nat) (k a : Nat), Chain a (rlSec i k a ns)
  | [], _, _ => trivial
  | n :: ns, k, a => ⟨rfl, chain_sec i ns (k + 1) (a + n)⟩
theorem chain_rl : ∀ (ss : List Sc) (i a : Nat), Chain a (rl i a ss)
  | [], _, _ => trivial
  | s :: ss, i, a => chain_append (chain_sec i _ 0 a) (by rw [sumR_sec]; exact chain_rl ss (i + 1) (a + s.sum))
/-- where a seat is -/
structure Pl where
  sec : Nat
  row : Nat
  seat : Nat
deriving DecidableEq, Inhabited
def plR (R : RowI) : List Pl := (List.range R.many).map fun n => ⟨R.sec, R.row, n⟩
def plL (l : List RowI) : List Pl := l.flatMap plR
theorem plR_len (R : RowI) : (plR R).length = R.many := by simp [plR]
theorem plL_len : ∀ l : List RowI, (plL l).length = sumR l
  | [] => rfl
  | R :: l => by
    have := plL_len l
    unfold plL sumR at this ⊢
    simp [plR_len, this]
theorem plL_cons (R : RowI) (l : List RowI) : plL (R :: l) = plR R ++ plL l := by simp [plL]
theorem plL_get : ∀ {l : List RowI} {a : Nat}, Chain a l → ∀ {t : Nat} {x : Pl}, (plL l)[t]? = some x → ∃ R ∈ l, R.first ≤ a + t ∧ a + t < R.first + R.many ∧ x = ⟨R.sec, R.row, a + t - R.first⟩
  | [], a, _, t, x, h => by simp [plL] at h
  | R :: l, a, ⟨h1, h2⟩, t, x, h => by
    rw [plL_cons] at h
    by_cases ht : t < R.many
    · rw [List.getElem?_append_left (by rw [plR_len]; exact ht)] at h
      simp only [plR, List.getElem?_map, List.getElem?_range ht, Option.map_some, Option.some.injEq] at h
      exact ⟨R, by simp, by omega, by omega, by rw [← h, h1, Nat.add_sub_cancel_left]⟩
    · rw [List.getElem?_append_right (by rw [plR_len]; omega), plR_len] at h
      obtain ⟨R', h3, h4, h5, h6⟩ := plL_get h2 h
      refine ⟨R', by simp [h3], by omega, by omega, ?_⟩
      rw [h6]; congr 1; omega
theorem plL_at : ∀ {l : List RowI} {a : Nat}, Chain a l → ∀ {R : RowI}, R ∈ l → ∀ {n : Nat}, n < R.many → a ≤ R.first + n ∧ (plL l)[R.first + n - a]? = some ⟨R.sec, R.row, n⟩
  | [], _, _, _, h, _, _ => by cases h
  | R :: l, a, ⟨h1, h2⟩, R', h, n, hn => by
    rw [plL_cons]
    rcases List.mem_cons.1 h with rfl | h
    · refine ⟨by omega, ?_⟩
      rw [List.getElem?_append_left (by rw [plR_len]; omega), show R'.first + n - a = n by omega]
      simp only [plR, List.getElem?_map, List.getElem?_range hn, Option.map_some]
    · obtain ⟨h3, h4⟩ := plL_at h2 h hn
      refine ⟨by omega, ?_⟩
      rw [List.getElem?_append_right (by rw [plR_len]; omega), plR_len, show R'.first + n - a - R.many = R'.first + n - (a + R.many) by omega]
      exact h4
def places (v : Vn) : List Pl := plL (rl 0 0 v.secs)
theorem places_len (v : Vn) : (places v).length = sumS v.secs := by rw [places, plL_len, sumR_rl]
theorem rlSec_get {i : Nat} : ∀ {ns : List Nat} {k a q n : Nat}, ns[q]? = some n → (⟨i, k + q, a + (ns.take q).sum, n⟩ : RowI) ∈ rlSec i k a ns
  | [], _, _, _, _, h => by simp at h
  | m :: ns, k, a, 0, n, h => by
    simp only [List.getElem?_cons_zero, Option.some.injEq] at h
    subst h
    simp [rlSec]
  | m :: ns, k, a, q + 1, n, h => by
    rw [List.getElem?_cons_succ] at h
    have := rlSec_get (i := i) (k := k + 1) (a := a + m) h
    rw [rlSec, List.mem_cons]
    right
    rwa [show k + 1 + q = k + (q + 1) by omega, show a + m + (ns.take q).sum = a + ((m :: ns).take (q + 1)).sum by simp; omega] at this
theorem rl_get : ∀ {ss : List Sc} {i a j : Nat} {s : Sc}, ss[j]? = some s → ∀ R ∈ rlSec (i + j) 0 (a + fst0 ss j) s.rowsN, R ∈ rl i a ss
  | [], _, _, _, _, h, _, _ => by simp at h
  | x :: ss, i, a, 0, s, h, R, hR => by
    simp only [List.getElem?_cons_zero, Option.some.injEq] at h
    subst h
    rw [rl]
    exact List.mem_append_left _ (by simpa [fst0, sumS] using hR)
  | x :: ss, i, a, j + 1, s, h, R, hR => by
    rw [List.getElem?_cons_succ] at h
    rw [rl]
    refine List.mem_append_right _ (rl_get h R ?_)
    rwa [show i + 1 + j = i + (j + 1) by omega, show a + x.sum + fst0 ss j = a + fst0 (x :: ss) (j + 1) by simp [fst0, sumS]; omega]
theorem rlSec_inv {i : Nat} : ∀ {ns : List Nat} {k a : Nat} {R : RowI}, R ∈ rlSec i k a ns → ∃ q n, ns[q]? = some n ∧ R = ⟨i, k + q, a + (ns.take q).sum, n⟩
  | [], _, _, _, h => by cases h
  | m :: ns, k, a, R, h => by
    rcases List.mem_cons.1 h with rfl | h
    · exact ⟨0, m, rfl, by simp⟩
    · obtain ⟨q, n, h1, rfl⟩ := rlSec_inv h
      exact ⟨q + 1, n, by simpa using h1, by simp; omega⟩
theorem rl_inv : ∀ {ss : List Sc} {i a : Nat} {R : RowI}, R ∈ rl i a ss → ∃ j s, ss[j]? = some s ∧ R ∈ rlSec (i + j) 0 (a + fst0 ss j) s.rowsN
  | [], _, _, _, h => by cases h
  | x :: ss, i, a, R, h => by
    rw [rl] at h
    rcases List.mem_append.1 h with h | h
    · exact ⟨0, x, rfl, by simpa [fst0, sumS] using h⟩
    · obtain ⟨j, s, h1, h2⟩ := rl_inv h
      refine ⟨j + 1, s, by simpa using h1, ?_⟩
      rwa [show i + 1 + j = i + (j + 1) by omega, show a + x.sum + fst0 ss j = a + fst0 (x :: ss) (j + 1) by simp [fst0, sumS]; omega] at h2
/-- the place of a seat of a row -/
theorem place_at {v : Vn} {j q n t : Nat} {s : Sc} (h : v.secs[j]? = some s) (hn : s.rowsN[q]? = some n) (ht : t < n) : (places v)[fst0 v.secs j + (s.rowsN.take q).sum + t]? = some ⟨j, q, t⟩ := by
  have h1 := rlSec_get (i := 0 + j) (k := 0) (a := 0 + fst0 v.secs j) hn
  have h2 := rl_get (i := 0) (a := 0) h _ h1
  have := (plL_at (chain_rl v.secs 0 0) h2 ht).2
  unfold places
  simpa using this
theorem place_inv {v : Vn} {i : Nat} {x : Pl} (h : (places v)[i]? = some x) : ∃ s n, v.secs[x.sec]? = some s ∧ s.rowsN[x.row]? = some n ∧ x.seat < n ∧ i = fst0 v.secs x.sec + (s.rowsN.take x.row).sum + x.seat := by
  obtain ⟨R, hR, h1, h2, rfl⟩ := plL_get (chain_rl v.secs 0 0) h
  obtain ⟨j, s, h3, h4⟩ := rl_inv hR
  obtain ⟨q, n, h5, rfl⟩ := rlSec_inv h4
  simp only [Nat.zero_add] at *
  exact ⟨s, n, h3, h5, by show i - _ < n; omega, by show i = _ + (i - _); omega⟩
end Go.Ad
namespace Go.Proofs.YtdmaephmkfmehaaGreatDoor
open Go.RowKit Go.Gr Go.Ad
set_option linter.unusedVariables false
set_option linter.unusedSimpArgs false
def low37 : List UInt8 := [97, 98, 99, 100, 101, 102, 103, 104, 105, 106, 107, 108, 109, 110, 111, 112, 113, 114, 115, 116, 117, 118, 119, 120, 121, 122, 48, 49, 50, 51, 52, 53, 54, 55, 56, 57, 45]
theorem in37 (b : UInt8) : low37.contains b = inset b := by
  have : ∀ n : Nat, n < 256 → low37.contains (UInt8.ofNat n) = inset (UInt8.ofNat n) := by decide +kernel
  have h := this b.toNat b.toNat_lt
  rwa [UInt8.ofNat_toNat] at h
theorem dw_nil {p : UInt8 → Bool} : ∀ (l : List UInt8), l.dropWhile p = [] ↔ l.all p = true
  | [] => by simp
  | b :: l => by
    by_cases h : p b = true
    · rw [List.dropWhile_cons, if_pos h, dw_nil l]; simp [h]
    · rw [List.dropWhile_cons, if_neg h]; simp [h]
theorem trim_nil (l : List UInt8) : (Lib.trimS l low37).isEmpty = l.all inset := by
  have key : Lib.trimS l low37 = [] ↔ l.all inset = true := by
    have hf : (fun b => low37.contains b) = inset := funext in37
    unfold Lib.trimS Lib.trimLeftS Lib.trimRightS
    rw [hf, dw_nil]
    have : ∀ (m : List UInt8), ((m.dropWhile inset).all inset = true ↔ m.all inset = true) := by
      intro m
      induction m with
      | nil => simp
      | cons b m ih =>
        by_cases h : inset b = true
        · rw [List.dropWhile_cons, if_pos h, ih]; simp [h]
        · rw [List.dropWhile_cons, if_neg h]
    rw [List.all_reverse, this, List.all_reverse]
  cases h : l.all inset
  · have : Lib.trimS l low37 ≠ [] := fun e => by rw [key.1 e] at h; cases h
    simpa using this
  · have := key.2 h
    rw [this]; rfl
set_option maxRecDepth 100000 in
theorem trim_any (s : ByteArray) (w : World) (hs : s.size ≤ maxLen) : Calls Tryz.prog 117 #[.string s, .string ⟨#[97, 98, 99, 100, 101, 102, 103, 104, 105, 106, 107, 108, 109, 110, 111, 112, 113, 114, 115, 116, 117, 118, 119, 120, 121, 122, 48, 49, 50, 51, 52, 53, 54, 55, 56, 57, 45]⟩] w fun e w' => e = .returned (.string ⟨(Lib.trimS s.data.toList low37).toArray⟩) ∧ Ext w w' :=
  Any.strings_Trim_laid Tryz.lays160 (by kernel_rfl) s ⟨low37.toArray⟩ w hs (by decide) (ascii_of_all (by decide))
theorem tl_eq (s : ByteArray) : s.toList = s.data.toList := ByteArray.toList_eq s
theorem sz_eq (s : ByteArray) : s.size = s.data.toList.length := rfl
theorem emp_of (s : ByteArray) (h : s.size = 0) : s.toList.isEmpty = true := by
  rw [tl_eq, List.isEmpty_iff]
  exact List.eq_nil_of_length_eq_zero (by rw [← sz_eq]; exact h)
theorem emp_ne (s : ByteArray) (h : s.size ≠ 0) : s.toList.isEmpty = false := by
  rw [tl_eq]
  cases hl : s.data.toList with
  | nil => exact absurd (by rw [sz_eq, hl]; rfl) h
  | cons b l => rfl
theorem get0 (s : ByteArray) (h : 0 < s.size) : ∃ l, s.data.toList = s[0] :: l := by
  cases hl : s.data.toList with
  | nil => rw [sz_eq, hl] at h; simp at h
  | cons b l =>
    refine ⟨l, ?_⟩
    have : s.data.toList[0]? = some b := by rw [hl]; rfl
    have h2 : s.data.toList[0]? = some s[0] := by
      rw [List.getElem?_eq_getElem (by rw [← sz_eq]; exact h)]; rfl
    rw [h2] at this
    cases this
    rfl
set_option maxHeartbeats 2000000 in
theorem name_any (s : ByteArray) (w : World) (hs : s.size ≤ maxLen) : Calls Tryz.prog 97 #[.string s] w fun e w' => e = .returned (.bool (nameOk s)) ∧ Ext w w' := by
  have HT := hide (trim_any s w hs)
  clear hs
  by_cases h0 : s.size = 0
  · have e1 := emp_of s h0
    have HN : Hid (nameOk s = false) := hide (by unfold nameOk nameL; rw [← sz_eq, h0]; rfl)
    go_enter Tryz.func97, Tryz.ntmps97
    clear h0
    go_wp2_with fail
    go_ret
    exact ⟨by rw [HN.out]; rfl, Ext.refl w⟩
  · have e1 := emp_ne s h0
    by_cases h16 : 16 < s.size
    · have e2 : (16 : Int) < (s.size : Int) := by omega
      have HN : Hid (nameOk s = false) := hide (by unfold nameOk nameL; rw [← sz_eq, decide_eq_false (show ¬ s.size ≤ 16 by omega)]; simp)
      clear h0 h16
      go_enter Tryz.func97, Tryz.ntmps97
      go_wp2_with fail
      go_ret
      exact ⟨by rw [HN.out]; rfl, Ext.refl w⟩
    · have e2 : ¬ (16 : Int) < (s.size : Int) := by omega
      have hp : 0 < s.size := by omega
      obtain ⟨l, hl⟩ := get0 s hp
      have HL := hide hl
      obtain ⟨b, hb⟩ : ∃ b, s[0] = b := ⟨_, rfl⟩
      have HB := hide hb
      rw [hb] at hl
      have e3 : (0 : Int) < (s.size : Int) := by omega
      have HN : Hid (nameOk s = (lowB b && s.data.toList.all inset)) := hide (by
        unfold nameOk nameL; rw [← sz_eq, decide_eq_true (show 1 ≤ s.size by omega), decide_eq_true (show s.size ≤ 16 by omega), hl]; simp)
      have HD := hide (trim_nil s.data.toList)
      by_cases hlow : lowB b = true
      · have hc := hlow
        simp only [lowB, Bool.and_eq_true, decide_eq_true_eq] at hc
        have e4 : ¬ (s[0].toNat : Int) < 97 := by rw [hb]; omega
        have e5 : ¬ (122 : Int) < (s[0].toNat : Int) := by rw [hb]; omega
        have HW := hide hlow
        clear h0 h16 hl hb hc hlow HB
        go_enter Tryz.func97, Tryz.ntmps97
        go_wp2_with fail
        (with_reducible refine HT.out.mono ?_)
        rintro e w1 ⟨rfl, hx⟩
        go_wp2_with fail
        go_ret
        refine ⟨?_, hx⟩
        rw [HN.out, HW.out, ← HD.out, Bool.true_and]
        rfl
      · have HN2 : Hid (nameOk s = false) := hide (by rw [HN.out, Bool.eq_false_iff.2 hlow]; rfl)
        by_cases h97 : b.toNat < 97
        · have e4 : (s[0].toNat : Int) < 97 := by rw [hb]; omega
          clear h0 h16 hl hb hlow HB h97 HN HT HL HD
          go_enter Tryz.func97, Tryz.ntmps97
          go_wp2_with fail
          go_ret
          exact ⟨by rw [HN2.out]; rfl, Ext.refl w⟩
        · have e4 : ¬ (s[0].toNat : Int) < 97 := by rw [hb]; omega
          have e5 : (122 : Int) < (s[0].toNat : Int) := by
            rw [hb]
            rcases Nat.lt_or_ge 122 b.toNat with h | h
            · omega
            · exact absurd (by simp only [lowB, Bool.and_eq_true, decide_eq_true_eq]; omega) hlow
          clear h0 h16 hl hb hlow HB h97 HN HT HL HD
          go_enter Tryz.func97, Tryz.ntmps97
          go_wp2_with fail
          go_ret
          exact ⟨by rw [HN2.out]; rfl, Ext.refl w⟩
def digB (b : UInt8) : Bool := decide (48 ≤ b.toNat) && decide (b.toNat ≤ 57)
theorem inset_eq (b : UInt8) : inset b = (lowB b || digB b || decide (b.toNat = 45)) := by
  unfold inset digB
  congr 1
theorem lower_any (b : UInt8) (w : World) : Calls Tryz.prog 121 #[.int .u8 b.toNat] w fun e w' => e = .returned (.bool (lowB b)) ∧ w' = w := by
  by_cases h1 : 97 ≤ b.toNat
  · have e1 : (97 : Int) ≤ (b.toNat : Int) := by omega
    by_cases h2 : b.toNat ≤ 122
    · have e2 : (b.toNat : Int) ≤ 122 := by omega
      have HN : Hid (lowB b = true) := hide (by unfold lowB; rw [decide_eq_true h1, decide_eq_true h2]; rfl)
      clear h1 h2
      go_enter Tryz.func121, Tryz.ntmps121
      go_wp2_with fail
      go_ret
      exact ⟨by rw [HN.out]; rfl, rfl⟩
    · have e2 : ¬ (b.toNat : Int) ≤ 122 := by omega
      have HN : Hid (lowB b = false) := hide (by unfold lowB; rw [decide_eq_false h2, Bool.and_false])
      clear h1 h2
      go_enter Tryz.func121, Tryz.ntmps121
      go_wp2_with fail
      go_ret
      exact ⟨by rw [HN.out]; rfl, rfl⟩
  · have e1 : ¬ (97 : Int) ≤ (b.toNat : Int) := by omega
    have HN : Hid (lowB b = false) := hide (by unfold lowB; rw [decide_eq_false h1, Bool.false_and])
    clear h1
    go_enter Tryz.func121, Tryz.ntmps121
    go_wp2_with fail
    go_ret
    exact ⟨by rw [HN.out]; rfl, rfl⟩
theorem digit_any (b : UInt8) (w : World) : Calls Tryz.prog 122 #[.int .u8 b.toNat] w fun e w' => e = .returned (.bool (digB b)) ∧ w' = w := by
  by_cases h1 : 48 ≤ b.toNat
  · have e1 : (48 : Int) ≤ (b.toNat : Int) := by omega
    by_cases h2 : b.toNat ≤ 57
    · have e2 : (b.toNat : Int) ≤ 57 := by omega
      have HN : Hid (digB b = true) := hide (by unfold digB; rw [decide_eq_true h1, decide_eq_true h2]; rfl)
      clear h1 h2
      go_enter Tryz.func122, Tryz.ntmps122
      go_wp2_with fail
      go_ret
      exact ⟨by rw [HN.out]; rfl, rfl⟩
    · have e2 : ¬ (b.toNat : Int) ≤ 57 := by omega
      have HN : Hid (digB b = false) := hide (by unfold digB; rw [decide_eq_false h2, Bool.and_false])
      clear h1 h2
      go_enter Tryz.func122, Tryz.ntmps122
      go_wp2_with fail
      go_ret
      exact ⟨by rw [HN.out]; rfl, rfl⟩
  · have e1 : ¬ (48 : Int) ≤ (b.toNat : Int) := by omega
    have HN : Hid (digB b = false) := hide (by unfold digB; rw [decide_eq_false h1, Bool.false_and])
    clear h1
    go_enter Tryz.func122, Tryz.ntmps122
    go_wp2_with fail
    go_ret
    exact ⟨by rw [HN.out]; rfl, rfl⟩
theorem all_step {l : List UInt8} {i : Nat} {b : UInt8} (h : l[i]? = some b) : (l.take (i + 1)).all inset = ((l.take i).all inset && inset b) := by
  have hi : i < l.length := by
    rcases Nat.lt_or_ge i l.length with h3 | h3
    · exact h3
    · rw [List.getElem?_eq_none h3] at h; cases h
  rw [List.take_add_one, h]; simp
theorem getI {s : ByteArray} {i : Nat} (h : i < s.size) : s.data.toList[i]? = some s[i] := by
  rw [List.getElem?_eq_getElem (by rw [← sz_eq]; exact h)]; rfl
theorem all_false {l : List UInt8} {i : Nat} {b : UInt8} (h : l[i]? = some b) (hb : inset b = false) : l.all inset = false := by
  rw [List.all_eq_false]
  exact ⟨b, List.mem_of_getElem? h, by rw [hb]; simp⟩
set_option maxHeartbeats 4000000 in
theorem rname_any (s : ByteArray) (w : World) (hs : s.size ≤ maxLen) : Calls Tryz.prog 110 #[.string s] w fun e w' => e = .returned (.bool (nameOk s)) ∧ w' = w := by
  clear hs
  by_cases h0 : s.size = 0
  · have e1 : (s.size : Int) < 1 := by omega
    have HN : Hid (nameOk s = false) := hide (by unfold nameOk nameL; rw [← sz_eq, h0]; rfl)
    go_enter Tryz.func110, Tryz.ntmps110
    clear h0
    go_wp2_with fail
    go_ret
    exact ⟨by rw [HN.out]; rfl, rfl⟩
  · have e1 : ¬ (s.size : Int) < 1 := by omega
    by_cases h16 : 16 < s.size
    · have e2 : (16 : Int) < (s.size : Int) := by omega
      have HN : Hid (nameOk s = false) := hide (by unfold nameOk nameL; rw [← sz_eq, decide_eq_false (show ¬ s.size ≤ 16 by omega)]; simp)
      clear h0 h16
      go_enter Tryz.func110, Tryz.ntmps110
      go_wp2_with fail
      go_ret
      exact ⟨by rw [HN.out]; rfl, rfl⟩
    · have e2 : ¬ (16 : Int) < (s.size : Int) := by omega
      have hp : 0 < s.size := by omega
      obtain ⟨l, hl⟩ := get0 s hp
      have e3 : (0 : Int) < (s.size : Int) := by omega
      have HN : Hid (nameOk s = (lowB s[0] && s.data.toList.all inset)) := hide (by
        unfold nameOk nameL; rw [← sz_eq, decide_eq_true (show 1 ≤ s.size by omega), decide_eq_true (show s.size ≤ 16 by omega), hl]; simp)
      clear h0 h16 hl
      go_enter Tryz.func110, Tryz.ntmps110
      go_wp2_with fail
      (with_reducible refine (lower_any _ _).mono ?_)
      rintro e w1 ⟨rfl, rfl⟩
      cases hlow : lowB s[0]
      · rw [hlow] at HN
        go_wp2_with fail
        go_ret
        exact ⟨by rw [HN.out]; rfl, rfl⟩
      · rw [hlow, Bool.true_and] at HN
        have HS : Hid (s.size ≤ 16) := hide (by omega)
        go_wp2_with fail
        go_loopw [3] (fun v wr => ∃ i : Nat, v = .int .i64 i ∧ i ≤ s.size ∧ Hid ((s.data.toList.take i).all inset = true) ∧ wr = w1) (fun v _ => s.size - (intOf v).toNat)
        case atStart => exact ⟨0, rfl, by omega, hide rfl, rfl⟩
        case round =>
          obtain ⟨i, rfl, hi, HA, rfl⟩ := hrel
          by_cases hlt : i < s.size
          · have hli : (i : Int) < (s.size : Int) := by omega
            have HST := hide (all_step (getI hlt))
            have HFA := hide (all_false (getI hlt))
            have HIN := hide (inset_eq s[i])
            go_wp2_with fail
            (with_reducible refine (lower_any _ _).mono ?_)
            rintro e w2 ⟨rfl, rfl⟩
            cases h1 : lowB s[i]
            · go_wp2_with fail
              (with_reducible refine (digit_any _ _).mono ?_)
              rintro e w3 ⟨rfl, rfl⟩
              cases h2 : digB s[i]
              · by_cases h3 : s[i].toNat = 45
                · have e4 : ((s[i].toNat : Int) != 45) = false := by rw [h3]; rfl
                  have H3 := hide h3
                  clear h3
                  go_wp2_with fail
                  go_roundw
                  case rel => exact ⟨i + 1, by go_num, by omega, hide (by rw [HST.out, HA.out, HIN.out, h1, h2, decide_eq_true H3.out]; simp), by first | trivial | rfl⟩
                  case measure => simp [intOf]; omega
                · have e4 : ((s[i].toNat : Int) != 45) = true := bne_iff_ne.2 (by omega)
                  have HI : Hid (inset s[i] = false) := hide (by rw [HIN.out, h1, h2, decide_eq_false h3]; rfl)
                  clear h3
                  go_wp2_with fail
                  go_ret
                  refine ⟨?_, rfl⟩
                  rw [HN.out, HFA.out HI.out]; rfl
              ·
                go_wp2_with fail
                go_roundw
                case rel => exact ⟨i + 1, by go_num, by omega, hide (by rw [HST.out, HA.out, HIN.out, h1, h2]; simp), by first | trivial | rfl⟩
                case measure => simp [intOf]; omega
            ·
              go_wp2_with fail
              go_roundw
              case rel => exact ⟨i + 1, by go_num, by omega, hide (by rw [HST.out, HA.out, HIN.out, h1]; simp), by first | trivial | rfl⟩
              case measure => simp [intOf]; omega
          · obtain rfl : i = s.size := by omega
            have hli : ¬ (s.size : Int) < (s.size : Int) := by omega
            go_wp2_with fail
            go_ret
            refine ⟨?_, rfl⟩
            have := HA.out
            rw [List.take_of_length_le (by rw [← sz_eq]; exact Nat.le_refl _)] at this
            rw [HN.out, this]; rfl
end Go.Proofs.YtdmaephmkfmehaaGreatDoor
namespace Go.Proofs.YtdmaephmkfmehaaGreatDoor
open Go.RowKit Go.Gr Go.Ad
set_option linter.unusedVariables false
set_option linter.unusedSimpArgs false
def i64s (l : List Int) : List Value := l.map fun x => .int .i64 x
theorem i64s_len (l : List Int) : (i64s l).length = l.length := by simp [i64s]
theorem i64s_one (l : List Int) : ∀ v ∈ i64s l, v.oneCell' = true := by
  intro v hv
  obtain ⟨x, _, rfl⟩ := List.mem_map.1 hv
  rfl
theorem i64s_at {w : World} {A : Option Addr} {l : List Int} (h : Rd w A (i64s l)) {k : Nat} (hk : k < l.length) : ∃ ad, A = some ad ∧ w.cell? (ad.add k) = some (.int .i64 l[k]) := by
  obtain ⟨ad, e, hc⟩ := h.at_ (k := k) (by rw [i64s_len]; exact hk)
  rw [show (i64s l)[k]'(by rw [i64s_len]; exact hk) = .int .i64 l[k] by simp [i64s]] at hc
  exact ⟨ad, e, hc⟩
theorem cellX {w w' : World} {ad : Addr} {v : Value} (k : Ext w w') (h : w.cell? ad = some v) : w'.cell? ad = some v := (Below.cell k (cell_lt h)).trans h
/-- the cells of a section -/
def scC (s : Sc) (R : Option Addr) (c : Nat) : List Value := [.string s.name, .slice R s.rows.length c, .int .i64 s.queue]
/-- these sections lie there -/
def Secs (w : World) (A : Option Addr) (l : List Sc) : Prop :=
  ∀ i s, l[i]? = some s → ∃ b off R c, A = some ⟨b, off, none⟩ ∧ At5 w b (off + i * 3) (scC s R c) ∧ Rd w R (i64s s.rows) ∧ s.rows.length ≤ c
theorem Secs.ext {w w' : World} {A : Option Addr} {l : List Sc} (h : Secs w A l) (k : Ext w w') : Secs w' A l := fun i s hi => by
  obtain ⟨b, off, R, c, e, h1, h2, h3⟩ := h i s hi
  exact ⟨b, off, R, c, e, h1.ext k, h2.ext k, h3⟩
theorem Secs.take {w : World} {A : Option Addr} {l : List Sc} (h : Secs w A l) (k : Nat) : Secs w A (l.take k) := fun i s hi => by
  rw [List.getElem?_take] at hi
  split at hi
  · exact h i s hi
  · cases hi
/-- the sizes of what lies there -/
structure ScW (s : Sc) : Prop where
  name : s.name.size ≤ maxLen
  rows : s.rows.length ≤ maxLen
structure VnW (v : Vn) : Prop where
  secs : v.secs.length ≤ maxLen
  sec : ∀ s ∈ v.secs, ScW s
def vnV (v : Vn) (A : Option Addr) (c : Nat) : Value := .agg #[.int .i64 v.sh, .int .i64 v.ttl, .int .i64 v.ses, .slice A v.secs.length c]
theorem blk3 {w : World} {g : Nat} {e : TypeId} {a b c : Value} (h : Blk w g e [a, b, c]) : w.cell? ⟨g, 0, none⟩ = some a ∧ w.cell? ⟨g, 1, none⟩ = some b ∧ w.cell? ⟨g, 2, none⟩ = some c ∧ g < w.heap.size :=
  ⟨h.cell 0, h.cell 1, h.cell 2, h.lt⟩
theorem blk4 {w : World} {g : Nat} {e : TypeId} {a b c d : Value} (h : Blk w g e [a, b, c, d]) : w.cell? ⟨g, 0, none⟩ = some a ∧ w.cell? ⟨g, 1, none⟩ = some b ∧ w.cell? ⟨g, 2, none⟩ = some c ∧ w.cell? ⟨g, 3, none⟩ = some d ∧ g < w.heap.size :=
  ⟨h.cell 0, h.cell 1, h.cell 2, h.cell 3, h.lt⟩
theorem out_any (n lo hi : Int) (w : World) : Calls Tryz.prog 61 #[.int .i64 n, .int .i64 lo, .int .i64 hi] w fun e w' => e = .returned (.bool (outB n lo hi)) ∧ w' = w := by
  by_cases h1 : n < lo
  · have HN : Hid (outB n lo hi = true) := hide (by unfold outB; rw [decide_eq_true h1]; rfl)
    go_enter Tryz.func61, Tryz.ntmps61
    go_wp2_with fail
    go_ret
    exact ⟨by rw [HN.out]; rfl, rfl⟩
  · have HN : Hid (outB n lo hi = decide (hi < n)) := hide (by unfold outB; rw [decide_eq_false h1]; rfl)
    go_enter Tryz.func61, Tryz.ntmps61
    go_wp2_with fail
    go_ret
    exact ⟨by rw [HN.out]; rfl, rfl⟩
theorem out64_any (n lo hi : Int) (w : World) : Calls Tryz.prog 62 #[.int .i64 n, .int .i64 lo, .int .i64 hi] w fun e w' => e = .returned (.bool (outB n lo hi)) ∧ w' = w := by
  by_cases h1 : n < lo
  · have HN : Hid (outB n lo hi = true) := hide (by unfold outB; rw [decide_eq_true h1]; rfl)
    go_enter Tryz.func62, Tryz.ntmps62
    go_wp2_with fail
    go_ret
    exact ⟨by rw [HN.out]; rfl, rfl⟩
  · have HN : Hid (outB n lo hi = decide (hi < n)) := hide (by unfold outB; rw [decide_eq_false h1]; rfl)
    go_enter Tryz.func62, Tryz.ntmps62
    go_wp2_with fail
    go_ret
    exact ⟨by rw [HN.out]; rfl, rfl⟩
theorem within_any (n lo hi : Int) (w : World) : Calls Tryz.prog 78 #[.int .i64 n, .int .i64 lo, .int .i64 hi] w fun e w' => e = .returned (.bool (!outB n lo hi)) ∧ w' = w := by
  by_cases h1 : n < lo
  · have e1 : ¬ lo ≤ n := by omega
    have HN : Hid (outB n lo hi = true) := hide (by unfold outB; rw [decide_eq_true h1]; rfl)
    clear h1
    go_enter Tryz.func78, Tryz.ntmps78
    go_wp2_with fail
    go_ret
    exact ⟨by rw [HN.out]; rfl, rfl⟩
  · have e1 : lo ≤ n := by omega
    have HN : Hid (outB n lo hi = decide (hi < n)) := hide (by unfold outB; rw [decide_eq_false h1]; rfl)
    have HN2 : Hid ((!decide (hi < n)) = decide (n ≤ hi)) := hide (by
      by_cases h : hi < n
      · rw [decide_eq_true h, decide_eq_false (by omega)]; rfl
      · rw [decide_eq_false h, decide_eq_true (by omega)]; rfl)
    clear h1
    go_enter Tryz.func78, Tryz.ntmps78
    go_wp2_with fail
    go_ret
    exact ⟨by rw [HN.out, HN2.out]; rfl, rfl⟩
theorem row_bad (n : Int) (w : World) : Calls Tryz.prog 101 #[.int .i64 n] w fun e w' => e = .returned (.bool (outB n 1 64)) ∧ w' = w := by
  go_enter Tryz.func101, Tryz.ntmps101
  go_wp2_with fail
  (with_reducible refine (out_any _ _ _ _).mono ?_)
  rintro e w1 ⟨rfl, rfl⟩
  go_wp2_with fail
  go_ret
  exact ⟨rfl, rfl⟩
theorem name_eq (s t : ByteArray) : (s.toList == t.toList) = decide (s = t) := by
  rw [tl_eq, tl_eq]
  by_cases h : s = t
  · subst h; rw [decide_eq_true rfl, beq_self_eq_true]
  · rw [decide_eq_false h, beq_eq_false_iff_ne]
    intro e
    exact h (ByteArray.ext (Array.toList_inj.1 e))
theorem same_name (n : ByteArray) (x y : Value) (m : ByteArray) (g : Nat) (w : World) (hg : w.cell? ⟨g, 0, none⟩ = some (.string m)) : Calls Tryz.prog 99 #[.agg #[.string n, x, y], .pointer (some ⟨g, 0, none⟩)] w fun e w' => e = .returned (.bool (decide (n = m))) ∧ Ext w w' := by
  have hlt : g < w.heap.size := cell_lt hg
  have HN := hide (name_eq n m)
  go_enter Tryz.func99, Tryz.ntmps99
  go_wp2_with fail
  go_ret
  exact ⟨by rw [← HN.out]; rfl, (Ext.refl w).alloc _⟩
theorem at5_3 {w : World} {b o : Nat} {u v x : Value} (h : At5 w b o [u, v, x]) : w.cell? ⟨b, o, none⟩ = some u ∧ w.cell? ⟨b, o + 1, none⟩ = some v ∧ w.cell? ⟨b, o + 2, none⟩ = some x :=
  ⟨h 0 _ rfl, h 1 _ rfl, h 2 _ rfl⟩
theorem any_step {α : Type} {p : α → Bool} {l : List α} {i : Nat} {x : α} (h : l[i]? = some x) (h0 : (l.take i).any p = false) : (l.take (i + 1)).any p = p x := by
  rw [List.take_add_one, h, List.any_append, h0]; simp
theorem any_true {α : Type} {p : α → Bool} {l : List α} {i : Nat} {x : α} (h : l[i]? = some x) (hp : p x = true) : l.any p = true := List.any_eq_true.2 ⟨_, List.mem_of_getElem? h, hp⟩
theorem index_secs (l : List Sc) (A : Option Addr) (c : Nat) (m : ByteArray) (g : Nat) (w : World) (h : Secs w A l) (hc : l.length ≤ c) (hl : l.length ≤ 1000) (hg : w.cell? ⟨g, 0, none⟩ = some (.string m)) :
    Calls Tryz.prog 118 #[.slice A l.length c, .func (.func 99) #[] #[.pointer (some ⟨g, 0, none⟩)]] w fun e w' => (∃ r : Int, e = .returned (.int .i64 r) ∧ decide (0 ≤ r) = l.any fun x => decide (x.name = m)) ∧ Ext w w' := by
  have HS := hide h
  have HG := hide hg
  have HC := hide hc
  clear h hg hc
  have e64 := enters_of Tryz.func99 (by kernel_rfl) rfl
  go_enter Tryz.func118, Tryz.ntmps118
  go_wp2_with fail
  go_loopw [8] (fun v wr => ∃ i : Nat, v = .int .i64 i ∧ i ≤ l.length ∧ Hid ((l.take i).any (fun x => decide (x.name = m)) = false) ∧ Hid (Ext w wr)) (fun v _ => l.length - (intOf v).toNat)
  case atStart => exact ⟨0, rfl, by omega, hide rfl, hide (Ext.refl w)⟩
  case round =>
    obtain ⟨i, rfl, hi, HA, HE⟩ := hrel
    by_cases hlt : i < l.length
    · have hli : (i : Int) < (l.length : Int) := by omega
      obtain ⟨s, hs⟩ : ∃ s, l[i]? = some s := ⟨_, List.getElem?_eq_getElem hlt⟩
      obtain ⟨b, off, R, c', hA, h5, hR, hc'⟩ := HS.out i _ hs
      subst hA
      have h5' := h5.ext HE.out
      have hG' := cellX HE.out HG.out
      have HST := hide (any_step (p := fun x : Sc => decide (x.name = m)) hs HA.out)
      have HTR := hide (any_true (p := fun x : Sc => decide (x.name = m)) hs)
      have hic : (i : Int) < (c : Int) := by have := HC.out; omega
      have HLT := hide hlt
      have hib : i ≤ 1000 := by omega
      clear hs
      have HCL := hide (fun y : World => fun k : Ext wr y => same_name s.name (.slice R s.rows.length c') (.int .i64 s.queue) m g y (cellX k hG'))
      obtain ⟨c0, c1, c2⟩ := at5_3 h5'
      clear h5 h5' hR hc'
      go_wp2_with fail
      (with_reducible refine (HCL.out _ (Ext.refl _)).mono ?_)
      rintro e w1 ⟨rfl, hx⟩
      clear c0 c1 c2
      cases hn : decide (s.name = m)
      · rw [hn] at HST
        go_wp2_with fail
        go_roundw
        case rel => exact ⟨i + 1, by go_num, HLT.out, HST, hide (HE.out.trans hx)⟩
        case measure => have := HLT.out; simp [intOf]; omega
      · have HT := HTR.out hn
        go_wp2_with fail
        go_ret
        refine ⟨⟨_, rfl, ?_⟩, HE.out.trans hx⟩
        rw [HT]; exact decide_eq_true (by omega)
    · obtain rfl : i = l.length := by omega
      have hli : ¬ (l.length : Int) < (l.length : Int) := by omega
      go_wp2_with fail
      go_ret
      refine ⟨⟨_, rfl, ?_⟩, HE.out⟩
      have := HA.out
      rw [List.take_of_length_le (Nat.le_refl _)] at this
      rw [this]; rfl
theorem contains_secs (l : List Sc) (A : Option Addr) (c : Nat) (m : ByteArray) (g : Nat) (w : World) (h : Secs w A l) (hc : l.length ≤ c) (hl : l.length ≤ 1000) (hg : w.cell? ⟨g, 0, none⟩ = some (.string m)) :
    Calls Tryz.prog 98 #[.slice A l.length c, .func (.func 99) #[] #[.pointer (some ⟨g, 0, none⟩)]] w fun e w' => e = .returned (.bool (l.any fun x => decide (x.name = m))) ∧ Ext w w' := by
  have HI := hide (index_secs l A c m g w h hc hl hg)
  clear h hc hl hg
  go_enter Tryz.func98, Tryz.ntmps98
  go_wp2_with fail
  (with_reducible refine HI.out.mono ?_)
  rintro e w1 ⟨⟨r, rfl, hr⟩, hx⟩
  have HR := hide hr
  clear hr
  go_wp2_with fail
  go_ret
  exact ⟨by rw [← HR.out]; rfl, hx⟩
theorem index_rows (l : List Int) (A : Option Addr) (c : Nat) (w : World) (h : Rd w A (i64s l)) (hc : l.length ≤ c) (hl : l.length ≤ 1000) :
    Calls Tryz.prog 119 #[.slice A l.length c, .func (.func 101) #[] #[]] w fun e w' => (∃ r : Int, e = .returned (.int .i64 r) ∧ decide (0 ≤ r) = l.any fun n => outB n 1 64) ∧ w' = w := by
  have HS := hide h
  have HC := hide hc
  clear h hc
  have e66 := enters_of Tryz.func101 (by kernel_rfl) rfl
  go_enter Tryz.func119, Tryz.ntmps119
  go_wp2_with fail
  go_loopw [8] (fun v wr => ∃ i : Nat, v = .int .i64 i ∧ i ≤ l.length ∧ Hid ((l.take i).any (fun n => outB n 1 64) = false) ∧ wr = w) (fun v _ => l.length - (intOf v).toNat)
  case atStart => exact ⟨0, rfl, by omega, hide rfl, rfl⟩
  case round =>
    obtain ⟨i, rfl, hi, HA, rfl⟩ := hrel
    by_cases hlt : i < l.length
    · have hli : (i : Int) < (l.length : Int) := by omega
      obtain ⟨ad, hA, cl⟩ := i64s_at HS.out hlt
      obtain ⟨n, hn⟩ : ∃ n, l[i]? = some n := ⟨_, List.getElem?_eq_getElem hlt⟩
      have hn' : l[i] = n := by rw [List.getElem?_eq_getElem hlt] at hn; exact Option.some.inj hn
      rw [hn'] at cl
      subst hA
      have HST := hide (any_step (p := fun x : Int => outB x 1 64) hn HA.out)
      have HTR := hide (any_true (p := fun x : Int => outB x 1 64) hn)
      have hic : (i : Int) < (c : Int) := by have := HC.out; omega
      have HLT := hide hlt
      have hib : i ≤ 1000 := by omega
      clear hn hn'
      go_wp2_with fail
      (with_reducible refine (row_bad _ _).mono ?_)
      rintro e w1 ⟨rfl, rfl⟩
      clear cl
      cases hb : outB n 1 64
      · rw [hb] at HST
        go_wp2_with fail
        go_roundw
        case rel => exact ⟨i + 1, by go_num, HLT.out, HST, by first | trivial | rfl⟩
        case measure => have := HLT.out; simp [intOf]; omega
      · have HT := HTR.out hb
        go_wp2_with fail
        go_ret
        refine ⟨⟨_, rfl, ?_⟩, rfl⟩
        rw [HT]; exact decide_eq_true (by omega)
    · obtain rfl : i = l.length := by omega
      have hli : ¬ (l.length : Int) < (l.length : Int) := by omega
      go_wp2_with fail
      go_ret
      refine ⟨⟨_, rfl, ?_⟩, rfl⟩
      have := HA.out
      rw [List.take_of_length_le (Nat.le_refl _)] at this
      rw [this]; rfl
theorem contains_rows (l : List Int) (A : Option Addr) (c : Nat) (w : World) (h : Rd w A (i64s l)) (hc : l.length ≤ c) (hl : l.length ≤ 1000) :
    Calls Tryz.prog 100 #[.slice A l.length c, .func (.func 101) #[] #[]] w fun e w' => e = .returned (.bool (l.any fun n => outB n 1 64)) ∧ w' = w := by
  have HI := hide (index_rows l A c w h hc hl)
  clear h hc hl
  go_enter Tryz.func100, Tryz.ntmps100
  go_wp2_with fail
  (with_reducible refine HI.out.mono ?_)
  rintro e w1 ⟨⟨r, rfl, hr⟩, rfl⟩
  have HR := hide hr
  clear hr
  go_wp2_with fail
  go_ret
  exact ⟨by rw [← HR.out]; rfl, rfl⟩
theorem secE_name {bef : List Sc} {s : Sc} (h : nameOk s.name = false) : secE bef s = 6 := by unfold secE; rw [if_pos h]
theorem secE_twice {bef : List Sc} {s : Sc} (h : nameOk s.name = true) (h2 : (bef.any fun x => decide (x.name = s.name)) = true) : secE bef s = 8 := by
  unfold secE; rw [if_neg (by rw [h]; simp), if_pos h2]
theorem secE_rest {bef : List Sc} {s : Sc} (h : nameOk s.name = true) (h2 : (bef.any fun x => decide (x.name = s.name)) = false) :
    secE bef s = if s.rows.length = 0 then 6 else if 16 < s.rows.length then 3 else if s.rows.any (fun n => outB n 1 64) = true then 7 else if outB s.queue 0 64 = true then 7 else 0 := by
  unfold secE; rw [if_neg (by rw [h]; simp), if_neg (by rw [h2]; simp)]
set_option maxHeartbeats 4000000 in
theorem check_any (bef : List Sc) (A : Option Addr) (c : Nat) (s : Sc) (R : Option Addr) (d : Nat) (w : World) (h : Secs w A bef) (hc : bef.length ≤ c) (hl : bef.length ≤ 1000) (hr : Rd w R (i64s s.rows)) (hd : s.rows.length ≤ d) (hs : ScW s) :
    Calls Tryz.prog 63 #[.agg #[.string s.name, .slice R s.rows.length d, .int .i64 s.queue], .slice A bef.length c] w fun e w' => e = .returned (.int .i64 (secE bef s)) ∧ Ext w w' := by
  have HS := hide (fun (y : World) (k : Ext w y) => h.ext k)
  have HR := hide (fun (y : World) (k : Ext w y) => hr.ext k)
  have HN := hide hs.name
  have HC := hide (And.intro hc hl)
  have HD := hide hd
  clear h hr hs hc hl hd
  go_enter Tryz.func63, Tryz.ntmps63
  go_wp2_with fail
  (with_reducible refine (name_any _ _ HN.out).mono ?_)
  rintro e w1 ⟨rfl, hx⟩
  have K0 := (Sep.refl No w).add 100 [.string s.name, .slice R s.rows.length d, .int .i64 s.queue]
  have K1 := hide (K0.ext hx)
  clear K0 hx
  obtain ⟨g, hg⟩ : ∃ g, w.heap.size = g := ⟨_, rfl⟩
  rw [hg] at K1
  simp only [hg]
  clear hg
  cases hname : nameOk s.name
  · have HE := hide (secE_name (bef := bef) hname)
    go_wp2_with fail
    go_ret
    exact ⟨by rw [HE.out]; rfl, K1.out.toExt⟩
  · have HNM := hide hname
    clear hname
    have HC1 := hide (contains_secs bef A c s.name g w1 (HS.out _ K1.out.toExt) HC.out.1 HC.out.2 ((K1.out.blk (List.Mem.head _)).cell 0))
    go_wp2_with fail
    (with_reducible refine HC1.out.mono ?_)
    rintro e w2 ⟨rfl, hx⟩
    have K2 := hide (K1.out.ext hx)
    clear K1 hx HC1
    cases htw : bef.any fun x => decide (x.name = s.name)
    · have HE := hide (secE_rest HNM.out htw)
      obtain ⟨c0, c1, c2, c3⟩ := blk3 (K2.out.blk (List.Mem.head _))
      by_cases h0 : s.rows.length = 0
      · have e1 : ((s.rows.length : Int) == 0) = true := by rw [h0]; rfl
        rw [if_pos h0] at HE
        clear h0
        go_wp2_with fail
        go_ret
        exact ⟨by rw [HE.out]; rfl, K2.out.toExt⟩
      · have e1 : ((s.rows.length : Int) == 0) = false := beq_eq_false_iff_ne.2 (by omega)
        rw [if_neg h0] at HE
        by_cases h16 : 16 < s.rows.length
        · have e2 : (16 : Int) < (s.rows.length : Int) := by omega
          rw [if_pos h16] at HE
          clear h0 h16
          go_wp2_with fail
          go_ret
          exact ⟨by rw [HE.out]; rfl, K2.out.toExt⟩
        · have e2 : ¬ (16 : Int) < (s.rows.length : Int) := by omega
          rw [if_neg h16] at HE
          have HRW := hide (contains_rows s.rows R d w2 (HR.out _ K2.out.toExt) HD.out (by omega))
          clear h0 h16
          go_wp2_with fail
          (with_reducible refine HRW.out.mono ?_)
          rintro e w3 ⟨rfl, rfl⟩
          cases hrw : s.rows.any fun n => outB n 1 64
          · rw [hrw, if_neg Bool.false_ne_true] at HE
            go_wp2_with fail
            (with_reducible refine (out_any _ _ _ _).mono ?_)
            rintro e w4 ⟨rfl, rfl⟩
            cases hq : outB s.queue 0 64
            · rw [hq, if_neg Bool.false_ne_true] at HE
              go_wp2_with fail
              go_ret
              exact ⟨by rw [HE.out]; rfl, K2.out.toExt⟩
            · rw [hq, if_pos rfl] at HE
              go_wp2_with fail
              go_ret
              exact ⟨by rw [HE.out]; rfl, K2.out.toExt⟩
          · rw [hrw, if_pos rfl] at HE
            go_wp2_with fail
            go_ret
            exact ⟨by rw [HE.out]; rfl, K2.out.toExt⟩
    · have HE := hide (secE_twice HNM.out htw)
      go_wp2_with fail
      go_ret
      exact ⟨by rw [HE.out]; rfl, K2.out.toExt⟩
end Go.Proofs.YtdmaephmkfmehaaGreatDoor
