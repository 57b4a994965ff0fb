/- Venues: the plain part: which venues have no error, their rows, the seats of a section and of a row, places. -/
import Derived.Test.YtkhinagagncblaaDoorA0
namespace Go.Ad
set_option linter.unusedVariables false
structure Sc where
  name : ByteArray
  rows : List Int
  queue : Int
structure Vn where
  sh : Int
  ttl : Int
  ses : Int
  secs : List Sc
def lowB (b : UInt8) : Bool := decide (97 ≤ b.toNat) && decide (b.toNat ≤ 122)
def inset (b : UInt8) : Bool := lowB b || (decide (48 ≤ b.toNat) && decide (b.toNat ≤ 57)) || b.toNat == 45
def nameL (l : List UInt8) : Bool := decide (1 ≤ l.length) && decide (l.length ≤ 16) && (match l with | [] => false | b :: _ => lowB b) && l.all inset
def nameOk (s : ByteArray) : Bool := nameL s.data.toList
/-- outside a range -/
def outB (n lo hi : Int) : Bool := decide (n < lo) || decide (hi < n)
/-- the error of a section -/
def secE (bef : List Sc) (s : Sc) : Int :=
  if nameOk s.name = false then 6
  else if bef.any (fun x => decide (x.name = s.name)) = true then 8
  else if s.rows.length = 0 then 6
  else if 16 < s.rows.length then 3
  else if s.rows.any (fun n => outB n 1 64) = true then 7
  else if outB s.queue 0 64 = true then 7
  else 0
def secsGo (bef : List Sc) : List Sc → Option (Nat × Int)
  | [] => none
  | s :: r => if secE bef s ≠ 0 then some (bef.length, secE bef s) else secsGo (bef ++ [s]) r
def Sc.rowsN (s : Sc) : List Nat := s.rows.map Int.toNat
def Sc.sum (s : Sc) : Nat := s.rowsN.sum
def sumS (l : List Sc) : Nat := (l.map Sc.sum).sum
def headE (v : Vn) : Bool := outB v.sh 1 16 || outB v.ttl 1 1000000000 || outB v.ses 1 1000000000
/-- what is wrong with a venue -/
def chk (v : Vn) : Int × Int :=
  if headE v = true then (-1, 7)
  else if v.secs.length = 0 then (-1, 6)
  else if 8 < v.secs.length then (-1, 3)
  else match secsGo [] v.secs with
    | some (i, e) => ((i : Int), e)
    | none => if 4096 < sumS v.secs then (-1, 3) else (0, 0)
/-- a section without errors -/
structure ScOk (s : Sc) : Prop where
  pos : 0 < s.rows.length
  few : s.rows.length ≤ 16
  row : ∀ n ∈ s.rows, 1 ≤ n ∧ n ≤ 64
  que : 0 ≤ s.queue ∧ s.queue ≤ 64
theorem outB_false {n lo hi : Int} (h : outB n lo hi = false) : lo ≤ n ∧ n ≤ hi := by
  simp only [outB, Bool.or_eq_false_iff, decide_eq_false_iff_not] at h
  omega
theorem outB_of {n lo hi : Int} (h1 : lo ≤ n) (h2 : n ≤ hi) : outB n lo hi = false := by
  simp only [outB, Bool.or_eq_false_iff, decide_eq_false_iff_not]; omega
theorem secE_zero {bef : List Sc} {s : Sc} (h : secE bef s = 0) : ScOk s := by
  unfold secE at h
  split at h
  · cases h
  · split at h
    · cases h
    · split at h
      · cases h
      · split at h
        · cases h
        · split at h
          · cases h
          · split at h
            · cases h
            · rename_i h1 h2 h3 h4 h5 h6
              refine ⟨by omega, by omega, fun n hn => ?_, outB_false (by simpa using h6)⟩
              have h7 : outB n 1 64 = false := by
                cases hb : outB n 1 64
                · rfl
                · exact absurd (List.any_eq_true.2 ⟨n, hn, hb⟩) h5
              exact outB_false h7
theorem secsGo_none : ∀ (l bef : List Sc), secsGo bef l = none → ∀ s ∈ l, ScOk s
  | [], _, _, s, hs => by cases hs
  | x :: l, bef, h, s, hs => by
    unfold secsGo at h
    split at h
    · cases h
    · rename_i h1
      rcases List.mem_cons.1 hs with rfl | hs
      · exact secE_zero (by simpa using h1)
      · exact secsGo_none l _ h s hs
theorem secsGo_pos : ∀ (l bef : List Sc) {i : Nat} {e : Int}, secsGo bef l = some (i, e) → e ≠ 0
  | [], _, i, e, h => by cases h
  | x :: l, bef, i, e, h => by
    unfold secsGo at h
    split at h
    · rename_i h1
      cases h
      exact h1
    · exact secsGo_pos l _ h
structure VnOk (v : Vn) : Prop where
  sh : 1 ≤ v.sh ∧ v.sh ≤ 16
  ttl : 1 ≤ v.ttl ∧ v.ttl ≤ 1000000000
  ses : 1 ≤ v.ses ∧ v.ses ≤ 1000000000
  pos : 0 < v.secs.length
  few : v.secs.length ≤ 8
  sec : ∀ s ∈ v.secs, ScOk s
  sum : sumS v.secs ≤ 4096
theorem chk_zero {v : Vn} (h : (chk v).2 = 0) : VnOk v ∧ chk v = (0, 0) := by
  unfold chk at h ⊢
  split at h
  · cases h
  · rename_i h1
    split at h
    · cases h
    · rename_i h2
      split at h
      · cases h
      · rename_i h3
        rw [if_neg h1, if_neg h2, if_neg h3]
        cases hg : secsGo [] v.secs with
        | some p =>
          obtain ⟨i, e⟩ := p
          rw [hg] at h
          exact absurd h (secsGo_pos _ _ hg)
        | none =>
          rw [hg] at h
          simp only at h ⊢
          split at h
          · cases h
          · rename_i h4
            rw [if_neg h4]
            have h5 : headE v = false := by simpa using h1
            simp only [headE, Bool.or_eq_false_iff] at h5
            exact ⟨⟨outB_false h5.1.1, outB_false h5.1.2, outB_false h5.2, by omega, by omega, secsGo_none _ _ hg, by omega⟩, rfl⟩
/-- a row of a venue -/
structure RowI where
  sec : Nat
  row : Nat
  first : Nat
  many : Nat
def rlSec (i : Nat) : Nat → Nat → List Nat → List RowI
  | _, _, [] => []
  | k, a, n :: ns => ⟨i, k, a, n⟩ :: rlSec i (k + 1) (a + n) ns
def rl : Nat → Nat → List Sc → List RowI
  | _, _, [] => []
  | i, a, s :: ss => rlSec i 0 a s.rowsN ++ rl (i + 1) (a + s.sum) ss
def sumR (l : List RowI) : Nat := (l.map RowI.many).sum
theorem sumR_append (l m : List RowI) : sumR (l ++ m) = sumR l + sumR m := by simp [sumR]
theorem sumR_sec (i : Nat) : ∀ (ns : List Nat) (k a : Nat), sumR (rlSec i k a ns) = ns.sum
  | [], _, _ => rfl
  | n :: ns, k, a => by
    have := sumR_sec i ns (k + 1) (a + n)
    unfold sumR at this ⊢
    simp [rlSec, this]
theorem sumR_rl : ∀ (ss : List Sc) (i a : Nat), sumR (rl i a ss) = sumS ss
  | [], _, _ => rfl
  | s :: ss, i, a => by
    rw [rl, sumR_append, sumR_sec, sumR_rl ss]; simp [sumS, Sc.sum]
/-- how the seats of some rows are found -/
def gOf (p : Nat → Nat → Bool) (st : Nat × Nat) (R : RowI) : Nat × Nat := if p R.sec R.row then (if st.2 = 0 then R.first else st.1, st.2 + R.many) else st
theorem gOf_skip {p : Nat → Nat → Bool} : ∀ (l : List RowI) (st : Nat × Nat), (∀ R ∈ l, p R.sec R.row = false) → l.foldl (gOf p) st = st
  | [], _, _ => rfl
  | R :: l, st, h => by
    rw [List.foldl_cons, gOf, if_neg (by rw [h R (by simp)]; simp)]
    exact gOf_skip l st fun R hR => h R (by simp [hR])
theorem rlSec_mem {i : Nat} : ∀ {ns : List Nat} {k a : Nat} {R : RowI}, R ∈ rlSec i k a ns → R.sec = i ∧ k ≤ R.row ∧ R.row < k + ns.length ∧ a ≤ R.first
  | [], _, _, _, h => by cases h
  | n :: ns, k, a, R, h => by
    rcases List.mem_cons.1 h with rfl | h
    · exact ⟨rfl, Nat.le_refl _, by simp, Nat.le_refl _⟩
    · obtain ⟨h1, h2, h3, h4⟩ := rlSec_mem h
      exact ⟨h1, by omega, by simp; omega, by omega⟩
theorem rl_mem : ∀ {ss : List Sc} {i a : Nat} {R : RowI}, R ∈ rl i a ss → i ≤ R.sec ∧ R.sec < i + ss.length
  | [], _, _, _, h => by cases h
  | s :: ss, i, a, R, h => by
    rw [rl] at h
    rcases List.mem_append.1 h with h | h
    · obtain ⟨h1, _⟩ := rlSec_mem h
      exact ⟨by omega, by simp; omega⟩
    · obtain ⟨h1, h2⟩ := rl_mem h
      exact ⟨by omega, by simp; omega⟩
theorem gOf_sec {p : Nat → Nat → Bool} {i : Nat} (hp : ∀ k, p i k = true) : ∀ (ns : List Nat) (k a : Nat) (st : Nat × Nat), 0 < st.2 → (rlSec i k a ns).foldl (gOf p) st = (st.1, st.2 + ns.sum)
  | [], _, _, st, _ => by simp [rlSec]
  | n :: ns, k, a, st, h => by
    rw [rlSec, List.foldl_cons, gOf, if_pos (hp _), if_neg (by omega), gOf_sec hp ns _ _ _ (by show 0 < st.2 + n; omega)]
    simp; omega
theorem gOf_row {p : Nat → Nat → Bool} {i : Nat} (q : Nat) (hp : ∀ k, p i k = decide (k = q)) : ∀ (ns : List Nat) (k a j n : Nat), ns[j]? = some n → k + j = q → (rlSec i k a ns).foldl (gOf p) (0, 0) = (a + (ns.take j).sum, n)
  | [], _, _, j, n, h, _ => by simp at h
  | m :: ns, k, a, 0, n, h, hk => by
    simp only [List.getElem?_cons_zero, Option.some.injEq] at h
    subst h
    rw [rlSec, List.foldl_cons, gOf, if_pos (by rw [hp]; simp; omega), if_pos rfl, gOf_skip]
    · simp
    · intro R hR
      obtain ⟨h1, h2, _⟩ := rlSec_mem hR
      rw [h1, hp, decide_eq_false_iff_not]; omega
  | m :: ns, k, a, j + 1, n, h, hk => by
    rw [List.getElem?_cons_succ] at h
    rw [rlSec, List.foldl_cons, gOf, if_neg (by rw [hp]; simp; omega), gOf_row q hp ns (k + 1) (a + m) j n h (by omega)]
    simp; omega
/-- the first seat of a section -/
def fst0 (ss : List Sc) (j : Nat) : Nat := sumS (ss.take j)
theorem gOf_rl {p : Nat → Nat → Bool} {s0 : Nat} (hne : ∀ i k, i ≠ s0 → p i k = false) (st : Nat × Nat) : ∀ (ss : List Sc) (i a j : Nat) (s : Sc), ss[j]? = some s → i + j = s0 →
    (rl i a ss).foldl (gOf p) st = (rlSec s0 0 (a + fst0 ss j) s.rowsN).foldl (gOf p) st
  | [], _, _, j, s, h, _ => by simp at h
  | x :: ss, i, a, 0, s, h, hi => by
    simp only [List.getElem?_cons_zero, Option.some.injEq] at h
    subst h
    obtain rfl : i = s0 := by omega
    rw [rl, List.foldl_append, gOf_skip]
    · simp [fst0, sumS]
    · intro R hR
      have := rl_mem hR
      exact hne _ _ (by omega)
  | x :: ss, i, a, j + 1, s, h, hi => by
    rw [List.getElem?_cons_succ] at h
    rw [rl, List.foldl_append, gOf_skip (rlSec _ _ _ _), gOf_rl hne st ss (i + 1) (a + x.sum) j s h (by omega)]
    · simp [fst0, sumS, Nat.add_assoc]
    · intro R hR
      have := (rlSec_mem hR).1
      exact hne _ _ (by omega)
/-- the seats of a section -/
theorem of_sec {ss : List Sc} {j : Nat} {s : Sc} (h : ss[j]? = some s) (hs : ScOk s) : (rl 0 0 ss).foldl (gOf fun i _ => decide (i = j)) (0, 0) = (fst0 ss j, s.sum) := by
  rw [gOf_rl (s0 := j) (fun i k hi => by simpa using hi) (0, 0) ss 0 0 j s h (by omega), Nat.zero_add]
  obtain ⟨n, ns, hr⟩ : ∃ n ns, s.rows = n :: ns := by
    cases hr : s.rows with
    | nil => have := hs.pos; rw [hr] at this; simp at this
    | cons n ns => exact ⟨n, ns, rfl⟩
  have hn := hs.row n (by rw [hr]; simp)
  have e : s.rowsN = n.toNat :: ns.map Int.toNat := by rw [Sc.rowsN, hr]; rfl
  rw [Sc.sum, e, rlSec, List.foldl_cons, gOf, if_pos (by simp), if_pos rfl, gOf_sec (by simp) _ _ _ _ (by show 0 < 0 + n.toNat; omega)]
  simp
/-- the seats of a row -/
theorem of_row {ss : List Sc} {j q : Nat} {s : Sc} {n : Nat} (h : ss[j]? = some s) (hn : s.rowsN[q]? = some n) : (rl 0 0 ss).foldl (gOf fun i k => decide (i = j) && decide (k = q)) (0, 0) = (fst0 ss j + (s.rowsN.take q).sum, n) := by
  rw [gOf_rl (s0 := j) (fun i k hi => by simp [hi]) (0, 0) ss 0 0 j s h (by omega), Nat.zero_add]
  exact gOf_row q (fun k => by simp) _ _ _ q n hn (by omega)
theorem of_none {p : Nat → Nat → Bool} {ss : List Sc} (h : ∀ R ∈ rl 0 0 ss, p R.sec R.row = false) : (rl 0 0 ss).foldl (gOf p) (0, 0) = (0, 0) := gOf_skip _ _ h
/-- rows one behind the other -/
def Chain : Nat → List RowI → Prop
  | _, [] => True
  | a, R :: l => R.first = a ∧ Chain (a + R.many) l
theorem chain_append : ∀ {l m : List RowI} {a : Nat}, Chain a l → Chain (a + sumR l) m → Chain a (l ++ m)
  | [], m, a, _, h => by simpa [sumR] using h
  | R :: l, m, a, ⟨h1, h2⟩, h => by
    refine ⟨h1, chain_append h2 ?_⟩
    rwa [show a + sumR (R :: l) = a + R.many + sumR l by simp [sumR]; omega] at h
theorem chain_sec (i : Nat) : ∀ (ns : List Nat) (k a : Nat), Chain a (rlSec i k a ns)
  | [], _, _ => trivial
  | n :: ns, k, a => ⟨rfl, chain_sec i ns (k + 1) (a + n)⟩
theorem chain_rl : ∀ (ss : List Sc) (i a : Nat), Chain a (rl i a ss)
  | [], _, _ => trivial
  | s :: ss, i, a => chain_append (chain_sec i _ 0 a) (by rw [sumR_sec]; exact chain_rl ss (i + 1) (a + s.sum))
/-- where a seat is -/
structure Pl where
  sec : Nat
  row : Nat
  seat : Nat
deriving DecidableEq, Inhabited
def plR (R : RowI) : List Pl := (List.range R.many).map fun n => ⟨R.sec, R.row, n⟩
def plL (l : List RowI) : List Pl := l.flatMap plR
theorem plR_len (R : RowI) : (plR R).length = R.many := by simp [plR]
theorem plL_len : ∀ l : List RowI, (plL l).length = sumR l
  | [] => rfl
  | R :: l => by
    have := plL_len l
    unfold plL sumR at this ⊢
    simp [plR_len, this]
theorem plL_cons (R : RowI) (l : List RowI) : plL (R :: l) = plR R ++ plL l := by simp [plL]
theorem plL_get : ∀ {l : List RowI} {a : Nat}, Chain a l → ∀ {t : Nat} {x : Pl}, (plL l)[t]? = some x → ∃ R ∈ l, R.first ≤ a + t ∧ a + t < R.first + R.many ∧ x = ⟨R.sec, R.row, a + t - R.first⟩
  | [], a, _, t, x, h => by simp [plL] at h
  | R :: l, a, ⟨h1, h2⟩, t, x, h => by
    rw [plL_cons] at h
    by_cases ht : t < R.many
    · rw [List.getElem?_append_left (by rw [plR_len]; exact ht)] at h
      simp only [plR, List.getElem?_map, List.getElem?_range ht, Option.map_some, Option.some.injEq] at h
      exact ⟨R, by simp, by omega, by omega, by rw [← h, h1, Nat.add_sub_cancel_left]⟩
    · rw [List.getElem?_append_right (by rw [plR_len]; omega), plR_len] at h
      obtain ⟨R', h3, h4, h5, h6⟩ := plL_get h2 h
      refine ⟨R', by simp [h3], by omega, by omega, ?_⟩
      rw [h6]; congr 1; omega
theorem plL_at : ∀ {l : List RowI} {a : Nat}, Chain a l → ∀ {R : RowI}, R ∈ l → ∀ {n : Nat}, n < R.many → a ≤ R.first + n ∧ (plL l)[R.first + n - a]? = some ⟨R.sec, R.row, n⟩
  | [], _, _, _, h, _, _ => by cases h
  | R :: l, a, ⟨h1, h2⟩, R', h, n, hn => by
    rw [plL_cons]
    rcases List.mem_cons.1 h with rfl | h
    · refine ⟨by omega, ?_⟩
      rw [List.getElem?_append_left (by rw [plR_len]; omega), show R'.first + n - a = n by omega]
      simp only [plR, List.getElem?_map, List.getElem?_range hn, Option.map_some]
    · obtain ⟨h3, h4⟩ := plL_at h2 h hn
      refine ⟨by omega, ?_⟩
      rw [List.getElem?_append_right (by rw [plR_len]; omega), plR_len, show R'.first + n - a - R.many = R'.first + n - (a + R.many) by omega]
      exact h4
def places (v : Vn) : List Pl := plL (rl 0 0 v.secs)
theorem places_len (v : Vn) : (places v).length = sumS v.secs := by rw [places, plL_len, sumR_rl]
theorem rlSec_get {i : Nat} : ∀ {ns : List Nat} {k a q n : Nat}, ns[q]? = some n → (⟨i, k + q, a + (ns.take q).sum, n⟩ : RowI) ∈ rlSec i k a ns
  | [], _, _, _, _, h => by simp at h
  | m :: ns, k, a, 0, n, h => by
    simp only [List.getElem?_cons_zero, Option.some.injEq] at h
    subst h
    simp [rlSec]
  | m :: ns, k, a, q + 1, n, h => by
    rw [List.getElem?_cons_succ] at h
    have := rlSec_get (i := i) (k := k + 1) (a := a + m) h
    rw [rlSec, List.mem_cons]
    right
    rwa [show k + 1 + q = k + (q + 1) by omega, show a + m + (ns.take q).sum = a + ((m :: ns).take (q + 1)).sum by simp; omega] at this
theorem rl_get : ∀ {ss : List Sc} {i a j : Nat} {s : Sc}, ss[j]? = some s → ∀ R ∈ rlSec (i + j) 0 (a + fst0 ss j) s.rowsN, R ∈ rl i a ss
  | [], _, _, _, _, h, _, _ => by simp at h
  | x :: ss, i, a, 0, s, h, R, hR => by
    simp only [List.getElem?_cons_zero, Option.some.injEq] at h
    subst h
    rw [rl]
    exact List.mem_append_left _ (by simpa [fst0, sumS] using hR)
  | x :: ss, i, a, j + 1, s, h, R, hR => by
    rw [List.getElem?_cons_succ] at h
    rw [rl]
    refine List.mem_append_right _ (rl_get h R ?_)
    rwa [show i + 1 + j = i + (j + 1) by omega, show a + x.sum + fst0 ss j = a + fst0 (x :: ss) (j + 1) by simp [fst0, sumS]; omega]
theorem rlSec_inv {i : Nat} : ∀ {ns : List Nat} {k a : Nat} {R : RowI}, R ∈ rlSec i k a ns → ∃ q n, ns[q]? = some n ∧ R = ⟨i, k + q, a + (ns.take q).sum, n⟩
  | [], _, _, _, h => by cases h
  | m :: ns, k, a, R, h => by
    rcases List.mem_cons.1 h with rfl | h
    · exact ⟨0, m, rfl, by simp⟩
    · obtain ⟨q, n, h1, rfl⟩ := rlSec_inv h
      exact ⟨q + 1, n, by simpa using h1, by simp; omega⟩
theorem rl_inv : ∀ {ss : List Sc} {i a : Nat} {R : RowI}, R ∈ rl i a ss → ∃ j s, ss[j]? = some s ∧ R ∈ rlSec (i + j) 0 (a + fst0 ss j) s.rowsN
  | [], _, _, _, h => by cases h
  | x :: ss, i, a, R, h => by
    rw [rl] at h
    rcases List.mem_append.1 h with h | h
    · exact ⟨0, x, rfl, by simpa [fst0, sumS] using h⟩
    · obtain ⟨j, s, h1, h2⟩ := rl_inv h
      refine ⟨j + 1, s, by simpa using h1, ?_⟩
      rwa [show i + 1 + j = i + (j + 1) by omega, show a + x.sum + fst0 ss j = a + fst0 (x :: ss) (j + 1) by simp [fst0, sumS]; omega] at h2
/-- the place of a seat of a row -/
theorem place_at {v : Vn} {j q n t : Nat} {s : Sc} (h : v.secs[j]? = some s) (hn : s.rowsN[q]? = some n) (ht : t < n) : (places v)[fst0 v.secs j + (s.rowsN.take q).sum + t]? = some ⟨j, q, t⟩ := by
  have h1 := rlSec_get (i := 0 + j) (k := 0) (a := 0 + fst0 v.secs j) hn
  have h2 := rl_get (i := 0) (a := 0) h _ h1
  have := (plL_at (chain_rl v.secs 0 0) h2 ht).2
  unfold places
  simpa using this
theorem place_inv {v : Vn} {i : Nat} {x : Pl} (h : (places v)[i]? = some x) : ∃ s n, v.secs[x.sec]? = some s ∧ s.rowsN[x.row]? = some n ∧ x.seat < n ∧ i = fst0 v.secs x.sec + (s.rowsN.take x.row).sum + x.seat := by
  obtain ⟨R, hR, h1, h2, rfl⟩ := plL_get (chain_rl v.secs 0 0) h
  obtain ⟨j, s, h3, h4⟩ := rl_inv hR
  obtain ⟨q, n, h5, rfl⟩ := rlSec_inv h4
  simp only [Nat.zero_add] at *
  exact ⟨s, n, h3, h5, by show i - _ < n; omega, by show i = _ + (i - _); omega⟩
end Go.Ad
