/- Lists of waiters, in plain lists: what each function of the layer returns. -/
import Derived.Test.YteecgieigjfjiaaW0
namespace Go.Wl
set_option linter.unusedVariables false
/-- the sections: each its limit and its waiters -/
abbrev St := List (Nat × List Int)
def inS (S : St) (i : Int) : Prop := 0 ≤ i ∧ i < S.length
instance (S : St) (i : Int) : Decidable (inS S i) := by unfold inS; exact inferInstance
def lm (S : St) (i : Int) : Nat := (S.getD i.toNat (0, [])).1
def wt (S : St) (i : Int) : List Int := (S.getD i.toNat (0, [])).2
def put (S : St) (i : Int) (w : List Int) : St := S.set i.toNat (lm S i, w)
structure Ok1 (p : Nat × List Int) : Prop where
  lim : p.1 ≤ 64
  len : p.2.length ≤ p.1
  rng : ∀ x ∈ p.2, 0 ≤ x ∧ x < 4294967296
  nod : p.2.Nodup
structure Ok (S : St) : Prop where
  pos : 1 ≤ S.length
  len : S.length ≤ 8
  all : ∀ p ∈ S, Ok1 p
def joinS (S : St) (i o : Int) : St × Int × Int :=
  if ¬ inS S i then (S, 0, 4) else if (wt S i).length = lm S i then (S, 0, 5) else if o ∈ wt S i then (S, 0, 8) else (put S i (wt S i ++ [o]), (wt S i).length + 1, 0)
def placeS (S : St) (i o : Int) : Int × Int := if ¬ inS S i then (0, 4) else if o ∈ wt S i then ((wt S i).idxOf o + 1, 0) else (0, 4)
def leaveS (S : St) (i o : Int) : St × Int := if ¬ inS S i then (S, 4) else if o ∈ wt S i then (put S i ((wt S i).eraseIdx ((wt S i).idxOf o)), 0) else (S, 4)
def firstS (S : St) (i : Int) : Int × Int := if ¬ inS S i then (0, 4) else if wt S i = [] then (0, 4) else ((wt S i).getD 0 0, 0)
def takeS (S : St) (i : Int) : St × Int × Int := if ¬ inS S i then (S, 0, 4) else if wt S i = [] then (S, 0, 4) else (put S i (wt S i).tail, (wt S i).getD 0 0, 0)
def lenS (S : St) (i : Int) : Int × Int := if ¬ inS S i then (0, 4) else ((wt S i).length, 0)
theorem Ok.get {S : St} (h : Ok S) {i : Int} (hi : inS S i) : Ok1 (lm S i, wt S i) := by
  obtain ⟨h0, h1⟩ := hi
  have e : S.getD i.toNat (0, []) = S[i.toNat]'(by omega) := by
    rw [List.getD_eq_getElem?_getD, List.getElem?_eq_getElem (by omega)]; rfl
  unfold lm wt
  rw [e]
  exact h.all _ (List.getElem_mem _)
theorem put_ok {S : St} (h : Ok S) {i : Int} (hi : inS S i) {w : List Int} (hw : Ok1 (lm S i, w)) : Ok (put S i w) := by
  refine ⟨by simp [put, h.pos], by simp [put, h.len], fun p hp => ?_⟩
  rcases List.mem_or_eq_of_mem_set hp with hp | rfl
  · exact h.all p hp
  · exact hw
theorem join_ok {S : St} (h : Ok S) (i : Int) {o : Int} (ho : 0 ≤ o ∧ o < 4294967296) : Ok (joinS S i o).1 := by
  unfold joinS
  by_cases hi : inS S i
  · rw [if_neg (by simpa using hi)]
    have hg := h.get hi
    split
    · exact h
    · rename_i hl
      split
      · exact h
      · rename_i hm
        refine put_ok h hi ⟨hg.lim, ?_, ?_, ?_⟩
        · have := hg.len
          simp only [List.length_append, List.length_singleton]
          simp only at this
          omega
        · intro x hx
          rcases List.mem_append.1 hx with hx | hx
          · exact hg.rng x hx
          · rw [List.mem_singleton] at hx; subst hx; exact ho
        · have := hg.nod
          simp only at this ⊢
          rw [List.nodup_append]
          exact ⟨this, by simp, fun a ha b hb e => by rw [List.mem_singleton] at hb; subst hb; subst e; exact hm ha⟩
  · rw [if_pos hi]; exact h
theorem Ok1.sub {n : Nat} {w w' : List Int} (h : Ok1 (n, w)) (hs : w'.Sublist w) : Ok1 (n, w') :=
  ⟨h.lim, Nat.le_trans hs.length_le h.len, fun x hx => h.rng x (hs.mem hx), h.nod.sublist hs⟩
theorem leave_ok {S : St} (h : Ok S) (i o : Int) : Ok (leaveS S i o).1 := by
  unfold leaveS
  by_cases hi : inS S i
  · rw [if_neg (by simpa using hi)]
    split
    · exact put_ok h hi ((h.get hi).sub (List.eraseIdx_sublist _ _))
    · exact h
  · rw [if_pos hi]; exact h
theorem take_ok {S : St} (h : Ok S) (i : Int) : Ok (takeS S i).1 := by
  unfold takeS
  by_cases hi : inS S i
  · rw [if_neg (by simpa using hi)]
    split
    · exact h
    · exact put_ok h hi ((h.get hi).sub (List.tail_sublist _))
  · rw [if_pos hi]; exact h
end Go.Wl
