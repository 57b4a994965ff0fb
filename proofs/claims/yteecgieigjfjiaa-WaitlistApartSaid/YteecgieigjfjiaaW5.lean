/- Lists of waiters, in plain lists: finding, New, Load. -/
import Derived.Test.YteecgieigjfjiaaW2
import Derived.Test.YteecgieigjfjiaaW3
namespace Go.Wl
set_option linter.unusedVariables false
set_option linter.unusedSimpArgs false
/-- the number of an owner; below 0: none -/
def fnd (l : List Int) (o : Int) : Int := if o ∈ l then (l.idxOf o : Int) else -1
theorem fnd_some {l : List Int} {o : Int} {i : Nat} (h : l[i]? = some o) (hb : ∀ j, j < i → l[j]? ≠ some o) : fnd l o = i := by
  unfold fnd
  rw [if_pos (mem_of_get h), idxOf_first l o i h hb]
theorem fnd_none {l : List Int} {o : Int} (h : ∀ j, j < l.length → l[j]? ≠ some o) : fnd l o = -1 := by
  unfold fnd
  rw [if_neg (not_mem_all h)]
theorem fnd_in {l : List Int} {o : Int} (h : o ∈ l) : fnd l o = l.idxOf o := by unfold fnd; rw [if_pos h]
theorem fnd_out {l : List Int} {o : Int} (h : o ∉ l) : fnd l o = -1 := by unfold fnd; rw [if_neg h]
/-- a ring without waiters -/
def Rg.zero (n : Nat) : Rg := ⟨n, List.replicate 64 0, 0, 0⟩
theorem Rg.zero_ok {n : Nat} (h : n ≤ 64) : (Rg.zero n).ok := ⟨by simp [Rg.zero], by simp [Rg.zero], by simp [Rg.zero], h, fun x hx => by rw [List.eq_of_mem_replicate hx]; decide⟩
theorem Rg.zero_ws (n : Nat) : (Rg.zero n).ws = [] := by simp [Rg.ws, Rg.zero]
/-- the error of limits -/
def limE (l : List Int) : Int := if l.length < 1 ∨ 8 < l.length then 3 else if ∀ n ∈ l, 0 ≤ n ∧ n ≤ 64 then 0 else 7
def newS (l : List Int) : St := l.map fun n => (n.toNat, [])
def newR (l : List Int) : List Rg := l.map fun n => Rg.zero n.toNat
theorem limE_cases (l : List Int) : limE l = 0 ∨ limE l = 3 ∨ limE l = 7 := by
  unfold limE
  split
  · simp
  · split <;> simp
theorem limE_zero {l : List Int} (h : limE l = 0) : 1 ≤ l.length ∧ l.length ≤ 8 ∧ ∀ n ∈ l, 0 ≤ n ∧ n ≤ 64 := by
  unfold limE at h
  split at h
  · cases h
  · rename_i h1
    split at h
    · rename_i h2
      exact ⟨by omega, by omega, h2⟩
    · cases h
theorem stR_newR (l : List Int) : stR (newR l) = newS l := by
  unfold stR newR newS
  rw [List.map_map]
  refine List.map_congr_left fun n _ => ?_
  simp [Function.comp, Rg.zero_ws]; rfl
theorem newR_ok {l : List Int} (h : limE l = 0) : ∀ r ∈ newR l, r.ok := by
  intro r hr
  obtain ⟨n, hn, rfl⟩ := List.mem_map.1 hr
  have := (limE_zero h).2.2 n hn
  exact Rg.zero_ok (by omega)
theorem newS_ok {l : List Int} (h : limE l = 0) : Ok (newS l) := by
  obtain ⟨h1, h2, h3⟩ := limE_zero h
  refine ⟨by simpa [newS] using h1, by simpa [newS] using h2, fun p hp => ?_⟩
  obtain ⟨n, hn, rfl⟩ := List.mem_map.1 hp
  have := h3 n hn
  exact ⟨by simp only; omega, by simp, by simp, by simp⟩
/-- what Load says of lists, from number i on -/
def loadG : Nat → List (Int × List Int) → Int × Int
  | _, [] => (0, 0)
  | i, (n, w) :: t => if n < (w.length : Int) then ((i : Int), 5) else if ¬ w.Nodup then ((i : Int), 8) else loadG (i + 1) t
def loadE (l : List Int) (w : List (List Int)) : Int × Int := if limE l ≠ 0 then (-1, limE l) else if w.length ≠ l.length then (-1, 3) else loadG 0 (l.zip w)
def loadS (l : List Int) (w : List (List Int)) : St := (l.zip w).map fun p => (p.1.toNat, p.2)
end Go.Wl
