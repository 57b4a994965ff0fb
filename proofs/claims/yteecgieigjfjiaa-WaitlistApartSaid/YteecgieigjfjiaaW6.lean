/- Lists of waiters, in plain lists: one section. -/
import Derived.Test.YteecgieigjfjiaaW5
namespace Go.Wl
set_option linter.unusedVariables false
set_option linter.unusedSimpArgs false
abbrev S1 (n : Nat) (ws : List Int) : St := [(n, ws)]
theorem in1 (n : Nat) (ws : List Int) : inS (S1 n ws) 0 := ⟨by decide, by simp⟩
theorem lm1 (n : Nat) (ws : List Int) : lm (S1 n ws) 0 = n := rfl
theorem wt1 (n : Nat) (ws : List Int) : wt (S1 n ws) 0 = ws := rfl
theorem put1 (n : Nat) (ws w : List Int) : put (S1 n ws) 0 w = S1 n w := rfl
theorem join1_full {n : Nat} {ws : List Int} (o : Int) (h : ws.length = n) : joinS (S1 n ws) 0 o = (S1 n ws, 0, 5) := by
  unfold joinS
  rw [if_neg (fun h => h (in1 n ws)), wt1, lm1, if_pos h]
theorem join1_twice {n : Nat} {ws : List Int} {o : Int} (h : ws.length ≠ n) (ho : o ∈ ws) : joinS (S1 n ws) 0 o = (S1 n ws, 0, 8) := by
  unfold joinS
  rw [if_neg (fun h => h (in1 n ws)), wt1, lm1, if_neg h, if_pos ho]
theorem join1_ok {n : Nat} {ws : List Int} {o : Int} (h : ws.length ≠ n) (ho : o ∉ ws) : joinS (S1 n ws) 0 o = (S1 n (ws ++ [o]), (ws.length : Int) + 1, 0) := by
  unfold joinS
  rw [if_neg (fun h => h (in1 n ws)), wt1, lm1, if_neg h, if_neg ho, put1]
theorem leave1_no {n : Nat} {ws : List Int} {o : Int} (ho : o ∉ ws) : leaveS (S1 n ws) 0 o = (S1 n ws, 4) := by
  unfold leaveS
  rw [if_neg (fun h => h (in1 n ws)), wt1, if_neg ho]
theorem leave1_ok {n : Nat} {ws : List Int} {o : Int} (ho : o ∈ ws) : leaveS (S1 n ws) 0 o = (S1 n (ws.eraseIdx (ws.idxOf o)), 0) := by
  unfold leaveS
  rw [if_neg (fun h => h (in1 n ws)), wt1, if_pos ho, put1]
theorem take1_no (n : Nat) : takeS (S1 n []) 0 = (S1 n [], 0, 4) := by
  unfold takeS
  rw [if_neg (fun h => h (in1 n [])), wt1, if_pos rfl]
theorem take1_ok (n : Nat) (x : Int) (t : List Int) : takeS (S1 n (x :: t)) 0 = (S1 n t, x, 0) := by
  unfold takeS
  rw [if_neg (fun h => h (in1 n (x :: t))), wt1, if_neg (by simp), put1]; rfl
theorem len1 (n : Nat) (ws : List Int) : lenS (S1 n ws) 0 = ((ws.length : Int), 0) := by
  unfold lenS
  rw [if_neg (fun h => h (in1 n ws)), wt1]
theorem place1_no {n : Nat} {ws : List Int} {o : Int} (ho : o ∉ ws) : placeS (S1 n ws) 0 o = (0, 4) := by
  unfold placeS
  rw [if_neg (fun h => h (in1 n ws)), wt1, if_neg ho]
theorem place1_ok {n : Nat} {ws : List Int} {o : Int} (ho : o ∈ ws) : placeS (S1 n ws) 0 o = ((ws.idxOf o : Int) + 1, 0) := by
  unfold placeS
  rw [if_neg (fun h => h (in1 n ws)), wt1, if_pos ho]
theorem first1_no (n : Nat) : firstS (S1 n []) 0 = (0, 4) := by
  unfold firstS
  rw [if_neg (fun h => h (in1 n [])), wt1, if_pos rfl]
theorem first1_ok (n : Nat) (x : Int) (t : List Int) : firstS (S1 n (x :: t)) 0 = (x, 0) := by
  unfold firstS
  rw [if_neg (fun h => h (in1 n (x :: t))), wt1, if_neg (by simp)]; rfl
/-- a call changes the waiters of one section only so -/
inductive Step : List Int → List Int → Prop
  | same (w : List Int) : Step w w
  | app (w : List Int) (o : Int) : o ∉ w → Step w (w ++ [o])
  | del (w : List Int) (i : Nat) : Step w (w.eraseIdx i)
/-- who stays does not come later -/
theorem Step.idx {w w' : List Int} (h : Step w w') (hn : w.Nodup) {o : Int} (ho : o ∈ w) (ho' : o ∈ w') : w'.idxOf o ≤ w.idxOf o := by
  cases h with
  | same => exact Nat.le_refl _
  | app x _ => rw [idxOf_app ho]; exact Nat.le_refl _
  | del i => exact idxOf_erase hn ho'
end Go.Wl
