/- Promote: joins and gives, played again: the plain part of the law PromoteJust. -/
import Derived.Test.YtdmaephmkfmehaaGreatDoorP8a
namespace Go.Pm
open Go.Wl Go.Ad Go.Gr Go.Proofs.YtdmaephmkfmehaaGreatDoor
set_option linter.unusedVariables false
/-- steps that all go well -/
inductive Run : St → List Sp → St → Prop
  | nil (S : St) : Run S [] S
  | cons {S T : St} {x : Sp} {l : List Sp} (h : (doS S x).2 = 0) (k : Run (doS S x).1 l T) : Run S (x :: l) T
theorem Run.append {S T U : St} {l m : List Sp} (h : Run S l T) (k : Run T m U) : Run S (l ++ m) U := by
  induction h with
  | nil S => exact k
  | cons h _ ih => exact .cons h (ih k)
theorem Run.fair {S T : St} {l : List Sp} (h : Run S l T) (i : Nat) (m : List Sp) : fairG S i (l ++ m) = fairG T (i + l.length) m := by
  induction h generalizing i with
  | nil S => rfl
  | cons h _ ih =>
    rw [List.cons_append, fairG, if_neg (by simpa using h), ih, List.length_cons]
    congr 1
    omega
theorem Run.end_ {S T : St} {l : List Sp} (h : Run S l T) (i : Nat) : fairG S i l = (-1, 0) := by
  have := h.fair i []
  rw [List.append_nil] at this
  rw [this]; rfl
theorem st_ext {S T : St} (h1 : limsS S = limsS T) (h2 : rowsS S = rowsS T) : S = T := by
  rw [st_eq h1 h2, ← st_eq (S := T) rfl rfl]
/-- one more joins a list -/
theorem join_run {S : St} {s : Nat} {o : Int} (hs : s < S.length) (hl : (wt S s).length < lm S s) (ho : ¬ o ∈ wt S s) : Run S [⟨1, s, o⟩] (put S s (wt S s ++ [o])) := by
  have hi : inS S (s : Int) := ⟨by omega, by omega⟩
  have hj : joinS S (s : Int) o = (put S s (wt S s ++ [o]), (((wt S s).length : Nat) : Int) + 1, 0) := by
    unfold joinS
    rw [if_neg (by simpa using hi), if_neg (by omega), if_neg ho]
  have hd : doS S ⟨1, (s : Int), o⟩ = (put S s (wt S s ++ [o]), 0) := by
    unfold doS
    dsimp only
    rw [if_pos rfl, hj]
  refine .cons (by rw [hd]) ?_
  rw [hd]
  exact .nil _
theorem put_len (S : St) (i : Int) (r : List Int) : (put S i r).length = S.length := by unfold put; simp
theorem lm_put {S : St} {s : Nat} (hs : s < S.length) (r : List Int) : lm (put S s r) s = lm S s := by
  have h1 := limsS_put hs r
  have h2 := limsS_get (S := put S s r) (s := s) (by rw [put_len]; exact hs)
  have h3 := limsS_get (S := S) (s := s) hs
  have h4 : ((lm (put S s r) s : Nat) : Int) = ((lm S s : Nat) : Int) := by
    rw [← h2, ← h3]
    simp only [h1]
  omega
/-- the joins of one list -/
def joins1 (s : Nat) (r : List Int) : List Sp := r.map fun o => ⟨1, s, o⟩
theorem joins1_run : ∀ (r : List Int) {S : St} {s : Nat} (hs : s < S.length) (hl : (wt S s).length + r.length ≤ lm S s) (hn : (wt S s ++ r).Nodup), Run S (joins1 s r) (put S s (wt S s ++ r))
  | [], S, s, hs, hl, hn => by
    have : put S s (wt S s ++ []) = S := st_ext (by rw [limsS_put hs]) (by
      rw [rowsS_put, List.append_nil]
      apply List.ext_getElem?
      intro k
      rw [List.getElem?_set]
      split
      · rename_i h
        subst h
        rw [rowsS_len, if_pos hs, List.getElem?_eq_getElem (by rw [rowsS_len]; exact hs), rowsS_get hs]
      · rfl)
    rw [this]
    exact .nil _
  | o :: r, S, s, hs, hl, hn => by
    rw [List.length_cons] at hl
    have h1 := join_run (o := o) hs (by omega) (fun h => by
      rw [List.nodup_append] at hn
      exact hn.2.2 o h o (List.mem_cons_self ..) rfl)
    have e1 : wt (put S s (wt S s ++ [o])) s = wt S s ++ [o] := wt_put_self hs _
    have h2 := joins1_run r (S := put S s (wt S s ++ [o])) (s := s) (by rw [put_len]; exact hs) (by rw [e1, lm_put hs, List.length_append, List.length_singleton]; omega) (by rw [e1, List.append_assoc]; exact hn)
    rw [e1, List.append_assoc] at h2
    have e2 : put (put S s (wt S s ++ [o])) s (wt S s ++ ([o] ++ r)) = put S s (wt S s ++ o :: r) := st_ext (by rw [limsS_put (by rw [put_len]; exact hs), limsS_put hs, limsS_put hs]) (by rw [rowsS_put, rowsS_put, rowsS_put, List.set_set]; rfl)
    rw [e2] at h2
    exact h1.append h2
/-- the joins of all lists from the s-th on -/
def joinsA : Nat → List (List Int) → List Sp
  | _, [] => []
  | s, r :: t => joins1 s r ++ joinsA (s + 1) t
theorem joinsA_run : ∀ (t : List (List Int)) {S : St} {pre : List (List Int)} (hr : rowsS S = pre ++ t.map fun _ => []) (hl : ∀ (j : Nat) (r : List Int), t[j]? = some r → r.length ≤ lm S ((pre.length + j : Nat) : Int) ∧ r.Nodup), ∃ T, Run S (joinsA pre.length t) T ∧ rowsS T = pre ++ t ∧ limsS T = limsS S
  | [], S, pre, hr, hl => ⟨S, .nil _, by simpa using hr, rfl⟩
  | r :: t, S, pre, hr, hl => by
    have hlen : S.length = pre.length + (t.length + 1) := by rw [← rowsS_len, hr]; simp
    have hs : pre.length < S.length := by omega
    have hw : wt S ((pre.length : Nat) : Int) = [] := by
      rw [← rowsS_get hs]
      simp only [hr]
      rw [List.getElem_append_right (Nat.le_refl _)]
      simp
    obtain ⟨h1, h2⟩ := hl 0 r rfl
    rw [Nat.add_zero] at h1
    have hj := joins1_run r (S := S) (s := pre.length) hs (by rw [hw]; simpa using h1) (by rw [hw]; exact h2)
    rw [hw, List.nil_append] at hj
    have hr2 : rowsS (put S ((pre.length : Nat) : Int) r) = (pre ++ [r]) ++ t.map fun _ => [] := by
      rw [rowsS_put, hr, List.map_cons, List.set_append_right _ _ (Nat.le_refl _)]
      simp
    obtain ⟨T, k1, k2, k3⟩ := joinsA_run t (S := put S ((pre.length : Nat) : Int) r) (pre := pre ++ [r]) hr2 (fun j q hq => by
      have h3 := hl (j + 1) q (by simpa using hq)
      have h4 : ((pre ++ [r]).length + j : Nat) = pre.length + (j + 1) := by simp; omega
      rw [h4]
      refine ⟨?_, h3.2⟩
      have h5 : lm (put S ((pre.length : Nat) : Int) r) ((pre.length + (j + 1) : Nat) : Int) = lm S ((pre.length + (j + 1) : Nat) : Int) := by
        have hj2 : pre.length + (j + 1) < S.length := by
          have := (List.getElem?_eq_some_iff.1 hq).1; omega
        have a1 := limsS_get (S := put S ((pre.length : Nat) : Int) r) (s := pre.length + (j + 1)) (by rw [put_len]; exact hj2)
        have a2 := limsS_get (S := S) (s := pre.length + (j + 1)) hj2
        have a3 := limsS_put hs r
        have a4 : ((lm (put S ((pre.length : Nat) : Int) r) ((pre.length + (j + 1) : Nat) : Int) : Nat) : Int) = ((lm S ((pre.length + (j + 1) : Nat) : Int) : Nat) : Int) := by
          rw [← a1, ← a2]; simp only [a3]
        omega
      rw [h5]; exact h3.1)
    rw [List.length_append, List.length_singleton] at k1
    exact ⟨T, hj.append k1, by rw [k2]; simp, by rw [k3, limsS_put hs]⟩
/-- all the waiters of a house without errors join -/
theorem joins_run {l : List Int} {rows : List (List Int)} (hz : limE l = 0) (h : (loadE l rows).2 = 0) (hlen : rows.length = l.length) : Run (newS l) (joinsA 0 rows) (loadS l rows) := by
  have hG := h
  rw [loadE_go hz hlen, List.drop_zero] at hG
  have hz2 := limE_zero hz
  have hlm : limsS (newS l) = l := lims_newS hz
  have hnl : (newS l).length = l.length := by unfold newS; simp
  obtain ⟨T, h1, h2, h3⟩ := joinsA_run rows (S := newS l) (pre := []) (by
    rw [rowsS_new, List.nil_append, ← hlen]
    clear hG h hz hz2 hlm hnl hlen
    induction rows with
    | nil => rfl
    | cons a t ih => simp [List.replicate_succ, ih]) (fun j r hr => by
      obtain ⟨hj, rfl⟩ := List.getElem?_eq_some_iff.1 hr
      have hm : (l[j]'(by omega), rows[j]) ∈ l.zip rows := by
        refine List.mem_of_getElem? (i := j) ?_
        rw [List.getElem?_eq_getElem (by rw [List.length_zip]; omega)]
        simp
      have h4 := loadG_zero _ _ hG _ hm
      refine ⟨?_, h4.2⟩
      have h5 := limsS_get (S := newS l) (s := j) (by omega)
      simp only [hlm] at h5
      have h6 := h4.1
      dsimp only at h6
      simp only [List.length_nil, Nat.zero_add]
      omega)
  have : T = loadS l rows := st_eq (by rw [h3, hlm]) (by rw [h2]; rfl)
  subst this
  exact h1
/-- a give -/
def give1 (g : Gt) : Sp := ⟨3, g.sec, g.own⟩
theorem give_run {S : St} {g : Gt} {t : List Int} (hi : inS S g.sec) (hw : wt S g.sec = g.own :: t) : Run S [give1 g] (takeS S g.sec).1 ∧ (takeS S g.sec).1.length = S.length ∧ wt (takeS S g.sec).1 g.sec = t ∧ ∀ j : Int, 0 ≤ j → j ≠ g.sec → wt (takeS S g.sec).1 j = wt S j := by
  have h1 : (firstS S g.sec).2 = 0 := by unfold firstS; rw [if_neg (by simpa using hi), if_neg (by rw [hw]; simp)]
  have h2 : placeS S g.sec g.own = (1, 0) := by unfold placeS; rw [if_neg (by simpa using hi), if_pos (by rw [hw]; simp), hw]; simp
  have h3 : (takeS S g.sec).2.2 = 0 := by
    unfold takeS
    rw [if_neg (by simpa using hi), if_neg (by rw [hw]; simp)]
  have hd : doS S (give1 g) = ((takeS S g.sec).1, 0) := by
    unfold doS give1
    dsimp only
    rw [if_neg (by decide), if_neg (by decide), if_pos rfl, if_neg (by simpa using h1), if_neg (by rw [h2]; simp), if_neg (by rw [h2]; simp)]
  obtain ⟨-, a, b⟩ := take_wt h3
  rw [hw] at a
  have a2 := (List.cons.inj a).2
  refine ⟨.cons (by rw [hd]) (by rw [hd]; exact .nil _), take_len _ _, a2.symm, b⟩
theorem gives_run : ∀ (X : List Gt) {S : St} {W : Int → List Int} (hi : ∀ g ∈ X, inS S g.sec) (hw : ∀ s : Int, 0 ≤ s → wt S s = gotBy s X ++ W s) (k : Nat), ∃ T, Run S ((X.take k).map give1) T ∧ T.length = S.length ∧ ∀ s : Int, 0 ≤ s → wt T s = gotBy s (X.drop k) ++ W s
  | X, S, W, hi, hw, 0 => ⟨S, .nil _, rfl, by simpa using hw⟩
  | [], S, W, hi, hw, k + 1 => ⟨S, .nil _, rfl, by simpa using hw⟩
  | g :: X, S, W, hi, hw, k + 1 => by
    have hg := hi g (List.mem_cons_self ..)
    have h1 : wt S g.sec = g.own :: (gotBy g.sec X ++ W g.sec) := by
      rw [hw _ hg.1]; simp [gotBy]
    obtain ⟨r1, r2, r3, r4⟩ := give_run hg h1
    obtain ⟨T, t1, t2, t3⟩ := gives_run X (S := (takeS S g.sec).1) (W := W) (fun y hy => by
      have := hi y (List.mem_cons_of_mem _ hy)
      exact ⟨this.1, by rw [r2]; exact this.2⟩) (fun s hs => by
      by_cases e : s = g.sec
      · subst e; exact r3
      · rw [r4 s hs e, hw s hs]
        have e' : (g.sec == s) = false := beq_eq_false_iff_ne.2 (fun h => e h.symm)
        unfold gotBy
        rw [List.filter_cons, e']
        rfl) k
    exact ⟨T, by rw [List.take_succ_cons, List.map_cons]; exact r1.append t1, by omega, by simpa using t3⟩
end Go.Pm
