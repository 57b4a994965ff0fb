/- Promote: joins and gives, and two of one section turned: what Fair says. -/
import Derived.Test.YtdmaephmkfmehaaGreatDoorP10a
namespace Go.Pm
open Go.Wl Go.Ad Go.Gr Go.Proofs.YtdmaephmkfmehaaGreatDoor
set_option linter.unusedVariables false
/-- all joins, then what has been granted -/
def playL (rows : List (List Int)) (X : List Gt) : List Sp := joinsA 0 rows ++ X.map give1
theorem doS_late {T : St} {g : Gt} {o : Int} {t : List Int} (hi : inS T g.sec) (hw : wt T g.sec = o :: t) (hne : g.own ≠ o) (hm : g.own ∈ t) : (doS T (give1 g)).2 = 7 := by
  have h1 : (firstS T g.sec).2 = 0 := by unfold firstS; rw [if_neg (by simpa using hi), if_neg (by rw [hw]; simp)]
  have h2 : placeS T g.sec g.own = ((((wt T g.sec).idxOf g.own : Nat) : Int) + 1, 0) := by unfold placeS; rw [if_neg (by simpa using hi), if_pos (by rw [hw]; exact List.mem_cons_of_mem _ hm)]
  have h3 : (wt T g.sec).idxOf g.own = t.idxOf g.own + 1 := by rw [hw, List.idxOf_cons, show (o == g.own) = false from beq_eq_false_iff_ne.2 (fun e => hne e.symm)]; rfl
  unfold doS give1
  dsimp only
  rw [if_neg (by decide), if_neg (by decide), if_pos rfl, if_neg (by simpa using h1), if_neg (by rw [h2]; simp), if_pos (by rw [h2, h3]; dsimp only; omega)]
/-- what is known of a house and what has been granted -/
structure Play (v : Vn) (rows : List (List Int)) (R : Rs) : Prop where
  chk : (chk v).2 = 0
  joins : Run (newS (qs v)) (joinsA 0 rows) (loadS (qs v) rows)
  sec : ∀ g ∈ R.gr, inS (loadS (qs v) rows) g.sec
  ws : ∀ s : Int, 0 ≤ s → wt (loadS (qs v) rows) s = gotBy s R.gr ++ wt R.S s
  nd : ∀ s : Int, inS (loadS (qs v) rows) s → (wt (loadS (qs v) rows) s).Nodup
theorem play_offer {v : Vn} {rows : List (List Int)} {seats : List Int} {now : Int} (h : offE v rows seats now = 0) (hk : Ok (loadS (qs v) rows)) : Play v rows (offO v (addT now v.ttl) (loadS (qs v) rows) seats) := by
  obtain ⟨h1, h2⟩ := offE_zero h
  obtain ⟨h3, h4, h5⟩ := opE_zero h1
  obtain ⟨h6, -, -⟩ := seatsG_zero h2
  have hl := loadS_len h4
  obtain ⟨X, Y, hL⟩ := offO_later v (addT now v.ttl) (loadS (qs v) rows) seats 0
  refine ⟨h3, joins_run (limE_load h4) h4 hl.2, fun g hg => ?_, fun s hs => by
    obtain ⟨k, rfl⟩ : ∃ k : Nat, s = k := ⟨s.toNat, by omega⟩
    exact (offO_ws v (addT now v.ttl) (loadS (qs v) rows) seats k).symm, fun s hs => ?_⟩
  · have e : (offO v (addT now v.ttl) (loadS (qs v) rows) seats).gr = X := by rw [hL.gr]; rfl
    rw [e] at hg
    obtain ⟨a, b, -⟩ := hL.got g hg
    have h7 := secOf_in h3 (h6 _ (by simpa using a))
    have h8 := qs_len v
    exact ⟨by rw [b]; exact h7.1, by rw [b]; have := h7.2; omega⟩
  · obtain ⟨k, rfl⟩ : ∃ k : Nat, s = k := ⟨s.toNat, by have := hs.1; omega⟩
    have hlt : k < (loadS (qs v) rows).length := by have := hs.2; omega
    have := (hk.all _ (List.getElem_mem hlt)).nod
    unfold wt
    simpa [List.getD_eq_getElem?_getD, hlt] using this
theorem play_to {v : Vn} {rows : List (List Int)} {R : Rs} (h : Play v rows R) (k : Nat) : ∃ T, Run (newS (qs v)) (joinsA 0 rows ++ (R.gr.take k).map give1) T ∧ T.length = (loadS (qs v) rows).length ∧ ∀ s : Int, 0 ≤ s → wt T s = gotBy s (R.gr.drop k) ++ wt R.S s := by
  obtain ⟨T, a, b, c⟩ := gives_run R.gr (W := fun s => wt R.S s) h.sec h.ws k
  exact ⟨T, h.joins.append a, b, c⟩
theorem play_fair {v : Vn} {rows : List (List Int)} {R : Rs} (h : Play v rows R) (hl : (playL rows R.gr).length ≤ 1000) : fairE v (playL rows R.gr) = (-1, 0) := by
  obtain ⟨T, a, -, -⟩ := play_to h R.gr.length
  rw [List.take_length] at a
  unfold fairE
  rw [if_neg (by simpa using h.chk), if_neg (by omega)]
  exact a.end_ 0
/-- two of one section turned: the first of them cannot be given -/
theorem play_turned {v : Vn} {rows : List (List Int)} {R : Rs} (h : Play v rows R) (hl : (playL rows R.gr).length ≤ 1000) {i j : Nat} {p q : Gt} (hij : i < j) (hp : R.gr[i]? = some p) (hq : R.gr[j]? = some q) (hs : q.sec = p.sec) :
    fairE v (((playL rows R.gr).set ((joinsA 0 rows).length + i) (give1 q)).set ((joinsA 0 rows).length + j) (give1 p)) = ((((joinsA 0 rows).length + i : Nat) : Int), 7) := by
  obtain ⟨T, a, b, c⟩ := play_to h i
  obtain ⟨hi, hp2⟩ := List.getElem?_eq_some_iff.1 hp
  obtain ⟨hj, hq2⟩ := List.getElem?_eq_some_iff.1 hq
  have hps := h.sec p (List.mem_of_getElem? hp)
  -- the list as what comes ahead, the turned one, and the rest
  obtain ⟨rest, hrest⟩ : ∃ rest, ((playL rows R.gr).set ((joinsA 0 rows).length + i) (give1 q)).set ((joinsA 0 rows).length + j) (give1 p) = (joinsA 0 rows ++ (R.gr.take i).map give1) ++ give1 q :: rest := by
    refine ⟨(((R.gr.map give1).set i (give1 q)).set j (give1 p)).drop (i + 1), ?_⟩
    unfold playL
    rw [List.set_append_right _ _ (by omega), List.set_append_right _ _ (by omega), List.append_assoc]
    congr 1
    rw [show (joinsA 0 rows).length + i - (joinsA 0 rows).length = i by omega, show (joinsA 0 rows).length + j - (joinsA 0 rows).length = j by omega]
    apply List.ext_getElem?
    intro k
    rcases Nat.lt_trichotomy k i with hk | hk | hk
    · rw [List.getElem?_append_left (by rw [List.length_map, List.length_take]; omega), List.getElem?_set_ne (by omega), List.getElem?_set_ne (by omega), List.getElem?_map, List.getElem?_map, List.getElem?_take_of_lt hk]
    · subst hk
      rw [List.getElem?_append_right (by rw [List.length_map, List.length_take]; omega), List.length_map, List.length_take, show k - min k R.gr.length = 0 by omega, List.getElem?_set_ne (by omega), List.getElem?_set_self (by rw [List.length_map]; exact hi)]
      rfl
    · rw [List.getElem?_append_right (by rw [List.length_map, List.length_take]; omega), List.length_map, List.length_take]
      obtain ⟨m, rfl⟩ : ∃ m, k = i + 1 + m := ⟨k - i - 1, by omega⟩
      rw [show i + 1 + m - min i R.gr.length = m + 1 by omega, List.getElem?_cons_succ, List.getElem?_drop]
  unfold fairE
  rw [if_neg (by simpa using h.chk), if_neg (by rw [List.length_set, List.length_set]; omega), hrest, a.fair 0]
  -- what waits there
  have hw := c p.sec hps.1
  have hd : R.gr.drop i = p :: R.gr.drop (i + 1) := by rw [List.drop_eq_getElem_cons hi, hp2]
  have hg : gotBy p.sec (R.gr.drop i) = p.own :: gotBy p.sec (R.gr.drop (i + 1)) := by rw [hd]; simp [gotBy]
  have hqm : q ∈ R.gr.drop (i + 1) := by
    refine List.mem_of_getElem? (i := j - (i + 1)) ?_
    rw [List.getElem?_drop, show i + 1 + (j - (i + 1)) = j by omega, hq]
  have hqo : q.own ∈ gotBy p.sec (R.gr.drop (i + 1)) := by
    unfold gotBy
    exact List.mem_map_of_mem (List.mem_filter.2 ⟨hqm, by simpa using hs⟩)
  rw [hg, List.cons_append] at hw
  have hnd := h.nd p.sec hps
  rw [h.ws p.sec hps.1, ← List.take_append_drop i R.gr, gotBy_append, hg, List.append_assoc, List.cons_append] at hnd
  have hnd2 := (List.nodup_cons.1 (List.nodup_append.1 hnd).2.1).1
  have h7 : (doS T (give1 q)).2 = 7 := doS_late (by rw [hs]; exact ⟨hps.1, by have := hps.2; omega⟩) (by rw [hs]; exact hw) (fun e => hnd2 (by rw [← e]; exact List.mem_append_left _ hqo)) (List.mem_append_left _ hqo)
  rw [fairG, if_pos (by rw [h7]; decide), h7]
  congr 1
  rw [List.length_append, List.length_map, List.length_take]
  omega
end Go.Pm
