/- Texts put together: Z0 Z3 Z2 Z1. -/
import Derived.Test.YtdmaephmkfmehaaGreatDoorGe
import Derived.Test.YtdmaephmkfmehaaGreatDoorGf
import Derived.Test.YtdmaephmkfmehaaGreatDoorGi
import Derived.Test.YtdmaephmkfmehaaGreatDoorGm
import Derived.Test.YtdmaephmkfmehaaGreatDoorGa
import Derived.Test.YtdmaephmkfmehaaGreatDoorGb
namespace Go.Pm
open Go.Ad Go.Wl
set_option linter.unusedVariables false
/-- a grant -/
structure Gt where
  seat : Int
  sec : Int
  own : Int
  dl : Int
/-- what has become of seats -/
structure Rs where
  gr : List Gt
  S : St
  fr : List Int
/-- the section of a seat -/
def secOf (v : Vn) (x : Int) : Int := ((Go.Proofs.YtdmaephmkfmehaaGreatDoor.plX v x).sec : Nat)
def stepO (v : Vn) (dl : Int) (R : Rs) (x : Int) : Rs :=
  if (takeS R.S (secOf v x)).2.2 = 0 then ⟨R.gr ++ [⟨x, secOf v x, (takeS R.S (secOf v x)).2.1, dl⟩], (takeS R.S (secOf v x)).1, R.fr⟩ else ⟨R.gr, R.S, R.fr ++ [x]⟩
def offO (v : Vn) (dl : Int) (S : St) (l : List Int) : Rs := l.foldl (stepO v dl) ⟨[], S, []⟩
theorem offO_nil (v : Vn) (dl : Int) (S : St) : offO v dl S [] = ⟨[], S, []⟩ := rfl
theorem offO_snoc (v : Vn) (dl : Int) (S : St) (l : List Int) (x : Int) : offO v dl S (l ++ [x]) = stepO v dl (offO v dl S l) x := by simp [offO, List.foldl_append]
theorem offO_snoc' {v : Vn} {dl : Int} {S : St} {l : List Int} {i : Nat} (hi : i < l.length) : offO v dl S (l.take (i + 1)) = stepO v dl (offO v dl S (l.take i)) l[i] := by
  rw [List.take_succ_eq_append_getElem hi, offO_snoc]
theorem step_got {v : Vn} {dl : Int} {R : Rs} {x : Int} (h : (takeS R.S (secOf v x)).2.2 = 0) : stepO v dl R x = ⟨R.gr ++ [⟨x, secOf v x, (takeS R.S (secOf v x)).2.1, dl⟩], (takeS R.S (secOf v x)).1, R.fr⟩ := by unfold stepO; rw [if_pos h]
theorem step_free {v : Vn} {dl : Int} {R : Rs} {x : Int} (h : (takeS R.S (secOf v x)).2.2 ≠ 0) : stepO v dl R x = ⟨R.gr, R.S, R.fr ++ [x]⟩ := by unfold stepO; rw [if_neg h]
theorem take_bad {S : St} {i : Int} (h : (takeS S i).2.2 ≠ 0) : takeS S i = (S, 0, 4) := by
  unfold takeS at h ⊢
  split
  · rfl
  · rename_i h1
    rw [if_neg h1] at h
    split
    · rfl
    · rename_i h2
      rw [if_neg h2] at h
      exact absurd rfl h
theorem takeE_cases (S : St) (i : Int) : (takeS S i).2.2 = 0 ∨ (takeS S i).2.2 = 4 := by
  by_cases h : (takeS S i).2.2 = 0
  · exact .inl h
  · rw [take_bad h]; exact .inr rfl
theorem take_len (S : St) (i : Int) : (takeS S i).1.length = S.length := by
  unfold takeS
  split
  · rfl
  · split
    · rfl
    · simp [put]
theorem offO_len (v : Vn) (dl : Int) (S : St) (l : List Int) : (offO v dl S l).S.length = S.length := by
  have : ∀ (l : List Int) (R : Rs), (l.foldl (stepO v dl) R).S.length = R.S.length := by
    intro l
    induction l with
    | nil => intro R; rfl
    | cons x l ih =>
      intro R
      rw [List.foldl_cons, ih]
      unfold stepO; split
      · exact take_len _ _
      · rfl
  exact this l ⟨[], S, []⟩
theorem stepO_ok {v : Vn} {dl : Int} {R : Rs} (x : Int) (h : Ok R.S) : Ok (stepO v dl R x).S := by
  unfold stepO; split
  · exact take_ok h _
  · exact h
theorem offO_ok {v : Vn} {dl : Int} {S : St} (h : Ok S) (l : List Int) : Ok (offO v dl S l).S := by
  unfold offO
  have : ∀ (l : List Int) (R : Rs), Ok R.S → Ok (l.foldl (stepO v dl) R).S := by
    intro l
    induction l with
    | nil => intro R h; exact h
    | cons x l ih => intro R h; exact ih _ (stepO_ok x h)
  exact this l _ h
/-- the numbers of what became of seats -/
theorem step_many (v : Vn) (dl : Int) (R : Rs) (x : Int) : (stepO v dl R x).gr.length + (stepO v dl R x).fr.length = R.gr.length + R.fr.length + 1 := by
  unfold stepO; split
  · simp; omega
  · simp; omega
theorem offO_many (v : Vn) (dl : Int) (S : St) (l : List Int) : (offO v dl S l).gr.length + (offO v dl S l).fr.length = l.length := by
  have : ∀ (l : List Int) (R : Rs), (l.foldl (stepO v dl) R).gr.length + (l.foldl (stepO v dl) R).fr.length = R.gr.length + R.fr.length + l.length := by
    intro l
    induction l with
    | nil => intro R; rfl
    | cons x l ih => intro R; rw [List.foldl_cons, ih, step_many, List.length_cons]; omega
  have := this l ⟨[], S, []⟩
  simpa [offO] using this
/-- the limits of the lists of a venue -/
def qs (v : Vn) : List Int := v.secs.map Sc.queue
theorem qs_len (v : Vn) : (qs v).length = v.secs.length := by simp [qs]
/-- what is wrong with a house -/
def opE (v : Vn) (rows : List (List Int)) (now : Int) : Int := if (chk v).2 ≠ 0 then (chk v).2 else if (loadE (qs v) rows).2 ≠ 0 then (loadE (qs v) rows).2 else if now < 0 then 7 else 0
theorem opE_zero {v : Vn} {rows : List (List Int)} {now : Int} (h : opE v rows now = 0) : (chk v).2 = 0 ∧ (loadE (qs v) rows).2 = 0 ∧ 0 ≤ now := by
  unfold opE at h
  split at h
  · rename_i h1; exact absurd h h1
  · rename_i h1
    split at h
    · rename_i h2; exact absurd h h2
    · rename_i h2
      split at h
      · cases h
      · exact ⟨by simpa using h1, by simpa using h2, by omega⟩
/-- the limits of a venue without errors are limits -/
theorem qs_ok {v : Vn} (h : VnOk v) : limE (qs v) = 0 := by
  unfold limE
  rw [qs_len, if_neg (by have := h.pos; have := h.few; omega), if_pos]
  intro n hn
  obtain ⟨s, hs, rfl⟩ := List.mem_map.1 hn
  exact (h.sec s hs).que
/-- what is wrong with seats, of which some have been met -/
def seatsG (v : Vn) : List Int → List Int → Int
  | _, [] => 0
  | met, x :: l => if Go.Proofs.YtdmaephmkfmehaaGreatDoor.plE v x ≠ 0 then 4 else if x ∈ met then 8 else seatsG v (met ++ [x]) l
theorem seatsG_none {v : Vn} {l : List Int} {i : Nat} {x : Int} (hx : l[i]? = some x) (h : Go.Proofs.YtdmaephmkfmehaaGreatDoor.plE v x ≠ 0) : seatsG v (l.take i) (l.drop i) = 4 := by
  obtain ⟨hi, rfl⟩ := List.getElem?_eq_some_iff.1 hx
  rw [List.drop_eq_getElem_cons hi, seatsG, if_pos h]
theorem seatsG_twice {v : Vn} {l : List Int} {i : Nat} {x : Int} (hx : l[i]? = some x) (h : Go.Proofs.YtdmaephmkfmehaaGreatDoor.plE v x = 0) (h2 : x ∈ l.take i) : seatsG v (l.take i) (l.drop i) = 8 := by
  obtain ⟨hi, rfl⟩ := List.getElem?_eq_some_iff.1 hx
  rw [List.drop_eq_getElem_cons hi, seatsG, if_neg (by simpa using h), if_pos h2]
theorem seatsG_next {v : Vn} {l : List Int} {i : Nat} {x : Int} (hx : l[i]? = some x) (h : Go.Proofs.YtdmaephmkfmehaaGreatDoor.plE v x = 0) (h2 : ¬ x ∈ l.take i) : seatsG v (l.take i) (l.drop i) = seatsG v (l.take (i + 1)) (l.drop (i + 1)) := by
  obtain ⟨hi, rfl⟩ := List.getElem?_eq_some_iff.1 hx
  rw [List.drop_eq_getElem_cons hi, seatsG, if_neg (by simpa using h), if_neg h2, List.take_succ_eq_append_getElem hi]
theorem seatsG_end {v : Vn} {l : List Int} {i : Nat} (h : l.length ≤ i) : seatsG v (l.take i) (l.drop i) = 0 := by
  rw [List.drop_eq_nil_of_le h]; rfl
/-- what Offer answers: an error, or what has become of the seats -/
def offE (v : Vn) (rows : List (List Int)) (seats : List Int) (now : Int) : Int := if opE v rows now ≠ 0 then opE v rows now else seatsG v [] seats
/-- all seats are there, none twice -/
theorem seatsG_zero {v : Vn} : ∀ {l met : List Int}, seatsG v met l = 0 → (∀ x ∈ l, Go.Proofs.YtdmaephmkfmehaaGreatDoor.plE v x = 0) ∧ l.Nodup ∧ ∀ x ∈ l, x ∉ met
  | [], _, _ => ⟨(fun x hx => by cases hx), List.nodup_nil, fun x hx => by cases hx⟩
  | x :: l, met, h => by
    unfold seatsG at h
    split at h
    · cases h
    · rename_i h1
      split at h
      · cases h
      · rename_i h2
        obtain ⟨a, b, c⟩ := seatsG_zero h
        refine ⟨fun y hy => ?_, List.nodup_cons.2 ⟨fun hm => c x hm (by simp), b⟩, fun y hy => ?_⟩
        · rcases List.mem_cons.1 hy with rfl | hy
          · simpa using h1
          · exact a y hy
        · rcases List.mem_cons.1 hy with rfl | hy
          · exact h2
          · exact fun hm => c y hy (List.mem_append_left _ hm)
/-- a step of a waiter -/
structure Sp where
  kind : Int
  sec : Int
  own : Int
/-- lists after a step, and what is wrong with it -/
def doS (S : St) (x : Sp) : St × Int :=
  if x.kind = 1 then ((joinS S x.sec x.own).1, (joinS S x.sec x.own).2.2)
  else if x.kind = 2 then leaveS S x.sec x.own
  else if x.kind = 3 then
    (if (firstS S x.sec).2 ≠ 0 then (S, (firstS S x.sec).2)
     else if (placeS S x.sec x.own).2 ≠ 0 then (S, 8)
     else if 1 < (placeS S x.sec x.own).1 then (S, 7)
     else ((takeS S x.sec).1, 0))
  else (S, 2)
/-- the first step that is not fair -/
def fairG : St → Nat → List Sp → Int × Int
  | _, _, [] => (-1, 0)
  | S, i, x :: l => if (doS S x).2 ≠ 0 then ((i : Int), (doS S x).2) else fairG (doS S x).1 (i + 1) l
/-- what Fair answers -/
def fairE (v : Vn) (l : List Sp) : Int × Int := if (chk v).2 ≠ 0 then (-1, (chk v).2) else if 1000 < l.length then (-1, 3) else fairG (newS (qs v)) 0 l
theorem fairG_bad {S : St} {l : List Sp} {i : Nat} {x : Sp} (hx : l[i]? = some x) (h : (doS S x).2 ≠ 0) : fairG S i (l.drop i) = ((i : Int), (doS S x).2) := by
  obtain ⟨hi, rfl⟩ := List.getElem?_eq_some_iff.1 hx
  rw [List.drop_eq_getElem_cons hi, fairG, if_pos h]
theorem fairG_next {S : St} {l : List Sp} {i : Nat} {x : Sp} (hx : l[i]? = some x) (h : (doS S x).2 = 0) : fairG S i (l.drop i) = fairG (doS S x).1 (i + 1) (l.drop (i + 1)) := by
  obtain ⟨hi, rfl⟩ := List.getElem?_eq_some_iff.1 hx
  rw [List.drop_eq_getElem_cons hi]
  conv => lhs; unfold fairG
  rw [if_neg (by simpa using h)]
theorem fairG_end {S : St} {l : List Sp} {i : Nat} (h : l.length ≤ i) : fairG S i (l.drop i) = (-1, 0) := by
  rw [List.drop_eq_nil_of_le h]; rfl
end Go.Pm
namespace Go.Proofs.YtdmaephmkfmehaaGreatDoor
open Go.RowKit Go.Gr Go.Hp Go.Ad Go.Wl Go.Pm
set_option linter.unusedVariables false
set_option linter.unusedSimpArgs false
attribute [local go_sem] rdOp rdAt rdUpon Cls forall_fr
/-- the cells of a grant -/
def gtC (g : Gt) : List Value := [.int .i64 g.seat, .int .i64 g.sec, .int .u32 g.own, .int .i64 g.dl]
def gtV (l : List Gt) : List (List Value) := l.map gtC
theorem gtV_len (l : List Gt) : (gtV l).length = l.length := by simp [gtV]
theorem gtV_at {l : List Gt} {i : Nat} {x : Gt} (h : l[i]? = some x) : (gtV l)[i]? = some (gtC x) := by simp [gtV, h]
theorem gtV_pos (l : List Gt) : ∀ r ∈ gtV l, 0 < r.length := fun r hr => by
  obtain ⟨x, _, rfl⟩ := List.mem_map.1 hr
  exact Nat.succ_pos _
theorem gtV_l (l : List Gt) : ∀ r ∈ gtV l, r.length = 4 := fun r hr => by
  obtain ⟨x, _, rfl⟩ := List.mem_map.1 hr
  rfl
theorem gtC_one (g : Gt) : ∀ u ∈ gtC g, u.oneCell' = true := by
  intro u hu
  simp only [gtC, List.mem_cons, List.not_mem_nil, or_false] at hu
  rcases hu with rfl | rfl | rfl | rfl <;> rfl
theorem gtV_snoc (l : List Gt) (g : Gt) : gtV l ++ [gtC g] = gtV (l ++ [g]) := by simp [gtV]
theorem i64s_snoc (l : List Int) (x : Int) : i64s l ++ [.int .i64 x] = i64s (l ++ [x]) := by simp [i64s]
theorem gt_at {w : World} {A : Option Addr} {l : List Gt} (h : RdM w A 4 (gtV l)) {i : Nat} {x : Gt} (hx : l[i]? = some x) : ∃ g off, A = some ⟨g, off, none⟩ ∧ At5 w g (off + i * 4) (gtC x) :=
  h.at5 (gtV_pos l) (gtV_at hx)
/-- an answer: what has ended, who gets what, who waits, what stays free -/
structure An where
  en : List Ho
  gr : List Gt
  rows : List (List Int)
  fr : List Int
def An0 : An := ⟨[], [], [], []⟩
/-- the cells of a result -/
abbrev rsC (E G B F : Option Addr) (n m k l ce cg cb cf : Nat) : List Value := [.slice E n ce, .slice G m cg, .slice B k cb, .slice F l cf]
/-- a result that says so -/
def IsRes (bb : Bool) (w : World) (x : Value) (a : An) : Prop := ∃ (E G B F : Option Addr) (ce cg cb cf : Nat) (vs : List Value),
  x = .agg (rsC E G B F a.en.length a.gr.length a.rows.length a.fr.length ce cg cb cf).toArray ∧ a.en.length ≤ ce ∧ a.gr.length ≤ cg ∧ (bb = true → a.rows.length ≤ cb) ∧ a.fr.length ≤ cf ∧
  RdM w E 2 (hoV a.en) ∧ RdM w G 4 (gtV a.gr) ∧ (AsRows B vs a.rows).p w ∧ Rd w F (i64s a.fr)
theorem asRows_x {B : Option Addr} {vs : List Value} {rows : List (List Int)} {w w' : World} (h : (AsRows B vs rows).p w) (k : Ext w w') : (AsRows B vs rows).p w' := ⟨h.1.ext k, h.2.ext k⟩
theorem IsRes.ext {bb : Bool} {w w' : World} {x : Value} {a : An} (h : IsRes bb w x a) (k : Ext w w') : IsRes bb w' x a := by
  obtain ⟨E, G, B, F, ce, cg, cb, cf, vs, h1, h2, h3, h4, h5, h6, h7, h8, h9⟩ := h
  exact ⟨E, G, B, F, ce, cg, cb, cf, vs, h1, h2, h3, h4, h5, h6.ext k, h7.ext k, asRows_x h8 k, h9.ext k⟩
theorem rdm_nil (w : World) (A : Option Addr) (k : Nat) : RdM w A k [] := fun i r h => by simp at h
theorem rd_nil (w : World) (A : Option Addr) : Rd w A [] := fun i u h => by simp at h
theorem rows_nil (w : World) (B : Option Addr) : (AsRows B [] []).p w := ⟨rd_nil w B, rfl, fun j v r h => by simp at h⟩
theorem res_none (bb : Bool) (w : World) : IsRes bb w (.agg (rsC none none none none 0 0 0 0 0 0 0 0).toArray) An0 :=
  ⟨none, none, none, none, 0, 0, 0, 0, [], rfl, Nat.le_refl _, Nat.le_refl _, fun _ => Nat.le_refl _, Nat.le_refl _, rdm_nil _ _ _, rdm_nil _ _ _, rows_nil _ _, rd_nil _ _⟩
/-- a result, wherever it lies -/
def As.res (bb : Bool) (x : Value) (a : An) (F : Nat → Prop) : As := ⟨F, fun y => (∀ k, F k → k < y.heap.size) ∧ ∀ y' : World, (∀ k, F k → y'.heap[k]? = y.heap[k]?) → IsRes bb y' x a, fun h k hk => h.1 k hk,
  fun {y y'} h e => ⟨fun k hk => by
    have h3 := h.1 k hk
    have h4 := e k hk
    rw [Array.getElem?_eq_getElem h3] at h4
    exact (Array.getElem?_eq_some_iff.1 h4).1, fun z hz => h.2 z (fun k hk => (hz k hk).trans (e k hk))⟩⟩
theorem res_get {bb : Bool} {x : Value} {a : An} {F : Nat → Prop} {y : World} (h : (As.res bb x a F).p y) : IsRes bb y x a := h.2 y (fun _ _ => rfl)
theorem res_as {bb : Bool} {x : Value} {a : An} {G : Nat → Prop} {w0 w : World} {M L : List As} (h : Sep G w0 w (M ++ L)) (hp : ∀ y, (∀ A ∈ M, A.p y) → IsRes bb y x a) : ∃ F, Sep G w0 w (As.res bb x a F :: L) := by
  have hd := List.pairwise_append.1 h.dis
  refine ⟨fun k => ∃ A ∈ M, A.fp k, h.fr, fun A hA => ?_, fun A hA k hk => ?_, List.pairwise_cons.2 ⟨fun B hB k hk => ?_, hd.2.1⟩⟩
  · rcases List.mem_cons.1 hA with rfl | hA
    · exact ⟨fun k ⟨A, hA, hk⟩ => A.lt (h.all A (List.mem_append_left _ hA)) k hk, fun y' hy => hp y' fun A hA => A.loc (h.all A (List.mem_append_left _ hA)) fun k hk => hy k ⟨A, hA, hk⟩⟩
    · exact h.all A (List.mem_append_right _ hA)
  · rcases List.mem_cons.1 hA with rfl | hA
    · obtain ⟨A, hA, hk⟩ := hk
      exact h.own A (List.mem_append_left _ hA) k hk
    · exact h.own A (List.mem_append_right _ hA) k hk
  · obtain ⟨A, hA, hk⟩ := hk
    exact hd.2.2 A hA B hB k hk
/-- the sizes of an answer -/
structure An.few (a : An) : Prop where
  en : a.en.length ≤ 100000
  gr : a.gr.length ≤ 100000
  rows : a.rows.length ≤ 100000
  fr : a.fr.length ≤ 100000
  row : ∀ r ∈ a.rows, r.length ≤ 1000000
theorem an0_few : An0.few := ⟨by decide, by decide, by decide, by decide, fun r hr => by cases hr⟩

set_option maxRecDepth 100000 in
set_option maxHeartbeats 4000000 in
theorem psame_any {bb cc : Bool} {a : An} {x y : Value} (w : World) (hx : IsRes bb w x a) (hy : IsRes cc w y a) (hf : a.few) :
    Calls Tryz.prog 17 #[x, y] w fun e w' => e = .returned (.bool true) ∧ Ext w w' := by
  obtain ⟨E, G, B, F, ce, cg, cb, cf, vs, rfl, h2, h3, h4, h5, h6, h7, h8, h9⟩ := hx
  obtain ⟨E', G', B', F', ce', cg', cb', cf', vs', rfl, k2, k3, k4, k5, k6, k7, k8, k9⟩ := hy
  obtain ⟨f1, f2, f3, f4, f5⟩ := hf
  have HEN := hide (fun (y : World) (k : Ext w y) => hsame_any a.en E E' ce ce' y (h6.ext k) (k6.ext k) f1)
  have HWT := hide (fun (y : World) (k : Ext w y) => same_any a.rows a.rows vs vs' B B' cb cb' y (asRows_x h8 k) (asRows_x k8 k) (by omega) (by omega) f5 f5)
  have HFR := hide (fun (y : World) (k : Ext w y) => ints_same a.fr F F' cf cf' y (h9.ext k) (k9.ext k) h5 k5 (by omega))
  rw [show decide (a.rows = a.rows) = true from decide_eq_true rfl] at HWT
  have HG := hide h7
  have HG' := hide k7
  obtain ⟨n, hn⟩ : ∃ n, a.gr.length = n := ⟨_, rfl⟩
  have HN := hide hn
  rw [hn] at f2 h3 k3 ⊢
  have hn2 : (n : Int) ≤ 100000 := by omega
  clear hn h6 h7 h8 h9 k6 k7 k8 k9 f1 f3 f4 f5 h2 h4 h5 k2 k4 k5
  have K0 := ((Sep.refl No w).add2 34 34 (rsC E G B F a.en.length n a.rows.length a.fr.length ce cg cb cf) (rsC E' G' B' F' a.en.length n a.rows.length a.fr.length ce' cg' cb' cf'))
  generalize a.en.length = n1 at *
  generalize a.rows.length = n2 at *
  generalize a.fr.length = n3 at *
  go_enter Tryz.func17, Tryz.ntmps17
  go_upto_region 1 with fail
  generalize World.alloc _ _ = w1 at K0 ⊢
  obtain ⟨g, hg⟩ : ∃ g, w.heap.size = g := ⟨_, rfl⟩
  obtain ⟨g2, hg2⟩ : ∃ g2, g + 1 = g2 := ⟨_, rfl⟩
  rw [hg, hg2] at K0 ⊢
  clear hg hg2
  have K1 := hide K0
  clear K0
  obtain ⟨c0, c1, c2, c3, cz⟩ := blk4 (K1.out.blk (g := g) (e := 34) (List.Mem.tail _ (List.Mem.head _)))
  obtain ⟨d0, d1, d2, d3, dz⟩ := blk4 (K1.out.blk (g := g2) (e := 34) (List.Mem.head _))
  go_wp2_with fail
  (with_reducible refine (HEN.out _ K1.out.toExt).mono ?_)
  rintro e w2 ⟨rfl, hx⟩
  have K2 := hide (K1.out.ext hx)
  clear K1 hx HEN c0 c1 c2 c3 cz d0 d1 d2 d3 dz
  obtain ⟨c0, c1, c2, c3, cz⟩ := blk4 (K2.out.blk (g := g) (e := 34) (List.Mem.tail _ (List.Mem.head _)))
  obtain ⟨d0, d1, d2, d3, dz⟩ := blk4 (K2.out.blk (g := g2) (e := 34) (List.Mem.head _))
  go_wp2_with fail
  (with_reducible refine (HWT.out _ K2.out.toExt).mono ?_)
  rintro e w3 ⟨rfl, hx⟩
  have K3 := hide (K2.out.ext hx)
  clear K2 hx HWT c0 c1 c2 c3 cz d0 d1 d2 d3 dz
  obtain ⟨c0, c1, c2, c3, cz⟩ := blk4 (K3.out.blk (g := g) (e := 34) (List.Mem.tail _ (List.Mem.head _)))
  obtain ⟨d0, d1, d2, d3, dz⟩ := blk4 (K3.out.blk (g := g2) (e := 34) (List.Mem.head _))
  go_wp2_with fail
  (with_reducible refine (HFR.out _ K3.out.toExt).mono ?_)
  rintro e w4 ⟨rfl, hx⟩
  have K4 := hide (K3.out.ext hx)
  clear K3 hx HFR c0 c1 c2 c3 cz d0 d1 d2 d3 dz
  obtain ⟨c0, c1, c2, c3, cz⟩ := blk4 (K4.out.blk (g := g) (e := 34) (List.Mem.tail _ (List.Mem.head _)))
  obtain ⟨d0, d1, d2, d3, dz⟩ := blk4 (K4.out.blk (g := g2) (e := 34) (List.Mem.head _))
  have e3 : ((n : Int) != (n : Int)) = false := bne_self_eq_false _
  go_wp2_with fail
  clear c0 c1 c2 c3 cz d0 d1 d2 d3 dz e3
  go_loopw [5] (fun v5 wr => ∃ i : Nat, v5 = .int .i64 i ∧ i ≤ n ∧ Hid (Sep No w wr [As.blk g2 34 (rsC E' G' B' F' n1 n n2 n3 ce' cg' cb' cf'), As.blk g 34 (rsC E G B F n1 n n2 n3 ce cg cb cf)])) (fun v5 _ => n - (intOf v5).toNat)
  case atStart => exact ⟨0, rfl, Nat.zero_le _, K4⟩
  case round =>
    clear K4
    obtain ⟨i, rfl, hil, K5⟩ := hrel
    by_cases i1 : i < n
    · have i2 : (i : Int) < (n : Int) := by omega
      have i3 : (i : Int) < (cg : Int) := by omega
      have i4 : (i : Int) < (cg' : Int) := by omega
      obtain ⟨z, hz⟩ := some_of (l := a.gr) (i := i) (by rw [HN.out]; exact i1)
      obtain ⟨c0, c1, c2, c3, cz⟩ := blk4 (K5.out.blk (g := g) (e := 34) (List.Mem.tail _ (List.Mem.head _)))
      go_upto_region 6 with fail
      refine wp_region_wm [0, 1, 2, 3, 4, 5, 6, 7, 8, 9, 10] (by kernel_rfl) (by kernel_rfl) (by kernel_rfl) (by kernel_rfl) ?_
      have K6 := hide K5.out.drew
      clear K5 c0 c1 c2 c3 cz
      generalize wr.drew = wd at *
      obtain ⟨b, off, hA, hax⟩ := gt_at (HG.out.ext K6.out.toExt) hz
      obtain ⟨b', off', hB, hay⟩ := gt_at (HG'.out.ext K6.out.toExt) hz
      subst hA hB
      clear hz
      unfold gtC at hax hay
      obtain ⟨c0, c1, c2, c3, cz⟩ := blk4 (K6.out.blk (g := g) (e := 34) (List.Mem.tail _ (List.Mem.head _)))
      obtain ⟨d0, d1, d2, d3, dz⟩ := blk4 (K6.out.blk (g := g2) (e := 34) (List.Mem.head _))
      iterate 1 (refine wm_rd rfl rfl (fun K hK => ?_); go_simp; refine hK _ ?_; clear hK K)
      refine wm_ld1 rfl rfl 31 (.tmp 44) rfl rfl c1 _ Tryz.underlying31 rfl ?_
      iterate 2 (refine wm_rd rfl rfl (fun K hK => ?_); go_simp; refine hK _ ?_; clear hK K)
      refine wm_ldX rfl rfl 43 (.tmp 47) rfl hax rfl _ Tryz.underlying43 rfl (by kernel_rfl) ?_
      iterate 1 (refine wm_rd rfl rfl (fun K hK => ?_); go_simp; refine hK _ ?_; clear hK K)
      refine wm_ld1 rfl rfl 31 (.tmp 49) rfl rfl d1 _ Tryz.underlying31 rfl ?_
      iterate 2 (refine wm_rd rfl rfl (fun K hK => ?_); go_simp; refine hK _ ?_; clear hK K)
      refine wm_ldX rfl rfl 43 (.tmp 52) rfl hay rfl _ Tryz.underlying43 rfl (by kernel_rfl) ?_
      clear hax hay c0 c1 c2 c3 cz d0 d1 d2 d3 dz
      iterate 1 (refine wm_rd rfl rfl (fun K hK => ?_); go_simp; refine hK _ ?_; clear hK K)
      refine wm_nil ?_
      go_wp2_with fail
      go_roundw
      case rel => exact ⟨i + 1, by go_num, by omega, K6⟩
      case measure => simp [intOf]; omega
    · have i2 : ¬ (i : Int) < (n : Int) := by omega
      obtain ⟨c0, c1, c2, c3, cz⟩ := blk4 (K5.out.blk (g := g) (e := 34) (List.Mem.tail _ (List.Mem.head _)))
      go_wp2_with fail
      go_ret
      exact ⟨rfl, K5.out.toExt⟩
end Go.Proofs.YtdmaephmkfmehaaGreatDoor
namespace Go.Proofs.YtdmaephmkfmehaaGreatDoor
open Go.RowKit Go.Gr Go.Ad Go.Wl Go.Pm
set_option linter.unusedVariables false
set_option linter.unusedSimpArgs false
attribute [local go_sem] rdOp rdAt rdUpon Cls forall_fr
theorem infoIq : (Tryz.prog.info? 3).map (fun i => (i.zero, i.size, i.bytes)) = some (some (.int .i64 0), 1, 8) := by kernel_rfl
theorem qs_take {v : Vn} {i : Nat} {s : Sc} (h : v.secs[i]? = some s) : i64s ((qs v).take i) ++ [.int .i64 s.queue] = i64s ((qs v).take (i + 1)) := by
  rw [List.take_add_one]
  simp [i64s, qs, h]
/-- the cells of a venue -/
abbrev vnC (v : Vn) (A : Option Addr) (c : Nat) : List Value := [.int .i64 v.sh, .int .i64 v.ttl, .int .i64 v.ses, .slice A v.secs.length c]

set_option maxRecDepth 100000 in
set_option maxHeartbeats 2000000 in
theorem queues_any (v : Vn) (A : Option Addr) (c : Nat) (w : World) (h : Secs w A v.secs) (hc : v.secs.length ≤ c) (hl : v.secs.length ≤ 1000) :
    Calls Tryz.prog 31 #[.agg #[.int .i64 v.sh, .int .i64 v.ttl, .int .i64 v.ses, .slice A v.secs.length c]] w fun e w' => ∃ x, e = .returned x ∧ Sep No w w' [As.own 3 x (i64s (qs v))] := by
  obtain ⟨i0, ki, kz0, kz1, kz2⟩ := info_parts infoIq
  have HS := hide (fun (y : World) (k : Ext w y) => h.ext k)
  have HC := hide hc
  have HL := hide hl
  clear h hc hl
  have K0 := (Sep.refl No w).add 24 (vnC v A c)
  go_enter Tryz.func31, Tryz.ntmps31
  go_upto_region 1 with fail
  generalize w.alloc _ = w1 at K0 ⊢
  generalize w.heap.size = g1 at K0 ⊢
  have K1 := hide (K0.nilO 3)
  obtain ⟨c0, c1, c2, c3, cz⟩ := blk4 (K0.blk (g := g1) (e := 24) (List.Mem.head _))
  clear K0
  go_wp2_with fail
  clear c0 c1 c2 c3 cz
  go_loopw [3, 9] (fun v3 v9 wr => ∃ i : Nat, v9 = .int .i64 i ∧ i ≤ v.secs.length ∧ Hid (Sep No w wr [As.own 3 v3 (i64s ((qs v).take i)), As.blk g1 24 (vnC v A c)])) (fun v3 v9 _ => v.secs.length - (intOf v9).toNat)
  case atStart => exact ⟨0, rfl, Nat.zero_le _, K1⟩
  case round =>
    clear K1
    obtain ⟨i, rfl, hil, K2⟩ := hrel
    have h1000 : i ≤ 1000 := by have := HL.out; omega
    by_cases hlt : i < v.secs.length
    · have hli : (i : Int) < (v.secs.length : Int) := by omega
      obtain ⟨s, hs⟩ : ∃ s, v.secs[i]? = some s := ⟨_, List.getElem?_eq_getElem hlt⟩
      obtain ⟨b, off, R, d, hA, hat, hRw, hd⟩ := HS.out _ K2.out.toExt i _ hs
      subst hA
      have HSI := hide (qs_take hs)
      have HQ : Hid ((i64s ((qs v).take i)).length < 1000000000) := hide (by rw [i64s_len, List.length_take]; omega)
      have HLT := hide hlt
      clear hs hlt hRw hd
      have tok1 : True := trivial
      have tok2 : True := trivial
      have tok3 : True := trivial
      go_upto_region 5 with (first
        | (have zz := tok1; clear zz tok1; refine wpList_ldX rfl 100 (.tmp 11) rfl hat rfl _ Tryz.underlying100 rfl (by kernel_rfl) ?_)
        | (have zz := tok2; clear zz tok2; refine wpList_alS K2.out rfl 100 rfl (scC ⟨⟨#[]⟩, [], 0⟩ none 0) (by kernel_rfl) ?_; intro w3 hz3 K3; clear hz3 K2)
        | (have zz := tok3; clear zz tok3; refine wpList_stS [] K3 rfl 100 (.tmp 5) (.tmp 12) rfl rfl (cs := scC s R d) rfl (by kernel_rfl) rfl (by intro u hu; simp only [scC, List.mem_cons, List.not_mem_nil, or_false] at hu; rcases hu with rfl | rfl | rfl <;> rfl) ?_; intro w4 K4; dsimp only [List.nil_append] at K4; clear K3))
      obtain ⟨g5, G5⟩ : ∃ g, wr.heap.size = g := ⟨_, rfl⟩
      rw [G5] at K4 ⊢
      clear G5 hat
      obtain ⟨b0, b1, b2, bz⟩ := blk3 (K4.blk (g := g5) (e := 100) (cs := scC s R d) (List.Mem.head _))
      have tok4 : True := trivial
      go_wp2_with (have zz := tok4; clear zz tok4; refine wpList_pushS [_] K4 rfl (.tmp 13) (.tmp 16) 32 rfl i0 _ 8 Tryz.underlying32 ki kz0 kz1 kz2 rfl rfl rfl (by rfl) HQ.out (by decide) ?_; intro v3' w5 K5; dsimp only [List.nil_append, List.cons_append] at K5; clear K4 b0 b1 b2 bz)
      rw [HSI.out] at K5
      have K6 := hide K5.tail
      clear K5
      go_roundw
      case rel => exact ⟨i + 1, by go_num, HLT.out, K6⟩
      case measure => have := HLT.out; simp [intOf]; omega
    · have hli : ¬ (i : Int) < (v.secs.length : Int) := by omega
      obtain rfl : i = v.secs.length := by omega
      have ht : (qs v).take v.secs.length = qs v := List.take_of_length_le (by rw [qs_len]; exact Nat.le_refl _)
      rw [ht] at K2
      clear hlt ht
      go_wp2_with fail
      go_ret
      exact ⟨_, rfl, K2.out.sub (List.cons_sublist_cons.2 (List.nil_sublist _))⟩

set_option maxRecDepth 100000 in
set_option maxHeartbeats 2000000 in
theorem limits_any (v : Vn) (A : Option Addr) (c : Nat) (w : World) (h : Secs w A v.secs) (hc : v.secs.length ≤ c) (hl : v.secs.length ≤ 1000) :
    Calls Tryz.prog 44 #[.agg #[.int .i64 v.sh, .int .i64 v.ttl, .int .i64 v.ses, .slice A v.secs.length c]] w fun e w' => ∃ x, e = .returned x ∧ Sep No w w' [As.own 3 x (i64s (qs v))] := by
  obtain ⟨i0, ki, kz0, kz1, kz2⟩ := info_parts infoIq
  have HS := hide (fun (y : World) (k : Ext w y) => h.ext k)
  have HC := hide hc
  have HL := hide hl
  clear h hc hl
  have K0 := (Sep.refl No w).add 24 (vnC v A c)
  go_enter Tryz.func44, Tryz.ntmps44
  go_upto_region 1 with fail
  generalize w.alloc _ = w1 at K0 ⊢
  generalize w.heap.size = g1 at K0 ⊢
  have K1 := hide (K0.nilO 3)
  clear K0
  go_wp2_with fail
  go_loopw [3, 4] (fun v3 v4 wr => ∃ i : Nat, v4 = .int .i64 i ∧ i ≤ v.secs.length ∧ Hid (Sep No w wr [As.own 3 v3 (i64s ((qs v).take i)), As.blk g1 24 (vnC v A c)])) (fun v3 v4 _ => v.secs.length - (intOf v4).toNat)
  case atStart => exact ⟨0, rfl, Nat.zero_le _, K1⟩
  case round =>
    clear K1
    obtain ⟨i, rfl, hil, K2⟩ := hrel
    have h1000 : i ≤ 1000 := by have := HL.out; omega
    obtain ⟨c0, c1, c2, c3, cz⟩ := blk4 (K2.out.blk (g := g1) (e := 24) (List.Mem.tail _ (List.Mem.head _)))
    by_cases hlt : i < v.secs.length
    · have hli : (i : Int) < (v.secs.length : Int) := by omega
      obtain ⟨s, hs⟩ : ∃ s, v.secs[i]? = some s := ⟨_, List.getElem?_eq_getElem hlt⟩
      obtain ⟨b, off, R, d, hA, hat, hRw, hd⟩ := HS.out _ K2.out.toExt i _ hs
      subst hA
      have HSI := hide (qs_take hs)
      have HQ : Hid ((i64s ((qs v).take i)).length < 1000000000) := hide (by rw [i64s_len, List.length_take]; omega)
      have hic : (i : Int) < (c : Int) := by have := HC.out; omega
      have x2 := hat 2 _ rfl
      have xz := cell_lt x2
      have HLT := hide hlt
      clear hs hlt hRw hd
      have K3 := K2.out
      clear K2
      have tok4 : True := trivial
      go_wp2_with (have zz := tok4; clear zz tok4; refine wpList_pushS [] K3 rfl (.tmp 12) (.tmp 19) 32 rfl i0 _ 8 Tryz.underlying32 ki kz0 kz1 kz2 rfl rfl rfl (by rfl) HQ.out (by decide) ?_; intro v3' w5 K5; dsimp only [List.nil_append, List.cons_append] at K5; clear K3 c0 c1 c2 c3 cz x2 xz)
      rw [HSI.out] at K5
      have K6 := hide K5
      clear K5
      go_roundw
      case rel => exact ⟨i + 1, by go_num, HLT.out, K6⟩
      case measure => have := HLT.out; simp [intOf]; omega
    · have hli : ¬ (i : Int) < (v.secs.length : Int) := by omega
      obtain rfl : i = v.secs.length := by omega
      have ht : (qs v).take v.secs.length = qs v := List.take_of_length_le (by rw [qs_len]; exact Nat.le_refl _)
      rw [ht] at K2
      clear hlt ht
      go_wp2_with fail
      go_ret
      exact ⟨_, rfl, K2.out.sub (List.cons_sublist_cons.2 (List.nil_sublist _))⟩
end Go.Proofs.YtdmaephmkfmehaaGreatDoor
namespace Go.Pm
open Go.Ad Go.Wl
set_option linter.unusedVariables false
/-- taken from a list: the first one, and who waits still -/
theorem take_wt {S : St} {i : Int} (h : (takeS S i).2.2 = 0) : inS S i ∧ wt S i = (takeS S i).2.1 :: wt (takeS S i).1 i ∧ ∀ j : Int, 0 ≤ j → j ≠ i → wt (takeS S i).1 j = wt S j := by
  unfold takeS at h ⊢
  by_cases h1 : inS S i
  · rw [if_neg (by simpa using h1)] at h ⊢
    by_cases h2 : wt S i = []
    · rw [if_pos h2] at h; cases h
    · rw [if_neg h2]
      obtain ⟨h0, h3⟩ := h1
      obtain ⟨k, rfl⟩ : ∃ k : Nat, i = k := ⟨i.toNat, by omega⟩
      refine ⟨⟨h0, h3⟩, ?_, fun j hj hne => ?_⟩
      · show wt S k = (wt S k).getD 0 0 :: wt (put S k (wt S k).tail) k
        rw [Go.Proofs.YtdmaephmkfmehaaGreatDoor.wt_put_self (by omega)]
        cases hw : wt S k with
        | nil => exact absurd hw h2
        | cons a t => rfl
      · obtain ⟨m, rfl⟩ : ∃ m : Nat, j = m := ⟨j.toNat, by omega⟩
        exact Go.Proofs.YtdmaephmkfmehaaGreatDoor.wt_put_other (by omega) _
  · rw [if_pos h1] at h; cases h
theorem take_none {S : St} {i : Int} (h : (takeS S i).2.2 ≠ 0) (hi : inS S i) : wt S i = [] := by
  unfold takeS at h
  rw [if_neg (by simpa using hi)] at h
  by_cases h2 : wt S i = []
  · exact h2
  · rw [if_neg h2] at h; exact absurd rfl h
/-- who gets seats of a section -/
def gotBy (s : Int) (l : List Gt) : List Int := (l.filter fun g => g.sec == s).map Gt.own
theorem gotBy_append (s : Int) (l m : List Gt) : gotBy s (l ++ m) = gotBy s l ++ gotBy s m := by simp [gotBy]
/-- from one moment to a later one -/
structure Later (v : Vn) (dl : Int) (R R' : Rs) (l : List Int) (X : List Gt) (Y : List Int) : Prop where
  gr : R'.gr = R.gr ++ X
  fr : R'.fr = R.fr ++ Y
  len : R'.S.length = R.S.length
  got : ∀ g ∈ X, g.seat ∈ l ∧ g.sec = secOf v g.seat ∧ g.dl = dl
  left : ∀ y ∈ Y, y ∈ l
  ws : ∀ s : Int, 0 ≤ s → gotBy s X ++ wt R'.S s = wt R.S s
theorem later (v : Vn) (dl : Int) : ∀ (l : List Int) (R : Rs), ∃ X Y, Later v dl R (l.foldl (stepO v dl) R) l X Y
  | [], R => ⟨[], [], by simp, by simp, rfl, (fun g hg => by cases hg), (fun y hy => by cases hy), fun s _ => rfl⟩
  | x :: l, R => by
    obtain ⟨X, Y, h⟩ := later v dl l (stepO v dl R x)
    rw [List.foldl_cons]
    by_cases hc : (takeS R.S (secOf v x)).2.2 = 0
    · rw [step_got hc] at h ⊢
      obtain ⟨h1, h2, h3⟩ := take_wt hc
      refine ⟨⟨x, secOf v x, (takeS R.S (secOf v x)).2.1, dl⟩ :: X, Y, ?_, h.fr, ?_, ?_, fun y hy => List.mem_cons_of_mem _ (h.left y hy), ?_⟩
      · rw [h.gr]; simp
      · rw [h.len]; exact take_len _ _
      · intro g hg
        rcases List.mem_cons.1 hg with rfl | hg
        · exact ⟨by simp, rfl, rfl⟩
        · obtain ⟨a, b, c⟩ := h.got g hg
          exact ⟨List.mem_cons_of_mem _ a, b, c⟩
      · intro s hs
        have h4 := h.ws s hs
        show gotBy s ([_] ++ X) ++ _ = _
        rw [gotBy_append, List.append_assoc, h4]
        by_cases e : secOf v x = s
        · subst e
          simp [gotBy]
          exact h2.symm
        · simp [gotBy, e]
          exact h3 s hs (fun e' => e e'.symm)
    · rw [step_free hc] at h ⊢
      refine ⟨X, x :: Y, h.gr, ?_, h.len, ?_, ?_, h.ws⟩
      · rw [h.fr]; simp
      · intro g hg
        obtain ⟨a, b, c⟩ := h.got g hg
        exact ⟨List.mem_cons_of_mem _ a, b, c⟩
      · intro y hy
        rcases List.mem_cons.1 hy with rfl | hy
        · simp
        · exact List.mem_cons_of_mem _ (h.left y hy)
theorem offO_take {v : Vn} {dl : Int} {S : St} {l : List Int} {i : Nat} (hi : i < l.length) : offO v dl S (l.take (i + 1)) = stepO v dl (offO v dl S (l.take i)) l[i] := by
  rw [List.take_succ_eq_append_getElem hi, offO_snoc]
theorem offO_later (v : Vn) (dl : Int) (S : St) (l : List Int) (i : Nat) : ∃ X Y, Later v dl (offO v dl S (l.take i)) (offO v dl S l) (l.drop i) X Y := by
  have := later v dl (l.drop i) (offO v dl S (l.take i))
  rwa [show (l.drop i).foldl (stepO v dl) (offO v dl S (l.take i)) = offO v dl S l by unfold offO; rw [← List.foldl_append, List.take_append_drop]] at this
/-- what happened to a seat: it was granted, next; or it stays free, next, and nobody waits -/
theorem seat_at {v : Vn} {dl : Int} {S : St} {l : List Int} {i : Nat} {x : Int} (hn : l.Nodup) (hx : l[i]? = some x) (hin : inS S (secOf v x)) :
    (∃ o, (offO v dl S l).gr[(offO v dl S (l.take i)).gr.length]? = some ⟨x, secOf v x, o, dl⟩ ∧ (offO v dl S (l.take (i + 1))).gr.length = (offO v dl S (l.take i)).gr.length + 1 ∧ (offO v dl S (l.take (i + 1))).fr.length = (offO v dl S (l.take i)).fr.length) ∨
    ((∀ g, (offO v dl S l).gr[(offO v dl S (l.take i)).gr.length]? = some g → g.seat ≠ x) ∧ (offO v dl S l).fr[(offO v dl S (l.take i)).fr.length]? = some x ∧ wt (offO v dl S l).S (secOf v x) = [] ∧ (offO v dl S (l.take (i + 1))).gr.length = (offO v dl S (l.take i)).gr.length ∧ (offO v dl S (l.take (i + 1))).fr.length = (offO v dl S (l.take i)).fr.length + 1) := by
  obtain ⟨hi, rfl⟩ := List.getElem?_eq_some_iff.1 hx
  have e := offO_take (v := v) (dl := dl) (S := S) hi
  obtain ⟨X, Y, h⟩ := offO_later v dl S l (i + 1)
  obtain ⟨X0, Y0, h0⟩ := offO_later v dl S l i
  obtain ⟨R, hR⟩ : ∃ R, offO v dl S (l.take i) = R := ⟨_, rfl⟩
  obtain ⟨T, hT⟩ : ∃ T, offO v dl S l = T := ⟨_, rfl⟩
  rw [e] at h ⊢
  rw [hR] at h h0 ⊢
  rw [hT] at h h0 ⊢
  have hlen : R.S.length = S.length := by
    obtain ⟨X1, Y1, h1⟩ := later v dl (l.take i) ⟨[], S, []⟩
    have := h1.len
    rw [show (l.take i).foldl (stepO v dl) ⟨[], S, []⟩ = R from hR] at this
    exact this
  by_cases hc : (takeS R.S (secOf v l[i])).2.2 = 0
  · rw [step_got hc] at h ⊢
    refine .inl ⟨(takeS R.S (secOf v l[i])).2.1, ?_, by simp, rfl⟩
    rw [h.gr, List.append_assoc, List.getElem?_append_right (Nat.le_refl _), Nat.sub_self]
    rfl
  · rw [step_free hc] at h ⊢
    refine .inr ⟨fun g hg hs => ?_, ?_, ?_, rfl, by simp⟩
    · rw [h.gr, List.getElem?_append_right (Nat.le_refl _), Nat.sub_self] at hg
      have hgm : g ∈ X := List.mem_of_getElem? hg
      have h1 := (h.got g hgm).1
      rw [hs] at h1
      have h2 := hn
      rw [← List.take_append_drop (i + 1) l, List.nodup_append] at h2
      exact h2.2.2 l[i] (List.mem_of_getElem? (i := i) (by rw [List.getElem?_take, if_pos (by omega), List.getElem?_eq_getElem hi])) _ h1 rfl
    · rw [h.fr, List.append_assoc, List.getElem?_append_right (Nat.le_refl _), Nat.sub_self]
      rfl
    · have h1 := take_none hc ⟨hin.1, by rw [hlen]; exact hin.2⟩
      have h2 := h0.ws (secOf v l[i]) hin.1
      rw [h1] at h2
      exact (List.append_eq_nil_iff.1 h2).2
/-- those who get seats of a section, and then those who wait still -/
theorem offO_ws (v : Vn) (dl : Int) (S : St) (l : List Int) (s : Nat) : gotBy s (offO v dl S l).gr ++ wt (offO v dl S l).S s = wt S s := by
  obtain ⟨X, Y, h⟩ := later v dl l ⟨[], S, []⟩
  have h1 := h.gr
  have h2 := h.ws s (by omega)
  rw [show l.foldl (stepO v dl) ⟨[], S, []⟩ = offO v dl S l from rfl] at h1 h2
  rw [h1]
  simpa using h2
theorem offO_got {v : Vn} {dl : Int} {S : St} {l : List Int} : ∀ g ∈ (offO v dl S l).gr, g.seat ∈ l ∧ g.sec = secOf v g.seat ∧ g.dl = dl := by
  obtain ⟨X, Y, h⟩ := later v dl l ⟨[], S, []⟩
  have h1 := h.gr
  rw [show l.foldl (stepO v dl) ⟨[], S, []⟩ = offO v dl S l from rfl] at h1
  intro g hg
  rw [h1] at hg
  exact h.got g (by simpa using hg)
end Go.Pm
