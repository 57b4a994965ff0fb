/- Promote: seats offered one by one: the plain part. -/
import Derived.Test.YtdmaephmkfmehaaGreatDoorP7
namespace Go.Pm
set_option linter.unusedVariables false
open Go.Wl Go.Ad Go.Gr Go.Proofs.YtdmaephmkfmehaaGreatDoor
theorem loadG_okk : ∀ (t : List (Int × List Int)) (i : Nat), (∀ p ∈ t, (p.2.length : Int) ≤ p.1 ∧ p.2.Nodup) → (loadG i t).2 = 0
  | [], _, _ => rfl
  | (n, q) :: t, i, h => by
    have h1 := h (n, q) (List.mem_cons_self ..)
    rw [loadG, if_neg (by have := h1.1; dsimp only at this; omega), if_neg (by simpa using h1.2)]
    exact loadG_okk t (i + 1) fun p hp => h p (List.mem_cons_of_mem _ hp)
theorem zip_st (S : St) : (limsS S).zip (rowsS S) = S.map fun p => (((p.1 : Nat) : Int), p.2) := by
  unfold limsS rowsS
  rw [List.zip_map']
theorem loadE_rows {l : List Int} {S : St} (hz : limE l = 0) (hok : Ok S) (hl : limsS S = l) : (loadE l (rowsS S)).2 = 0 := by
  rw [loadE_go hz (by rw [rowsS_len, ← hl, limsS_len]), List.drop_zero, ← hl, zip_st]
  refine loadG_okk _ _ fun p hp => ?_
  obtain ⟨q, hq, rfl⟩ := List.mem_map.1 hp
  have h1 := hok.all q hq
  exact ⟨by have := h1.len; show (q.2.length : Int) ≤ ((q.1 : Nat) : Int); omega, h1.nod⟩
theorem lims_take (S : St) (i : Int) : limsS (takeS S i).1 = limsS S := by
  unfold takeS
  split
  · rfl
  · rename_i h
    split
    · rfl
    · have h1 : inS S i := by simpa using h
      obtain ⟨k, rfl⟩ : ∃ k : Nat, i = k := ⟨i.toNat, by have := h1.1; omega⟩
      exact limsS_put (by have := h1.2; omega) _
theorem lims_off (v : Vn) (dl : Int) (S : St) (l : List Int) : limsS (offO v dl S l).S = limsS S := by
  have : ∀ (l : List Int) (R : Rs), limsS (l.foldl (stepO v dl) R).S = limsS R.S := by
    intro l
    induction l with
    | nil => intro R; rfl
    | cons x l ih =>
      intro R
      rw [List.foldl_cons, ih]
      unfold stepO; split
      · exact lims_take _ _
      · rfl
  exact this l ⟨[], S, []⟩
theorem offO_one (v : Vn) (dl : Int) (S : St) (x : Int) : offO v dl S [x] = stepO v dl ⟨[], S, []⟩ x := rfl
theorem step_app (v : Vn) (dl : Int) (R : Rs) (x : Int) : (stepO v dl R x).gr = R.gr ++ (offO v dl R.S [x]).gr ∧ (stepO v dl R x).S = (offO v dl R.S [x]).S ∧ (stepO v dl R x).fr = R.fr ++ (offO v dl R.S [x]).fr := by
  rw [offO_one]
  unfold stepO
  split
  · exact ⟨by simp, rfl, by simp⟩
  · exact ⟨by simp, rfl, by simp⟩
theorem limE_load {l : List Int} {rows : List (List Int)} (h : (loadE l rows).2 = 0) : limE l = 0 := by
  by_cases e : limE l = 0
  · exact e
  · rw [loadE_bad e] at h; exact absurd h e
/-- seats of which i have been offered: the next one alone -/
theorem one_next {v : Vn} {rows seats : _} {now : Int} (h : offE v rows seats now = 0) (hk : Ok (loadS (qs v) rows)) {i : Nat} (hi : i < seats.length) (R : Rs) (hR : offO v (addT now v.ttl) (loadS (qs v) rows) (seats.take i) = R) :
    offE v (rowsS R.S) [seats[i]] now = 0 ∧ offA v (rowsS R.S) [seats[i]] now = ⟨[], (offO v (addT now v.ttl) R.S [seats[i]]).gr, rowsS (offO v (addT now v.ttl) R.S [seats[i]]).S, (offO v (addT now v.ttl) R.S [seats[i]]).fr⟩ ∧
    offO v (addT now v.ttl) (loadS (qs v) rows) (seats.take (i + 1)) = ⟨R.gr ++ (offO v (addT now v.ttl) R.S [seats[i]]).gr, (offO v (addT now v.ttl) R.S [seats[i]]).S, R.fr ++ (offO v (addT now v.ttl) R.S [seats[i]]).fr⟩ := by
  subst hR
  obtain ⟨h1, h2⟩ := offE_zero h
  obtain ⟨h3, h4, h5⟩ := opE_zero h1
  obtain ⟨h6, -, -⟩ := seatsG_zero h2
  have hz := limE_load h4
  have hlen := (loadS_len h4).2
  have hlim : limsS (offO v (addT now v.ttl) (loadS (qs v) rows) (seats.take i)).S = qs v := by rw [lims_off, lims_load hz hlen]
  have hld := loadE_rows hz (offO_ok hk (seats.take i)) hlim
  have hE : offE v (rowsS (offO v (addT now v.ttl) (loadS (qs v) rows) (seats.take i)).S) [seats[i]] now = 0 := by
    have hop : opE v (rowsS (offO v (addT now v.ttl) (loadS (qs v) rows) (seats.take i)).S) now = 0 := by
      unfold opE
      rw [if_neg (by simpa using h3), if_neg (by simpa using hld), if_neg (by omega)]
    unfold offE
    rw [if_neg (by simpa using hop)]
    unfold seatsG
    rw [if_neg (by simpa using h6 _ (List.getElem_mem hi)), if_neg (by simp)]
    rfl
  refine ⟨hE, ?_, ?_⟩
  · rw [offA_good hE, ← st_eq hlim rfl]
  · obtain ⟨a, b, c⟩ := step_app v (addT now v.ttl) (offO v (addT now v.ttl) (loadS (qs v) rows) (seats.take i)) seats[i]
    rw [offO_snoc' hi, ← a, ← b, ← c]
/-- rows that lie there, and the new blocks that they lie in -/
def As.wts (w0 : World) (B : Option Addr) (rows : List (List Int)) (F : Nat → Prop) : As := ⟨fun k => F k, fun y => (∀ k, F k → k < y.heap.size) ∧ ∀ y' : World, (∀ k, F k → y'.heap[k]? = y.heap[k]?) → (∀ k, k < w0.heap.size → y'.heap[k]? = w0.heap[k]?) → ∃ vs, (AsRows B vs rows).p y',
  fun h k hk => h.1 k hk,
  fun {y y'} h e => ⟨fun k h1 => by
    have h3 := h.1 k h1
    have h4 := e k h1
    rw [Array.getElem?_eq_getElem h3] at h4
    exact (Array.getElem?_eq_some_iff.1 h4).1, fun z h1 h2 => h.2 z (fun k a => (h1 k a).trans (e k a)) h2⟩⟩
theorem wts_new {w0 w : World} {L : List As} {B : Option Addr} {vs : List Value} {rows : List (List Int)} (h : Sep No w0 w L) (hp : (AsRows B vs rows).p w0) : Sep No w0 w (As.wts w0 B rows No :: L) :=
  h.new (B := As.wts w0 B rows No) (Ext.refl w) ⟨fun k hk => hk.elim, fun y' _ h2 => ⟨vs, As.loc _ hp fun k hk => h2 k (As.lt _ hp k hk)⟩⟩ (fun i hi => hi.elim)
theorem wts_get {w0 w : World} {L : List As} {B : Option Addr} {rows : List (List Int)} {F : Nat → Prop} (h : Sep No w0 w L) (hA : As.wts w0 B rows F ∈ L) : ∃ vs, (AsRows B vs rows).p w :=
  (h.get hA).2 w (fun _ _ => rfl) (fun k hk => h.fr.block k hk (fun h => h))
theorem isres_inj {bb : Bool} {y : World} {E G B F : Option Addr} {ne ng nb nf ce cg cb cf : Nat} {a : An} (h : IsRes bb y (.agg (rsC E G B F ne ng nb nf ce cg cb cf).toArray) a) :
    ng = a.gr.length ∧ nb = a.rows.length ∧ nf = a.fr.length ∧ RdM y G 4 (gtV a.gr) ∧ (∃ vs, (AsRows B vs a.rows).p y) ∧ Rd y F (i64s a.fr) := by
  obtain ⟨E', G', B', F', ce', cg', cb', cf', vs, h1, h2, h3, h4, h5, h6, h7, h8, h9⟩ := h
  have h10 : rsC E G B F ne ng nb nf ce cg cb cf = rsC E' G' B' F' a.en.length a.gr.length a.rows.length a.fr.length ce' cg' cb' cf' := by
    have := Value.agg.inj h1
    exact congrArg Array.toList this
  simp only [rsC, List.cons.injEq, Value.slice.injEq, and_true] at h10
  obtain ⟨-, ⟨rfl, rfl, rfl⟩, ⟨rfl, rfl, rfl⟩, ⟨rfl, rfl, rfl⟩⟩ := h10
  exact ⟨rfl, rfl, rfl, h7, ⟨vs, h8⟩, h9⟩
/-- the waiters of an answer take the place of the waiters before -/
theorem wts_to {w0 w : World} {L : List As} {B B' : Option Addr} {rows : List (List Int)} {F Fp : Nat → Prop} {E G F' : Option Addr} {ne ng nb nf ce cg cb cf : Nat} {a : An} (h : Sep No w0 w (As.res true (.agg (rsC E G B' F' ne ng nb nf ce cg cb cf).toArray) a Fp :: As.wts w0 B rows F :: L)) : Sep No w0 w (As.wts w0 B' a.rows Fp :: L) :=
  h.merge (C := As.wts w0 B' a.rows Fp) (fun hp _ => ⟨hp.1, fun y' e _ => (isres_inj (hp.2 y' e)).2.2.2.2.1⟩) (fun i hi => .inl hi)
end Go.Pm
