/- Seats side by side: what is wrong with a question; one seat; how many may be asked for, by the program. -/
import Derived.Test.YtkhinagagncblaaDoorA7
import Derived.Test.YtkhinagagncblaaDoorPushM
namespace Go.Proofs.YtkhinagagncblaaDoor
open Go.RowKit Go.Gr Go.Ad
set_option linter.unusedVariables false
set_option linter.unusedSimpArgs false
attribute [local go_sem] rdOp rdAt rdUpon Cls forall_fr
def bls (l : List Bool) : List Value := l.map Value.bool
theorem bls_len (l : List Bool) : (bls l).length = l.length := by simp [bls]
theorem bls_one (l : List Bool) : ∀ v ∈ bls l, v.oneCell' = true := by
  intro v hv
  obtain ⟨x, _, rfl⟩ := List.mem_map.1 hv
  rfl
theorem bls_at {w : World} {A : Option Addr} {l : List Bool} (h : Rd w A (bls l)) {k : Nat} {b : Bool} (hk : l[k]? = some b) : ∃ ad, A = some ad ∧ w.cell? (ad.add k) = some (.bool b) :=
  h k _ (by simp [bls, hk])
/-- what is wrong with a question -/
def qE (v : Vn) (n : Nat) (s : Int) : Int :=
  if (seatsE v).2 ≠ 0 then (seatsE v).2 else if (n : Int) ≠ (seatsE v).1 then 6 else if s < 0 ∨ (v.secs.length : Int) ≤ s then 4 else 0
theorem qE_zero {v : Vn} {n : Nat} {s : Int} (h : qE v n s = 0) : VnOk v ∧ (chk v).2 = 0 ∧ chk v = (0, 0) ∧ n = sumS v.secs ∧ ∃ j : Nat, s = j ∧ j < v.secs.length := by
  unfold qE at h
  split at h
  · rename_i h1; exact absurd h h1
  · rename_i h1
    split at h
    · cases h
    · rename_i h2
      split at h
      · cases h
      · rename_i h3
        have hz : (chk v).2 = 0 := by
          by_cases hz : (chk v).2 = 0
          · exact hz
          · exfalso
            unfold seatsE at h1
            rw [if_neg hz] at h1
            exact h1 hz
        obtain ⟨h4, h5⟩ := chk_zero hz
        have h6 : (seatsE v).1 = (sumS v.secs : Nat) := by unfold seatsE; rw [if_pos hz]
        exact ⟨h4, hz, h5, by rw [h6] at h2; omega, s.toNat, by omega, by omega⟩
set_option maxRecDepth 100000 in
set_option maxHeartbeats 4000000 in
theorem ad_check (v : Vn) (A : Option Addr) (c : Nat) (F : Option Addr) (n d : Nat) (s : Int) (w : World) (h : Secs w A v.secs) (hc : v.secs.length ≤ c) (hw : VnW v) :
    Calls Tryd.prog 29 #[.agg #[.int .i64 v.sh, .int .i64 v.ttl, .int .i64 v.ses, .slice A v.secs.length c], .slice F n d, .int .i64 s] w fun e w' => e = .returned (.int .i64 (qE v n s)) ∧ Ext w w' := by
  have HS := hide (fun (y : World) (k : Ext w y) => venue_seats v A c y (h.ext k) hc hw)
  clear h hc hw
  have K0 := (Sep.refl No w).add 24 [.int .i64 v.sh, .int .i64 v.ttl, .int .i64 v.ses, .slice A v.secs.length c]
  go_enter Tryd.func29, Tryd.ntmps29
  go_wp2_with fail
  (with_reducible refine (HS.out _ K0.toExt).mono ?_)
  rintro e w1 ⟨rfl, hx⟩
  have K1 := hide (K0.ext hx)
  clear K0 hx HS
  obtain ⟨c0, c1, c2, c3, cz⟩ := blk4 (K1.out.blk (List.Mem.head _))
  by_cases h1 : (seatsE v).2 = 0
  · by_cases h2 : (n : Int) = (seatsE v).1
    · have e2 : ((n : Int) != (seatsE v).1) = false := by rw [h2]; exact bne_self_eq_false _
      have e1 : ((seatsE v).2 != 0) = false := by rw [h1]; rfl
      by_cases h3 : s < 0
      · have HE : Hid (qE v n s = 4) := hide (by unfold qE; rw [if_neg (by simpa using h1), if_neg (by simpa using h2), if_pos (.inl h3)])
        clear h1 h2
        go_wp2_with fail
        go_ret
        exact ⟨by rw [HE.out]; rfl, K1.out.toExt⟩
      · by_cases h4 : (v.secs.length : Int) ≤ s
        · have HE : Hid (qE v n s = 4) := hide (by unfold qE; rw [if_neg (by simpa using h1), if_neg (by simpa using h2), if_pos (.inr h4)])
          clear h1 h2
          go_wp2_with fail
          go_ret
          exact ⟨by rw [HE.out]; rfl, K1.out.toExt⟩
        · have HE : Hid (qE v n s = 0) := hide (by unfold qE; rw [if_neg (by simpa using h1), if_neg (by simpa using h2), if_neg (by omega)])
          clear h1 h2
          go_wp2_with fail
          go_ret
          exact ⟨by rw [HE.out]; rfl, K1.out.toExt⟩
    · have e2 : ((n : Int) != (seatsE v).1) = true := bne_iff_ne.2 h2
      have e1 : ((seatsE v).2 != 0) = false := by rw [h1]; rfl
      have HE : Hid (qE v n s = 6) := hide (by unfold qE; rw [if_neg (by simpa using h1), if_pos h2])
      clear h1 h2
      go_wp2_with fail
      go_ret
      exact ⟨by rw [HE.out]; rfl, K1.out.toExt⟩
  · have e1 : ((seatsE v).2 != 0) = true := bne_iff_ne.2 h1
    have HE : Hid (qE v n s = (seatsE v).2) := hide (by unfold qE; rw [if_pos h1])
    clear h1
    go_wp2_with fail
    go_ret
    exact ⟨by rw [HE.out]; rfl, K1.out.toExt⟩
def oneE (n : Int) : Int := if n = 1 then 1 else 0
theorem alone_one (n : Int) (w : World) : Calls Tryd.prog 33 #[.int .i64 n] w fun e w' => e = .returned (.int .i64 (oneE n)) ∧ w' = w := by
  by_cases h : n = 1
  · have e1 : (n == 1) = true := by rw [h]; rfl
    have HE : Hid (oneE n = 1) := hide (by unfold oneE; rw [if_pos h])
    clear h
    go_enter Tryd.func33, Tryd.ntmps33
    go_wp2_with fail
    go_ret
    exact ⟨by rw [HE.out]; rfl, rfl⟩
  · have e1 : (n == 1) = false := beq_eq_false_iff_ne.2 h
    have HE : Hid (oneE n = 0) := hide (by unfold oneE; rw [if_neg h])
    clear h
    go_enter Tryd.func33, Tryd.ntmps33
    go_wp2_with fail
    go_ret
    exact ⟨by rw [HE.out]; rfl, rfl⟩
theorem asked_any (n : Int) (w : World) : Calls Tryd.prog 35 #[.int .i64 n] w fun e w' => e = .returned (.bool (!outB n 1 8)) ∧ w' = w := by
  by_cases h1 : 1 ≤ n
  · have HN : Hid ((!outB n 1 8) = decide (n ≤ 8)) := hide (by
      unfold outB
      by_cases h : n ≤ 8
      · rw [decide_eq_true h, decide_eq_false (show ¬ n < 1 by omega), decide_eq_false (show ¬ 8 < n by omega)]; rfl
      · rw [decide_eq_false h, decide_eq_false (show ¬ n < 1 by omega), decide_eq_true (show 8 < n by omega)]; rfl)
    go_enter Tryd.func35, Tryd.ntmps35
    go_wp2_with fail
    go_ret
    exact ⟨by rw [HN.out]; rfl, rfl⟩
  · have HN : Hid ((!outB n 1 8) = false) := hide (by unfold outB; rw [decide_eq_true (show n < 1 by omega)]; rfl)
    go_enter Tryd.func35, Tryd.ntmps35
    go_wp2_with fail
    go_ret
    exact ⟨by rw [HN.out]; rfl, rfl⟩
end Go.Proofs.YtkhinagagncblaaDoor
