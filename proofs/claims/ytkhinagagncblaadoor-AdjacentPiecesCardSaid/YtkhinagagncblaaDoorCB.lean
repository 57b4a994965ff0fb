/- Seats side by side: when there is a choice, seats beside each other, the least choice (plain); without and beside, by the law (merged of L1 L2 C5 C6). -/
import Derived.Test.YtkhinagagncblaaDoorBB
import Derived.Laws.Small
namespace Go.Proofs.YtkhinagagncblaaDoor
open Go.RowKit Go.Gr Go.Ad
set_option linter.unusedVariables false
set_option linter.unusedSimpArgs false
theorem bestL_some {l : List (Run × Nat × Nat)} (h : l ≠ []) : ∃ x, bestL l = some x := by
  cases hb : bestL l with
  | none => exact absurd (bestL_none hb) h
  | some x => exact ⟨x, rfl⟩
theorem chs_some {l : List Run} {n : Nat} : chs l n ≠ [] ↔ ∃ r ∈ l, n ≤ r.many := by
  constructor
  · intro h
    obtain ⟨x, hx⟩ := List.exists_mem_of_ne_nil _ h
    obtain ⟨h1, h2, _⟩ := chs_mem hx
    exact ⟨x.1, h1, by omega⟩
  · rintro ⟨r, hr, hn⟩ h
    have : (r, 0, r.many - n - 0) ∈ chs l n := List.mem_flatMap.2 ⟨r, hr, List.mem_map.2 ⟨0, List.mem_range.2 (by omega), rfl⟩⟩
    rw [h] at this
    cases this
/-- there is a choice exactly if a run has as many seats -/
theorem best_ok {v : Vn} {f : List Bool} {s : Int} {n : Nat} (hq : qE v f.length s = 0) (h1 : 1 ≤ n) (h8 : n ≤ 8) : (bestE v f s (n : Int)).2 = 0 ↔ ∃ r ∈ runsOf v f s, n ≤ r.many := by
  have hc : cE v f.length s (n : Int) = 0 := by
    unfold cE
    rw [if_neg (by simpa using hq), if_neg]
    unfold outB
    rw [decide_eq_false (by omega), decide_eq_false (by omega)]
    simp
  unfold bestE
  rw [hc, if_neg (by simp), Int.toNat_natCast, ← chs_some]
  constructor
  · intro h hn
    rw [hn] at h
    exact absurd h (by decide)
  · intro h
    obtain ⟨x, hx⟩ := bestL_some h
    rw [hx]
/-- seats of a run are free in what has more free seats: they lie in one run there -/
theorem runs_more {v : Vn} {f f' : List Bool} (hfl : f.length = sumS v.secs) (hl : f'.length = f.length) {s : Int} {x : Run} (hx : x ∈ runsOf v f s) (hm : ∀ j, j < x.many → f'[x.first + j]? = some true) :
    ∃ y ∈ runsOf v f' s, y.first ≤ x.first ∧ x.first + x.many ≤ y.first + y.many := by
  have h0 := runsOf_pos v f s x hx
  unfold runsOf at hx ⊢
  cases hs : v.secs[s.toNat]? with
  | none => rw [hs] at hx; cases hx
  | some sc =>
    rw [hs] at hx
    simp only at hx ⊢
    obtain ⟨q, m, h1, _, h3, h4⟩ := sec_row sc.rowsN 0 (fst0 v.secs s.toNat) (sec_fits hfl hs) hx
    obtain ⟨y, hy, _, h5, h6⟩ := sec_find x.many h0 x.first hm sc.rowsN 0 (fst0 v.secs s.toNat) q m h1 h3 h4
    exact ⟨y, hy, h5, h6⟩
end Go.Proofs.YtkhinagagncblaaDoor
namespace Go.Proofs.YtkhinagagncblaaDoor
open Go.RowKit Go.Gr Go.Ad
set_option linter.unusedVariables false
set_option linter.unusedSimpArgs false
/-- n seats are free, side by side, in one row of the section -/
def besP (v : Vn) (f : List Bool) (s : Int) (i n : Nat) : Prop :=
  plE v (i : Nat) = 0 ∧ plE v ((i + n - 1 : Nat) : Int) = 0 ∧ (((plX v (i : Nat)).sec : Nat) : Int) = s ∧ (((plX v ((i + n - 1 : Nat) : Int)).sec : Nat) : Int) = s ∧
    (plX v (i : Nat)).row = (plX v ((i + n - 1 : Nat) : Int)).row ∧ i + n ≤ f.length ∧ ∀ j, j < n → f[i + j]? = some true
/-- so many seats of a run, from this one on -/
def inRun (v : Vn) (f : List Bool) (s : Int) (i n : Nat) : Prop := ∃ x ∈ runsOf v f s, x.first ≤ i ∧ i + n ≤ x.first + x.many
theorem plX_inv {v : Vn} {i : Nat} (h : plE v (i : Nat) = 0) : ∃ s n, v.secs[(plX v (i : Nat)).sec]? = some s ∧ s.rowsN[(plX v (i : Nat)).row]? = some n ∧ (plX v (i : Nat)).seat < n ∧ i = fst0 v.secs (plX v (i : Nat)).sec + (s.rowsN.take (plX v (i : Nat)).row).sum + (plX v (i : Nat)).seat := by
  have hlt : i < sumS v.secs := by
    unfold plE at h
    split at h
    · rename_i h1; exact absurd h h1
    · split at h
      · cases h
      · rename_i h2; omega
  obtain ⟨x, hx⟩ : ∃ x, (places v)[i]? = some x := ⟨_, List.getElem?_eq_getElem (by rw [places_len]; exact hlt)⟩
  have hX : plX v (i : Nat) = x := by unfold plX; rw [if_pos h, Int.toNat_natCast, hx]; rfl
  rw [hX]
  exact place_inv hx
theorem bes_iff {v : Vn} {f : List Bool} {s : Int} (hq : qE v f.length s = 0) {i n : Nat} (hn : 1 ≤ n) : besP v f s i n ↔ inRun v f s i n := by
  obtain ⟨hok, hz, _, hfl, j, rfl, hj⟩ := qE_zero hq
  constructor
  · rintro ⟨h1, h2, h3, h4, h5, h6, h7⟩
    obtain ⟨sc, m, g1, g2, g3, g4⟩ := plX_inv h1
    obtain ⟨sc', m', k1, k2, k3, k4⟩ := plX_inv h2
    have e1 : (plX v (i : Nat)).sec = j := by omega
    have e2 : (plX v ((i + n - 1 : Nat) : Int)).sec = j := by omega
    rw [e1] at g1 g4
    rw [e2] at k1 k4
    rw [← h5] at k2 k4
    rw [g1] at k1
    obtain rfl : sc = sc' := Option.some.inj k1
    rw [g2] at k2
    obtain rfl : m = m' := Option.some.inj k2
    unfold inRun
    rw [runsOf_at g1]
    obtain ⟨x, hx, _, hx1, hx2⟩ := sec_find n hn i h7 sc.rowsN 0 (fst0 v.secs j) _ m g2 (by omega) (by omega)
    exact ⟨x, hx, hx1, hx2⟩
  · rintro ⟨x, hx, h1, h2⟩
    obtain ⟨k, rfl⟩ : ∃ k, i = x.first + k := ⟨i - x.first, by omega⟩
    obtain ⟨g1, g2, g3, _⟩ := runs_off hfl hx
    obtain ⟨a1, a2, a3⟩ := run_row hq hx (k := k) (by omega)
    obtain ⟨b1, b2, b3⟩ := run_row hq hx (k := k + n - 1) (by omega)
    have e : x.first + k + n - 1 = x.first + (k + n - 1) := by omega
    refine ⟨a1, by rw [e]; exact b1, a3, by rw [e]; exact b3, by rw [e, a2, b2], by omega, fun t ht => ?_⟩
    rw [show x.first + k + t = x.first + (k + t) by omega]
    exact g3 _ (by omega)
/-- runs lie one behind the other -/
theorem runs_pair {v : Vn} {f : List Bool} (hfl : f.length = sumS v.secs) (s : Int) : (runsOf v f s).Pairwise Bef := by
  rw [List.pairwise_iff_getElem]
  intro i j hi hj hij
  have hself : ∀ x ∈ runsOf v f s, ¬ Bef x x := fun x hx hb => by
    have h0 := runsOf_pos v f s x hx
    have h1 := hb.1
    omega
  obtain ⟨_, h0, _, L1, L2, e, b1, b2, _⟩ := runs_off hfl (List.getElem_mem hi)
  have hx : (runsOf v f s)[i]? = some (runsOf v f s)[i] := List.getElem?_eq_getElem hi
  have hy : (runsOf v f s)[j]? = some (runsOf v f s)[j] := List.getElem?_eq_getElem hj
  have hs := hself _ (List.getElem_mem hi)
  generalize (runsOf v f s)[i] = x at *
  generalize (runsOf v f s)[j] = y at *
  rw [e] at hx hy
  rcases Nat.lt_trichotomy i L1.length with h1 | h1 | h1
  · rw [List.getElem?_append_left h1] at hx
    exact absurd (b1 x (List.mem_of_getElem? hx)) hs
  · rw [List.getElem?_append_right (by omega), show j - L1.length = (j - L1.length - 1) + 1 by omega, List.getElem?_cons_succ] at hy
    exact b2 y (List.mem_of_getElem? hy)
  · rw [List.getElem?_append_right (by omega), show i - L1.length = (i - L1.length - 1) + 1 by omega, List.getElem?_cons_succ] at hx
    exact absurd (b2 x (List.mem_of_getElem? hx)) hs
theorem chs_pair {v : Vn} {f : List Bool} (hfl : f.length = sumS v.secs) (s : Int) (n : Nat) (hn : 1 ≤ n) : (chs (runsOf v f s) n).Pairwise (fun a b => a.1.first + a.2.1 < b.1.first + b.2.1) := by
  unfold chs
  rw [List.pairwise_flatMap]
  constructor
  · intro r _
    unfold chR
    rw [List.pairwise_map]
    exact List.pairwise_lt_range.imp fun h => by simp only; omega
  · refine List.Pairwise.imp_of_mem ?_ (runs_pair hfl s)
    intro a b ha hb h x hx y hy
    unfold chR at hx hy
    obtain ⟨k, hk, rfl⟩ := List.mem_map.1 hx
    obtain ⟨k', hk', rfl⟩ := List.mem_map.1 hy
    have h1 := h.1
    have h0 := runsOf_pos v f s a ha
    have := List.mem_range.1 hk
    simp only
    have := h.2
    omega
theorem bestL_first {l : List (Run × Nat × Nat)} {x : Run × Nat × Nat} (h : bestL l = some x) : ∃ l1 l2, l = l1 ++ x :: l2 ∧ (∀ y ∈ l1, moreI x < moreI y) ∧ ∀ y ∈ l2, moreI x ≤ moreI y := by
  have key : ∀ (l : List (Run × Nat × Nat)) (y x : Run × Nat × Nat), l.foldl stB (some y) = some x → (x = y ∧ ∀ z ∈ l, moreI y ≤ moreI z) ∨ (moreI x < moreI y ∧ ∃ l1 l2, l = l1 ++ x :: l2 ∧ (∀ z ∈ l1, moreI x < moreI z) ∧ ∀ z ∈ l2, moreI x ≤ moreI z) := by
    intro l
    induction l with
    | nil => intro y x h; simp only [List.foldl_nil, Option.some.injEq] at h; exact .inl ⟨h.symm, by simp⟩
    | cons a l ih =>
      intro y x h
      rw [List.foldl_cons] at h
      by_cases hc : moreI a < moreI y
      · rw [show stB (some y) a = some a by show (if moreI a < moreI y then some a else some y) = some a; rw [if_pos hc]] at h
        rcases ih a x h with ⟨rfl, h1⟩ | ⟨h1, l1, l2, rfl, h2, h3⟩
        · exact .inr ⟨hc, [], l, rfl, by simp, h1⟩
        · refine .inr ⟨by omega, a :: l1, l2, rfl, ?_, h3⟩
          intro z hz
          rcases List.mem_cons.1 hz with rfl | hz
          · exact h1
          · exact h2 z hz
      · rw [show stB (some y) a = some y by show (if moreI a < moreI y then some a else some y) = some y; rw [if_neg hc]] at h
        rcases ih y x h with ⟨rfl, h1⟩ | ⟨h1, l1, l2, rfl, h2, h3⟩
        · refine .inl ⟨rfl, ?_⟩
          intro z hz
          rcases List.mem_cons.1 hz with rfl | hz
          · omega
          · exact h1 z hz
        · refine .inr ⟨h1, a :: l1, l2, rfl, ?_, h3⟩
          intro z hz
          rcases List.mem_cons.1 hz with rfl | hz
          · omega
          · exact h2 z hz
  cases l with
  | nil => cases h
  | cons a l =>
    rcases key l a x h with ⟨rfl, h1⟩ | ⟨h1, l1, l2, rfl, h2, h3⟩
    · exact ⟨[], l, rfl, by simp, h1⟩
    · refine ⟨a :: l1, l2, rfl, ?_, h3⟩
      intro z hz
      rcases List.mem_cons.1 hz with rfl | hz
      · exact h1
      · exact h2 z hz
theorem secE_cases (bef : List Sc) (s : Sc) : secE bef s ≤ 8 := by
  unfold secE
  repeat' split
  all_goals omega
theorem secsGo_le : ∀ (l bef : List Sc) {i : Nat} {e : Int}, secsGo bef l = some (i, e) → e ≤ 8
  | [], bef, i, e, h => by cases h
  | s :: r, bef, i, e, h => by
    unfold secsGo at h
    split at h
    · simp only [Option.some.injEq, Prod.mk.injEq] at h
      rw [← h.2]; exact secE_cases _ _
    · exact secsGo_le r _ h
theorem chk_le (v : Vn) : (chk v).2 ≤ 8 := by
  unfold chk
  split
  · simp
  · split
    · simp
    · split
      · simp
      · split
        · rename_i h; exact secsGo_le _ _ h
        · split <;> simp
theorem qE_le (v : Vn) (n : Nat) (s : Int) : qE v n s ≤ 8 := by
  unfold qE
  have := chk_le v
  repeat' split
  all_goals first | omega | (unfold seatsE; split <;> simp <;> omega)
theorem cE_le (v : Vn) (m : Nat) (s n : Int) : cE v m s n ≤ 8 := by
  have := qE_le v m s
  unfold cE
  repeat' split
  all_goals omega
theorem cE_zero {v : Vn} {m : Nat} {s n : Int} (h : cE v m s n = 0) : qE v m s = 0 ∧ 1 ≤ n ∧ n ≤ 8 := by
  unfold cE at h
  split at h
  · rename_i h1; exact absurd h h1
  · rename_i h1
    split at h
    · cases h
    · rename_i h2
      have := outB_false (by simpa using h2)
      exact ⟨by simpa using h1, this⟩
/-- what the best choice is, if there is none -/
theorem best_state {v : Vn} {f : List Bool} {s n : Int} (h : (bestE v f s n).2 = 15) : (bestE v f s n).1 = 0 ∧ 1 ≤ n ∧ n ≤ 8 ∧ qE v f.length s = 0 ∧ ∀ i, ¬ inRun v f s i n.toNat := by
  unfold bestE at h ⊢
  split at h
  · rename_i h1
    have := cE_le v f.length s n
    simp only at h
    omega
  · rename_i h1
    obtain ⟨hq, hn1, hn8⟩ := cE_zero (Decidable.not_not.1 h1)
    rw [if_neg h1]
    split at h
    · rename_i h2
      refine ⟨rfl, hn1, hn8, hq, ?_⟩
      rintro i ⟨x, hx, h3, h4⟩
      have := chs_some.2 ⟨x, hx, (by omega : n.toNat ≤ x.many)⟩
      exact this (bestL_none h2)
    · cases h
theorem best_none {v : Vn} {f : List Bool} {s n : Int} (h : (bestE v f s n).2 ≠ 0) : (bestE v f s n).1 = 0 := by
  unfold bestE at h ⊢
  split
  · rfl
  · rename_i h1
    rw [if_neg h1] at h
    split
    · rfl
    · rename_i h2
      rw [h2] at h
      exact absurd rfl h
/-- the best choice: how many seats it leaves alone, and what others do -/
theorem best_least {v : Vn} {f : List Bool} {s n : Int} (h : (bestE v f s n).2 = 0) : ∃ i a m : Nat, (bestE v f s n).1 = i ∧ n = m ∧ 1 ≤ m ∧ m ≤ 8 ∧ qE v f.length s = 0 ∧ inRun v f s i m ∧ aloneE v (off f i m) s = a ∧
    ∀ j, inRun v f s j m → ∃ b : Nat, aloneE v (off f j m) s = b ∧ a ≤ b ∧ (a = b → i ≤ j) := by
  unfold bestE at h
  split at h
  · rename_i h1; exact absurd h h1
  · rename_i h1
    obtain ⟨hq, hn1, hn8⟩ := cE_zero (Decidable.not_not.1 h1)
    obtain ⟨m, rfl⟩ : ∃ m : Nat, n = m := ⟨n.toNat, by omega⟩
    obtain ⟨_, _, _, hfl, _⟩ := qE_zero hq
    rw [Int.toNat_natCast] at h
    cases hb : bestL (chs (runsOf v f s) m) with
    | none => rw [hb] at h; cases h
    | some x =>
      have he : (bestE v f s m).1 = ((x.1.first + x.2.1 : Nat) : Int) := by unfold bestE; rw [if_neg h1, Int.toNat_natCast, hb]
      obtain ⟨l1, l2, el, hl1, hl2⟩ := bestL_first hb
      obtain ⟨hm1, hm2, hm3⟩ := chs_mem (bestL_mem hb)
      have hal : ∀ (r : Run) (k : Nat), r ∈ runsOf v f s → k + m ≤ r.many → aloneE v (off f (r.first + k) m) s = ((aloneN (runsOf v (off f (r.first + k) m) s) : Nat) : Int) ∧ ((aloneN (runsOf v (off f (r.first + k) m) s) : Nat) : Int) = ((aloneN (runsOf v f s) : Nat) : Int) + moreI (r, k, r.many - m - k) := by
        intro r k hr hk
        obtain ⟨g1, _⟩ := runs_off hfl hr
        refine ⟨?_, alone_off hfl hr (by omega) hk⟩
        unfold aloneE
        rw [off_len (by omega), if_pos hq]
      obtain ⟨ha1, ha2⟩ := hal x.1 x.2.1 hm1 hm2
      rw [← hm3] at ha2
      refine ⟨x.1.first + x.2.1, _, m, he, rfl, by omega, by omega, hq, ⟨x.1, hm1, by omega, by omega⟩, ha1, ?_⟩
      rintro j ⟨r, hr, hj1, hj2⟩
      obtain ⟨k, rfl⟩ : ∃ k, j = r.first + k := ⟨j - r.first, by omega⟩
      obtain ⟨hb1, hb2⟩ := hal r k hr (by omega)
      refine ⟨_, hb1, ?_⟩
      have hin : (r, k, r.many - m - k) ∈ chs (runsOf v f s) m := List.mem_flatMap.2 ⟨r, hr, List.mem_map.2 ⟨k, List.mem_range.2 (by omega), rfl⟩⟩
      have hp := chs_pair hfl s m (by omega)
      rw [el] at hin hp
      have hx' : moreI x = moreI (x.1, x.2.1, x.2.2) := rfl
      rcases List.mem_append.1 hin with hin | hin
      · have := hl1 _ hin
        constructor
        · omega
        · intro h; omega
      · rcases List.mem_cons.1 hin with hin | hin
        · subst hin
          constructor
          · omega
          · intro h; show r.first + k ≤ _; omega
        · have h3 := hl2 _ hin
          have h4 := (List.pairwise_append.1 hp).2.1
          rw [List.pairwise_cons] at h4
          have h5 := h4.1 _ hin
          simp only at h5
          constructor
          · omega
          · intro _; omega
end Go.Proofs.YtkhinagagncblaaDoor
namespace Go.Proofs.YtkhinagagncblaaDoor
open Go.RowKit Go.Gr Go.Ad
set_option linter.unusedVariables false
set_option linter.unusedSimpArgs false
attribute [local go_sem] rdOp rdAt rdUpon Cls forall_fr
set_option maxRecDepth 100000 in
set_option maxHeartbeats 4000000 in
theorem lwithout (f : List Bool) (F : Option Addr) (d i n : Nat) (w : World) (hF : Rd w F (bls f)) (hd : f.length ≤ d) (hin : i + n ≤ f.length) (hl : f.length ≤ 100000000) :
    Calls Tryd.prog 24 #[.slice F f.length d, .int .i64 i, .int .i64 n] w fun e w' =>
      ∃ v', e = .returned v' ∧ Sep No w w' [As.own 4 v' (bls (off f i n))] := by
  obtain ⟨i0, ki, kz0, kz1, kz2⟩ := info_parts infoB
  have K0 := Sep.toOwn [] ((Sep.refl No w).newB ((Ext.refl w).alloc (.cells #[] 4)) (Blk.new w 4 []) (Nat.le_refl _)) (by simp)
  dsimp only [List.nil_append, List.length_nil] at K0
  have HB := hide (bls_one f)
  have HBL : Hid ((bls f).length = f.length) := hide (bls_len f)
  have tok3 : True := trivial
  go_enter Tryd.func24, Tryd.ntmps24
  go_wp2_with (have zz := tok3; clear zz tok3; with_reducible refine wpList_apS [] K0 rfl (.tmp 9) (.tmp 10) 25 rfl i0 (.bool false) 1 Tryd.underlying25 ki kz0 kz1 kz2 rfl rfl (A := F) (m := f.length) (c := d) (news := bls f) rfl (by rw [HBL.out]) (hF.ext K0.toExt) HB.out (by rw [HBL.out]; simp; omega) (by omega) ?_; intro v w5 K5; dsimp only [List.nil_append] at K5; have K5' := hide K5; clear K5 K0)
  obtain ⟨B, bc, rfl, _, hbc, _⟩ := (K5'.out.owns (List.Mem.head _)).form
  rw [HBL.out] at K5' hbc ⊢
  go_loopw [8] (fun v8 wr => ∃ k : Nat, v8 = .int .i64 ((i + k : Nat) : Int) ∧ k ≤ n ∧ Hid (Sep No w wr [As.own 4 (.slice B f.length bc) (bls (off f i k))])) (fun v8 _ => i + n - (intOf v8).toNat)
  case atStart => exact ⟨0, rfl, by omega, by rw [off_zero]; exact K5'⟩
  case round =>
    obtain ⟨k, rfl, hk, K6⟩ := hrel
    clear K5'
    obtain ⟨p, hp⟩ : ∃ p, i + k = p := ⟨_, rfl⟩
    have hpb : p ≤ 100000000 := by omega
    have hoff0 : (bls (off f i k)).length = f.length := by rw [bls_len]; exact off_len (by omega)
    clear hoff0
    by_cases hlt : k < n
    · have hpi : (p : Int) < (i : Int) + (n : Int) := by omega
      have hoff : (off f i k).length = f.length := off_len (by omega)
      obtain ⟨g, hA, d0, c1, c2, K7⟩ := Sep.ownSet [] K6.out (i := p) (by rw [bls_len, hoff]; omega) (.bool false)
      subst hA
      obtain ⟨z, c0⟩ : ∃ z, wr.cell? ⟨g, p, none⟩ = some z := ⟨_, d0⟩
      clear d0
      have hpf : (p : Int) < (f.length : Int) := by omega
      have hpc : (p : Int) < (bc : Int) := by omega
      rw [← bls_set, ← hp, off_step (by omega)] at K7
      rw [hp] at K7
      have K8 := hide K7
      have HP := hide hp
      have HK : Hid (k + 1 ≤ n) := hide (by omega)
      rw [hp]
      clear K7 hp hlt hoff
      go_wp2_with fail
      clear c0 c1 c2
      go_roundw
      case rel => exact ⟨k + 1, by have := HP.out; go_num, HK.out, K8⟩
      case measure => have := HK.out; have := HP.out; simp [intOf]; omega
    · have hpi : ¬ (p : Int) < (i : Int) + (n : Int) := by omega
      obtain rfl : k = n := by omega
      rw [hp]
      clear hlt
      go_wp2_with fail
      go_ret
      exact ⟨_, rfl, K6.out⟩
end Go.Proofs.YtkhinagagncblaaDoor
namespace Go.Proofs.YtkhinagagncblaaDoor
open Go.RowKit Go.Gr Go.Ad
set_option linter.unusedVariables false
set_option linter.unusedSimpArgs false
attribute [local go_sem] rdOp rdAt rdUpon Cls forall_fr
theorem blk2' {w : World} {g : Nat} {e : TypeId} {a b : Value} (h : Blk w g e [a, b]) : w.cell? ⟨g, 0, none⟩ = some a ∧ w.cell? ⟨g, 1, none⟩ = some b ∧ g < w.heap.size := ⟨h.cell 0, h.cell 1, h.lt⟩
set_option maxRecDepth 100000 in
set_option maxHeartbeats 4000000 in
theorem beside_any (v : Vn) (A : Option Addr) (c : Nat) (f : List Bool) (F : Option Addr) (d i n : Nat) (s : Int) (b : Bool) (w : World) (h : Secs w A v.secs) (hc : v.secs.length ≤ c) (hw : VnW v)
    (hF : Rd w F (bls f)) (hd : f.length ≤ d) (hq : qE v f.length s = 0) (hn1 : 1 ≤ n) (hn2 : n ≤ 64) (hi : i ≤ 100000000) (hb : b = true ↔ inRun v f s i n) :
    Calls Tryd.prog 23 #[.agg #[.int .i64 v.sh, .int .i64 v.ttl, .int .i64 v.ses, .slice A v.secs.length c], .slice F f.length d, .int .i64 (i : Nat), .agg #[.int .i64 s, .int .i64 (n : Nat)]] w fun e w' =>
      e = .returned (.bool b) ∧ Ext w w' := by
  rw [← bes_iff hq hn1] at hb
  unfold besP at hb
  have HPL := hide (fun (y : World) (k : Ext w y) (i : Int) => rplace v A c i y (h.ext k) hc hw)
  have HF := hide (fun (y : World) (k : Ext w y) => hF.ext k)
  have K0 := ((Sep.refl No w).add2 24 27 [.int .i64 v.sh, .int .i64 v.ttl, .int .i64 v.ses, .slice A v.secs.length c] [.int .i64 s, .int .i64 n])
  have ep : (i : Int) + (n : Int) - 1 = ((i + n - 1 : Nat) : Int) := by omega
  have HB := hide hb
  clear h hc hw hF hq hb
  go_enter Tryd.func23, Tryd.ntmps23
  go_upto_region 1 with fail
  generalize World.alloc _ _ = w1 at K0 ⊢
  obtain ⟨g, hg⟩ : ∃ g, w.heap.size = g := ⟨_, rfl⟩
  obtain ⟨g2, hg2⟩ : ∃ g2, g + 1 = g2 := ⟨_, rfl⟩
  rw [hg, hg2] at K0 ⊢
  clear hg hg2
  have K1 := hide K0
  clear K0
  obtain ⟨c0, c1, c2, c3, cz⟩ := blk4 (K1.out.blk (e := 24) (List.Mem.tail _ (List.Mem.head _)))
  go_wp2_with fail
  (with_reducible refine (HPL.out _ K1.out.toExt _).mono ?_)
  rintro e w2 ⟨rfl, hx⟩
  obtain ⟨X1, hX1⟩ : ∃ x, (((plX v (i : Int)).sec : Nat) : Int) = x := ⟨_, rfl⟩
  obtain ⟨R1, hR1⟩ : ∃ x, (((plX v (i : Int)).row : Nat) : Int) = x := ⟨_, rfl⟩
  obtain ⟨S1, hS1⟩ : ∃ x, (((plX v (i : Int)).seat : Nat) : Int) = x := ⟨_, rfl⟩
  obtain ⟨E1, hE1⟩ : ∃ x, plE v (i : Int) = x := ⟨_, rfl⟩
  rw [hX1, hR1, hS1, hE1]
  have KB := (K1.out.ext hx).add 49 [.int .i64 X1, .int .i64 R1, .int .i64 S1]
  clear K1 hx c0 c1 c2 c3 cz
  go_upto_region 2 with fail
  generalize w2.alloc _ = w3 at KB ⊢
  generalize w2.heap.size = g3 at KB ⊢
  have K2 := hide KB
  clear KB
  obtain ⟨c0, c1, c2, c3, cz⟩ := blk4 (K2.out.blk (e := 24) (List.Mem.tail _ (List.Mem.tail _ (List.Mem.head _))))
  obtain ⟨a0, a1, az⟩ := blk2' (K2.out.blk (e := 27) (List.Mem.tail _ (List.Mem.head _)))
  go_wp2_with fail
  (with_reducible refine (HPL.out _ K2.out.toExt _).mono ?_)
  rintro e w4 ⟨rfl, hx⟩
  obtain ⟨X2, hX2⟩ : ∃ x, (((plX v ((i + n - 1 : Nat) : Int)).sec : Nat) : Int) = x := ⟨_, rfl⟩
  obtain ⟨R2, hR2⟩ : ∃ x, (((plX v ((i + n - 1 : Nat) : Int)).row : Nat) : Int) = x := ⟨_, rfl⟩
  obtain ⟨S2, hS2⟩ : ∃ x, (((plX v ((i + n - 1 : Nat) : Int)).seat : Nat) : Int) = x := ⟨_, rfl⟩
  obtain ⟨E2, hE2⟩ : ∃ x, plE v ((i + n - 1 : Nat) : Int) = x := ⟨_, rfl⟩
  rw [hX2, hR2, hS2, hE2]
  have HC : Hid (b = true ↔ E1 = 0 ∧ E2 = 0 ∧ X1 = s ∧ X2 = s ∧ R1 = R2 ∧ i + n ≤ f.length ∧ ∀ j, j < n → f[i + j]? = some true) := hide (by
    have := HB.out
    rw [hX1, hX2, hE1, hE2] at this
    rw [this]
    have e : (plX v (i : Int)).row = (plX v ((i + n - 1 : Nat) : Int)).row ↔ R1 = R2 := by omega
    rw [e])
  clear hX1 hR1 hS1 hE1 hX2 hR2 hS2 hE2 HB ep
  have KB := (K2.out.ext hx).add 49 [.int .i64 X2, .int .i64 R2, .int .i64 S2]
  clear K2 hx c0 c1 c2 c3 cz a0 a1 az
  go_upto_region 3 with fail
  generalize w4.alloc _ = w5 at KB ⊢
  generalize w4.heap.size = g4 at KB ⊢
  have K3 := hide KB
  clear KB
  obtain ⟨a0, a1, az⟩ := blk2' (K3.out.blk (e := 27) (List.Mem.tail _ (List.Mem.tail _ (List.Mem.head _))))
  obtain ⟨b0, b1, b2, bz⟩ := blk3 (K3.out.blk (g := g4) (e := 49) (List.Mem.head _))
  obtain ⟨d0, d1, d2, dz⟩ := blk3 (K3.out.blk (g := g3) (e := 49) (List.Mem.tail _ (List.Mem.head _)))
  by_cases h1 : E1 = 0
  rotate_left
  · have e1 : (E1 != 0) = true := bne_iff_ne.2 h1
    have HZ : Hid (b = false) := hide (Bool.eq_false_iff.2 fun h => h1 (HC.out.1 h).1)
    clear h1
    go_wp2_with fail
    go_ret
    exact ⟨by (rw [HZ.out]; first | done | rfl), K3.out.toExt⟩
  have e1 : (E1 != 0) = false := by rw [h1]; rfl
  by_cases h2 : E2 = 0
  rotate_left
  · have e2 : (E2 != 0) = true := bne_iff_ne.2 h2
    have HZ : Hid (b = false) := hide (Bool.eq_false_iff.2 fun h => h2 (HC.out.1 h).2.1)
    clear h2 h1
    go_wp2_with fail
    go_ret
    exact ⟨by (rw [HZ.out]; first | done | rfl), K3.out.toExt⟩
  have e2 : (E2 != 0) = false := by rw [h2]; rfl
  by_cases h3 : X1 = s
  rotate_left
  · have e3 : (X1 != s) = true := bne_iff_ne.2 h3
    have HZ : Hid (b = false) := hide (Bool.eq_false_iff.2 fun h => h3 (HC.out.1 h).2.2.1)
    clear h2 h1 h3
    go_wp2_with fail
    go_ret
    exact ⟨by (rw [HZ.out]; first | done | rfl), K3.out.toExt⟩
  have e3 : (X1 != s) = false := by rw [h3]; exact bne_self_eq_false _
  by_cases h4 : X2 = s
  rotate_left
  · have e4 : (X2 != s) = true := bne_iff_ne.2 h4
    have HZ : Hid (b = false) := hide (Bool.eq_false_iff.2 fun h => h4 (HC.out.1 h).2.2.2.1)
    clear h2 h1 h3 h4
    go_wp2_with fail
    go_ret
    exact ⟨by (rw [HZ.out]; first | done | rfl), K3.out.toExt⟩
  have e4 : (X2 != s) = false := by rw [h4]; exact bne_self_eq_false _
  by_cases h5 : R1 = R2
  rotate_left
  · have e5 : (R1 != R2) = true := bne_iff_ne.2 h5
    have HZ : Hid (b = false) := hide (Bool.eq_false_iff.2 fun h => h5 (HC.out.1 h).2.2.2.2.1)
    clear h2 h1 h3 h4 h5
    go_wp2_with fail
    go_ret
    exact ⟨by (rw [HZ.out]; first | done | rfl), K3.out.toExt⟩
  have e5 : (R1 != R2) = false := by rw [h5]; exact bne_self_eq_false _
  by_cases h6 : i + n ≤ f.length
  rotate_left
  · have e6 : (f.length : Int) < (i : Int) + (n : Int) := by omega
    have HZ : Hid (b = false) := hide (Bool.eq_false_iff.2 fun h => h6 (HC.out.1 h).2.2.2.2.2.1)
    clear h2 h1 h3 h4 h5 h6
    go_wp2_with fail
    go_ret
    exact ⟨by (rw [HZ.out]; first | done | rfl), K3.out.toExt⟩
  have e6 : ¬ (f.length : Int) < (i : Int) + (n : Int) := by omega
  have HC2 : Hid (b = true ↔ ∀ j, j < n → f[i + j]? = some true) := hide (by
    rw [HC.out]
    exact ⟨fun h => h.2.2.2.2.2.2, fun h => ⟨h1, h2, h3, h4, h5, h6, h⟩⟩)
  clear h1 h2 h3 h4 h5 HC
  go_wp2_with fail
  clear a0 a1 az b0 b1 b2 bz d0 d1 d2 dz e1 e2 e3 e4 e5 e6
  go_loopw [13] (fun v13 wr => ∃ k : Nat, v13 = .int .i64 k ∧ k ≤ n ∧ Hid (∀ j, j < k → f[i + j]? = some true) ∧ Hid (Sep No w wr [As.blk g4 49 [.int .i64 X2, .int .i64 R2, .int .i64 S2], As.blk g3 49 [.int .i64 X1, .int .i64 R1, .int .i64 S1], As.blk g2 27 [.int .i64 s, .int .i64 n], As.blk g 24 [.int .i64 v.sh, .int .i64 v.ttl, .int .i64 v.ses, .slice A v.secs.length c]])) (fun v13 _ => n - (intOf v13).toNat)
  case atStart => exact ⟨0, rfl, by omega, hide (fun j hj => absurd hj (Nat.not_lt_zero _)), K3⟩
  case round =>
    obtain ⟨k, rfl, hk, HA, K4⟩ := hrel
    clear K3
    obtain ⟨a0, a1, az⟩ := blk2' (K4.out.blk (e := 27) (List.Mem.tail _ (List.Mem.tail _ (List.Mem.head _))))
    by_cases hlt : k < n
    · have hli : (k : Int) < (n : Int) := by omega
      obtain ⟨bb, hbb⟩ : ∃ x, f[i + k]? = some x := ⟨_, List.getElem?_eq_getElem (by omega)⟩
      obtain ⟨ad, rfl, hcell⟩ := bls_at (HF.out _ K4.out.toExt) hbb
      have HBB := hide hbb
      have HLT := hide hlt
      have hp1 : ((i : Int) + (k : Int)) < (f.length : Int) := by omega
      have hp2 : ((i : Int) + (k : Int)) < (d : Int) := by omega
      have hp3 : ((i : Int) + (k : Int)).toNat = i + k := by omega
      clear hbb hlt
      cases bb
      · have HZ : Hid (b = false) := hide (Bool.eq_false_iff.2 fun h => by
          have := HC2.out.1 h k HLT.out
          rw [HBB.out] at this
          cases this)
        go_wp2_with fail
        go_ret
        exact ⟨by (rw [HZ.out]; first | done | rfl), K4.out.toExt⟩
      · have HA2 : Hid (∀ j, j < k + 1 → f[i + j]? = some true) := hide (fun j hj => by
          by_cases e : j = k
          · rw [e]; exact HBB.out
          · exact HA.out j (by omega))
        go_wp2_with fail
        clear hcell
        go_roundw
        case rel => exact ⟨k + 1, by go_num, HLT.out, HA2, K4⟩
        case measure => have := HLT.out; simp [intOf]; omega
    · have hli : ¬ (k : Int) < (n : Int) := by omega
      obtain rfl : k = n := by omega
      have HZ : Hid (b = true) := hide (HC2.out.2 HA.out)
      clear hlt
      go_wp2_with fail
      go_ret
      exact ⟨by (rw [HZ.out]; first | done | rfl), K4.out.toExt⟩
end Go.Proofs.YtkhinagagncblaaDoor
