/- Venues: Seats, Of, Row, by the reference. -/
import Derived.Test.YtkhinagagncblaaDoorB3
namespace Go.Ad
/-- the seats among places that are asked for: the first one, how many -/
def sgo (p : Pl → Bool) : Nat → Nat × Nat → List Pl → Nat × Nat
  | _, st, [] => st
  | i, st, x :: l => sgo p (i + 1) (if p x = true then (if st.2 = 0 then i else st.1, st.2 + 1) else st) l
theorem sgo_app (p : Pl → Bool) : ∀ (l m : List Pl) (i : Nat) (st : Nat × Nat), sgo p i st (l ++ m) = sgo p (i + l.length) (sgo p i st l) m
  | [], m, i, st => rfl
  | x :: l, m, i, st => by
    rw [List.cons_append, sgo, sgo_app p l m, sgo, List.length_cons, show i + 1 + l.length = i + (l.length + 1) by omega]
theorem sgo_all {p : Pl → Bool} : ∀ (l : List Pl) (i : Nat) (st : Nat × Nat), (∀ x ∈ l, p x = true) → 0 < l.length → sgo p i st l = (if st.2 = 0 then i else st.1, st.2 + l.length)
  | [], i, st, _, h => by cases h
  | [x], i, st, h, _ => by rw [sgo, if_pos (h x (by simp)), sgo]; rfl
  | x :: y :: l, i, st, h, _ => by
    rw [sgo, if_pos (h x (by simp)), sgo_all (y :: l) _ _ (fun z hz => h z (by simp [List.mem_cons.1 hz])) (by simp)]
    simp only [List.length_cons]
    rw [if_neg (by omega), show st.2 + 1 + (l.length + 1) = st.2 + (l.length + 1 + 1) by omega]
theorem sgo_non {p : Pl → Bool} : ∀ (l : List Pl) (i : Nat) (st : Nat × Nat), (∀ x ∈ l, p x = false) → sgo p i st l = st
  | [], i, st, _ => rfl
  | x :: l, i, st, h => by
    rw [sgo, if_neg (by rw [h x (by simp)]; exact Bool.false_ne_true), sgo_non l _ _ fun z hz => h z (by simp [hz])]
theorem sgo_rows {p : Pl → Bool} {q : Nat → Nat → Bool} (hpq : ∀ i k n, p ⟨i, k, n⟩ = q i k) : ∀ (l : List RowI) (a : Nat) (st : Nat × Nat), Chain a l → (∀ R ∈ l, 0 < R.many) → sgo p a st (plL l) = l.foldl (gOf q) st
  | [], a, st, _, _ => rfl
  | R :: l, a, st, ⟨h1, h2⟩, hp => by
    rw [plL_cons, sgo_app, plR_len, List.foldl_cons, sgo_rows hpq l (a + R.many) _ h2 fun x hx => hp x (by simp [hx])]
    congr 1
    have hm := hp R (by simp)
    unfold gOf
    cases hq : q R.sec R.row
    · rw [sgo_non _ _ _ (by
        intro x hx
        obtain ⟨n, _, rfl⟩ := List.mem_map.1 hx
        rw [hpq, hq])]
      rfl
    · rw [sgo_all _ _ _ (by
        intro x hx
        obtain ⟨n, _, rfl⟩ := List.mem_map.1 hx
        rw [hpq, hq]) (by rw [plR_len]; exact hm), plR_len, h1]
      rfl
theorem rl_pos {ss : List Sc} (h : ∀ s ∈ ss, ScOk s) : ∀ R ∈ rl 0 0 ss, 0 < R.many := by
  intro R hR
  obtain ⟨j, s, h1, h2⟩ := rl_inv hR
  obtain ⟨q, n, h3, rfl⟩ := rlSec_inv h2
  have hn := List.mem_of_getElem? h3
  obtain ⟨x, hx, rfl⟩ := List.mem_map.1 hn
  have := (h s (List.mem_of_getElem? h1)).row x hx
  show 0 < x.toNat; omega
def pS (s r : Int) (x : Pl) : Bool := ((x.sec : Int) == s) && ((r == -1) || ((x.row : Int) == r))
def someE (v : Vn) (s r : Int) : Int × Int × Int :=
  if (chk v).2 ≠ 0 then (0, 0, (chk v).2) else if (sgo (pS s r) 0 (0, 0) (places v)).2 = 0 then (0, 0, 4) else ((((sgo (pS s r) 0 (0, 0) (places v)).1 : Nat) : Int), (((sgo (pS s r) 0 (0, 0) (places v)).2 : Nat) : Int), (0 : Int))
theorem some_row {v : Vn} {j q n : Nat} {s : Sc} (hok : VnOk v) (hz : (chk v).2 = 0) (hs : v.secs[j]? = some s) (hn : s.rowsN[q]? = some n) : someE v j q = (((fst0 v.secs j + (s.rowsN.take q).sum : Nat) : Int), ((n : Nat) : Int), (0 : Int)) := by
  have h1 : sgo (pS j q) 0 (0, 0) (places v) = (fst0 v.secs j + (s.rowsN.take q).sum, n) := by
    rw [places, sgo_rows (q := fun i k => decide (i = j) && decide (k = q)) (fun i k n => ?_) _ _ _ (chain_rl v.secs 0 0) (rl_pos hok.sec), of_row hs hn]
    unfold pS
    rw [show (((q : Nat) : Int) == -1) = false from beq_eq_false_iff_ne.2 (by omega), Bool.false_or]
    congr 1
    · rw [Bool.eq_iff_iff]; simp; omega
    · rw [Bool.eq_iff_iff]; simp; omega
  have hp : 0 < n := by
    obtain ⟨x, hx, rfl⟩ := List.mem_map.1 (List.mem_of_getElem? hn)
    have := (hok.sec s (List.mem_of_getElem? hs)).row x hx
    omega
  unfold someE
  rw [if_neg (by simpa using hz), h1, if_neg (by show n ≠ 0; omega)]
theorem sgo_step {p : Pl → Bool} {l : List Pl} {i : Nat} {x : Pl} (h : l[i]? = some x) : sgo p 0 (0, 0) (l.take (i + 1)) = if p x = true then (if (sgo p 0 (0, 0) (l.take i)).2 = 0 then i else (sgo p 0 (0, 0) (l.take i)).1, (sgo p 0 (0, 0) (l.take i)).2 + 1) else sgo p 0 (0, 0) (l.take i) := by
  have hi := (List.getElem?_eq_some_iff.1 h).1
  rw [List.take_add_one, h, Option.toList_some, sgo_app, List.length_take, Nat.min_eq_left (by omega), Nat.zero_add]
  rfl
theorem sgo_le (p : Pl → Bool) : ∀ (l : List Pl) (i : Nat) (st : Nat × Nat), (sgo p i st l).1 ≤ max st.1 (i + l.length) ∧ (sgo p i st l).2 ≤ st.2 + l.length
  | [], i, st => ⟨by show st.1 ≤ _; omega, Nat.le_refl _⟩
  | x :: l, i, st => by
    rw [sgo, List.length_cons]
    have := sgo_le p l (i + 1) (if p x = true then (if st.2 = 0 then i else st.1, st.2 + 1) else st)
    revert this
    split
    · split <;> (intro this; simp only at this; omega)
    · intro this; omega
end Go.Ad
namespace Go.Proofs.YtkhinagagncblaaDoor
open Go.RowKit Go.Gr Go.Ad
set_option linter.unusedVariables false
set_option linter.unusedSimpArgs false
attribute [local go_sem] rdOp rdAt rdUpon Cls forall_fr
theorem results_tmp3 {fn : Func} {t u x : Tmp} (h : fn.results = #[.tmp t, .tmp u, .tmp x]) (tmps : Array Value) (P : Program) (w : World) :
    (results fn tmps).run P w = .ok (.tuple #[tmps.getD t undef, tmps.getD u undef, tmps.getD x undef]) w := by
  simp [results, h]
theorem someE_of {v : Vn} (hok : VnOk v) (hz : (chk v).2 = 0) (s : Int) : someE v s (-1) = ofE v s := by
  have h1 : sgo (pS s (-1)) 0 (0, 0) (places v) = (rl 0 0 v.secs).foldl (gOf fun i _ => decide ((i : Int) = s)) (0, 0) := by
    rw [places, sgo_rows (q := fun i _ => decide ((i : Int) = s)) (fun i k n => ?_) _ _ _ (chain_rl v.secs 0 0) (rl_pos hok.sec)]
    unfold pS
    simp only [show ((-1 : Int) == -1) = true from rfl, Bool.true_or, Bool.and_true]
    rw [Bool.eq_iff_iff]; simp
  unfold someE
  rw [if_neg (by simpa using hz), h1]
  split
  · rename_i h0; rw [of_bad hok hz s h0]
  · rename_i h0; rw [of_ok hok hz s h0]
/-- where a place of a list lies -/
theorem own_pl {w0 w : World} {v : Value} {l : List Pl} {L : List As} {i : Nat} {r : Pl} (h : Sep No w0 w L) (hm : As.ownM 49 3 v (plV l) ∈ L) (hr : l[i]? = some r) :
    ∃ g c, v = .slice (some ⟨g, 0, none⟩) l.length c ∧ l.length ≤ c ∧ w.cell? ⟨g, i * 3, none⟩ = some (.int .i64 (r.sec : Nat)) ∧ w.cell? ⟨g, i * 3 + 1, none⟩ = some (.int .i64 (r.row : Nat)) ∧ w.cell? ⟨g, i * 3 + 2, none⟩ = some (.int .i64 (r.seat : Nat)) := by
  obtain ⟨g, c, e, hc, h5⟩ := (h.ownsM hm).at5 (by decide) (plV_at hr)
  rw [plV_len] at e hc
  obtain ⟨a, b, d⟩ := at5_3 h5
  exact ⟨g, c, e, hc, a, b, d⟩
set_option maxRecDepth 100000 in
set_option maxHeartbeats 8000000 in
theorem ref_seats (v : Vn) (A : Option Addr) (c : Nat) (w : World) (h : Secs w A v.secs) (hc : v.secs.length ≤ c) (hw : VnW v) :
    Calls Tryd.prog 43 #[.agg #[.int .i64 v.sh, .int .i64 v.ttl, .int .i64 v.ses, .slice A v.secs.length c]] w fun e w' => e = .returned (.tuple #[.int .i64 (seatsE v).1, .int .i64 (seatsE v).2]) ∧ Ext w w' := by
  have HCK := hide (fun (y : World) (k : Ext w y) => ref_check v A c y (h.ext k) hc hw)
  have HP := hide (fun (y : World) (k : Ext w y) (hok : VnOk v) => ref_places v A c y (h.ext k) hc hok.few hok.sec)
  clear h hc hw
  have K0 := hide ((Sep.refl No w).add 24 [.int .i64 v.sh, .int .i64 v.ttl, .int .i64 v.ses, .slice A v.secs.length c])
  go_enter Tryd.func43, Tryd.ntmps43
  go_wp2_with fail
  (with_reducible refine (HCK.out _ K0.out.toExt).mono ?_)
  rintro e w1 ⟨rfl, hx⟩
  have K1 := hide (K0.out.ext hx)
  clear K0 hx HCK
  obtain ⟨c0, c1, c2, c3, cz⟩ := blk4 (K1.out.blk (List.Mem.head _))
  by_cases hq : (chk v).2 = 0
  rotate_left
  · have HE : Hid (seatsE v = (0, (chk v).2)) := hide (by unfold seatsE; rw [if_neg hq])
    have e1 : ((chk v).2 != 0) = true := bne_iff_ne.2 hq
    clear hq
    go_wp2_with fail
    refine bodyPost_ret (results_tmp2 rfl _ _ _) rfl ?_
    exact ⟨by rw [HE.out]; rfl, K1.out.toExt⟩
  have HE : Hid (seatsE v = (((sumS v.secs : Nat) : Int), (0 : Int))) := hide (by unfold seatsE; rw [if_pos hq])
  have HPP := hide (HP.out w1 K1.out.toExt (chk_zero hq).1)
  rw [hq]
  clear hq
  go_wp2_with fail
  (with_reducible refine HPP.out.mono ?_)
  rintro e w2 ⟨v', rfl, hS⟩
  have hx := hS.toExt
  obtain ⟨B, bc, rfl, _⟩ := nilM_form' hS
  rw [plV_len, places_len]
  have K2 := hide (K1.out.ext hx)
  clear hS hx HPP K1 c0 c1 c2 c3 cz
  go_wp2_with fail
  refine bodyPost_ret (results_tmp2 rfl _ _ _) rfl ?_
  exact ⟨by rw [HE.out]; rfl, K2.out.toExt⟩
set_option maxRecDepth 100000 in
set_option maxHeartbeats 8000000 in
theorem ref_some (v : Vn) (A : Option Addr) (c : Nat) (s r : Int) (w : World) (h : Secs w A v.secs) (hc : v.secs.length ≤ c) (hw : VnW v) :
    Calls Tryd.prog 45 #[.agg #[.int .i64 v.sh, .int .i64 v.ttl, .int .i64 v.ses, .slice A v.secs.length c], .int .i64 s, .int .i64 r] w fun e w' => e = .returned (.tuple #[.int .i64 (someE v s r).1, .int .i64 (someE v s r).2.1, .int .i64 (someE v s r).2.2]) ∧ Ext w w' := by
  have HCK := hide (fun (y : World) (k : Ext w y) => ref_check v A c y (h.ext k) hc hw)
  have HP := hide (fun (y : World) (k : Ext w y) (hok : VnOk v) => ref_places v A c y (h.ext k) hc hok.few hok.sec)
  clear h hc hw
  have K0 := hide ((Sep.refl No w).add 24 [.int .i64 v.sh, .int .i64 v.ttl, .int .i64 v.ses, .slice A v.secs.length c])
  go_enter Tryd.func45, Tryd.ntmps45
  go_wp2_with fail
  (with_reducible refine (HCK.out _ K0.out.toExt).mono ?_)
  rintro e w1 ⟨rfl, hx⟩
  have K1 := hide (K0.out.ext hx)
  clear K0 hx HCK
  obtain ⟨c0, c1, c2, c3, cz⟩ := blk4 (K1.out.blk (List.Mem.head _))
  by_cases hq : (chk v).2 = 0
  rotate_left
  · have HE : Hid (someE v s r = (0, 0, (chk v).2)) := hide (by unfold someE; rw [if_pos hq])
    have e1 : ((chk v).2 != 0) = true := bne_iff_ne.2 hq
    clear hq
    go_wp2_with fail
    refine bodyPost_ret (results_tmp3 rfl _ _ _) rfl ?_
    exact ⟨by rw [HE.out]; rfl, K1.out.toExt⟩
  have HE : Hid (someE v s r = if (sgo (pS s r) 0 (0, 0) (places v)).2 = 0 then (0, 0, 4) else ((((sgo (pS s r) 0 (0, 0) (places v)).1 : Nat) : Int), (((sgo (pS s r) 0 (0, 0) (places v)).2 : Nat) : Int), (0 : Int))) := hide (by unfold someE; rw [if_neg (by simpa using hq)])
  have HPP := hide (HP.out w1 K1.out.toExt (chk_zero hq).1)
  have HLEN : Hid ((places v).length ≤ 4096) := hide (by rw [places_len]; exact (chk_zero hq).1.sum)
  rw [hq]
  clear hq
  go_wp2_with fail
  (with_reducible refine HPP.out.mono ?_)
  rintro e w2 ⟨v', rfl, hS⟩
  have K2 := K1.out.joinW hS
  obtain ⟨B, bc, rfl, hbc⟩ := nilM_form' hS
  rw [plV_len] at K2 hbc ⊢
  clear hS HPP K1 c0 c1 c2 c3 cz
  obtain ⟨l, hl⟩ : ∃ l, places v = l := ⟨_, rfl⟩
  rw [hl] at K2 hbc HLEN HE ⊢
  clear hl
  have KK := hide (K2.sub (L' := [As.ownM 49 3 (.slice B l.length bc) (plV l)]) (List.Sublist.cons_cons _ (List.nil_sublist _)))
  clear K2
  go_wp2_with fail
  go_loopw [11, 12, 14] (fun v11 v12 v14 wr => ∃ (i a m : Nat), v14 = .int .i64 i ∧ v11 = .int .i64 a ∧ v12 = .int .i64 m ∧ i ≤ l.length ∧ Hid (sgo (pS s r) 0 (0, 0) (l.take i) = (a, m)) ∧ wr = w2) (fun _ _ v14 _ => l.length - (intOf v14).toNat)
  case atStart => exact ⟨0, 0, 0, rfl, rfl, rfl, by omega, hide rfl, rfl⟩
  case round =>
    obtain ⟨i, a, m, rfl, rfl, rfl, hi, HST, rfl⟩ := hrel
    have hlb := HLEN.out
    have hmb : m ≤ 5000 := by
      have h1 := (sgo_le (pS s r) (l.take i) 0 (0, 0)).2
      rw [HST.out, List.length_take] at h1
      simp only at h1; omega
    by_cases hlt : i < l.length
    · have hli : (i : Int) < (l.length : Int) := by omega
      obtain ⟨x, hx⟩ : ∃ x, l[i]? = some x := ⟨_, List.getElem?_eq_getElem hlt⟩
      obtain ⟨g, gc, e, _, x0, x1, x2⟩ := own_pl KK.out (List.Mem.head _) hx
      cases e
      have hic : (i : Int) < (bc : Int) := by omega
      have HNX := hide (sgo_step (p := pS s r) hx)
      rw [HST.out] at HNX
      have HLT := hide hlt
      clear hx hlt HST
      by_cases h1 : (x.sec : Int) = s
      rotate_left
      · have e1 : ((x.sec : Int) == s) = false := beq_eq_false_iff_ne.2 h1
        have HP0 : Hid (pS s r x = false) := hide (by unfold pS; rw [e1]; rfl)
        clear h1
        rw [HP0.out, if_neg Bool.false_ne_true] at HNX
        go_wp2_with fail
        go_roundw
        case rel => exact ⟨i + 1, a, m, by go_num, rfl, rfl, HLT.out, HNX, by first | trivial | rfl⟩
        case measure => have := HLT.out; simp [intOf]; omega
      have e1 : ((x.sec : Int) == s) = true := beq_iff_eq.2 h1
      clear h1
      by_cases h2 : r = -1
      · have e2 : (r == -1) = true := beq_iff_eq.2 h2
        have HP0 : Hid (pS s r x = true) := hide (by unfold pS; rw [e1, e2]; rfl)
        clear h2
        rw [HP0.out, if_pos rfl] at HNX
        by_cases hm : m = 0
        · have e5 : ((m : Int) == 0) = true := beq_iff_eq.2 (by omega)
          rw [if_pos (by exact hm)] at HNX
          clear hm
          go_wp2_with fail
          go_roundw
          case rel => exact ⟨i + 1, i, m + 1, by go_num, rfl, by go_num, HLT.out, HNX, by first | trivial | rfl⟩
          case measure => have := HLT.out; simp [intOf]; omega
        · have e5 : ((m : Int) == 0) = false := beq_eq_false_iff_ne.2 (by omega)
          rw [if_neg (by exact hm)] at HNX
          clear hm
          go_wp2_with fail
          go_roundw
          case rel => exact ⟨i + 1, a, m + 1, by go_num, rfl, by go_num, HLT.out, HNX, by first | trivial | rfl⟩
          case measure => have := HLT.out; simp [intOf]; omega
      have e2 : (r == -1) = false := beq_eq_false_iff_ne.2 h2
      clear h2
      by_cases h3 : (x.row : Int) = r
      · have e3 : ((x.row : Int) == r) = true := beq_iff_eq.2 h3
        have HP0 : Hid (pS s r x = true) := hide (by unfold pS; rw [e1, e2, e3]; rfl)
        clear h3
        rw [HP0.out, if_pos rfl] at HNX
        by_cases hm : m = 0
        · have e5 : ((m : Int) == 0) = true := beq_iff_eq.2 (by omega)
          rw [if_pos (by exact hm)] at HNX
          clear hm
          go_wp2_with fail
          go_roundw
          case rel => exact ⟨i + 1, i, m + 1, by go_num, rfl, by go_num, HLT.out, HNX, by first | trivial | rfl⟩
          case measure => have := HLT.out; simp [intOf]; omega
        · have e5 : ((m : Int) == 0) = false := beq_eq_false_iff_ne.2 (by omega)
          rw [if_neg (by exact hm)] at HNX
          clear hm
          go_wp2_with fail
          go_roundw
          case rel => exact ⟨i + 1, a, m + 1, by go_num, rfl, by go_num, HLT.out, HNX, by first | trivial | rfl⟩
          case measure => have := HLT.out; simp [intOf]; omega
      · have e3 : ((x.row : Int) == r) = false := beq_eq_false_iff_ne.2 h3
        have HP0 : Hid (pS s r x = false) := hide (by unfold pS; rw [e1, e2, e3]; rfl)
        clear h3
        rw [HP0.out, if_neg Bool.false_ne_true] at HNX
        go_wp2_with fail
        go_roundw
        case rel => exact ⟨i + 1, a, m, by go_num, rfl, rfl, HLT.out, HNX, by first | trivial | rfl⟩
        case measure => have := HLT.out; simp [intOf]; omega
    · have hli : ¬ (i : Int) < (l.length : Int) := by omega
      obtain rfl : i = l.length := by omega
      have HS2 := HST.out
      rw [List.take_of_length_le (Nat.le_refl _)] at HS2
      rw [HS2] at HE
      clear HS2 HST hlt
      by_cases hm : m = 0
      · have e1 : ((m : Int) == 0) = true := beq_iff_eq.2 (by omega)
        rw [if_pos (by exact hm)] at HE
        clear hm
        go_wp2_with fail
        refine bodyPost_ret (results_tmp3 rfl _ _ _) rfl ?_
        exact ⟨by rw [HE.out]; rfl, KK.out.toExt⟩
      · have e1 : ((m : Int) == 0) = false := beq_eq_false_iff_ne.2 (by omega)
        rw [if_neg (by exact hm)] at HE
        clear hm
        go_wp2_with fail
        refine bodyPost_ret (results_tmp3 rfl _ _ _) rfl ?_
        exact ⟨by rw [HE.out]; rfl, KK.out.toExt⟩
set_option maxRecDepth 100000 in
set_option maxHeartbeats 8000000 in
theorem ref_of (v : Vn) (A : Option Addr) (c : Nat) (s : Int) (w : World) (h : Secs w A v.secs) (hc : v.secs.length ≤ c) (hw : VnW v) :
    Calls Tryd.prog 26 #[.agg #[.int .i64 v.sh, .int .i64 v.ttl, .int .i64 v.ses, .slice A v.secs.length c], .int .i64 s] w fun e w' => e = .returned (.tuple #[.int .i64 (ofE v s).1, .int .i64 (ofE v s).2.1, .int .i64 (ofE v s).2.2]) ∧ Ext w w' := by
  have HQ := hide (fun (y : World) (k : Ext w y) => ref_some v A c s (-1) y (h.ext k) hc hw)
  clear h hc hw
  have HE : Hid (someE v s (-1) = ofE v s) := hide (by
    by_cases hq : (chk v).2 = 0
    · exact someE_of (chk_zero hq).1 hq s
    · unfold someE ofE; rw [if_pos hq, if_neg hq])
  rw [HE.out] at HQ
  clear HE
  have K0 := hide ((Sep.refl No w).add 24 [.int .i64 v.sh, .int .i64 v.ttl, .int .i64 v.ses, .slice A v.secs.length c])
  go_enter Tryd.func26, Tryd.ntmps26
  go_wp2_with fail
  (with_reducible refine (HQ.out _ K0.out.toExt).mono ?_)
  rintro e w1 ⟨rfl, hx⟩
  go_wp2_with fail
  refine bodyPost_ret (results_tmp3 rfl _ _ _) rfl ?_
  exact ⟨rfl, K0.out.toExt.trans hx⟩
set_option maxRecDepth 100000 in
set_option maxHeartbeats 8000000 in
/-- the seats of a row that there is -/
theorem ref_row (v : Vn) (A : Option Addr) (c j q n : Nat) (s : Sc) (w : World) (h : Secs w A v.secs) (hc : v.secs.length ≤ c) (hw : VnW v) (hz : (chk v).2 = 0) (hs : v.secs[j]? = some s) (hn : s.rowsN[q]? = some n) :
    Calls Tryd.prog 49 #[.agg #[.int .i64 v.sh, .int .i64 v.ttl, .int .i64 v.ses, .slice A v.secs.length c], .int .i64 j, .int .i64 q] w fun e w' => e = .returned (.tuple #[.int .i64 (fst0 v.secs j + (s.rowsN.take q).sum : Nat), .int .i64 (n : Nat), .int .i64 0]) ∧ Ext w w' := by
  have HCK := hide (fun (y : World) (k : Ext w y) => ref_check v A c y (h.ext k) hc hw)
  have HQ := hide (fun (y : World) (k : Ext w y) => ref_some v A c j q y (h.ext k) hc hw)
  rw [some_row (chk_zero hz).1 hz hs hn, (chk_zero hz).2] at *
  clear h hc hw hz hs hn
  have K0 := hide ((Sep.refl No w).add 24 [.int .i64 v.sh, .int .i64 v.ttl, .int .i64 v.ses, .slice A v.secs.length c])
  have e1 : ¬ (q : Int) < 0 := by omega
  go_enter Tryd.func49, Tryd.ntmps49
  go_wp2_with fail
  (with_reducible refine (HCK.out _ K0.out.toExt).mono ?_)
  rintro e w1 ⟨rfl, hx⟩
  have K1 := hide (K0.out.ext hx)
  clear K0 hx HCK
  obtain ⟨c0, c1, c2, c3, cz⟩ := blk4 (K1.out.blk (List.Mem.head _))
  go_wp2_with fail
  (with_reducible refine (HQ.out _ K1.out.toExt).mono ?_)
  rintro e w2 ⟨rfl, hx⟩
  go_wp2_with fail
  refine bodyPost_ret (results_tmp3 rfl _ _ _) rfl ?_
  exact ⟨rfl, K1.out.toExt.trans hx⟩
end Go.Proofs.YtkhinagagncblaaDoor
