/- Lists of waiters: the reference's Len, First, Place, with. -/
import Derived.Test.YteecgieigjfjiaaW14
namespace Go.Proofs.Yteecgieigjfjiaa
open Go.RowKit Go.Gr Go.Wl
set_option linter.unusedVariables false
set_option linter.unusedSimpArgs false
attribute [local go_sem] rdOp rdAt rdUpon Cls forall_fr
theorem cells2 {w : World} {g : Nat} {e : TypeId} {x y : Value} (h : Blk w g e [x, y]) : w.cell? ⟨g, 0, none⟩ = some x ∧ w.cell? ⟨g, 1, none⟩ = some y ∧ g < w.heap.size := ⟨h.cell 0, h.cell 1, h.lt⟩
theorem add0 (a : Addr) : a.add 0 = a := by
  cases a with
  | mk b o p => cases p <;> simp [Addr.add]
def limsS (S : St) : List Int := S.map fun p => ((p.1 : Nat) : Int)
theorem limsS_len (S : St) : (limsS S).length = S.length := by simp [limsS]
theorem limsS_get {S : St} {s : Nat} (hs : s < S.length) : (limsS S)[s]'(by rw [limsS_len]; exact hs) = ((lm S s : Nat) : Int) := by
  unfold limsS lm
  simp [List.getD_eq_getElem?_getD, hs]
def rowsS (S : St) : List (List Int) := S.map (·.2)
theorem rowsS_len (S : St) : (rowsS S).length = S.length := by simp [rowsS]
theorem rowsS_get {S : St} {s : Nat} (hs : s < S.length) : (rowsS S)[s]'(by rw [rowsS_len]; exact hs) = wt S s := by
  unfold rowsS wt
  simp [List.getD_eq_getElem?_getD, hs]
theorem limsS_put {S : St} {s : Nat} (hs : s < S.length) (r : List Int) : limsS (put S s r) = limsS S := by
  unfold put limsS
  rw [List.map_set]
  apply List.ext_getElem?
  intro j
  by_cases e : s = j
  · subst e
    simp only [Int.toNat_natCast]
    rw [List.getElem?_set_self (by simpa using hs), List.getElem?_map, List.getElem?_eq_getElem hs]
    simp [lm, List.getD_eq_getElem?_getD, hs]
  · rw [List.getElem?_set_ne (by simpa using e)]
theorem rowsS_put (S : St) (s : Nat) (r : List Int) : rowsS (put S s r) = (rowsS S).set s r := by
  unfold put rowsS
  rw [List.map_set]; simp
theorem put_len (S : St) (i : Int) (r : List Int) : (put S i r).length = S.length := by simp [put]
/-- the reference's lists: the limits are read, the waiters are rows -/
def AsRf (A B : Option Addr) (vs : List Value) (S : St) : As := (As.rd A (i64s (limsS S))).and (AsRows B vs (rowsS S))
theorem rf_ext {A B : Option Addr} {vs : List Value} {S : St} {w w' : World} (h : (AsRf A B vs S).p w) (k : Ext w w') : (AsRf A B vs S).p w' := ⟨h.1.ext k, h.2.1.ext k, h.2.2.ext k⟩
theorem rf_lim {A B : Option Addr} {vs : List Value} {S : St} {w : World} (h : (AsRf A B vs S).p w) {s : Nat} (hs : s < S.length) : ∃ ad, A = some ad ∧ w.cell? (ad.add s) = some (.int .i64 ((lm S s : Nat) : Int)) := by
  obtain ⟨ad, e, hc⟩ := i64s_at h.1 (k := s) (by rw [limsS_len]; exact hs)
  rw [limsS_get hs] at hc
  exact ⟨ad, e, hc⟩
theorem rf_row {A B : Option Addr} {vs : List Value} {S : St} {w : World} (h : (AsRf A B vs S).p w) {s : Nat} (hs : s < S.length) : ∃ bd C cr, B = some bd ∧ w.cell? (bd.add s) = some (.slice C (wt S s).length cr) ∧ vs[s]? = some (.slice C (wt S s).length cr) ∧ (wt S s).length ≤ cr ∧ Rd w C (u32s (wt S s)) := by
  obtain ⟨v, hv, C, cr, rfl, hcr, hr⟩ := h.2.2.get (j := s) (by rw [rowsS_len]; exact hs)
  rw [rowsS_get hs] at hv hcr hr
  obtain ⟨bd, e, hc⟩ := h.2.1 s _ hv
  exact ⟨bd, C, cr, e, hc, hv, hcr, hr⟩
theorem inB_true {S : St} {i : Int} (h : inS S i) : inB S.length i = true ∧ ∃ s : Nat, i = s ∧ s < S.length := by
  obtain ⟨h0, h1⟩ := h
  exact ⟨decide_eq_true ⟨h0, h1⟩, i.toNat, by omega, by omega⟩
theorem inB_false {S : St} {i : Int} (h : ¬ inS S i) : inB S.length i = false := decide_eq_false h
abbrev rv (A B : Option Addr) (n c d : Nat) : Value := .agg #[.slice A n c, .slice B n d]
theorem rlen_any {A B : Option Addr} {vs : List Value} {S : St} {c d : Nat} {i : Int} {w : World} (h : (AsRf A B vs S).p w) : Calls Try.prog 36 #[rv A B S.length c d, .int .i64 i] w fun e w' => e = .returned (.tuple #[.int .i64 (lenS S i).1, .int .i64 (lenS S i).2]) ∧ Ext w w' := by
  have H := hide h
  have H0 := (Sep.refl No w).newB ((Ext.refl w).alloc (.cells #[.slice A S.length c, .slice B S.length d] 45)) (Blk.new w 45 [.slice A S.length c, .slice B S.length d]) (Nat.le_refl _)
  have HSO := hide (fun (x : World) => some_any (A := A) (B := B) (n := S.length) (c := c) (m := S.length) (d := d) i x)
  clear h
  by_cases hin : inS S i
  · obtain ⟨hb, s, rfl, hs⟩ := inB_true hin
    rw [hb] at HSO
    have HE : Hid (lenS S s = (((wt S s).length : Int), 0)) := hide (by unfold lenS; rw [if_neg (fun h => h hin)])
    have hsi : (s : Int) < (S.length : Int) := by omega
    clear hb hin
    go_enter Try.func36, Try.ntmps36
    obtain ⟨c0, c1, hg0⟩ := cells2 (H0.blk (g := w.heap.size) (e := 45) (cs := [.slice A S.length c, .slice B S.length d]) (List.Mem.head _))
    go_wp2_with fail
    (with_reducible refine (HSO.out _).mono ?_)
    rintro e w1 ⟨rfl, hx1⟩
    have K1 := H0.ext hx1
    clear H0 hx1 c0 c1 hg0
    obtain ⟨c0, c1, hg0⟩ := cells2 (K1.blk (g := w.heap.size) (e := 45) (cs := [.slice A S.length c, .slice B S.length d]) (List.Mem.head _))
    obtain ⟨bd, C, cr, hB, c2, _, _, _⟩ := rf_row (rf_ext H.out K1.toExt) hs
    subst hB
    have HX := hide K1.toExt
    clear K1
    go_wp2_with fail
    go_ret2
    exact ⟨by rw [HE.out]; rfl, HX.out⟩
  · have hb := inB_false hin
    rw [hb] at HSO
    have HE : Hid (lenS S i = (0, 4)) := hide (by unfold lenS; rw [if_pos hin])
    clear hb hin
    go_enter Try.func36, Try.ntmps36
    obtain ⟨c0, c1, hg0⟩ := cells2 (H0.blk (g := w.heap.size) (e := 45) (cs := [.slice A S.length c, .slice B S.length d]) (List.Mem.head _))
    go_wp2_with fail
    (with_reducible refine (HSO.out _).mono ?_)
    rintro e w1 ⟨rfl, hx1⟩
    have HX := hide (H0.ext hx1).toExt
    clear H0 hx1 c0 c1 hg0
    go_wp2_with fail
    go_ret2
    exact ⟨by rw [HE.out]; rfl, HX.out⟩
theorem rfirst_any {A B : Option Addr} {vs : List Value} {S : St} {c d : Nat} {i : Int} {w : World} (h : (AsRf A B vs S).p w) : Calls Try.prog 34 #[rv A B S.length c d, .int .i64 i] w fun e w' => e = .returned (.tuple #[.int .u32 (firstS S i).1, .int .i64 (firstS S i).2]) ∧ Ext w w' := by
  have H := hide h
  have H0 := (Sep.refl No w).newB ((Ext.refl w).alloc (.cells #[.slice A S.length c, .slice B S.length d] 45)) (Blk.new w 45 [.slice A S.length c, .slice B S.length d]) (Nat.le_refl _)
  have HSO := hide (fun (x : World) => some_any (A := A) (B := B) (n := S.length) (c := c) (m := S.length) (d := d) i x)
  clear h
  by_cases hin : inS S i
  · obtain ⟨hb, s, rfl, hs⟩ := inB_true hin
    rw [hb] at HSO
    have hsi : (s : Int) < (S.length : Int) := by omega
    by_cases hne : wt S s = []
    · have HE : Hid (firstS S s = (0, 4)) := hide (by unfold firstS; rw [if_neg (fun h => h hin), if_pos hne])
      have hl0 : (wt S s).length = 0 := by rw [hne]; rfl
      have HL0 := hide hl0
      clear hb hin hne hl0
      go_enter Try.func34, Try.ntmps34
      obtain ⟨c0, c1, hg0⟩ := cells2 (H0.blk (g := w.heap.size) (e := 45) (cs := [.slice A S.length c, .slice B S.length d]) (List.Mem.head _))
      go_wp2_with fail
      (with_reducible refine (HSO.out _).mono ?_)
      rintro e w1 ⟨rfl, hx1⟩
      have K1 := H0.ext hx1
      clear H0 hx1 c0 c1 hg0
      obtain ⟨c0, c1, hg0⟩ := cells2 (K1.blk (g := w.heap.size) (e := 45) (cs := [.slice A S.length c, .slice B S.length d]) (List.Mem.head _))
      obtain ⟨bd, C, cr, hB, c2, _, _, _⟩ := rf_row (rf_ext H.out K1.toExt) hs
      subst hB
      rw [HL0.out] at c2
      have HX := hide K1.toExt
      clear K1
      go_wp2_with fail
      go_ret2
      exact ⟨by rw [HE.out]; rfl, HX.out⟩
    · obtain ⟨x, HX0⟩ : ∃ x, Hid ((wt S s)[0]'(List.length_pos_iff.2 hne) = x) := ⟨_, hide rfl⟩
      have HE : Hid (firstS S s = (x, 0)) := hide (by
        unfold firstS
        rw [if_neg (fun h => h hin), if_neg hne, List.getD_eq_getElem?_getD, List.getElem?_eq_getElem (List.length_pos_iff.2 hne), ← HX0.out]; rfl)
      have hpos := List.length_pos_iff.2 hne
      have hl0 : (((wt S s).length : Int) == 0) = false := beq_eq_false_iff_ne.2 (by omega)
      have hl1 : (0 : Int) < ((wt S s).length : Int) := by omega
      clear hb hin
      go_enter Try.func34, Try.ntmps34
      obtain ⟨c0, c1, hg0⟩ := cells2 (H0.blk (g := w.heap.size) (e := 45) (cs := [.slice A S.length c, .slice B S.length d]) (List.Mem.head _))
      go_wp2_with fail
      (with_reducible refine (HSO.out _).mono ?_)
      rintro e w1 ⟨rfl, hx1⟩
      have K1 := H0.ext hx1
      clear H0 hx1 c0 c1 hg0
      obtain ⟨c0, c1, hg0⟩ := cells2 (K1.blk (g := w.heap.size) (e := 45) (cs := [.slice A S.length c, .slice B S.length d]) (List.Mem.head _))
      obtain ⟨bd, C, cr, hB, c2, _, _, hrr⟩ := rf_row (rf_ext H.out K1.toExt) hs
      subst hB
      obtain ⟨cd, hC, c3⟩ := u32s_at hrr (k := 0) hpos
      subst hC
      rw [HX0.out, add0] at c3
      have HX := hide K1.toExt
      clear K1 hrr
      go_wp2_with fail
      go_ret2
      exact ⟨by rw [HE.out]; rfl, HX.out⟩
  · have hb := inB_false hin
    rw [hb] at HSO
    have HE : Hid (firstS S i = (0, 4)) := hide (by unfold firstS; rw [if_pos hin])
    clear hb hin
    go_enter Try.func34, Try.ntmps34
    obtain ⟨c0, c1, hg0⟩ := cells2 (H0.blk (g := w.heap.size) (e := 45) (cs := [.slice A S.length c, .slice B S.length d]) (List.Mem.head _))
    go_wp2_with fail
    (with_reducible refine (HSO.out _).mono ?_)
    rintro e w1 ⟨rfl, hx1⟩
    have HX := hide (H0.ext hx1).toExt
    clear H0 hx1 c0 c1 hg0
    go_wp2_with fail
    go_ret2
    exact ⟨by rw [HE.out]; rfl, HX.out⟩
theorem place_fnd {S : St} {s : Nat} (hin : inS S s) (o : Int) : placeS S s o = if fnd (wt S s) o + 1 = 0 then (0, 4) else (fnd (wt S s) o + 1, 0) := by
  unfold placeS
  rw [if_neg (fun h => h hin)]
  by_cases ho : o ∈ wt S s
  · rw [if_pos ho, fnd_in ho, if_neg (by omega)]
  · rw [if_neg ho, fnd_out ho, if_pos (by omega)]
theorem rplaceL_any {A B : Option Addr} {vs : List Value} {S : St} {c d : Nat} {i o : Int} {w : World} (h : (AsRf A B vs S).p w) (hok : Ok S) : Calls Try.prog 33 #[rv A B S.length c d, .int .i64 i, .int .u32 o] w fun e w' => e = .returned (.tuple #[.int .i64 (placeS S i o).1, .int .i64 (placeS S i o).2]) ∧ Ext w w' := by
  have H := hide h
  have H0 := (Sep.refl No w).newB ((Ext.refl w).alloc (.cells #[.slice A S.length c, .slice B S.length d] 45)) (Blk.new w 45 [.slice A S.length c, .slice B S.length d]) (Nat.le_refl _)
  have HSO := hide (fun (x : World) => some_any (A := A) (B := B) (n := S.length) (c := c) (m := S.length) (d := d) i x)
  clear h
  by_cases hin : inS S i
  · obtain ⟨hb, s, rfl, hs⟩ := inB_true hin
    rw [hb] at HSO
    have hsi : (s : Int) < (S.length : Int) := by omega
    have hw64 : (wt S s).length ≤ 1000000 := by
      have h1 := (hok.get hin).len
      have h2 := (hok.get hin).lim
      simp only at h1 h2
      omega
    obtain ⟨q, HQ⟩ : ∃ q, Hid (fnd (wt S s) o + 1 = q) := ⟨_, hide rfl⟩
    have hpl := place_fnd hin o
    rw [HQ.out] at hpl
    have HPL := hide (fun (x : World) (C : Option Addr) (cr : Nat) (hr : Rd x C (u32s (wt S s))) => rplace_any (wt S s) o C cr x hr hw64)
    rw [HQ.out] at HPL
    by_cases hq : q = 0
    · rw [if_pos hq] at hpl
      have HE := hide hpl
      rw [hq] at HPL
      clear hb hin hpl hq
      go_enter Try.func33, Try.ntmps33
      obtain ⟨c0, c1, hg0⟩ := cells2 (H0.blk (g := w.heap.size) (e := 45) (cs := [.slice A S.length c, .slice B S.length d]) (List.Mem.head _))
      go_wp2_with fail
      (with_reducible refine (HSO.out _).mono ?_)
      rintro e w1 ⟨rfl, hx1⟩
      have K1 := H0.ext hx1
      clear H0 hx1 c0 c1 hg0
      obtain ⟨c0, c1, hg0⟩ := cells2 (K1.blk (g := w.heap.size) (e := 45) (cs := [.slice A S.length c, .slice B S.length d]) (List.Mem.head _))
      obtain ⟨bd, C, cr, hB, c2, _, _, hrr⟩ := rf_row (rf_ext H.out K1.toExt) hs
      subst hB
      have HRR := hide hrr
      have HX := hide K1.toExt
      clear K1 hrr
      go_wp2_with fail
      (with_reducible refine (HPL.out _ C cr HRR.out).mono ?_)
      rintro e w2 ⟨rfl, rfl⟩
      go_wp2_with fail
      go_ret2
      exact ⟨by rw [HE.out]; rfl, HX.out⟩
    · rw [if_neg hq] at hpl
      have HE := hide hpl
      have hq0 : (q == 0) = false := beq_eq_false_iff_ne.2 hq
      clear hb hin hpl
      go_enter Try.func33, Try.ntmps33
      obtain ⟨c0, c1, hg0⟩ := cells2 (H0.blk (g := w.heap.size) (e := 45) (cs := [.slice A S.length c, .slice B S.length d]) (List.Mem.head _))
      go_wp2_with fail
      (with_reducible refine (HSO.out _).mono ?_)
      rintro e w1 ⟨rfl, hx1⟩
      have K1 := H0.ext hx1
      clear H0 hx1 c0 c1 hg0
      obtain ⟨c0, c1, hg0⟩ := cells2 (K1.blk (g := w.heap.size) (e := 45) (cs := [.slice A S.length c, .slice B S.length d]) (List.Mem.head _))
      obtain ⟨bd, C, cr, hB, c2, _, _, hrr⟩ := rf_row (rf_ext H.out K1.toExt) hs
      subst hB
      have HRR := hide hrr
      have HX := hide K1.toExt
      clear K1 hrr
      go_wp2_with fail
      (with_reducible refine (HPL.out _ C cr HRR.out).mono ?_)
      rintro e w2 ⟨rfl, rfl⟩
      go_wp2_with fail
      (with_reducible refine (HPL.out _ C cr HRR.out).mono ?_)
      rintro e w2 ⟨rfl, rfl⟩
      go_wp2_with fail
      go_ret2
      exact ⟨by rw [HE.out]; rfl, HX.out⟩
  · have hb := inB_false hin
    rw [hb] at HSO
    have HE : Hid (placeS S i o = (0, 4)) := hide (by unfold placeS; rw [if_pos hin])
    clear hb hin
    go_enter Try.func33, Try.ntmps33
    obtain ⟨c0, c1, hg0⟩ := cells2 (H0.blk (g := w.heap.size) (e := 45) (cs := [.slice A S.length c, .slice B S.length d]) (List.Mem.head _))
    go_wp2_with fail
    (with_reducible refine (HSO.out _).mono ?_)
    rintro e w1 ⟨rfl, hx1⟩
    have HX := hide (H0.ext hx1).toExt
    clear H0 hx1 c0 c1 hg0
    go_wp2_with fail
    go_ret2
    exact ⟨by rw [HE.out]; rfl, HX.out⟩
end Go.Proofs.Yteecgieigjfjiaa
