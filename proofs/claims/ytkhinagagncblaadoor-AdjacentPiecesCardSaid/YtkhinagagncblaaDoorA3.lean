/- Venues: how they lie in memory; ranges; one section's error, by the program. -/
import Derived.Test.YtkhinagagncblaaDoorA2
import Derived.Test.YtkhinagagncblaaDoorMake
namespace Go.Proofs.YtkhinagagncblaaDoor
open Go.RowKit Go.Gr Go.Ad
set_option linter.unusedVariables false
set_option linter.unusedSimpArgs false
def i64s (l : List Int) : List Value := l.map fun x => .int .i64 x
theorem i64s_len (l : List Int) : (i64s l).length = l.length := by simp [i64s]
theorem i64s_one (l : List Int) : ∀ v ∈ i64s l, v.oneCell' = true := by
  intro v hv
  obtain ⟨x, _, rfl⟩ := List.mem_map.1 hv
  rfl
theorem i64s_at {w : World} {A : Option Addr} {l : List Int} (h : Rd w A (i64s l)) {k : Nat} (hk : k < l.length) : ∃ ad, A = some ad ∧ w.cell? (ad.add k) = some (.int .i64 l[k]) := by
  obtain ⟨ad, e, hc⟩ := h.at_ (k := k) (by rw [i64s_len]; exact hk)
  rw [show (i64s l)[k]'(by rw [i64s_len]; exact hk) = .int .i64 l[k] by simp [i64s]] at hc
  exact ⟨ad, e, hc⟩
theorem cellX {w w' : World} {ad : Addr} {v : Value} (k : Ext w w') (h : w.cell? ad = some v) : w'.cell? ad = some v := (Below.cell k (cell_lt h)).trans h
/-- the cells of a section -/
def scC (s : Sc) (R : Option Addr) (c : Nat) : List Value := [.string s.name, .slice R s.rows.length c, .int .i64 s.queue]
/-- these sections lie there -/
def Secs (w : World) (A : Option Addr) (l : List Sc) : Prop :=
  ∀ i s, l[i]? = some s → ∃ b off R c, A = some ⟨b, off, none⟩ ∧ At5 w b (off + i * 3) (scC s R c) ∧ Rd w R (i64s s.rows) ∧ s.rows.length ≤ c
theorem Secs.ext {w w' : World} {A : Option Addr} {l : List Sc} (h : Secs w A l) (k : Ext w w') : Secs w' A l := fun i s hi => by
  obtain ⟨b, off, R, c, e, h1, h2, h3⟩ := h i s hi
  exact ⟨b, off, R, c, e, h1.ext k, h2.ext k, h3⟩
theorem Secs.take {w : World} {A : Option Addr} {l : List Sc} (h : Secs w A l) (k : Nat) : Secs w A (l.take k) := fun i s hi => by
  rw [List.getElem?_take] at hi
  split at hi
  · exact h i s hi
  · cases hi
/-- the sizes of what lies there -/
structure ScW (s : Sc) : Prop where
  name : s.name.size ≤ maxLen
  rows : s.rows.length ≤ maxLen
structure VnW (v : Vn) : Prop where
  secs : v.secs.length ≤ maxLen
  sec : ∀ s ∈ v.secs, ScW s
def vnV (v : Vn) (A : Option Addr) (c : Nat) : Value := .agg #[.int .i64 v.sh, .int .i64 v.ttl, .int .i64 v.ses, .slice A v.secs.length c]
theorem blk3 {w : World} {g : Nat} {e : TypeId} {a b c : Value} (h : Blk w g e [a, b, c]) : w.cell? ⟨g, 0, none⟩ = some a ∧ w.cell? ⟨g, 1, none⟩ = some b ∧ w.cell? ⟨g, 2, none⟩ = some c ∧ g < w.heap.size :=
  ⟨h.cell 0, h.cell 1, h.cell 2, h.lt⟩
theorem blk4 {w : World} {g : Nat} {e : TypeId} {a b c d : Value} (h : Blk w g e [a, b, c, d]) : w.cell? ⟨g, 0, none⟩ = some a ∧ w.cell? ⟨g, 1, none⟩ = some b ∧ w.cell? ⟨g, 2, none⟩ = some c ∧ w.cell? ⟨g, 3, none⟩ = some d ∧ g < w.heap.size :=
  ⟨h.cell 0, h.cell 1, h.cell 2, h.cell 3, h.lt⟩
theorem out_any (n lo hi : Int) (w : World) : Calls Tryd.prog 57 #[.int .i64 n, .int .i64 lo, .int .i64 hi] w fun e w' => e = .returned (.bool (outB n lo hi)) ∧ w' = w := by
  by_cases h1 : n < lo
  · have HN : Hid (outB n lo hi = true) := hide (by unfold outB; rw [decide_eq_true h1]; rfl)
    go_enter Tryd.func57, Tryd.ntmps57
    go_wp2_with fail
    go_ret
    exact ⟨by rw [HN.out]; rfl, rfl⟩
  · have HN : Hid (outB n lo hi = decide (hi < n)) := hide (by unfold outB; rw [decide_eq_false h1]; rfl)
    go_enter Tryd.func57, Tryd.ntmps57
    go_wp2_with fail
    go_ret
    exact ⟨by rw [HN.out]; rfl, rfl⟩
theorem out64_any (n lo hi : Int) (w : World) : Calls Tryd.prog 58 #[.int .i64 n, .int .i64 lo, .int .i64 hi] w fun e w' => e = .returned (.bool (outB n lo hi)) ∧ w' = w := by
  by_cases h1 : n < lo
  · have HN : Hid (outB n lo hi = true) := hide (by unfold outB; rw [decide_eq_true h1]; rfl)
    go_enter Tryd.func58, Tryd.ntmps58
    go_wp2_with fail
    go_ret
    exact ⟨by rw [HN.out]; rfl, rfl⟩
  · have HN : Hid (outB n lo hi = decide (hi < n)) := hide (by unfold outB; rw [decide_eq_false h1]; rfl)
    go_enter Tryd.func58, Tryd.ntmps58
    go_wp2_with fail
    go_ret
    exact ⟨by rw [HN.out]; rfl, rfl⟩
theorem within_any (n lo hi : Int) (w : World) : Calls Tryd.prog 55 #[.int .i64 n, .int .i64 lo, .int .i64 hi] w fun e w' => e = .returned (.bool (!outB n lo hi)) ∧ w' = w := by
  by_cases h1 : n < lo
  · have e1 : ¬ lo ≤ n := by omega
    have HN : Hid (outB n lo hi = true) := hide (by unfold outB; rw [decide_eq_true h1]; rfl)
    clear h1
    go_enter Tryd.func55, Tryd.ntmps55
    go_wp2_with fail
    go_ret
    exact ⟨by rw [HN.out]; rfl, rfl⟩
  · have e1 : lo ≤ n := by omega
    have HN : Hid (outB n lo hi = decide (hi < n)) := hide (by unfold outB; rw [decide_eq_false h1]; rfl)
    have HN2 : Hid ((!decide (hi < n)) = decide (n ≤ hi)) := hide (by
      by_cases h : hi < n
      · rw [decide_eq_true h, decide_eq_false (by omega)]; rfl
      · rw [decide_eq_false h, decide_eq_true (by omega)]; rfl)
    clear h1
    go_enter Tryd.func55, Tryd.ntmps55
    go_wp2_with fail
    go_ret
    exact ⟨by rw [HN.out, HN2.out]; rfl, rfl⟩
theorem row_bad (n : Int) (w : World) : Calls Tryd.prog 66 #[.int .i64 n] w fun e w' => e = .returned (.bool (outB n 1 64)) ∧ w' = w := by
  go_enter Tryd.func66, Tryd.ntmps66
  go_wp2_with fail
  (with_reducible refine (out_any _ _ _ _).mono ?_)
  rintro e w1 ⟨rfl, rfl⟩
  go_wp2_with fail
  go_ret
  exact ⟨rfl, rfl⟩
theorem name_eq (s t : ByteArray) : (s.toList == t.toList) = decide (s = t) := by
  rw [tl_eq, tl_eq]
  by_cases h : s = t
  · subst h; rw [decide_eq_true rfl, beq_self_eq_true]
  · rw [decide_eq_false h, beq_eq_false_iff_ne]
    intro e
    exact h (ByteArray.ext (Array.toList_inj.1 e))
theorem same_name (n : ByteArray) (x y : Value) (m : ByteArray) (g : Nat) (w : World) (hg : w.cell? ⟨g, 0, none⟩ = some (.string m)) : Calls Tryd.prog 64 #[.agg #[.string n, x, y], .pointer (some ⟨g, 0, none⟩)] w fun e w' => e = .returned (.bool (decide (n = m))) ∧ Ext w w' := by
  have hlt : g < w.heap.size := cell_lt hg
  have HN := hide (name_eq n m)
  go_enter Tryd.func64, Tryd.ntmps64
  go_wp2_with fail
  go_ret
  exact ⟨by rw [← HN.out]; rfl, (Ext.refl w).alloc _⟩
theorem at5_3 {w : World} {b o : Nat} {u v x : Value} (h : At5 w b o [u, v, x]) : w.cell? ⟨b, o, none⟩ = some u ∧ w.cell? ⟨b, o + 1, none⟩ = some v ∧ w.cell? ⟨b, o + 2, none⟩ = some x :=
  ⟨h 0 _ rfl, h 1 _ rfl, h 2 _ rfl⟩
theorem any_step {α : Type} {p : α → Bool} {l : List α} {i : Nat} {x : α} (h : l[i]? = some x) (h0 : (l.take i).any p = false) : (l.take (i + 1)).any p = p x := by
  rw [List.take_add_one, h, List.any_append, h0]; simp
theorem any_true {α : Type} {p : α → Bool} {l : List α} {i : Nat} {x : α} (h : l[i]? = some x) (hp : p x = true) : l.any p = true := List.any_eq_true.2 ⟨_, List.mem_of_getElem? h, hp⟩
theorem index_secs (l : List Sc) (A : Option Addr) (c : Nat) (m : ByteArray) (g : Nat) (w : World) (h : Secs w A l) (hc : l.length ≤ c) (hl : l.length ≤ 1000) (hg : w.cell? ⟨g, 0, none⟩ = some (.string m)) :
    Calls Tryd.prog 70 #[.slice A l.length c, .func (.func 64) #[] #[.pointer (some ⟨g, 0, none⟩)]] w fun e w' => (∃ r : Int, e = .returned (.int .i64 r) ∧ decide (0 ≤ r) = l.any fun x => decide (x.name = m)) ∧ Ext w w' := by
  have HS := hide h
  have HG := hide hg
  have HC := hide hc
  clear h hg hc
  have e64 := enters_of Tryd.func64 (by kernel_rfl) rfl
  go_enter Tryd.func70, Tryd.ntmps70
  go_wp2_with fail
  go_loopw [8] (fun v wr => ∃ i : Nat, v = .int .i64 i ∧ i ≤ l.length ∧ Hid ((l.take i).any (fun x => decide (x.name = m)) = false) ∧ Hid (Ext w wr)) (fun v _ => l.length - (intOf v).toNat)
  case atStart => exact ⟨0, rfl, by omega, hide rfl, hide (Ext.refl w)⟩
  case round =>
    obtain ⟨i, rfl, hi, HA, HE⟩ := hrel
    by_cases hlt : i < l.length
    · have hli : (i : Int) < (l.length : Int) := by omega
      obtain ⟨s, hs⟩ : ∃ s, l[i]? = some s := ⟨_, List.getElem?_eq_getElem hlt⟩
      obtain ⟨b, off, R, c', hA, h5, hR, hc'⟩ := HS.out i _ hs
      subst hA
      have h5' := h5.ext HE.out
      have hG' := cellX HE.out HG.out
      have HST := hide (any_step (p := fun x : Sc => decide (x.name = m)) hs HA.out)
      have HTR := hide (any_true (p := fun x : Sc => decide (x.name = m)) hs)
      have hic : (i : Int) < (c : Int) := by have := HC.out; omega
      have HLT := hide hlt
      have hib : i ≤ 1000 := by omega
      clear hs
      have HCL := hide (fun y : World => fun k : Ext wr y => same_name s.name (.slice R s.rows.length c') (.int .i64 s.queue) m g y (cellX k hG'))
      obtain ⟨c0, c1, c2⟩ := at5_3 h5'
      clear h5 h5' hR hc'
      go_wp2_with fail
      (with_reducible refine (HCL.out _ (Ext.refl _)).mono ?_)
      rintro e w1 ⟨rfl, hx⟩
      clear c0 c1 c2
      cases hn : decide (s.name = m)
      · rw [hn] at HST
        go_wp2_with fail
        go_roundw
        case rel => exact ⟨i + 1, by go_num, HLT.out, HST, hide (HE.out.trans hx)⟩
        case measure => have := HLT.out; simp [intOf]; omega
      · have HT := HTR.out hn
        go_wp2_with fail
        go_ret
        refine ⟨⟨_, rfl, ?_⟩, HE.out.trans hx⟩
        rw [HT]; exact decide_eq_true (by omega)
    · obtain rfl : i = l.length := by omega
      have hli : ¬ (l.length : Int) < (l.length : Int) := by omega
      go_wp2_with fail
      go_ret
      refine ⟨⟨_, rfl, ?_⟩, HE.out⟩
      have := HA.out
      rw [List.take_of_length_le (Nat.le_refl _)] at this
      rw [this]; rfl
theorem contains_secs (l : List Sc) (A : Option Addr) (c : Nat) (m : ByteArray) (g : Nat) (w : World) (h : Secs w A l) (hc : l.length ≤ c) (hl : l.length ≤ 1000) (hg : w.cell? ⟨g, 0, none⟩ = some (.string m)) :
    Calls Tryd.prog 63 #[.slice A l.length c, .func (.func 64) #[] #[.pointer (some ⟨g, 0, none⟩)]] w fun e w' => e = .returned (.bool (l.any fun x => decide (x.name = m))) ∧ Ext w w' := by
  have HI := hide (index_secs l A c m g w h hc hl hg)
  clear h hc hl hg
  go_enter Tryd.func63, Tryd.ntmps63
  go_wp2_with fail
  (with_reducible refine HI.out.mono ?_)
  rintro e w1 ⟨⟨r, rfl, hr⟩, hx⟩
  have HR := hide hr
  clear hr
  go_wp2_with fail
  go_ret
  exact ⟨by rw [← HR.out]; rfl, hx⟩
theorem index_rows (l : List Int) (A : Option Addr) (c : Nat) (w : World) (h : Rd w A (i64s l)) (hc : l.length ≤ c) (hl : l.length ≤ 1000) :
    Calls Tryd.prog 71 #[.slice A l.length c, .func (.func 66) #[] #[]] w fun e w' => (∃ r : Int, e = .returned (.int .i64 r) ∧ decide (0 ≤ r) = l.any fun n => outB n 1 64) ∧ w' = w := by
  have HS := hide h
  have HC := hide hc
  clear h hc
  have e66 := enters_of Tryd.func66 (by kernel_rfl) rfl
  go_enter Tryd.func71, Tryd.ntmps71
  go_wp2_with fail
  go_loopw [8] (fun v wr => ∃ i : Nat, v = .int .i64 i ∧ i ≤ l.length ∧ Hid ((l.take i).any (fun n => outB n 1 64) = false) ∧ wr = w) (fun v _ => l.length - (intOf v).toNat)
  case atStart => exact ⟨0, rfl, by omega, hide rfl, rfl⟩
  case round =>
    obtain ⟨i, rfl, hi, HA, rfl⟩ := hrel
    by_cases hlt : i < l.length
    · have hli : (i : Int) < (l.length : Int) := by omega
      obtain ⟨ad, hA, cl⟩ := i64s_at HS.out hlt
      obtain ⟨n, hn⟩ : ∃ n, l[i]? = some n := ⟨_, List.getElem?_eq_getElem hlt⟩
      have hn' : l[i] = n := by rw [List.getElem?_eq_getElem hlt] at hn; exact Option.some.inj hn
      rw [hn'] at cl
      subst hA
      have HST := hide (any_step (p := fun x : Int => outB x 1 64) hn HA.out)
      have HTR := hide (any_true (p := fun x : Int => outB x 1 64) hn)
      have hic : (i : Int) < (c : Int) := by have := HC.out; omega
      have HLT := hide hlt
      have hib : i ≤ 1000 := by omega
      clear hn hn'
      go_wp2_with fail
      (with_reducible refine (row_bad _ _).mono ?_)
      rintro e w1 ⟨rfl, rfl⟩
      clear cl
      cases hb : outB n 1 64
      · rw [hb] at HST
        go_wp2_with fail
        go_roundw
        case rel => exact ⟨i + 1, by go_num, HLT.out, HST, by first | trivial | rfl⟩
        case measure => have := HLT.out; simp [intOf]; omega
      · have HT := HTR.out hb
        go_wp2_with fail
        go_ret
        refine ⟨⟨_, rfl, ?_⟩, rfl⟩
        rw [HT]; exact decide_eq_true (by omega)
    · obtain rfl : i = l.length := by omega
      have hli : ¬ (l.length : Int) < (l.length : Int) := by omega
      go_wp2_with fail
      go_ret
      refine ⟨⟨_, rfl, ?_⟩, rfl⟩
      have := HA.out
      rw [List.take_of_length_le (Nat.le_refl _)] at this
      rw [this]; rfl
theorem contains_rows (l : List Int) (A : Option Addr) (c : Nat) (w : World) (h : Rd w A (i64s l)) (hc : l.length ≤ c) (hl : l.length ≤ 1000) :
    Calls Tryd.prog 65 #[.slice A l.length c, .func (.func 66) #[] #[]] w fun e w' => e = .returned (.bool (l.any fun n => outB n 1 64)) ∧ w' = w := by
  have HI := hide (index_rows l A c w h hc hl)
  clear h hc hl
  go_enter Tryd.func65, Tryd.ntmps65
  go_wp2_with fail
  (with_reducible refine HI.out.mono ?_)
  rintro e w1 ⟨⟨r, rfl, hr⟩, rfl⟩
  have HR := hide hr
  clear hr
  go_wp2_with fail
  go_ret
  exact ⟨by rw [← HR.out]; rfl, rfl⟩
theorem secE_name {bef : List Sc} {s : Sc} (h : nameOk s.name = false) : secE bef s = 6 := by unfold secE; rw [if_pos h]
theorem secE_twice {bef : List Sc} {s : Sc} (h : nameOk s.name = true) (h2 : (bef.any fun x => decide (x.name = s.name)) = true) : secE bef s = 8 := by
  unfold secE; rw [if_neg (by rw [h]; simp), if_pos h2]
theorem secE_rest {bef : List Sc} {s : Sc} (h : nameOk s.name = true) (h2 : (bef.any fun x => decide (x.name = s.name)) = false) :
    secE bef s = if s.rows.length = 0 then 6 else if 16 < s.rows.length then 3 else if s.rows.any (fun n => outB n 1 64) = true then 7 else if outB s.queue 0 64 = true then 7 else 0 := by
  unfold secE; rw [if_neg (by rw [h]; simp), if_neg (by rw [h2]; simp)]
set_option maxHeartbeats 4000000 in
theorem check_any (bef : List Sc) (A : Option Addr) (c : Nat) (s : Sc) (R : Option Addr) (d : Nat) (w : World) (h : Secs w A bef) (hc : bef.length ≤ c) (hl : bef.length ≤ 1000) (hr : Rd w R (i64s s.rows)) (hd : s.rows.length ≤ d) (hs : ScW s) :
    Calls Tryd.prog 59 #[.agg #[.string s.name, .slice R s.rows.length d, .int .i64 s.queue], .slice A bef.length c] w fun e w' => e = .returned (.int .i64 (secE bef s)) ∧ Ext w w' := by
  have HS := hide (fun (y : World) (k : Ext w y) => h.ext k)
  have HR := hide (fun (y : World) (k : Ext w y) => hr.ext k)
  have HN := hide hs.name
  have HC := hide (And.intro hc hl)
  have HD := hide hd
  clear h hr hs hc hl hd
  go_enter Tryd.func59, Tryd.ntmps59
  go_wp2_with fail
  (with_reducible refine (name_any _ _ HN.out).mono ?_)
  rintro e w1 ⟨rfl, hx⟩
  have K0 := (Sep.refl No w).add 78 [.string s.name, .slice R s.rows.length d, .int .i64 s.queue]
  have K1 := hide (K0.ext hx)
  clear K0 hx
  obtain ⟨g, hg⟩ : ∃ g, w.heap.size = g := ⟨_, rfl⟩
  rw [hg] at K1
  simp only [hg]
  clear hg
  cases hname : nameOk s.name
  · have HE := hide (secE_name (bef := bef) hname)
    go_wp2_with fail
    go_ret
    exact ⟨by rw [HE.out]; rfl, K1.out.toExt⟩
  · have HNM := hide hname
    clear hname
    have HC1 := hide (contains_secs bef A c s.name g w1 (HS.out _ K1.out.toExt) HC.out.1 HC.out.2 ((K1.out.blk (List.Mem.head _)).cell 0))
    go_wp2_with fail
    (with_reducible refine HC1.out.mono ?_)
    rintro e w2 ⟨rfl, hx⟩
    have K2 := hide (K1.out.ext hx)
    clear K1 hx HC1
    cases htw : bef.any fun x => decide (x.name = s.name)
    · have HE := hide (secE_rest HNM.out htw)
      obtain ⟨c0, c1, c2, c3⟩ := blk3 (K2.out.blk (List.Mem.head _))
      by_cases h0 : s.rows.length = 0
      · have e1 : ((s.rows.length : Int) == 0) = true := by rw [h0]; rfl
        rw [if_pos h0] at HE
        clear h0
        go_wp2_with fail
        go_ret
        exact ⟨by rw [HE.out]; rfl, K2.out.toExt⟩
      · have e1 : ((s.rows.length : Int) == 0) = false := beq_eq_false_iff_ne.2 (by omega)
        rw [if_neg h0] at HE
        by_cases h16 : 16 < s.rows.length
        · have e2 : (16 : Int) < (s.rows.length : Int) := by omega
          rw [if_pos h16] at HE
          clear h0 h16
          go_wp2_with fail
          go_ret
          exact ⟨by rw [HE.out]; rfl, K2.out.toExt⟩
        · have e2 : ¬ (16 : Int) < (s.rows.length : Int) := by omega
          rw [if_neg h16] at HE
          have HRW := hide (contains_rows s.rows R d w2 (HR.out _ K2.out.toExt) HD.out (by omega))
          clear h0 h16
          go_wp2_with fail
          (with_reducible refine HRW.out.mono ?_)
          rintro e w3 ⟨rfl, rfl⟩
          cases hrw : s.rows.any fun n => outB n 1 64
          · rw [hrw, if_neg Bool.false_ne_true] at HE
            go_wp2_with fail
            (with_reducible refine (out_any _ _ _ _).mono ?_)
            rintro e w4 ⟨rfl, rfl⟩
            cases hq : outB s.queue 0 64
            · rw [hq, if_neg Bool.false_ne_true] at HE
              go_wp2_with fail
              go_ret
              exact ⟨by rw [HE.out]; rfl, K2.out.toExt⟩
            · rw [hq, if_pos rfl] at HE
              go_wp2_with fail
              go_ret
              exact ⟨by rw [HE.out]; rfl, K2.out.toExt⟩
          · rw [hrw, if_pos rfl] at HE
            go_wp2_with fail
            go_ret
            exact ⟨by rw [HE.out]; rfl, K2.out.toExt⟩
    · have HE := hide (secE_twice HNM.out htw)
      go_wp2_with fail
      go_ret
      exact ⟨by rw [HE.out]; rfl, K2.out.toExt⟩
end Go.Proofs.YtkhinagagncblaaDoor
