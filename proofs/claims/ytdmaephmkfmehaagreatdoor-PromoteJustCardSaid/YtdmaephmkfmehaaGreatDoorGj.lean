/- Texts put together: Q0 Q1 Q2 Q3 Q4 Q5. -/
import Derived.Test.YtdmaephmkfmehaaGreatDoorGa
import Derived.Test.YtdmaephmkfmehaaGreatDoorGe
import Derived.Test.YtdmaephmkfmehaaGreatDoorGb
import Derived.Laws.Cover3
namespace Go.Hp
set_option linter.unusedVariables false
/-- an entry: its handle, its seat, its deadline -/
structure En where
  h : Int
  s : Int
  d : Int
deriving DecidableEq
/-- comes before, by deadlines, then by seats -/
def lessP (a b : En) : Prop := a.d < b.d ∨ (a.d = b.d ∧ a.s < b.s)
instance (a b : En) : Decidable (lessP a b) := by unfold lessP; exact inferInstance
/-- .. then by handles -/
def bef (a b : En) : Prop := lessP a b ∨ (¬ lessP b a ∧ a.h < b.h)
instance (a b : En) : Decidable (bef a b) := by unfold bef; exact inferInstance
theorem bef_irrefl (a : En) : ¬ bef a a := by unfold bef lessP; omega
theorem bef_asymm {a b : En} (h : bef a b) : ¬ bef b a := by unfold bef lessP at *; omega
theorem bef_trans {a b c : En} (h : bef a b) (k : bef b c) : bef a c := by unfold bef lessP at *; omega
theorem nb_trans {a b c : En} (h : ¬ bef b a) (k : ¬ bef c b) : ¬ bef c a := by unfold bef lessP at *; omega
/-- two are exchanged -/
def sw (l : List En) (i k : Nat) : List En := match l[i]?, l[k]? with
  | some a, some b => (l.set i b).set k a
  | _, _ => l
def swG {α : Type} (l : List α) (i k : Nat) : List α := match l[i]?, l[k]? with
  | some a, some b => (l.set i b).set k a
  | _, _ => l
theorem swG_len {α : Type} (l : List α) (i k : Nat) : (swG l i k).length = l.length := by
  unfold swG
  split <;> simp
theorem swG_some {α : Type} {l : List α} {i k : Nat} {a b : α} (hi : l[i]? = some a) (hk : l[k]? = some b) : swG l i k = (l.set i b).set k a := by
  unfold swG
  rw [hi, hk]
theorem lt_of_some {α : Type} {l : List α} {i : Nat} {a : α} (h : l[i]? = some a) : i < l.length := by
  rcases Nat.lt_or_ge i l.length with h1 | h1
  · exact h1
  · rw [List.getElem?_eq_none h1] at h; cases h
theorem swG_left {α : Type} {l : List α} {i k : Nat} {a b : α} (hi : l[i]? = some a) (hk : l[k]? = some b) : (swG l i k)[i]? = some b := by
  rw [swG_some hi hk]
  have h1 := lt_of_some hi
  by_cases e : k = i
  · subst e
    rw [List.getElem?_set_self (by simpa using h1)]
    rw [hi] at hk
    exact hk
  · rw [List.getElem?_set_ne (by omega), List.getElem?_set_self h1]
theorem swG_right {α : Type} {l : List α} {i k : Nat} {a b : α} (hi : l[i]? = some a) (hk : l[k]? = some b) : (swG l i k)[k]? = some a := by
  rw [swG_some hi hk, List.getElem?_set_self (by rw [List.length_set]; exact lt_of_some hk)]
theorem swG_other {α : Type} (l : List α) {i k j : Nat} (h1 : j ≠ i) (h2 : j ≠ k) : (swG l i k)[j]? = l[j]? := by
  unfold swG
  split
  · rw [List.getElem?_set_ne (by omega), List.getElem?_set_ne (by omega)]
  · rfl
theorem set_set_perm {α : Type} : ∀ {l : List α} {i k : Nat} {a b : α}, l[i]? = some a → l[k]? = some b → i < k → ((l.set i b).set k a).Perm l
  | [], i, k, a, b, hi, _, _ => by simp at hi
  | x :: l, 0, k + 1, a, b, hi, hk, _ => by
    simp only [List.getElem?_cons_zero, Option.some.injEq] at hi
    subst hi
    simp only [List.getElem?_cons_succ] at hk
    simp only [List.set_cons_zero, List.set_cons_succ]
    have hk1 := lt_of_some hk
    have e : l = l.take k ++ b :: l.drop (k + 1) := by
      rw [List.getElem?_eq_getElem hk1, Option.some.injEq] at hk
      rw [← hk, List.getElem_cons_drop, List.take_append_drop]
    have e2 : l.set k x = l.take k ++ x :: l.drop (k + 1) := by
      rw [List.set_eq_take_append_cons_drop, if_pos hk1]
    rw [e2]
    conv => rhs; rw [e]
    refine (List.Perm.cons b List.perm_middle).trans ?_
    refine (List.Perm.swap x b _).trans ?_
    exact (List.Perm.cons x List.perm_middle.symm)
  | x :: l, i + 1, k + 1, a, b, hi, hk, h => by
    simp only [List.getElem?_cons_succ] at hi hk
    simp only [List.set_cons_succ]
    exact List.Perm.cons x (set_set_perm hi hk (by omega))
theorem swG_perm {α : Type} {l : List α} {i k : Nat} {a b : α} (hi : l[i]? = some a) (hk : l[k]? = some b) : (swG l i k).Perm l := by
  rw [swG_some hi hk]
  rcases Nat.lt_trichotomy i k with h | h | h
  · exact set_set_perm hi hk h
  · subst h
    rw [hi] at hk
    cases hk
    have e : (l.set i a) = l := by
      apply List.ext_getElem?
      intro j
      by_cases h : i = j
      · subst h; rw [List.getElem?_set_self (lt_of_some hi), hi]
      · rw [List.getElem?_set_ne h]
    rw [e, e]
  · rw [List.set_comm _ _ (by omega)]
    exact set_set_perm hk hi h
def IsHeap (l : List En) (n : Nat) : Prop := ∀ i a b, 0 < i → i < n → l[i]? = some a → l[(i - 1) / 2]? = some b → ¬ bef a b
/-- a heap but for what lies at j, which may want to rise -/
def HeapUp (l : List En) (j : Nat) : Prop :=
  (∀ i a b, i ≠ j → 0 < i → l[i]? = some a → l[(i - 1) / 2]? = some b → ¬ bef a b) ∧
  (∀ i a b, 0 < i → 0 < j → (i - 1) / 2 = j → l[i]? = some a → l[(j - 1) / 2]? = some b → ¬ bef a b)
theorem heapUp_push {l : List En} (h : IsHeap l l.length) (x : En) : HeapUp (l ++ [x]) l.length := by
  refine ⟨fun i a b hne h0 ha hb => ?_, fun i a b h0 hj hp ha hb => ?_⟩
  · have hi : i < l.length := by
      have := lt_of_some ha
      rw [List.length_append, List.length_singleton] at this
      omega
    rw [List.getElem?_append_left hi] at ha
    rw [List.getElem?_append_left (by omega)] at hb
    exact h i a b h0 hi ha hb
  · have := lt_of_some ha
    rw [List.length_append, List.length_singleton] at this
    omega
theorem heapUp_zero {l : List En} (h : HeapUp l 0) : IsHeap l l.length := fun i a b h0 hl ha hb => h.1 i a b (by omega) h0 ha hb
theorem heapUp_stop {l : List En} {j : Nat} {x y : En} (h : HeapUp l j) (hx : l[j]? = some x) (hy : l[(j - 1) / 2]? = some y) (hn : ¬ bef x y) : IsHeap l l.length := fun i a b h0 hl ha hb => by
  by_cases e : i = j
  · subst e
    rw [hx] at ha
    rw [hy] at hb
    cases ha
    cases hb
    exact hn
  · exact h.1 i a b e h0 ha hb
theorem heapUp_step {l : List En} {j : Nat} {x y : En} (h : HeapUp l j) (hj : 0 < j) (hx : l[j]? = some x) (hy : l[(j - 1) / 2]? = some y) (hb : bef x y) : HeapUp (swG l ((j - 1) / 2) j) ((j - 1) / 2) := by
  obtain ⟨p, hp⟩ : ∃ p, (j - 1) / 2 = p := ⟨_, rfl⟩
  rw [hp] at hy ⊢
  have hpj : p < j := by omega
  have L := swG_left hy hx
  have R := swG_right hy hx
  have O := fun (i : Nat) (h1 : i ≠ p) (h2 : i ≠ j) => swG_other l h1 h2
  refine ⟨fun i a b hne h0 ha hb' => ?_, fun i a b h0 hp0 hpi ha hb' => ?_⟩
  · by_cases e : i = j
    · subst e
      rw [R] at ha
      rw [hp, L] at hb'
      cases ha; cases hb'
      exact bef_asymm hb
    · rw [O i hne e] at ha
      by_cases e2 : (i - 1) / 2 = j
      · rw [e2, R] at hb'
        cases hb'
        exact h.2 i a y h0 hj e2 ha (by rw [hp]; exact hy)
      · by_cases e3 : (i - 1) / 2 = p
        · rw [e3, L] at hb'
          cases hb'
          have h1 := h.1 i a y e h0 ha (by rw [e3]; exact hy)
          exact fun k => h1 (bef_trans k hb)
        · rw [O _ e3 e2] at hb'
          exact h.1 i a b e h0 ha hb'
  · have hpp : (p - 1) / 2 ≠ p := by omega
    rw [O _ hpp (by omega)] at hb'
    have h1 := h.1 p y b (by omega) hp0 hy hb'
    by_cases e : i = j
    · subst e
      rw [R] at ha
      cases ha
      exact h1
    · rw [O i (by omega) e] at ha
      have h2 := h.1 i a y e h0 ha (by rw [hpi]; exact hy)
      exact nb_trans h1 h2
/-- a heap of n but for what lies at i, which may want to sink -/
def HeapDown (l : List En) (i n : Nat) : Prop :=
  (∀ k a b, 0 < k → k < n → (k - 1) / 2 ≠ i → l[k]? = some a → l[(k - 1) / 2]? = some b → ¬ bef a b) ∧
  (∀ k a b, 0 < k → k < n → 0 < i → (k - 1) / 2 = i → l[k]? = some a → l[(i - 1) / 2]? = some b → ¬ bef a b)
theorem heapDown_pop {l : List En} {n : Nat} (h : IsHeap l (n + 1)) {a b : En} (h0 : l[0]? = some a) (hn : l[n]? = some b) : HeapDown (swG l 0 n) 0 n := by
  refine ⟨fun k x y hk hkn hp hx hy => ?_, fun k x y hk hkn hi => by omega⟩
  rw [swG_other l (by omega) (by omega)] at hx
  rw [swG_other l hp (by omega)] at hy
  exact h k x y hk (by omega) hx hy
theorem heapDown_leaf {l : List En} {i n : Nat} (h : HeapDown l i n) (hl : n ≤ 2 * i + 1) : IsHeap l n := fun k a b h0 hkn ha hb => h.1 k a b h0 hkn (by omega) ha hb
/-- c is the child of i that comes first -/
def Child (l : List En) (i n c : Nat) : Prop := (c = 2 * i + 1 ∨ c = 2 * i + 2) ∧ c < n ∧ ∀ k a b, (k = 2 * i + 1 ∨ k = 2 * i + 2) → k < n → l[k]? = some a → l[c]? = some b → ¬ bef a b
theorem heapDown_stop {l : List En} {i n c : Nat} {x y : En} (h : HeapDown l i n) (hc : Child l i n c) (hx : l[c]? = some x) (hy : l[i]? = some y) (hn : ¬ bef x y) : IsHeap l n := fun k a b h0 hkn ha hb => by
  by_cases e : (k - 1) / 2 = i
  · rw [e, hy] at hb
    cases hb
    exact nb_trans hn (hc.2.2 k a x (by omega) hkn ha hx)
  · exact h.1 k a b h0 hkn e ha hb
theorem heapDown_step {l : List En} {i n c : Nat} {x y : En} (h : HeapDown l i n) (hc : Child l i n c) (hx : l[c]? = some x) (hy : l[i]? = some y) (hb : bef x y) : HeapDown (swG l i c) c n := by
  have hci : i < c := by rcases hc.1 with h | h <;> omega
  have hpc : (c - 1) / 2 = i := by rcases hc.1 with h | h <;> omega
  have L := swG_left hy hx
  have R := swG_right hy hx
  have O := fun (k : Nat) (h1 : k ≠ i) (h2 : k ≠ c) => swG_other l h1 h2
  refine ⟨fun k a b h0 hkn hp ha hb' => ?_, fun k a b h0 hkn hc0 hp ha hb' => ?_⟩
  · by_cases e : k = c
    · subst e
      rw [R] at ha
      rw [hpc, L] at hb'
      cases ha; cases hb'
      exact bef_asymm hb
    · by_cases e2 : (k - 1) / 2 = i
      · rw [O k (by omega) e] at ha
        rw [e2, L] at hb'
        cases hb'
        exact hc.2.2 k a x (by omega) hkn ha hx
      · by_cases e3 : k = i
        · subst e3
          rw [L] at ha
          cases ha
          rw [O _ (by omega) (by omega)] at hb'
          exact h.2 c x b (by omega) hc.2.1 h0 hpc hx hb'
        · rw [O k e3 e] at ha
          rw [O _ e2 hp] at hb'
          exact h.1 k a b h0 hkn e2 ha hb'
  · rw [hpc, L] at hb'
    cases hb'
    rw [O k (by omega) (by omega)] at ha
    exact h.1 k a x h0 hkn (by omega) ha (by rw [hp]; exact hx)
theorem heap_root {l : List En} {n : Nat} (h : IsHeap l n) {r : En} (hr : l[0]? = some r) : ∀ k a, k < n → l[k]? = some a → ¬ bef a r := by
  intro k
  induction k using Nat.strongRecOn with
  | ind k ih =>
    intro a hk ha
    by_cases h0 : k = 0
    · subst h0
      rw [hr] at ha
      cases ha
      exact bef_irrefl _
    · have hlt := lt_of_some ha
      have hp : ∃ b, l[(k - 1) / 2]? = some b := ⟨_, List.getElem?_eq_getElem (by omega)⟩
      obtain ⟨b, hb⟩ := hp
      exact nb_trans (ih _ (by omega) b (by omega) hb) (h k a b (by omega) hk ha hb)
theorem heap_take {l : List En} {n : Nat} (h : IsHeap l n) : IsHeap (l.take n) n := fun i a b h0 hi ha hb => by
  rw [List.getElem?_take, if_pos hi] at ha
  rw [List.getElem?_take, if_pos (by omega)] at hb
  exact h i a b h0 hi ha hb
end Go.Hp
namespace Go.Proofs.YtdmaephmkfmehaaGreatDoor
open Go.RowKit Go.Gr Go.Hp
set_option linter.unusedVariables false
set_option linter.unusedSimpArgs false
attribute [local go_sem] rdOp rdAt rdUpon Cls forall_fr
/-- the order of two numbers -/
def ordI (a b : Int) : Int := if a < b then -1 else if b < a then 1 else 0
theorem ordI_cases (a b : Int) : (a < b ∧ ordI a b = -1) ∨ (b < a ∧ ordI a b = 1) ∨ (a = b ∧ ordI a b = 0) := by
  unfold ordI
  rcases Int.lt_trichotomy a b with h | h | h
  · exact .inl ⟨h, by rw [if_pos h]⟩
  · exact .inr (.inr ⟨h, by rw [if_neg (by omega), if_neg (by omega)]⟩)
  · exact .inr (.inl ⟨h, by rw [if_neg (by omega), if_pos h]⟩)
theorem ordI_zero {a b : Int} : ordI a b = 0 ↔ a = b := by
  rcases ordI_cases a b with ⟨h, e⟩ | ⟨h, e⟩ | ⟨h, e⟩ <;> rw [e] <;> constructor <;> intro h2 <;> omega
/-- the first one that is not nought -/
def fstNz : List Int → Int
  | [] => 0
  | x :: l => if x ≠ 0 then x else fstNz l
theorem cmpi_any (x y : Int) (w : World) : Calls Tryz.prog 53 #[.int .i64 x, .int .i64 y] w fun e w' => e = .returned (.int .i64 (ordI x y)) ∧ w = w' := by
  have HN : Hid (∀ (z : Int) (x : World), Calls Tryz.prog 90 #[.int .i64 z] x fun e w' => e = .returned (.bool false) ∧ x = w') := hide (fun z x => by
    go_enter Tryz.func90, Tryz.ntmps90
    go_wp2_with fail
    go_ret
    exact ⟨rfl, rfl⟩)
  have HO : Hid ((x < y ∧ ordI x y = -1) ∨ (y < x ∧ ordI x y = 1) ∨ (x = y ∧ ordI x y = 0)) := hide (ordI_cases x y)
  go_enter Tryz.func53, Tryz.ntmps53
  go_wp2_with fail
  (with_reducible refine (HN.out _ _).mono ?_)
  rintro e w1 ⟨rfl, rfl⟩
  go_wp2_with fail
  (with_reducible refine (HN.out _ _).mono ?_)
  rintro e w1 ⟨rfl, rfl⟩
  rcases HO.out with ⟨h, e⟩ | ⟨h, e⟩ | ⟨h, e⟩
  · have HE := hide e
    clear HO e
    go_wp2_with fail
    go_ret
    exact ⟨by (rw [HE.out]; first | done | rfl), rfl⟩
  · have HE := hide e
    have h2 : ¬ x < y := by omega
    clear HO e
    go_wp2_with fail
    go_ret
    exact ⟨by (rw [HE.out]; first | done | rfl), rfl⟩
  · have HE := hide e
    have h2 : ¬ x < y := by omega
    have h3 : ¬ y < x := by omega
    clear HO e h
    go_wp2_with fail
    go_ret
    exact ⟨by (rw [HE.out]; first | done | rfl), rfl⟩
theorem cmpi64_any (x y : Int) (w : World) : Calls Tryz.prog 88 #[.int .i64 x, .int .i64 y] w fun e w' => e = .returned (.int .i64 (ordI x y)) ∧ w = w' := by
  have HN : Hid (∀ (z : Int) (x : World), Calls Tryz.prog 114 #[.int .i64 z] x fun e w' => e = .returned (.bool false) ∧ x = w') := hide (fun z x => by
    go_enter Tryz.func114, Tryz.ntmps114
    go_wp2_with fail
    go_ret
    exact ⟨rfl, rfl⟩)
  have HO : Hid ((x < y ∧ ordI x y = -1) ∨ (y < x ∧ ordI x y = 1) ∨ (x = y ∧ ordI x y = 0)) := hide (ordI_cases x y)
  go_enter Tryz.func88, Tryz.ntmps88
  go_wp2_with fail
  (with_reducible refine (HN.out _ _).mono ?_)
  rintro e w1 ⟨rfl, rfl⟩
  go_wp2_with fail
  (with_reducible refine (HN.out _ _).mono ?_)
  rintro e w1 ⟨rfl, rfl⟩
  rcases HO.out with ⟨h, e⟩ | ⟨h, e⟩ | ⟨h, e⟩
  · have HE := hide e
    clear HO e
    go_wp2_with fail
    go_ret
    exact ⟨by (rw [HE.out]; first | done | rfl), rfl⟩
  · have HE := hide e
    have h2 : ¬ x < y := by omega
    clear HO e
    go_wp2_with fail
    go_ret
    exact ⟨by (rw [HE.out]; first | done | rfl), rfl⟩
  · have HE := hide e
    have h2 : ¬ x < y := by omega
    have h3 : ¬ y < x := by omega
    clear HO e h
    go_wp2_with fail
    go_ret
    exact ⟨by (rw [HE.out]; first | done | rfl), rfl⟩
theorem q2 {w : World} {g : Nat} {t : TypeId} {a b : Value} (h : Blk w g t [a, b]) : w.cell? ⟨g, 0, none⟩ = some a ∧ w.cell? ⟨g, 1, none⟩ = some b ∧ g < w.heap.size := ⟨h.cell 0, h.cell 1, h.lt⟩
theorem q4 {w : World} {g : Nat} {t : TypeId} {a b c d : Value} (h : Blk w g t [a, b, c, d]) : w.cell? ⟨g, 0, none⟩ = some a ∧ w.cell? ⟨g, 1, none⟩ = some b ∧ w.cell? ⟨g, 2, none⟩ = some c ∧ w.cell? ⟨g, 3, none⟩ = some d ∧ g < w.heap.size := ⟨h.cell 0, h.cell 1, h.cell 2, h.cell 3, h.lt⟩
theorem or2_any (a b : Int) (g : Nat) (t : TypeId) (w : World) (hB : Blk w g t [.int .i64 a, .int .i64 b]) : Calls Tryz.prog 87 #[.slice (some ⟨g, 0, none⟩) 2 2] w fun e w' => e = .returned (.int .i64 (fstNz [a, b])) ∧ w = w' := by
  obtain ⟨c0, c1, cz⟩ := q2 hB
  have C0 := hide c0
  have C1 := hide c1
  clear hB c0 c1 cz
  go_enter Tryz.func87, Tryz.ntmps87
  go_wp2_with fail
  go_loopw [8] (fun v8 wr => wr = w ∧ ∃ k : Nat, v8 = .int .i64 k ∧ k ≤ 2 ∧ Hid (fstNz ([a, b].drop k) = fstNz [a, b])) (fun v8 _ => 2 - (intOf v8).toNat)
  case atStart => exact ⟨rfl, 0, rfl, by omega, hide rfl⟩
  case round =>
    obtain ⟨rfl, k, rfl, hk, HF⟩ := hrel
    rcases (by omega : k = 0 ∨ k = 1 ∨ k = 2) with rfl | rfl | rfl
    · rw [show ((0 : Nat) : Int) = 0 from rfl]
      have hc := C0.out
      by_cases hz : a = 0
      · have e1 : (a != 0) = false := by rw [hz]; rfl
        have HF2 : Hid (fstNz ([a, b].drop 1) = fstNz [a, b]) := hide (by
          rw [← HF.out]
          show _ = fstNz (a :: [a, b].drop 1)
          rw [fstNz, if_neg (by rw [hz]; simp)])
        clear hz HF
        go_wp2_with fail
        clear hc
        go_roundw
        case rel => exact ⟨(by first | rfl | trivial), 1, rfl, by omega, HF2⟩
        case measure => simp [intOf]
      · have e1 : (a != 0) = true := bne_iff_ne.2 hz
        have HF2 : Hid (fstNz [a, b] = a) := hide (by
          rw [← HF.out]
          show fstNz (a :: [a, b].drop 1) = a
          rw [fstNz, if_pos hz])
        clear hz HF
        go_wp2_with fail
        go_ret
        exact ⟨by rw [HF2.out]; rfl, rfl⟩
    · rw [show ((1 : Nat) : Int) = 1 from rfl]
      have hc := C1.out
      by_cases hz : b = 0
      · have e1 : (b != 0) = false := by rw [hz]; rfl
        have HF2 : Hid (fstNz ([a, b].drop 2) = fstNz [a, b]) := hide (by
          rw [← HF.out]
          show _ = fstNz (b :: [a, b].drop 2)
          rw [fstNz, if_neg (by rw [hz]; simp)])
        clear hz HF
        go_wp2_with fail
        clear hc
        go_roundw
        case rel => exact ⟨(by first | rfl | trivial), 2, rfl, by omega, HF2⟩
        case measure => simp [intOf]
      · have e1 : (b != 0) = true := bne_iff_ne.2 hz
        have HF2 : Hid (fstNz [a, b] = b) := hide (by
          rw [← HF.out]
          show fstNz (b :: [a, b].drop 2) = b
          rw [fstNz, if_pos hz])
        clear hz HF
        go_wp2_with fail
        go_ret
        exact ⟨by rw [HF2.out]; rfl, rfl⟩
    · rw [show ((2 : Nat) : Int) = 2 from rfl]
      have HF2 : Hid (fstNz [a, b] = 0) := hide (by rw [← HF.out]; rfl)
      clear HF
      go_wp2_with fail
      go_ret
      exact ⟨by rw [HF2.out]; rfl, rfl⟩
theorem fstNz_less (s1 d1 s2 d2 : Int) : decide (fstNz [ordI d1 d2, ordI s1 s2] < 0) = decide (d1 < d2 ∨ (d1 = d2 ∧ s1 < s2)) := by
  apply decide_eq_decide.2
  simp only [fstNz, ne_eq, ordI_zero]
  rcases ordI_cases d1 d2 with ⟨h, e⟩ | ⟨h, e⟩ | ⟨h, e⟩ <;> rcases ordI_cases s1 s2 with ⟨k, f⟩ | ⟨k, f⟩ | ⟨k, f⟩ <;> simp [e, f] <;> omega
abbrev hov (s d : Int) : Value := .agg #[.int .i64 s, .int .i64 d]
set_option maxHeartbeats 1000000 in
/-- the order of two holds -/
theorem less_any (s1 d1 s2 d2 : Int) (w : World) : Calls Tryz.prog 86 #[hov s1 d1, hov s2 d2] w fun e w' => e = .returned (.bool (decide (d1 < d2 ∨ (d1 = d2 ∧ s1 < s2)))) ∧ Ext w w' := by
  have HC := hide (fstNz_less s1 d1 s2 d2)
  have K0 := ((Sep.refl No w).add2 39 39 [.int .i64 s1, .int .i64 d1] [.int .i64 s2, .int .i64 d2])
  go_enter Tryz.func86, Tryz.ntmps86
  go_upto_region 1 with fail
  generalize World.alloc _ _ = w1 at K0 ⊢
  obtain ⟨g, hg⟩ : ∃ g, w.heap.size = g := ⟨_, rfl⟩
  obtain ⟨g2, hg2⟩ : ∃ g2, g + 1 = g2 := ⟨_, rfl⟩
  rw [hg, hg2] at K0 ⊢
  clear hg hg2
  refine wp_region_wm [0, 1, 2, 3, 5, 6, 7, 8, 4, 9, 10, 11, 12, 13] (by kernel_rfl) (by kernel_rfl) (by kernel_rfl) (by kernel_rfl) ?_
  have KD := K0.drew
  clear K0
  generalize World.drew _ = wd at *
  obtain ⟨c0, c1, cz⟩ := q2 (KD.blk (g := g2) (e := 39) (List.Mem.head _))
  obtain ⟨d0, d1', dz⟩ := q2 (KD.blk (g := g) (e := 39) (List.Mem.tail _ (List.Mem.head _)))
  (refine wm_rd rfl rfl (fun K hK => ?_); go_simp; refine hK _ ?_; clear hK K)
  refine wm_ld1 rfl rfl 2 (.tmp 5) rfl rfl d1' _ Tryz.underlying2 rfl ?_
  (refine wm_rd rfl rfl (fun K hK => ?_); go_simp; refine hK _ ?_; clear hK K)
  refine wm_ld1 rfl rfl 2 (.tmp 7) rfl rfl c1 _ Tryz.underlying2 rfl ?_
  (refine wm_rd rfl rfl (fun K hK => ?_); go_simp; refine hK _ ?_; clear hK K)
  refine wm_ld1 rfl rfl 3 (.tmp 10) rfl rfl d0 _ Tryz.underlying3 rfl ?_
  (refine wm_rd rfl rfl (fun K hK => ?_); go_simp; refine hK _ ?_; clear hK K)
  refine wm_ld1 rfl rfl 3 (.tmp 12) rfl rfl c0 _ Tryz.underlying3 rfl ?_
  clear c0 c1 cz d0 d1' dz
  refine wm_ext rfl rfl (fun K hK => ?_)
  go_simp
  go_at_call 88
  (with_reducible refine (cmpi64_any d1 d2 _).mono ?_)
  rintro e w9 ⟨rfl, rfl⟩
  refine hK _ _ (Ext.refl _) ?_
  clear hK K
  refine wm_ext rfl rfl (fun K hK => ?_)
  go_simp
  go_at_call 53
  (with_reducible refine (cmpi_any s1 s2 _).mono ?_)
  rintro e w9 ⟨rfl, rfl⟩
  refine hK _ _ (Ext.refl _) ?_
  clear hK K
  refine wm_ext rfl rfl (fun K hK => ?_)
  go_simp
  refine hK _ _ ((Ext.refl _).alloc _) ?_
  clear hK K
  have KE := hide (KD.add 3 [.int .i64 (ordI d1 d2), .int .i64 (ordI s1 s2)])
  have HB := hide (Blk.new wd 3 [.int .i64 (ordI d1 d2), .int .i64 (ordI s1 s2)])
  clear KD
  refine wm_ext rfl rfl (fun K hK => ?_)
  go_simp
  go_at_call 87
  refine (or2_any _ _ wd.heap.size 3 _ HB.out).mono ?_
  rintro e w9 ⟨rfl, rfl⟩
  refine hK _ _ (Ext.refl _) ?_
  clear hK K HB
  (refine wm_rd rfl rfl (fun K hK => ?_); go_simp; refine hK _ ?_; clear hK K)
  (refine wm_rd rfl rfl (fun K hK => ?_); go_simp; refine hK _ ?_; clear hK K)
  refine wm_nil ?_
  go_wp2_with fail
  go_ret
  exact ⟨by first | rfl | (rw [HC.out]; rfl), KE.out.toExt⟩
end Go.Proofs.YtdmaephmkfmehaaGreatDoor
namespace Go.Proofs.YtdmaephmkfmehaaGreatDoor
open Go.RowKit Go.Gr Go.Hp
set_option linter.unusedVariables false
set_option linter.unusedSimpArgs false
attribute [local go_sem] rdOp rdAt rdUpon Cls forall_fr
abbrev ptrV (g : Nat) : Value := .pointer (some ⟨g, 0, none⟩)
abbrev enC (e : En) (pl : Int) : List Value := [.int .i64 e.h, .int .i64 e.s, .int .i64 e.d, .int .i64 pl]
abbrev lessV : Value := .func (.func 86) #[] #[]
theorem nodup_idx {α : Type} : ∀ {l : List α}, l.Nodup → ∀ {i j : Nat} {a : α}, l[i]? = some a → l[j]? = some a → i = j
  | [], _, i, j, a, h, _ => by simp at h
  | x :: l, hn, i, j, a, h, k => by
    obtain ⟨h1, h2⟩ := List.nodup_cons.1 hn
    cases i with
    | zero => cases j with
      | zero => rfl
      | succ j =>
        simp only [List.getElem?_cons_zero, List.getElem?_cons_succ, Option.some.injEq] at h k
        subst h
        exact absurd (List.mem_of_getElem? k) h1
    | succ i => cases j with
      | zero =>
        simp only [List.getElem?_cons_zero, List.getElem?_cons_succ, Option.some.injEq] at h k
        subst k
        exact absurd (List.mem_of_getElem? h) h1
      | succ j =>
        simp only [List.getElem?_cons_succ] at h k
        rw [nodup_idx h2 h k]
/-- the entries: each in a block of its own; of its place nothing is told -/
structure Ents (w : World) (gs : List Nat) (es : List En) : Prop where
  len : gs.length = es.length
  nd : gs.Nodup
  blk : ∀ (i g : Nat) (e : En), gs[i]? = some g → es[i]? = some e → ∃ pl : Int, Blk w g 176 (enC e pl)
theorem Ents.at_ {w : World} {gs : List Nat} {es : List En} (h : Ents w gs es) {g : Nat} (hg : g ∈ gs) : ∃ (i : Nat) (e : En), gs[i]? = some g ∧ es[i]? = some e := by
  obtain ⟨i, hi, rfl⟩ := List.getElem_of_mem hg
  exact ⟨i, es[i]'(by rw [← h.len]; exact hi), List.getElem?_eq_getElem hi, List.getElem?_eq_getElem _⟩
def entsA (gs : List Nat) (es : List En) : As :=
  ⟨fun k => k ∈ gs, fun w => Ents w gs es, fun h k hk => by
    obtain ⟨i, e, h1, h2⟩ := h.at_ hk
    obtain ⟨pl, hb⟩ := h.blk i k e h1 h2
    exact hb.lt, fun {w w'} h hk => ⟨h.len, h.nd, fun i g e h1 h2 => by
    obtain ⟨pl, hb⟩ := h.blk i g e h1 h2
    exact ⟨pl, (hk g (List.mem_of_getElem? h1)).trans hb⟩⟩⟩
theorem sep_ents {G : Nat → Prop} {w0 w : World} {L : List As} {gs : List Nat} {es : List En} (h : Sep G w0 w L) (hA : entsA gs es ∈ L) : Ents w gs es := h.get hA
/-- the place of an entry is written -/
theorem sep_entPl {G : Nat → Prop} {w0 w : World} (L1 : List As) {L2 : List As} {gs : List Nat} {es : List En} (H : Sep G w0 w (L1 ++ entsA gs es :: L2)) {i g : Nat} {e : En} (hg : gs[i]? = some g) (he : es[i]? = some e) (x : Int) :
    Sep G w0 (w.setCell ⟨g, 3, none⟩ (.int .i64 x)) (L1 ++ entsA gs es :: L2) := by
  have hE := sep_ents (gs := gs) (es := es) H (by simp)
  obtain ⟨pl, hB⟩ := hE.blk i g e hg he
  have hU := (Upd.refl g w).cell 3 (.int .i64 x)
  refine H.upd (A := entsA gs es) (B := entsA gs es) (Fr.of_upd hU) (fun k hk => by rw [show k = g from hk]; exact List.mem_of_getElem? hg) ⟨hE.len, hE.nd, fun j g' e' h1 h2 => ?_⟩ (fun _ h => .inl h)
  by_cases hgg : g' = g
  · subst hgg
    have hj : j = i := by
      exact nodup_idx hE.nd h1 hg
    subst hj
    rw [he] at h2
    cases h2
    exact ⟨x, hB.set 3 (.int .i64 x)⟩
  · obtain ⟨pl', hB'⟩ := hE.blk j g' e' h1 h2
    exact ⟨pl', (hU.block g' hB'.lt (fun e => hgg (Option.some.inj e))).trans hB'⟩
theorem swG_mem {α : Type} {l : List α} {i k : Nat} {a b x : α} (hi : l[i]? = some a) (hk : l[k]? = some b) : x ∈ swG l i k ↔ x ∈ l := (swG_perm hi hk).mem_iff
theorem swG_none {α : Type} {l : List α} {i k j : Nat} {a b x : α} (hi : l[i]? = some a) (hk : l[k]? = some b) (h : (swG l i k)[j]? = some x) : (j = i ∧ x = b) ∨ (j = k ∧ x = a) ∨ (j ≠ i ∧ j ≠ k ∧ l[j]? = some x) := by
  by_cases h1 : j = i
  · subst h1
    rw [swG_left hi hk] at h
    cases h
    exact .inl ⟨rfl, rfl⟩
  · by_cases h2 : j = k
    · subst h2
      rw [swG_right hi hk] at h
      cases h
      exact .inr (.inl ⟨rfl, rfl⟩)
    · rw [swG_other l h1 h2] at h
      exact .inr (.inr ⟨h1, h2, h⟩)
theorem ents_swap {w : World} {gs : List Nat} {es : List En} (h : Ents w gs es) {i k gi gk : Nat} {a b : En} (hgi : gs[i]? = some gi) (hgk : gs[k]? = some gk) (hei : es[i]? = some a) (hek : es[k]? = some b) : Ents w (swG gs i k) (swG es i k) :=
  ⟨by rw [swG_len, swG_len]; exact h.len, (swG_perm hgi hgk).nodup_iff.2 h.nd, fun j g e h1 h2 => by
    by_cases c1 : j = i
    · subst c1
      rw [swG_left hgi hgk] at h1
      rw [swG_left hei hek] at h2
      cases h1; cases h2
      exact h.blk k _ _ hgk hek
    · by_cases c2 : j = k
      · subst c2
        rw [swG_right hgi hgk] at h1
        rw [swG_right hei hek] at h2
        cases h1; cases h2
        exact h.blk i _ _ hgi hei
      · rw [swG_other _ c1 c2] at h1 h2
        exact h.blk j g e h1 h2⟩
theorem sep_entSw {G : Nat → Prop} {w0 w : World} (L1 : List As) {L2 : List As} {gs : List Nat} {es : List En} (H : Sep G w0 w (L1 ++ entsA gs es :: L2)) {i k gi gk : Nat} {a b : En} (hgi : gs[i]? = some gi) (hgk : gs[k]? = some gk) (hei : es[i]? = some a) (hek : es[k]? = some b) :
    Sep G w0 w (L1 ++ entsA (swG gs i k) (swG es i k) :: L2) :=
  H.weak L1 (A := entsA gs es) (B := entsA (swG gs i k) (swG es i k)) (fun h => ents_swap h hgi hgk hei hek) (fun j hj => (swG_mem hgi hgk).1 hj)
/-- one more -/
theorem sep_entNew {G : Nat → Prop} {w0 w : World} {L : List As} {gs : List Nat} {es : List En} {g : Nat} {e : En} {pl : Int} (H : Sep G w0 w (As.blk g 176 (enC e pl) :: entsA gs es :: L)) : Sep G w0 w (entsA (gs ++ [g]) (es ++ [e]) :: L) := by
  have hd := (List.pairwise_cons.1 H.dis).1 (entsA gs es) (by simp) g rfl
  refine H.merge (C := entsA (gs ++ [g]) (es ++ [e])) (fun hb hE => ⟨by simp [hE.len], ?_, fun i g' e' h1 h2 => ?_⟩) (fun i hi => ?_)
  · rw [List.nodup_append]
    refine ⟨hE.nd, by simp, fun a ha b hb => ?_⟩
    rw [List.mem_singleton] at hb
    subst hb
    exact fun e => hd (e ▸ ha)
  · rcases Nat.lt_or_ge i gs.length with hlt | hge
    · rw [List.getElem?_append_left hlt] at h1
      rw [List.getElem?_append_left (by rw [← hE.len]; exact hlt)] at h2
      exact hE.blk i g' e' h1 h2
    · rw [List.getElem?_append_right hge] at h1
      rw [List.getElem?_append_right (by rw [← hE.len]; exact hge), ← hE.len] at h2
      have h0 : i - gs.length = 0 := by
        rcases Nat.eq_zero_or_pos (i - gs.length) with h | h
        · exact h
        · rw [List.getElem?_eq_none (by simp; omega)] at h1; cases h1
      rw [h0] at h1 h2
      cases h1; cases h2
      exact ⟨pl, hb⟩
  · rcases List.mem_append.1 hi with h | h
    · exact .inr h
    · rw [List.mem_singleton] at h
      exact .inl h
/-- the last ones are let go -/
theorem sep_entTake {G : Nat → Prop} {w0 w : World} (L1 : List As) {L2 : List As} {gs : List Nat} {es : List En} (H : Sep G w0 w (L1 ++ entsA gs es :: L2)) (n : Nat) : Sep G w0 w (L1 ++ entsA (gs.take n) (es.take n) :: L2) :=
  H.weak L1 (A := entsA gs es) (B := entsA (gs.take n) (es.take n)) (fun h => ⟨by simp [h.len], h.nd.sublist (List.take_sublist _ _), fun i g e h1 h2 => by
    have hi : i < n := by
      rcases Nat.lt_or_ge i n with h | h
      · exact h
      · rw [List.getElem?_eq_none (by simp; omega)] at h1; cases h1
    rw [List.getElem?_take, if_pos hi] at h1 h2
    exact h.blk i g e h1 h2⟩) (fun i hi => List.mem_of_mem_take hi)
/-- a map of which nothing is told but its keys -/
def anyR (v : Value) : Option (DataW Unit × List MemPlace) := some (.lit (.bool true), [])
/-- the queue in block q -/
def qL (q : Nat) (v : Value) (m n : Nat) (D : DataW Unit) (nx : Int) (gs : List Nat) (es : List En) : List As :=
  [As.blk q 173 [v, lessV, .map (some m), .int .i64 nx], As.own 174 v (gs.map ptrV), entsA gs es, As.map Tryz.prog 2 anyR m n D]
set_option maxRecDepth 10000 in
theorem made_any (q : Nat) (v : Value) (m : Nat) (nx : Int) (w : World) (h : Blk w q 173 [v, lessV, .map (some m), .int .i64 nx]) : Calls Tryz.prog 93 #[ptrV q] w fun e w' => e = .returned (.bool true) ∧ w = w' := by
  obtain ⟨c0, c1, c2, c3, cz⟩ := q4 h
  have hm := run_neq_map_nil (P := Tryz.prog ) w 171 _ _ (some m) Tryz.underlying171
  simp only [Option.isNone_some, Bool.not_false] at hm
  go_enter Tryz.func93, Tryz.ntmps93
  go_wp2_with fail
  go_ret
  exact ⟨rfl, rfl⟩
theorem at_val {w : World} {g : Nat} {t : TypeId} {e : En} {pl : Int} (h : Blk w g t (enC e pl)) : Go.Gr.At5 w g 1 [.int .i64 e.s, .int .i64 e.d] := fun j u hu => by
  match j with
  | 0 => exact (h.cell 1).trans hu
  | 1 => exact (h.cell 2).trans hu
  | (n + 2) => simp at hu
set_option maxRecDepth 100000 in
set_option maxHeartbeats 2000000 in
theorem before_any (q : Nat) (v : Value) (m : Nat) (nx : Int) (ga gb : Nat) (a b : En) (pa pb : Int) (w : World) (h : Blk w q 173 [v, lessV, .map (some m), .int .i64 nx])
    (ha : Blk w ga 176 (enC a pa)) (hb : Blk w gb 176 (enC b pb)) :
    Calls Tryz.prog 168 #[ptrV q, ptrV ga, ptrV gb] w fun e w' => e = .returned (.bool (decide (bef a b))) ∧ Ext w w' := by
  have HQ := hide (fun (x : World) (k : Ext w x) => (h.ext k))
  have HA := hide (fun (x : World) (k : Ext w x) => (ha.ext k))
  have HB := hide (fun (x : World) (k : Ext w x) => (hb.ext k))
  clear h ha hb
  obtain ⟨r1, R1⟩ : ∃ r, Hid (decide (a.d < b.d ∨ (a.d = b.d ∧ a.s < b.s)) = r) := ⟨_, hide rfl⟩
  obtain ⟨r2, R2⟩ : ∃ r, Hid (decide (b.d < a.d ∨ (b.d = a.d ∧ b.s < a.s)) = r) := ⟨_, hide rfl⟩
  have HLab := hide (fun (x : World) => less_any a.s a.d b.s b.d x)
  have HLba := hide (fun (x : World) => less_any b.s b.d a.s a.d x)
  rw [R1.out] at HLab
  rw [R2.out] at HLba
  go_enter Tryz.func168, Tryz.ntmps168
  go_upto_region 1 with fail
  refine wp_region_wm [0, 1, 2, 3, 4, 5, 6, 7, 8, 9, 10, 11, 12, 13] (by kernel_rfl) (by kernel_rfl) (by kernel_rfl) (by kernel_rfl) ?_
  have h0 : Ext w w.drew := (Ext.refl w).drew
  generalize w.drew = wd at *
  obtain ⟨-, c1, -, -, cz⟩ := q4 (HQ.out _ h0)
  have ata := at_val (HA.out _ h0)
  have atb := at_val (HB.out _ h0)
  have hga := (HA.out _ h0).lt
  have hgb := (HB.out _ h0).lt
  iterate 3 (refine wm_rd rfl rfl (fun K hK => ?_); go_simp; refine hK _ ?_; clear hK K)
  refine wm_ld1 rfl rfl 163 (.tmp 10) rfl rfl c1 _ Tryz.underlying163 rfl ?_
  iterate 3 (refine wm_rd rfl rfl (fun K hK => ?_); go_simp; refine hK _ ?_; clear hK K)
  refine wm_ldX rfl rfl 39 (.tmp 14) rfl ata rfl _ Tryz.underlying39 rfl (by kernel_rfl) ?_
  iterate 3 (refine wm_rd rfl rfl (fun K hK => ?_); go_simp; refine hK _ ?_; clear hK K)
  refine wm_ldX rfl rfl 39 (.tmp 18) rfl atb rfl _ Tryz.underlying39 rfl (by kernel_rfl) ?_
  refine wm_ext rfl rfl (fun K hK => ?_)
  go_simp
  go_at_call 86
  (with_reducible refine (HLab.out _).mono ?_)
  rintro e w1 ⟨rfl, hx⟩
  refine hK _ _ hx ?_
  clear hK K
  iterate 1 (refine wm_rd rfl rfl (fun K hK => ?_); go_simp; refine hK _ ?_; clear hK K)
  refine wm_nil ?_
  clear c1 ata atb hga hgb cz
  have h1 := h0.trans hx
  have HX1 := hide h1
  clear hx h1
  cases r1
  rotate_left
  · have HR : Hid (decide (bef a b) = true) := hide (decide_eq_true (.inl (of_decide_eq_true R1.out)))
    clear R1 R2 HLab HLba
    go_wp2_with fail
    go_ret
    exact ⟨by rw [HR.out]; rfl, HX1.out⟩
  have HN := hide (of_decide_eq_false R1.out)
  clear R1 HLab
  go_upto_region 3 with fail
  refine wp_region_wm [0, 1, 2, 3, 4, 5, 6, 7, 8, 9, 10, 11, 12, 13] (by kernel_rfl) (by kernel_rfl) (by kernel_rfl) (by kernel_rfl) ?_
  have h2 : Ext w w1.drew := HX1.out.drew
  generalize w1.drew = we at *
  obtain ⟨-, c1, -, -, cz⟩ := q4 (HQ.out _ h2)
  have ata := at_val (HA.out _ h2)
  have atb := at_val (HB.out _ h2)
  have hga := (HA.out _ h2).lt
  have hgb := (HB.out _ h2).lt
  iterate 3 (refine wm_rd rfl rfl (fun K hK => ?_); go_simp; refine hK _ ?_; clear hK K)
  refine wm_ld1 rfl rfl 163 (.tmp 24) rfl rfl c1 _ Tryz.underlying163 rfl ?_
  iterate 3 (refine wm_rd rfl rfl (fun K hK => ?_); go_simp; refine hK _ ?_; clear hK K)
  refine wm_ldX rfl rfl 39 (.tmp 28) rfl atb rfl _ Tryz.underlying39 rfl (by kernel_rfl) ?_
  iterate 3 (refine wm_rd rfl rfl (fun K hK => ?_); go_simp; refine hK _ ?_; clear hK K)
  refine wm_ldX rfl rfl 39 (.tmp 32) rfl ata rfl _ Tryz.underlying39 rfl (by kernel_rfl) ?_
  refine wm_ext rfl rfl (fun K hK => ?_)
  go_simp
  go_at_call 86
  (with_reducible refine (HLba.out _).mono ?_)
  rintro e w2 ⟨rfl, hx⟩
  refine hK _ _ hx ?_
  clear hK K
  iterate 1 (refine wm_rd rfl rfl (fun K hK => ?_); go_simp; refine hK _ ?_; clear hK K)
  refine wm_nil ?_
  clear c1 ata atb hga hgb cz
  have h3 := h2.trans hx
  have HX2 := hide h3
  clear hx h3 h2 h0
  cases r2
  rotate_left
  · have HR : Hid (decide (bef a b) = false) := hide (decide_eq_false (by have := HN.out; have := of_decide_eq_true R2.out; unfold bef lessP; omega))
    clear R2 HLba HN
    go_wp2_with fail
    go_ret
    exact ⟨by rw [HR.out]; rfl, HX2.out⟩
  have HR : Hid (decide (a.h < b.h) = decide (bef a b)) := hide (decide_eq_decide.2 (by have := HN.out; have := of_decide_eq_false R2.out; unfold bef lessP; omega))
  clear R2 HLba HN
  go_upto_region 5 with fail
  refine wp_region_wm [0, 1, 2, 3, 4, 5, 6, 7, 8, 9] (by kernel_rfl) (by kernel_rfl) (by kernel_rfl) (by kernel_rfl) ?_
  have h4 : Ext w w2.drew := HX2.out.drew
  generalize w2.drew = wf at *
  obtain ⟨ca, -, -, -, hga⟩ := q4 (HA.out _ h4)
  obtain ⟨cb, -, -, -, hgb⟩ := q4 (HB.out _ h4)
  iterate 3 (refine wm_rd rfl rfl (fun K hK => ?_); go_simp; refine hK _ ?_; clear hK K)
  refine wm_ld1 rfl rfl 2 (.tmp 37) rfl rfl ca _ Tryz.underlying2 rfl ?_
  iterate 3 (refine wm_rd rfl rfl (fun K hK => ?_); go_simp; refine hK _ ?_; clear hK K)
  refine wm_ld1 rfl rfl 2 (.tmp 41) rfl rfl cb _ Tryz.underlying2 rfl ?_
  iterate 2 (refine wm_rd rfl rfl (fun K hK => ?_); go_simp; refine hK _ ?_; clear hK K)
  refine wm_nil ?_
  clear ca cb hga hgb
  go_wp2_with fail
  go_ret
  exact ⟨by first | rfl | (rw [HR.out]; rfl), h4⟩
end Go.Proofs.YtdmaephmkfmehaaGreatDoor
namespace Go.Proofs.YtdmaephmkfmehaaGreatDoor
open Go.RowKit Go.Gr Go.Hp
set_option linter.unusedVariables false
set_option linter.unusedSimpArgs false
attribute [local go_sem] rdOp rdAt rdUpon Cls forall_fr
section
variable {P : Program} {G : Nat → Prop} {w0 w : World} {L1 L2 : List As} {o : Oper} {a : Act} {Qq : Exit → Act → World → Prop} {K : Act → World → Prop}
/-- a store into a row of the call's own -/
theorem wp_stOwn (L1 : List As) {L2 : List As} {e : TypeId} {g n c : Nat} {xs : List Value} (H : Sep G w0 w (L1 ++ As.own e (.slice (some ⟨g, 0, none⟩) n c) xs :: L2)) (ty : TypeId) (x y : Operand) (ho : o.op = .store ty x y)
    {i : Nat} {v : Value} (hx : a.eval x = .pointer (some ⟨g, i, none⟩)) (hy : a.eval y = v) (hi : (P.info? ty).map (·.size) = some 1) (hl : i < xs.length) (h1 : v.oneCell' = true)
    (h : ∀ w', Sep G w0 w' (L1 ++ As.own e (.slice (some ⟨g, 0, none⟩) n c) (xs.set i v) :: L2) → Fr (At g) w w' → K (a.put o.dst undef) w') : o.wp P a w K Qq := by
  obtain ⟨g', hA, hc, hf, hg, H2⟩ := H.ownSet L1 hl v
  simp only [Option.some.injEq, Addr.mk.injEq, and_true] at hA
  subst hA
  have hr := run_storeVar_cell (P := P) (w := w) g i ty v (by rw [hc]; rfl) hf hi h1
  unfold Oper.wp execOp
  simp only [ho, hx, hy, Instr.storeAt, Instr.sureAddr, Sem.run_bind, Sem.run_pure, Result.andThen_ok, hr]
  exact h _ H2 (Fr.of_upd ((Upd.refl g w).cell i v))
theorem wpList_stOwn {ops : Array Oper} {rest : List Oper} (L1 : List As) {L2 : List As} {e : TypeId} {g n c : Nat} {xs : List Value} (H : Sep G w0 w (L1 ++ As.own e (.slice (some ⟨g, 0, none⟩) n c) xs :: L2)) (hgd : o.guard = none) (ty : TypeId) (x y : Operand) (ho : o.op = .store ty x y)
    {i : Nat} {v : Value} (hx : a.eval x = .pointer (some ⟨g, i, none⟩)) (hy : a.eval y = v) (hi : (P.info? ty).map (·.size) = some 1) (hl : i < xs.length) (h1 : v.oneCell' = true)
    (h : ∀ w', Sep G w0 w' (L1 ++ As.own e (.slice (some ⟨g, 0, none⟩) n c) (xs.set i v) :: L2) → wpList P ops Qq rest (a.put o.dst undef) w') : wpList P ops Qq (o :: rest) a w :=
  wpList_plain hgd fun K hK => wp_stOwn L1 H ty x y ho hx hy hi hl h1 fun w' H' _ => hK _ _ (h w' H')
/-- where a row of the call's own lies -/
theorem own_at {e : TypeId} {v : Value} {xs : List Value} (h : Go.Gr.Own 0 w e v xs) (h0 : 0 < xs.length) : ∃ g c, v = .slice (some ⟨g, 0, none⟩) xs.length c ∧ xs.length ≤ c ∧ g < w.heap.size ∧ ∀ (i : Nat) u, xs[i]? = some u → w.cell? ⟨g, i, none⟩ = some u := by
  obtain ⟨_, ⟨_, h1⟩ | ⟨g, cap, cur, rfl, _, hh, hc, _, hs, ht⟩⟩ := h
  · omega
  · have hB : Blk w g e cur.toList := by
      show w.heap[g]? = some (.cells cur.toList.toArray e (0, 0))
      rw [hh, Array.toArray_toList]
    refine ⟨g, cap, rfl, hc, hB.lt, fun i u hu => ?_⟩
    rw [hB.cell i]
    have hi : i < xs.length := lt_of_some hu
    have : (cur.toList.take (xs.length * 1))[i]? = xs[i]? := by rw [ht]
    rw [List.getElem?_take, if_pos (by omega)] at this
    rw [this, hu]
end

set_option maxRecDepth 100000 in
set_option maxHeartbeats 2000000 in
theorem pile_len {G : Nat → Prop} {w0 w : World} {L : List As} {q : Nat} {v : Value} {m n : Nat} {D : DataW Unit} {nx : Int} {gs : List Nat} {es : List En} (H : Sep G w0 w (As.blk q 173 [v, lessV, .map (some m), .int .i64 nx] :: As.own 174 v (gs.map ptrV) :: entsA gs es :: As.map Tryz.prog 2 anyR m n D :: L)) :
    Calls Tryz.prog 163 #[ptrV q] w fun e w' => e = .returned (.int .i64 gs.length) ∧ w = w' := by
  obtain ⟨A, c, rfl, -, hc, -⟩ := (H.owns (e := 174) (v := v) (xs := gs.map ptrV) (List.Mem.tail _ (List.Mem.head _))).form
  obtain ⟨c0, -, -, -, cz⟩ := q4 (H.blk (g := q) (e := 173) (cs := [_, lessV, .map (some m), .int .i64 nx]) (List.Mem.head _))
  rw [List.length_map] at c0 hc
  clear H
  go_enter Tryz.func163, Tryz.ntmps163
  go_wp2_with fail
  go_ret
  exact ⟨rfl, rfl⟩

set_option maxRecDepth 100000 in
set_option maxHeartbeats 2000000 in
theorem pile_less {G : Nat → Prop} {w0 w : World} {L : List As} {q : Nat} {v : Value} {m n : Nat} {D : DataW Unit} {nx : Int} {gs : List Nat} {es : List En} (H : Sep G w0 w (As.blk q 173 [v, lessV, .map (some m), .int .i64 nx] :: As.own 174 v (gs.map ptrV) :: entsA gs es :: As.map Tryz.prog 2 anyR m n D :: L)) {i k : Nat} {gi gk : Nat} {a b : En} (hgi : gs[i]? = some gi) (hgk : gs[k]? = some gk) (hei : es[i]? = some a) (hek : es[k]? = some b) :
    Calls Tryz.prog 164 #[ptrV q, .int .i64 i, .int .i64 k] w fun e w' => e = .returned (.bool (decide (bef a b))) ∧ Ext w w' := by
  have hlen := lt_of_some hgi
  have hlen2 := lt_of_some hgk
  obtain ⟨gr, c, rfl, hc, hgr, hcell⟩ := own_at (H.owns (e := 174) (v := v) (xs := gs.map ptrV) (List.Mem.tail _ (List.Mem.head _))) (by rw [List.length_map]; omega)
  have hbq := (H.blk (g := q) (e := 173) (cs := [_, lessV, .map (some m), .int .i64 nx]) (List.Mem.head _))
  rw [List.length_map] at hbq hc
  obtain ⟨pa, hba⟩ := (sep_ents (gs := gs) (es := es) H (List.Mem.tail _ (List.Mem.tail _ (List.Mem.head _)))).blk i gi a hgi hei
  obtain ⟨pb, hbb⟩ := (sep_ents (gs := gs) (es := es) H (List.Mem.tail _ (List.Mem.tail _ (List.Mem.head _)))).blk k gk b hgk hek
  have HBF := hide (fun (x : World) (h : Ext w x) => before_any q _ m nx gi gk a b pa pb x (hbq.ext h) (hba.ext h) (hbb.ext h))
  have ci := hcell i (ptrV gi) (by rw [List.getElem?_map, hgi]; rfl)
  have ck := hcell k (ptrV gk) (by rw [List.getElem?_map, hgk]; rfl)
  have HC := hide (fun (x : World) (h : Ext w x) => (⟨(Below.cell h (cell_lt ci)).trans ci, (Below.cell h (cell_lt ck)).trans ck, Nat.lt_of_lt_of_le hgr h.size, q4 (hbq.ext h)⟩ : x.cell? ⟨gr, i, none⟩ = some (ptrV gi) ∧ x.cell? ⟨gr, k, none⟩ = some (ptrV gk) ∧ gr < x.heap.size ∧ _))
  have e1 : (i : Int) < (gs.length : Int) := by omega
  have e2 : (k : Int) < (gs.length : Int) := by omega
  clear H hcell hbq hba hbb ci ck hgi hgk hei hek hgr hc hlen hlen2
  go_enter Tryz.func164, Tryz.ntmps164
  go_upto_region 1 with fail
  refine wp_region_wm [0, 1, 2, 3, 4, 5, 6, 7, 8, 9, 10, 11, 12, 13, 14, 15, 16] (by kernel_rfl) (by kernel_rfl) (by kernel_rfl) (by kernel_rfl) ?_
  have h0 : Ext w w.drew := (Ext.refl w).drew
  generalize w.drew = wd at *
  obtain ⟨ci, ck, hgr, c0, -, -, -, cz⟩ := HC.out _ h0
  iterate 4 (refine wm_rd rfl rfl (fun K hK => ?_); go_simp; refine hK _ ?_; clear hK K)
  refine wm_ld1 rfl rfl 168 (.tmp 10) rfl rfl c0 _ Tryz.underlying168 rfl ?_
  iterate 2 (refine wm_rd rfl rfl (fun K hK => ?_); go_simp; refine hK _ ?_; clear hK K)
  refine wm_ld1 rfl rfl 174 (.tmp 13) rfl rfl ci _ Tryz.underlying174 rfl ?_
  iterate 3 (refine wm_rd rfl rfl (fun K hK => ?_); go_simp; refine hK _ ?_; clear hK K)
  refine wm_ld1 rfl rfl 168 (.tmp 17) rfl rfl c0 _ Tryz.underlying168 rfl ?_
  iterate 2 (refine wm_rd rfl rfl (fun K hK => ?_); go_simp; refine hK _ ?_; clear hK K)
  refine wm_ld1 rfl rfl 174 (.tmp 20) rfl rfl ck _ Tryz.underlying174 rfl ?_
  clear ci ck hgr c0 cz
  refine wm_ext rfl rfl (fun K hK => ?_)
  go_simp
  go_at_call 168
  (with_reducible refine (HBF.out _ h0).mono ?_)
  rintro e w1 ⟨rfl, hx⟩
  refine hK _ _ hx ?_
  clear hK K
  iterate 1 (refine wm_rd rfl rfl (fun K hK => ?_); go_simp; refine hK _ ?_; clear hK K)
  refine wm_nil ?_
  have HX := hide (h0.trans hx)
  clear hx h0
  go_wp2_with fail
  go_ret
  exact ⟨rfl, HX.out⟩

end Go.Proofs.YtdmaephmkfmehaaGreatDoor
namespace Go.Proofs.YtdmaephmkfmehaaGreatDoor
open Go.RowKit Go.Gr Go.Hp
set_option linter.unusedVariables false
set_option linter.unusedSimpArgs false
attribute [local go_sem] rdOp rdAt rdUpon Cls forall_fr
/-- a store of the place of an entry -/
theorem wp_stEnt {P : Program} {G : Nat → Prop} {w0 w : World} {o : Oper} {a : Act} {Qq : Exit → Act → World → Prop} {K : Act → World → Prop} (L1 : List As) {L2 : List As} {gs : List Nat} {es : List En} (H : Sep G w0 w (L1 ++ entsA gs es :: L2)) {i g : Nat} {e : En} (hg : gs[i]? = some g) (he : es[i]? = some e)
    (ty : TypeId) (x y : Operand) (ho : o.op = .store ty x y) {z : Int} (hx : a.eval x = .pointer (some ⟨g, 3, none⟩)) (hy : a.eval y = .int .i64 z) (hi : (P.info? ty).map (·.size) = some 1)
    (h : ∀ w', Sep G w0 w' (L1 ++ entsA gs es :: L2) → Fr (At g) w w' → K (a.put o.dst undef) w') : o.wp P a w K Qq := by
  obtain ⟨pl, hB⟩ := (sep_ents (gs := gs) (es := es) H (by simp)).blk i g e hg he
  have hr := run_storeVar_cell (P := P) (w := w) g 3 ty (.int .i64 z) (by rw [hB.cell 3]; rfl) (hB.free 3) hi rfl
  unfold Oper.wp execOp
  simp only [ho, hx, hy, Instr.storeAt, Instr.sureAddr, Sem.run_bind, Sem.run_pure, Result.andThen_ok, hr]
  exact h _ (sep_entPl L1 H hg he z) (Fr.of_upd ((Upd.refl g w).cell 3 _))
theorem swG_map {α β : Type} (f : α → β) {l : List α} {i k : Nat} {a b : α} (hi : l[i]? = some a) (hk : l[k]? = some b) : ((l.map f).set i (f b)).set k (f a) = (swG l i k).map f := by
  rw [swG_some hi hk, List.map_set, List.map_set]

set_option maxRecDepth 100000 in
set_option maxHeartbeats 2000000 in
theorem pile_swap {G : Nat → Prop} {w0 w : World} {L : List As} {q : Nat} {v : Value} {m n : Nat} {D : DataW Unit} {nx : Int} {gs : List Nat} {es : List En} (H : Sep G w0 w (As.blk q 173 [v, lessV, .map (some m), .int .i64 nx] :: As.own 174 v (gs.map ptrV) :: entsA gs es :: As.map Tryz.prog 2 anyR m n D :: L)) {i k : Nat} {gi gk : Nat} {a b : En} (hgi : gs[i]? = some gi) (hgk : gs[k]? = some gk) (hei : es[i]? = some a) (hek : es[k]? = some b) :
    Calls Tryz.prog 167 #[ptrV q, .int .i64 i, .int .i64 k] w fun e w' => e = .returned (.tuple #[]) ∧ Sep G w0 w' (As.blk q 173 [v, lessV, .map (some m), .int .i64 nx] :: As.own 174 v ((swG gs i k).map ptrV) :: entsA (swG gs i k) (swG es i k) :: As.map Tryz.prog 2 anyR m n D :: L) := by
  have hlen := lt_of_some hgi
  have hlen2 := lt_of_some hgk
  obtain ⟨gr, c, rfl, hc, -, -⟩ := own_at (H.owns (e := 174) (v := v) (xs := gs.map ptrV) (List.Mem.tail _ (List.Mem.head _))) (by rw [List.length_map]; omega)
  have e1 : (i : Int) < (gs.length : Int) := by omega
  have e2 : (k : Int) < (gs.length : Int) := by omega
  have HGI := hide hgi
  have HGK := hide hgk
  have HEI := hide hei
  have HEK := hide hek
  have HSM : Hid (((gs.map ptrV).set i (ptrV gk)).set k (ptrV gi) = (swG gs i k).map ptrV) := hide (swG_map ptrV hgi hgk)
  have HLI : Hid (i < (gs.map ptrV).length) := hide (by rw [List.length_map]; exact hlen)
  have HLK : Hid (k < ((gs.map ptrV).set i (ptrV gk)).length) := hide (by rw [List.length_set, List.length_map]; exact hlen2)
  have HSL : Hid ((swG gs i k).length = gs.length) := hide (swG_len gs i k)
  have HSI := hide (swG_left hgi hgk)
  have HSK := hide (swG_right hgi hgk)
  have HTI := hide (swG_left hei hek)
  have HTK := hide (swG_right hei hek)
  rw [List.length_map] at H ⊢
  clear hgi hgk hei hek hlen hlen2 hc
  go_enter Tryz.func167, Tryz.ntmps167
  go_upto_region 0 with fail
  refine wp_region_ws2 (RT.fr No) (RT.fr (At gr)) (fun _ _ h => h.mono (fun _ h => h.elim)) 25 [0, 1, 2, 3, 4, 5, 6, 7, 8, 9, 10, 11, 12, 13, 14, 15, 16, 17, 18, 19, 20, 21, 22, 23, 24, 25, 26, 27] (by kernel_rfl) (by kernel_rfl) (by kernel_rfl) (by kernel_rfl) ?_
  have KD := H.drew
  clear H
  generalize World.drew _ = wd at *
  obtain ⟨c0, -, -, -, cz⟩ := q4 (KD.blk (g := q) (e := 173) (List.Mem.head _))
  obtain ⟨gr', c', hv, -, hgr, hcell⟩ := own_at (KD.owns (e := 174) (xs := gs.map ptrV) (List.Mem.tail _ (List.Mem.head _))) (by have := HLI.out; omega)
  simp only [Value.slice.injEq, Option.some.injEq, Addr.mk.injEq, and_true] at hv
  obtain ⟨rfl, -, rfl⟩ := hv
  have ci := hcell i (ptrV gi) (by rw [List.getElem?_map, HGI.out]; rfl)
  have ck := hcell k (ptrV gk) (by rw [List.getElem?_map, HGK.out]; rfl)
  clear hcell
  iterate 3 (refine ws2_rd rfl rfl rfl (by kernel_rfl) (fun K hK => ?_); go_simp; refine hK _ ?_; clear hK K)
  refine ws2_ld1 rfl rfl (by kernel_rfl) rfl 168 (.tmp 8) rfl rfl (fun w' h' => Fr.cell h' c0 (fun h => h)) _ Tryz.underlying168 rfl ?_
  iterate 1 (refine ws2_rd rfl rfl rfl (by kernel_rfl) (fun K hK => ?_); go_simp; refine hK _ ?_; clear hK K)
  iterate 3 (refine ws2_pure rfl rfl rfl (by kernel_rfl) (fun K hK => ?_); go_simp; refine hK _ ?_; clear hK K)
  refine ws2_ld1 rfl rfl (by kernel_rfl) rfl 168 (.tmp 13) rfl rfl (fun w' h' => Fr.cell h' c0 (fun h => h)) _ Tryz.underlying168 rfl ?_
  iterate 1 (refine ws2_pure rfl rfl rfl (by kernel_rfl) (fun K hK => ?_); go_simp; refine hK _ ?_; clear hK K)
  iterate 3 (refine ws2_rd rfl rfl rfl (by kernel_rfl) (fun K hK => ?_); go_simp; refine hK _ ?_; clear hK K)
  refine ws2_ld1 rfl rfl (by kernel_rfl) rfl 168 (.tmp 18) rfl rfl (fun w' h' => Fr.cell h' c0 (fun h => h)) _ Tryz.underlying168 rfl ?_
  iterate 2 (refine ws2_rd rfl rfl rfl (by kernel_rfl) (fun K hK => ?_); go_simp; refine hK _ ?_; clear hK K)
  refine ws2_ld1 rfl rfl (by kernel_rfl) rfl 174 (.tmp 21) rfl rfl (fun w' h' => Fr.cell h' ck (fun h => h)) _ Tryz.underlying174 rfl ?_
  iterate 3 (refine ws2_pure rfl rfl rfl (by kernel_rfl) (fun K hK => ?_); go_simp; refine hK _ ?_; clear hK K)
  refine ws2_ld1 rfl rfl (by kernel_rfl) rfl 168 (.tmp 25) rfl rfl (fun w' h' => Fr.cell h' c0 (fun h => h)) _ Tryz.underlying168 rfl ?_
  iterate 2 (refine ws2_pure rfl rfl rfl (by kernel_rfl) (fun K hK => ?_); go_simp; refine hK _ ?_; clear hK K)
  refine ws2_ld1 rfl rfl (by kernel_rfl) rfl 174 (.tmp 28) rfl rfl (fun w' h' => Fr.cell h' ci (fun h => h)) _ Tryz.underlying174 rfl ?_
  iterate 1 (refine ws2_rd rfl rfl rfl (by kernel_rfl) (fun K hK => ?_); go_simp; refine hK _ ?_; clear hK K)
  refine ws2_at rfl (fun K hK => ?_)
  rw [if_pos (show Region.wanted _ _ = true from rfl)]
  refine wp_stOwn [_] KD 174 (.tmp 30) (.tmp 22) rfl (v := ptrV gk) (i := i) rfl rfl (by kernel_rfl) HLI.out rfl (fun w5 K5 hu5 => hK _ _ hu5 ?_)
  dsimp only [List.nil_append, List.cons_append] at K5
  clear hK K hu5 KD ci ck c0 cz
  iterate 1 (refine wmr_rd rfl rfl (fun K hK => ?_); go_simp; refine hK _ ?_; clear hK K)
  refine wmr_ext rfl rfl (fun K hK => ?_)
  rw [if_pos (show Region.wanted _ _ = true from rfl)]
  refine wp_stOwn [_] K5 174 (.tmp 31) (.tmp 29) rfl (v := ptrV gi) (i := k) rfl rfl (by kernel_rfl) HLK.out rfl (fun w6 K6 hu6 => hK _ _ hu6 ?_)
  dsimp only [List.nil_append, List.cons_append] at K6
  rw [HSM.out] at K6
  clear hK K hu6 K5
  have K7 := hide (sep_entSw [_, _] K6 HGI.out HGK.out HEI.out HEK.out)
  clear K6
  refine wmr_nil ?_
  have e3 : (i : Int) < ((swG gs i k).length : Int) := by rw [HSL.out]; exact e1
  generalize hsg : swG gs i k = gs' at *
  generalize hse : swG es i k = es' at *
  have HSG := hide hsg
  have HSE := hide hse
  clear hsg hse
  go_upto_region 1 with fail
  refine wp_region_ws2 (RT.fr No) (RT.fr (fun j => j = gi ∨ j = gk)) (fun _ _ h => h.mono (fun _ h => h.elim)) 18 [0, 1, 2, 3, 4, 5, 6, 7, 8, 9, 10, 11, 12, 13, 14, 15, 16, 17, 18, 19, 20, 21] (by kernel_rfl) (by kernel_rfl) (by kernel_rfl) (by kernel_rfl) ?_
  have KD := K7.out.drew
  clear K7
  dsimp only [List.nil_append, List.cons_append] at KD
  generalize World.drew _ = wd2 at *
  obtain ⟨c0, -, -, -, cz⟩ := q4 (KD.blk (g := q) (e := 173) (List.Mem.head _))
  obtain ⟨gr', c', hv, -, hgr2, hcell⟩ := own_at (KD.owns (e := 174) (xs := gs'.map ptrV) (List.Mem.tail _ (List.Mem.head _))) (by rw [List.length_map, HSL.out]; have := HLI.out; rw [List.length_map] at this; omega)
  simp only [Value.slice.injEq, Option.some.injEq, Addr.mk.injEq, and_true] at hv
  obtain ⟨rfl, -, rfl⟩ := hv
  have ci := hcell i (ptrV gk) (by rw [List.getElem?_map, HSI.out]; rfl)
  have ck := hcell k (ptrV gi) (by rw [List.getElem?_map, HSK.out]; rfl)
  obtain ⟨p1, hb1⟩ := (sep_ents (gs := gs') (es := es') KD (List.Mem.tail _ (List.Mem.tail _ (List.Mem.head _)))).blk i gk b HSI.out HTI.out
  obtain ⟨p2, hb2⟩ := (sep_ents (gs := gs') (es := es') KD (List.Mem.tail _ (List.Mem.tail _ (List.Mem.head _)))).blk k gi a HSK.out HTK.out
  have hg1 := hb1.lt
  have hg2 := hb2.lt
  clear hcell hb1 hb2
  iterate 3 (refine ws2_rd rfl rfl rfl (by kernel_rfl) (fun K hK => ?_); go_simp; refine hK _ ?_; clear hK K)
  refine ws2_ld1 rfl rfl (by kernel_rfl) rfl 168 (.tmp 34) rfl rfl (fun w' h' => Fr.cell h' c0 (fun h => h)) _ Tryz.underlying168 rfl ?_
  iterate 2 (refine ws2_rd rfl rfl rfl (by kernel_rfl) (fun K hK => ?_); go_simp; refine hK _ ?_; clear hK K)
  refine ws2_ld1 rfl rfl (by kernel_rfl) rfl 174 (.tmp 37) rfl rfl (fun w' h' => Fr.cell h' ci (fun h => h)) _ Tryz.underlying174 rfl ?_
  iterate 3 (refine ws2_pure rfl rfl rfl (by kernel_rfl) (fun K hK => ?_); go_simp; refine hK _ ?_; clear hK K)
  refine ws2_ld1 rfl rfl (by kernel_rfl) rfl 168 (.tmp 41) rfl rfl (fun w' h' => Fr.cell h' c0 (fun h => h)) _ Tryz.underlying168 rfl ?_
  iterate 2 (refine ws2_pure rfl rfl rfl (by kernel_rfl) (fun K hK => ?_); go_simp; refine hK _ ?_; clear hK K)
  refine ws2_ld1 rfl rfl (by kernel_rfl) rfl 174 (.tmp 44) rfl rfl (fun w' h' => Fr.cell h' ck (fun h => h)) _ Tryz.underlying174 rfl ?_
  iterate 1 (refine ws2_rd rfl rfl rfl (by kernel_rfl) (fun K hK => ?_); go_simp; refine hK _ ?_; clear hK K)
  iterate 2 (refine ws2_pure rfl rfl rfl (by kernel_rfl) (fun K hK => ?_); go_simp; refine hK _ ?_; clear hK K)
  iterate 1 (refine ws2_rd rfl rfl rfl (by kernel_rfl) (fun K hK => ?_); go_simp; refine hK _ ?_; clear hK K)
  refine ws2_at rfl (fun K hK => ?_)
  rw [if_pos (show Region.wanted _ _ = true from rfl)]
  refine wp_stEnt [_, _] KD HSI.out HTI.out 3 (.tmp 49) (.tmp 46) rfl (z := i) rfl rfl (by kernel_rfl) (fun w8 K8 hu8 => hK _ _ (hu8.mono (fun j hj => .inr hj)) ?_)
  dsimp only [List.nil_append, List.cons_append] at K8
  have hg3 : gi < w8.heap.size := Nat.lt_of_lt_of_le hg2 hu8.size
  clear hK K hu8 KD ci ck c0 cz
  iterate 2 (refine wmr_rd rfl rfl (fun K hK => ?_); go_simp; refine hK _ ?_; clear hK K)
  refine wmr_ext rfl rfl (fun K hK => ?_)
  rw [if_pos (show Region.wanted _ _ = true from rfl)]
  refine wp_stEnt [_, _] K8 HSK.out HTK.out 3 (.tmp 51) (.tmp 47) rfl (z := k) rfl rfl (by kernel_rfl) (fun w9 K9 hu9 => hK _ _ (hu9.mono (fun j hj => .inl hj)) ?_)
  dsimp only [List.nil_append, List.cons_append] at K9
  clear hK K hu9 K8
  have KF := hide K9
  clear K9
  refine wmr_nil ?_
  go_wp2_with fail
  go_end0
  exact ⟨rfl, by rw [HSG.out, HSE.out]; exact KF.out⟩

end Go.Proofs.YtdmaephmkfmehaaGreatDoor
namespace Go.Proofs.YtdmaephmkfmehaaGreatDoor
open Go.RowKit Go.Gr Go.Hp
set_option linter.unusedVariables false
set_option linter.unusedSimpArgs false
attribute [local go_sem] rdOp rdAt rdUpon Cls forall_fr
theorem own_take {w : World} {e : TypeId} {g n' c n : Nat} {xs : List Value} (h : Go.Gr.Own 0 w e (.slice (some ⟨g, 0, none⟩) n' c) xs) (hn : n ≤ xs.length) : Go.Gr.Own 0 w e (.slice (some ⟨g, 0, none⟩) n c) (xs.take n) := by
  obtain ⟨_, ⟨h1, _⟩ | ⟨g', cap, cur, hv, hb, hh, hc, hm, hs, ht⟩⟩ := h
  · cases h1
  · cases hv
    have hl : (xs.take n).length = n := by rw [List.length_take]; omega
    refine ⟨by simp, .inr ⟨g, c, cur, by rw [hl], hb, hh, by rw [hl]; omega, hm, hs, ?_⟩⟩
    rw [hl, Nat.mul_one]
    rw [Nat.mul_one] at ht
    rw [← ht, List.take_take, Nat.min_eq_left hn]
theorem infoPt : (Tryz.prog.info? 174).map (fun i => (i.zero, i.size, i.bytes)) = some (some (.pointer none), 1, 8) := by kernel_rfl
theorem assert_ptr (v : Value) (w : World) : (Instr.typeAssert (.iface 174 v) 20 174 false).run Tryz.prog w = .ok v w := by kernel_rfl
theorem ptrV_one (gs : List Nat) : ∀ v ∈ gs.map ptrV, v.oneCell' = true := fun v hv => by
  obtain ⟨g, _, rfl⟩ := List.mem_map.1 hv
  rfl

set_option maxRecDepth 100000 in
set_option maxHeartbeats 2000000 in
theorem pile_push {G : Nat → Prop} {w0 w : World} {L : List As} {q : Nat} {v : Value} {m n : Nat} {D : DataW Unit} {nx : Int} {gs : List Nat} {es : List En} {g : Nat} {x : En} {pl : Int} (hn : gs.length ≤ 100000)
    (H : Sep G w0 w (As.blk g 176 (enC x pl) :: As.blk q 173 [v, lessV, .map (some m), .int .i64 nx] :: As.own 174 v (gs.map ptrV) :: entsA gs es :: As.map Tryz.prog 2 anyR m n D :: L)) :
    Calls Tryz.prog 166 #[ptrV q, .iface 174 (ptrV g)] w fun e w' => e = .returned (.tuple #[]) ∧ ∃ v', Sep G w0 w' (As.blk q 173 [v', lessV, .map (some m), .int .i64 nx] :: As.own 174 v' ((gs ++ [g]).map ptrV) :: entsA (gs ++ [g]) (es ++ [x]) :: As.map Tryz.prog 2 anyR m n D :: L) := by
  obtain ⟨i0, hi, hz0, hz1, hz2⟩ := info_parts infoPt
  obtain ⟨A, c, rfl, -, hc, -⟩ := (H.owns (e := 174) (v := v) (xs := gs.map ptrV) (List.Mem.tail _ (List.Mem.tail _ (List.Mem.head _)))).form
  obtain ⟨c0, -, -, -, cz⟩ := q4 (H.blk (g := q) (e := 173) (List.Mem.tail _ (List.Mem.head _)))
  have hg := (H.blk (g := g) (e := 176) (cs := enC x pl) (List.Mem.head _)).lt
  rw [List.length_map] at hc c0 H
  have HNL : Hid ((gs.map ptrV).length < 1000000000) := hide (by rw [List.length_map]; omega)
  have tok1 : True := trivial
  have tok2 : True := trivial
  have tok3 : True := trivial
  clear hn
  go_enter Tryz.func166, Tryz.ntmps166
  have hta := assert_ptr (ptrV g) w
  go_upto_region 1 with fail
  clear hta
  go_upto_region 2 with (have zz := tok1; clear zz tok1; refine wpList_st1S [] H rfl 3 (.tmp 14) (.tmp 12) rfl (i := 3) rfl rfl (by kernel_rfl) (show _ < 4 by decide) rfl ?_; intro w2 H2; dsimp only [List.nil_append, List.set] at H2; clear H c0 cz)
  obtain ⟨c0, -, -, -, cz⟩ := q4 (H2.blk (g := q) (e := 173) (List.Mem.tail _ (List.Mem.head _)))
  go_wp2_with (first
    | (have zz := tok2; clear zz tok2; with_reducible refine wpList_pushS [_, _] H2 rfl (.tmp 19) (.tmp 21) 168 rfl i0 (.pointer none) 8 Tryz.underlying168 hi hz0 hz1 hz2 rfl rfl rfl rfl HNL.out (by decide) ?_; intro v3 w3 H3; dsimp only [List.nil_append, List.cons_append] at H3; have hq3 := (H3.blk (g := q) (e := 173) (List.Mem.tail _ (List.Mem.head _))).lt; clear c0 cz H2)
    | (have zz := tok3; clear zz tok3; refine wpList_st1S [_] H3 rfl 168 (.tmp 24) (.tmp 22) rfl (i := 0) rfl rfl (by kernel_rfl) (show _ < 4 by decide) (by exact (by obtain ⟨A', c', hv, -⟩ := (H3.owns (e := 174) (v := v3) (xs := gs.map ptrV ++ [ptrV g]) (List.Mem.tail _ (List.Mem.tail _ (List.Mem.head _)))).form; rw [hv]; rfl)) ?_; intro w4 H4; dsimp only [List.nil_append, List.cons_append, List.set] at H4; clear H3 hq3))
  go_end0
  refine ⟨rfl, v3, ?_⟩
  -- the new entry joins the others
  have P1 : Sep G w0 w4 (As.blk g 176 (enC x (gs.length : Nat)) :: entsA gs es :: As.blk q 173 [v3, lessV, .map (some m), .int .i64 nx] :: As.own 174 v3 (gs.map ptrV ++ [ptrV g]) :: As.map Tryz.prog 2 anyR m n D :: L) :=
    H4.perm (List.Perm.cons _ ((List.Perm.cons _ (List.Perm.swap _ _ _)).trans (List.Perm.swap _ _ _)))
  have P2 := sep_entNew P1
  exact P2.perm ((List.Perm.swap _ _ _).trans (List.Perm.cons _ (List.Perm.swap _ _ _)))

set_option maxRecDepth 100000 in
set_option maxHeartbeats 2000000 in
theorem pile_pop {G : Nat → Prop} {w0 w : World} {L : List As} {q : Nat} {v : Value} {m n : Nat} {D : DataW Unit} {nx : Int} {gs : List Nat} {es : List En} {k g : Nat} (hn : gs.length ≤ 100000) (hk : gs.length = k + 1) (hg : gs[k]? = some g) (H : Sep G w0 w (As.blk q 173 [v, lessV, .map (some m), .int .i64 nx] :: As.own 174 v (gs.map ptrV) :: entsA gs es :: As.map Tryz.prog 2 anyR m n D :: L)) :
    Calls Tryz.prog 165 #[ptrV q] w fun e w' => e = .returned (.iface 174 (ptrV g)) ∧ ∃ v', Sep G w0 w' (As.blk q 173 [v', lessV, .map (some m), .int .i64 nx] :: As.own 174 v' ((gs.take k).map ptrV) :: entsA (gs.take k) (es.take k) :: As.map Tryz.prog 2 anyR m n D :: L) := by
  obtain ⟨gr, c, rfl, hc, hgr, hcell⟩ := own_at (H.owns (e := 174) (v := v) (xs := gs.map ptrV) (List.Mem.tail _ (List.Mem.head _))) (by rw [List.length_map]; omega)
  have cl := hcell k (ptrV g) (by rw [List.getElem?_map, hg]; rfl)
  obtain ⟨c0, -, -, -, cz⟩ := q4 (H.blk (g := q) (e := 173) (List.Mem.head _))
  rw [List.length_map] at hc c0 H
  rw [hk] at hc c0 H
  have HKL : Hid (k < (gs.map ptrV).length) := hide (by rw [List.length_map]; omega)
  have e1 : ((k + 1 : Nat) : Int) = (k : Int) + 1 := by omega
  have e2 : (k : Int) < (k : Int) + 1 := by omega
  have hkc : (k : Int) ≤ (c : Int) := by omega
  have hkw : IntKind.i64.wrap (k : Int) = (k : Int) := IntWalk.i64_in _ (by omega)
  have tok1 : True := trivial
  have tok2 : True := trivial
  clear hcell hg
  go_enter Tryz.func165, Tryz.ntmps165
  go_wp2_with (first
    | (have zz := tok1; clear zz tok1; with_reducible refine wpList_stOwn [_] H rfl 174 (.tmp 23) (.const (.pointer none)) rfl (i := k) rfl rfl (by kernel_rfl) HKL.out rfl ?_; intro w2 H2; dsimp only [List.nil_append, List.cons_append] at H2; have c0 := (q4 (H2.blk (g := q) (e := 173) (List.Mem.head _))).1; have cz := (H2.blk (g := q) (e := 173) (List.Mem.head _)).lt; clear H cl)
    | (have zz := tok2; clear zz tok2; refine wpList_st1S [] H2 rfl 168 (.tmp 32) (.tmp 30) rfl (i := 0) rfl rfl (by kernel_rfl) (show _ < 4 by decide) rfl ?_; intro w3 H3; dsimp only [List.nil_append, List.cons_append, List.set] at H3; clear H2 c0 cz))
  go_ret
  refine ⟨rfl, .slice (some ⟨gr, 0, none⟩) k c, ?_⟩
  have hkl := HKL.out
  rw [List.length_map] at hkl
  have htk : ((gs.map ptrV).set k (.pointer none)).take k = (gs.take k).map ptrV := by
    rw [List.take_set_of_le (Nat.le_refl k), List.map_take]
  have P1 := H3.weak [_] (A := As.own 174 (.slice (some ⟨gr, 0, none⟩) (k + 1) c) ((gs.map ptrV).set k (.pointer none))) (B := As.own 174 (.slice (some ⟨gr, 0, none⟩) k c) ((gs.take k).map ptrV)) (fun h => by
    have h2 := own_take (n := k) h (by rw [List.length_set, List.length_map]; omega)
    rw [htk] at h2
    exact h2) (fun i hi => hi)
  exact sep_entTake [_, _] P1 k

end Go.Proofs.YtdmaephmkfmehaaGreatDoor
