/- Seats, in plain numbers: what calls do to a seat and to its tickets. -/
import Derived.Test.YtcmpkpldihnklaaM0
namespace Go.Seat
set_option linter.unusedVariables false
def isV (s : Se) (t : Ti) : Prop := t.own = s.own ∧ t.ser = s.ser ∧ t.ep = s.ep
/-- a call that is done -/
def Way (s : Se) (x : Ca) (t : Ti) (n : Se) : Prop :=
  good s ∧ ((x.what % 8 = 0 ∧ s.st = 0 ∧ 0 ≤ x.at_ ∧ n = ⟨1, x.own, x.at_, s.ser, s.ep⟩)
  ∨ (x.what % 8 = 1 ∧ s.st = 1 ∧ s.own = x.own ∧ n = openS s)
  ∨ (x.what % 8 = 2 ∧ s.st = 1 ∧ s.dl ≤ x.at_ ∧ n = openS s)
  ∨ (x.what % 8 = 3 ∧ s.st = 1 ∧ s.own = x.own ∧ s.ser ≠ most ∧ n = ⟨2, x.own, 0, s.ser + 1, s.ep⟩)
  ∨ (x.what % 8 = 4 ∧ s.st = 2 ∧ isV s t ∧ s.ser ≠ most ∧ n = ⟨2, x.to, 0, s.ser + 1, s.ep⟩)
  ∨ (x.what % 8 = 5 ∧ s.st = 2 ∧ isV s t ∧ n = openS s)
  ∨ (x.what % 8 = 6 ∧ s.st = 2 ∧ s.ep ≠ most ∧ n = ⟨0, 0, 0, s.ser, s.ep + 1⟩)
  ∨ (x.what % 8 = 7 ∧ s.st = 2 ∧ isV s t ∧ n = s))
theorem hold_way (s : Se) (o d : Int) : ((holdS s o d).2 ≠ 0 ∧ (holdS s o d).1 = s) ∨ ((holdS s o d).2 = 0 ∧ good s ∧ s.st = 0 ∧ 0 ≤ d ∧ (holdS s o d).1 = ⟨1, o, d, s.ser, s.ep⟩) := by
  unfold holdS; repeat' split
  all_goals simp_all
theorem release_way (s : Se) (o : Int) : ((releaseS s o).2 ≠ 0 ∧ (releaseS s o).1 = s) ∨ ((releaseS s o).2 = 0 ∧ good s ∧ s.st = 1 ∧ s.own = o ∧ (releaseS s o).1 = openS s) := by
  unfold releaseS mineE; repeat' split
  all_goals simp_all
theorem expire_way (s : Se) (o : Int) : ((expireS s o).2 ≠ 0 ∧ (expireS s o).1 = s) ∨ ((expireS s o).2 = 0 ∧ good s ∧ s.st = 1 ∧ s.dl ≤ o ∧ (expireS s o).1 = openS s) := by
  unfold expireS; repeat' split
  all_goals simp_all
theorem issue_way (s : Se) (o : Int) : ((issueS s o).2 ≠ 0 ∧ (issueS s o).1 = s) ∨ ((issueS s o).2 = 0 ∧ s.ser ≠ most ∧ (issueS s o).1 = ⟨2, o, 0, s.ser + 1, s.ep⟩) := by
  unfold issueS; repeat' split
  all_goals simp_all
theorem mine_0 (s : Se) (o : Int) (h : mineE s o = 0) : good s ∧ s.st = 1 ∧ s.own = o := by
  revert h; unfold mineE; repeat' split
  all_goals simp_all
theorem valid_0 (s : Se) (t : Ti) : validE s t = 0 ↔ good s ∧ s.st = 2 ∧ isV s t := by
  unfold validE isV; repeat' split
  all_goals simp_all
theorem buy_way (s : Se) (o : Int) : ((buyS s o).2 ≠ 0 ∧ (buyS s o).1 = s) ∨ ((buyS s o).2 = 0 ∧ good s ∧ s.st = 1 ∧ s.own = o ∧ s.ser ≠ most ∧ (buyS s o).1 = ⟨2, o, 0, s.ser + 1, s.ep⟩) := by
  by_cases h : mineE s o = 0
  · have e : buyS s o = issueS s o := by unfold buyS; rw [if_neg (by simpa using h)]
    have := mine_0 s o h
    rw [e]
    rcases issue_way s o with h1 | ⟨h1, h2, h3⟩
    · exact .inl h1
    · exact .inr ⟨h1, this.1, this.2.1, this.2.2, h2, h3⟩
  · have e : buyS s o = (s, mineE s o) := by unfold buyS; rw [if_pos h]
    rw [e]; exact .inl ⟨h, rfl⟩
theorem transfer_way (s : Se) (t : Ti) (o : Int) : ((transferS s t o).2 ≠ 0 ∧ (transferS s t o).1 = s) ∨ ((transferS s t o).2 = 0 ∧ good s ∧ s.st = 2 ∧ isV s t ∧ s.ser ≠ most ∧ (transferS s t o).1 = ⟨2, o, 0, s.ser + 1, s.ep⟩) := by
  by_cases h : validE s t = 0
  · have e : transferS s t o = issueS s o := by unfold transferS; rw [if_neg (by simpa using h)]
    have := (valid_0 s t).1 h
    rw [e]
    rcases issue_way s o with h1 | ⟨h1, h2, h3⟩
    · exact .inl h1
    · exact .inr ⟨h1, this.1, this.2.1, this.2.2, h2, h3⟩
  · have e : transferS s t o = (s, validE s t) := by unfold transferS; rw [if_pos h]
    rw [e]; exact .inl ⟨h, rfl⟩
theorem refund_way (s : Se) (t : Ti) : ((refundS s t).2 ≠ 0 ∧ (refundS s t).1 = s) ∨ ((refundS s t).2 = 0 ∧ good s ∧ s.st = 2 ∧ isV s t ∧ (refundS s t).1 = openS s) := by
  by_cases h : validE s t = 0
  · have e : refundS s t = (openS s, 0) := by unfold refundS; rw [if_neg (by simpa using h)]
    have := (valid_0 s t).1 h
    rw [e]
    exact .inr ⟨rfl, this.1, this.2.1, this.2.2, rfl⟩
  · have e : refundS s t = (s, validE s t) := by unfold refundS; rw [if_pos h]
    rw [e]; exact .inl ⟨h, rfl⟩
theorem revoke_way (s : Se) : ((revokeS s).2 ≠ 0 ∧ (revokeS s).1 = s) ∨ ((revokeS s).2 = 0 ∧ good s ∧ s.st = 2 ∧ s.ep ≠ most ∧ (revokeS s).1 = ⟨0, 0, 0, s.ser, s.ep + 1⟩) := by
  unfold revokeS; repeat' split
  all_goals simp_all
theorem done_way (s : Se) (x : Ca) (t : Ti) : ((doneS s x t).2 ≠ 0 ∧ (doneS s x t).1 = s) ∨ ((doneS s x t).2 = 0 ∧ Way s x t (doneS s x t).1) := by
  unfold Way
  by_cases h0 : x.what % 8 = 0
  · have e : doneS s x t = holdS s x.own x.at_ := by unfold doneS; rw [if_pos h0]
    rw [e]; rcases hold_way s x.own x.at_ with h | ⟨h, h1, h2, h3, h4⟩
    · exact .inl h
    · exact .inr ⟨h, h1, .inl ⟨h0, h2, h3, h4⟩⟩
  by_cases h1 : x.what % 8 = 1
  · have e : doneS s x t = releaseS s x.own := by unfold doneS; rw [if_neg h0, if_pos h1]
    rw [e]; rcases release_way s x.own with h | ⟨h, h2, h3, h4, h5⟩
    · exact .inl h
    · exact .inr ⟨h, h2, .inr (.inl ⟨h1, h3, h4, h5⟩)⟩
  by_cases h2 : x.what % 8 = 2
  · have e : doneS s x t = expireS s x.at_ := by unfold doneS; rw [if_neg h0, if_neg h1, if_pos h2]
    rw [e]; rcases expire_way s x.at_ with h | ⟨h, h3, h4, h5, h6⟩
    · exact .inl h
    · exact .inr ⟨h, h3, .inr (.inr (.inl ⟨h2, h4, h5, h6⟩))⟩
  by_cases h3 : x.what % 8 = 3
  · have e : doneS s x t = buyS s x.own := by unfold doneS; rw [if_neg h0, if_neg h1, if_neg h2, if_pos h3]
    rw [e]; rcases buy_way s x.own with h | ⟨h, h4, h5, h6, h7, h8⟩
    · exact .inl h
    · exact .inr ⟨h, h4, .inr (.inr (.inr (.inl ⟨h3, h5, h6, h7, h8⟩)))⟩
  by_cases h4 : x.what % 8 = 4
  · have e : doneS s x t = transferS s t x.to := by unfold doneS; rw [if_neg h0, if_neg h1, if_neg h2, if_neg h3, if_pos h4]
    rw [e]; rcases transfer_way s t x.to with h | ⟨h, h5, h6, h7, h8, h9⟩
    · exact .inl h
    · exact .inr ⟨h, h5, .inr (.inr (.inr (.inr (.inl ⟨h4, h6, h7, h8, h9⟩))))⟩
  by_cases h5 : x.what % 8 = 5
  · have e : doneS s x t = refundS s t := by unfold doneS; rw [if_neg h0, if_neg h1, if_neg h2, if_neg h3, if_neg h4, if_pos h5]
    rw [e]; rcases refund_way s t with h | ⟨h, h6, h7, h8, h9⟩
    · exact .inl h
    · exact .inr ⟨h, h6, .inr (.inr (.inr (.inr (.inr (.inl ⟨h5, h7, h8, h9⟩)))))⟩
  by_cases h6 : x.what % 8 = 6
  · have e : doneS s x t = revokeS s := by unfold doneS; rw [if_neg h0, if_neg h1, if_neg h2, if_neg h3, if_neg h4, if_neg h5, if_pos h6]
    rw [e]; rcases revoke_way s with h | ⟨h, h7, h8, h9, h10⟩
    · exact .inl h
    · exact .inr ⟨h, h7, .inr (.inr (.inr (.inr (.inr (.inr (.inl ⟨h6, h8, h9, h10⟩))))))⟩
  · have h7 : x.what % 8 = 7 := by omega
    have e : doneS s x t = (s, validE s t) := by unfold doneS; rw [if_neg h0, if_neg h1, if_neg h2, if_neg h3, if_neg h4, if_neg h5, if_neg h6]
    rw [e]
    by_cases h : validE s t = 0
    · have := (valid_0 s t).1 h
      exact .inr ⟨h, this.1, .inr (.inr (.inr (.inr (.inr (.inr (.inr ⟨h7, this.2.1, this.2.2, rfl⟩))))))⟩
    · exact .inl ⟨h, rfl⟩
structure Ca.ok (x : Ca) : Prop where
  what : 0 ≤ x.what ∧ x.what < 256
  own : 0 ≤ x.own ∧ x.own < 4294967296
  to : 0 ≤ x.to ∧ x.to < 4294967296
  at_ : -9223372036854775808 ≤ x.at_ ∧ x.at_ ≤ 9223372036854775807
  which : 0 ≤ x.which ∧ x.which < 256
  t : x.t.ok
theorem done_ok {s : Se} {x : Ca} {t : Ti} (h : s.ok) (hx : x.ok) : (doneS s x t).1.ok := by
  have := h.ser
  have := h.ep
  have := h.own
  have := hx.own
  have := hx.to
  have := hx.at_
  unfold most at *
  rcases done_way s x t with ⟨_, e⟩ | ⟨_, hg, h1 | h1 | h1 | h1 | h1 | h1 | h1 | h1⟩
  · rw [e]; exact h
  · rw [h1.2.2.2]; refine ⟨?_, ?_, ?_, ?_, ?_⟩ <;> simp only [most] <;> omega
  · rw [h1.2.2.2]; refine ⟨?_, ?_, ?_, ?_, ?_⟩ <;> simp only [most, openS] <;> omega
  · rw [h1.2.2.2]; refine ⟨?_, ?_, ?_, ?_, ?_⟩ <;> simp only [most, openS] <;> omega
  · have := h1.2.2.2.1; unfold most at this; rw [h1.2.2.2.2]; refine ⟨?_, ?_, ?_, ?_, ?_⟩ <;> simp only [most] <;> omega
  · have := h1.2.2.2.1; unfold most at this; rw [h1.2.2.2.2]; refine ⟨?_, ?_, ?_, ?_, ?_⟩ <;> simp only [most] <;> omega
  · rw [h1.2.2.2]; refine ⟨?_, ?_, ?_, ?_, ?_⟩ <;> simp only [most, openS] <;> omega
  · have := h1.2.2.1; unfold most at this; rw [h1.2.2.2]; refine ⟨?_, ?_, ?_, ?_, ?_⟩ <;> simp only [most] <;> omega
  · rw [h1.2.2.2]; exact h
theorem done_good {s : Se} {x : Ca} {t : Ti} (h : good s) : good (doneS s x t).1 := by
  rcases done_way s x t with ⟨_, e⟩ | ⟨_, hg, h1 | h1 | h1 | h1 | h1 | h1 | h1 | h1⟩
  · rw [e]; exact h
  · rw [h1.2.2.2]; exact .inl ⟨rfl, h1.2.2.1⟩
  · rw [h1.2.2.2]; exact .inr (.inl ⟨rfl, rfl, rfl⟩)
  · rw [h1.2.2.2]; exact .inr (.inl ⟨rfl, rfl, rfl⟩)
  · rw [h1.2.2.2.2]; exact .inr (.inr ⟨rfl, rfl⟩)
  · rw [h1.2.2.2.2]; exact .inr (.inr ⟨rfl, rfl⟩)
  · rw [h1.2.2.2]; exact .inr (.inl ⟨rfl, rfl, rfl⟩)
  · rw [h1.2.2.2]; exact .inr (.inl ⟨rfl, rfl, rfl⟩)
  · rw [h1.2.2.2]; exact h
/-- the valid ticket of a seat that is sold -/
def tk (s : Se) : Ti := ⟨1, s.own, s.ser, s.ep⟩
def ticketsS (s : Se) (l : List Ti) : List Ti := if good s ∧ s.st = 2 then (if l.getLast? = some (tk s) then l else l ++ [tk s]) else l
/-- tickets of a seat, after a call: each with a serial of its own -/
structure Mid (s : Se) (l : List Ti) : Prop where
  up : l.Pairwise fun a b => a.ser < b.ser
  le : ∀ t ∈ l, t.ser ≤ s.ser
  last : s.st = 2 → l.getLast? = some (tk s) ∨ ∀ t ∈ l, t.ser < s.ser
structure Inv (s : Se) (l : List Ti) : Prop where
  up : l.Pairwise fun a b => a.ser < b.ser
  le : ∀ t ∈ l, t.ser ≤ s.ser
  last : s.st = 2 → l.getLast? = some (tk s)
theorem Mid.start (s : Se) : Mid s [] := ⟨List.Pairwise.nil, by simp, by simp⟩
theorem Inv.done {s : Se} {l : List Ti} (h : Inv s l) (x : Ca) (t : Ti) : Mid (doneS s x t).1 l := by
  have hs : ∀ n : Se, (s.ser ≤ n.ser) → (n.st = 2 → l.getLast? = some (tk n) ∨ s.ser < n.ser) → Mid n l := fun n h1 h2 =>
    ⟨h.up, fun t ht => Int.le_trans (h.le t ht) h1, fun h3 => (h2 h3).elim .inl (fun h4 => .inr fun t ht => Int.lt_of_le_of_lt (h.le t ht) h4)⟩
  rcases done_way s x t with ⟨_, e⟩ | ⟨_, hg, h1 | h1 | h1 | h1 | h1 | h1 | h1 | h1⟩
  · rw [e]; exact hs s (Int.le_refl _) (fun h2 => .inl (h.last h2))
  · rw [h1.2.2.2]; exact hs _ (Int.le_refl _) (by simp)
  · rw [h1.2.2.2]; exact hs _ (Int.le_refl _) (by simp [openS])
  · rw [h1.2.2.2]; exact hs _ (Int.le_refl _) (by simp [openS])
  · rw [h1.2.2.2.2]; exact hs _ (by simp only []; omega) (fun _ => .inr (by simp only []; omega))
  · rw [h1.2.2.2.2]; exact hs _ (by simp only []; omega) (fun _ => .inr (by simp only []; omega))
  · rw [h1.2.2.2]; exact hs _ (Int.le_refl _) (by simp [openS])
  · rw [h1.2.2.2]; exact hs _ (Int.le_refl _) (by simp)
  · rw [h1.2.2.2]; exact hs s (Int.le_refl _) (fun h2 => .inl (h.last h2))
theorem Mid.tick {s : Se} {l : List Ti} (h : Mid s l) (hg : good s) : Inv s (ticketsS s l) := by
  unfold ticketsS
  by_cases h2 : s.st = 2
  · rw [if_pos ⟨hg, h2⟩]
    split
    · rename_i h3; exact ⟨h.up, h.le, fun _ => h3⟩
    · rename_i h3
      have h4 := (h.last h2).resolve_left h3
      refine ⟨?_, ?_, ?_⟩
      · rw [List.pairwise_append]
        exact ⟨h.up, by simp, fun a ha b hb => by rw [List.mem_singleton] at hb; subst hb; exact h4 a ha⟩
      · intro t ht
        rcases List.mem_append.1 ht with ht | ht
        · exact h.le t ht
        · rw [List.mem_singleton] at ht; subst ht; exact Int.le_refl _
      · intro _; simp
  · rw [if_neg (fun h => h2 h.2)]
    exact ⟨h.up, h.le, fun h3 => absurd h3 h2⟩
theorem ticketsS_ok {s : Se} {l : List Ti} (hs : s.ok) (h : ∀ t ∈ l, t.ok) : ∀ t ∈ ticketsS s l, t.ok := by
  unfold ticketsS
  intro t ht
  split at ht
  · split at ht
    · exact h t ht
    · rcases List.mem_append.1 ht with ht | ht
      · exact h t ht
      · rw [List.mem_singleton] at ht; subst ht
        have := hs.own
        exact ⟨by simp [tk], hs.own, hs.ser, hs.ep⟩
  · exact h t ht
theorem ticketsS_len (s : Se) (l : List Ti) : (ticketsS s l).length ≤ l.length + 1 := by
  unfold ticketsS
  repeat' split
  all_goals simp
theorem ticketsS_ge (s : Se) (l : List Ti) : l.length ≤ (ticketsS s l).length := by
  unfold ticketsS
  repeat' split
  all_goals simp
/-- in a list whose serials rise, only the last one can be the seat's -/
theorem Mid.only {s : Se} {l : List Ti} (h : Mid s l) {k : Nat} (hk : k < l.length) (hv : validE s l[k] = 0) : k + 1 = l.length := by
  obtain ⟨hg, h2, h3, h4, h5⟩ := (valid_0 s _).1 hv
  rcases h.last h2 with h6 | h6
  · rcases Nat.lt_or_ge (k + 1) l.length with h7 | h7
    · exfalso
      have hl : l.length - 1 < l.length := by omega
      have h8 := List.pairwise_iff_getElem.1 h.up k (l.length - 1) hk hl (by omega)
      rw [List.getLast?_eq_getElem?, List.getElem?_eq_getElem hl] at h6
      have h9 : l[l.length - 1] = tk s := by simpa using h6
      rw [h9] at h8
      unfold tk at h8
      simp only [] at h8
      omega
    · omega
  · have := h6 _ (List.getElem_mem hk); omega
theorem Inv.mid {s : Se} {l : List Ti} (h : Inv s l) : Mid s l := ⟨h.up, h.le, fun h2 => .inl (h.last h2)⟩
theorem Inv.lastV {s : Se} {l : List Ti} (h : Inv s l) (hg : good s) (h2 : s.st = 2) {k : Nat} (hk : k < l.length) (he : k + 1 = l.length) : validE s l[k] = 0 := by
  have h6 := h.last h2
  have e : l.length - 1 = k := by omega
  rw [List.getLast?_eq_getElem?, e, List.getElem?_eq_getElem hk] at h6
  have h9 : l[k] = tk s := by simpa using h6
  rw [h9]
  exact (valid_0 s _).2 ⟨hg, h2, rfl, rfl, rfl⟩
theorem Inv.pos {s : Se} {l : List Ti} (h : Inv s l) (h2 : s.st = 2) : 0 < l.length := by
  have h6 := h.last h2
  rcases l with _ | ⟨a, r⟩
  · cases h6
  · simp
/-- how many of the first k are valid -/
def vc (s : Se) (l : List Ti) (k : Nat) : Int := if k = l.length ∧ good s ∧ s.st = 2 then 1 else 0
theorem vc_0 {s : Se} {l : List Ti} (h : Inv s l) : vc s l 0 = 0 := by
  unfold vc
  rw [if_neg]
  rintro ⟨h1, h2, h3⟩
  have := h.pos h3
  omega
theorem vc_succ {s : Se} {l : List Ti} (h : Inv s l) {k : Nat} (hk : k < l.length) : vc s l (k + 1) = if validE s l[k] = 0 then 1 else 0 := by
  unfold vc
  by_cases hv : validE s l[k] = 0
  · have h1 := h.mid.only hk hv
    have h2 := (valid_0 s _).1 hv
    rw [if_pos hv, if_pos ⟨h1, h2.1, h2.2.1⟩]
  · rw [if_neg hv, if_neg]
    rintro ⟨h1, h2, h3⟩
    exact hv (h.lastV h2 h3 hk h1)
theorem vc_lt {s : Se} {l : List Ti} {k : Nat} (hk : k < l.length) : vc s l k = 0 := by
  unfold vc
  rw [if_neg]
  rintro ⟨h1, _⟩
  omega
theorem vc_all {s : Se} {l : List Ti} (hg : good s) : vc s l l.length = if s.st = 2 then 1 else 0 := by
  unfold vc
  by_cases h2 : s.st = 2
  · rw [if_pos ⟨rfl, hg, h2⟩, if_pos h2]
  · rw [if_neg (fun h => h2 h.2.2), if_neg h2]
/-- those that are marked were not valid -/
structure Dead (s : Se) (l : List Ti) (d : List Bool) : Prop where
  len : d.length = 102
  old : ∀ k, d.getD k false = true → k + 1 < l.length ∨ (k + 1 = l.length ∧ s.st ≠ 2)
theorem Dead.start (s : Se) (l : List Ti) : Dead s l (List.replicate 102 false) := ⟨by simp, fun k h => by
  rw [List.getD_eq_getElem?_getD, List.getElem?_replicate] at h
  split at h <;> simp at h⟩
/-- none that is marked is valid again -/
theorem Dead.never {s : Se} {l : List Ti} {d : List Bool} (h : Dead s l d) (hi : Inv s l) (x : Ca) (t : Ti) {k : Nat} (hk : k < l.length) (hd : d.getD k false = true) : validE (doneS s x t).1 l[k] ≠ 0 := by
  intro hv
  have hm := hi.done x t
  have h1 := hm.only hk hv
  have h2 : s.st ≠ 2 := by rcases h.old k hd with h3 | h3 <;> omega
  obtain ⟨hg, h3, h4, h5, h6⟩ := (valid_0 _ _).1 hv
  have h7 := hi.le _ (List.getElem_mem hk)
  rcases done_way s x t with ⟨_, e⟩ | ⟨_, hg', h8 | h8 | h8 | h8 | h8 | h8 | h8 | h8⟩
  · rw [e] at h3; exact h2 h3
  · rw [h8.2.2.2] at h3; simp at h3
  · rw [h8.2.2.2] at h3; simp [openS] at h3
  · rw [h8.2.2.2] at h3; simp [openS] at h3
  · rw [h8.2.2.2.2] at h5; simp only [] at h5; omega
  · exact h2 h8.2.1
  · exact h2 h8.2.1
  · exact h2 h8.2.1
  · exact h2 h8.2.1
/-- the marks of the first k are those of the new seat -/
structure Marks (s n : Se) (l : List Ti) (k : Nat) (d : List Bool) : Prop where
  len : d.length = 102
  new : ∀ j (hj : j < l.length), j < k → d.getD j false = !decide (validE n l[j] = 0)
  old : ∀ j, k ≤ j → d.getD j false = true → j + 1 < l.length ∨ (j + 1 = l.length ∧ s.st ≠ 2)
theorem Dead.marks {s : Se} {l : List Ti} {d : List Bool} (h : Dead s l d) (n : Se) : Marks s n l 0 d := ⟨h.len, fun j _ h => absurd h (Nat.not_lt_zero _), fun j _ => h.old j⟩
theorem bgetD_set (l : List Bool) (i j : Nat) (x : Bool) (hi : i < l.length) : (l.set i x).getD j false = if j = i then x else l.getD j false := by
  simp only [List.getD_eq_getElem?_getD, List.getElem?_set]
  by_cases h : i = j
  · subst h; simp [hi]
  · have h' : ¬ j = i := fun e => h e.symm
    simp [h, h']
theorem Marks.step {s n : Se} {l : List Ti} {k : Nat} {d : List Bool} (h : Marks s n l k d) (hk : k < l.length) (h102 : k < 102) : Marks s n l (k + 1) (d.set k (!decide (validE n l[k] = 0))) := by
  refine ⟨by simp [h.len], fun j hj hjk => ?_, fun j hjk hd => ?_⟩
  · rw [bgetD_set _ _ _ _ (by rw [h.len]; omega)]
    by_cases e : j = k
    · subst e; rw [if_pos rfl]
    · rw [if_neg e]; exact h.new j hj (by omega)
  · rw [bgetD_set _ _ _ _ (by rw [h.len]; omega), if_neg (by omega)] at hd
    exact h.old j (by omega) hd
theorem Marks.dead {s n : Se} {l : List Ti} {d : List Bool} (h : Marks s n l l.length d) (hm : Mid n l) (hg : good n) : Dead n (ticketsS n l) d := by
  refine ⟨h.len, fun k hd => ?_⟩
  have hk : k < l.length := by
    rcases Nat.lt_or_ge k l.length with h1 | h1
    · exact h1
    · have := h.old k h1 hd; omega
  rw [h.new k hk hk] at hd
  have hv : validE n l[k] ≠ 0 := by simpa using hd
  unfold ticketsS
  by_cases h2 : n.st = 2
  · rw [if_pos ⟨hg, h2⟩]
    split
    · rename_i h3
      rcases Nat.lt_or_ge (k + 1) l.length with h4 | h4
      · exact .inl h4
      · exact absurd ((⟨hm.up, hm.le, fun _ => h3⟩ : Inv n l).lastV hg h2 hk (by omega)) hv
    · simp only [List.length_append, List.length_singleton]; omega
  · rw [if_neg (fun h => h2 h.2)]
    rcases Nat.lt_or_ge (k + 1) l.length with h4 | h4
    · exact .inl h4
    · exact .inr ⟨by omega, h2⟩
end Go.Seat
