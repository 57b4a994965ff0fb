/- Put, Get and the references for whatever width and number (of at most 1000 bytes). -/
import Derived.Test.YteebnoegeoenbaaPut
import Derived.Test.YteebnoegeoenbaaGet
namespace Go.Proofs.Yteebnoegeoenbaa
open Go.RowKit Go.Gr
set_option linter.unusedVariables false
def putE (n wd : Int) : Int := if wd < 1 ∨ 8 < wd ∨ 256 ^ wd.toNat ≤ n then 7 else 0
def putB (l : List Int) (n wd : Int) : List Int := if putE n wd = 0 then l ++ be wd.toNat n else []
def getE (l : List Int) (wd : Int) : Int := if wd < 1 ∨ 8 < wd then 7 else if (l.length : Int) < wd then 10 else 0
def getN (l : List Int) (wd : Int) : Int := if getE l wd = 0 then bev (l.take wd.toNat) else 0
def getR (l : List Int) (wd : Int) : List Int := if getE l wd = 0 then l.drop wd.toNat else []
theorem put_out (A : Option Addr) (c : Nat) (l : List Int) (n wd : Int) (w : World) (h : wd < 1 ∨ 8 < wd) :
    Calls Try.prog 12 #[.slice A l.length c, .int .u64 n, .int .i64 wd] w fun e w' => e = .returned (.tuple #[.slice none 0 0, .int .i64 7]) ∧ w = w' := by
  rcases h with h | h
  all_goals
    go_enter Try.func12, Try.ntmps12
    go_wp2
    go_ret2
    exact ⟨rfl, rfl⟩
theorem rput_out (A : Option Addr) (c : Nat) (l : List Int) (n wd : Int) (w : World) (h : wd < 1 ∨ 8 < wd) :
    Calls Try.prog 26 #[.slice A l.length c, .int .u64 n, .int .i64 wd] w fun e w' => e = .returned (.tuple #[.slice none 0 0, .int .i64 7]) ∧ w = w' := by
  rcases h with h | h
  all_goals
    go_enter Try.func26, Try.ntmps26
    go_wp2
    go_ret2
    exact ⟨rfl, rfl⟩
set_option maxHeartbeats 400000 in
theorem put_big (A : Option Addr) (c : Nat) (l : List Int) (n : Int) (k : Nat) (w : World) (hk1 : 1 ≤ k) (hk : k ≤ 8) (h1 : 256 ^ k ≤ n) (h2 : n < 18446744073709551616) :
    Calls Try.prog 12 #[.slice A l.length c, .int .u64 n, .int .i64 k] w fun e w' => e = .returned (.tuple #[.slice none 0 0, .int .i64 7]) ∧ w = w' := by
  rcases (show k = 1 ∨ k = 2 ∨ k = 3 ∨ k = 4 ∨ k = 5 ∨ k = 6 ∨ k = 7 ∨ k = 8 by omega) with rfl | rfl | rfl | rfl | rfl | rfl | rfl | rfl
  all_goals
    simp only [Int.reducePow] at h1
    first
      | (exfalso; omega)
      | (clear hk1 hk
         go_enter Try.func12, Try.ntmps12
         go_wp2_with (go_at_call 41; refine (top_any _ _ (by omega) (by omega)).mono ?_; rintro e w1 ⟨rfl, rfl⟩)
         go_ret2
         exact ⟨rfl, rfl⟩)
theorem rput_big (A : Option Addr) (c : Nat) (l : List Int) (n : Int) (k : Nat) (w : World) (hk1 : 1 ≤ k) (hk : k ≤ 8) (h1 : 256 ^ k ≤ n) (h2 : n < 18446744073709551616) :
    Calls Try.prog 26 #[.slice A l.length c, .int .u64 n, .int .i64 k] w fun e w' => e = .returned (.tuple #[.slice none 0 0, .int .i64 7]) ∧ w = w' := by
  rw [← pow_28] at h1
  have HN := hide h1
  have h0 : 0 ≤ n := by have := pow_pos2 (8 * k); omega
  clear h1
  go_enter Try.func26, Try.ntmps26
  go_wp2_with (go_at_call 42; refine (below_n _ _ _ (8 * k) ?_ ?_ ?_ ?_ HN.out).mono ?_ <;> (try omega); rintro e w1 ⟨rfl, rfl⟩)
  go_ret2
  exact ⟨rfl, rfl⟩
/-- bytes of the call's own, and an error -/
def RetB (w : World) (l : List Int) (er : Int) (e : Ending) (w' : World) : Prop := ∃ v, e = .returned (.tuple #[v, .int .i64 er]) ∧ Own w.heap.size w' 5 v (byt l) ∧ Ext w w'
theorem putE_bad {l : List Int} {n wd : Int} (h : wd < 1 ∨ 8 < wd ∨ 256 ^ wd.toNat ≤ n) : putE n wd = 7 ∧ putB l n wd = [] := by
  have e : putE n wd = 7 := by rw [putE, if_pos h]
  exact ⟨e, by rw [putB, e, if_neg (by decide)]⟩
theorem putE_ok {l : List Int} {n wd : Int} (h : ¬ (wd < 1 ∨ 8 < wd ∨ 256 ^ wd.toNat ≤ n)) : putE n wd = 0 ∧ putB l n wd = l ++ be wd.toNat n := by
  have e : putE n wd = 0 := by rw [putE, if_neg h]
  exact ⟨e, by rw [putB, if_pos e]⟩
theorem RetB.bad {w : World} {l : List Int} {n wd : Int} (h : wd < 1 ∨ 8 < wd ∨ 256 ^ wd.toNat ≤ n) {e : Ending} {w' : World} (h1 : e = .returned (.tuple #[.slice none 0 0, .int .i64 7]) ∧ w = w') : RetB w (putB l n wd) (putE n wd) e w' := by
  obtain ⟨rfl, rfl⟩ := h1
  have := putE_bad (l := l) h
  exact ⟨_, by rw [this.1], by rw [this.2]; exact Own.nil _ _ _, Ext.refl _⟩
theorem put_any (A : Option Addr) (c : Nat) (l : List Int) (n wd : Int) (w : World) (hr : Rd w A (byt l)) (hl : l.length ≤ 1000) (h0 : 0 ≤ n) (h1 : n < 18446744073709551616) :
    Calls Try.prog 12 #[.slice A l.length c, .int .u64 n, .int .i64 wd] w (RetB w (putB l n wd) (putE n wd)) := by
  by_cases hw : wd < 1 ∨ 8 < wd
  · exact (put_out A c l n wd w hw).mono fun e w' h => RetB.bad (by omega) h
  · obtain ⟨k, rfl⟩ := Int.eq_ofNat_of_zero_le (show 0 ≤ wd by omega)
    by_cases hn : 256 ^ k ≤ n
    · exact (put_big A c l n k w (by omega) (by omega) hn h1).mono fun e w' h => RetB.bad (.inr (.inr (by simpa using hn))) h
    · refine (put_ok A c l n k w hr hl h0 (by omega) (by omega) (by omega)).mono fun e w' ⟨v, he, ho, hx⟩ => ?_
      have := putE_ok (l := l) (n := n) (wd := k) (by rw [Int.toNat_natCast]; omega)
      rw [Int.toNat_natCast] at this
      exact ⟨v, by rw [he, this.1], by rw [this.2]; exact ho, hx⟩
theorem rput_any (A : Option Addr) (c : Nat) (l : List Int) (n wd : Int) (w : World) (hr : Rd w A (byt l)) (hl : l.length ≤ 1000) (h0 : 0 ≤ n) (h1 : n < 18446744073709551616) :
    Calls Try.prog 26 #[.slice A l.length c, .int .u64 n, .int .i64 wd] w (RetB w (putB l n wd) (putE n wd)) := by
  by_cases hw : wd < 1 ∨ 8 < wd
  · exact (rput_out A c l n wd w hw).mono fun e w' h => RetB.bad (by omega) h
  · obtain ⟨k, rfl⟩ := Int.eq_ofNat_of_zero_le (show 0 ≤ wd by omega)
    by_cases hn : 256 ^ k ≤ n
    · exact (rput_big A c l n k w (by omega) (by omega) hn h1).mono fun e w' h => RetB.bad (.inr (.inr (by simpa using hn))) h
    · refine (rput_ok A c l n k w hr hl h0 h1 (by omega) (by omega) (by rw [pow_28]; omega)).mono fun e w' ⟨v, he, ho, hx⟩ => ?_
      have := putE_ok (l := l) (n := n) (wd := k) (by rw [Int.toNat_natCast]; omega)
      rw [Int.toNat_natCast] at this
      exact ⟨v, by rw [he, this.1], by rw [this.2]; exact ho, hx⟩
theorem get_err {w : World} {l : List Int} {wd er : Int} (h : getE l wd = er) (hne : er ≠ 0) : RetN w (getN l wd) (getR l wd) (getE l wd) (.returned (.tuple #[.int .u64 0, .slice none 0 0, .int .i64 er])) w := by
  have e1 : getN l wd = 0 := by rw [getN, h, if_neg hne]
  have e2 : getR l wd = [] := by rw [getR, h, if_neg hne]
  exact ⟨none, 0, by rw [h, e1, e2]; rfl, by rw [e2]; exact Rd.nil _ _, Ext.refl _⟩
theorem get_any (A : Option Addr) (c : Nat) (l : List Int) (wd : Int) (w : World) (hr : Rd w A (byt l)) (hb : isB l) (hl : l.length ≤ 1000) (hc : l.length ≤ c) :
    Calls Try.prog 27 #[.slice A l.length c, .int .i64 wd] w (RetN w (getN l wd) (getR l wd) (getE l wd)) := by
  by_cases hw : wd < 1 ∨ 8 < wd
  · have HG := hide (get_err (w := w) (l := l) (wd := wd) (er := 7) (by rw [getE, if_pos hw]) (by decide))
    clear hr hb
    rcases hw with h | h
    all_goals
      go_enter Try.func27, Try.ntmps27
      go_wp2
      go_ret3
      exact HG.out
  · by_cases hs : (l.length : Int) < wd
    · have HG := hide (get_err (w := w) (l := l) (wd := wd) (er := 10) (by rw [getE, if_neg hw, if_pos hs]) (by decide))
      have hw1 : 1 ≤ wd := by omega
      have hw2 : wd ≤ 8 := by omega
      clear hr hb hw
      go_enter Try.func27, Try.ntmps27
      go_wp2
      go_ret3
      exact HG.out
    · obtain ⟨k, rfl⟩ := Int.eq_ofNat_of_zero_le (show 0 ≤ wd by omega)
      have h0 : getE l k = 0 := by rw [getE, if_neg hw, if_neg hs]
      have := get_ok A c l k w hr hb hl hc (by omega) (by omega) (by omega)
      rw [getN, if_pos h0, getR, if_pos h0, h0, Int.toNat_natCast]
      exact this
theorem rget_any (A : Option Addr) (c : Nat) (l : List Int) (wd : Int) (w : World) (hr : Rd w A (byt l)) (hb : isB l) (hl : l.length ≤ 1000) (hc : l.length ≤ c) :
    Calls Try.prog 28 #[.slice A l.length c, .int .i64 wd] w (RetN w (getN l wd) (getR l wd) (getE l wd)) := by
  by_cases hw : wd < 1 ∨ 8 < wd
  · have HG := hide (get_err (w := w) (l := l) (wd := wd) (er := 7) (by rw [getE, if_pos hw]) (by decide))
    clear hr hb
    rcases hw with h | h
    all_goals
      go_enter Try.func28, Try.ntmps28
      go_wp2
      go_ret3
      exact HG.out
  · by_cases hs : (l.length : Int) < wd
    · have HG := hide (get_err (w := w) (l := l) (wd := wd) (er := 10) (by rw [getE, if_neg hw, if_pos hs]) (by decide))
      have hw1 : 1 ≤ wd := by omega
      have hw2 : wd ≤ 8 := by omega
      clear hr hb hw
      go_enter Try.func28, Try.ntmps28
      go_wp2
      go_ret3
      exact HG.out
    · obtain ⟨k, rfl⟩ := Int.eq_ofNat_of_zero_le (show 0 ≤ wd by omega)
      have h0 : getE l k = 0 := by rw [getE, if_neg hw, if_neg hs]
      have := rget_ok A c l k w hr hb hl hc (by omega) (by omega) (by omega)
      rw [getN, if_pos h0, getR, if_pos h0, h0, Int.toNat_natCast]
      exact this
end Go.Proofs.Yteebnoegeoenbaa
