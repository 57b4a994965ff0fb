/- What is written is read, and what is read is written. Plain Lean. -/
import Derived.Test.YteebnoegeoenbaaO1
namespace Go.Proofs.Yteebnoegeoenbaa
open Go.RowKit Go.Gr
set_option linter.unusedVariables false
theorem be_bev : ∀ (k : Nat) (l : List Int), l.length = k → isB l → be k (bev l) = l := by
  intro k
  induction k with
  | zero => intro l hl _; rw [List.eq_nil_of_length_eq_zero hl]; rfl
  | succ k ih =>
    intro l hl hb
    have hne : l ≠ [] := by intro h; subst h; simp at hl
    obtain ⟨r, x, rfl⟩ : ∃ r x, l = r ++ [x] := ⟨l.dropLast, l.getLast hne, (List.dropLast_concat_getLast hne).symm⟩
    have hx := hb x (by simp)
    have hr := ih r (by simpa using hl) (fun y hy => hb y (by simp [hy]))
    rw [bev_snoc, be, show (256 * bev r + x) / 256 = bev r by omega, hr, show (256 * bev r + x) % 256 = x by omega]
theorem get_some {l : List Int} {k : Nat} (h1 : 1 ≤ k) (h8 : k ≤ 8) (hl : k ≤ l.length) : getE l k = 0 ∧ getN l k = bev (l.take k) ∧ getR l k = l.drop k := by
  have h : getE l k = 0 := by rw [getE, if_neg (by omega), if_neg (by omega)]
  exact ⟨h, by rw [getN, if_pos h]; rfl, by rw [getR, if_pos h]; rfl⟩
theorem get_none {l : List Int} {k : Nat} (h1 : 1 ≤ k) (h8 : k ≤ 8) (hl : l.length < k) : getE l k = 10 ∧ getN l k = 0 ∧ getR l k = [] := by
  have h : getE l k = 10 := by rw [getE, if_neg (by omega), if_pos (by omega)]
  exact ⟨h, by rw [getN, h]; rfl, by rw [getR, h]; rfl⟩
theorem put_read {l : List Int} {k : Nat} (hb : isB l) (h1 : 1 ≤ k) (h8 : k ≤ 8) (hl : k ≤ l.length) :
    0 ≤ bev (l.take k) ∧ bev (l.take k) < 18446744073709551616 ∧ putE (bev (l.take k)) k = 0 ∧ putB [] (bev (l.take k)) k = l.take k := by
  have hbt : isB (l.take k) := fun x hx => hb x (List.mem_of_mem_take hx)
  have hlen : (l.take k).length = k := by rw [List.length_take]; omega
  have hbd := bev_bound k (l.take k) hlen hbt
  have hp : (256 : Int) ^ k ≤ 256 ^ 8 := pow_le256 h8
  have h0 := putE_ok (l := []) (n := bev (l.take k)) (wd := (k : Int)) (by rw [Int.toNat_natCast]; omega)
  refine ⟨hbd.1, Int.lt_of_lt_of_le hbd.2 hp, h0.1, ?_⟩
  rw [h0.2, Int.toNat_natCast, be_bev k _ hlen hbt]; rfl
theorem get_put {l : List Int} {k : Nat} {n : Int} (h1 : 1 ≤ k) (h8 : k ≤ 8) (h0 : 0 ≤ n) (h : putE n k = 0) :
    putB [] n k = be k n ∧ (be k n).length = k ∧ getE (be k n ++ l) k = 0 ∧ getN (be k n ++ l) k = n ∧ getR (be k n ++ l) k = l := by
  obtain ⟨h2, h3⟩ := put_good h0 h
  have hl := be_length k n
  obtain ⟨a, b, c⟩ := get_some (l := be k n ++ l) h1 h8 (by simp [hl])
  refine ⟨h3, hl, a, ?_, ?_⟩
  · rw [b, List.take_left' hl, bev_be k n h0 h2]
  · rw [c, List.drop_left' hl]
theorem str_append (a b : List Int) : strOfNums a ++ strOfNums b = strOfNums (a ++ b) := by
  have h : ∀ x y : ByteArray, x.data = y.data → x = y := fun x y h => by cases x; cases y; simp at h; rw [h]
  apply h
  simp [strOfNums]
/-! ### numbers of variable length -/
theorem lead_split : ∀ (k : Nat) (l : List Int) (m : Nat), lead k l = m → m < k → (hm : m < l.length) → (∀ y ∈ l.take m, 128 ≤ y) ∧ l[m] < 128
  | 0, l, m, _, h, _ => absurd h (by omega)
  | k + 1, [], m, _, _, hm => absurd hm (by simp)
  | k + 1, x :: r, m, h, hk, hm => by
    rw [lead] at h
    split at h
    · rename_i hx
      obtain ⟨j, rfl⟩ : ∃ j, m = j + 1 := ⟨m - 1, by omega⟩
      have := lead_split k r j (by omega) (by omega) (by simpa using hm)
      refine ⟨fun y hy => ?_, by simpa using this.2⟩
      rw [List.take_succ_cons, List.mem_cons] at hy
      rcases hy with rfl | hy
      · exact hx
      · exact this.1 y hy
    · subst h
      refine ⟨by simp, ?_⟩
      simp; omega
theorem lead_of (init : List Int) : ∀ (k : Nat) (x : Int) (r : List Int), (∀ y ∈ init, 128 ≤ y) → x < 128 → init.length < k → lead k (init ++ x :: r) = init.length := by
  induction init with
  | nil =>
    intro k x r _ hx hk
    obtain ⟨q, rfl⟩ : ∃ q, k = q + 1 := ⟨k - 1, by simp at hk; omega⟩
    rw [List.nil_append, lead, if_neg (by omega)]; rfl
  | cons y init ih =>
    intro k x r hi hx hk
    obtain ⟨q, rfl⟩ : ∃ q, k = q + 1 := ⟨k - 1, by simp at hk; omega⟩
    have := ih q x r (fun z hz => hi z (by simp [hz])) hx (by simpa using hk)
    rw [List.cons_append, lead, if_pos (hi y (by simp)), this]; rfl
theorem vval_pos : ∀ (init : List Int) (x : Int), 1 ≤ x → x < 128 → 1 ≤ vval (init ++ [x])
  | [], x, h1, h2 => by simp [vval]; omega
  | y :: init, x, h1, h2 => by
    have := vval_pos init x h1 h2
    rw [List.cons_append, vval]; omega
theorem vbF_vval (init : List Int) : ∀ (k : Nat) (x : Int), (∀ y ∈ init, 128 ≤ y ∧ y < 256) → 0 ≤ x → x < 128 → (init ≠ [] → 1 ≤ x) → init.length ≤ k → vbF (k + 1) (vval (init ++ [x])) = init ++ [x] := by
  induction init with
  | nil =>
    intro k x _ h0 h1 _ _
    have : vval ([] ++ [x]) = x := by simp [vval]; omega
    rw [this, vbF, if_pos h1]; rfl
  | cons y init ih =>
    intro k x hi h0 h1 hp hk
    obtain ⟨q, rfl⟩ : ∃ q, k = q + 1 := ⟨k - 1, by simp at hk; omega⟩
    have hy := hi y (by simp)
    have hx := hp (by simp)
    have ih := ih q x (fun z hz => hi z (by simp [hz])) h0 h1 (fun _ => hx) (by simpa using hk)
    have hv := vval_pos init x hx h1
    have e : vval (y :: init ++ [x]) = y % 128 + 128 * vval (init ++ [x]) := rfl
    rw [e, vbF, if_neg (by omega), show (y % 128 + 128 * vval (init ++ [x])) / 128 = vval (init ++ [x]) by omega, ih]
    simp; omega
/-- what is read is written for what it was read as -/
theorem vb_read {l : List Int} (hb : isB l) (h : gvE l = 0) : 0 ≤ gvN l ∧ gvN l < 18446744073709551616 ∧ vb (gvN l) ++ gvR l = l := by
  have hle := lead_le 10 l
  have hn : gvN l = vval (l.take (vlast l + 1)) := by rw [gvN, if_pos h]
  have hr : gvR l = l.drop (vlast l + 1) := by rw [gvR, if_pos h]
  obtain ⟨m, hm⟩ : ∃ m, vlast l = m := ⟨_, rfl⟩
  have hm' : lead 10 l = m := hm
  rw [gvE, hm] at h
  rw [hm] at hn hr
  split at h
  · cases h
  · rename_i c1
    split at h
    · cases h
    · rename_i c2
      split at h
      · cases h
      · rename_i c3
        have hml : m < l.length := by omega
        have hm10 : m < 10 := by omega
        obtain ⟨s1, s2⟩ := lead_split 10 l m hm' hm10 hml
        have ht : l.take (m + 1) = l.take m ++ [l[m]] := take_snoc l m hml
        have hxb := hb l[m] (List.getElem_mem _)
        have hg : l.getD m 0 = l[m] := by simp [hml]
        rw [hg] at c3
        have hlen : (l.take m).length = m := by rw [List.length_take]; omega
        have hx1 : l.take m ≠ [] → 1 ≤ l[m] := fun hne => by
          have : 0 < m := by
            rcases Nat.eq_zero_or_pos m with h0 | h0
            · subst h0; simp at hne
            · exact h0
          have : l[m] ≠ 0 := fun e => c3 ⟨this, e⟩
          omega
        have hv := vbF_vval (l.take m) 9 l[m] (fun y hy => ⟨s1 y hy, (hb y (List.mem_of_mem_take hy)).2⟩) hxb.1 s2 hx1 (by omega)
        have hbd := vval_bound (l.take (m + 1))
        refine ⟨by rw [hn]; exact hbd.1, ?_, ?_⟩
        · rw [hn, ht, vval_snoc, hlen]
          have hb2 := vval_bound (l.take m)
          rw [hlen] at hb2
          by_cases h9 : m = 9
          · subst h9
            have hle1 : l[9] ≤ 1 := by
              rcases Int.lt_or_le 1 l[9] with h1 | h1
              · exact absurd (.inr ⟨rfl, by rw [hg]; exact h1⟩) c2
              · exact h1
            have p9 : (128 : Int) ^ 9 = 9223372036854775808 := rfl
            rw [p9] at hb2 ⊢
            omega
          · have hmm : m ≤ 8 := by omega
            have hp : (128 : Int) ^ m ≤ 72057594037927936 := by
              have : ∀ j, j < 9 → (128 : Int) ^ j ≤ 72057594037927936 := by decide +kernel
              exact this m (by omega)
            have h1 : 0 ≤ l[m] % 128 ∧ l[m] % 128 < 128 := by omega
            have h2 : (128 : Int) ^ m * (l[m] % 128) ≤ 72057594037927936 * 127 := by
              have h3 := Int.mul_le_mul_of_nonneg_right hp h1.1
              omega
            omega
        · rw [hn, hr, ht, vb, hv, ← ht, List.take_append_drop]
theorem vbF_form : ∀ (k : Nat) (n : Int), 0 ≤ n → n < 128 ^ (k + 1) → ∃ (init : List Int) (x : Int), vbF (k + 1) n = init ++ [x] ∧ init.length ≤ k ∧ (∀ y ∈ init, 128 ≤ y ∧ y < 256) ∧ 0 ≤ x ∧ x < 128 ∧ (init ≠ [] → 1 ≤ x) ∧ x * 128 ^ init.length ≤ n ∧ vval (init ++ [x]) = n
  | 0, n, h0, h1 => by
    refine ⟨[], n, by rw [vbF, if_pos (by simpa using h1)]; rfl, by simp, by simp, h0, by simpa using h1, by simp, by simp, ?_⟩
    simp at h1; simp [vval]; omega
  | k + 1, n, h0, h1 => by
    by_cases h : n < 128
    · refine ⟨[], n, by rw [vbF, if_pos h]; rfl, by simp, by simp, h0, h, by simp, by simp, ?_⟩
      simp [vval]; omega
    · have hp : (128 : Int) ^ (k + 1 + 1) = 128 ^ (k + 1) * 128 := Int.pow_succ _ _
      obtain ⟨init, x, e, hl, hi, hx0, hx1, hxp, hxn, hv⟩ := vbF_form k (n / 128) (by omega) (by omega)
      refine ⟨(128 + n % 128) :: init, x, by rw [vbF, if_neg h, e]; rfl, by simp; omega, ?_, hx0, hx1, fun _ => ?_, ?_, ?_⟩
      · intro y hy
        rcases List.mem_cons.1 hy with rfl | hy
        · omega
        · exact hi y hy
      · rcases init with _ | ⟨y, init⟩
        · simp [vval] at hv; omega
        · exact hxp (by simp)
      · rw [List.length_cons, Int.pow_succ, ← Int.mul_assoc]; omega
      · rw [List.cons_append, vval, hv]; omega
/-- what is written is read as this number, with what is behind it -/
theorem vb_back {n : Int} {r : List Int} (h0 : 0 ≤ n) (h1 : n < 18446744073709551616) : gvE (vb n ++ r) = 0 ∧ gvN (vb n ++ r) = n ∧ gvR (vb n ++ r) = r := by
  have p10 : (128 : Int) ^ (9 + 1) = 1180591620717411303424 := rfl
  obtain ⟨init, x, e, hl, hi, hx0, hx1, hxp, hxn, hv⟩ := vbF_form 9 n h0 (by rw [p10]; omega)
  have ev : vb n ++ r = init ++ x :: r := by rw [vb, e]; simp
  have hlast : vlast (vb n ++ r) = init.length := by rw [ev]; exact lead_of init 10 x r (fun y hy => (hi y hy).1) hx1 (by omega)
  have hlen : (vb n ++ r).length = init.length + 1 + r.length := by rw [ev]; simp; omega
  have hget : ∀ d : Int, (vb n ++ r).getD init.length d = x := fun d => by rw [ev]; simp
  have hE : gvE (vb n ++ r) = 0 := by
    rw [gvE, hlast, hlen, if_neg (by omega), if_neg, if_neg]
    · rintro ⟨hp, hz⟩
      rw [hget] at hz
      have := hxp (by intro h; rw [h] at hp; simp at hp)
      omega
    · rintro (h | ⟨h, h2⟩)
      · omega
      · rw [← h, hget] at h2
        rw [h] at hxn
        have p9 : (128 : Int) ^ 9 = 9223372036854775808 := rfl
        rw [p9] at hxn
        omega
  have ht : (vb n ++ r).take (init.length + 1) = init ++ [x] := by
    rw [ev, show init ++ x :: r = (init ++ [x]) ++ r by simp]
    exact List.take_left' (by simp)
  have hd : (vb n ++ r).drop (init.length + 1) = r := by
    rw [ev, show init ++ x :: r = (init ++ [x]) ++ r by simp]
    exact List.drop_left' (by simp)
  exact ⟨hE, by rw [gvN, if_pos hE, hlast, ht, hv], by rw [gvR, if_pos hE, hlast, hd]⟩
theorem zag_zig (n : Int) : zag (zig n) = n := by
  unfold zig zag
  split <;> split <;> omega
theorem zig_zag (u : Int) (h : 0 ≤ u) : zig (zag u) = u := by
  unfold zig zag
  split <;> split <;> omega
theorem zig_bd (n : Int) (h1 : -9223372036854775808 ≤ n) (h2 : n ≤ 9223372036854775807) : 0 ≤ zig n ∧ zig n < 18446744073709551616 := by
  unfold zig; split <;> omega
theorem zag_bd (u : Int) (h1 : 0 ≤ u) (h2 : u < 18446744073709551616) : -9223372036854775808 ≤ zag u ∧ zag u ≤ 9223372036854775807 := by
  unfold zag; split <;> omega
theorem pow_half (b : Int) (h : 1 ≤ b) : (2 : Int) ^ b.toNat = 2 * 2 ^ (b.toNat - 1) := pow_succ' b.toNat (by omega)
theorem pow63 (b : Int) (h : 1 ≤ b) (h2 : b ≤ 64) : (2 : Int) ^ (b.toNat - 1) ≤ 9223372036854775808 := by
  have : ∀ j, j < 64 → (2 : Int) ^ j ≤ 9223372036854775808 := by decide +kernel
  exact this _ (by omega)
theorem fit_two (n b : Int) (s : Bool) : fitE n b s = 7 ∨ fitE n b s = 0 := by unfold fitE; split <;> (try split) <;> (try split) <;> simp
theorem wid_two (n b : Int) (s : Bool) : widE n b s = 7 ∨ widE n b s = 0 := by unfold widE; split <;> (try split) <;> (try split) <;> simp
theorem wid_fit {n b : Int} {s : Bool} (h1 : -9223372036854775808 ≤ n) (h2 : n ≤ 9223372036854775807) (h : fitE n b s = 0) : 0 ≤ fitV n b s ∧ fitV n b s < 18446744073709551616 ∧ widE (fitV n b s) b s = 0 ∧ widV (fitV n b s) b s = n := by
  have hb : 1 ≤ b ∧ b ≤ 64 := by
    rw [fitE] at h
    split at h
    · cases h
    · omega
  have hp := pow_half b hb.1
  have hq := pow63 b hb.1 hb.2
  have hpos := pow_pos2 (b.toNat - 1)
  have hv : fitV n b s = if n < 0 then n + 2 ^ b.toNat else n := by rw [fitV, if_pos h]
  rw [fitE, if_neg (by omega)] at h
  rw [hv]
  have hE : ∀ v, 0 ≤ v → v < 2 ^ b.toNat → (s = true ∨ v ≤ 9223372036854775807) → widE v b s = 0 := fun v a c d => by
    rw [widE, if_neg (by omega)]
    rcases d with rfl | d
    · rfl
    · split
      · rfl
      · rw [if_neg (by omega)]
  cases s with
  | true =>
    simp only [if_true] at h
    split at h
    · cases h
    · by_cases hn : n < 0
      · rw [if_pos hn]
        have := hE (n + 2 ^ b.toNat) (by omega) (by omega) (.inl rfl)
        refine ⟨by omega, by omega, this, ?_⟩
        rw [widV, if_pos this, if_pos ⟨rfl, by omega⟩]
        omega
      · rw [if_neg hn]
        have := hE n (by omega) (by omega) (.inl rfl)
        refine ⟨by omega, by omega, this, ?_⟩
        rw [widV, if_pos this, if_neg]
        rintro ⟨_, h3⟩
        have := pow_half b hb.1; omega
  | false =>
    simp only [Bool.false_eq_true, if_false] at h
    split at h
    · cases h
    · rw [if_neg (by omega)]
      have := hE n (by omega) (by omega) (.inr h2)
      refine ⟨by omega, by omega, this, ?_⟩
      rw [widV, if_pos this, if_neg (by simp)]
theorem fit_wid {n b : Int} {s : Bool} (h1 : 0 ≤ n) (h2 : n < 18446744073709551616) (h : widE n b s = 0) : -9223372036854775808 ≤ widV n b s ∧ widV n b s ≤ 9223372036854775807 ∧ fitE (widV n b s) b s = 0 ∧ fitV (widV n b s) b s = n := by
  have hb : 1 ≤ b ∧ b ≤ 64 ∧ n < 2 ^ b.toNat := by
    rw [widE] at h
    split at h
    · cases h
    · omega
  have hp := pow_half b hb.1
  have hq := pow63 b hb.1 hb.2.1
  have hpos := pow_pos2 (b.toNat - 1)
  have hv : widV n b s = if s ∧ 2 ^ (b.toNat - 1) ≤ n then n - 2 ^ b.toNat else n := by rw [widV, if_pos h]
  have hpp := hb.2.2
  rw [widE, if_neg (by omega)] at h
  rw [hv]
  cases s with
  | true =>
    have hE : ∀ v, -2 ^ (b.toNat - 1) ≤ v → v < 2 ^ (b.toNat - 1) → fitE v b true = 0 := fun v a c => by
      rw [fitE, if_neg (by omega), if_pos rfl, if_neg (by omega)]
    by_cases hn : 2 ^ (b.toNat - 1) ≤ n
    · rw [if_pos ⟨rfl, hn⟩]
      have := hE (n - 2 ^ b.toNat) (by omega) (by omega)
      refine ⟨by omega, by omega, this, ?_⟩
      rw [fitV, if_pos this, if_pos (by omega)]; omega
    · rw [if_neg (by rintro ⟨_, h3⟩; exact hn h3)]
      have := hE n (by omega) (by omega)
      refine ⟨by omega, by omega, this, ?_⟩
      rw [fitV, if_pos this, if_neg (by omega)]
  | false =>
    simp only [Bool.false_eq_true, if_false] at h
    split at h
    · cases h
    · rw [if_neg (by simp)]
      have : fitE n b false = 0 := by rw [fitE, if_neg (by omega)]; simp; omega
      refine ⟨by omega, by omega, this, ?_⟩
      rw [fitV, if_pos this, if_neg (by omega)]
end Go.Proofs.Yteebnoegeoenbaa
