/- Tokens: numbers as bytes, records; get, put, Encode of the program and of the reference. -/
import Derived.Test.YtamlngdjbmndlaaDoorH8
import Derived.Test.YtamlngdjbmndlaaDoorR4
namespace Go.Proofs.YtamlngdjbmndlaaDoor
open Go.RowKit Go.Gr
set_option linter.unusedVariables false
set_option linter.unusedSimpArgs false
/-- the number that bytes are, the highest one first -/
def numB : List Int → Int
  | [] => 0
  | x :: l => x * 256 ^ l.length + numB l
theorem numB_snoc (x : Int) : ∀ l : List Int, numB (l ++ [x]) = numB l * 256 + x
  | [] => by simp [numB]
  | y :: l => by
    rw [List.cons_append, numB, numB_snoc x l, numB, List.length_append, List.length_singleton, Int.pow_succ, ← Int.mul_assoc]
    generalize y * 256 ^ l.length = q
    omega
theorem isB_cons {x : Int} {l : List Int} (h : isB (x :: l)) : (0 ≤ x ∧ x < 256) ∧ isB l := ⟨h x (by simp), fun y hy => h y (by simp [hy])⟩
theorem numB_range : ∀ {l : List Int}, isB l → 0 ≤ numB l ∧ numB l < 256 ^ l.length
  | [], _ => by simp [numB]
  | x :: l, h => by
    obtain ⟨hx, hl⟩ := isB_cons h
    obtain ⟨h0, h1⟩ := numB_range hl
    rw [numB, List.length_cons, Int.pow_succ]
    have hp : (0 : Int) < 256 ^ l.length := by omega
    generalize (256 : Int) ^ l.length = p at *
    have h2 : 0 ≤ x * p := Int.mul_nonneg hx.1 (by omega)
    have h3 : x * p ≤ 255 * p := Int.mul_le_mul_of_nonneg_right (by omega) (by omega)
    omega
theorem numB_inj : ∀ {l m : List Int}, isB l → isB m → l.length = m.length → numB l = numB m → l = m
  | [], [], _, _, _, _ => rfl
  | [], _ :: _, _, _, h, _ => by simp at h
  | _ :: _, [], _, _, h, _ => by simp at h
  | x :: l, y :: m, hl, hm, hlen, h => by
    obtain ⟨hx, hl2⟩ := isB_cons hl
    obtain ⟨hy, hm2⟩ := isB_cons hm
    have hlen' : l.length = m.length := by simpa using hlen
    obtain ⟨a0, a1⟩ := numB_range hl2
    obtain ⟨b0, b1⟩ := numB_range hm2
    rw [numB, numB, hlen'] at h
    rw [hlen'] at a1
    have hxy : x = y := by
      generalize (256 : Int) ^ m.length = p at *
      rcases Int.lt_trichotomy x y with hlt | he | hlt
      · have : (x + 1) * p ≤ y * p := Int.mul_le_mul_of_nonneg_right (by omega) (by omega)
        rw [Int.add_mul, Int.one_mul] at this
        omega
      · exact he
      · have : (y + 1) * p ≤ x * p := Int.mul_le_mul_of_nonneg_right (by omega) (by omega)
        rw [Int.add_mul, Int.one_mul] at this
        omega
    subst hxy
    rw [numB_inj hl2 hm2 hlen' (by omega)]
theorem numB_be : ∀ (k : Nat) (n : Int), 0 ≤ n → numB (be k n) = n % 256 ^ k
  | 0, n, h => by simp [be, numB, Int.emod_one]
  | k + 1, n, h => by
    rw [be_cons, numB, be_length, numB_be k n h]
    obtain ⟨m, rfl⟩ := Int.eq_ofNat_of_zero_le h
    have hm := Nat.mod_mul (x := m) (a := 256 ^ k) (b := 256)
    have e : (256 : Int) ^ k = ((256 ^ k : Nat) : Int) := by simp
    have e2 : (256 : Int) ^ (k + 1) = ((256 ^ k * 256 : Nat) : Int) := by rw [← Nat.pow_succ]; simp
    rw [e, e2]
    generalize 256 ^ k = p at *
    have : ((m % (p * 256) : Nat) : Int) = ((m % p + p * (m / p % 256) : Nat) : Int) := by rw [hm]
    simp only [Int.natCast_add, Int.natCast_mul, Int.natCast_emod, Int.natCast_ediv, Int.cast_ofNat_Int] at this ⊢
    rw [this, Int.mul_comm]
    omega
theorem be_numB {l : List Int} (h : isB l) : be l.length (numB l) = l := by
  obtain ⟨h0, h1⟩ := numB_range h
  refine numB_inj (be_isB _ _) h (be_length _ _) ?_
  rw [numB_be _ _ h0, Int.emod_eq_of_lt h0 h1]
/-- the record of a session -/
def recB (o u : Int) : List Int := be 4 o ++ be 8 u
theorem recB_len (o u : Int) : (recB o u).length = 12 := by simp [recB, be_length]
theorem recB_isB (o u : Int) : isB (recB o u) := fun x hx => (List.mem_append.1 hx).elim (be_isB 4 o x) (be_isB 8 u x)
def decO (b : List Int) : Int := numB (b.take 4)
def decU (b : List Int) : Int := numB (b.drop 4)
theorem dec_rec {o u : Int} (ho : 0 ≤ o ∧ o < 4294967296) (hu : 0 ≤ u ∧ u < 9223372036854775808) : decO (recB o u) = o ∧ decU (recB o u) = u := by
  unfold decO decU recB
  rw [List.take_left' (be_length 4 o), List.drop_left' (be_length 4 o), numB_be _ _ ho.1, numB_be _ _ hu.1]
  exact ⟨Int.emod_eq_of_lt ho.1 (by omega), Int.emod_eq_of_lt hu.1 (by omega)⟩
theorem isB_take {l : List Int} (h : isB l) (n : Nat) : isB (l.take n) := fun x hx => h x (List.mem_of_mem_take hx)
theorem isB_drop {l : List Int} (h : isB l) (n : Nat) : isB (l.drop n) := fun x hx => h x (List.mem_of_mem_drop hx)
theorem rec_dec {b : List Int} (h : isB b) (hl : b.length = 12) : recB (decO b) (decU b) = b := by
  unfold recB decO decU
  have h1 := be_numB (isB_take h 4)
  have h2 := be_numB (isB_drop h 4)
  rw [List.length_take, hl] at h1
  rw [List.length_drop, hl] at h2
  rw [show be 4 (numB (b.take 4)) = b.take 4 from h1, show be 8 (numB (b.drop 4)) = b.drop 4 from h2, List.take_append_drop]
theorem decO_range {b : List Int} (h : isB b) (hl : b.length = 12) : 0 ≤ decO b ∧ decO b < 4294967296 := by
  have := numB_range (isB_take h 4)
  rw [List.length_take, hl] at this
  unfold decO
  simpa using this
theorem decU_range {b : List Int} (h : isB b) (hl : b.length = 12) : 0 ≤ decU b ∧ decU b < 18446744073709551616 := by
  have := numB_range (isB_drop h 4)
  rw [List.length_drop, hl] at this
  unfold decU
  simpa using this
/-- what the fourth byte tells of the time -/
theorem decU_high {b : List Int} (h : isB b) (hl : b.length = 12) {y : Int} (hy : b[4]? = some y) : decU b < 9223372036854775808 ↔ y < 128 := by
  obtain ⟨h4, e4⟩ := List.getElem?_eq_some_iff.1 hy
  have hd : b.drop 4 = y :: b.drop 5 := by rw [List.drop_eq_getElem_cons h4, e4]
  have hr := numB_range (isB_drop h 5)
  rw [List.length_drop, hl] at hr
  unfold decU
  rw [hd, numB, List.length_drop, hl]
  have e7 : (256 : Int) ^ (12 - 5) = 72057594037927936 := by decide
  rw [e7] at hr ⊢
  omega
end Go.Proofs.YtamlngdjbmndlaaDoor
namespace Go.Proofs.YtamlngdjbmndlaaDoor
open Go.RowKit Go.Gr
set_option linter.unusedVariables false
set_option linter.unusedSimpArgs false
set_option linter.unnecessarySimpa false
theorem flip_bit (x : Int) (n : Nat) (hx : 0 ≤ x ∧ x < 256) (hn : n < 8) : (0 ≤ bits .xor .u8 x (2 ^ n % 256) ∧ bits .xor .u8 x (2 ^ n % 256) < 256) ∧ bits .xor .u8 x (2 ^ n % 256) ≠ x := by
  have h2 : (2 : Int) ^ n % 256 = ((2 ^ n : Nat) : Int) := by
    rcases (show n = 0 ∨ n = 1 ∨ n = 2 ∨ n = 3 ∨ n = 4 ∨ n = 5 ∨ n = 6 ∨ n = 7 by omega) with rfl | rfl | rfl | rfl | rfl | rfl | rfl | rfl <;> rfl
  have hl : 2 ^ n < 256 := by
    rcases (show n = 0 ∨ n = 1 ∨ n = 2 ∨ n = 3 ∨ n = 4 ∨ n = 5 ∨ n = 6 ∨ n = 7 by omega) with rfl | rfl | rfl | rfl | rfl | rfl | rfl | rfl <;> decide
  rw [h2, u8_xor x _ hx.1 hx.2 (by omega) (by omega)]
  obtain ⟨a, rfl⟩ := Int.eq_ofNat_of_zero_le hx.1
  simp only [Int.toNat_natCast]
  have hb : a ^^^ 2 ^ n < 2 ^ 8 := Nat.xor_lt_two_pow (by omega) (by omega)
  refine ⟨⟨by omega, by omega⟩, fun e => ?_⟩
  have e2 : a ^^^ 2 ^ n = a := by omega
  have e3 : 2 ^ n = 0 := by
    have := congrArg (fun z => a ^^^ z) e2
    simpa [← Nat.xor_assoc] using this
  have : 0 < 2 ^ n := Nat.two_pow_pos n
  omega
def sessB : List Int := [115, 101, 115, 115, 105, 111, 110]
theorem sessB_isB : isB sessB := by unfold isB sessB; decide
/-- the tag of a record -/
def tokT (key r : List Int) : List Int := tagB key (sessB ++ r)
theorem tokT_len (key r : List Int) : (tokT key r).length = 32 := tagB_len _ _
theorem tokT_isB (key r : List Int) : isB (tokT key r) := tagB_isB _ _
def keyOk (key : List Int) : Prop := 1 ≤ key.length ∧ key.length ≤ 64
instance (key : List Int) : Decidable (keyOk key) := by unfold keyOk; exact inferInstance
def encE (u : Int) : Int := if u < 0 then 7 else 0
def encB (o u : Int) : List Int := if u < 0 then [] else recB o u
def issueE (key : List Int) (u : Int) : Int := if keyOk key then encE u else 2
def tokB (key r : List Int) : List Int := r ++ tokT key r
def issueB (key : List Int) (o u : Int) : List Int := if keyOk key then (if u < 0 then [] else tokB key (recB o u)) else []
def decE (b : List Int) : Int := if b.length = 12 then (if decU b < 9223372036854775808 then 0 else 11) else 11
def decV (b : List Int) : Int × Int := if decE b = 0 then (decO b, decU b) else (0, 0)
def parseE (b : List Int) : Int := if b.length = 44 then decE (b.take 12) else 11
def parseV (b : List Int) : Int × Int := if parseE b = 0 then (decO (b.take 12), decU (b.take 12)) else (0, 0)
def parseT (b : List Int) : List Int := if parseE b = 0 then b.drop 12 else List.replicate 32 0
def openE (key b : List Int) : Int := if keyOk key then (if parseE b = 0 then (if tokT key (b.take 12) = b.drop 12 then 0 else 12) else 11) else 2
def openV (key b : List Int) : Int × Int := if openE key b = 0 then (decO (b.take 12), decU (b.take 12)) else (0, 0)
def overE (u now : Int) : Int := if u < 0 ∨ now < 0 then 7 else 0
def overV (u now : Int) : Bool := if u < 0 ∨ now < 0 then false else decide (u ≤ now)
def acceptE (key b : List Int) (now : Int) : Int := if openE key b = 0 then (if now < 0 then 7 else if decU (b.take 12) ≤ now then 13 else 0) else openE key b
def acceptV (key b : List Int) (now : Int) : Int × Int := if acceptE key b now = 0 then (decO (b.take 12), decU (b.take 12)) else (0, 0)
theorem decE_two (b : List Int) : decE b = 0 ∨ decE b = 11 := by unfold decE; split <;> (try split) <;> simp
theorem decE_zero {b : List Int} (h : decE b = 0) : b.length = 12 ∧ decU b < 9223372036854775808 := by
  unfold decE at h
  split at h
  · rename_i h1
    split at h
    · rename_i h2; exact ⟨h1, h2⟩
    · cases h
  · cases h
theorem parseE_zero {b : List Int} (h : parseE b = 0) : b.length = 44 ∧ decE (b.take 12) = 0 := by
  unfold parseE at h
  split at h
  · rename_i h1; exact ⟨h1, h⟩
  · cases h
theorem parseE_two (b : List Int) : parseE b = 0 ∨ parseE b = 11 := by
  unfold parseE
  split
  · exact decE_two _
  · exact .inr rfl
theorem tokB_len {key r : List Int} (h : r.length = 12) : (tokB key r).length = 44 := by simp [tokB, tokT_len, h]
theorem tokB_isB {key r : List Int} (h : isB r) : isB (tokB key r) := fun x hx => (List.mem_append.1 hx).elim (h x) (tokT_isB _ _ x)
theorem tokB_take {key r : List Int} (h : r.length = 12) : (tokB key r).take 12 = r := List.take_left' h
theorem tokB_drop {key r : List Int} (h : r.length = 12) : (tokB key r).drop 12 = tokT key r := List.drop_left' h
theorem decE_rec {o u : Int} (ho : 0 ≤ o ∧ o < 4294967296) (hu : 0 ≤ u ∧ u < 9223372036854775808) : decE (recB o u) = 0 := by
  unfold decE
  rw [if_pos (recB_len o u), (dec_rec ho hu).2, if_pos hu.2]
/-- the token of a session is opened -/
theorem open_issue {key : List Int} {o u : Int} (hk : keyOk key) (ho : 0 ≤ o ∧ o < 4294967296) (hu : 0 ≤ u ∧ u < 9223372036854775808) : openE key (tokB key (recB o u)) = 0 ∧ openV key (tokB key (recB o u)) = (o, u) := by
  have hl := recB_len o u
  have hp : parseE (tokB key (recB o u)) = 0 := by
    unfold parseE
    rw [if_pos (tokB_len hl), tokB_take hl]
    exact decE_rec ho hu
  have he : openE key (tokB key (recB o u)) = 0 := by
    unfold openE
    rw [if_pos hk, if_pos hp, tokB_take hl, tokB_drop hl, if_pos rfl]
  refine ⟨he, ?_⟩
  unfold openV
  rw [if_pos he, tokB_take hl, (dec_rec ho hu).1, (dec_rec ho hu).2]
/-- bytes in which a bit is changed -/
def flipB (l : List Int) (n : Nat) : List Int := l.set (n / 8) (bits .xor .u8 (l.getD (n / 8) 0) (2 ^ (n % 8) % 256))
theorem flipB_len (l : List Int) (n : Nat) : (flipB l n).length = l.length := by simp [flipB]
theorem getD_B {l : List Int} (h : isB l) (i : Nat) : 0 ≤ l.getD i 0 ∧ l.getD i 0 < 256 := by
  rw [List.getD_eq_getElem?_getD]
  rcases Nat.lt_or_ge i l.length with hi | hi
  · rw [List.getElem?_eq_getElem hi]; exact h _ (List.getElem_mem hi)
  · rw [List.getElem?_eq_none hi]; decide
theorem flipB_isB {l : List Int} (h : isB l) (n : Nat) : isB (flipB l n) := by
  intro x hx
  rcases List.mem_or_eq_of_mem_set hx with hx | rfl
  · exact h x hx
  · exact (flip_bit _ _ (getD_B h _) (Nat.mod_lt _ (by decide))).1
theorem flipB_at {l : List Int} {n : Nat} (hn : n / 8 < l.length) : (flipB l n)[n / 8]? = some (bits .xor .u8 (l.getD (n / 8) 0) (2 ^ (n % 8) % 256)) := by
  unfold flipB
  rw [List.getElem?_set_self hn]
theorem flipB_ne {l : List Int} (h : isB l) {n : Nat} (hn : n / 8 < l.length) : flipB l n ≠ l := by
  intro e
  have h1 := flipB_at (l := l) hn
  rw [e, List.getElem?_eq_getElem hn] at h1
  have h2 := (flip_bit _ (n % 8) (getD_B h (n / 8)) (Nat.mod_lt _ (by decide))).2
  rw [List.getD_eq_getElem?_getD, List.getElem?_eq_getElem hn] at h1 h2
  exact h2 (Option.some.inj h1).symm
/-- the highest bit of a byte -/
theorem flip_high {x : Int} (hx : 0 ≤ x ∧ x < 128) {r : Nat} (hr : r < 8) : bits .xor .u8 x (2 ^ r % 256) < 128 ↔ r ≠ 7 := by
  have h2 : (2 : Int) ^ r % 256 = ((2 ^ r : Nat) : Int) := by
    rcases (show r = 0 ∨ r = 1 ∨ r = 2 ∨ r = 3 ∨ r = 4 ∨ r = 5 ∨ r = 6 ∨ r = 7 by omega) with rfl | rfl | rfl | rfl | rfl | rfl | rfl | rfl <;> rfl
  have hl : 2 ^ r < 256 := by
    rcases (show r = 0 ∨ r = 1 ∨ r = 2 ∨ r = 3 ∨ r = 4 ∨ r = 5 ∨ r = 6 ∨ r = 7 by omega) with rfl | rfl | rfl | rfl | rfl | rfl | rfl | rfl <;> decide
  rw [h2, u8_xor x _ hx.1 (by omega) (by omega) (by omega)]
  obtain ⟨a, rfl⟩ := Int.eq_ofNat_of_zero_le hx.1
  simp only [Int.toNat_natCast]
  constructor
  · intro h e
    subst e
    have h3 : (a ^^^ 2 ^ 7).testBit 7 = true := by
      rw [Nat.testBit_xor, Nat.testBit_lt_two_pow (show a < 2 ^ 7 by omega)]; rfl
    have := Nat.ge_two_pow_of_testBit h3
    omega
  · intro h
    have hlt : 2 ^ r < 2 ^ 7 := Nat.pow_lt_pow_right (by decide) (by omega)
    have := Nat.xor_lt_two_pow (show a < 2 ^ 7 by omega) hlt
    omega
/-- what Open says of a token with a changed bit -/
theorem guarded {key : List Int} {o u : Int} (hk : keyOk key) (ho : 0 ≤ o ∧ o < 4294967296) (hu : 0 ≤ u ∧ u < 9223372036854775808) {n : Nat} (hn : n < 352) :
    (n = 39 → openE key (flipB (tokB key (recB o u)) n) = 11) ∧
    (n ≠ 39 → decE ((flipB (tokB key (recB o u)) n).take 12) = 0 ∧
      (n < 96 → tokB key ((flipB (tokB key (recB o u)) n).take 12) = flipB (tokB key (recB o u)) n → openE key (flipB (tokB key (recB o u)) n) = 0) ∧
      ((n < 96 → tokB key ((flipB (tokB key (recB o u)) n).take 12) ≠ flipB (tokB key (recB o u)) n) → openE key (flipB (tokB key (recB o u)) n) = 12)) := by
  have hl := recB_len o u
  have hBl : (tokB key (recB o u)).length = 44 := tokB_len hl
  have hBB : isB (tokB key (recB o u)) := tokB_isB (recB_isB o u)
  have hBt : (tokB key (recB o u)).take 12 = recB o u := tokB_take hl
  have hBd : (tokB key (recB o u)).drop 12 = tokT key (recB o u) := tokB_drop hl
  have hdec := decE_rec ho hu
  generalize tokB key (recB o u) = B at *
  have hCl : (flipB B n).length = 44 := by rw [flipB_len, hBl]
  have hCB := flipB_isB hBB n
  have hCat := flipB_at (l := B) (n := n) (by omega)
  have hCne := flipB_ne hBB (n := n) (by omega)
  have hset : flipB B n = B.set (n / 8) (bits .xor .u8 (B.getD (n / 8) 0) (2 ^ (n % 8) % 256)) := rfl
  have ht12 : ((flipB B n).take 12).length = 12 := by rw [List.length_take, hCl]; rfl
  -- the byte at 4
  have h4B : ∃ x, (recB o u)[4]? = some x ∧ 0 ≤ x ∧ x < 128 := by
    have h4 : 4 < (recB o u).length := by rw [hl]; decide
    refine ⟨(recB o u)[4], List.getElem?_eq_getElem h4, (recB_isB o u _ (List.getElem_mem h4)).1, ?_⟩
    exact (decU_high (recB_isB o u) hl (List.getElem?_eq_getElem h4)).1 (decE_zero hdec).2
  obtain ⟨x, hx4, hx0, hx1⟩ := h4B
  have hB4 : B[4]? = some x := by
    have : (B.take 12)[4]? = some x := by rw [hBt]; exact hx4
    rwa [List.getElem?_take, if_pos (by decide)] at this
  have hC4 : ∃ y, ((flipB B n).take 12)[4]? = some y ∧ (y < 128 ↔ n ≠ 39) := by
    rw [List.getElem?_take, if_pos (by decide)]
    by_cases h : n / 8 = 4
    · rw [h] at hCat
      refine ⟨_, hCat, ?_⟩
      rw [List.getD_eq_getElem?_getD, hB4]
      rw [flip_high ⟨by simpa using hx0, by simpa using hx1⟩ (Nat.mod_lt _ (by decide))]
      omega
    · refine ⟨x, ?_, ⟨fun _ => by omega, fun _ => hx1⟩⟩
      rw [hset, List.getElem?_set_ne (fun e => h e), hB4]
  obtain ⟨y, hy4, hy⟩ := hC4
  have hdU := decU_high (isB_take hCB 12) ht12 hy4
  constructor
  · intro h39
    have : ¬ decU ((flipB B n).take 12) < 9223372036854775808 := fun h => (hy.1 (hdU.1 h)) h39
    unfold openE
    rw [if_pos hk, if_neg]
    unfold parseE decE
    rw [if_pos hCl, if_pos ht12, if_neg this]
    decide
  · intro h39
    have hlow : decU ((flipB B n).take 12) < 9223372036854775808 := hdU.2 (hy.2 h39)
    have hd0 : decE ((flipB B n).take 12) = 0 := by unfold decE; rw [if_pos ht12, if_pos hlow]
    have hp0 : parseE (flipB B n) = 0 := by unfold parseE; rw [if_pos hCl]; exact hd0
    refine ⟨hd0, fun h96 ho => ?_, fun hno => ?_⟩
    · have : tokT key ((flipB B n).take 12) = (flipB B n).drop 12 := by
        rw [← tokB_drop (key := key) ht12, ho]
      unfold openE
      rw [if_pos hk, if_pos hp0, if_pos this]
    · have hne : tokT key ((flipB B n).take 12) ≠ (flipB B n).drop 12 := by
        intro e
        by_cases h96 : n < 96
        · refine hno h96 ?_
          unfold tokB
          rw [e, List.take_append_drop]
        · have hsame : (flipB B n).take 12 = B.take 12 := by
            rw [hset, List.take_set, List.set_eq_of_length_le]
            rw [List.length_take, hBl]
            omega
          rw [hsame, hBt, ← hBd] at e
          exact hCne (by rw [← List.take_append_drop 12 (flipB B n), hsame, ← e, List.take_append_drop])
      unfold openE
      rw [if_pos hk, if_pos hp0, if_neg hne]
end Go.Proofs.YtamlngdjbmndlaaDoor
namespace Go.Proofs.YtamlngdjbmndlaaDoor
open Go.RowKit Go.Gr
set_option linter.unusedVariables false
set_option linter.unusedSimpArgs false
theorem numB_next {l : List Int} {k : Nat} (h : k < l.length) : numB (l.take (k + 1)) = numB (l.take k) * 256 + l[k] := by
  rw [List.take_succ_eq_append_getElem h, numB_snoc]
theorem pow_le256 {a b : Nat} (h : a ≤ b) : (256 : Int) ^ a ≤ 256 ^ b := by
  obtain ⟨c, rfl⟩ := Nat.le.dest h
  rw [Int.pow_add]
  have h1 : (0 : Int) < 256 ^ a := Int.pow_pos (by decide)
  have h2 : (0 : Int) < 256 ^ c := Int.pow_pos (by decide)
  have h3 := Int.mul_le_mul_of_nonneg_left (show (1 : Int) ≤ 256 ^ c by omega) (Int.le_of_lt h1)
  rwa [Int.mul_one] at h3
theorem numB_take_lt {l : List Int} (hb : isB l) {k m : Nat} (hk : k ≤ m) : 0 ≤ numB (l.take k) ∧ numB (l.take k) < 256 ^ m := by
  have h := numB_range (isB_take hb k)
  have h2 : (l.take k).length ≤ m := Nat.le_trans (List.length_take_le _ _) hk
  exact ⟨h.1, Int.lt_of_lt_of_le h.2 (pow_le256 h2)⟩
theorem or_byte64 (n x : Int) (h : 0 ≤ n ∧ n < 72057594037927936) (hx : 0 ≤ x ∧ x < 256) : bits .or .u64 (n * 256) x = n * 256 + x := by
  obtain ⟨n, rfl⟩ := Int.eq_ofNat_of_zero_le h.1
  obtain ⟨x, rfl⟩ := Int.eq_ofNat_of_zero_le hx.1
  have := u64_or_nat (n * 256) x (by omega) (by omega)
  rw [nat_join 8 (n * 256) x (by omega) (by omega)] at this
  simpa using this
theorem or_byte32 (n x : Int) (h : 0 ≤ n ∧ n < 16777216) (hx : 0 ≤ x ∧ x < 256) : bits .or .u32 (n * 256) x = n * 256 + x := by
  obtain ⟨n, rfl⟩ := Int.eq_ofNat_of_zero_le h.1
  obtain ⟨x, rfl⟩ := Int.eq_ofNat_of_zero_le hx.1
  have := u32_or_nat (n * 256) x (by omega) (by omega)
  rw [nat_join 8 (n * 256) x (by omega) (by omega)] at this
  simpa using this
theorem get64_any (l : List Int) (A : Option Addr) (c : Nat) (w : World) (hr : Rd w A (byt l)) (hb : isB l) (hl : l.length ≤ 8) :
    Calls Tryd.prog 84 #[.slice A l.length c] w fun e w' => e = .returned (.int .u64 (numB l)) ∧ w = w' := by
  have HR := hide hr
  have HB := hide hb
  clear hr hb
  go_enter Tryd.func84, Tryd.ntmps84
  go_wp2_with fail
  go_loop [3, 8] (fun n i => ∃ k : Nat, k ≤ l.length ∧ i = .int .i64 k ∧ n = .int .u64 (numB (l.take k))) (fun _ i => l.length - (intOf i).toNat)
  case atStart => exact ⟨0, Nat.zero_le _, rfl, rfl⟩
  case round =>
    obtain ⟨k, hk, rfl, rfl⟩ := hrel
    by_cases hlt : k < l.length
    · have hki : (k : Int) < (l.length : Int) := by omega
      have hbd := numB_take_lt HB.out (show k ≤ 7 by omega)
      have hx := HB.out l[k] (List.getElem_mem _)
      have hs := hide (numB_next hlt)
      obtain ⟨ad, rfl, hcell⟩ := HR.out.at_ (k := k) (by simpa using hlt)
      rw [byt_get hlt] at hcell
      obtain ⟨x, HX⟩ : ∃ x, Hid (l[k] = x) := ⟨_, hide rfl⟩
      rw [HX.out] at hcell hs hx
      generalize numB (l.take k) = n at *
      simp only [Int.reducePow] at hbd
      have hor := or_byte64 n x hbd hx
      obtain ⟨n0, n1⟩ := hbd
      obtain ⟨x0, x1⟩ := hx
      go_wp2_with fail
      go_round
      case rel => exact ⟨k + 1, by omega, by go_num, by rw [hs.out]⟩
      case measure => simp [intOf]; omega
    · obtain rfl : k = l.length := by omega
      rw [List.take_of_length_le (Nat.le_refl _)]
      go_wp2_with fail
      go_ret
      exact ⟨rfl, rfl⟩
theorem get32_any (l : List Int) (A : Option Addr) (c : Nat) (w : World) (hr : Rd w A (byt l)) (hb : isB l) (hl : l.length ≤ 4) :
    Calls Tryd.prog 85 #[.slice A l.length c] w fun e w' => e = .returned (.int .u32 (numB l)) ∧ w = w' := by
  have HR := hide hr
  have HB := hide hb
  clear hr hb
  go_enter Tryd.func85, Tryd.ntmps85
  go_wp2_with fail
  go_loop [3, 8] (fun n i => ∃ k : Nat, k ≤ l.length ∧ i = .int .i64 k ∧ n = .int .u32 (numB (l.take k))) (fun _ i => l.length - (intOf i).toNat)
  case atStart => exact ⟨0, Nat.zero_le _, rfl, rfl⟩
  case round =>
    obtain ⟨k, hk, rfl, rfl⟩ := hrel
    by_cases hlt : k < l.length
    · have hki : (k : Int) < (l.length : Int) := by omega
      have hbd := numB_take_lt HB.out (show k ≤ 3 by omega)
      have hx := HB.out l[k] (List.getElem_mem _)
      have hs := hide (numB_next hlt)
      obtain ⟨ad, rfl, hcell⟩ := HR.out.at_ (k := k) (by simpa using hlt)
      rw [byt_get hlt] at hcell
      obtain ⟨x, HX⟩ : ∃ x, Hid (l[k] = x) := ⟨_, hide rfl⟩
      rw [HX.out] at hcell hs hx
      generalize numB (l.take k) = n at *
      simp only [Int.reducePow] at hbd
      have hor := or_byte32 n x hbd hx
      obtain ⟨n0, n1⟩ := hbd
      obtain ⟨x0, x1⟩ := hx
      go_wp2_with fail
      go_round
      case rel => exact ⟨k + 1, by omega, by go_num, by rw [hs.out]⟩
      case measure => simp [intOf]; omega
    · obtain rfl : k = l.length := by omega
      rw [List.take_of_length_le (Nat.le_refl _)]
      go_wp2_with fail
      go_ret
      exact ⟨rfl, rfl⟩
end Go.Proofs.YtamlngdjbmndlaaDoor
namespace Go.Proofs.YtamlngdjbmndlaaDoor
open Go.RowKit Go.Gr
set_option linter.unusedVariables false
set_option linter.unusedSimpArgs false
theorem splice_cons {α : Type} (cs xs : List α) (m : Nat) (x : α) (h : m + 1 + xs.length ≤ cs.length) : (splice cs (m + 1) xs).set m x = splice cs m (x :: xs) := by
  unfold splice
  have h1 : (cs.take (m + 1)).set m x = cs.take m ++ [x] := by
    rw [List.take_succ_eq_append_getElem (by omega), List.set_append_right _ _ (by rw [List.length_take]; omega)]
    rw [List.length_take, Nat.min_eq_left (by omega), Nat.sub_self]; rfl
  rw [List.set_append_left _ _ (by rw [List.length_take]; omega), h1, List.append_assoc, List.singleton_append, List.length_cons, List.cons_append]
  congr 4
  omega
theorem splice_nil {α : Type} (cs : List α) (m : Nat) : splice cs m [] = cs := by
  unfold splice
  simp
theorem shift_val (n : Int) (k : Nat) (h0 : 0 ≤ n) : n / 2 ^ (8 * k) = n / 256 ^ k := by
  rw [Int.pow_mul]; rfl
set_option maxRecDepth 100000 in
theorem put64_any (g off k c : Nat) (t : TypeId) (cs : List Value) (n : Int) (w : World) (hB : Blk w g t cs) (hk : off + k ≤ cs.length) (hk8 : k ≤ 8) (hn : 0 ≤ n ∧ n < 18446744073709551616) :
    Calls Tryd.prog 55 #[.slice (some ⟨g, off, none⟩) k c, .int .u64 n] w fun e w' => e = .returned (.tuple #[]) ∧ Blk w' g t (splice cs off (byt (be k n))) ∧ Upd g w w' := by
  have HB := hide hB
  obtain ⟨n0, n1⟩ := hn
  clear hB
  go_enter Tryd.func55, Tryd.ntmps55
  go_wp2_with fail
  go_loopw [7] (fun i wx => ∃ j : Nat, i = .int .i64 j ∧ j ≤ k ∧ Hid (Blk wx g t (splice cs (off + k - j) (byt (be j n))) ∧ Upd g w wx)) (fun i _ => k - (intOf i).toNat)
  case atStart => exact ⟨0, rfl, by omega, hide ⟨by rw [show be 0 n = [] from rfl]; exact (splice_nil cs _).symm ▸ HB.out, Upd.refl g w⟩⟩
  case round =>
    obtain ⟨j, rfl, hj, HS⟩ := hrel
    by_cases hlt : j < k
    · have hji : (j : Int) < (k : Int) := by omega
      obtain ⟨p, hp⟩ : ∃ p : Nat, (k : Int) - 1 - (j : Int) = p := ⟨k - 1 - j, by omega⟩
      have hpk : (p : Int) < (k : Int) := by omega
      obtain ⟨m, hmp⟩ : ∃ m, off + p = m := ⟨_, rfl⟩
      have hm : off + k - (j + 1) = m := by omega
      have hm1 : off + k - j = m + 1 := by omega
      have hj8 : (8 * (j : Int)).toNat = 8 * j := by omega
      have hj64 : 8 * (j : Int) < 64 := by omega
      have HV := hide (shift_val n j n0)
      obtain ⟨hb, hu⟩ := HS.out
      rw [hm1] at hb
      have hlen : (splice cs (m + 1) (byt (be j n))).length = cs.length := splice_len _ _ _ (by rw [byt_length, be_length]; omega)
      have hfr := hb.free m
      have hsome : ∃ u, wr.cell? ⟨g, m, none⟩ = some u := ⟨_, (hb.cell m).trans (List.getElem?_eq_getElem (by rw [hlen]; omega))⟩
      obtain ⟨u, hcu⟩ := hsome
      have hset := hb.set m (.int .u8 (n / 256 ^ j % 256))
      rw [splice_cons _ _ _ _ (by rw [byt_length, be_length]; omega)] at hset
      have HN : Hid (Blk (wr.setCell ⟨g, m, none⟩ (.int .u8 (n / 2 ^ (8 * j) % 256))) g t (splice cs (off + k - (j + 1)) (byt (be (j + 1) n))) ∧ Upd g w (wr.setCell ⟨g, m, none⟩ (.int .u8 (n / 2 ^ (8 * j) % 256)))) := hide ⟨by rw [HV.out, hm, be_cons]; exact hset, hu.cell m _⟩
      clear HS hb hu hset hlen
      clear hj8 hm hm1
      go_wp2_with fail
      go_roundw
      case rel => exact ⟨j + 1, by go_num, by omega, HN⟩
      case measure => simp [intOf]; omega
    · obtain rfl : j = k := by omega
      rw [Nat.add_sub_cancel] at HS
      go_wp2_with fail
      go_end0
      exact ⟨rfl, HS.out.1, HS.out.2⟩
set_option maxRecDepth 100000 in
theorem put32_any (g off k c : Nat) (t : TypeId) (cs : List Value) (n : Int) (w : World) (hB : Blk w g t cs) (hk : off + k ≤ cs.length) (hk8 : k ≤ 4) (hn : 0 ≤ n ∧ n < 4294967296) :
    Calls Tryd.prog 54 #[.slice (some ⟨g, off, none⟩) k c, .int .u32 n] w fun e w' => e = .returned (.tuple #[]) ∧ Blk w' g t (splice cs off (byt (be k n))) ∧ Upd g w w' := by
  have HB := hide hB
  obtain ⟨n0, n1⟩ := hn
  clear hB
  go_enter Tryd.func54, Tryd.ntmps54
  go_wp2_with fail
  go_loopw [7] (fun i wx => ∃ j : Nat, i = .int .i64 j ∧ j ≤ k ∧ Hid (Blk wx g t (splice cs (off + k - j) (byt (be j n))) ∧ Upd g w wx)) (fun i _ => k - (intOf i).toNat)
  case atStart => exact ⟨0, rfl, by omega, hide ⟨by rw [show be 0 n = [] from rfl]; exact (splice_nil cs _).symm ▸ HB.out, Upd.refl g w⟩⟩
  case round =>
    obtain ⟨j, rfl, hj, HS⟩ := hrel
    by_cases hlt : j < k
    · have hji : (j : Int) < (k : Int) := by omega
      obtain ⟨p, hp⟩ : ∃ p : Nat, (k : Int) - 1 - (j : Int) = p := ⟨k - 1 - j, by omega⟩
      have hpk : (p : Int) < (k : Int) := by omega
      obtain ⟨m, hmp⟩ : ∃ m, off + p = m := ⟨_, rfl⟩
      have hm : off + k - (j + 1) = m := by omega
      have hm1 : off + k - j = m + 1 := by omega
      have hj8 : (8 * (j : Int)).toNat = 8 * j := by omega
      have hj64 : 8 * (j : Int) < 32 := by omega
      have HV := hide (shift_val n j n0)
      obtain ⟨hb, hu⟩ := HS.out
      rw [hm1] at hb
      have hlen : (splice cs (m + 1) (byt (be j n))).length = cs.length := splice_len _ _ _ (by rw [byt_length, be_length]; omega)
      have hfr := hb.free m
      have hsome : ∃ u, wr.cell? ⟨g, m, none⟩ = some u := ⟨_, (hb.cell m).trans (List.getElem?_eq_getElem (by rw [hlen]; omega))⟩
      obtain ⟨u, hcu⟩ := hsome
      have hset := hb.set m (.int .u8 (n / 256 ^ j % 256))
      rw [splice_cons _ _ _ _ (by rw [byt_length, be_length]; omega)] at hset
      have HN : Hid (Blk (wr.setCell ⟨g, m, none⟩ (.int .u8 (n / 2 ^ (8 * j) % 256))) g t (splice cs (off + k - (j + 1)) (byt (be (j + 1) n))) ∧ Upd g w (wr.setCell ⟨g, m, none⟩ (.int .u8 (n / 2 ^ (8 * j) % 256)))) := hide ⟨by rw [HV.out, hm, be_cons]; exact hset, hu.cell m _⟩
      clear HS hb hu hset hlen
      clear hj8 hm hm1
      go_wp2_with fail
      go_roundw
      case rel => exact ⟨j + 1, by go_num, by omega, HN⟩
      case measure => simp [intOf]; omega
    · obtain rfl : j = k := by omega
      rw [Nat.add_sub_cancel] at HS
      go_wp2_with fail
      go_end0
      exact ⟨rfl, HS.out.1, HS.out.2⟩
end Go.Proofs.YtamlngdjbmndlaaDoor
namespace Go.Proofs.YtamlngdjbmndlaaDoor
open Go.RowKit Go.Gr
set_option linter.unusedVariables false
set_option linter.unusedSimpArgs false
theorem be_get : ∀ (k : Nat) (n : Int) (j : Nat) (h : j < (be k n).length), (be k n)[j] = n / 256 ^ (k - 1 - j) % 256
  | 0, n, j, h => by simp [be_length] at h
  | k + 1, n, 0, h => by simp only [be_cons, List.getElem_cons_zero]; congr 3
  | k + 1, n, j + 1, h => by
    rw [be_length] at h
    simp only [be_cons, List.getElem_cons_succ]
    rw [be_get k n j (by rw [be_length]; omega)]
    congr 3
    omega
theorem be_next {k j : Nat} {n : Int} (h : j < k) : (be k n).take (j + 1) = (be k n).take j ++ [n / 256 ^ (k - 1 - j) % 256] := by
  rw [List.take_succ_eq_append_getElem (by rw [be_length]; exact h), be_get]
theorem good_any (l : List Int) (A : Option Addr) (c : Nat) (w : World) : Calls Tryd.prog 37 #[.slice A l.length c] w fun e w' => e = .returned (.bool (decide (keyOk l))) ∧ w = w' := by
  by_cases h1 : 1 ≤ l.length
  · have d1 : (1 : Int) ≤ (l.length : Int) := by omega
    by_cases h2 : l.length ≤ 64
    · have d2 : (l.length : Int) ≤ 64 := by omega
      have hk : decide (keyOk l) = true := decide_eq_true ⟨h1, h2⟩
      rw [hk]
      go_enter Tryd.func37, Tryd.ntmps37
      go_wp2_with fail
      go_ret
      exact ⟨rfl, rfl⟩
    · have d2 : ¬ (l.length : Int) ≤ 64 := by omega
      have hk : decide (keyOk l) = false := decide_eq_false (fun h => h2 h.2)
      rw [hk]
      go_enter Tryd.func37, Tryd.ntmps37
      go_wp2_with fail
      go_ret
      exact ⟨rfl, rfl⟩
  · have d1 : ¬ (1 : Int) ≤ (l.length : Int) := by omega
    have hk : decide (keyOk l) = false := decide_eq_false (fun h => h1 h.1)
    rw [hk]
    go_enter Tryd.func37, Tryd.ntmps37
    go_wp2_with fail
    go_ret
    exact ⟨rfl, rfl⟩
end Go.Proofs.YtamlngdjbmndlaaDoor
namespace Go.Proofs.YtamlngdjbmndlaaDoor
open Go.RowKit Go.Gr
set_option linter.unusedVariables false
set_option linter.unusedSimpArgs false
attribute [local go_sem] rdOp rdAt rdUpon Cls forall_fr
/-- a session as a value -/
abbrev ses (o u : Int) : Value := .agg #[.int .u32 o, .int .i64 u]
/-- it returns bytes that nobody else may turn, and an error -/
def RetS (w : World) (l : List Int) (er : Int) (e : Ending) (w' : World) : Prop := ∃ A c, e = .returned (.tuple #[.slice A l.length c, .int .i64 er]) ∧ l.length ≤ c ∧ Sep No w w' [As.rd A (byt l)]
theorem sep_blk_upd {G : Nat → Prop} {w0 w w' : World} (L1 : List As) {L2 : List As} {g : Nat} {t : TypeId} {cs cs' : List Value} (H : Sep G w0 w (L1 ++ As.blk g t cs :: L2)) (hb : Blk w' g t cs') (hu : Upd g w w') : Sep G w0 w' (L1 ++ As.blk g t cs' :: L2) :=
  H.upd (B := As.blk g t cs') (Fr.of_upd hu) (fun _ h => h) hb (fun _ h => .inl h)
theorem sep_one {w wx : World} {A B : As} {L : List As} (K : Sep No w wx (A :: L)) (hp : A.p wx → B.p wx) (hf : ∀ i, B.fp i → A.fp i) : Sep No w wx [B] :=
  (K.weak [] (B := B) hp hf).sub (List.cons_sublist_cons.2 (List.nil_sublist _))
theorem sep_blk {w wx : World} {g : Nat} {e : TypeId} {cs : List Value} {L : List As} (K : Sep No w wx (As.blk g e cs :: L)) : Sep No w wx [As.rd (some ⟨g, 0, none⟩) cs] :=
  sep_one K (fun h => Blk.rd h) (fun i h => by obtain ⟨_, ad, e, rfl⟩ := h; cases e; rfl)
theorem sep_nil {w wx : World} {L : List As} (K : Sep No w wx L) : Sep No w wx [As.rd none []] :=
  (K.new (B := As.rd none []) (Ext.refl _) (Rd.nil _ _) (fun i h => absurd rfl h.1)).sub (List.cons_sublist_cons.2 (List.nil_sublist _))
theorem rec_cells (o u : Int) : splice (splice (Z8 12) 0 (byt (be 4 o))) 4 (byt (be 8 u)) = byt (recB o u) := by
  unfold splice recB
  rw [byt_append]
  simp only [List.take_zero, List.nil_append, byt_length, be_length]
  rw [List.take_left' (by rw [byt_length, be_length]), List.drop_eq_nil_of_le (by simp [byt_length, be_length, Z8]), List.append_nil]
set_option maxRecDepth 100000 in
set_option maxHeartbeats 1000000 in
theorem enc_any (o u : Int) (w : World) (ho : 0 ≤ o ∧ o < 4294967296) (hu : -9223372036854775808 ≤ u ∧ u ≤ 9223372036854775807) : Calls Tryd.prog 38 #[ses o u] w (RetS w (encB o u) (encE u)) := by
  have H0 := (Sep.refl No w).newB ((Ext.refl w).alloc (.cells #[.int .u32 o, .int .i64 u] 53)) (Blk.new w 53 [.int .u32 o, .int .i64 u]) (Nat.le_refl _)
  have hb := H0.blk (g := w.heap.size) (e := 53) (cs := [.int .u32 o, .int .i64 u]) (List.Mem.head _)
  by_cases hneg : u < 0
  · have HE : Hid (encB o u = [] ∧ encE u = 7) := hide ⟨by unfold encB; rw [if_pos hneg], by unfold encE; rw [if_pos hneg]⟩
    have K0 := hide H0
    clear hb H0
    go_enter Tryd.func38, Tryd.ntmps38
    go_wp2_with fail
    go_ret2
    exact ⟨none, 0, by rw [HE.out.1, HE.out.2]; rfl, by rw [HE.out.1]; exact Nat.le_refl _, by rw [HE.out.1]; exact sep_nil K0.out⟩
  · have HE : Hid (encB o u = recB o u ∧ encE u = 0) := hide ⟨by unfold encB; rw [if_neg hneg], by unfold encE; rw [if_neg hneg]⟩
    have HU := hide hu
    have HO := hide ho
    have tok : True := trivial
    clear hb
    go_enter Tryd.func38, Tryd.ntmps38
    go_upto_region 4 with (have zz := tok; clear zz tok; refine wpList_alS H0 rfl 93 rfl (Z8 12) (by kernel_rfl) ?_; intro w2 _ H2; clear H0)
    obtain ⟨ga, GA⟩ : ∃ g, (w.alloc (.cells #[.int .u32 o, .int .i64 u] 53)).heap.size = g := ⟨_, rfl⟩
    rw [GA] at H2 ⊢
    obtain ⟨gb, GB⟩ : ∃ g, w.heap.size = g := ⟨_, rfl⟩
    rw [GB] at H2 ⊢
    clear GA GB
    refine wp_region_wtR (RT.fr No) 3 [0, 1, 2] (by kernel_rfl) (by kernel_rfl) (by kernel_rfl) ?_
    have H3 := H2.drew
    clear H2
    generalize w2.drew = wd at *
    have hga := (H3.blk (g := ga) (e := 93) (cs := Z8 12) (List.Mem.head _)).lt
    have hgb := (H3.blk (g := gb) (e := 53) (cs := [.int .u32 o, .int .i64 u]) (List.Mem.tail _ (List.Mem.head _))).lt
    iterate 2 (refine wr_rd rfl rfl (fun K hK => ?_); go_simp; refine hK _ ?_; clear hK K)
    refine wr_ld1 rfl rfl 22 (.tmp 9) rfl rfl (fun w' h => Fr.cell h (((H3.blk (g := gb) (e := 53) (cs := [.int .u32 o, .int .i64 u]) (List.Mem.tail _ (List.Mem.head _))).cell 0).trans rfl) (fun h => h)) _ Tryd.underlying22 rfl ?_
    refine wr_nil ?_
    simp only [List.drop_succ_cons, List.drop_zero]
    have K3 := hide H3
    clear H3
    go_wp2_with fail
    (with_reducible refine (put32_any ga 0 4 12 93 (Z8 12) o wd (K3.out.blk (List.Mem.head _)) (by decide) (by decide) HO.out).mono ?_)
    rintro e w4 ⟨rfl, hb4, hu4⟩
    have H4 := sep_blk_upd [] K3.out hb4 hu4
    dsimp only [List.nil_append] at H4
    clear K3 hb4 hu4
    go_wp2_with fail
    try refine NoPanic.normal ?_
    go_upto_region 5 with fail
    refine wp_region_wtR (RT.fr No) 4 [0, 1, 2, 3] (by kernel_rfl) (by kernel_rfl) (by kernel_rfl) ?_
    have H5 := H4.drew
    clear H4
    generalize w4.drew = we at *
    have hga := (H5.blk (g := ga) (e := 93) (List.Mem.head _)).lt
    iterate 2 (refine wr_rd rfl rfl (fun K hK => ?_); go_simp; refine hK _ ?_; clear hK K)
    refine wr_ld1 rfl rfl 2 (.tmp 13) rfl rfl (fun w' h => Fr.cell h (((H5.blk (g := gb) (e := 53) (cs := [.int .u32 o, .int .i64 u]) (List.Mem.tail _ (List.Mem.head _))).cell 1).trans rfl) (fun h => h)) _ Tryd.underlying2 rfl ?_
    have hu0 : 0 ≤ u := by omega
    have hu1 := HU.out.2
    iterate 1 (refine wr_rd rfl rfl (fun K hK => ?_); go_simp; refine hK _ ?_; clear hK K)
    refine wr_nil ?_
    simp only [List.drop_succ_cons, List.drop_zero]
    have K5 := hide H5
    clear H5
    go_wp2_with fail
    (with_reducible refine (put64_any ga 4 8 8 93 (splice (Z8 12) 0 (byt (be 4 o))) u we (K5.out.blk (List.Mem.head _)) (by simp [splice, be_length, Z8]) (by decide) ⟨hu0, by omega⟩).mono ?_)
    rintro e w6 ⟨rfl, hb6, hu6⟩
    have H6 := sep_blk_upd [] K5.out hb6 hu6
    dsimp only [List.nil_append] at H6
    rw [rec_cells] at H6
    have hga := (H6.blk (g := ga) (e := 93) (List.Mem.head _)).lt
    have K6 := hide H6
    clear K5 hb6 hu6 H6
    go_wp2_with fail
    try refine NoPanic.normal ?_
    go_wp2_with fail
    go_ret2
    exact ⟨some ⟨ga, 0, none⟩, 12, by rw [HE.out.1, HE.out.2, recB_len]; rfl, by rw [HE.out.1, recB_len]; exact Nat.le_refl _, by rw [HE.out.1]; exact sep_blk K6.out⟩
end Go.Proofs.YtamlngdjbmndlaaDoor
namespace Go.Proofs.YtamlngdjbmndlaaDoor
open Go.RowKit Go.Gr
set_option linter.unusedVariables false
set_option linter.unusedSimpArgs false
attribute [local go_sem] rdOp rdAt rdUpon Cls forall_fr
/-- it returns bytes that may still grow, and an error -/
def RetO (w : World) (l : List Int) (er : Int) (e : Ending) (w' : World) : Prop := ∃ v, e = .returned (.tuple #[v, .int .i64 er]) ∧ Sep No w w' [As.own 5 v (byt l)]
end Go.Proofs.YtamlngdjbmndlaaDoor
