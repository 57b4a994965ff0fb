/- Texts put together: T0 I1 I2. -/
import Derived.Test.YtamlngdjbmndlaaDoorTkA
import Derived.Test.YtamlngdjbmndlaaDoorGa
namespace Go.Proofs.YtamlngdjbmndlaaDoor
open Go.RowKit Go.Gr
set_option linter.unusedVariables false
set_option linter.unusedSimpArgs false
/-- the record of a ticket: seat, owner, serial, epoch -/
def recT (s o n e : Int) : List Int := be 4 s ++ (be 4 o ++ (be 8 n ++ be 8 e))
theorem recT_len (s o n e : Int) : (recT s o n e).length = 24 := by simp [recT, be_length]
theorem recT_isB (s o n e : Int) : isB (recT s o n e) := by
  intro x hx
  rcases List.mem_append.1 hx with h | h
  · exact be_isB _ _ x h
  rcases List.mem_append.1 h with h | h
  · exact be_isB _ _ x h
  rcases List.mem_append.1 h with h | h
  · exact be_isB _ _ x h
  · exact be_isB _ _ x h
def tS (b : List Int) : Int := numB (b.take 4)
def tO (b : List Int) : Int := numB ((b.drop 4).take 4)
def tN (b : List Int) : Int := numB ((b.drop 8).take 8)
def tE (b : List Int) : Int := numB (b.drop 16)
structure TiB (s o n e : Int) : Prop where
  s0 : 0 ≤ s
  s1 : s < 4294967296
  o0 : 0 ≤ o
  o1 : o < 4294967296
  n0 : 0 ≤ n
  n1 : n < 18446744073709551616
  e0 : 0 ≤ e
  e1 : e < 18446744073709551616
theorem recT_dec {s o n e : Int} (h : TiB s o n e) : tS (recT s o n e) = s ∧ tO (recT s o n e) = o ∧ tN (recT s o n e) = n ∧ tE (recT s o n e) = e := by
  have l4 := be_length 4
  have l8 := be_length 8
  have h1 : (recT s o n e).take 4 = be 4 s := List.take_left' (l4 s)
  have h2 : (recT s o n e).drop 4 = be 4 o ++ (be 8 n ++ be 8 e) := List.drop_left' (l4 s)
  have h3 : (recT s o n e).drop 8 = be 8 n ++ be 8 e := by
    rw [show 8 = 4 + 4 from rfl, ← List.drop_drop, h2]
    exact List.drop_left' (l4 o)
  have h4 : (recT s o n e).drop 16 = be 8 e := by
    rw [show 16 = 8 + 8 from rfl, ← List.drop_drop, h3]
    exact List.drop_left' (l8 n)
  unfold tS tO tN tE
  rw [h1, h2, h3, h4, List.take_left' (l4 o), List.take_left' (l8 n), numB_be _ _ h.s0, numB_be _ _ h.o0, numB_be _ _ h.n0, numB_be _ _ h.e0]
  exact ⟨Int.emod_eq_of_lt h.s0 (by have := h.s1; omega), Int.emod_eq_of_lt h.o0 (by have := h.o1; omega), Int.emod_eq_of_lt h.n0 (by have := h.n1; omega), Int.emod_eq_of_lt h.e0 (by have := h.e1; omega)⟩
theorem dec_recT {b : List Int} (h : isB b) (hl : b.length = 24) : recT (tS b) (tO b) (tN b) (tE b) = b := by
  unfold recT tS tO tN tE
  have h1 := be_numB (isB_take h 4)
  have h2 := be_numB (isB_take (isB_drop h 4) 4)
  have h3 := be_numB (isB_take (isB_drop h 8) 8)
  have h4 := be_numB (isB_drop h 16)
  simp only [List.length_take, List.length_drop, hl] at h1 h2 h3 h4
  rw [show be 4 (numB (b.take 4)) = b.take 4 from h1, show be 4 (numB ((b.drop 4).take 4)) = (b.drop 4).take 4 from h2, show be 8 (numB ((b.drop 8).take 8)) = (b.drop 8).take 8 from h3, show be 8 (numB (b.drop 16)) = b.drop 16 from h4]
  have e3 : (b.drop 8).take 8 ++ b.drop 16 = b.drop 8 := by
    rw [show b.drop 16 = (b.drop 8).drop 8 by rw [List.drop_drop], List.take_append_drop]
  have e2 : (b.drop 4).take 4 ++ b.drop 8 = b.drop 4 := by
    rw [show b.drop 8 = (b.drop 4).drop 4 by rw [List.drop_drop], List.take_append_drop]
  rw [e3, e2, List.take_append_drop]
theorem dec_TiB {b : List Int} (h : isB b) (hl : b.length = 24) : TiB (tS b) (tO b) (tN b) (tE b) := by
  have h1 := numB_range (isB_take h 4)
  have h2 := numB_range (isB_take (isB_drop h 4) 4)
  have h3 := numB_range (isB_take (isB_drop h 8) 8)
  have h4 := numB_range (isB_drop h 16)
  simp only [List.length_take, List.length_drop, hl] at h1 h2 h3 h4
  exact ⟨h1.1, by simpa [tS] using h1.2, h2.1, by simpa [tO] using h2.2, h3.1, by simpa [tN] using h3.2, h4.1, by simpa [tE] using h4.2⟩
def ticB : List Int := [116, 105, 99, 107, 101, 116]
theorem ticB_isB : isB ticB := by unfold isB ticB; decide
/-- the tag of a record -/
def tagTi (key r : List Int) : List Int := tagB key (ticB ++ r)
theorem tagTi_len (key r : List Int) : (tagTi key r).length = 32 := tagB_len _ _
theorem tagTi_isB (key r : List Int) : isB (tagTi key r) := tagB_isB _ _
/-- seat, owner, serial, epoch -/
abbrev Tk := Int × Int × Int × Int
def encTE (s n : Int) : Int := if s < 4096 ∧ n ≠ 0 then 0 else 7
def encTB (s o n e : Int) : List Int := if s < 4096 ∧ n ≠ 0 then recT s o n e else []
def issTE (key : List Int) (s n : Int) : Int := if keyOk key then encTE s n else 2
def bloB (key r : List Int) : List Int := r ++ tagTi key r
def issTB (key : List Int) (s o n e : Int) : List Int := if keyOk key then (if s < 4096 ∧ n ≠ 0 then bloB key (recT s o n e) else []) else []
def decTE (b : List Int) : Int := if b.length = 24 then (if tS b < 4096 ∧ tN b ≠ 0 then 0 else 11) else 11
def decTV (b : List Int) : Tk := if decTE b = 0 then (tS b, tO b, tN b, tE b) else (0, 0, 0, 0)
def parTE (b : List Int) : Int := if b.length = 56 then decTE (b.take 24) else 11
def parTV (b : List Int) : Tk := if parTE b = 0 then decTV (b.take 24) else (0, 0, 0, 0)
def parTT (b : List Int) : List Int := if parTE b = 0 then b.drop 24 else List.replicate 32 0
def opTE (key b : List Int) : Int := if keyOk key then (if parTE b = 0 then (if tagTi key (b.take 24) = b.drop 24 then 0 else 12) else 11) else 2
def opTV (key b : List Int) : Tk := if opTE key b = 0 then decTV (b.take 24) else (0, 0, 0, 0)
theorem decTE_two (b : List Int) : decTE b = 0 ∨ decTE b = 11 := by unfold decTE; split <;> (try split) <;> simp
theorem decTE_zero {b : List Int} (h : decTE b = 0) : b.length = 24 ∧ tS b < 4096 ∧ tN b ≠ 0 := by
  unfold decTE at h
  split at h
  · rename_i h1
    split at h
    · rename_i h2; exact ⟨h1, h2⟩
    · cases h
  · cases h
theorem parTE_zero {b : List Int} (h : parTE b = 0) : b.length = 56 ∧ decTE (b.take 24) = 0 := by
  unfold parTE at h
  split at h
  · rename_i h1; exact ⟨h1, h⟩
  · cases h
theorem parTE_two (b : List Int) : parTE b = 0 ∨ parTE b = 11 := by
  unfold parTE
  split
  · exact decTE_two _
  · exact .inr rfl
theorem bloB_len {key r : List Int} (h : r.length = 24) : (bloB key r).length = 56 := by simp [bloB, tagTi_len, h]
theorem bloB_isB {key r : List Int} (h : isB r) : isB (bloB key r) := fun x hx => (List.mem_append.1 hx).elim (h x) (tagTi_isB _ _ x)
theorem bloB_take {key r : List Int} (h : r.length = 24) : (bloB key r).take 24 = r := List.take_left' h
theorem bloB_drop {key r : List Int} (h : r.length = 24) : (bloB key r).drop 24 = tagTi key r := List.drop_left' h
theorem decT_rec {s o n e : Int} (h : TiB s o n e) (hs : s < 4096) (hn : n ≠ 0) : decTE (recT s o n e) = 0 ∧ decTV (recT s o n e) = (s, o, n, e) := by
  obtain ⟨h1, h2, h3, h4⟩ := recT_dec h
  have he : decTE (recT s o n e) = 0 := by
    unfold decTE
    rw [if_pos (recT_len _ _ _ _), h1, h3, if_pos ⟨hs, hn⟩]
  exact ⟨he, by unfold decTV; rw [if_pos he, h1, h2, h3, h4]⟩
theorem opT_issue {key : List Int} {s o n e : Int} (hk : keyOk key) (h : TiB s o n e) (hs : s < 4096) (hn : n ≠ 0) : opTE key (bloB key (recT s o n e)) = 0 ∧ opTV key (bloB key (recT s o n e)) = (s, o, n, e) := by
  have hl := recT_len s o n e
  obtain ⟨hd, hv⟩ := decT_rec h hs hn
  have hp : parTE (bloB key (recT s o n e)) = 0 := by
    unfold parTE
    rw [if_pos (bloB_len hl), bloB_take hl, hd]
  have he : opTE key (bloB key (recT s o n e)) = 0 := by
    unfold opTE
    rw [if_pos hk, if_pos hp, bloB_take hl, bloB_drop hl, if_pos rfl]
  exact ⟨he, by unfold opTV; rw [if_pos he, bloB_take hl, hv]⟩
/-- what Open says of a blob with a changed bit -/
theorem guardedT {key r : List Int} (hk : keyOk key) (hr : isB r) (hrl : r.length = 24) (hd : decTE r = 0) {n : Nat} (hn : n < 448) :
    (decTE ((flipB (bloB key r) n).take 24) ≠ 0 → n < 192 ∧ opTE key (flipB (bloB key r) n) = 11) ∧
    (decTE ((flipB (bloB key r) n).take 24) = 0 →
      (n < 192 → bloB key ((flipB (bloB key r) n).take 24) = flipB (bloB key r) n → opTE key (flipB (bloB key r) n) = 0) ∧
      ((n < 192 → bloB key ((flipB (bloB key r) n).take 24) ≠ flipB (bloB key r) n) → opTE key (flipB (bloB key r) n) = 12)) := by
  have hBl : (bloB key r).length = 56 := bloB_len hrl
  have hBB : isB (bloB key r) := bloB_isB hr
  have hBt : (bloB key r).take 24 = r := bloB_take hrl
  have hBd : (bloB key r).drop 24 = tagTi key r := bloB_drop hrl
  generalize bloB key r = B at *
  have hCl : (flipB B n).length = 56 := by rw [flipB_len, hBl]
  have hCne := flipB_ne hBB (n := n) (by omega)
  have hset : flipB B n = B.set (n / 8) (bits .xor .u8 (B.getD (n / 8) 0) (2 ^ (n % 8) % 256)) := rfl
  have ht24 : ((flipB B n).take 24).length = 24 := by rw [List.length_take, hCl]; rfl
  have hsame : ¬ n < 192 → (flipB B n).take 24 = r := by
    intro h
    rw [hset, List.take_set, List.set_eq_of_length_le, hBt]
    rw [List.length_take, hBl]
    omega
  have hpar : parTE (flipB B n) = decTE ((flipB B n).take 24) := by unfold parTE; rw [if_pos hCl]
  constructor
  · intro h0
    have h11 : decTE ((flipB B n).take 24) = 11 := (decTE_two _).resolve_left h0
    refine ⟨?_, ?_⟩
    · by_cases h : n < 192
      · exact h
      · rw [hsame h, hd] at h0; exact absurd rfl h0
    · unfold opTE
      rw [if_pos hk, if_neg (by rw [hpar, h11]; decide)]
  · intro h0
    refine ⟨fun h96 ho => ?_, fun hno => ?_⟩
    · have : tagTi key ((flipB B n).take 24) = (flipB B n).drop 24 := by
        rw [← bloB_drop (key := key) ht24, ho]
      unfold opTE
      rw [if_pos hk, if_pos (hpar.trans h0), if_pos this]
    · have hne : tagTi key ((flipB B n).take 24) ≠ (flipB B n).drop 24 := by
        intro e
        by_cases h96 : n < 192
        · refine hno h96 ?_
          unfold bloB
          rw [e, List.take_append_drop]
        · have hs := hsame h96
          rw [hs, ← hBd] at e
          exact hCne (by rw [← List.take_append_drop 24 (flipB B n), hs, ← e, ← hBt, List.take_append_drop])
      unfold opTE
      rw [if_pos hk, if_pos (hpar.trans h0), if_neg hne]
end Go.Proofs.YtamlngdjbmndlaaDoor
namespace Go.Proofs.YtamlngdjbmndlaaDoor
open Go.RowKit Go.Gr
set_option linter.unusedVariables false
set_option linter.unusedSimpArgs false
attribute [local go_sem] rdOp rdAt rdUpon Cls forall_fr
theorem splice_get {α : Type} {L t : List α} {m : Nat} (h : m + t.length ≤ L.length) (j : Nat) : (splice L m t)[j]? = if j < m then L[j]? else if j < m + t.length then t[j - m]? else L[j]? := by
  unfold splice
  by_cases h1 : j < m
  · rw [if_pos h1, List.getElem?_append_left (by rw [List.length_take]; omega), List.getElem?_take, if_pos h1]
  · rw [if_neg h1]
    by_cases h2 : j < m + t.length
    · rw [if_pos h2, List.getElem?_append_right (by rw [List.length_take]; omega), List.getElem?_append_left (by rw [List.length_take]; omega), List.length_take, Nat.min_eq_left (by omega)]
    · rw [if_neg h2, List.getElem?_append_right (by rw [List.length_take]; omega), List.getElem?_append_right (by rw [List.length_take]; omega), List.getElem?_drop, List.length_take, Nat.min_eq_left (by omega)]
      congr 1; omega
theorem splice_len' {α : Type} {L t : List α} {m : Nat} (h : m + t.length ≤ L.length) : (splice L m t).length = L.length := splice_len _ _ _ h
theorem splice_snoc {α : Type} {L t : List α} {m : Nat} (h : m + t.length < L.length) (x : α) : (splice L m t).set (m + t.length) x = splice L m (t ++ [x]) := by
  apply List.ext_getElem?
  intro j
  rw [List.getElem?_set, splice_len' (by omega), splice_get (by omega), splice_get (by simp; omega), List.length_append, List.length_singleton]
  by_cases h1 : m + t.length = j
  · rw [if_pos h1, if_pos (by omega), if_neg (by omega), if_pos (by omega), List.getElem?_append_right (by omega), show j - m - t.length = 0 by omega]; rfl
  · rw [if_neg h1]
    by_cases h2 : j < m
    · rw [if_pos h2, if_pos h2]
    · rw [if_neg h2, if_neg h2]
      by_cases h3 : j < m + t.length
      · rw [if_pos h3, if_pos (by omega), List.getElem?_append_left (by omega)]
      · rw [if_neg h3, if_neg (by omega)]
theorem splice_setL {α : Type} {L t : List α} {m i : Nat} (h : m + t.length ≤ L.length) (hi : i < m) (x : α) : (splice L m t).set i x = splice (L.set i x) m t := by
  apply List.ext_getElem?
  intro j
  rw [List.getElem?_set, splice_len' h, splice_get h, splice_get (by rw [List.length_set]; exact h), List.getElem?_set]
  by_cases h1 : i = j
  · subst h1
    rw [if_pos rfl, if_pos (by omega), if_pos hi, if_pos rfl]
  · rw [if_neg h1, if_neg h1]
/-- a ticket as a value -/
abbrev tkc (s o n e : Int) : List Value := [.int .u32 s, .int .u32 o, .int .u64 n, .int .u64 e]
abbrev tkv (s o n e : Int) : Value := .agg #[.int .u32 s, .int .u32 o, .int .u64 n, .int .u64 e]
/-- two numbers written from the left -/
def two (D : List Value) (p k : Nat) (a b : Int) (i : Nat) : List Value := splice (splice D p (byt ((be k a).take i))) (p + k) (byt ((be k b).take i))
theorem btake_len {k i : Nat} (a : Int) (h : i ≤ k) : (byt ((be k a).take i)).length = i := by rw [byt_length, List.length_take, be_length]; omega
theorem two_len {D : List Value} {p k : Nat} (a b : Int) {i : Nat} (h : p + k + k ≤ D.length) (hi : i ≤ k) : (two D p k a b i).length = D.length := by
  unfold two
  rw [splice_len' (by rw [splice_len' (by rw [btake_len a hi]; omega), btake_len b hi]; omega), splice_len' (by rw [btake_len a hi]; omega)]
theorem two_zero {D : List Value} {p k : Nat} (a b : Int) : two D p k a b 0 = D := by unfold two; simp [byt, splice_nil]
theorem two_step {D : List Value} {p k : Nat} (a b : Int) {i : Nat} (h : p + k + k ≤ D.length) (hi : i < k) : ((two D p k a b i).set (p + i) (.int .u8 (a / 256 ^ (k - 1 - i) % 256))).set (p + k + i) (.int .u8 (b / 256 ^ (k - 1 - i) % 256)) = two D p k a b (i + 1) := by
  have la := btake_len (k := k) (i := i) a (by omega)
  have lb := btake_len (k := k) (i := i) b (by omega)
  have h1 : (splice D p (byt ((be k a).take i))).length = D.length := splice_len' (by rw [la]; omega)
  unfold two
  rw [splice_setL (by rw [h1, lb]; omega) (by omega)]
  have e1 : (splice D p (byt ((be k a).take i))).set (p + i) (.int .u8 (a / 256 ^ (k - 1 - i) % 256)) = splice D p (byt ((be k a).take (i + 1))) := by
    have := splice_snoc (L := D) (t := byt ((be k a).take i)) (m := p) (by rw [la]; omega) (.int .u8 (a / 256 ^ (k - 1 - i) % 256))
    rw [la] at this
    rw [this, be_next hi, byt_append]; rfl
  have hby : byt ((be k b).take (i + 1)) = byt ((be k b).take i) ++ [.int .u8 (b / 256 ^ (k - 1 - i) % 256)] := by rw [be_next hi, byt_append]; rfl
  rw [e1, hby]
  have h2 : (splice D p (byt ((be k a).take (i + 1)))).length = D.length := splice_len' (by rw [btake_len a (by omega)]; omega)
  have := splice_snoc (L := splice D p (byt ((be k a).take (i + 1)))) (t := byt ((be k b).take i)) (m := p + k) (by rw [lb, h2]; omega) (.int .u8 (b / 256 ^ (k - 1 - i) % 256))
  rw [lb] at this
  exact this
theorem splice_mid {α : Type} (P Z t : List α) {m : Nat} (h : P.length = m) : splice (P ++ Z) m t = P ++ (t ++ Z.drop t.length) := by
  unfold splice
  rw [List.take_left' h, ← h, List.drop_append, List.drop_of_length_le (by omega), show P.length + t.length - P.length = t.length by omega, List.nil_append]
theorem z8_drop (n k : Nat) : (Z8 n).drop k = Z8 (n - k) := by unfold Z8; rw [List.drop_replicate]
theorem two_rec (s o n e : Int) : two (two (Z8 24) 0 4 s o 4) 8 8 n e 8 = byt (recT s o n e) := by
  have t4 : ∀ a, (be 4 a).take 4 = be 4 a := fun a => List.take_of_length_le (by rw [be_length]; exact Nat.le_refl _)
  have t8 : ∀ a, (be 8 a).take 8 = be 8 a := fun a => List.take_of_length_le (by rw [be_length]; exact Nat.le_refl _)
  have l4 : ∀ a, (byt (be 4 a)).length = 4 := fun a => by rw [byt_length, be_length]
  have l8 : ∀ a, (byt (be 8 a)).length = 8 := fun a => by rw [byt_length, be_length]
  unfold two recT
  rw [t4, t4, t8, t8, byt_append, byt_append, byt_append]
  have e1 := splice_mid [] (Z8 24) (byt (be 4 s)) (m := 0) rfl
  rw [l4, z8_drop, List.nil_append, List.nil_append] at e1
  have e2 := splice_mid (byt (be 4 s)) (Z8 (24 - 4)) (byt (be 4 o)) (m := 4) (l4 s)
  rw [l4, z8_drop, ← List.append_assoc] at e2
  have e3 := splice_mid (byt (be 4 s) ++ byt (be 4 o)) (Z8 (24 - 4 - 4)) (byt (be 8 n)) (m := 8) (by rw [List.length_append, l4, l4])
  rw [l8, z8_drop, ← List.append_assoc] at e3
  have e4 := splice_mid (byt (be 4 s) ++ byt (be 4 o) ++ byt (be 8 n)) (Z8 (24 - 4 - 4 - 8)) (byt (be 8 e)) (m := 16) (by rw [List.length_append, List.length_append, l4, l4, l8])
  rw [l8, z8_drop] at e4
  rw [show (0 + 4 : Nat) = 4 from rfl, show (8 + 8 : Nat) = 16 from rfl, e1, e2, e3, e4]
  simp [Z8]
theorem infoTR : (Tryd.prog.info? 59).map (fun i => i.zero.map (·.cells)) = some (some (Z8 24).toArray) := by kernel_rfl
theorem tk4 {w : World} {g : Nat} {t : TypeId} {a b c d : Value} (h : Blk w g t [a, b, c, d]) : w.cell? ⟨g, 0, none⟩ = some a ∧ w.cell? ⟨g, 1, none⟩ = some b ∧ w.cell? ⟨g, 2, none⟩ = some c ∧ w.cell? ⟨g, 3, none⟩ = some d ∧ g < w.heap.size := ⟨h.cell 0, h.cell 1, h.cell 2, h.cell 3, h.lt⟩
theorem tkc_one (s o n e : Int) : ∀ v ∈ tkc s o n e, v.oneCell' = true := by
  intro v hv; simp at hv; rcases hv with rfl | rfl | rfl | rfl <;> rfl
/-- a new box that holds a ticket -/
theorem box_tk (w : World) (s o n e : Int) : Sep No w (w.alloc (.cells #[.int .u32 s, .int .u32 o, .int .u64 n, .int .u64 e] 25)) [As.blk w.heap.size 25 (tkc s o n e)] :=
  (Sep.refl No w).newB ((Ext.refl w).alloc (.cells #[.int .u32 s, .int .u32 o, .int .u64 n, .int .u64 e] 25)) (Blk.new w 25 (tkc s o n e)) (Nat.le_refl _)
set_option maxRecDepth 100000 in
set_option maxHeartbeats 2000000 in
theorem pack_any (s o n e : Int) (w : World) (ht : TiB s o n e) : Calls Tryd.prog 25 #[tkv s o n e] w fun r w' => r = .returned (.agg (byt (recT s o n e)).toArray) ∧ Ext w w' := by
  obtain ⟨hs0, hs1, ho0, ho1, hn0, hn1, he0, he1⟩ := ht
  have K0 := box_tk w s o n e
  have HS := hide (shift_val s · hs0)
  have HO := hide (shift_val o · ho0)
  have HN := hide (shift_val n · hn0)
  have HE := hide (shift_val e · he0)
  have tok1 : True := trivial
  have tok2 : True := trivial
  go_enter Tryd.func25, Tryd.ntmps25
  go_wp2_with (first
    | (have zz := tok1; clear zz tok1; refine wpList_alS K0 rfl 59 rfl (Z8 24) infoTR ?_; intro w1 hz1 K1; clear hz1)
    | (have zz := tok2; clear zz tok2; refine wpList_alS K1 rfl 59 rfl (Z8 24) infoTR ?_; intro w2 hz2 K2; clear hz2))
  obtain ⟨g1, G1⟩ : ∃ g, w.heap.size = g := ⟨_, rfl⟩
  obtain ⟨g2, G2⟩ : ∃ g, w.heap.size + 1 = g := ⟨_, rfl⟩
  have G2' : (w.alloc (.cells #[.int .u32 s, .int .u32 o, .int .u64 n, .int .u64 e] 25)).heap.size = g2 := by rw [← G2]; simp
  obtain ⟨g3, G3⟩ : ∃ g, w1.heap.size = g := ⟨_, rfl⟩
  have h12 : g1 < g2 := by omega
  have h23 : g2 < g3 := by rw [← G2', ← G3]; exact (K1.blk (List.Mem.head _)).lt
  rw [G2', G1, G3] at K2
  rw [G2, G1, G3]
  clear K0 K1 G1 G2 G3 G2'
  have K3 : Hid (Sep No w w2 [As.blk g3 59 (two (Z8 24) 0 4 s o 0), As.blk g2 59 (Z8 24), As.blk g1 25 (tkc s o n e)]) := hide (by rw [two_zero]; exact K2)
  clear K2
  go_loopw [6] (fun i wr => ∃ k : Nat, i = .int .i64 k ∧ k ≤ 4 ∧ Hid (Sep No w wr [As.blk g3 59 (two (Z8 24) 0 4 s o k), As.blk g2 59 (Z8 24), As.blk g1 25 (tkc s o n e)])) (fun i _ => 4 - (intOf i).toNat)
  case atStart => exact ⟨0, rfl, by omega, K3⟩
  case round =>
    obtain ⟨k, rfl, hk, HK⟩ := hrel
    clear K3
    by_cases hlt : k < 4
    · have hki : (k : Int) < 4 := by omega
      obtain ⟨p, hp⟩ : ∃ p : Nat, 3 - k = p := ⟨_, rfl⟩
      have hsh : 24 - 8 * (k : Int) = 8 * (p : Int) := by omega
      have hp32 : 8 * (p : Int) < 32 := by omega
      have hp0 : (0 : Int) ≤ 8 * (p : Int) := by omega
      have hpt : (8 * (p : Int)).toNat = 8 * p := by omega
      have hw1 : IntKind.i64.wrap (8 * (k : Int)) = 8 * (k : Int) := IntWalk.i64_in _ (by omega)
      have hw2 : IntKind.i64.wrap (8 * (p : Int)) = 8 * (p : Int) := IntWalk.i64_in _ (by omega)
      have hw3 : IntKind.i64.wrap (4 + (k : Int)) = 4 + (k : Int) := IntWalk.i64_in _ (by omega)
      have hk24 : (k : Int) < 24 := by omega
      have hk28 : 4 + (k : Int) < 24 := by omega
      have hk0 : (0 : Int) ≤ 4 + (k : Int) := by omega
      have hkt : (4 + (k : Int)).toNat = 4 + k := by omega
      have HST : Hid (((two (Z8 24) 0 4 s o k).set k (.int .u8 (s / 2 ^ (8 * p) % 256))).set (4 + k) (.int .u8 (o / 2 ^ (8 * p) % 256)) = two (Z8 24) 0 4 s o (k + 1)) := hide (by
        have := two_step (D := Z8 24) (p := 0) (k := 4) s o (by simp [Z8]) hlt
        rw [Nat.zero_add, Nat.zero_add, show 4 - 1 - k = p by omega, ← HS.out p, ← HO.out p] at this
        exact this)
      have HLT := hide hlt
      have HLN := hide (two_len (D := Z8 24) (p := 0) (k := 4) s o (by simp [Z8]) hk)
      go_upto_region 5 with fail
      refine wp_region_wmr (RT.fr (At g3)) [0, 1, 2, 3, 4, 5, 6, 7, 8, 9, 10, 11, 12, 13, 14, 15, 16, 17, 18, 19, 20] (by kernel_rfl) (by kernel_rfl) (by kernel_rfl) (by kernel_rfl) ?_
      have KD := HK.out.drew
      clear HK
      generalize World.drew _ = wd at *
      have hb1 := KD.blk (g := g1) (e := 25) (cs := tkc s o n e) (List.Mem.tail _ (List.Mem.tail _ (List.Mem.head _)))
      have hg3 := (KD.blk (g := g3) (e := 59) (List.Mem.head _)).lt
      have H13 : ¬ At g3 g1 := by unfold At; omega
      iterate 4 (refine wmr_rd rfl rfl (fun K hK => ?_); go_simp; refine hK _ ?_; clear hK K)
      refine wmr_ld1 rfl rfl 22 (.tmp 12) rfl rfl (fun w' h' => Fr.cell h' ((hb1.cell 0).trans rfl) H13) _ Tryd.underlying22 rfl ?_
      iterate 6 (refine wmr_rd rfl rfl (fun K hK => ?_); go_simp; refine hK _ ?_; clear hK K)
      refine wmr_ld1 rfl rfl 22 (.tmp 19) rfl rfl (fun w' h' => Fr.cell h' ((hb1.cell 1).trans rfl) H13) _ Tryd.underlying22 rfl ?_
      iterate 5 (refine wmr_rd rfl rfl (fun K hK => ?_); go_simp; refine hK _ ?_; clear hK K)
      iterate 1 (refine wmr_rd rfl rfl (fun K hK => ?_); go_simp; refine hK _ ?_; clear hK K)
      refine wmr_ext rfl rfl (fun K hK => ?_)
      rw [if_pos (show Region.wanted _ _ = true from rfl)]
      refine wp_st1S [] KD 5 (.tmp 26) (.tmp 18) rfl (v := .int .u8 (s / 2 ^ (8 * p) % 256)) (i := k) rfl rfl (by kernel_rfl) (by rw [HLN.out]; simp [Z8]; omega) rfl (fun w3 K3 hu3 => hK _ _ (Fr.of_upd hu3) ?_)
      dsimp only [List.nil_append] at K3
      clear hK K hu3 KD
      iterate 1 (refine wmr_rd rfl rfl (fun K hK => ?_); go_simp; refine hK _ ?_; clear hK K)
      refine wmr_ext rfl rfl (fun K hK => ?_)
      rw [if_pos (show Region.wanted _ _ = true from rfl)]
      refine wp_st1S [] K3 5 (.tmp 27) (.tmp 25) rfl (v := .int .u8 (o / 2 ^ (8 * p) % 256)) (i := 4 + k) rfl rfl (by kernel_rfl) (by rw [List.length_set, HLN.out]; simp [Z8]; omega) rfl (fun w4 K4 hu4 => hK _ _ (Fr.of_upd hu4) ?_)
      dsimp only [List.nil_append] at K4
      rw [HST.out] at K4
      clear hK K hu4 K3
      have K5 := hide K4
      clear K4
      refine wmr_nil ?_
      go_wp2_with fail
      go_roundw
      case rel => exact ⟨k + 1, by go_num, HLT.out, K5⟩
      case measure => have := HLT.out; simp [intOf]; omega
    · have hki : ¬ (k : Int) < 4 := by omega
      obtain rfl : k = 4 := by omega
      clear hlt
      have K6 : Hid (Sep No w wr [As.blk g3 59 (two (two (Z8 24) 0 4 s o 4) 8 8 n e 0), As.blk g2 59 (Z8 24), As.blk g1 25 (tkc s o n e)]) := hide (by rw [two_zero]; exact HK.out)
      have HD24 : Hid ((two (Z8 24) 0 4 s o 4).length = 24) := hide (by rw [two_len _ _ (by simp [Z8]) (by omega)]; simp [Z8])
      have HREC := hide (two_rec s o n e)
      clear HK
      generalize two (Z8 24) 0 4 s o 4 = D at *
      go_wp2_with fail
      go_loopw [29] (fun i wr => ∃ k : Nat, i = .int .i64 k ∧ k ≤ 8 ∧ Hid (Sep No w wr [As.blk g3 59 (two D 8 8 n e k), As.blk g2 59 (Z8 24), As.blk g1 25 (tkc s o n e)])) (fun i _ => 8 - (intOf i).toNat)
      case atStart => exact ⟨0, rfl, by omega, K6⟩
      case round =>
        obtain ⟨k, rfl, hk, HK⟩ := hrel
        clear K6
        by_cases hlt : k < 8
        · have hki : (k : Int) < 8 := by omega
          obtain ⟨p, hp⟩ : ∃ p : Nat, 7 - k = p := ⟨_, rfl⟩
          have hsh : 56 - 8 * (k : Int) = 8 * (p : Int) := by omega
          have hp32 : 8 * (p : Int) < 64 := by omega
          have hp0 : (0 : Int) ≤ 8 * (p : Int) := by omega
          have hpt : (8 * (p : Int)).toNat = 8 * p := by omega
          have hw1 : IntKind.i64.wrap (8 * (k : Int)) = 8 * (k : Int) := IntWalk.i64_in _ (by omega)
          have hw2 : IntKind.i64.wrap (8 * (p : Int)) = 8 * (p : Int) := IntWalk.i64_in _ (by omega)
          have hw3 : IntKind.i64.wrap (8 + (k : Int)) = 8 + (k : Int) := IntWalk.i64_in _ (by omega)
          have hw4 : IntKind.i64.wrap (16 + (k : Int)) = 16 + (k : Int) := IntWalk.i64_in _ (by omega)
          have hk24 : 8 + (k : Int) < 24 := by omega
          have hk28 : 16 + (k : Int) < 24 := by omega
          have hk0 : (0 : Int) ≤ 8 + (k : Int) := by omega
          have hk1 : (0 : Int) ≤ 16 + (k : Int) := by omega
          have hkt : (8 + (k : Int)).toNat = 8 + k := by omega
          have hkt2 : (16 + (k : Int)).toNat = 16 + k := by omega
          have HST : Hid (((two D 8 8 n e k).set (8 + k) (.int .u8 (n / 2 ^ (8 * p) % 256))).set (16 + k) (.int .u8 (e / 2 ^ (8 * p) % 256)) = two D 8 8 n e (k + 1)) := hide (by
            have := two_step (D := D) (p := 8) (k := 8) n e (by rw [HD24.out]; omega) hlt
            rw [show 8 - 1 - k = p by omega, ← HN.out p, ← HE.out p] at this
            exact this)
          have HLT := hide hlt
          have HLN := hide (two_len (D := D) (p := 8) (k := 8) n e (by rw [HD24.out]; omega) hk)
          rw [HD24.out] at HLN
          go_upto_region 10 with fail
          refine wp_region_wmr (RT.fr (At g3)) [0, 1, 2, 3, 4, 5, 6, 7, 8, 9, 10, 11, 12, 13, 14, 15, 16, 17, 18, 19, 20, 21] (by kernel_rfl) (by kernel_rfl) (by kernel_rfl) (by kernel_rfl) ?_
          have KD := HK.out.drew
          clear HK
          generalize World.drew _ = wd at *
          have hb1 := KD.blk (g := g1) (e := 25) (cs := tkc s o n e) (List.Mem.tail _ (List.Mem.tail _ (List.Mem.head _)))
          have hg3 := (KD.blk (g := g3) (e := 59) (List.Mem.head _)).lt
          have H13 : ¬ At g3 g1 := by unfold At; omega
          iterate 5 (refine wmr_rd rfl rfl (fun K hK => ?_); go_simp; refine hK _ ?_; clear hK K)
          refine wmr_ld1 rfl rfl 23 (.tmp 36) rfl rfl (fun w' h' => Fr.cell h' ((hb1.cell 2).trans rfl) H13) _ Tryd.underlying23 rfl ?_
          iterate 6 (refine wmr_rd rfl rfl (fun K hK => ?_); go_simp; refine hK _ ?_; clear hK K)
          refine wmr_ld1 rfl rfl 23 (.tmp 43) rfl rfl (fun w' h' => Fr.cell h' ((hb1.cell 3).trans rfl) H13) _ Tryd.underlying23 rfl ?_
          iterate 5 (refine wmr_rd rfl rfl (fun K hK => ?_); go_simp; refine hK _ ?_; clear hK K)
          iterate 1 (refine wmr_rd rfl rfl (fun K hK => ?_); go_simp; refine hK _ ?_; clear hK K)
          refine wmr_ext rfl rfl (fun K hK => ?_)
          rw [if_pos (show Region.wanted _ _ = true from rfl)]
          refine wp_st1S [] KD 5 (.tmp 50) (.tmp 42) rfl (v := .int .u8 (n / 2 ^ (8 * p) % 256)) (i := 8 + k) rfl rfl (by kernel_rfl) (by rw [HLN.out]; omega) rfl (fun w3 K3 hu3 => hK _ _ (Fr.of_upd hu3) ?_)
          dsimp only [List.nil_append] at K3
          clear hK K hu3 KD
          iterate 1 (refine wmr_rd rfl rfl (fun K hK => ?_); go_simp; refine hK _ ?_; clear hK K)
          refine wmr_ext rfl rfl (fun K hK => ?_)
          rw [if_pos (show Region.wanted _ _ = true from rfl)]
          refine wp_st1S [] K3 5 (.tmp 51) (.tmp 49) rfl (v := .int .u8 (e / 2 ^ (8 * p) % 256)) (i := 16 + k) rfl rfl (by kernel_rfl) (by rw [List.length_set, HLN.out]; omega) rfl (fun w4 K4 hu4 => hK _ _ (Fr.of_upd hu4) ?_)
          dsimp only [List.nil_append] at K4
          rw [HST.out] at K4
          clear hK K hu4 K3
          have K5 := hide K4
          clear K4
          refine wmr_nil ?_
          go_wp2_with fail
          go_roundw
          case rel => exact ⟨k + 1, by go_num, HLT.out, K5⟩
          case measure => have := HLT.out; simp [intOf]; omega
        · have hki : ¬ (k : Int) < 8 := by omega
          obtain rfl : k = 8 := by omega
          clear hlt
          have K7 := HK.out
          rw [HREC.out] at K7
          clear HK
          have HL24 : Hid ((byt (recT s o n e)).length = 24) := hide (by rw [byt_length, recT_len])
          obtain ⟨r, HRR⟩ : ∃ r, Hid (recT s o n e = r) := ⟨_, hide rfl⟩
          rw [HRR.out] at K7 HL24
          have tok3 : True := trivial
          have tok4 : True := trivial
          go_wp2_with (first
            | (have zz := tok3; clear zz tok3; refine wpList_ldS K7 (List.Mem.head _) rfl 59 (.tmp 3) rfl rfl _ Tryd.underlying59 rfl (by rw [HL24.out]; kernel_rfl) ?_)
            | (have zz := tok4; clear zz tok4; refine wpList_stS [_] K7 rfl 59 (.tmp 2) (.tmp 53) rfl rfl (cs := byt r) rfl (by rw [HL24.out]; kernel_rfl) (by rw [HL24.out]; rfl) (byt_one _) ?_; intro w9 K9; dsimp only [List.nil_append, List.cons_append] at K9))
          have hB := K9.blk (g := g2) (e := 59) (cs := byt r) (List.Mem.tail _ (List.Mem.head _))
          refine bodyPost_ret (v := .agg (byt r).toArray) (results_cell_row rfl _ _ g2 59 (byt r).toArray (0, 0) _ rfl hB Tryd.underlying59 rfl (by rw [List.size_toArray, HL24.out]; kernel_rfl)) rfl ⟨by rw [HRR.out], K9.toExt⟩
end Go.Proofs.YtamlngdjbmndlaaDoor
namespace Go.Proofs.YtamlngdjbmndlaaDoor
open Go.RowKit Go.Gr
set_option linter.unusedVariables false
set_option linter.unusedSimpArgs false
attribute [local go_sem] rdOp rdAt rdUpon Cls forall_fr
theorem tnumber_any (l : List Int) (A : Option Addr) (c : Nat) (w : World) (hr : Rd w A (byt l)) (hb : isB l) (hl : l.length ≤ 8) :
    Calls Tryd.prog 27 #[.slice A l.length c] w fun e w' => e = .returned (.int .u64 (numB l)) ∧ w = w' := by
  have HR := hide hr
  have HB := hide hb
  clear hr hb
  go_enter Tryd.func27, Tryd.ntmps27
  go_wp2_with fail
  go_loop [3, 4] (fun n i => ∃ k : Nat, k ≤ l.length ∧ i = .int .i64 k ∧ n = .int .u64 (numB (l.take k))) (fun _ i => l.length - (intOf i).toNat)
  case atStart => exact ⟨0, Nat.zero_le _, rfl, rfl⟩
  case round =>
    obtain ⟨k, hk, rfl, rfl⟩ := hrel
    by_cases hlt : k < l.length
    · have hki : (k : Int) < (l.length : Int) := by omega
      have hbd := numB_take_lt HB.out (show k ≤ 7 by omega)
      have hx := HB.out l[k] (List.getElem_mem _)
      have hs := hide (numB_next hlt)
      obtain ⟨ad, rfl, hcell⟩ := HR.out.at_ (k := k) (by simpa using hlt)
      rw [byt_get hlt] at hcell
      obtain ⟨x, HX⟩ : ∃ x, Hid (l[k] = x) := ⟨_, hide rfl⟩
      rw [HX.out] at hcell hs hx
      generalize numB (l.take k) = n at *
      simp only [Int.reducePow] at hbd
      obtain ⟨n0, n1⟩ := hbd
      obtain ⟨x0, x1⟩ := hx
      go_wp2_with fail
      go_round
      case rel => exact ⟨k + 1, by omega, by go_num, by rw [hs.out]⟩
      case measure => simp [intOf]; omega
    · obtain rfl : k = l.length := by omega
      rw [List.take_of_length_le (Nat.le_refl _)]
      go_wp2_with fail
      go_ret
      exact ⟨rfl, rfl⟩
set_option maxRecDepth 100000 in
theorem tbytes_any (n : Int) (k : Nat) (w : World) (hk : k ≤ 8) (hn : 0 ≤ n ∧ n < 18446744073709551616) : Calls Tryd.prog 26 #[.int .u64 n, .int .i64 k] w (OwnB w (be k n)) := by
  obtain ⟨i0, hi, hz0, hz1, hz2⟩ := info_parts info8
  obtain ⟨n0, n1⟩ := hn
  go_enter Tryd.func26, Tryd.ntmps26
  go_wp2_with fail
  go_loopw [5, 6] (fun v i wr => ∃ (j : Nat) (ii : Int), i = .int .i64 ii ∧ -1 ≤ ii ∧ ii + 1 + j = k ∧ Hid (Sep No w wr [As.own 5 v (byt ((be k n).take j))])) (fun _ i _ => (intOf i + 1).toNat)
  case atStart => exact ⟨0, (k : Int) - 1, rfl, by omega, by omega, hide ((Sep.refl No w).nilO 5)⟩
  case round =>
    obtain ⟨j, ii, rfl, hi1, hj, HS⟩ := hrel
    by_cases hlt : 0 ≤ ii
    · obtain ⟨p, rfl⟩ : ∃ p : Nat, ii = p := ⟨ii.toNat, by omega⟩
      have hjk : j < k := by omega
      have HN := hide (be_next (n := n) hjk)
      have HV := hide (shift_val n p n0)
      have hp : k - 1 - j = p := by omega
      rw [hp, ← HV.out] at HN
      have HLE : Hid ((byt ((be k n).take j)).length < 1000000000) := hide (by rw [byt_length, List.length_take, be_length]; omega)
      have hp8 : (8 * (p : Int)).toNat = 8 * p := by omega
      have hp64 : 8 * (p : Int) < 64 := by omega
      have tok3 : True := trivial
      clear hp hlt HV
      go_wp2_with (have zz := tok3; clear zz tok3; refine wpList_pushS [] HS.out rfl _ _ 26 rfl i0 (.int .u8 0) 1 Tryd.underlying26 hi hz0 hz1 hz2 rfl rfl rfl rfl HLE.out (by omega) ?_; intro v4 w4 H4; dsimp only [List.nil_append] at H4; have K4 := hide H4; clear H4)
      go_roundw
      case rel => exact ⟨j + 1, (p : Int) - 1, rfl, by omega, by omega, hide (by rw [HN.out, byt_append]; exact K4.out)⟩
      case measure => simp [intOf]
    · have hjk : j = k := by omega
      have H := HS.out
      rw [List.take_of_length_le (by rw [be_length]; omega)] at H
      have K := hide H
      clear HS H
      go_wp2_with fail
      go_ret
      exact ⟨_, rfl, K.out⟩
theorem tgood_any (l : List Int) (A : Option Addr) (c : Nat) (w : World) : Calls Tryd.prog 28 #[.slice A l.length c] w fun e w' => e = .returned (.bool (decide (keyOk l))) ∧ w = w' := by
  by_cases h1 : 1 ≤ l.length
  · have d1 : (1 : Int) ≤ (l.length : Int) := by omega
    by_cases h2 : l.length ≤ 64
    · have d2 : (l.length : Int) ≤ 64 := by omega
      have hk : decide (keyOk l) = true := decide_eq_true ⟨h1, h2⟩
      rw [hk]
      go_enter Tryd.func28, Tryd.ntmps28
      go_wp2_with fail
      go_ret
      exact ⟨rfl, rfl⟩
    · have d2 : ¬ (l.length : Int) ≤ 64 := by omega
      have hk : decide (keyOk l) = false := decide_eq_false (fun h => h2 h.2)
      rw [hk]
      go_enter Tryd.func28, Tryd.ntmps28
      go_wp2_with fail
      go_ret
      exact ⟨rfl, rfl⟩
  · have d1 : ¬ (1 : Int) ≤ (l.length : Int) := by omega
    have hk : decide (keyOk l) = false := decide_eq_false (fun h => h1 h.1)
    rw [hk]
    go_enter Tryd.func28, Tryd.ntmps28
    go_wp2_with fail
    go_ret
    exact ⟨rfl, rfl⟩
theorem tkey_any (l : List Int) (A : Option Addr) (c : Nat) (w : World) : Calls Tryd.prog 31 #[.slice A l.length c] w fun e w' => e = .returned (.int .i64 (if keyOk l then 0 else 2)) ∧ w = w' := by
  by_cases h1 : 1 ≤ l.length
  · have d1 : ¬ (l.length : Int) < 1 := by omega
    by_cases h2 : l.length ≤ 64
    · have d2 : ¬ 64 < (l.length : Int) := by omega
      rw [if_pos (show keyOk l from ⟨h1, h2⟩)]
      go_enter Tryd.func31, Tryd.ntmps31
      go_wp2_with fail
      go_ret
      exact ⟨rfl, rfl⟩
    · have d2 : 64 < (l.length : Int) := by omega
      rw [if_neg (show ¬ keyOk l from fun h => h2 h.2)]
      go_enter Tryd.func31, Tryd.ntmps31
      go_wp2_with fail
      go_ret
      exact ⟨rfl, rfl⟩
  · have d1 : (l.length : Int) < 1 := by omega
    rw [if_neg (show ¬ keyOk l from fun h => h1 h.1)]
    go_enter Tryd.func31, Tryd.ntmps31
    go_wp2_with fail
    go_ret
    exact ⟨rfl, rfl⟩
theorem tbytes4 (n : Int) (w : World) (hn : 0 ≤ n ∧ n < 18446744073709551616) : Calls Tryd.prog 26 #[.int .u64 n, .int .i64 4] w (OwnB w (be 4 n)) := tbytes_any n 4 w (by decide) hn
theorem tbytes8 (n : Int) (w : World) (hn : 0 ≤ n ∧ n < 18446744073709551616) : Calls Tryd.prog 26 #[.int .u64 n, .int .i64 8] w (OwnB w (be 8 n)) := tbytes_any n 8 w (by decide) hn
theorem encT_bad {s o n e : Int} (h : ¬ (s < 4096 ∧ n ≠ 0)) : encTB s o n e = [] ∧ encTE s n = 7 := ⟨by unfold encTB; rw [if_neg h], by unfold encTE; rw [if_neg h]⟩
theorem encT_ok {s o n e : Int} (h : s < 4096 ∧ n ≠ 0) : encTB s o n e = recT s o n e ∧ encTE s n = 0 := ⟨by unfold encTB; rw [if_pos h], by unfold encTE; rw [if_pos h]⟩
set_option maxRecDepth 100000 in
set_option maxHeartbeats 2000000 in
theorem tenc_any (s1 o1 n1 e1 : Int) (w : World) (ht : TiB s1 o1 n1 e1) : Calls Tryd.prog 11 #[tkv s1 o1 n1 e1] w (RetS w (encTB s1 o1 n1 e1) (encTE s1 n1)) := by
  obtain ⟨i0, hi, hz0, hz1, hz2⟩ := info_parts info8
  have HT := hide ht
  have H0 := box_tk w s1 o1 n1 e1
  obtain ⟨hs0, hs1, ho0, ho1, hn0, hn1, he0, he1⟩ := ht
  by_cases h1 : s1 < 4096
  rotate_left
  · have HE := hide (encT_bad (s := s1) (o := o1) (n := n1) (e := e1) (fun h => h1 h.1))
    have d1 : 4096 ≤ s1 := by omega
    clear h1
    go_enter Tryd.func11, Tryd.ntmps11
    go_upto_region 1 with fail
    generalize w.alloc _ = w1 at H0 ⊢
    generalize w.heap.size = g0 at H0 ⊢
    obtain ⟨c0, c1, c2, c3, cz⟩ := tk4 (H0.blk (g := g0) (List.Mem.head _))
    have K0 := hide H0
    clear H0
    go_wp2_with fail
    go_ret2
    exact ⟨none, 0, by rw [HE.out.1, HE.out.2]; rfl, by rw [HE.out.1]; exact Nat.le_refl _, by rw [HE.out.1]; exact sep_nil K0.out⟩
  by_cases h2 : n1 = 0
  · have HE := hide (encT_bad (s := s1) (o := o1) (n := n1) (e := e1) (fun h => h.2 h2))
    have d2 : (n1 == 0) = true := beq_iff_eq.2 h2
    have d1 : ¬ 4096 ≤ s1 := by omega
    clear h1 h2
    go_enter Tryd.func11, Tryd.ntmps11
    go_upto_region 1 with fail
    generalize w.alloc _ = w1 at H0 ⊢
    generalize w.heap.size = g0 at H0 ⊢
    obtain ⟨c0, c1, c2, c3, cz⟩ := tk4 (H0.blk (g := g0) (List.Mem.head _))
    have K0 := hide H0
    clear H0
    go_wp2_with fail
    go_ret2
    exact ⟨none, 0, by rw [HE.out.1, HE.out.2]; rfl, by rw [HE.out.1]; exact Nat.le_refl _, by rw [HE.out.1]; exact sep_nil K0.out⟩
  have HE := hide (encT_ok (s := s1) (o := o1) (n := n1) (e := e1) ⟨h1, h2⟩)
  have d2 : (n1 == 0) = false := beq_eq_false_iff_ne.2 h2
  have d1 : ¬ 4096 ≤ s1 := by omega
  clear h1 h2
  go_enter Tryd.func11, Tryd.ntmps11
  go_upto_region 1 with fail
  generalize w.alloc _ = w1 at H0 ⊢
  generalize w.heap.size = g0 at H0 ⊢
  obtain ⟨c0, c1, c2, c3, cz⟩ := tk4 (H0.blk (g := g0) (List.Mem.head _))
  have HP := hide (fun (x : World) => pack_any s1 o1 n1 e1 x HT.out)
  obtain ⟨r, HRR⟩ : ∃ r, Hid (recT s1 o1 n1 e1 = r) := ⟨_, hide rfl⟩
  have HRL : Hid ((byt r).length = 24) := hide (by rw [← HRR.out, byt_length, recT_len])
  have HRN : Hid (r.length = 24) := hide (by rw [← HRR.out, recT_len])
  rw [HRR.out] at HE HP
  go_wp2_with fail
  (with_reducible refine (HP.out _).mono ?_)
  rintro e w2 ⟨rfl, hx⟩
  have H2 := H0.ext hx
  clear H0 hx c0 c1 c2 c3 cz HP HRR
  have tok1 : True := trivial
  have tok2 : True := trivial
  go_wp2_with (first
    | (have zz := tok1; clear zz tok1; refine wpList_alS H2 rfl 59 rfl (Z8 24) infoTR ?_; intro w3 hz3 H3; clear H2 hz3)
    | (have zz := tok2; clear zz tok2; refine wpList_stS [] H3 rfl 59 (.tmp 4) (.tmp 14) rfl rfl (cs := byt r) rfl (by rw [HRL.out]; kernel_rfl) (by rw [HRL.out]; rfl) (byt_one _) ?_; intro w4 H4; dsimp only [List.nil_append] at H4; clear H3))
  have K4 := hide H4
  clear H4
  obtain ⟨gr, GR⟩ : ∃ g, w2.heap.size = g := ⟨_, rfl⟩
  rw [GR] at K4 ⊢
  clear GR
  have hgr := (K4.out.blk (g := gr) (e := 59) (List.Mem.head _)).lt
  go_wp2_with fail
  go_ret2
  refine ⟨some ⟨gr, 0, none⟩, 24, by (rw [HE.out.1, HE.out.2, HRN.out]; rfl), by rw [HE.out.1, HRN.out]; exact Nat.le_refl _, ?_⟩
  rw [HE.out.1]
  exact sep_blk K4.out
set_option maxRecDepth 100000 in
set_option maxHeartbeats 2000000 in
theorem rtenc_any (s1 o1 n1 e1 : Int) (w : World) (ht : TiB s1 o1 n1 e1) : Calls Tryd.prog 12 #[tkv s1 o1 n1 e1] w (RetO w (encTB s1 o1 n1 e1) (encTE s1 n1)) := by
  obtain ⟨i0, hi, hz0, hz1, hz2⟩ := info_parts info8
  have HT := hide ht
  have H0 := box_tk w s1 o1 n1 e1
  obtain ⟨hs0, hs1, ho0, ho1, hn0, hn1, he0, he1⟩ := ht
  by_cases h1 : s1 < 4096
  rotate_left
  · have HE := hide (encT_bad (s := s1) (o := o1) (n := n1) (e := e1) (fun h => h1 h.1))
    have d1 : 4096 ≤ s1 := by omega
    clear h1
    go_enter Tryd.func12, Tryd.ntmps12
    go_upto_region 1 with fail
    generalize w.alloc _ = w1 at H0 ⊢
    generalize w.heap.size = g0 at H0 ⊢
    obtain ⟨c0, c1, c2, c3, cz⟩ := tk4 (H0.blk (g := g0) (List.Mem.head _))
    have K0 := hide H0
    clear H0
    go_wp2_with fail
    go_ret2
    exact ⟨.slice none 0 0, by rw [HE.out.2]; rfl, by rw [HE.out.1]; exact (K0.out.nilO 5).sub (List.cons_sublist_cons.2 (List.nil_sublist _))⟩
  by_cases h2 : n1 = 0
  · have HE := hide (encT_bad (s := s1) (o := o1) (n := n1) (e := e1) (fun h => h.2 h2))
    have d2 : (n1 == 0) = true := beq_iff_eq.2 h2
    have d1 : ¬ 4096 ≤ s1 := by omega
    clear h1 h2
    go_enter Tryd.func12, Tryd.ntmps12
    go_upto_region 1 with fail
    generalize w.alloc _ = w1 at H0 ⊢
    generalize w.heap.size = g0 at H0 ⊢
    obtain ⟨c0, c1, c2, c3, cz⟩ := tk4 (H0.blk (g := g0) (List.Mem.head _))
    have K0 := hide H0
    clear H0
    go_wp2_with fail
    go_ret2
    exact ⟨.slice none 0 0, by rw [HE.out.2]; rfl, by rw [HE.out.1]; exact (K0.out.nilO 5).sub (List.cons_sublist_cons.2 (List.nil_sublist _))⟩
  have HE := hide (encT_ok (s := s1) (o := o1) (n := n1) (e := e1) ⟨h1, h2⟩)
  have d2 : (n1 == 0) = false := beq_eq_false_iff_ne.2 h2
  have d1 : ¬ 4096 ≤ s1 := by omega
  clear h1 h2
  go_enter Tryd.func12, Tryd.ntmps12
  go_upto_region 1 with fail
  generalize w.alloc _ = w1 at H0 ⊢
  generalize w.heap.size = g0 at H0 ⊢
  obtain ⟨c0, c1, c2, c3, cz⟩ := tk4 (H0.blk (g := g0) (List.Mem.head _))
  go_upto_region 3 with fail
  refine wp_region_wtR (RT.fr No) 8 [0, 1, 2, 4, 5, 6, 3, 7] (by kernel_rfl) (by kernel_rfl) (by kernel_rfl) ?_
  have H3 := H0.drew
  clear H0 c0 c1 c2 c3 cz
  generalize w1.drew = wd at *
  have hb3 := H3.blk (g := g0) (e := 25) (cs := tkc s1 o1 n1 e1) (List.Mem.head _)
  have hgb := hb3.lt
  have hsw : IntKind.u64.wrap s1 = s1 := IntWalk.u64_in _ (by omega)
  have how : IntKind.u64.wrap o1 = o1 := IntWalk.u64_in _ (by omega)
  iterate 1 (refine wr_rd rfl rfl (fun K hK => ?_); go_simp; refine hK _ ?_; clear hK K)
  refine wr_ld1 rfl rfl 22 (.tmp 13) rfl rfl (fun w' h => Fr.cell h ((hb3.cell 0).trans rfl) (fun h => h)) _ Tryd.underlying22 rfl ?_
  iterate 2 (refine wr_rd rfl rfl (fun K hK => ?_); go_simp; refine hK _ ?_; clear hK K)
  refine wr_ld1 rfl rfl 22 (.tmp 17) rfl rfl (fun w' h => Fr.cell h ((hb3.cell 1).trans rfl) (fun h => h)) _ Tryd.underlying22 rfl ?_
  iterate 1 (refine wr_rd rfl rfl (fun K hK => ?_); go_simp; refine hK _ ?_; clear hK K)
  clear hb3
  refine wr_ext rfl rfl (fun K hK => ?_)
  go_simp
  go_at_call 26
  (with_reducible refine (tbytes4 s1 wd ⟨hs0, by omega⟩).mono ?_)
  rintro e w4 ⟨v4, rfl, H4'⟩
  refine hK _ _ (Fr.of_ext H4'.toExt) ?_
  clear hK K
  have H4 := H3.join H4'
  dsimp only [List.nil_append, List.cons_append] at H4
  clear H3 H4'
  refine wr_ext rfl rfl (fun K hK => ?_)
  go_simp
  go_at_call 26
  (with_reducible refine (tbytes4 o1 w4 ⟨ho0, by omega⟩).mono ?_)
  rintro e w5 ⟨v5, rfl, H5'⟩
  refine hK _ _ (Fr.of_ext H5'.toExt) ?_
  clear hK K
  have H5 := H4.join H5'
  dsimp only [List.nil_append, List.cons_append] at H5
  clear H4 H5'
  refine wr_nil ?_
  simp only [List.drop_succ_cons, List.drop_zero]
  obtain ⟨A5, c5, rfl, hr5, hc5⟩ := own_form (H5.owns (List.Mem.head _))
  rw [be_length] at hc5 ⊢
  have tok3 : True := trivial
  go_wp2_with (have zz := tok3; clear zz tok3; with_reducible refine wpList_apS [_] H5 rfl (.tmp 16) (.tmp 20) 26 rfl i0 (.int .u8 0) 1 Tryd.underlying26 hi hz0 hz1 hz2 rfl rfl (A := A5) (m := 4) (c := c5) (news := byt (be 4 o1)) rfl (by simp [be_length]) hr5 (byt_one _) (by simp [be_length]) (by omega) ?_; intro v7 w7 H7; dsimp only [List.nil_append, List.cons_append] at H7; rw [← byt_append] at H7; have K7 := hide H7.tail; clear H7 H5 hr5)
  refine NoPanic.normal ?_
  clear hc5
  obtain ⟨c0, c1, c2, c3, cz⟩ := tk4 (K7.out.blk (g := g0) (List.Mem.tail _ (List.Mem.head _)))
  go_wp2_with fail
  (with_reducible refine (tbytes8 n1 _ ⟨hn0, by omega⟩).mono ?_)
  rintro e w8 ⟨v8, rfl, H8'⟩
  have H8 := K7.out.join H8'
  dsimp only [List.nil_append, List.cons_append] at H8
  clear K7 H8' c0 c1 c2 c3 cz
  obtain ⟨A8, c8, rfl, hr8, hc8⟩ := own_form (H8.owns (List.Mem.head _))
  rw [be_length] at hc8 ⊢
  have tok4 : True := trivial
  go_upto_region 5 with (have zz := tok4; clear zz tok4; with_reducible refine wpList_apS [_] H8 rfl (.tmp 22) (.tmp 25) 26 rfl i0 (.int .u8 0) 1 Tryd.underlying26 hi hz0 hz1 hz2 rfl rfl (A := A8) (m := 8) (c := c8) (news := byt (be 8 n1)) rfl (by simp [be_length]) hr8 (byt_one _) (by simp [be_length]) (by omega) ?_; intro v9 w9 H9; dsimp only [List.nil_append, List.cons_append] at H9; rw [← byt_append] at H9; have K9 := hide H9.tail; clear H9 H8 hr8)
  clear hc8
  obtain ⟨c0, c1, c2, c3, cz⟩ := tk4 (K9.out.blk (g := g0) (List.Mem.tail _ (List.Mem.head _)))
  go_wp2_with fail
  (with_reducible refine (tbytes8 e1 _ ⟨he0, by omega⟩).mono ?_)
  rintro e wa ⟨va, rfl, Ha'⟩
  have Ha := K9.out.join Ha'
  dsimp only [List.nil_append, List.cons_append] at Ha
  clear K9 Ha' c0 c1 c2 c3 cz
  obtain ⟨Aa, ca, rfl, hra, hca⟩ := own_form (Ha.owns (List.Mem.head _))
  rw [be_length] at hca ⊢
  have tok5 : True := trivial
  go_wp2_with (have zz := tok5; clear zz tok5; with_reducible refine wpList_apS [_] Ha rfl (.tmp 27) (.tmp 30) 26 rfl i0 (.int .u8 0) 1 Tryd.underlying26 hi hz0 hz1 hz2 rfl rfl (A := Aa) (m := 8) (c := ca) (news := byt (be 8 e1)) rfl (by simp [be_length]) hra (byt_one _) (by simp [be_length]) (by omega) ?_; intro vb wb Hb; dsimp only [List.nil_append, List.cons_append] at Hb; rw [← byt_append] at Hb; have Kb := hide Hb.tail; clear Hb Ha hra)
  go_ret2
  refine ⟨vb, by rw [HE.out.2]; rfl, ?_⟩
  rw [HE.out.1]
  unfold recT
  rw [← List.append_assoc, ← List.append_assoc]
  exact Kb.out.sub (List.cons_sublist_cons.2 (List.nil_sublist _))
end Go.Proofs.YtamlngdjbmndlaaDoor
