/- What Write does to a hash, in plain lists; the walk of Write. -/
import Derived.Test.YtamlngdjbmndlaaDoorS8
namespace Go.Proofs.YtamlngdjbmndlaaDoor
open Go.RowKit Go.Gr
set_option linter.unusedVariables false
attribute [local go_sem] rdOp rdAt rdUpon Cls
theorem byt_append (a b : List Int) : byt (a ++ b) = byt a ++ byt b := by simp [byt]
theorem splice_len {α : Type} (L t : List α) (m : Nat) (h : m + t.length ≤ L.length) : (splice L m t).length = L.length := by
  simp [splice]; omega
theorem hcells_len (st rest : List Int) (n : Int) (h : st.length = 8) (h2 : rest.length = 64) : (hcells st rest n).length = 74 := by
  rw [hcells]; simp [h, h2]
theorem hcells_put (st rest t : List Int) (n : Int) (m : Nat) (h : st.length = 8) (hm : m + t.length ≤ rest.length) : splice (hcells st rest n) (8 + m) (byt t) = hcells st (splice rest m t) n := by
  have h8 : (u32v st).length = 8 := by simpa using h
  have e1 : ∀ (X : List Value) (k : Nat), (u32v st ++ X).take (8 + k) = u32v st ++ X.take k := fun X k => by rw [← h8, List.take_length_add_append]
  have e2 : ∀ (X : List Value) (k : Nat), (u32v st ++ X).drop (8 + k) = X.drop k := fun X k => by rw [← h8, List.drop_length_add_append]
  unfold splice hcells
  rw [e1, show 8 + m + (byt t).length = 8 + (m + t.length) by simp; omega, e2, List.take_append_of_le_length (by simp; omega), List.drop_append_of_le_length (by simp; omega), byt_take, byt_drop]
  simp [byt_append]
theorem hcells_n (st rest : List Int) (n n' : Int) (h : st.length = 8) (h2 : rest.length = 64) : (hcells st rest n).set 72 (.int .i64 n') = hcells st rest n' := by
  unfold hcells
  rw [List.set_append_right _ _ (by simp [h]), List.set_append_right _ _ (by simp [h, h2])]
  simp [h, h2]
theorem hcells_at (st rest : List Int) (n : Int) (h : st.length = 8) (h2 : rest.length = 64) : (hcells st rest n)[72]? = some (.int .i64 n) := by
  unfold hcells
  rw [List.getElem?_append_right (by simp [h]), List.getElem?_append_right (by simp [h, h2])]
  simp [h, h2]
theorem hcells_st (st st' rest : List Int) (n : Int) (h : st.length = 8) (h' : st'.length = 8) : splice (hcells st rest n) 0 (u32v st') = hcells st' rest n := by
  unfold splice hcells
  rw [List.take_zero, List.nil_append, Nat.zero_add, List.drop_left' (by simp [h, h'])]
theorem hcells_state (st rest : List Int) (n : Int) (j : Nat) (v : Value) (h : (u32v st)[j]? = some v) : (hcells st rest n)[0 + j]? = some v := by
  unfold hcells
  have hj : j < (u32v st).length := by
    rcases Nat.lt_or_ge j (u32v st).length with h3 | h3
    · exact h3
    · rw [List.getElem?_eq_none h3] at h; cases h
  rw [Nat.zero_add, List.getElem?_append_left hj]; exact h
theorem hcells_rest (st rest : List Int) (n : Int) (hs : st.length = 8) (j : Nat) (v : Value) (h : (byt rest)[j]? = some v) : (hcells st rest n)[8 + j]? = some v := by
  unfold hcells
  have hj : j < (byt rest).length := by
    rcases Nat.lt_or_ge j (byt rest).length with h3 | h3
    · exact h3
    · rw [List.getElem?_eq_none h3] at h; cases h
  rw [List.getElem?_append_right (by simp [hs]), show 8 + j - (u32v st).length = j by simp [hs], List.getElem?_append_left hj]; exact h
theorem fill_some {rest l t : List Int} (hr : rest.length = 64) (hp : rest.take (l.length % 64) = l.drop (64 * (l.length / 64))) (hm : l.length % 64 + t.length < 64) :
    stOf (l ++ t) = stOf l ∧ (splice rest (l.length % 64) t).take ((l ++ t).length % 64) = (l ++ t).drop (64 * ((l ++ t).length / 64)) := by
  obtain ⟨q, hq⟩ : ∃ q, l.length / 64 = q := ⟨_, rfl⟩
  obtain ⟨m, hmm⟩ : ∃ m, l.length % 64 = m := ⟨_, rfl⟩
  have h1 : (l ++ t).length / 64 = q := by rw [List.length_append]; omega
  have h2 : (l ++ t).length % 64 = m + t.length := by rw [List.length_append]; omega
  refine ⟨?_, ?_⟩
  · rw [stOf, stOf, h1, hq, blocksS_append _ _ _ _ (by omega)]
  · rw [h1, h2]
    rw [hq, hmm] at hp
    rw [hmm, List.drop_append_of_le_length (by omega), ← hp, splice, ← List.append_assoc, List.take_left' (by simp; omega)]
theorem fill_all {rest l t : List Int} (hr : rest.length = 64) (hp : rest.take (l.length % 64) = l.drop (64 * (l.length / 64))) (hm : l.length % 64 + t.length = 64) :
    stOf (l ++ t) = blockS (stOf l) (splice rest (l.length % 64) t) ∧ (splice rest (l.length % 64) t).take ((l ++ t).length % 64) = (l ++ t).drop (64 * ((l ++ t).length / 64)) := by
  obtain ⟨q, hq⟩ : ∃ q, l.length / 64 = q := ⟨_, rfl⟩
  obtain ⟨m, hmm⟩ : ∃ m, l.length % 64 = m := ⟨_, rfl⟩
  have h1 : (l ++ t).length / 64 = q + 1 := by rw [List.length_append]; omega
  have h2 : (l ++ t).length % 64 = 0 := by rw [List.length_append]; omega
  have hl : l.length = 64 * q + m := by omega
  refine ⟨?_, ?_⟩
  · rw [hq, hmm] at hp
    rw [stOf, stOf, h1, hq, blocksS_snoc, blocksS_append _ _ _ _ (by omega), hmm]
    congr 1
    rw [List.drop_append_of_le_length (by omega), ← hp, splice, List.drop_eq_nil_of_le (by omega), List.append_nil, List.take_of_length_le (by simp; omega)]
  · rw [h1, h2, List.take_zero, List.drop_eq_nil_of_le (by simp; omega)]
theorem splice_isB {rest t : List Int} (m : Nat) (h : isB rest) (ht : isB t) : isB (splice rest m t) := by
  intro x hx
  unfold splice at hx
  rw [List.mem_append, List.mem_append] at hx
  rcases hx with hx | hx | hx
  · exact h x (List.mem_of_mem_take hx)
  · exact ht x hx
  · exact h x (List.mem_of_mem_drop hx)
theorem Laid.upd {w w' : World} {g : Nat} (h : Laid w) (k : Upd g w w') (hg : 2 ≤ g) : Laid w' :=
  ⟨h.1.upd k (fun ad e => by cases e; show 1 ≠ g; omega), h.2.upd k (fun ad e => by cases e; show 0 ≠ g; omega)⟩
theorem drop_take (b : List Int) (j k : Nat) : b.take j ++ (b.drop j).take k = b.take (j + k) := by
  rw [List.take_add]
def lenV : Value → Nat | .slice _ l _ => l | _ => 0
end Go.Proofs.YtamlngdjbmndlaaDoor
