/- Hashes: what lies in a hash after bytes; the walks of New, Write, Copy, Sum, Len, Reset and of sha.Sum. -/
import Derived.Test.YtamlngdjbmndlaaDoorGa
import Derived.Test.YtamlngdjbmndlaaDoorS2
import Derived.Test.YtamlngdjbmndlaaDoorS7
import Derived.IntWalk
import Derived.Great.BuildSlice
import Derived.Outline
namespace Go.Proofs.YtamlngdjbmndlaaDoor
open Go.RowKit Go.Gr
set_option linter.unusedVariables false
attribute [local go_sem] rdOp rdAt rdUpon Cls
/-- so many blocks of bytes into a state -/
def blocksS : Nat → List Int → List Int → List Int
  | 0, st, _ => st
  | k + 1, st, l => blocksS k (blockS st (l.take 64)) (l.drop 64)
theorem blocksS_zero (st l : List Int) : blocksS 0 st l = st := rfl
theorem blocksS_succ (k : Nat) (st l : List Int) : blocksS (k + 1) st l = blocksS k (blockS st (l.take 64)) (l.drop 64) := rfl
def stOf (l : List Int) : List Int := blocksS (l.length / 64) hT l
theorem hT_ok : hT.length = 8 ∧ isW hT := ⟨rfl, by unfold isW; decide⟩
def hcells (st rest : List Int) (n : Int) : List Value := u32v st ++ (byt rest ++ [.int .i64 n, .bool true])
/-- block g is a hash to which l has been written -/
def HashAt (w : World) (g : Nat) (l : List Int) : Prop :=
  ∃ rest : List Int, rest.length = 64 ∧ isB rest ∧ rest.take (l.length % 64) = l.drop (64 * (l.length / 64)) ∧ Blk w g 123 (hcells (stOf l) rest l.length)
theorem blocksS_ok (k : Nat) : ∀ (st l : List Int), st.length = 8 → isW st → (blocksS k st l).length = 8 ∧ isW (blocksS k st l) := by
  induction k with
  | zero => intro st l h hw; rw [blocksS_zero]; exact ⟨h, hw⟩
  | succ k ih =>
    intro st l h hw
    rw [blocksS_succ]
    have hb := blockS_ok st (l.take 64) h hw
    generalize blockS st (l.take 64) = s at *
    exact ih s _ hb.1 hb.2
theorem stOf_ok (l : List Int) : (stOf l).length = 8 ∧ isW (stOf l) := by
  rw [stOf]
  have h := hT_ok
  generalize hT = s at *
  exact blocksS_ok _ s l h.1 h.2
theorem blocksS_snoc (k : Nat) : ∀ (st l : List Int), blocksS (k + 1) st l = blockS (blocksS k st l) ((l.drop (64 * k)).take 64) := by
  induction k with
  | zero => intro st l; rw [blocksS_succ, blocksS_zero, blocksS_zero]; simp
  | succ k ih =>
    intro st l
    rw [blocksS_succ, ih, List.drop_drop, blocksS_succ, show 64 + 64 * k = 64 * (k + 1) by omega]
theorem blocksS_append (k : Nat) : ∀ (st l m : List Int), 64 * k ≤ l.length → blocksS k st (l ++ m) = blocksS k st l := by
  induction k with
  | zero => intro st l m _; rw [blocksS_zero, blocksS_zero]
  | succ k ih =>
    intro st l m h
    rw [blocksS_succ, blocksS_succ, List.take_append_of_le_length (by omega), List.drop_append_of_le_length (by omega)]
    generalize blockS st (l.take 64) = s
    exact ih s _ _ (by simp; omega)
theorem info67 : (Tryd.prog.info? 123).map (·.size) = some 74 := by kernel_rfl
set_option maxHeartbeats 400000 in
theorem new_any (w : World) (hl : Laid w) : Calls Tryd.prog 60 #[] w fun e w' => e = .returned (.pointer (some ⟨w.heap.size, 0, none⟩)) ∧ HashAt w' w.heap.size [] ∧ Ext w w' := by
  have HL := hide hl
  clear hl
  go_enter Tryd.func60, Tryd.ntmps60
  go_wp2_with (first
    | (refine wpList_loadR rfl 120 (.global 0) rfl HL.out.2 rfl _ Tryd.underlying120 rfl (by kernel_rfl) ?_)
    | (refine wpList_buildTo rfl 123 _ rfl (some 2) rfl (hcells hT (List.replicate 64 0) 0).toArray (by kernel_rfl) ?_))
  go_ret
  refine ⟨rfl, ⟨List.replicate 64 0, rfl, by unfold isB; decide, rfl, Blk.new w _ _⟩, (Ext.refl _).alloc _⟩
theorem there_yes (g : Nat) (w : World) (l : List Int) (h : HashAt w g l) : Calls Tryd.prog 81 #[.pointer (some ⟨g, 0, none⟩)] w fun e w' => e = .returned (.bool true) ∧ w = w' := by
  obtain ⟨rest, h1, _, _, hB⟩ := h
  have c := (hB.cell 73).trans (show _ = some (Value.bool true) from by rw [hcells]; simp [(stOf_ok l).1, h1])
  clear hB
  go_enter Tryd.func81, Tryd.ntmps81
  go_wp2_with fail
  go_ret
  exact ⟨rfl, rfl⟩
end Go.Proofs.YtamlngdjbmndlaaDoor
