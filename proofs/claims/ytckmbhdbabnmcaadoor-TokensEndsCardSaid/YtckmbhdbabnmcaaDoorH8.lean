/- Hmac: Tag and Verify of a key. -/
import Derived.Test.YtckmbhdbabnmcaaDoorH7
namespace Go.Proofs.YtckmbhdbabnmcaaDoor
open Go.RowKit Go.Gr
set_option linter.unusedVariables false
set_option linter.unusedSimpArgs false
/-- the tag of bytes -/
def tagB (key l : List Int) : List Int := outB key (xorB 54 (keyB key) ++ l)
theorem tagB_len (key l : List Int) : (tagB key l).length = 32 := outB_len _ _
theorem tagB_isB (key l : List Int) : isB (tagB key l) := outB_isB _ _
theorem ik_len (key : List Int) : (xorB 54 (keyB key)).length = 64 := by rw [xorB_len, keyB_len]
/-- a new mac into which bytes have been written: at each call what its parts are -/
theorem mac_parts {w0 w : World} {L : List As} {g gh : Nat} {v : Value} {key l : List Int} (H : Sep No w0 w (As.blk g 70 [ptr gh, v] :: AsHash gh l :: As.own 5 v (byt key) :: L)) :
    ∃ A c, v = .slice A key.length c ∧ Rd w A (byt key) ∧ key.length ≤ c ∧ Blk w g 70 [ptr gh, .slice A key.length c] ∧ HashAt w gh l ∧ w0.heap.size ≤ gh := by
  obtain ⟨A, c, rfl, h1, h2⟩ := own_form (H.owns (List.Mem.tail _ (List.Mem.tail _ (List.Mem.head _))))
  exact ⟨A, c, rfl, h1, h2, H.blk (List.Mem.head _), sep_hash H (List.Mem.tail _ (List.Mem.head _)), sep_hash_le H (l := l) (List.Mem.tail _ (List.Mem.head _))⟩
end Go.Proofs.YtckmbhdbabnmcaaDoor
