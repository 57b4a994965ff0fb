/- General: what a call made joins what was there; assertions in another order. -/
import Derived.Test.YtkhinagagncblaaDoorSep
namespace Go.Gr
open Go.RowKit Go.Sort
set_option linter.unusedVariables false
theorem Sep.joinW {G : Nat → Prop} {w0 w w' : World} {L M : List As} (h : Sep G w0 w L) (k : Sep No w w' M) : Sep G w0 w' (M ++ L) := by
  have h' := h.ext k.toExt
  refine ⟨h'.fr, ?_, ?_, ?_⟩
  · intro A hA
    rcases List.mem_append.1 hA with hA | hA
    · exact k.all A hA
    · exact h'.all A hA
  · intro A hA i hi
    rcases List.mem_append.1 hA with hA | hA
    · rcases k.own A hA i hi with h1 | h1
      · exact h1.elim
      · exact .inr (Nat.le_trans h.fr.size h1)
    · exact h'.own A hA i hi
  · refine List.pairwise_append.2 ⟨k.dis, h'.dis, fun A hA B hB i hi hi' => ?_⟩
    have := B.lt (h.all B hB) i hi'
    rcases k.own A hA i hi with h1 | h1
    · exact h1.elim
    · omega
theorem Sep.rot {G : Nat → Prop} {w0 w : World} {A B C : As} {L : List As} (h : Sep G w0 w (A :: B :: C :: L)) : Sep G w0 w (B :: C :: A :: L) :=
  h.perm ((List.Perm.swap B A (C :: L)).trans (List.Perm.cons B (List.Perm.swap C A L)))
end Go.Gr
