/- The walk of sha.Parse. -/
import Derived.Test.YtoinnkjifmlbiaaDoorS19
namespace Go.Proofs.YtoinnkjifmlbiaaDoor
open Go.RowKit Go.Gr
set_option linter.unusedVariables false
attribute [local go_sem] rdOp rdAt rdUpon Cls
theorem Z8_len (n : Nat) : (Z8 n).length = n := by simp [Z8]
end Go.Proofs.YtoinnkjifmlbiaaDoor
