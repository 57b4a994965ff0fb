/- Seats: the walks of the program's functions: each returns what the plain function says; only memory is added. -/
import Derived.Test.YtcmpkpldihnklaaBase
import Derived.Test.YtcmpkpldihnklaaM0
import Derived.IntWalk
import Derived.Outline
namespace Go.Proofs.Ytcmpkpldihnklaa
open Go.RowKit Go.Gr Go.Seat
set_option linter.unusedVariables false
abbrev sv (s : Se) : Value := .agg #[.int .i64 s.st, .int .u32 s.own, .int .i64 s.dl, .int .u64 s.ser, .int .u64 s.ep]
abbrev tv (t : Ti) : Value := .agg #[.int .u32 t.seat, .int .u32 t.own, .int .u64 t.ser, .int .u64 t.ep]
/-- it returns this number, and memory is added -/
def RetE (w : World) (n : Int) (e : Ending) (w' : World) : Prop := e = .returned (.int .i64 n) ∧ Ext w w'
def RetS (w : World) (r : Se × Int) (e : Ending) (w' : World) : Prop := e = .returned (.tuple #[sv r.1, .int .i64 r.2]) ∧ Ext w w'
def RetT (w : World) (r : Ti × Int) (e : Ending) (w' : World) : Prop := e = .returned (.tuple #[tv r.1, .int .i64 r.2]) ∧ Ext w w'
/-- the ways of a look at a seat -/
theorem looks (s : Se) : (s.st = 1 ∧ 0 ≤ s.dl ∧ good s) ∨ (s.st = 1 ∧ s.dl < 0 ∧ ¬ good s) ∨ (s.st = 0 ∧ s.own ≠ 0 ∧ ¬ good s) ∨ (s.st = 0 ∧ s.own = 0 ∧ s.dl ≠ 0 ∧ ¬ good s) ∨ (s.st = 0 ∧ s.own = 0 ∧ s.dl = 0 ∧ good s) ∨ (s.st = 2 ∧ s.dl ≠ 0 ∧ ¬ good s) ∨ (s.st = 2 ∧ s.dl = 0 ∧ good s) ∨ (s.st ≠ 0 ∧ s.st ≠ 1 ∧ s.st ≠ 2 ∧ ¬ good s) := by
  unfold good; omega
end Go.Proofs.Ytcmpkpldihnklaa
