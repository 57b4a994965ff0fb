/- Seats, in plain numbers: what each function of the layer returns. -/
namespace Go.Seat
set_option linter.unusedVariables false
structure Se where
  st : Int
  own : Int
  dl : Int
  ser : Int
  ep : Int
  deriving DecidableEq
structure Ti where
  seat : Int
  own : Int
  ser : Int
  ep : Int
  deriving DecidableEq
def most : Int := 18446744073709551615
structure Se.ok (s : Se) : Prop where
  st : -9223372036854775808 ≤ s.st ∧ s.st ≤ 9223372036854775807
  own : 0 ≤ s.own ∧ s.own < 4294967296
  dl : -9223372036854775808 ≤ s.dl ∧ s.dl ≤ 9223372036854775807
  ser : 0 ≤ s.ser ∧ s.ser ≤ most
  ep : 0 ≤ s.ep ∧ s.ep ≤ most
def good (s : Se) : Prop := (s.st = 1 ∧ 0 ≤ s.dl) ∨ (s.st = 0 ∧ s.own = 0 ∧ s.dl = 0) ∨ (s.st = 2 ∧ s.dl = 0)
instance (s : Se) : Decidable (good s) := by unfold good; exact inferInstance
def chk (s : Se) : Int := if good s then 0 else 6
def inE (s : Se) (want : Int) : Int := if ¬ good s then 6 else if s.st = want then 0 else 15
def timeE (s : Se) (t : Int) : Int := if ¬ good s then 6 else if t < 0 then 7 else 0
def mineE (s : Se) (o : Int) : Int := if ¬ good s then 6 else if s.st ≠ 1 then 15 else if s.own ≠ o then 14 else 0
def openS (s : Se) : Se := ⟨0, 0, 0, s.ser, s.ep⟩
def holdS (s : Se) (o d : Int) : Se × Int := if ¬ good s then (s, 6) else if d < 0 then (s, 7) else if s.st ≠ 0 then (s, 15) else (⟨1, o, d, s.ser, s.ep⟩, 0)
def releaseS (s : Se) (o : Int) : Se × Int := if mineE s o ≠ 0 then (s, mineE s o) else (openS s, 0)
def expireS (s : Se) (n : Int) : Se × Int := if ¬ good s then (s, 6) else if n < 0 then (s, 7) else if s.st ≠ 1 then (s, 15) else if s.dl ≤ n then (openS s, 0) else (s, 9)
def issueS (s : Se) (o : Int) : Se × Int := if s.ser = most then (s, 17) else (⟨2, o, 0, s.ser + 1, s.ep⟩, 0)
def buyS (s : Se) (o : Int) : Se × Int := if mineE s o ≠ 0 then (s, mineE s o) else issueS s o
def validE (s : Se) (t : Ti) : Int := if ¬ good s then 6 else if s.st ≠ 2 then 15 else if t.own = s.own ∧ t.ser = s.ser ∧ t.ep = s.ep then 0 else 16
def transferS (s : Se) (t : Ti) (o : Int) : Se × Int := if validE s t ≠ 0 then (s, validE s t) else issueS s o
def refundS (s : Se) (t : Ti) : Se × Int := if validE s t ≠ 0 then (s, validE s t) else (openS s, 0)
def revokeS (s : Se) : Se × Int := if ¬ good s then (s, 6) else if s.st ≠ 2 then (s, 15) else if s.ep = most then (s, 17) else (⟨0, 0, 0, s.ser, s.ep + 1⟩, 0)
def ticketS (s : Se) (n : Int) : Ti × Int := if ¬ good s then (⟨0, 0, 0, 0⟩, 6) else if s.st ≠ 2 then (⟨0, 0, 0, 0⟩, 15) else (⟨n, s.own, s.ser, s.ep⟩, 0)
structure Ti.ok (t : Ti) : Prop where
  seat : 0 ≤ t.seat ∧ t.seat < 4294967296
  own : 0 ≤ t.own ∧ t.own < 4294967296
  ser : 0 ≤ t.ser ∧ t.ser ≤ most
  ep : 0 ≤ t.ep ∧ t.ep ≤ most
/-- a call: what, by whom, to whom, when -/
structure Ca where
  what : Int
  own : Int
  to : Int
  at_ : Int
  old : Bool
  which : Int
  t : Ti
def doneS (s : Se) (x : Ca) (t : Ti) : Se × Int :=
  if x.what % 8 = 0 then holdS s x.own x.at_
  else if x.what % 8 = 1 then releaseS s x.own
  else if x.what % 8 = 2 then expireS s x.at_
  else if x.what % 8 = 3 then buyS s x.own
  else if x.what % 8 = 4 then transferS s t x.to
  else if x.what % 8 = 5 then refundS s t
  else if x.what % 8 = 6 then revokeS s
  else (s, validE s t)
end Go.Seat
