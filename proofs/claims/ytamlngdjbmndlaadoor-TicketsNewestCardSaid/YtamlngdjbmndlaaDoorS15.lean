/- The walk of the law's own look at known values: it answers true. -/
import Derived.Lib.SlBytesConst
import Derived.Test.YtamlngdjbmndlaaDoorS14
namespace Go.Proofs.YtamlngdjbmndlaaDoor
open Go.RowKit Go.Gr
set_option linter.unusedVariables false
attribute [local go_sem] rdOp rdAt rdUpon Cls
theorem digest_len (l : List Int) : (digest l).length = 32 := dig_length _ _
theorem digest_isB (l : List Int) : isB (digest l) := dig_isB _ _
theorem abc_hex : hexB (digest [97, 98, 99]) = [98, 97, 55, 56, 49, 54, 98, 102, 56, 102, 48, 49, 99, 102, 101, 97, 52, 49, 52, 49, 52, 48, 100, 101, 53, 100, 97, 101, 50, 50, 50, 51, 98, 48, 48, 51, 54, 49, 97, 51, 57, 54, 49, 55, 55, 97, 57, 99, 98, 52, 49, 48, 102, 102, 54, 49, 102, 50, 48, 48, 49, 53, 97, 100] := by decide +kernel
theorem empty_hex : hexB (digest []) = [101, 51, 98, 48, 99, 52, 52, 50, 57, 56, 102, 99, 49, 99, 49, 52, 57, 97, 102, 98, 102, 52, 99, 56, 57, 57, 54, 102, 98, 57, 50, 52, 50, 55, 97, 101, 52, 49, 101, 52, 54, 52, 57, 98, 57, 51, 52, 99, 97, 52, 57, 53, 57, 57, 49, 98, 55, 56, 53, 50, 98, 56, 53, 53] := by decide +kernel
/-- a sum whose letters are these -/
def SumIs (w : World) (s : ByteArray) (e : Ending) (w' : World) : Prop := ∃ d : List Int, d.length = 32 ∧ isB d ∧ strOfNums (hexB d) = s ∧ e = .returned (.agg (byt d).toArray) ∧ Ext w w'
theorem sum_abc (A : Option Addr) (w : World) (hl : Laid w) (hr : Rd w A (byt [97, 98, 99])) : Calls Tryd.prog 100 #[.slice A 3 3] w (SumIs w { data := #[98, 97, 55, 56, 49, 54, 98, 102, 56, 102, 48, 49, 99, 102, 101, 97, 52, 49, 52, 49, 52, 48, 100, 101, 53, 100, 97, 101, 50, 50, 50, 51, 98, 48, 48, 51, 54, 49, 97, 51, 57, 54, 49, 55, 55, 97, 57, 99, 98, 52, 49, 48, 102, 102, 54, 49, 102, 50, 48, 48, 49, 53, 97, 100] }) :=
  (sum_any [97, 98, 99] A 3 w hl hr (by unfold isB; decide) (by decide) (by decide)).mono fun e w' ⟨h1, h2⟩ => ⟨_, digest_len _, digest_isB _, by rw [abc_hex]; rfl, h1, h2⟩
theorem sum_empty (w : World) (hl : Laid w) : Calls Tryd.prog 100 #[.slice none 0 0] w (SumIs w { data := #[101, 51, 98, 48, 99, 52, 52, 50, 57, 56, 102, 99, 49, 99, 49, 52, 57, 97, 102, 98, 102, 52, 99, 56, 57, 57, 54, 102, 98, 57, 50, 52, 50, 55, 97, 101, 52, 49, 101, 52, 54, 52, 57, 98, 57, 51, 52, 99, 97, 52, 57, 53, 57, 57, 49, 98, 55, 56, 53, 50, 98, 56, 53, 53] }) :=
  (sum_any [] none 0 w hl (Rd.nil _ _) (by unfold isB; decide) (by decide) (by decide)).mono fun e w' ⟨h1, h2⟩ => ⟨_, digest_len _, digest_isB _, by rw [empty_hex]; rfl, h1, h2⟩
theorem pad_is (n : Int) (m : Nat) (w : World) (h1 : -9223372036854775808 ≤ n) (h2 : n ≤ 9223372036854775807) (he : padE n = 0) (hm : (padB n).length = m) : Calls Tryd.prog 80 #[.int .i64 n] w fun e w' => ∃ A c, e = .returned (.tuple #[.slice A m c, .int .i64 0]) ∧ Ext w w' :=
  (pad_any n w h1 h2).mono fun e w' ⟨v, h3, ho, hx⟩ => by
    obtain ⟨A, c, rfl, _⟩ := ho.form
    rw [byt_length, hm, he] at h3
    exact ⟨A, c, h3, hx⟩
theorem eval_agg {P : Program} {w : World} {t e : TypeId} {n : Nat} {ke : IntKind} (h : P.underlying t = some (.array n e)) (he : P.underlying e = some (.int ke)) (hi : (P.info? e).map (·.size) = some 1) (cs : Array Value) (hn : 0 < n) {u : Value} (hu : cs[0]? = some u) :
    (Instr.index t (.agg cs) (.int .i64 0)).run P w = .ok u w := run_index_agg h he hi cs .i64 0 hn hu
theorem rd_marked (w : World) (e : TypeId) (cs : List Value) (fr : Nat × Nat) : Rd (w.alloc (.cells cs.toArray e fr)) (some ⟨w.heap.size, 0, none⟩) cs := fun j u hu => ⟨_, rfl, by
  have h := heap_alloc_new w (.cells cs.toArray e fr)
  rw [add0]
  unfold World.cell?
  simp only
  rw [h]
  simpa using hu⟩
end Go.Proofs.YtamlngdjbmndlaaDoor
