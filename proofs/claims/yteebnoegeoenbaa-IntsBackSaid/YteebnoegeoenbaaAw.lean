/- The examples that each law asks: awake returns true, in whatever memory. -/
import Derived.Test.YteebnoegeoenbaaC1
import Derived.Test.YteebnoegeoenbaaV3
import Derived.Test.YteebnoegeoenbaaN7
import Derived.Test.YteebnoegeoenbaaN9
namespace Go.Proofs.Yteebnoegeoenbaa
open Go.RowKit Go.Gr
set_option linter.unusedVariables false
theorem conv23 {w : World} {A : Option Addr} {l : List Int} (h : Rd w A (byt l)) (n c : Nat) (hn : n = l.length) {s : ByteArray} (hs : strOfNums l = s) : (convert 23 9 (.slice A n c)).run Try.prog w = .ok (.string s) w := by
  rw [← hs]; exact conv_bytes h 23 5 9 c n hn Try.underlying23 Try.underlying5 Try.underlying9
set_option maxHeartbeats 1600000 in
theorem awake_any (w : World) : Calls Try.prog 14 #[] w fun e w' => e = .returned (.bool true) ∧ Ext w w' := by
  go_enter Try.func14, Try.ntmps14
  go_wp2_with (first
    | (go_at_call 12; refine (put_any none 0 [] 258 4 _ (Rd.nil _ _) (by decide) (by decide) (by decide)).mono ?_; rintro e w1 ⟨v1, rfl, ho1, hx1⟩; obtain ⟨A1, c1, rfl, hr1⟩ := ho1.bytes; rw [show putE 258 4 = 0 by decide]; have e1 : putB [] 258 4 = [0, 0, 1, 2] := (by decide); rw [e1] at hr1 ⊢; have HR1 := hide hr1; have HX1 := hide hx1; clear ho1 hx1 hr1 e1)
    | (go_at_call 15; refine (getvar_any (some ⟨w1.heap.size, 0, none⟩) 3 [172, 2, 9] _ (Blk.new w1 5 (byt [172, 2, 9])).rd (by unfold isB; decide) (by decide) (by decide)).mono ?_; rintro e w2 ⟨A2, c2, rfl, hr2, hx2⟩; rw [show gvE [172, 2, 9] = 0 by decide, show gvN [172, 2, 9] = 300 by decide]; have e2 : gvR [172, 2, 9] = [9] := (by decide); rw [e2] at hr2 ⊢; have HR2 := hide hr2; have HX2 := hide (((Ext.refl w1).alloc _).trans hx2); clear hx2 hr2 e2)
    | (go_at_call 22; refine (fit_any (-1) 8 true _ (by decide) (by decide)).mono ?_; rintro e w3 ⟨rfl, rfl⟩; rw [show fitE (-1) 8 true = 0 by decide, show fitV (-1) 8 true = 255 by decide])
    | (go_at_call 29; refine (turn_any 6 1 3 _ (by decide) (by decide) (by decide) (by decide)).mono ?_; rintro e w4 ⟨rfl, n4, rfl⟩; rw [show turnE 6 3 = 0 by decide, show turnV 6 3 1 = 5 by decide]; have k1 := conv23 ((HR1.out.ext HX2.out).drewN n4) 4 c1 rfl (s := ⟨#[0, 0, 1, 2]⟩) rfl; have k2 := conv23 (HR2.out.drewN n4) 1 c2 rfl (s := ⟨#[9]⟩) rfl)
    | (go_at_call 39; refine (shift_any (-3) (-1) _ (by decide) (by decide) (by decide) (by decide)).mono ?_; rintro e w5 ⟨rfl, n5, rfl⟩; rw [show shiftV (-3) (-1) = -2 by decide]))
  go_ret
  exact ⟨rfl, HX1.out.trans (HX2.out.trans ((Ext.refl _).drewN _))⟩
end Go.Proofs.Yteebnoegeoenbaa
