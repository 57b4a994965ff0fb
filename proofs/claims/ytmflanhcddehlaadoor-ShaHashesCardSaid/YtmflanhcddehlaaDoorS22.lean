/- The walk of Reset; hashes among assertions. -/
import Derived.Test.YtmflanhcddehlaaDoorLParts
import Derived.Test.YtmflanhcddehlaaDoorMonoR
namespace Go.Proofs.YtmflanhcddehlaaDoor
open Go.RowKit Go.Gr
set_option linter.unusedVariables false
attribute [local go_sem] rdOp rdAt rdUpon Cls
set_option maxHeartbeats 400000 in
theorem reset_any (g : Nat) (l : List Int) (w : World) (hl : Laid w) (h : HashAt w g l) : Calls Tryd.prog 30 #[.pointer (some ⟨g, 0, none⟩)] w fun e w' => e = .returned (.int .i64 0) ∧ HashAt w' g [] ∧ Upd g w w' := by
  have HL := hide hl
  have HH := hide h
  obtain ⟨rest0, h640, _, _, hB0⟩ := h
  have HB0 := hide hB0
  have HN0 : Hid ((hcells (stOf l) rest0 l.length).length = 74) := hide (hash_len l _ h640)
  clear hl hB0 h640
  go_enter Tryd.func30, Tryd.ntmps30
  go_wp2_with fail
  (with_reducible refine (there_yes g _ l HH.out).mono ?_)
  rintro e w1 ⟨rfl, rfl⟩
  go_wp2_with fail
  (with_reducible refine (new_ex _ HL.out).mono ?_)
  rintro e w1 ⟨g1, rfl, hg1, hh1, hx1⟩
  obtain ⟨rest, h64, hrb, hp, hB⟩ := hh1
  have HX1 := hide hx1
  have HB : Hid (Blk w1 g1 67 (hcells (stOf []) rest 0)) := hide hB
  have HR := hide hrb
  have HP := hide hp
  have HLn : Hid ((hcells (stOf []) rest 0).length = 74) := hide (hash_len ([] : List Int) _ h64)
  have HBg := hide (HB0.out.ext hx1)
  clear hg1 hrb hp hB hx1
  go_wp2_with (first
    | (refine wpList_loadB rfl 67 (.tmp 8) rfl HB.out rfl _ Tryd.underlying67 rfl (by rw [HLn.out]; exact info67) ?_)
    | (refine wpList_storeH rfl 67 (.tmp 10) (.tmp 9) rfl HBg.out rfl rfl (by rw [HLn.out]; exact info67) (by rw [HN0.out, HLn.out]) (hcells_one _ _ _) ?_; intro w2 hb2 hu2; have HB2 := hide hb2; have HU2 := hide hu2; clear hb2 hu2))
  go_ret
  exact ⟨rfl, ⟨rest, h64, HR.out, HP.out, HB2.out⟩, (Upd.of HX1.out).trans HU2.out⟩
end Go.Proofs.YtmflanhcddehlaaDoor
