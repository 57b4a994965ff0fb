/- The law ShaPads walked. -/
import Derived.Test.YtmflanhcddehlaaDoorS15
namespace Go.Proofs.YtmflanhcddehlaaDoor
open Go.RowKit Go.Gr
set_option linter.unusedVariables false
set_option maxHeartbeats 1000000 in
theorem pads_law (w : World) (hl : Laid w) (n : Int) (hn : -9223372036854775808 ≤ n ∧ n ≤ 9223372036854775807) : Calls Tryd.prog 5 #[.int .i64 n] w fun e w' => e = .returned (.bool true) ∧ Ext w w' := by
  have HL := hide hl
  clear hl
  go_enter Tryd.func5, Tryd.ntmps5
  go_wp2_with fail
  (with_reducible refine (pad_any n _ hn.1 hn.2).mono ?_)
  rintro e w1 ⟨v1, rfl, ho1, hx1⟩
  obtain ⟨A1, c1, rfl, hr1, _, _⟩ := ho1.form
  have HR1 := hide hr1
  have HX1 := hide hx1
  clear ho1 hr1 hx1
  rw [byt_length]
  have HP2 := hide (rpad_any n w1 hn.1 hn.2)
  obtain ⟨er, her⟩ : ∃ er, padE n = er := ⟨_, rfl⟩
  obtain ⟨pb, hpb⟩ : ∃ pb, padB n = pb := ⟨_, rfl⟩
  have hcase : er = 7 ∨ (er = 0 ∧ ∃ z : Nat, pb.length = z + 9 ∧ z ≤ 63 ∧ (n + ((z : Int) + 9)) % 64 = 0 ∧ 0 ≤ n ∧ n ≤ 1152921504606846976) := by
    subst her hpb
    rcases padE_two n with h | h
    · exact .inl h
    · refine .inr ⟨h, padZ n, ?_, ?_, ?_, ?_, ?_⟩
      · rw [padB, if_pos h]; simp [be_length]
      · rw [padZ]; omega
      · rw [padZ]
        have : ¬ (n < 0 ∨ 1152921504606846976 < n) := by
          intro hh
          rw [padE, if_pos hh] at h
          cases h
        omega
      all_goals
        have : ¬ (n < 0 ∨ 1152921504606846976 < n) := by
          intro hh
          rw [padE, if_pos hh] at h
          cases h
        omega
  rw [her, hpb] at HP2 ⊢
  rw [hpb] at HR1
  clear her hpb
  go_wp2_with fail
  (with_reducible refine HP2.out.mono ?_)
  rintro e w2 ⟨v2, rfl, ho2, hx2⟩
  obtain ⟨A2, c2, rfl, hr2, _, _⟩ := ho2.form
  rw [byt_length]
  have HX2 : Hid (Ext w w2) := hide (HX1.out.trans hx2)
  have hc1 := conv_bytes (P := Tryd.prog) (HR1.out.ext hx2) 31 5 9 c1 _ rfl Tryd.underlying31 Tryd.underlying5 Tryd.underlying9
  have hc2 := conv_bytes (P := Tryd.prog) hr2 31 5 9 c2 _ rfl Tryd.underlying31 Tryd.underlying5 Tryd.underlying9
  generalize strOfNums pb = s at *
  have HS := hide (shown_any w2 (HL.out.ext HX2.out))
  clear ho2 hr2 hx2 HP2 HR1
  rcases hcase with rfl | ⟨rfl, z, hz, hz63, hmod, h0, h1⟩
  · go_wp2_with fail
    (with_reducible refine HS.out.mono ?_)
    rintro e w3 ⟨rfl, hx3⟩
    go_wp2_with fail
    go_ret
    exact ⟨rfl, HX2.out.trans hx3⟩
  · have hw : IntKind.i64.wrap (n + ((z : Int) + 9)) = n + ((z : Int) + 9) := IntWalk.i64_in _ (by omega)
    have hm : ((n + ((z : Int) + 9)) % 64 == 0) = true := by simpa using hmod
    have hm2 : (Int.tmod (n + ((z : Int) + 9)) 64 == 0) = true := by rw [Int.tmod_eq_emod_of_nonneg (by omega)]; exact hm
    have hz9 : (9 : Int) ≤ (z : Int) + 9 := by omega
    have hz72 : (z : Int) + 9 ≤ 72 := by omega
    rw [hz] at hc1 hc2 ⊢
    clear hmod
    go_wp2_with fail
    (with_reducible refine HS.out.mono ?_)
    rintro e w3 ⟨rfl, hx3⟩
    go_wp2_with fail
    go_ret
    exact ⟨rfl, HX2.out.trans hx3⟩
end Go.Proofs.YtmflanhcddehlaaDoor
