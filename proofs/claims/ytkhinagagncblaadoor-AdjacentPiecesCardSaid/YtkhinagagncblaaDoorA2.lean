/- Venues: names: the program's and the reference's functions say the same. -/
import Derived.Test.YtkhinagagncblaaDoorA1
import Derived.Test.YtkhinagagncblaaDoorShf
import Derived.Shelf.Strings.SlTrimAscii
import Derived.Test.YtkhinagagncblaaDoorMonoS
namespace Go.Proofs.YtkhinagagncblaaDoor
open Go.RowKit Go.Gr Go.Ad
set_option linter.unusedVariables false
set_option linter.unusedSimpArgs false
def low37 : List UInt8 := [97, 98, 99, 100, 101, 102, 103, 104, 105, 106, 107, 108, 109, 110, 111, 112, 113, 114, 115, 116, 117, 118, 119, 120, 121, 122, 48, 49, 50, 51, 52, 53, 54, 55, 56, 57, 45]
theorem in37 (b : UInt8) : low37.contains b = inset b := by
  have : ∀ n : Nat, n < 256 → low37.contains (UInt8.ofNat n) = inset (UInt8.ofNat n) := by decide +kernel
  have h := this b.toNat b.toNat_lt
  rwa [UInt8.ofNat_toNat] at h
theorem dw_nil {p : UInt8 → Bool} : ∀ (l : List UInt8), l.dropWhile p = [] ↔ l.all p = true
  | [] => by simp
  | b :: l => by
    by_cases h : p b = true
    · rw [List.dropWhile_cons, if_pos h, dw_nil l]; simp [h]
    · rw [List.dropWhile_cons, if_neg h]; simp [h]
theorem trim_nil (l : List UInt8) : (Lib.trimS l low37).isEmpty = l.all inset := by
  have key : Lib.trimS l low37 = [] ↔ l.all inset = true := by
    have hf : (fun b => low37.contains b) = inset := funext in37
    unfold Lib.trimS Lib.trimLeftS Lib.trimRightS
    rw [hf, dw_nil]
    have : ∀ (m : List UInt8), ((m.dropWhile inset).all inset = true ↔ m.all inset = true) := by
      intro m
      induction m with
      | nil => simp
      | cons b m ih =>
        by_cases h : inset b = true
        · rw [List.dropWhile_cons, if_pos h, ih]; simp [h]
        · rw [List.dropWhile_cons, if_neg h]
    rw [List.all_reverse, this, List.all_reverse]
  cases h : l.all inset
  · have : Lib.trimS l low37 ≠ [] := fun e => by rw [key.1 e] at h; cases h
    simpa using this
  · have := key.2 h
    rw [this]; rfl
set_option maxRecDepth 100000 in
theorem trim_any (s : ByteArray) (w : World) (hs : s.size ≤ maxLen) : Calls Tryd.prog 69 #[.string s, .string ⟨#[97, 98, 99, 100, 101, 102, 103, 104, 105, 106, 107, 108, 109, 110, 111, 112, 113, 114, 115, 116, 117, 118, 119, 120, 121, 122, 48, 49, 50, 51, 52, 53, 54, 55, 56, 57, 45]⟩] w fun e w' => e = .returned (.string ⟨(Lib.trimS s.data.toList low37).toArray⟩) ∧ Ext w w' :=
  Any.strings_Trim_laid Tryd.lays160 (by kernel_rfl) s ⟨low37.toArray⟩ w hs (by decide) (ascii_of_all (by decide))
theorem tl_eq (s : ByteArray) : s.toList = s.data.toList := ByteArray.toList_eq s
theorem sz_eq (s : ByteArray) : s.size = s.data.toList.length := rfl
theorem emp_of (s : ByteArray) (h : s.size = 0) : s.toList.isEmpty = true := by
  rw [tl_eq, List.isEmpty_iff]
  exact List.eq_nil_of_length_eq_zero (by rw [← sz_eq]; exact h)
theorem emp_ne (s : ByteArray) (h : s.size ≠ 0) : s.toList.isEmpty = false := by
  rw [tl_eq]
  cases hl : s.data.toList with
  | nil => exact absurd (by rw [sz_eq, hl]; rfl) h
  | cons b l => rfl
theorem get0 (s : ByteArray) (h : 0 < s.size) : ∃ l, s.data.toList = s[0] :: l := by
  cases hl : s.data.toList with
  | nil => rw [sz_eq, hl] at h; simp at h
  | cons b l =>
    refine ⟨l, ?_⟩
    have : s.data.toList[0]? = some b := by rw [hl]; rfl
    have h2 : s.data.toList[0]? = some s[0] := by
      rw [List.getElem?_eq_getElem (by rw [← sz_eq]; exact h)]; rfl
    rw [h2] at this
    cases this
    rfl
set_option maxHeartbeats 2000000 in
theorem name_any (s : ByteArray) (w : World) (hs : s.size ≤ maxLen) : Calls Tryd.prog 62 #[.string s] w fun e w' => e = .returned (.bool (nameOk s)) ∧ Ext w w' := by
  have HT := hide (trim_any s w hs)
  clear hs
  by_cases h0 : s.size = 0
  · have e1 := emp_of s h0
    have HN : Hid (nameOk s = false) := hide (by unfold nameOk nameL; rw [← sz_eq, h0]; rfl)
    go_enter Tryd.func62, Tryd.ntmps62
    clear h0
    go_wp2_with fail
    go_ret
    exact ⟨by rw [HN.out]; rfl, Ext.refl w⟩
  · have e1 := emp_ne s h0
    by_cases h16 : 16 < s.size
    · have e2 : (16 : Int) < (s.size : Int) := by omega
      have HN : Hid (nameOk s = false) := hide (by unfold nameOk nameL; rw [← sz_eq, decide_eq_false (show ¬ s.size ≤ 16 by omega)]; simp)
      clear h0 h16
      go_enter Tryd.func62, Tryd.ntmps62
      go_wp2_with fail
      go_ret
      exact ⟨by rw [HN.out]; rfl, Ext.refl w⟩
    · have e2 : ¬ (16 : Int) < (s.size : Int) := by omega
      have hp : 0 < s.size := by omega
      obtain ⟨l, hl⟩ := get0 s hp
      have HL := hide hl
      obtain ⟨b, hb⟩ : ∃ b, s[0] = b := ⟨_, rfl⟩
      have HB := hide hb
      rw [hb] at hl
      have e3 : (0 : Int) < (s.size : Int) := by omega
      have HN : Hid (nameOk s = (lowB b && s.data.toList.all inset)) := hide (by
        unfold nameOk nameL; rw [← sz_eq, decide_eq_true (show 1 ≤ s.size by omega), decide_eq_true (show s.size ≤ 16 by omega), hl]; simp)
      have HD := hide (trim_nil s.data.toList)
      by_cases hlow : lowB b = true
      · have hc := hlow
        simp only [lowB, Bool.and_eq_true, decide_eq_true_eq] at hc
        have e4 : ¬ (s[0].toNat : Int) < 97 := by rw [hb]; omega
        have e5 : ¬ (122 : Int) < (s[0].toNat : Int) := by rw [hb]; omega
        have HW := hide hlow
        clear h0 h16 hl hb hc hlow HB
        go_enter Tryd.func62, Tryd.ntmps62
        go_wp2_with fail
        (with_reducible refine HT.out.mono ?_)
        rintro e w1 ⟨rfl, hx⟩
        go_wp2_with fail
        go_ret
        refine ⟨?_, hx⟩
        rw [HN.out, HW.out, ← HD.out, Bool.true_and]
        rfl
      · have HN2 : Hid (nameOk s = false) := hide (by rw [HN.out, Bool.eq_false_iff.2 hlow]; rfl)
        by_cases h97 : b.toNat < 97
        · have e4 : (s[0].toNat : Int) < 97 := by rw [hb]; omega
          clear h0 h16 hl hb hlow HB h97 HN HT HL HD
          go_enter Tryd.func62, Tryd.ntmps62
          go_wp2_with fail
          go_ret
          exact ⟨by rw [HN2.out]; rfl, Ext.refl w⟩
        · have e4 : ¬ (s[0].toNat : Int) < 97 := by rw [hb]; omega
          have e5 : (122 : Int) < (s[0].toNat : Int) := by
            rw [hb]
            rcases Nat.lt_or_ge 122 b.toNat with h | h
            · omega
            · exact absurd (by simp only [lowB, Bool.and_eq_true, decide_eq_true_eq]; omega) hlow
          clear h0 h16 hl hb hlow HB h97 HN HT HL HD
          go_enter Tryd.func62, Tryd.ntmps62
          go_wp2_with fail
          go_ret
          exact ⟨by rw [HN2.out]; rfl, Ext.refl w⟩
def digB (b : UInt8) : Bool := decide (48 ≤ b.toNat) && decide (b.toNat ≤ 57)
theorem inset_eq (b : UInt8) : inset b = (lowB b || digB b || decide (b.toNat = 45)) := by
  unfold inset digB
  congr 1
theorem lower_any (b : UInt8) (w : World) : Calls Tryd.prog 67 #[.int .u8 b.toNat] w fun e w' => e = .returned (.bool (lowB b)) ∧ w' = w := by
  by_cases h1 : 97 ≤ b.toNat
  · have e1 : (97 : Int) ≤ (b.toNat : Int) := by omega
    by_cases h2 : b.toNat ≤ 122
    · have e2 : (b.toNat : Int) ≤ 122 := by omega
      have HN : Hid (lowB b = true) := hide (by unfold lowB; rw [decide_eq_true h1, decide_eq_true h2]; rfl)
      clear h1 h2
      go_enter Tryd.func67, Tryd.ntmps67
      go_wp2_with fail
      go_ret
      exact ⟨by rw [HN.out]; rfl, rfl⟩
    · have e2 : ¬ (b.toNat : Int) ≤ 122 := by omega
      have HN : Hid (lowB b = false) := hide (by unfold lowB; rw [decide_eq_false h2, Bool.and_false])
      clear h1 h2
      go_enter Tryd.func67, Tryd.ntmps67
      go_wp2_with fail
      go_ret
      exact ⟨by rw [HN.out]; rfl, rfl⟩
  · have e1 : ¬ (97 : Int) ≤ (b.toNat : Int) := by omega
    have HN : Hid (lowB b = false) := hide (by unfold lowB; rw [decide_eq_false h1, Bool.false_and])
    clear h1
    go_enter Tryd.func67, Tryd.ntmps67
    go_wp2_with fail
    go_ret
    exact ⟨by rw [HN.out]; rfl, rfl⟩
theorem digit_any (b : UInt8) (w : World) : Calls Tryd.prog 68 #[.int .u8 b.toNat] w fun e w' => e = .returned (.bool (digB b)) ∧ w' = w := by
  by_cases h1 : 48 ≤ b.toNat
  · have e1 : (48 : Int) ≤ (b.toNat : Int) := by omega
    by_cases h2 : b.toNat ≤ 57
    · have e2 : (b.toNat : Int) ≤ 57 := by omega
      have HN : Hid (digB b = true) := hide (by unfold digB; rw [decide_eq_true h1, decide_eq_true h2]; rfl)
      clear h1 h2
      go_enter Tryd.func68, Tryd.ntmps68
      go_wp2_with fail
      go_ret
      exact ⟨by rw [HN.out]; rfl, rfl⟩
    · have e2 : ¬ (b.toNat : Int) ≤ 57 := by omega
      have HN : Hid (digB b = false) := hide (by unfold digB; rw [decide_eq_false h2, Bool.and_false])
      clear h1 h2
      go_enter Tryd.func68, Tryd.ntmps68
      go_wp2_with fail
      go_ret
      exact ⟨by rw [HN.out]; rfl, rfl⟩
  · have e1 : ¬ (48 : Int) ≤ (b.toNat : Int) := by omega
    have HN : Hid (digB b = false) := hide (by unfold digB; rw [decide_eq_false h1, Bool.false_and])
    clear h1
    go_enter Tryd.func68, Tryd.ntmps68
    go_wp2_with fail
    go_ret
    exact ⟨by rw [HN.out]; rfl, rfl⟩
theorem all_step {l : List UInt8} {i : Nat} {b : UInt8} (h : l[i]? = some b) : (l.take (i + 1)).all inset = ((l.take i).all inset && inset b) := by
  have hi : i < l.length := by
    rcases Nat.lt_or_ge i l.length with h3 | h3
    · exact h3
    · rw [List.getElem?_eq_none h3] at h; cases h
  rw [List.take_add_one, h]; simp
theorem getI {s : ByteArray} {i : Nat} (h : i < s.size) : s.data.toList[i]? = some s[i] := by
  rw [List.getElem?_eq_getElem (by rw [← sz_eq]; exact h)]; rfl
theorem all_false {l : List UInt8} {i : Nat} {b : UInt8} (h : l[i]? = some b) (hb : inset b = false) : l.all inset = false := by
  rw [List.all_eq_false]
  exact ⟨b, List.mem_of_getElem? h, by rw [hb]; simp⟩
set_option maxHeartbeats 4000000 in
theorem rname_any (s : ByteArray) (w : World) (hs : s.size ≤ maxLen) : Calls Tryd.prog 61 #[.string s] w fun e w' => e = .returned (.bool (nameOk s)) ∧ w' = w := by
  clear hs
  by_cases h0 : s.size = 0
  · have e1 : (s.size : Int) < 1 := by omega
    have HN : Hid (nameOk s = false) := hide (by unfold nameOk nameL; rw [← sz_eq, h0]; rfl)
    go_enter Tryd.func61, Tryd.ntmps61
    clear h0
    go_wp2_with fail
    go_ret
    exact ⟨by rw [HN.out]; rfl, rfl⟩
  · have e1 : ¬ (s.size : Int) < 1 := by omega
    by_cases h16 : 16 < s.size
    · have e2 : (16 : Int) < (s.size : Int) := by omega
      have HN : Hid (nameOk s = false) := hide (by unfold nameOk nameL; rw [← sz_eq, decide_eq_false (show ¬ s.size ≤ 16 by omega)]; simp)
      clear h0 h16
      go_enter Tryd.func61, Tryd.ntmps61
      go_wp2_with fail
      go_ret
      exact ⟨by rw [HN.out]; rfl, rfl⟩
    · have e2 : ¬ (16 : Int) < (s.size : Int) := by omega
      have hp : 0 < s.size := by omega
      obtain ⟨l, hl⟩ := get0 s hp
      have e3 : (0 : Int) < (s.size : Int) := by omega
      have HN : Hid (nameOk s = (lowB s[0] && s.data.toList.all inset)) := hide (by
        unfold nameOk nameL; rw [← sz_eq, decide_eq_true (show 1 ≤ s.size by omega), decide_eq_true (show s.size ≤ 16 by omega), hl]; simp)
      clear h0 h16 hl
      go_enter Tryd.func61, Tryd.ntmps61
      go_wp2_with fail
      (with_reducible refine (lower_any _ _).mono ?_)
      rintro e w1 ⟨rfl, rfl⟩
      cases hlow : lowB s[0]
      · rw [hlow] at HN
        go_wp2_with fail
        go_ret
        exact ⟨by rw [HN.out]; rfl, rfl⟩
      · rw [hlow, Bool.true_and] at HN
        have HS : Hid (s.size ≤ 16) := hide (by omega)
        go_wp2_with fail
        go_loopw [3] (fun v wr => ∃ i : Nat, v = .int .i64 i ∧ i ≤ s.size ∧ Hid ((s.data.toList.take i).all inset = true) ∧ wr = w1) (fun v _ => s.size - (intOf v).toNat)
        case atStart => exact ⟨0, rfl, by omega, hide rfl, rfl⟩
        case round =>
          obtain ⟨i, rfl, hi, HA, rfl⟩ := hrel
          by_cases hlt : i < s.size
          · have hli : (i : Int) < (s.size : Int) := by omega
            have HST := hide (all_step (getI hlt))
            have HFA := hide (all_false (getI hlt))
            have HIN := hide (inset_eq s[i])
            go_wp2_with fail
            (with_reducible refine (lower_any _ _).mono ?_)
            rintro e w2 ⟨rfl, rfl⟩
            cases h1 : lowB s[i]
            · go_wp2_with fail
              (with_reducible refine (digit_any _ _).mono ?_)
              rintro e w3 ⟨rfl, rfl⟩
              cases h2 : digB s[i]
              · by_cases h3 : s[i].toNat = 45
                · have e4 : ((s[i].toNat : Int) != 45) = false := by rw [h3]; rfl
                  have H3 := hide h3
                  clear h3
                  go_wp2_with fail
                  go_roundw
                  case rel => exact ⟨i + 1, by go_num, by omega, hide (by rw [HST.out, HA.out, HIN.out, h1, h2, decide_eq_true H3.out]; simp), by first | trivial | rfl⟩
                  case measure => simp [intOf]; omega
                · have e4 : ((s[i].toNat : Int) != 45) = true := bne_iff_ne.2 (by omega)
                  have HI : Hid (inset s[i] = false) := hide (by rw [HIN.out, h1, h2, decide_eq_false h3]; rfl)
                  clear h3
                  go_wp2_with fail
                  go_ret
                  refine ⟨?_, rfl⟩
                  rw [HN.out, HFA.out HI.out]; rfl
              ·
                go_wp2_with fail
                go_roundw
                case rel => exact ⟨i + 1, by go_num, by omega, hide (by rw [HST.out, HA.out, HIN.out, h1, h2]; simp), by first | trivial | rfl⟩
                case measure => simp [intOf]; omega
            ·
              go_wp2_with fail
              go_roundw
              case rel => exact ⟨i + 1, by go_num, by omega, hide (by rw [HST.out, HA.out, HIN.out, h1]; simp), by first | trivial | rfl⟩
              case measure => simp [intOf]; omega
          · obtain rfl : i = s.size := by omega
            have hli : ¬ (s.size : Int) < (s.size : Int) := by omega
            go_wp2_with fail
            go_ret
            refine ⟨?_, rfl⟩
            have := HA.out
            rw [List.take_of_length_le (by rw [← sz_eq]; exact Nat.le_refl _)] at this
            rw [HN.out, this]; rfl
end Go.Proofs.YtkhinagagncblaaDoor
