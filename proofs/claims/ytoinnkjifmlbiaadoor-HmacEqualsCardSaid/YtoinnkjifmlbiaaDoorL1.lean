/- Hmac: the law HmacEquals walked. -/
import Derived.Laws.BytesArg
import Derived.Lib.SlicesS
import Derived.Test.YtoinnkjifmlbiaaDoorL0
import Derived.Test.YtoinnkjifmlbiaaDoorR1
namespace Go.Proofs.YtoinnkjifmlbiaaDoor
open Go.RowKit Go.Gr
set_option linter.unusedVariables false
set_option linter.unusedSimpArgs false
theorem str_of {w : World} {A : Option Addr} {l : List Int} (c : Nat) (h : Rd w A (byt l)) : (convert 22 9 (.slice A l.length c)).run Tryd.prog w = .ok (.string (strOfNums l)) w := by
  cases A with
  | none =>
    cases l with
    | nil => exact run_convert_bytes_nil w 22 5 Tryd.underlying22 Tryd.underlying5 0 c 9 Tryd.underlying9
    | cons x t =>
      obtain ⟨ad, e, _⟩ := h.at_ (k := 0) (by simp)
      cases e
  | some ad =>
    have hl : (loadCells ad l.length).run Tryd.prog w = .ok (l.map (Value.int .u8)).toArray w := by
      have := run_loadCells_list (P := Tryd.prog) w ad (l.map (Value.int .u8)) (fun j v hj => by
        obtain ⟨ad', e, hc⟩ := h j v hj
        cases e; exact hc)
      simpa using this
    rw [run_convert_bytes_string w 22 9 5 _ l.length c Tryd.underlying22 Tryd.underlying5 Tryd.underlying9, run_bytesToString w _ _ c l hl, foldl_push_bytes]
    simp [strOfNums, ByteArray.empty, ByteArray.emptyWithCapacity]
    rfl
theorem str_inj {a b : List Int} (ha : isB a) (hb : isB b) (h : strOfNums a = strOfNums b) : a = b := by
  have hm : ∀ l : List Int, isB l → (l.map fun n => UInt8.ofNat n.toNat).map (fun u => (u.toNat : Int)) = l := by
    intro l hl
    rw [List.map_map]
    conv => rhs; rw [← List.map_id l]
    apply List.map_congr_left
    intro x hx
    have := hl x hx
    simp only [Function.comp, id, UInt8.toNat_ofNat']
    omega
  have h2 : (a.map fun n => UInt8.ofNat n.toNat) = (b.map fun n => UInt8.ofNat n.toNat) := by
    have := congrArg (fun s => s.data.toList) h
    simpa [strOfNums] using this
  rw [← hm a ha, ← hm b hb, h2]
theorem maxN_comm (a b : Nat) : maxN b a = maxN a b := by unfold maxN; split <;> split <;> omega
set_option maxRecDepth 100000 in
set_option maxHeartbeats 1000000 in
theorem equals_law (w : World) (hl : Laid w) (v0 : Value) (h0 : LfOk Tryd.prog w (.slice 5) v0) (v1 : Value) (h1 : LfOk Tryd.prog w (.slice 5) v1) : Calls Tryd.prog 4 #[v0, v1] w fun e w' => e = .returned (.bool true) ∧ Ext w w' := by
  obtain ⟨A, l, c, rfl, hr, hb, hc, hm⟩ := bytes_arg h0
  obtain ⟨B, m, cb, rfl, hrb, hbb, hcb, hmb⟩ := bytes_arg h1
  have HL := hide hl
  have HR := hide hr
  have HB := hide hb
  have HRB := hide hrb
  have HBB := hide hbb
  clear hl hr hb h0 h1 hrb hbb
  by_cases hs : l.length ≤ 300 ∧ m.length ≤ 300
  · obtain ⟨s1, s2⟩ := hs
    have d1 : ¬ (300 : Int) < (l.length : Int) := by omega
    have d2 : ¬ (300 : Int) < (m.length : Int) := by omega
    have E1 := hide (equal_any l m A B c cb w HR.out HRB.out HB.out HBB.out (by omega) (by omega))
    have E2 := hide (fun (x : World) (h : Ext w x) => requal_any l m A B c cb x (HR.out.ext h) (HRB.out.ext h) (by omega) (by omega))
    have E3 := hide (fun (x : World) (h : Ext w x) => equal_any m l B A cb c x (HRB.out.ext h) (HR.out.ext h) HBB.out HB.out (by omega) (by omega))
    rw [maxN_comm] at E3
    rw [show decide (m = l) = decide (l = m) from decide_eq_decide.2 eq_comm] at E3
    obtain ⟨n, HN⟩ : ∃ n : Int, Hid (((maxN l.length m.length : Nat) : Int) = n) := ⟨_, hide rfl⟩
    rw [HN.out] at E1 E2 E3
    obtain ⟨q, HQ⟩ : ∃ q, Hid (decide (l = m) = q) := ⟨_, hide rfl⟩
    rw [HQ.out] at E1 E2 E3
    obtain ⟨s, HS⟩ : ∃ s, Hid (strOfNums l = s) := ⟨_, hide rfl⟩
    obtain ⟨t, HT⟩ : ∃ t, Hid (strOfNums m = t) := ⟨_, hide rfl⟩
    have HST : Hid ((s.toList == t.toList) = q) := hide (by
      rw [← HQ.out, ← HS.out, ← HT.out]
      by_cases e : l = m
      · rw [e]; simp
      · have : ¬ strOfNums l = strOfNums m := fun h => e (str_inj HB.out HBB.out h)
        rw [(Lib.bytes_beq_false_iff _ _).2 this]; simp [e])
    go_enter Tryd.func4, Tryd.ntmps4
    go_wp2_with fail
    (with_reducible refine E1.out.mono ?_)
    rintro e w1 ⟨rfl, hx1⟩
    have X1 := hide hx1
    clear hx1
    go_wp2_with fail
    (with_reducible refine (E2.out w1 X1.out).mono ?_)
    rintro e w2 ⟨rfl, rfl⟩
    go_wp2_with fail
    (with_reducible refine (E3.out w1 X1.out).mono ?_)
    rintro e w3 ⟨rfl, hx3⟩
    have X3 : Hid (Ext w w3) := hide (X1.out.trans hx3)
    clear hx3
    have hc1 := str_of c (HR.out.ext X3.out)
    have hc2 := str_of cb (HRB.out.ext X3.out)
    rw [HS.out] at hc1
    rw [HT.out] at hc2
    have hst := HST.out
    cases q
    all_goals
      go_wp2_with fail
      (with_reducible refine (shown_any w3 (HL.out.ext X3.out)).mono ?_)
      rintro e w4 ⟨rfl, hx4⟩
      go_wp2_with fail
      go_ret
      exact ⟨rfl, X3.out.trans hx4⟩
  · have HS := hide (shown_any w HL.out)
    by_cases s1 : 300 < l.length
    · have d1 : (300 : Int) < (l.length : Int) := by omega
      clear hs
      go_enter Tryd.func4, Tryd.ntmps4
      go_wp2_with fail
      (with_reducible refine HS.out.mono ?_)
      rintro e w1 ⟨rfl, hx⟩
      go_wp2_with fail
      go_ret
      exact ⟨rfl, hx⟩
    · have d1 : ¬ (300 : Int) < (l.length : Int) := by omega
      have d2 : (300 : Int) < (m.length : Int) := by omega
      clear hs
      go_enter Tryd.func4, Tryd.ntmps4
      go_wp2_with fail
      (with_reducible refine HS.out.mono ?_)
      rintro e w1 ⟨rfl, hx⟩
      go_wp2_with fail
      go_ret
      exact ⟨rfl, hx⟩
end Go.Proofs.YtoinnkjifmlbiaaDoor
