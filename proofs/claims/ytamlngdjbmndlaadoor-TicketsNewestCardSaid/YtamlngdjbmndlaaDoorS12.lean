/- The walk of a hash's Sum. -/
import Derived.Test.YtamlngdjbmndlaaDoorS11
import Derived.Test.YtamlngdjbmndlaaDoorS6
namespace Go.Proofs.YtamlngdjbmndlaaDoor
open Go.RowKit Go.Gr
set_option linter.unusedVariables false
attribute [local go_sem] rdOp rdAt rdUpon Cls
/-- the first bytes of what a state reads as -/
def dig (st : List Int) : Nat → List Int
  | 0 => []
  | k + 1 => dig st k ++ [st.getD (k / 4) 0 / 2 ^ (24 - 8 * (k % 4)) % 256]
theorem dig_length (st : List Int) : ∀ k, (dig st k).length = k
  | 0 => rfl
  | k + 1 => by rw [dig, List.length_append, dig_length st k]; rfl
theorem dig_isB (st : List Int) : ∀ k, isB (dig st k)
  | 0 => by intro x hx; simp [dig] at hx
  | k + 1 => by
    intro x hx
    rw [dig, List.mem_append, List.mem_singleton] at hx
    rcases hx with hx | rfl
    · exact dig_isB st k x hx
    · omega
def digest (l : List Int) : List Int := dig (stOf (l ++ padB l.length)) 32
def Z8 (n : Nat) : List Value := List.replicate n (.int .u8 0)
theorem dig_step {w : World} {g : Nat} {st : List Int} {k : Nat} (hB : Blk w g 36 (byt (dig st k) ++ Z8 (32 - k))) (hk : k < 32) :
    w.cell? ⟨g, k, none⟩ = some (.int .u8 0) ∧ Blk (w.setCell ⟨g, k, none⟩ (.int .u8 (st.getD (k / 4) 0 / 2 ^ (24 - 8 * (k % 4)) % 256))) g 36 (byt (dig st (k + 1)) ++ Z8 (32 - (k + 1))) := by
  refine ⟨(hB.cell k).trans ?_, ?_⟩
  · rw [List.getElem?_append_right (by simp [dig_length]), show k - (byt (dig st k)).length = 0 by simp [dig_length]]
    obtain ⟨m, hm⟩ : ∃ m, 32 - k = m + 1 := ⟨31 - k, by omega⟩
    rw [hm]; rfl
  · have h := hB.set k (.int .u8 (st.getD (k / 4) 0 / 2 ^ (24 - 8 * (k % 4)) % 256))
    rw [Z8, set_next (byt (dig st k)) 32 k _ _ (by simp [dig_length]) hk] at h
    rw [dig, byt_append]
    exact h
theorem Laid.two {w : World} (h : Laid w) : 2 ≤ w.heap.size := by
  obtain ⟨ad, e, hc⟩ := h.2 0 (.int .u32 1779033703) rfl
  obtain ⟨ad', e', hc'⟩ := h.1 0 (.int .u32 1116352408) rfl
  have := cell_lt hc
  rw [add_block] at this
  cases e
  have h1 : 0 < w.heap.size := this
  have := cell_lt hc'
  rw [add_block] at this
  cases e'
  have h2 : 1 < w.heap.size := this
  omega
theorem copy_ex (g : Nat) (l : List Int) (w : World) (h : HashAt w g l) : Calls Tryd.prog 79 #[.pointer (some ⟨g, 0, none⟩)] w fun e w' => ∃ g2, e = .returned (.tuple #[.pointer (some ⟨g2, 0, none⟩), .int .i64 0]) ∧ g2 = w.heap.size ∧ HashAt w' g2 l ∧ Ext w w' :=
  (copy_any g l w h).mono fun e w' ⟨a, b, c⟩ => ⟨_, a, rfl, b, c⟩
set_option maxHeartbeats 1000000 in
theorem hsum_any (g : Nat) (l : List Int) (w : World) (hl : Laid w) (h : HashAt w g l) (hlen : l.length ≤ 1152921504606846976) :
    Calls Tryd.prog 59 #[.pointer (some ⟨g, 0, none⟩)] w fun e w' => e = .returned (.tuple #[.agg (byt (digest l)).toArray, .int .i64 0]) ∧ Ext w w' := by
  have HL := hide hl
  have HH := hide h
  have h2 := hl.two
  clear hl h
  go_enter Tryd.func59, Tryd.ntmps59
  go_wp2_with fail
  have HB0 : Hid (Blk ((w.alloc (.cells (Z8 32).toArray 36)).alloc (.cells (Z8 32).toArray 36)) w.heap.size 36 (Z8 32)) := hide ((Blk.new _ _ _).alloc _)
  have HB1 : Hid (Blk ((w.alloc (.cells (Z8 32).toArray 36)).alloc (.cells (Z8 32).toArray 36)) (w.heap.size + 1) 36 (Z8 32)) := hide (Blk.new' _ _ (by simp))
  have HX0 : Hid (Ext w ((w.alloc (.cells (Z8 32).toArray 36)).alloc (.cells (Z8 32).toArray 36))) := hide (((Ext.refl w).alloc _).alloc _)
  have HS0 : Hid (((w.alloc (.cells (Z8 32).toArray 36)).alloc (.cells (Z8 32).toArray 36)).heap.size = w.heap.size + 2) := hide (by simp)
  refine (copy_ex g l _ ?_).mono ?_
  · exact HH.out.ext HX0.out
  rintro e w1 ⟨g2, rfl, hg, hh1, hx1⟩
  have HB0' : Hid (Blk w1 w.heap.size 36 (Z8 32)) := hide (HB0.out.ext hx1)
  have HB1' : Hid (Blk w1 (w.heap.size + 1) 36 (Z8 32)) := hide (HB1.out.ext hx1)
  have HX1 : Hid (Ext w w1) := hide (HX0.out.trans hx1)
  have hg3 : w.heap.size + 2 ≤ g2 := Nat.le_of_eq (hg.trans HS0.out).symm
  have HH1 := hide hh1
  clear hg hh1 hx1 HB0 HB1 HX0 HS0
  obtain ⟨rest, h64, hrb, hp, hB⟩ := HH1.out
  have c1 := (hB.cell 72).trans (hcells_at (stOf l) rest l.length (stOf_ok l).1 h64)
  clear hrb hp hB h64
  have hp0 : padE (l.length : Int) = 0 := by rw [padE, if_neg (by omega)]
  have HPAD := hide (pad_any l.length w1 (by omega) (by omega))
  rw [hp0] at HPAD
  go_wp2_with fail
  (with_reducible refine HPAD.out.mono ?_)
  rintro e w2 ⟨pv, rfl, hown, hx2⟩
  obtain ⟨A, c, rfl, hr, hlc, hfar⟩ := hown.form
  have HR := hide hr
  have HX2 := hide hx2
  have hw1 := HH1.out.lt
  have HF : Hid (∀ ad, A = some ad → ad.block ≠ g2) := hide (fun ad e => by have := hfar ad e; omega)
  have hpl : (byt (padB (l.length : Int))).length = (padB (l.length : Int)).length := by simp
  rw [hpl] at hlc ⊢
  have hpb : (padB (l.length : Int)).length ≤ 72 := by
    rw [padB, if_pos hp0]
    simp [be_length]
    have : padZ (l.length : Int) ≤ 63 := by rw [padZ]; omega
    omega
  have HPB : Hid (isB (padB (l.length : Int))) := by
    rw [padB, if_pos hp0]
    intro x hx
    rw [List.mem_cons, List.mem_append] at hx
    rcases hx with rfl | hx | hx
    · omega
    · rw [List.mem_replicate] at hx; omega
    · exact be_isB 8 _ x hx
  clear hr hx2 hfar hown hpl hp0
  go_wp2_with fail
  (with_reducible refine (write_any g2 l (padB (l.length : Int)) A c w2 (HL.out.ext (HX1.out.trans HX2.out)) (by omega) (HH1.out.ext HX2.out) HR.out (fun _ => HF.out) HPB.out hlc (by omega)).mono ?_)
  rintro e w3 ⟨rfl, hh3, hu3⟩
  obtain ⟨l2, hl2⟩ : ∃ l2, l ++ padB (l.length : Int) = l2 := ⟨_, rfl⟩
  have HD : Hid (digest l = dig (stOf l2) 32) := by rw [digest, hl2]; exact hide rfl
  rw [hl2] at hh3
  have HH3 := hide hh3
  have HB03 : Hid (Blk w3 w.heap.size 36 (Z8 32)) := hide ((HB0'.out.ext HX2.out).upd hu3 (by omega))
  have HB13 : Hid (Blk w3 (w.heap.size + 1) 36 (Z8 32)) := hide ((HB1'.out.ext HX2.out).upd hu3 (by omega))
  have HX3 : Hid (Ext w w3) := hide (Upd.new (HX1.out.trans HX2.out) (by omega) hu3)
  clear hh3 hu3 hl2 HR HF HPB hlc hpb HPAD c1 HB0' HB1'
  have HB1z : Hid (Blk w3 (w.heap.size + 1) 36 (byt (dig (stOf l2) 0) ++ Z8 (32 - 0))) := HB13
  have hst := stOf_ok l2
  have HH4 : Hid (∃ rest n, Blk w3 g2 123 (hcells (stOf l2) rest n)) := by
    obtain ⟨r, _, _, _, hb⟩ := HH3.out
    exact hide ⟨r, _, hb⟩
  clear HH3
  generalize stOf l2 = st at *
  clear HB13
  go_wp2_with fail
  go_loopw [33] (fun i wr => ∃ k : Nat, i = .int .i64 k ∧ k ≤ 32 ∧ Hid (Blk wr w.heap.size 36 (Z8 32)) ∧ Hid (Blk wr (w.heap.size + 1) 36 (byt (dig st k) ++ Z8 (32 - k))) ∧ Hid (∃ rest n, Blk wr g2 123 (hcells st rest n)) ∧ Hid (Ext w wr)) (fun i _ => 32 - (intOf i).toNat)
  case atStart => exact ⟨0, rfl, by omega, HB03, HB1z, HH4, HX3⟩
  case round =>
    obtain ⟨k, rfl, hk, HA0, HA1, HA2, HAX⟩ := hrel
    by_cases hlt : k < 32
    · obtain ⟨q, hq⟩ : ∃ q, k / 4 = q := ⟨_, rfl⟩
      obtain ⟨r, hr⟩ : ∃ r, k % 4 = r := ⟨_, rfl⟩
      obtain ⟨rest, n, hB⟩ := HA2.out
      have hq8 : q < 8 := by omega
      have hr4 : r < 4 := by omega
      have cs := (hB.cell q).trans ((by have := hcells_state st rest n q _ (u32v_at st q (by rw [hst.1]; exact hq8)); rwa [Nat.zero_add] at this) : _ = some (Value.int .u32 (st.getD q 0)))
      have hx := isW_at hst.2 q
      have HS := hide (dig_step HA1.out hlt)
      rw [hq, hr] at HS
      have cz := HS.out.1
      have cf := HA1.out.free k
      generalize st.getD q 0 = x at *
      have q1 : Int.tdiv (k : Int) 4 = q := by rw [Int.tdiv_eq_ediv_of_nonneg (by omega)]; omega
      have q2 : (k : Int) / 4 = q := by omega
      have r1 : Int.tmod (k : Int) 4 = r := by rw [Int.tmod_eq_emod_of_nonneg (by omega)]; omega
      have r2 : (k : Int) % 4 = r := by omega
      have w1 : IntKind.i64.wrap (8 * (r : Int)) = 8 * (r : Int) := IntWalk.i64_in _ (by omega)
      have w2 : IntKind.i64.wrap (24 - 8 * (r : Int)) = 24 - 8 * (r : Int) := IntWalk.i64_in _ (by omega)
      have l1 : (0 : Int) ≤ 24 - 8 * (r : Int) := by omega
      have n1 : (24 - 8 * (r : Int)).toNat = 24 - 8 * r := by omega
      have l2' : (q : Int) < 8 := by omega
      have l3 : (k : Int) < 32 := by omega
      have HB2 := hide hB
      clear hB hq hr
      go_wp2_with fail
      go_roundw
      case rel => exact ⟨k + 1, by go_num, by omega, hide (HA0.out.far (by show w.heap.size ≠ w.heap.size + 1; omega) _), hide HS.out.2, hide ⟨rest, n, HB2.out.far (by show g2 ≠ w.heap.size + 1; omega) _⟩, hide (Below.setCell HAX.out (by show w.heap.size ≤ w.heap.size + 1; omega) _)⟩
      case measure => simp [intOf]; omega
    · obtain rfl : k = 32 := by omega
      rw [show ((32 : Nat) : Int) = 32 from rfl]
      have hB := HA1.out
      rw [show Z8 (32 - 32) = [] from rfl, List.append_nil, ← HD.out] at hB
      have HB := hide hB
      have HDL : Hid ((byt (digest l)).length = 32) := hide (by rw [byt_length, digest, dig_length])
      clear hB
      go_wp2_with (first
        | (refine wpList_loadB rfl 36 (.tmp 4) rfl HB.out rfl _ Tryd.underlying36 rfl (by rw [HDL.out]; kernel_rfl) ?_)
        | (refine wpList_storeB rfl 36 (.tmp 2) (.tmp 52) rfl HA0.out rfl rfl (by rw [HDL.out]; kernel_rfl) (by rw [HDL.out]; rfl) (byt_one _) ?_))
      refine bodyPost_ret (v := .tuple #[.agg (byt (digest l)).toArray, .int .i64 0]) (results_row_tmp rfl _ _ w.heap.size 36 (byt (digest l)).toArray (0, 0) _ rfl (HA0.out.setRow _) Tryd.underlying36 rfl (by rw [List.size_toArray, HDL.out]; kernel_rfl) rfl) rfl ⟨rfl, Below.setRow HAX.out (Nat.le_refl _) _⟩
end Go.Proofs.YtamlngdjbmndlaaDoor
