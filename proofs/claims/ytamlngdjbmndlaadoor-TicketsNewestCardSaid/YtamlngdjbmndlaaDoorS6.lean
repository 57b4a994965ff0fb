/- The walks of the constants and of the start, of sha and of the reference, and of the reference's Block. -/
import Derived.Test.YtamlngdjbmndlaaDoorS5
import Derived.Test.YtamlngdjbmndlaaDoorGa
namespace Go.Proofs.YtamlngdjbmndlaaDoor
open Go.RowKit Go.Gr
set_option linter.unusedVariables false
attribute [local go_sem] rdOp rdAt rdUpon Cls
theorem Laid.at0 {w : World} (h : Laid w) : Rd w (some ⟨1, 0, none⟩) (u32v kT) := h.1
theorem Laid.at1 {w : World} (h : Laid w) : Rd w (some ⟨0, 0, none⟩) (u32v hT) := h.2
theorem Laid.ext {w w' : World} (h : Laid w) (k : Ext w w') : Laid w' := ⟨h.1.ext k, h.2.ext k⟩
theorem kT_roots : pT.map (fun p => rootS p true % 4294967296) = kT := by decide +kernel
theorem hT_roots : (pT.take 8).map (fun p => rootS p false % 4294967296) = hT := by decide +kernel
theorem kT_root (k : Nat) (h : k < 64) : kT.getD k 0 = rootS (pT.getD k 0) true % 4294967296 := by
  rw [← kT_roots]
  have hl : k < pT.length := h
  simp [hl]
theorem hT_root (k : Nat) (h : k < 8) : hT.getD k 0 = rootS (pT.getD k 0) false % 4294967296 := by
  rw [← hT_roots]
  have hl : k < pT.length := Nat.lt_trans h (by decide)
  simp [hl, h]
theorem pT_take (m k : Nat) (h : k < m) (h2 : m ≤ 64) : (u64v (pT.take m))[k]? = some (.int .u64 (pT.getD k 0)) := by
  have hl : pT.length = 64 := rfl
  rw [u64v_at _ _ (by rw [List.length_take]; omega)]
  have h3 : k < pT.length := by omega
  simp [h, h3]
theorem pT_at (k : Nat) (h : k < 64) : 0 ≤ pT.getD k 0 ∧ pT.getD k 0 < 18446744073709551616 := by
  have hl : k < pT.length := h
  have := pT_range pT[k] (List.getElem_mem _)
  rw [show pT.getD k 0 = pT[k] by simp [hl]]
  omega
/-- the two arrays of the call, and the primes -/
def C1 (w : World) (t : TypeId) (n m : Nat) (p : Value) (l : List Int) (wr : World) : Prop :=
  Ext w wr ∧ Blk wr w.heap.size t (Z n) ∧ Blk wr (w.heap.size + 1) t (u32v l ++ Z (n - l.length)) ∧ Own (w.heap.size + 2) wr 23 p (u64v (pT.take m))
theorem C1.step {w : World} {t : TypeId} {n m : Nat} {p : Value} {l : List Int} {wr w' : World} (h : C1 w t n m p l wr) (hx : Ext wr w') (hl : l.length < n) (x : Int) {k : Nat} (hk : l.length = k) : C1 w t n m p (l ++ [x]) (w'.setCell ⟨w.heap.size + 1, k, none⟩ (.int .u32 x)) := by
  obtain ⟨hX, h0, h1, hp⟩ := h
  subst hk
  refine ⟨Below.setCell (hX.trans hx) (by show w.heap.size ≤ w.heap.size + 1; omega) _, (h0.ext hx).far (by show w.heap.size ≠ w.heap.size + 1; omega) _, ?_, ?_⟩
  · have := (h1.ext hx).set l.length (.int .u32 x)
    rw [Z, set_next (u32v l) n l.length _ _ (by simp) hl] at this
    rw [u32v_append, List.length_append]
    exact this
  · exact ownsRow_setCell_below (hp.ext hx) (by show w.heap.size + 1 < w.heap.size + 2; omega) _

set_option maxHeartbeats 1000000 in
theorem rconstants_any (w : World) : Calls Tryd.prog 87 #[] w fun e w' => e = .returned (.agg (u32v kT).toArray) ∧ Ext w w' := by
  go_enter Tryd.func87, Tryd.ntmps87
  go_wp2_with fail
  refine (primes_any 64 _ (by decide) (by decide)).mono ?_
  rintro e w1 ⟨p, rfl, ho, hx⟩
  have HA : Hid (C1 w 127 64 64 p [] w1) := hide ⟨((Ext.refl w).alloc _).alloc _ |>.trans hx, ((Blk.new w 127 (Z 64)).alloc _).ext hx, (Blk.new' 127 (Z 64) (by simp)).ext hx, by have := ho; simpa using this⟩
  obtain ⟨A, c, rfl, hr, hlc, _⟩ := ho.form
  have HR := hide hr
  have HPL : Hid ((u64v (pT.take 64)).length = 64) := hide (by decide)
  rw [HPL.out]
  clear ho hr
  go_wp2_with fail
  go_loopw [3] (fun i wr => ∃ (k : Nat) (wp : World), i = .int .i64 k ∧ k ≤ 64 ∧ Hid (C1 w 127 64 64 (.slice A (u64v (pT.take 64)).length c) (kT.take k) wr)) (fun i _ => 64 - (intOf i).toNat)
  case atStart => exact ⟨0, w, rfl, by omega, HA⟩
  case round =>
    obtain ⟨k, _, rfl, hk, HC⟩ := hrel
    by_cases hlt : k < 64
    · obtain ⟨A', c', hv, hr', _, _⟩ := HC.out.2.2.2.form
      simp only [u64v_length, Value.slice.injEq] at hv
      obtain ⟨rfl, _, rfl⟩ := hv
      obtain ⟨ad, rfl, hcell⟩ := hr' k _ (pT_take 64 k hlt (by decide))
      have HT : Hid (kT.take (k + 1) = kT.take k ++ [rootS (pT.getD k 0) true % 4294967296]) := by
        rw [take_next kT k (show k < 64 from hlt), kT_root k hlt]; exact hide rfl
      have HLn : Hid ((kT.take k).length = k) := hide (by rw [List.length_take]; exact Nat.min_eq_left hk)
      have hpr := pT_at k (by omega)
      generalize pT.getD k 0 = q at *
      have HPR := hide hpr
      have HTT := HT
      clear hr'
      have HCELL := hide hcell
      go_wp2_with fail
      (with_reducible refine (rroot_any q true _ HPR.out).mono ?_)
      rintro e w2 ⟨rfl, hx2⟩
      obtain ⟨r, hrr⟩ : ∃ r, rootS q true = r := ⟨_, rfl⟩
      have hrg : 0 ≤ r ∧ r < 18446744073709551616 := by rw [← hrr, rootS]; exact rootF_range _ _ _ _ (by omega)
      rw [hrr] at HT ⊢
      have HX2 := hide hx2
      clear hx2 hrr HTT
      have cw := ((HC.out.2.2.1.ext HX2.out).cell k).trans (show _ = some (Value.int .u32 0) from by rw [HLn.out]; exact next_at _ 64 k (by rw [u32v_length]; exact HLn.out) hlt)
      have cf := (HC.out.2.2.1.ext HX2.out).free k
      go_wp2_with fail
      go_roundw
      case rel =>
        refine ⟨k + 1, w, by go_num, by omega, ?_⟩
        rw [HT.out]
        exact hide (HC.out.step HX2.out (by rw [HLn.out]; exact hlt) _ HLn.out)
      case measure => simp [intOf]; omega
    · obtain rfl : k = 64 := by omega
      rw [show ((64 : Nat) : Int) = 64 from rfl]
      have hB := HC.out.2.2.1
      rw [show kT.take 64 = kT from rfl, show Z (64 - kT.length) = [] from rfl, List.append_nil] at hB
      have HB1 := hide hB
      have HB0 := hide HC.out.2.1
      have HX := hide HC.out.1
      clear hB
      go_wp2_with (first
        | (refine wpList_loadB rfl 127 (.tmp 1) rfl HB1.out rfl _ Tryd.underlying127 rfl (by kernel_rfl) ?_)
        | (refine wpList_storeB rfl 127 (.tmp 0) (.tmp 18) rfl HB0.out rfl rfl (by kernel_rfl) rfl (u32v_one _) ?_))
      refine bodyPost_ret (v := .agg (u32v kT).toArray) (results_cell_row rfl _ _ w.heap.size 127 (u32v kT).toArray (0, 0) _ rfl (HB0.out.setRow _) Tryd.underlying127 rfl (by kernel_rfl)) rfl ⟨rfl, Below.setRow HX.out (Nat.le_refl _) _⟩

set_option maxHeartbeats 1000000 in
theorem rstart_any (w : World) : Calls Tryd.prog 88 #[] w fun e w' => e = .returned (.agg (u32v hT).toArray) ∧ Ext w w' := by
  go_enter Tryd.func88, Tryd.ntmps88
  go_wp2_with fail
  refine (primes_any 8 _ (by decide) (by decide)).mono ?_
  rintro e w1 ⟨p, rfl, ho, hx⟩
  have HA : Hid (C1 w 120 8 8 p [] w1) := hide ⟨((Ext.refl w).alloc _).alloc _ |>.trans hx, ((Blk.new w 120 (Z 8)).alloc _).ext hx, (Blk.new' 120 (Z 8) (by simp)).ext hx, by have := ho; simpa using this⟩
  obtain ⟨A, c, rfl, hr, hlc, _⟩ := ho.form
  have HR := hide hr
  have HPL : Hid ((u64v (pT.take 8)).length = 8) := hide (by decide)
  rw [HPL.out]
  clear ho hr
  go_wp2_with fail
  go_loopw [3] (fun i wr => ∃ (k : Nat) (wp : World), i = .int .i64 k ∧ k ≤ 8 ∧ Hid (C1 w 120 8 8 (.slice A (u64v (pT.take 8)).length c) (hT.take k) wr)) (fun i _ => 8 - (intOf i).toNat)
  case atStart => exact ⟨0, w, rfl, by omega, HA⟩
  case round =>
    obtain ⟨k, _, rfl, hk, HC⟩ := hrel
    by_cases hlt : k < 8
    · obtain ⟨A', c', hv, hr', _, _⟩ := HC.out.2.2.2.form
      simp only [u64v_length, Value.slice.injEq] at hv
      obtain ⟨rfl, _, rfl⟩ := hv
      obtain ⟨ad, rfl, hcell⟩ := hr' k _ (pT_take 8 k hlt (by decide))
      have HT : Hid (hT.take (k + 1) = hT.take k ++ [rootS (pT.getD k 0) false % 4294967296]) := by
        rw [take_next hT k (show k < 8 from hlt), hT_root k hlt]; exact hide rfl
      have HLn : Hid ((hT.take k).length = k) := hide (by rw [List.length_take]; exact Nat.min_eq_left hk)
      have hpr := pT_at k (by omega)
      generalize pT.getD k 0 = q at *
      have HPR := hide hpr
      have HTT := HT
      clear hr'
      have HCELL := hide hcell
      go_wp2_with fail
      (with_reducible refine (rroot_any q false _ HPR.out).mono ?_)
      rintro e w2 ⟨rfl, hx2⟩
      obtain ⟨r, hrr⟩ : ∃ r, rootS q false = r := ⟨_, rfl⟩
      have hrg : 0 ≤ r ∧ r < 18446744073709551616 := by rw [← hrr, rootS]; exact rootF_range _ _ _ _ (by omega)
      rw [hrr] at HT ⊢
      have HX2 := hide hx2
      clear hx2 hrr HTT
      have cw := ((HC.out.2.2.1.ext HX2.out).cell k).trans (show _ = some (Value.int .u32 0) from by rw [HLn.out]; exact next_at _ 8 k (by rw [u32v_length]; exact HLn.out) hlt)
      have cf := (HC.out.2.2.1.ext HX2.out).free k
      go_wp2_with fail
      go_roundw
      case rel =>
        refine ⟨k + 1, w, by go_num, by omega, ?_⟩
        rw [HT.out]
        exact hide (HC.out.step HX2.out (by rw [HLn.out]; exact hlt) _ HLn.out)
      case measure => simp [intOf]; omega
    · obtain rfl : k = 8 := by omega
      rw [show ((8 : Nat) : Int) = 8 from rfl]
      have hB := HC.out.2.2.1
      rw [show hT.take 8 = hT from rfl, show Z (8 - hT.length) = [] from rfl, List.append_nil] at hB
      have HB1 := hide hB
      have HB0 := hide HC.out.2.1
      have HX := hide HC.out.1
      clear hB
      go_wp2_with (first
        | (refine wpList_loadB rfl 120 (.tmp 1) rfl HB1.out rfl _ Tryd.underlying120 rfl (by kernel_rfl) ?_)
        | (refine wpList_storeB rfl 120 (.tmp 0) (.tmp 18) rfl HB0.out rfl rfl (by kernel_rfl) rfl (u32v_one _) ?_))
      refine bodyPost_ret (v := .agg (u32v hT).toArray) (results_cell_row rfl _ _ w.heap.size 120 (u32v hT).toArray (0, 0) _ rfl (HB0.out.setRow _) Tryd.underlying120 rfl (by kernel_rfl)) rfl ⟨rfl, Below.setRow HX.out (Nat.le_refl _) _⟩

end Go.Proofs.YtamlngdjbmndlaaDoor
