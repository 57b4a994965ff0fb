/- The walk of the reference's block: it returns what the plain function says; only memory is added. -/
import Derived.Test.YtamlngdjbmndlaaDoorS2
namespace Go.Proofs.YtamlngdjbmndlaaDoor
open Go.RowKit Go.Gr
set_option linter.unusedVariables false
attribute [local go_sem] rdOp rdAt rdUpon Cls
def blockG (ks st b : List Int) : List Int := sumS (rnds ks (sched b 48) st 64) st
/-- the six blocks of the call: constants, state, bytes, result, schedule; so many blocks in all -/
def R1 (w : World) (ks st b ws : List Int) (n : Nat) (wr : World) : Prop :=
  Ext w wr ∧ Blk wr w.heap.size 127 (u32v ks) ∧ Blk wr (w.heap.size + 1) 120 (u32v st) ∧ Blk wr (w.heap.size + 1 + 1) 121 (byt b) ∧ Blk wr (w.heap.size + 1 + 1 + 1) 120 (Z 8) ∧ Blk wr (w.heap.size + 1 + 1 + 1 + 1) 127 (u32v ws ++ Z (64 - ws.length)) ∧ wr.heap.size = w.heap.size + n
theorem R1.start (w : World) (ks st b : List Int) : R1 w ks st b [] 5 (((((w.alloc (.cells (u32v ks).toArray 127)).alloc (.cells (u32v st).toArray 120)).alloc (.cells (byt b).toArray 121)).alloc (.cells (Z 8).toArray 120)).alloc (.cells (Z 64).toArray 127)) :=
  ⟨(((((Ext.refl w).alloc _).alloc _).alloc _).alloc _).alloc _, ((((Blk.new w _ (u32v ks)).alloc _).alloc _).alloc _).alloc _, (((Blk.new' _ (u32v st) (by simp)).alloc _).alloc _).alloc _, ((Blk.new' _ (byt b) (by simp)).alloc _).alloc _, (Blk.new' _ (Z 8) (by simp)).alloc _, Blk.new' _ (Z 64) (by simp), by simp⟩
theorem R1.step {w : World} {ks st b ws : List Int} {n : Nat} {wr : World} (h : R1 w ks st b ws n wr) (hl : ws.length < 64) (x : Int) {k : Nat} (hk : ws.length = k) : R1 w ks st b (ws ++ [x]) n (wr.setCell ⟨w.heap.size + 1 + 1 + 1 + 1, k, none⟩ (.int .u32 x)).drew := by
  obtain ⟨hX, h0, h1, h2, h3, h4, hz⟩ := h
  subst hk
  refine ⟨(Below.setCell hX (by show w.heap.size ≤ w.heap.size + 1 + 1 + 1 + 1; omega) _).drew, h0.far (by show w.heap.size ≠ w.heap.size + 1 + 1 + 1 + 1; omega) _, h1.far (by show w.heap.size + 1 ≠ w.heap.size + 1 + 1 + 1 + 1; omega) _, h2.far (by show w.heap.size + 1 + 1 ≠ w.heap.size + 1 + 1 + 1 + 1; omega) _, h3.far (by show w.heap.size + 1 + 1 + 1 ≠ w.heap.size + 1 + 1 + 1 + 1; omega) _, ?_, by simpa [World.setCell] using hz⟩
  have := h4.set ws.length (.int .u32 x)
  rw [Z, set_next (u32v ws) 64 ws.length _ _ (by simp) hl] at this
  rw [u32v_append, List.length_append]
  exact this
theorem R1.drew {w : World} {ks st b ws : List Int} {n : Nat} {wr : World} (h : R1 w ks st b ws n wr) : R1 w ks st b ws n wr.drew := ⟨h.1.drew, h.2⟩
theorem R1.alloc {w : World} {ks st b ws : List Int} {n : Nat} {wr : World} (h : R1 w ks st b ws n wr) (o : Obj) : R1 w ks st b ws (n + 1) (wr.alloc o) := ⟨h.1.alloc _, h.2.1.alloc _, h.2.2.1.alloc _, h.2.2.2.1.alloc _, h.2.2.2.2.1.alloc _, h.2.2.2.2.2.1.alloc _, by simp [h.2.2.2.2.2.2]; omega⟩
theorem R1.far {w : World} {ks st b ws : List Int} {n : Nat} {wr : World} (h : R1 w ks st b ws n wr) {g : Nat} (hg : w.heap.size + 1 + 1 + 1 + 1 < g) (i : Nat) (u : Value) : R1 w ks st b ws n (wr.setCell ⟨g, i, none⟩ u) :=
  ⟨Below.setCell h.1 (by show w.heap.size ≤ g; omega) _, h.2.1.far (by show w.heap.size ≠ g; omega) _, h.2.2.1.far (by show w.heap.size + 1 ≠ g; omega) _, h.2.2.2.1.far (by show w.heap.size + 1 + 1 ≠ g; omega) _, h.2.2.2.2.1.far (by show w.heap.size + 1 + 1 + 1 ≠ g; omega) _, h.2.2.2.2.2.1.far (by show w.heap.size + 1 + 1 + 1 + 1 ≠ g; omega) _, by simpa [World.setCell] using h.2.2.2.2.2.2⟩
theorem R1.row {w : World} {ks st b ws : List Int} {n : Nat} {wr : World} (h : R1 w ks st b ws n wr) {g : Nat} (hg : w.heap.size + 1 + 1 + 1 + 1 < g) (C : Array Value) : R1 w ks st b ws n (wr.setRow g C) :=
  ⟨Below.setRow h.1 (by omega) _, h.2.1.rowFar (by omega) _, h.2.2.1.rowFar (by omega) _, h.2.2.2.1.rowFar (by omega) _, h.2.2.2.2.1.rowFar (by omega) _, h.2.2.2.2.2.1.rowFar (by omega) _, by simpa using h.2.2.2.2.2.2⟩
def R4 (w : World) (ks st b s : List Int) (wr : World) : Prop := R1 w ks st b (sched b 48) 6 wr ∧ Blk wr (w.heap.size + 5) 120 (u32v s)
theorem R4.start {w : World} {ks st b : List Int} {wr : World} (h : R1 w ks st b (sched b 48) 5 wr) : R4 w ks st b st ((wr.alloc (.cells (Z 8).toArray 120)).setRow (w.heap.size + 5) (u32v st).toArray) :=
  ⟨(h.alloc _).row (by omega) _, (Blk.new' _ (Z 8) h.2.2.2.2.2.2).setRow _⟩
theorem R4.drew {w : World} {ks st b s : List Int} {wr : World} (h : R4 w ks st b s wr) : R4 w ks st b s wr.drew := ⟨h.1.drew, h.2⟩
theorem R4.step {w : World} {ks st b s : List Int} {wr : World} (h : R4 w ks st b s wr) (s' : List Int) : R4 w ks st b s' (wr.setRow (w.heap.size + 5) (u32v s').toArray) :=
  ⟨h.1.row (by omega) _, h.2.setRow _⟩
theorem rsum_next (r st : List Int) (k : Nat) (hr : r.length = 8) (hs : st.length = 8) (hk : k < 8) : ((sumS r st).take k ++ r.drop k).set k ((r.getD k 0 + st.getD k 0) % 4294967296) = (sumS r st).take (k + 1) ++ r.drop (k + 1) ∧ (u32v ((sumS r st).take k ++ r.drop k))[k]? = some (.int .u32 (r.getD k 0)) := by
  obtain ⟨a, b, c, d, e, f, g, i, rfl⟩ := eight r hr
  obtain ⟨a', b', c', d', e', f', g', i', rfl⟩ := eight st hs
  rcases (show k = 0 ∨ k = 1 ∨ k = 2 ∨ k = 3 ∨ k = 4 ∨ k = 5 ∨ k = 6 ∨ k = 7 by omega) with rfl | rfl | rfl | rfl | rfl | rfl | rfl | rfl <;> exact ⟨rfl, rfl⟩
theorem R4.set {w : World} {ks st b s s' : List Int} {k : Nat} {x : Int} {wr : World} (h : R4 w ks st b s wr) (hn : s.set k x = s') : R4 w ks st b s' (wr.setCell ⟨w.heap.size + 5, k, none⟩ (.int .u32 x)) := by
  refine ⟨h.1.far (by omega) _ _, ?_⟩
  have := h.2.set k (.int .u32 x)
  have e : (u32v s).set k (.int .u32 x) = u32v (s.set k x) := by simp [u32v, List.map_set]
  rw [e, hn] at this
  exact this
set_option maxRecDepth 20000 in
set_option maxHeartbeats 4000000 in
theorem rblock_any (ks st b : List Int) (w : World) (hk : ks.length = 64) (hs : st.length = 8) (hb : b.length = 64) (hkw : isW ks) (hsw : isW st) (hbb : isB b) :
    Calls Tryd.prog 89 #[.agg (u32v ks).toArray, .agg (u32v st).toArray, .agg (byt b).toArray] w fun e w' => e = .returned (.agg (u32v (blockG ks st b)).toArray) ∧ Ext w w' := by
  have HKW := hide hkw
  have HSW := hide hsw
  have HBB := hide hbb
  have HKL := hide hk
  have HSL := hide hs
  have HBL := hide hb
  clear hk hkw hsw hbb hs hb
  go_enter Tryd.func89, Tryd.ntmps89
  go_wp2_with fail
  go_loopw [8] (fun i wr => ∃ k : Nat, i = .int .i64 k ∧ k ≤ 16 ∧ Hid (R1 w ks st b (wl b k) 5 wr)) (fun i _ => 16 - (intOf i).toNat)
  case atStart => exact ⟨0, rfl, by omega, hide (R1.start w ks st b)⟩
  case round =>
    obtain ⟨k, rfl, hk, HA⟩ := hrel
    by_cases hlt : k < 16
    · have hB2 := HA.out.2.2.2.1
      have hbl := HBL.out
      have c0 := fun p => hB2.cls (4 * k) (byt_at b (4 * k) (by omega)) p
      have r0 := isB_at HBB.out (4 * k)
      have c1 := fun p => hB2.cls (4 * k + 1) (byt_at b (4 * k + 1) (by omega)) p
      have r1 := isB_at HBB.out (4 * k + 1)
      have c2 := fun p => hB2.cls (4 * k + 2) (byt_at b (4 * k + 2) (by omega)) p
      have r2 := isB_at HBB.out (4 * k + 2)
      have c3 := fun p => hB2.cls (4 * k + 3) (byt_at b (4 * k + 3) (by omega)) p
      have r3 := isB_at HBB.out (4 * k + 3)
      have HW : Hid (wl b (k + 1) = wl b k ++ [bits .or .u32 (bits .or .u32 (bits .or .u32 (b.getD (4 * k) 0 * 16777216) (b.getD (4 * k + 1) 0 * 65536)) (b.getD (4 * k + 2) 0 * 256)) (b.getD (4 * k + 3) 0)]) := rfl
      generalize b.getD (4 * k) 0 = x0 at *
      generalize b.getD (4 * k + 1) 0 = x1 at *
      generalize b.getD (4 * k + 2) 0 = x2 at *
      generalize b.getD (4 * k + 3) 0 = x3 at *
      have H3 := hide HA.out.2.2.2.2.2.1
      have HLn := hide (wl_length b k)
      clear hB2 hbl
      go_wp2_with fail
      refine wp_region_tail 31 [0, 1, 2, 3, 4, 5, 6, 7, 8, 9, 10, 11, 12, 13, 14, 15, 16, 17, 18, 19, 20, 21, 22, 23, 24, 25, 26, 27, 28, 29, 30] (by kernel_rfl) (by kernel_rfl) (by kernel_rfl) ?_
      have q0 : IntKind.i64.wrap (4 * (k : Int)) = 4 * (k : Int) := IntWalk.i64_in _ (by omega)
      have l0 : (0 : Int) ≤ 4 * (k : Int) := by omega
      have m0 : 4 * (k : Int) < 64 := by omega
      have n0 : (4 * (k : Int)).toNat = 4 * k := by omega
      have w0 : IntKind.u32.wrap x0 = x0 := w32id (by omega)
      have q1 : IntKind.i64.wrap (4 * (k : Int) + 1) = 4 * (k : Int) + 1 := IntWalk.i64_in _ (by omega)
      have l1 : (0 : Int) ≤ 4 * (k : Int) + 1 := by omega
      have m1 : 4 * (k : Int) + 1 < 64 := by omega
      have n1 : (4 * (k : Int) + 1).toNat = 4 * k + 1 := by omega
      have w1 : IntKind.u32.wrap x1 = x1 := w32id (by omega)
      have q2 : IntKind.i64.wrap (4 * (k : Int) + 2) = 4 * (k : Int) + 2 := IntWalk.i64_in _ (by omega)
      have l2 : (0 : Int) ≤ 4 * (k : Int) + 2 := by omega
      have m2 : 4 * (k : Int) + 2 < 64 := by omega
      have n2 : (4 * (k : Int) + 2).toNat = 4 * k + 2 := by omega
      have w2 : IntKind.u32.wrap x2 = x2 := w32id (by omega)
      have q3 : IntKind.i64.wrap (4 * (k : Int) + 3) = 4 * (k : Int) + 3 := IntWalk.i64_in _ (by omega)
      have l3 : (0 : Int) ≤ 4 * (k : Int) + 3 := by omega
      have m3 : 4 * (k : Int) + 3 < 64 := by omega
      have n3 : (4 * (k : Int) + 3).toNat = 4 * k + 3 := by omega
      have w3 : IntKind.u32.wrap x3 = x3 := w32id (by omega)
      have m4 : (k : Int) < 64 := by omega
      have w4 : IntKind.u32.wrap (x0 * 16777216) = x0 * 16777216 := w32id (by omega)
      have w5 : IntKind.u32.wrap (x1 * 65536) = x1 * 65536 := w32id (by omega)
      have w6 : IntKind.u32.wrap (x2 * 256) = x2 * 256 := w32id (by omega)
      repeat (refine wt_rd rfl rfl (fun K hK => ?_); go_simp; refine hK _ ?_; clear hK K)
      refine wt_nil ?_
      have cw := (H3.out.drew.cell k).trans (show _ = some (Value.int .u32 0) from by rw [HLn.out]; exact next_at _ 64 k (by rw [u32v_length]; exact HLn.out) (by omega))
      have cf := H3.out.drew.free k
      go_wp2_with fail
      refine NoPanic.normal ?_
      go_wp2_with fail
      go_roundw
      case rel => exact ⟨k + 1, by go_num, by omega, by rw [HW.out]; exact hide (HA.out.step (by rw [HLn.out]; omega) _ HLn.out)⟩
      case measure => simp [intOf]; omega
    · obtain rfl : k = 16 := by omega
      rw [show ((16 : Nat) : Int) = 16 from rfl]
      go_wp2_with fail
      go_loopw [9] (fun i wr => ∃ t : Nat, i = .int .i64 t ∧ 16 ≤ t ∧ t ≤ 64 ∧ Hid (R1 w ks st b (sched b (t - 16)) 5 wr)) (fun i _ => 64 - (intOf i).toNat)
      case atStart => exact ⟨16, rfl, by omega, by omega, HA⟩
      case round =>
        obtain ⟨t, rfl, ht1, ht2, HA2⟩ := hrel
        by_cases hlt2 : t < 64
        · have hB3 := HA2.out.2.2.2.2.2.1
          have hln : (sched b (t - 16)).length = t := by rw [sched_length]; omega
          have c2 := fun p => hB3.cls (t - 2) (mem_at (sched b (t - 16)) _ (t - 2) (by omega)) p
          have r2 := isW_at (sched_isW b (t - 16)) (t - 2)
          have c7 := fun p => hB3.cls (t - 7) (mem_at (sched b (t - 16)) _ (t - 7) (by omega)) p
          have d7 := fun p => hB3.drew.cls (t - 7) (mem_at (sched b (t - 16)) _ (t - 7) (by omega)) p
          have r7 := isW_at (sched_isW b (t - 16)) (t - 7)
          have c15 := fun p => hB3.cls (t - 15) (mem_at (sched b (t - 16)) _ (t - 15) (by omega)) p
          have r15 := isW_at (sched_isW b (t - 16)) (t - 15)
          have c16 := fun p => hB3.cls (t - 16) (mem_at (sched b (t - 16)) _ (t - 16) (by omega)) p
          have d16 := fun p => hB3.drew.cls (t - 16) (mem_at (sched b (t - 16)) _ (t - 16) (by omega)) p
          have r16 := isW_at (sched_isW b (t - 16)) (t - 16)
          have HW : Hid (sched b (t - 16 + 1) = sched b (t - 16) ++ [(s1S ((sched b (t - 16)).getD (t - 2) 0) + (sched b (t - 16)).getD (t - 7) 0 + s0S ((sched b (t - 16)).getD (t - 15) 0) + (sched b (t - 16)).getD (t - 16) 0) % 4294967296]) := by
            show _ ++ [nextW _] = _
            rw [nextW, hln, ad4]
          generalize (sched b (t - 16)).getD (t - 2) 0 = x2 at *
          generalize (sched b (t - 16)).getD (t - 7) 0 = x7 at *
          generalize (sched b (t - 16)).getD (t - 15) 0 = x15 at *
          generalize (sched b (t - 16)).getD (t - 16) 0 = x16 at *
          have H3 := hide hB3
          have HLn := hide hln
          clear hB3 hln c7 c16
          go_wp2_with fail
          refine wp_region_wm [0, 1, 2, 3, 4, 5, 6, 7, 8, 9] (by kernel_rfl) (by kernel_rfl) (by kernel_rfl) (by kernel_rfl) ?_
          have q2 : IntKind.i64.wrap ((t : Int) - 2) = (t : Int) - 2 := IntWalk.i64_in _ (by omega)
          have l2 : (0 : Int) ≤ (t : Int) - 2 := by omega
          have ll2 : 2 ≤ (t : Int) := by omega
          have m2 : (t : Int) - 2 < 64 := by omega
          have n2 : ((t : Int) - 2).toNat = t - 2 := by omega
          have q7 : IntKind.i64.wrap ((t : Int) - 7) = (t : Int) - 7 := IntWalk.i64_in _ (by omega)
          have l7 : (0 : Int) ≤ (t : Int) - 7 := by omega
          have ll7 : 7 ≤ (t : Int) := by omega
          have m7 : (t : Int) - 7 < 64 := by omega
          have n7 : ((t : Int) - 7).toNat = t - 7 := by omega
          have q15 : IntKind.i64.wrap ((t : Int) - 15) = (t : Int) - 15 := IntWalk.i64_in _ (by omega)
          have l15 : (0 : Int) ≤ (t : Int) - 15 := by omega
          have ll15 : 15 ≤ (t : Int) := by omega
          have m15 : (t : Int) - 15 < 64 := by omega
          have n15 : ((t : Int) - 15).toNat = t - 15 := by omega
          have q16 : IntKind.i64.wrap ((t : Int) - 16) = (t : Int) - 16 := IntWalk.i64_in _ (by omega)
          have l16 : (0 : Int) ≤ (t : Int) - 16 := by omega
          have ll16 : 16 ≤ (t : Int) := by omega
          have m16 : (t : Int) - 16 < 64 := by omega
          have n16 : ((t : Int) - 16).toNat = t - 16 := by omega
          have m4 : (t : Int) < 64 := by omega
          repeat (refine wm_rd rfl rfl (fun K hK => ?_); go_simp; refine hK _ ?_; clear hK K)
          refine wm_nil ?_
          go_wp2_with (go_at_call 103; (with_reducible refine (rrot_any _ _ _ (by omega) (by omega) (by decide) (by decide)).mono ?_); rintro e wq ⟨rfl, rfl⟩)
          refine wp_region_tail 15 [0, 1, 2, 3, 4, 5, 6, 7, 8, 9, 10, 11, 12, 13, 14] (by kernel_rfl) (by kernel_rfl) (by kernel_rfl) ?_
          repeat (refine wt_rd rfl rfl (fun K hK => ?_); go_simp; refine hK _ ?_; clear hK K)
          refine wt_nil ?_
          have cw := (H3.out.drew.drew.cell t).trans (show _ = some (Value.int .u32 0) from by rw [HLn.out]; exact next_at _ 64 t (by rw [u32v_length]; exact HLn.out) (by omega))
          have cf := H3.out.drew.drew.free t
          clear q2 q7 q15 q16 n2 n7 n15 n16
          go_wp2_with fail
          refine NoPanic.normal ?_
          go_wp2_with fail
          go_roundw
          case rel =>
            refine ⟨t + 1, by go_num, by omega, by omega, ?_⟩
            rw [show t + 1 - 16 = t - 16 + 1 by omega, HW.out]
            have := HA2.out.drew.step (by rw [HLn.out]; omega) ((s1S x2 + x7 + s0S x15 + x16) % 4294967296) HLn.out
            exact hide this
          case measure => simp [intOf]; omega
        · obtain rfl : t = 64 := by omega
          rw [show ((64 : Nat) : Int) = 64 from rfl]
          have hz := HA2.out.2.2.2.2.2.2
          have HB1 := hide HA2.out.2.2.1
          have HB5 := hide (Blk.new' (w := wr) 120 (Z 8) hz)
          go_wp2_with (first
            | (refine wpList_loadB rfl 120 (.tmp 4) rfl HB1.out rfl _ Tryd.underlying120 rfl (show _ = some (u32v st).length from by rw [u32v_length, HSL.out]; kernel_rfl) ?_)
            | (refine wpList_storeB rfl 120 (.tmp 14) (.tmp 103) rfl HB5.out rfl rfl (show _ = some (u32v st).length from by rw [u32v_length, HSL.out]; kernel_rfl) (by rw [u32v_length, HSL.out]; rfl) (u32v_one st) ?_))
          go_loopw [15] (fun i wr => ∃ t : Nat, i = .int .i64 t ∧ t ≤ 64 ∧ Hid (R4 w ks st b (rnds ks (sched b 48) st t) wr)) (fun i _ => 64 - (intOf i).toNat)
          case atStart => exact ⟨0, rfl, by omega, hide (R4.start HA2.out)⟩
          case round =>
            obtain ⟨t, rfl, ht, HA4⟩ := hrel
            by_cases hlt4 : t < 64
            · have hro := rnds_ok ks (sched b 48) st HSL.out HSW.out t
              have HW : Hid (rnds ks (sched b 48) st (t + 1) = rnd (ks.getD t 0) ((sched b 48).getD t 0) (rnds ks (sched b 48) st t)) := rfl
              have hkl := HKL.out
              have ck := fun p => HA4.out.1.2.1.drew.cls t (u32v_at ks t (by omega)) p
              have cw := fun p => HA4.out.1.2.2.2.2.2.1.drew.cls t (mem_at (sched b 48) _ t (by rw [sched_length]; omega)) p
              have rk := isW_at HKW.out t
              have rw0 := isW_at (sched_isW b 48) t
              generalize ks.getD t 0 = kt at *
              generalize (sched b 48).getD t 0 = wt at *
              have HA4' := HA4
              obtain ⟨a1, b1, c1, d1, e1, f1, g1, h1, hs8⟩ := eight _ hro.1
              have hw8 := hro.2
              rw [hs8] at HA4 hw8 HW
              simp only [isW, List.mem_cons, List.not_mem_nil, or_false, forall_eq_or_imp, forall_eq] at hw8
              obtain ⟨ra, rb, rc, rd, re, rf, rg, rh⟩ := hw8
              clear hro hs8 HA4' hkl
              have HBs := hide HA4.out.2
              have sa := fun p => HBs.out.cls 0 (show _ = some (Value.int .u32 a1) from rfl) p
              have za : wr.cell? ⟨w.heap.size + 5, 0, none⟩ = some (.int .u32 a1) := HBs.out.cell 0
              have sb := fun p => HBs.out.cls 1 (show _ = some (Value.int .u32 b1) from rfl) p
              have zb : wr.cell? ⟨w.heap.size + 5, 1, none⟩ = some (.int .u32 b1) := HBs.out.cell 1
              have sc := fun p => HBs.out.cls 2 (show _ = some (Value.int .u32 c1) from rfl) p
              have zc : wr.cell? ⟨w.heap.size + 5, 2, none⟩ = some (.int .u32 c1) := HBs.out.cell 2
              have zd : wr.cell? ⟨w.heap.size + 5, 3, none⟩ = some (.int .u32 d1) := HBs.out.cell 3
              have se := fun p => HBs.out.cls 4 (show _ = some (Value.int .u32 e1) from rfl) p
              have ze : wr.cell? ⟨w.heap.size + 5, 4, none⟩ = some (.int .u32 e1) := HBs.out.cell 4
              have sf := fun p => HBs.out.cls 5 (show _ = some (Value.int .u32 f1) from rfl) p
              have zf : wr.cell? ⟨w.heap.size + 5, 5, none⟩ = some (.int .u32 f1) := HBs.out.cell 5
              have sg := fun p => HBs.out.cls 6 (show _ = some (Value.int .u32 g1) from rfl) p
              have zg : wr.cell? ⟨w.heap.size + 5, 6, none⟩ = some (.int .u32 g1) := HBs.out.cell 6
              have sh := fun p => HBs.out.drew.cls 7 (show _ = some (Value.int .u32 h1) from rfl) p
              have zh : wr.cell? ⟨w.heap.size + 5, 7, none⟩ = some (.int .u32 h1) := HBs.out.cell 7
              have m4 : (t : Int) < 64 := by omega
              go_wp2_with fail
              refine wp_region_wm [0, 1, 2, 3, 4, 5, 6, 7, 8, 9, 10, 11, 12, 13, 14, 15, 16, 17] (by kernel_rfl) (by kernel_rfl) (by kernel_rfl) (by kernel_rfl) ?_
              repeat (refine wm_rd rfl rfl (fun K hK => ?_); go_simp; refine hK _ ?_; clear hK K)
              refine wm_nil ?_
              go_wp2_with fail
              refine wp_region_wm [0, 1, 2, 4, 7, 11, 12, 13, 14, 15, 16, 17, 18, 20, 21, 22, 24, 25, 26, 3, 5, 6, 8, 9, 10, 19, 23, 27, 28] (by kernel_rfl) (by kernel_rfl) (by kernel_rfl) (by kernel_rfl) ?_
              repeat (first
                | (refine wm_rd rfl rfl (fun K hK => ?_); go_simp; refine hK _ ?_; clear hK K)
                | (refine wm_ext rfl rfl (fun K hK => ?_); go_simp; go_at_call 103; (with_reducible refine (rrot_any _ _ _ (by omega) (by omega) (by decide) (by decide)).mono ?_); rintro e wq ⟨rfl, rfl⟩; refine hK _ _ (Ext.refl _) ?_; clear hK K))
              refine wm_nil ?_
              rw [show IntKind.u32.wrap (IntKind.u32.wrap (IntKind.u32.wrap (IntKind.u32.wrap (h1 + bits BinOp.xor IntKind.u32 (bits BinOp.xor IntKind.u32 (rotS e1 6) (rotS e1 11)) (rotS e1 25)) + bits BinOp.xor IntKind.u32 (bits BinOp.and IntKind.u32 e1 f1) (bits BinOp.and IntKind.u32 (bits BinOp.xor IntKind.u32 (if IntKind.u32.signed = true then -1 else IntKind.u32.max) e1) g1)) + kt) + wt) = uS kt wt e1 f1 g1 h1 from by simp only [IntKind.wrap_u32]; rfl]
              have ru : 0 ≤ uS kt wt e1 f1 g1 h1 ∧ uS kt wt e1 f1 g1 h1 < 4294967296 := ad_range _ _
              obtain ⟨uu, huu⟩ : ∃ uu, uS kt wt e1 f1 g1 h1 = uu := ⟨_, rfl⟩
              rw [huu] at ru ⊢
              have HU := hide huu
              clear huu ck cw rk rw0
              go_wp2_with (first
                | (go_at_call 103; (with_reducible refine (rrot_any _ _ _ (by omega) (by omega) (by decide) (by decide)).mono ?_); rintro e wq ⟨rfl, rfl⟩)
                | (refine wpList_storeB rfl 120 (.tmp 14) (.tmp 181) rfl HBs.out.drew.drew rfl (show _ = Value.agg (u32v [(uu + (bits BinOp.xor IntKind.u32 (bits BinOp.xor IntKind.u32 (rotS a1 2) (rotS a1 13)) (rotS a1 22) + bits BinOp.xor IntKind.u32 (bits BinOp.xor IntKind.u32 (bits BinOp.and IntKind.u32 a1 b1) (bits BinOp.and IntKind.u32 a1 c1)) (bits BinOp.and IntKind.u32 b1 c1))) % 4294967296, a1, b1, c1, (d1 + uu) % 4294967296, e1, f1, g1]).toArray from rfl) (by kernel_rfl) rfl (u32v_one _) ?_))
              go_roundw
              case rel =>
                refine ⟨t + 1, by go_num, by omega, ?_⟩
                have hv : (uu + (bits BinOp.xor IntKind.u32 (bits BinOp.xor IntKind.u32 (rotS a1 2) (rotS a1 13)) (rotS a1 22) + bits BinOp.xor IntKind.u32 (bits BinOp.xor IntKind.u32 (bits BinOp.and IntKind.u32 a1 b1) (bits BinOp.and IntKind.u32 a1 c1)) (bits BinOp.and IntKind.u32 b1 c1))) % 4294967296 = ad uu (vS a1 b1 c1) := by
                  show _ = (uu + (xr (xr (rotS a1 2) (rotS a1 13)) (rotS a1 22) + xr (xr (an a1 b1) (an a1 c1)) (an b1 c1)) % 4294967296) % 4294967296
                  simp only [xr, an]
                  omega
                rw [HW.out, hv, show rnd kt wt [a1, b1, c1, d1, e1, f1, g1, h1] = [ad uu (vS a1 b1 c1), a1, b1, c1, (d1 + uu) % 4294967296, e1, f1, g1] by simp only [rnd, HU.out]; rfl]
                exact hide (HA4.out.drew.drew.step _)
              case measure => simp [intOf]; omega
            · obtain rfl : t = 64 := by omega
              rw [show ((64 : Nat) : Int) = 64 from rfl]
              have hro := rnds_ok ks (sched b 48) st HSL.out HSW.out 64
              have HR : Hid (blockG ks st b = sumS (rnds ks (sched b 48) st 64) st) := rfl
              have HR4 := HA4
              obtain ⟨r, hr⟩ : ∃ r, rnds ks (sched b 48) st 64 = r := ⟨_, rfl⟩
              rw [hr] at HR4 hro HR
              have HRO := hide hro
              clear hro hr HA4
              go_wp2_with fail
              go_loopw [24] (fun i wr => ∃ k : Nat, i = .int .i64 k ∧ k ≤ 8 ∧ Hid (R4 w ks st b ((sumS r st).take k ++ r.drop k) wr)) (fun i _ => 8 - (intOf i).toNat)
              case atStart => exact ⟨0, rfl, by omega, HR4⟩
              case round =>
                obtain ⟨k, rfl, hk5, HA5⟩ := hrel
                by_cases hlt5 : k < 8
                · have hrl := HRO.out.1
                  have hsl := HSL.out
                  have hn := rsum_next r st k hrl hsl hlt5
                  have HN := hide hn.1
                  have cs := fun p => HA5.out.2.cls k hn.2 p
                  have co := fun p => HA5.out.1.2.2.1.cls k (u32v_at st k (by omega)) p
                  have HC := hide ((HA5.out.2.drew.cell k).trans hn.2)
                  have cf := HA5.out.2.drew.free k
                  have rx := isW_at HRO.out.2 k
                  have ry := isW_at HSW.out k
                  clear hn
                  generalize r.getD k 0 = x at *
                  generalize st.getD k 0 = y at *
                  have cw := HC.out
                  have m4 : (k : Int) < 8 := by omega
                  clear hrl hsl
                  go_wp2_with fail
                  refine wp_region_tail 9 [0, 1, 2, 3, 4, 5, 6, 7, 8] (by kernel_rfl) (by kernel_rfl) (by kernel_rfl) ?_
                  repeat (refine wt_rd rfl rfl (fun K hK => ?_); go_simp; refine hK _ ?_; clear hK K)
                  refine wt_nil ?_
                  rw [show IntKind.u32.wrap (x + y) = (x + y) % 4294967296 from by simp only [IntKind.wrap_u32]]
                  go_wp2_with fail
                  refine NoPanic.normal ?_
                  go_wp2_with fail
                  go_roundw
                  case rel => exact ⟨k + 1, by go_num, by omega, hide (HA5.out.drew.set HN.out)⟩
                  case measure => simp [intOf]; omega
                · obtain rfl : k = 8 := by omega
                  rw [show ((8 : Nat) : Int) = 8 from rfl]
                  have hsm := sumS_ok r st HRO.out.1 HSL.out
                  have hrl := HRO.out.1
                  have hB := HA5.out.2
                  rw [List.take_of_length_le (by rw [hsm.1]; omega), List.drop_eq_nil_of_le (by omega), List.append_nil, ← HR.out] at hB
                  have HB0 := hide hB
                  have HB2 := hide HA5.out.1.2.2.2.2.1
                  have HX := hide HA5.out.1.1
                  rw [← HR.out] at hsm
                  have HM := hide hsm
                  clear hsm hrl hB
                  go_wp2_with (first
                    | (refine wpList_loadB rfl 120 (.tmp 14) rfl HB0.out rfl _ Tryd.underlying120 rfl (show _ = some (u32v (blockG ks st b)).length from by rw [u32v_length, HM.out.1]; kernel_rfl) ?_)
                    | (refine wpList_storeB rfl 120 (.tmp 6) (.tmp 195) rfl HB2.out rfl rfl (show _ = some (u32v (blockG ks st b)).length from by rw [u32v_length, HM.out.1]; kernel_rfl) (by rw [u32v_length, HM.out.1]; rfl) (u32v_one _) ?_))
                  refine bodyPost_ret (v := .agg (u32v (blockG ks st b)).toArray) (results_cell_row rfl _ _ (w.heap.size + 1 + 1 + 1) 120 (u32v (blockG ks st b)).toArray (0, 0) _ rfl (HB2.out.setRow _) Tryd.underlying120 rfl (show _ = some (u32v (blockG ks st b)).toArray.size from by rw [List.size_toArray, u32v_length, HM.out.1]; kernel_rfl)) rfl ⟨rfl, Below.setRow HX.out (by omega) _⟩
end Go.Proofs.YtamlngdjbmndlaaDoor
