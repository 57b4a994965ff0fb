/- The walk of sha.Block: it returns what the plain function says; only memory is added. -/
import Derived.Test.YtamlngdjbmndlaaDoorS1
import Derived.Test.YtamlngdjbmndlaaDoorGa
import Derived.Laws.Rows
import Derived.IntWalk
import Derived.Outline
namespace Go.Proofs.YtamlngdjbmndlaaDoor
open Go.RowKit Go.Gr
set_option linter.unusedVariables false
attribute [local go_sem] rdOp rdAt rdUpon Cls
/-- the constants lie where the program laid them -/
def Laid (w : World) : Prop := Rd w (some ⟨1, 0, none⟩) (u32v kT) ∧ Rd w (some ⟨0, 0, none⟩) (u32v hT)
theorem w32id {n : Int} (h : 0 ≤ n ∧ n < 4294967296) : IntKind.u32.wrap n = n := by
  rw [IntKind.wrap_u32]; omega
theorem ad4 (a b c d : Int) : ad (ad (ad a b) c) d = (a + b + c + d) % 4294967296 := by unfold ad; omega
def Z (n : Nat) : List Value := List.replicate n (.int .u32 0)
theorem next_at (a : List Value) (n k : Nat) (h : a.length = k) (hk : k < n) : (a ++ Z (n - k))[k]? = some (.int .u32 0) := by
  subst h
  rw [List.getElem?_append_right (Nat.le_refl _), Nat.sub_self, Z, List.getElem?_replicate, if_pos (by omega)]
theorem mem_at (a : List Int) (z : List Value) (k : Nat) (hk : k < a.length) : (u32v a ++ z)[k]? = some (.int .u32 (a.getD k 0)) := by
  rw [List.getElem?_append_left (by simpa using hk), u32v_at a k hk]
def At1 (w : World) (st b ws : List Int) (n : Nat) (wr : World) : Prop :=
  Ext w wr ∧ Blk wr w.heap.size 120 (u32v st) ∧ Blk wr (w.heap.size + 1) 121 (byt b) ∧ Blk wr (w.heap.size + 1 + 1) 120 (Z 8) ∧ Blk wr (w.heap.size + 1 + 1 + 1) 139 (u32v ws ++ Z (64 - ws.length)) ∧ wr.heap.size = w.heap.size + n
theorem At1.start (w : World) (st b : List Int) : At1 w st b [] 4 ((((w.alloc (.cells (u32v st).toArray 120)).alloc (.cells (byt b).toArray 121)).alloc (.cells (Z 8).toArray 120)).alloc (.cells (Z 64).toArray 139)) :=
  ⟨((((Ext.refl w).alloc _).alloc _).alloc _).alloc _, (((Blk.new w _ (u32v st)).alloc _).alloc _).alloc _, ((Blk.new' _ (byt b) (by simp)).alloc _).alloc _, (Blk.new' _ (Z 8) (by simp)).alloc _, Blk.new' _ (Z 64) (by simp), by simp⟩
theorem At1.step {w : World} {st b ws : List Int} {n : Nat} {wr : World} (h : At1 w st b ws n wr) (hl : ws.length < 64) (x : Int) {k : Nat} (hk : ws.length = k) : At1 w st b (ws ++ [x]) n (wr.setCell ⟨w.heap.size + 1 + 1 + 1, k, none⟩ (.int .u32 x)).drew := by
  obtain ⟨hX, h0, h1, h2, h3, hz⟩ := h
  subst hk
  refine ⟨(Below.setCell hX (by show w.heap.size ≤ w.heap.size + 1 + 1 + 1; omega) _).drew, h0.far (by show w.heap.size ≠ w.heap.size + 1 + 1 + 1; omega) _, h1.far (by show w.heap.size + 1 ≠ w.heap.size + 1 + 1 + 1; omega) _, h2.far (by show w.heap.size + 1 + 1 ≠ w.heap.size + 1 + 1 + 1; omega) _, ?_, by simpa [World.setCell] using hz⟩
  have := h3.set ws.length (.int .u32 x)
  rw [Z, set_next (u32v ws) 64 ws.length _ _ (by simp) hl] at this
  rw [u32v_append, List.length_append]
  exact this
theorem At1.drew {w : World} {st b ws : List Int} {n : Nat} {wr : World} (h : At1 w st b ws n wr) : At1 w st b ws n wr.drew := ⟨h.1.drew, h.2⟩
theorem take_next (l : List Int) (k : Nat) (h : k < l.length) : l.take (k + 1) = l.take k ++ [l.getD k 0] := by
  rw [List.take_succ_eq_append_getElem h]; simp [h]
def At3 (w : World) (st b : List Int) (k : Nat) (wr : World) : Prop := At1 w st b (sched b 48) 5 wr ∧ Blk wr (w.heap.size + 4) 143 (u32v (st.take k) ++ Z (8 - k))
theorem At1.size {w : World} {st b ws : List Int} {n : Nat} {wr : World} (h : At1 w st b ws n wr) : w.heap.size + 1 + 1 + 1 < wr.heap.size := h.2.2.2.2.1.lt
theorem At1.alloc {w : World} {st b ws : List Int} {n : Nat} {wr : World} (h : At1 w st b ws n wr) (o : Obj) : At1 w st b ws (n + 1) (wr.alloc o) := ⟨h.1.alloc _, h.2.1.alloc _, h.2.2.1.alloc _, h.2.2.2.1.alloc _, h.2.2.2.2.1.alloc _, by simp [h.2.2.2.2.2]; omega⟩
theorem At1.far {w : World} {st b ws : List Int} {n : Nat} {wr : World} (h : At1 w st b ws n wr) {g : Nat} (hg : w.heap.size + 1 + 1 + 1 < g) (i : Nat) (u : Value) : At1 w st b ws n (wr.setCell ⟨g, i, none⟩ u) :=
  ⟨Below.setCell h.1 (by show w.heap.size ≤ g; omega) _, h.2.1.far (by show w.heap.size ≠ g; omega) _, h.2.2.1.far (by show w.heap.size + 1 ≠ g; omega) _, h.2.2.2.1.far (by show w.heap.size + 1 + 1 ≠ g; omega) _, h.2.2.2.2.1.far (by show w.heap.size + 1 + 1 + 1 ≠ g; omega) _, by simpa [World.setCell] using h.2.2.2.2.2⟩
theorem At1.row {w : World} {st b ws : List Int} {n : Nat} {wr : World} (h : At1 w st b ws n wr) {g : Nat} (hg : w.heap.size + 1 + 1 + 1 < g) (C : Array Value) : At1 w st b ws n (wr.setRow g C) :=
  ⟨Below.setRow h.1 (by omega) _, h.2.1.rowFar (by omega) _, h.2.2.1.rowFar (by omega) _, h.2.2.2.1.rowFar (by omega) _, h.2.2.2.2.1.rowFar (by omega) _, by simpa using h.2.2.2.2.2⟩
theorem At3.start {w : World} {st b : List Int} {wr : World} (h : At1 w st b (sched b 48) 4 wr) : At3 w st b 0 (wr.alloc (.cells (Z 8).toArray 143)) :=
  ⟨h.alloc _, Blk.new' _ (Z 8) h.2.2.2.2.2⟩
theorem At3.cell {w : World} {st b : List Int} {k : Nat} {wr : World} (h : At3 w st b k wr) (hs : st.length = 8) (hk : k ≤ 8) (hk2 : k < 8) : wr.cell? ⟨w.heap.size + 4, k, none⟩ = some (.int .u32 0) :=
  (h.2.cell k).trans (next_at _ 8 k (by rw [u32v_length, List.length_take]; omega) hk2)
theorem At3.free {w : World} {st b : List Int} {k : Nat} {wr : World} (h : At3 w st b k wr) : wr.frozen? ⟨w.heap.size + 4, k, none⟩ = false := h.2.free k
theorem At3.step {w : World} {st b : List Int} {k : Nat} {wr : World} {x : Int} (h : At3 w st b k wr) (hs : st.length = 8) (hk : k < 8) (hx : st.take (k + 1) = st.take k ++ [x]) : At3 w st b (k + 1) (wr.setCell ⟨w.heap.size + 4, k, none⟩ (.int .u32 x)) := by
  refine ⟨h.1.far (by omega) _ _, ?_⟩
  have := h.2.set k (.int .u32 x)
  rw [Z, set_next (u32v (st.take k)) 8 k _ _ (by rw [u32v_length, List.length_take]; omega) hk] at this
  rw [hx, u32v_append]
  exact this
theorem At3.whole {w : World} {st b : List Int} {wr : World} (h : At3 w st b 8 wr) (hs : st.length = 8) : Blk wr (w.heap.size + 4) 143 (u32v st) := by
  have := h.2
  rw [List.take_of_length_le (by omega), Z, Nat.sub_self, List.replicate_zero, List.append_nil] at this
  exact this
def At4 (w : World) (st b s : List Int) (wr : World) : Prop := At1 w st b (sched b 48) 6 wr ∧ Blk wr (w.heap.size + 4) 143 (u32v s) ∧ Blk wr (w.heap.size + 5) 143 (u32v st)
theorem At4.start {w : World} {st b : List Int} {wr : World} (h : At3 w st b 8 wr) (hs : st.length = 8) : At4 w st b st ((wr.alloc (.cells (Z 8).toArray 143)).setRow (w.heap.size + 5) (u32v st).toArray) :=
  ⟨(h.1.alloc _).row (by omega) _, ((h.whole hs).alloc _).rowFar (by omega) _, (Blk.new' _ (Z 8) h.1.2.2.2.2.2).setRow _⟩
theorem At4.drew {w : World} {st b s : List Int} {wr : World} (h : At4 w st b s wr) : At4 w st b s wr.drew := ⟨h.1.drew, h.2⟩
theorem At4.step {w : World} {st b s : List Int} {wr : World} (h : At4 w st b s wr) (s' : List Int) : At4 w st b s' (wr.setRow (w.heap.size + 4) (u32v s').toArray) :=
  ⟨h.1.row (by omega) _, h.2.1.setRow _, h.2.2.rowFar (by omega) _⟩
def At5 (w : World) (st r : List Int) (k : Nat) (wr : World) : Prop := Ext w wr ∧ Blk wr w.heap.size 120 (u32v ((sumS r st).take k ++ st.drop k)) ∧ Blk wr (w.heap.size + 1 + 1) 120 (Z 8) ∧ Blk wr (w.heap.size + 4) 143 (u32v r) ∧ Blk wr (w.heap.size + 5) 143 (u32v st)
theorem At5.start {w : World} {st b r : List Int} {wr : World} (h : At4 w st b r wr) (hr : r.length = 8) (hs : st.length = 8) : At5 w st r 0 wr :=
  ⟨h.1.1, h.1.2.1, h.1.2.2.2.1, h.2.1, h.2.2⟩
theorem At5.drew {w : World} {st r : List Int} {k : Nat} {wr : World} (h : At5 w st r k wr) : At5 w st r k wr.drew := ⟨h.1.drew, h.2⟩
theorem sum_next (r st : List Int) (k : Nat) (hr : r.length = 8) (hs : st.length = 8) (hk : k < 8) : ((sumS r st).take k ++ st.drop k).set k ((r.getD k 0 + st.getD k 0) % 4294967296) = (sumS r st).take (k + 1) ++ st.drop (k + 1) := by
  obtain ⟨a, b, c, d, e, f, g, i, rfl⟩ := eight r hr
  obtain ⟨a', b', c', d', e', f', g', i', rfl⟩ := eight st hs
  rcases (show k = 0 ∨ k = 1 ∨ k = 2 ∨ k = 3 ∨ k = 4 ∨ k = 5 ∨ k = 6 ∨ k = 7 by omega) with rfl | rfl | rfl | rfl | rfl | rfl | rfl | rfl <;> rfl
theorem At5.cell {w : World} {st r : List Int} {k : Nat} {wr : World} (h : At5 w st r k wr) (hr : r.length = 8) (hs : st.length = 8) (hk : k < 8) : wr.drew.cell? ⟨w.heap.size, k, none⟩ = some (.int .u32 (st.getD k 0)) := by
  refine (h.2.1.drew.cell k).trans ?_
  obtain ⟨a, b, c, d, e, f, g, i, rfl⟩ := eight r hr
  obtain ⟨a', b', c', d', e', f', g', i', rfl⟩ := eight st hs
  rcases (show k = 0 ∨ k = 1 ∨ k = 2 ∨ k = 3 ∨ k = 4 ∨ k = 5 ∨ k = 6 ∨ k = 7 by omega) with rfl | rfl | rfl | rfl | rfl | rfl | rfl | rfl <;> rfl
theorem At5.step {w : World} {st r : List Int} {k : Nat} {wr : World} {x : Int} (h : At5 w st r k wr) (hn : ((sumS r st).take k ++ st.drop k).set k x = (sumS r st).take (k + 1) ++ st.drop (k + 1)) : At5 w st r (k + 1) (wr.setCell ⟨w.heap.size, k, none⟩ (.int .u32 x)) := by
  obtain ⟨hX, h0, h2, h4, h5⟩ := h
  refine ⟨Below.setCell hX (Nat.le_refl _) _, ?_, h2.far (by show w.heap.size + 1 + 1 ≠ w.heap.size; omega) _, h4.far (by show w.heap.size + 4 ≠ w.heap.size; omega) _, h5.far (by show w.heap.size + 5 ≠ w.heap.size; omega) _⟩
  have := h0.set k (.int .u32 x)
  have e : (u32v ((sumS r st).take k ++ st.drop k)).set k (.int .u32 x) = u32v (((sumS r st).take k ++ st.drop k).set k x) := by simp [u32v, List.map_set]
  rw [e, hn] at this
  exact this
theorem At5.whole {w : World} {st r : List Int} {wr : World} (h : At5 w st r 8 wr) (hr : r.length = 8) (hs : st.length = 8) : Blk wr w.heap.size 120 (u32v (sumS r st)) := by
  have := h.2.1
  rw [List.take_of_length_le (by rw [(sumS_ok r st hr hs).1]; omega), List.drop_eq_nil_of_le (by omega), List.append_nil] at this
  exact this
theorem kT_at (t : Nat) : 0 ≤ kT.getD t 0 ∧ kT.getD t 0 < 4294967296 := isW_at (by unfold isW; decide) t
set_option maxRecDepth 20000 in
set_option maxHeartbeats 4000000 in
theorem block_any (st b : List Int) (w : World) (hs : st.length = 8) (hb : b.length = 64) (hsw : isW st) (hbb : isB b) (hl : Laid w) :
    Calls Tryd.prog 82 #[.agg (u32v st).toArray, .agg (byt b).toArray] w fun e w' => e = .returned (.agg (u32v (blockS st b)).toArray) ∧ Ext w w' := by
  have HL := hide hl
  have HSW := hide hsw
  have HBB := hide hbb
  have HSL := hide hs
  have HBL := hide hb
  clear hl hsw hbb hs hb
  go_enter Tryd.func82, Tryd.ntmps82
  go_wp2_with fail
  go_loopw [16] (fun i wr => ∃ k : Nat, i = .int .i64 k ∧ k ≤ 16 ∧ Hid (At1 w st b (wl b k) 4 wr)) (fun i _ => 16 - (intOf i).toNat)
  case atStart => exact ⟨0, rfl, by omega, hide (At1.start w st b)⟩
  case round =>
    obtain ⟨k, rfl, hk, HA⟩ := hrel
    by_cases hlt : k < 16
    · obtain ⟨hX, hB0, hB1, hB2, hB3, hZZ⟩ := HA.out
      have hbl := HBL.out
      have c0 := fun p => hB1.cls (4 * k) (byt_at b (4 * k) (by omega)) p
      have r0 := isB_at HBB.out (4 * k)
      have c1 := fun p => hB1.cls (4 * k + 1) (byt_at b (4 * k + 1) (by omega)) p
      have r1 := isB_at HBB.out (4 * k + 1)
      have c2 := fun p => hB1.cls (4 * k + 2) (byt_at b (4 * k + 2) (by omega)) p
      have r2 := isB_at HBB.out (4 * k + 2)
      have c3 := fun p => hB1.cls (4 * k + 3) (byt_at b (4 * k + 3) (by omega)) p
      have r3 := isB_at HBB.out (4 * k + 3)
      have HW : Hid (wl b (k + 1) = wl b k ++ [bits .or .u32 (bits .or .u32 (bits .or .u32 (b.getD (4 * k) 0 * 16777216) (b.getD (4 * k + 1) 0 * 65536)) (b.getD (4 * k + 2) 0 * 256)) (b.getD (4 * k + 3) 0)]) := rfl
      generalize b.getD (4 * k) 0 = x0 at *
      generalize b.getD (4 * k + 1) 0 = x1 at *
      generalize b.getD (4 * k + 2) 0 = x2 at *
      generalize b.getD (4 * k + 3) 0 = x3 at *
      have H3 := hide hB3
      have HLn := hide (wl_length b k)
      clear hX hB0 hB1 hB2 hB3 hbl hZZ
      go_wp2_with fail
      refine wp_region_tail 31 [0, 1, 2, 3, 4, 5, 6, 7, 8, 9, 10, 11, 12, 13, 14, 15, 16, 17, 18, 19, 20, 21, 22, 23, 24, 25, 26, 27, 28, 29, 30] (by kernel_rfl) (by kernel_rfl) (by kernel_rfl) ?_
      have q0 : IntKind.i64.wrap (4 * (k : Int)) = 4 * (k : Int) := IntWalk.i64_in _ (by omega)
      have l0 : (0 : Int) ≤ 4 * (k : Int) := by omega
      have m0 : 4 * (k : Int) < 64 := by omega
      have n0 : (4 * (k : Int)).toNat = 4 * k := by omega
      have w0 : IntKind.u32.wrap x0 = x0 := w32id (by omega)
      have q1 : IntKind.i64.wrap (4 * (k : Int) + 1) = 4 * (k : Int) + 1 := IntWalk.i64_in _ (by omega)
      have l1 : (0 : Int) ≤ 4 * (k : Int) + 1 := by omega
      have m1 : 4 * (k : Int) + 1 < 64 := by omega
      have n1 : (4 * (k : Int) + 1).toNat = 4 * k + 1 := by omega
      have w1 : IntKind.u32.wrap x1 = x1 := w32id (by omega)
      have q2 : IntKind.i64.wrap (4 * (k : Int) + 2) = 4 * (k : Int) + 2 := IntWalk.i64_in _ (by omega)
      have l2 : (0 : Int) ≤ 4 * (k : Int) + 2 := by omega
      have m2 : 4 * (k : Int) + 2 < 64 := by omega
      have n2 : (4 * (k : Int) + 2).toNat = 4 * k + 2 := by omega
      have w2 : IntKind.u32.wrap x2 = x2 := w32id (by omega)
      have q3 : IntKind.i64.wrap (4 * (k : Int) + 3) = 4 * (k : Int) + 3 := IntWalk.i64_in _ (by omega)
      have l3 : (0 : Int) ≤ 4 * (k : Int) + 3 := by omega
      have m3 : 4 * (k : Int) + 3 < 64 := by omega
      have n3 : (4 * (k : Int) + 3).toNat = 4 * k + 3 := by omega
      have w3 : IntKind.u32.wrap x3 = x3 := w32id (by omega)
      have m4 : (k : Int) < 64 := by omega
      have w4 : IntKind.u32.wrap (x0 * 16777216) = x0 * 16777216 := w32id (by omega)
      have w5 : IntKind.u32.wrap (x1 * 65536) = x1 * 65536 := w32id (by omega)
      have w6 : IntKind.u32.wrap (x2 * 256) = x2 * 256 := w32id (by omega)
      repeat (refine wt_rd rfl rfl (fun K hK => ?_); go_simp; refine hK _ ?_; clear hK K)
      refine wt_nil ?_
      have cw := (H3.out.drew.cell k).trans (show _ = some (Value.int .u32 0) from by rw [HLn.out]; exact next_at _ 64 k (by rw [u32v_length]; exact HLn.out) (by omega))
      have cf := H3.out.drew.free k
      go_wp2_with fail
      refine NoPanic.normal ?_
      go_wp2_with fail
      go_roundw
      case rel => exact ⟨k + 1, by go_num, by omega, by rw [HW.out]; exact hide (HA.out.step (by rw [HLn.out]; omega) _ HLn.out)⟩
      case measure => simp [intOf]; omega
    · obtain rfl : k = 16 := by omega
      rw [show ((16 : Nat) : Int) = 16 from rfl]
      go_wp2_with fail
      go_loopw [7] (fun i wr => ∃ t : Nat, i = .int .i64 t ∧ 16 ≤ t ∧ t ≤ 64 ∧ Hid (At1 w st b (sched b (t - 16)) 4 wr)) (fun i _ => 64 - (intOf i).toNat)
      case atStart => exact ⟨16, rfl, by omega, by omega, HA⟩
      case round =>
        obtain ⟨t, rfl, ht1, ht2, HA2⟩ := hrel
        by_cases hlt2 : t < 64
        · obtain ⟨hX, hB0, hB1, hB2, hB3, hZZ⟩ := HA2.out
          have hln : (sched b (t - 16)).length = t := by rw [sched_length]; omega
          have c2 := fun p => hB3.cls (t - 2) (mem_at (sched b (t - 16)) _ (t - 2) (by omega)) p
          have r2 := isW_at (sched_isW b (t - 16)) (t - 2)
          have c7 := fun p => hB3.cls (t - 7) (mem_at (sched b (t - 16)) _ (t - 7) (by omega)) p
          have r7 := isW_at (sched_isW b (t - 16)) (t - 7)
          have c15 := fun p => hB3.cls (t - 15) (mem_at (sched b (t - 16)) _ (t - 15) (by omega)) p
          have r15 := isW_at (sched_isW b (t - 16)) (t - 15)
          have c16 := fun p => hB3.cls (t - 16) (mem_at (sched b (t - 16)) _ (t - 16) (by omega)) p
          have r16 := isW_at (sched_isW b (t - 16)) (t - 16)
          have HW : Hid (sched b (t - 16 + 1) = sched b (t - 16) ++ [(s1S ((sched b (t - 16)).getD (t - 2) 0) + (sched b (t - 16)).getD (t - 7) 0 + s0S ((sched b (t - 16)).getD (t - 15) 0) + (sched b (t - 16)).getD (t - 16) 0) % 4294967296]) := by
            show _ ++ [nextW _] = _
            rw [nextW, hln, ad4]
          generalize (sched b (t - 16)).getD (t - 2) 0 = x2 at *
          generalize (sched b (t - 16)).getD (t - 7) 0 = x7 at *
          generalize (sched b (t - 16)).getD (t - 15) 0 = x15 at *
          generalize (sched b (t - 16)).getD (t - 16) 0 = x16 at *
          have H3 := hide hB3
          have HLn := hide hln
          clear hX hB0 hB1 hB2 hB3 hln hZZ
          go_wp2_with fail
          refine wp_region_tail 23 [0, 1, 2, 3, 4, 6, 7, 8, 9, 11, 12, 13, 14, 17, 18, 19, 20, 5, 10, 15, 16, 21, 22] (by kernel_rfl) (by kernel_rfl) (by kernel_rfl) ?_
          have q2 : IntKind.i64.wrap ((t : Int) - 2) = (t : Int) - 2 := IntWalk.i64_in _ (by omega)
          have l2 : (0 : Int) ≤ (t : Int) - 2 := by omega
          have ll2 : 2 ≤ (t : Int) := by omega
          have m2 : (t : Int) - 2 < 64 := by omega
          have n2 : ((t : Int) - 2).toNat = t - 2 := by omega
          have q7 : IntKind.i64.wrap ((t : Int) - 7) = (t : Int) - 7 := IntWalk.i64_in _ (by omega)
          have l7 : (0 : Int) ≤ (t : Int) - 7 := by omega
          have ll7 : 7 ≤ (t : Int) := by omega
          have m7 : (t : Int) - 7 < 64 := by omega
          have n7 : ((t : Int) - 7).toNat = t - 7 := by omega
          have q15 : IntKind.i64.wrap ((t : Int) - 15) = (t : Int) - 15 := IntWalk.i64_in _ (by omega)
          have l15 : (0 : Int) ≤ (t : Int) - 15 := by omega
          have ll15 : 15 ≤ (t : Int) := by omega
          have m15 : (t : Int) - 15 < 64 := by omega
          have n15 : ((t : Int) - 15).toNat = t - 15 := by omega
          have q16 : IntKind.i64.wrap ((t : Int) - 16) = (t : Int) - 16 := IntWalk.i64_in _ (by omega)
          have l16 : (0 : Int) ≤ (t : Int) - 16 := by omega
          have ll16 : 16 ≤ (t : Int) := by omega
          have m16 : (t : Int) - 16 < 64 := by omega
          have n16 : ((t : Int) - 16).toNat = t - 16 := by omega
          have m4 : (t : Int) < 64 := by omega
          repeat (first
            | (refine wt_rd rfl rfl (fun K hK => ?_); go_simp; refine hK _ ?_; clear hK K)
            | (refine wt_ext rfl rfl (fun K hK => ?_); go_simp; go_at_call 97; (with_reducible refine (mix_shr _ _ _ _ _ (by omega) (by omega) (by decide) (by decide) (by decide) (by decide) (by decide) (by decide)).mono ?_); rintro e wq ⟨rfl, rfl⟩; refine hK _ _ (Ext.refl _) ?_; clear hK K))
          refine wt_nil ?_
          have cw := (H3.out.drew.cell t).trans (show _ = some (Value.int .u32 0) from by rw [HLn.out]; exact next_at _ 64 t (by rw [u32v_length]; exact HLn.out) (by omega))
          have cf := H3.out.drew.free t
          go_wp2_with fail
          refine NoPanic.normal ?_
          go_wp2_with fail
          go_roundw
          case rel => exact ⟨t + 1, by go_num, by omega, by omega, by rw [show t + 1 - 16 = t - 16 + 1 by omega, HW.out]; exact hide (HA2.out.step (by rw [HLn.out]; omega) ((s1S x2 + x7 + s0S x15 + x16) % 4294967296) HLn.out)⟩
          case measure => simp [intOf]; omega
        · obtain rfl : t = 64 := by omega
          rw [show ((64 : Nat) : Int) = 64 from rfl]
          obtain ⟨hX, hB0, hB1, hB2, hB3, hZZ⟩ := HA2.out
          have H0 := hide hB0
          clear hX hB0 hB1 hB2 hB3
          go_wp2_with (refine wpList_loadB rfl 120 (.tmp 2) rfl (H0.out.alloc _) rfl _ Tryd.underlying120 rfl (show _ = some (u32v st).length from by rw [u32v_length, HSL.out]; kernel_rfl) ?_)
          go_loopw [79] (fun i wr => ∃ k : Nat, i = .int .i64 k ∧ k ≤ 8 ∧ Hid (At3 w st b k wr)) (fun i _ => 8 - (intOf i).toNat)
          case atStart => exact ⟨0, rfl, by omega, hide (At3.start HA2.out)⟩
          case round =>
            obtain ⟨k, rfl, hk, HA3⟩ := hrel
            by_cases hlt3 : k < 8
            · have hst := HSL.out
              have hix := fun (x : World) => run_index_agg (P := Tryd.prog) (w := x) Tryd.underlying120 Tryd.underlying22 (by kernel_rfl) (u32v st).toArray .i64 k (by omega) (show _ = some (Value.int .u32 (st.getD k 0)) from by rw [List.getElem?_toArray]; exact u32v_at st k (by omega))
              have HT : Hid (st.take (k + 1) = st.take k ++ [st.getD k 0]) := take_next st k (by omega)
              generalize st.getD k 0 = x at *
              have cw := HA3.out.cell hst hk hlt3
              have cf := HA3.out.free
              have m4 : (k : Int) < 8 := by omega
              clear hst
              go_wp2_with fail
              go_roundw
              case rel => exact ⟨k + 1, by go_num, by omega, hide (HA3.out.step HSL.out hlt3 HT.out)⟩
              case measure => simp [intOf]; omega
            · obtain rfl : k = 8 := by omega
              rw [show ((8 : Nat) : Int) = 8 from rfl]
              have HB4 := hide (HA3.out.whole HSL.out)
              have hz := HA3.out.1.2.2.2.2.2
              have HB5 := hide (Blk.new' (w := wr) 143 (Z 8) hz)
              go_wp2_with (first
                | (refine wpList_loadB rfl 143 (.tmp 8) rfl HB4.out rfl _ Tryd.underlying143 rfl (show _ = some (u32v st).length from by rw [u32v_length, HSL.out]; kernel_rfl) ?_)
                | (refine wpList_storeB rfl 143 (.tmp 11) (.tmp 87) rfl HB5.out rfl rfl (show _ = some (u32v st).length from by rw [u32v_length, HSL.out]; kernel_rfl) (by rw [u32v_length, HSL.out]; rfl) (u32v_one st) ?_))
              go_loopw [88] (fun i wr => ∃ t : Nat, i = .int .i64 t ∧ t ≤ 64 ∧ Hid (At4 w st b (rnds kT (sched b 48) st t) wr)) (fun i _ => 64 - (intOf i).toNat)
              case atStart => exact ⟨0, rfl, by omega, hide (At4.start HA3.out HSL.out)⟩
              case round =>
                obtain ⟨t, rfl, ht, HA4⟩ := hrel
                by_cases hlt4 : t < 64
                · have hro := rnds_ok kT (sched b 48) st HSL.out HSW.out t
                  have HW : Hid (rnds kT (sched b 48) st (t + 1) = rnd (kT.getD t 0) ((sched b 48).getD t 0) (rnds kT (sched b 48) st t)) := rfl
                  have ck := fun p => (HL.out.1.ext HA4.out.1.1).cls0 t (u32v_at kT t (show t < 64 from hlt4)) p
                  have cw := fun p => HA4.out.1.2.2.2.2.1.cls t (mem_at (sched b 48) _ t (by rw [sched_length]; omega)) p
                  have rk := kT_at t
                  have rw0 := isW_at (sched_isW b 48) t
                  generalize kT.getD t 0 = kt at *
                  generalize (sched b 48).getD t 0 = wt at *
                  have HA4' := HA4
                  obtain ⟨a1, b1, c1, d1, e1, f1, g1, h1, hs8⟩ := eight _ hro.1
                  have hw8 := hro.2
                  rw [hs8] at HA4 hw8 HW
                  simp only [isW, List.mem_cons, List.not_mem_nil, or_false, forall_eq_or_imp, forall_eq] at hw8
                  obtain ⟨ra, rb, rc, rd, re, rf, rg, rh⟩ := hw8
                  have HX := hide HA4.out.1.1
                  clear hro hs8 HA4'
                  have HBs := hide HA4.out.2.1
                  have sa := fun p => HBs.out.cls 0 (show _ = some (Value.int .u32 a1) from rfl) p
                  have za : wr.cell? ⟨w.heap.size + 4, 0, none⟩ = some (.int .u32 a1) := HBs.out.cell 0
                  have sb := fun p => HBs.out.cls 1 (show _ = some (Value.int .u32 b1) from rfl) p
                  have zb : wr.cell? ⟨w.heap.size + 4, 1, none⟩ = some (.int .u32 b1) := HBs.out.cell 1
                  have sc := fun p => HBs.out.cls 2 (show _ = some (Value.int .u32 c1) from rfl) p
                  have zc : wr.cell? ⟨w.heap.size + 4, 2, none⟩ = some (.int .u32 c1) := HBs.out.cell 2
                  have sd := fun p => HBs.out.cls 3 (show _ = some (Value.int .u32 d1) from rfl) p
                  have zd : wr.cell? ⟨w.heap.size + 4, 3, none⟩ = some (.int .u32 d1) := HBs.out.cell 3
                  have se := fun p => HBs.out.cls 4 (show _ = some (Value.int .u32 e1) from rfl) p
                  have ze : wr.cell? ⟨w.heap.size + 4, 4, none⟩ = some (.int .u32 e1) := HBs.out.cell 4
                  have sf := fun p => HBs.out.cls 5 (show _ = some (Value.int .u32 f1) from rfl) p
                  have zf : wr.cell? ⟨w.heap.size + 4, 5, none⟩ = some (.int .u32 f1) := HBs.out.cell 5
                  have sg := fun p => HBs.out.cls 6 (show _ = some (Value.int .u32 g1) from rfl) p
                  have zg : wr.cell? ⟨w.heap.size + 4, 6, none⟩ = some (.int .u32 g1) := HBs.out.cell 6
                  have sh := fun p => HBs.out.cls 7 (show _ = some (Value.int .u32 h1) from rfl) p
                  have zh : wr.cell? ⟨w.heap.size + 4, 7, none⟩ = some (.int .u32 h1) := HBs.out.cell 7
                  have m4 : (t : Int) < 64 := by omega
                  go_wp2_with fail
                  refine wp_region_wm [0, 1, 2, 3, 6, 7, 8, 9, 10, 11, 12, 13, 14, 15, 16, 17, 19, 20, 21, 23, 24, 25, 4, 5, 18, 22, 26, 27] (by kernel_rfl) (by kernel_rfl) (by kernel_rfl) (by kernel_rfl) ?_
                  repeat (first
                    | (refine wm_rd rfl rfl (fun K hK => ?_); go_simp; refine hK _ ?_; clear hK K)
                    | (refine wm_ext rfl rfl (fun K hK => ?_); go_simp; go_at_call 97; (with_reducible refine (mix_rot _ _ _ _ _ (by omega) (by omega) (by decide) (by decide) (by decide) (by decide) (by decide) (by decide)).mono ?_); rintro e wq ⟨rfl, rfl⟩; refine hK _ _ (Ext.refl _) ?_; clear hK K))
                  refine wm_nil ?_
                  rw [show IntKind.u32.wrap (IntKind.u32.wrap (IntKind.u32.wrap (IntKind.u32.wrap (h1 + xr (xr (rotS e1 6) (rotS e1 11)) (rotS e1 25)) + bits BinOp.xor IntKind.u32 (bits BinOp.and IntKind.u32 e1 f1) (bits BinOp.and IntKind.u32 (bits BinOp.xor IntKind.u32 (if IntKind.u32.signed = true then -1 else IntKind.u32.max) e1) g1)) + kt) + wt) = uS kt wt e1 f1 g1 h1 from by simp only [IntKind.wrap_u32]; rfl]
                  have ru : 0 ≤ uS kt wt e1 f1 g1 h1 ∧ uS kt wt e1 f1 g1 h1 < 4294967296 := ad_range _ _
                  obtain ⟨uu, huu⟩ : ∃ uu, uS kt wt e1 f1 g1 h1 = uu := ⟨_, rfl⟩
                  rw [huu] at ru ⊢
                  have HU := hide huu
                  clear huu ck cw rk rw0
                  go_wp2_with fail
                  refine wp_region_wm [0, 1, 3, 4, 5, 6, 7, 8, 9, 10, 11, 12, 13, 14, 15, 16, 17, 18, 19, 2, 20, 21] (by kernel_rfl) (by kernel_rfl) (by kernel_rfl) (by kernel_rfl) ?_
                  have sa := fun p => HBs.out.drew.cls 0 (show _ = some (Value.int .u32 a1) from rfl) p
                  have sb := fun p => HBs.out.drew.cls 1 (show _ = some (Value.int .u32 b1) from rfl) p
                  have sc := fun p => HBs.out.drew.cls 2 (show _ = some (Value.int .u32 c1) from rfl) p
                  repeat (first
                    | (refine wm_rd rfl rfl (fun K hK => ?_); go_simp; refine hK _ ?_; clear hK K)
                    | (refine wm_ext rfl rfl (fun K hK => ?_); go_simp; go_at_call 97; (with_reducible refine (mix_rot _ _ _ _ _ (by omega) (by omega) (by decide) (by decide) (by decide) (by decide) (by decide) (by decide)).mono ?_); rintro e wq ⟨rfl, rfl⟩; refine hK _ _ (Ext.refl _) ?_; clear hK K))
                  refine wm_nil ?_
                  rw [show IntKind.u32.wrap (xr (xr (rotS a1 2) (rotS a1 13)) (rotS a1 22) + bits BinOp.xor IntKind.u32 (bits BinOp.xor IntKind.u32 (bits BinOp.and IntKind.u32 a1 b1) (bits BinOp.and IntKind.u32 a1 c1)) (bits BinOp.and IntKind.u32 b1 c1)) = vS a1 b1 c1 from by simp only [IntKind.wrap_u32]; rfl]
                  have rv : 0 ≤ vS a1 b1 c1 ∧ vS a1 b1 c1 < 4294967296 := ad_range _ _
                  obtain ⟨vv, hvv⟩ : ∃ vv, vS a1 b1 c1 = vv := ⟨_, rfl⟩
                  rw [hvv] at rv ⊢
                  have HV := hide hvv
                  clear hvv
                  go_wp2_with (refine wpList_storeB rfl 143 (.tmp 8) (.tmp 158) rfl HBs.out.drew.drew rfl (show _ = Value.agg (u32v [(uu + vv) % 4294967296, a1, b1, c1, (d1 + uu) % 4294967296, e1, f1, g1]).toArray from rfl) (by kernel_rfl) rfl (u32v_one _) ?_)
                  go_roundw
                  case rel =>
                    refine ⟨t + 1, by go_num, by omega, ?_⟩
                    rw [HW.out, show rnd kt wt [a1, b1, c1, d1, e1, f1, g1, h1] = [(uu + vv) % 4294967296, a1, b1, c1, (d1 + uu) % 4294967296, e1, f1, g1] by simp only [rnd, HU.out, HV.out]; rfl]
                    exact hide (HA4.out.drew.drew.step _)
                  case measure => simp [intOf]; omega
                · obtain rfl : t = 64 := by omega
                  rw [show ((64 : Nat) : Int) = 64 from rfl]
                  have hro := rnds_ok kT (sched b 48) st HSL.out HSW.out 64
                  have HS5 := hide (At5.start HA4.out hro.1 HSL.out)
                  have HRO := hide hro
                  have HR : Hid (blockS st b = sumS (rnds kT (sched b 48) st 64) st) := rfl
                  obtain ⟨r, hr⟩ : ∃ r, rnds kT (sched b 48) st 64 = r := ⟨_, rfl⟩
                  rw [hr] at HS5 HRO HR
                  clear hro hr
                  go_wp2_with fail
                  go_loopw [160] (fun i wr => ∃ k : Nat, i = .int .i64 k ∧ k ≤ 8 ∧ Hid (At5 w st r k wr)) (fun i _ => 8 - (intOf i).toNat)
                  case atStart => exact ⟨0, rfl, by omega, HS5⟩
                  case round =>
                    obtain ⟨k, rfl, hk5, HA5⟩ := hrel
                    by_cases hlt5 : k < 8
                    · have hrl := HRO.out.1
                      have hsl := HSL.out
                      have cs := fun p => HA5.out.2.2.2.1.cls k (u32v_at r k (by omega)) p
                      have co := fun p => HA5.out.2.2.2.2.cls k (u32v_at st k (by omega)) p
                      have HN := hide (sum_next r st k hrl hsl hlt5)
                      have HC := hide (HA5.out.cell hrl hsl hlt5)
                      have cf := HA5.out.2.1.drew.free k
                      have rx := isW_at HRO.out.2 k
                      have ry := isW_at HSW.out k
                      generalize r.getD k 0 = x at *
                      generalize st.getD k 0 = y at *
                      have cw := HC.out
                      have m4 : (k : Int) < 8 := by omega
                      clear hrl hsl
                      go_wp2_with fail
                      refine wp_region_tail 9 [0, 1, 2, 3, 4, 5, 6, 7, 8] (by kernel_rfl) (by kernel_rfl) (by kernel_rfl) ?_
                      repeat (refine wt_rd rfl rfl (fun K hK => ?_); go_simp; refine hK _ ?_; clear hK K)
                      refine wt_nil ?_
                      rw [show IntKind.u32.wrap (x + y) = (x + y) % 4294967296 from by simp only [IntKind.wrap_u32]]
                      go_wp2_with fail
                      refine NoPanic.normal ?_
                      go_wp2_with fail
                      go_roundw
                      case rel => exact ⟨k + 1, by go_num, by omega, hide (HA5.out.drew.step HN.out)⟩
                      case measure => simp [intOf]; omega
                    · obtain rfl : k = 8 := by omega
                      rw [show ((8 : Nat) : Int) = 8 from rfl]
                      have hsm := sumS_ok r st HRO.out.1 HSL.out
                      have HB0 := hide (HA5.out.whole HRO.out.1 HSL.out)
                      have HB2 := hide HA5.out.2.2.1
                      have HX := hide HA5.out.1
                      rw [← HR.out] at HB0 hsm
                      have HM := hide hsm
                      clear hsm
                      go_wp2_with (first
                        | (refine wpList_loadB rfl 120 (.tmp 2) rfl HB0.out rfl _ Tryd.underlying120 rfl (show _ = some (u32v (blockS st b)).length from by rw [u32v_length, HM.out.1]; kernel_rfl) ?_)
                        | (refine wpList_storeB rfl 120 (.tmp 4) (.tmp 173) rfl HB2.out rfl rfl (show _ = some (u32v (blockS st b)).length from by rw [u32v_length, HM.out.1]; kernel_rfl) (by rw [u32v_length, HM.out.1]; rfl) (u32v_one _) ?_))
                      refine bodyPost_ret (v := .agg (u32v (blockS st b)).toArray) (results_cell_row rfl _ _ (w.heap.size + 1 + 1) 120 (u32v (blockS st b)).toArray (0, 0) _ rfl (HB2.out.setRow _) Tryd.underlying120 rfl (show _ = some (u32v (blockS st b)).toArray.size from by rw [List.size_toArray, u32v_length, HM.out.1]; kernel_rfl)) rfl ⟨rfl, Below.setRow HX.out (by omega) _⟩
end Go.Proofs.YtamlngdjbmndlaaDoor
