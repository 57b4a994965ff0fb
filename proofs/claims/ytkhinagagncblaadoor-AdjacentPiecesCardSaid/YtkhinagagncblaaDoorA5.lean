/- Venues: the iterator over the rows. -/
import Derived.RangeFuncNested
import Derived.RangeFuncBound
import Derived.RangeFuncCalls
import Derived.RangeFuncLeaves
import Derived.RangeFuncBox
import Derived.Shelf.Abstract
import Derived.Shelf.RegionOpen
import Derived.OwnWalkIn
import Derived.TacticsInMore
import Derived.LoopNIn
import Derived.LoopIn
import Derived.Test.YtkhinagagncblaaDoorA4
namespace Go.Proofs.YtkhinagagncblaaDoor
open Go.RowKit Go.Gr Go.Ad
set_option linter.unusedVariables false
set_option linter.unusedSimpArgs false
attribute [local go_sem] Oper.semAt_some
/-- rows as they come: small numbers -/
structure RowB where
  r : RowI
  sec : r.sec ≤ 8
  row : r.row ≤ 16
  first : r.first ≤ 100000
  many : r.many ≤ 64
def encR (x : RowB) : Array Value := #[.agg #[.int .i64 x.r.sec, .int .i64 x.r.row, .int .i64 x.r.first, .int .i64 x.r.many]]
theorem rows_in (F : Fence) (n : Nat) (hf : F.fn 54) (hro : F.round = none) (a b c d : Value) (w : World) :
    CallsIn F n Tryd.prog 54 #[.agg #[a, b, c, d]] w fun e w' => e = .returned (.func (.func 60) #[] #[.pointer (some ⟨w.heap.size, 0, none⟩)]) ∧ w' = w.alloc (.cells #[a, b, c, d] 24) := by
  refine callsIn_of_wp Tryd.func54 rfl hf ?_ hro
  simp only [Tryd.ntmps54, List.size_toArray, List.length_cons, List.length_nil, Nat.reduceAdd, Nat.reduceSub, Array.replicate_succ, Array.replicate_zero, List.push_toArray, List.append_toArray, List.nil_append, List.cons_append]
  gi_wp2
  go_ret
  exact ⟨rfl, rfl⟩
theorem grown_of_ext {w w' : World} (h : Ext w w') : w.grownBy w' none := ⟨h.os, h.tape, h.output, h.size, fun k hk _ => h.block k hk⟩
theorem rl_app : ∀ (l1 l2 : List Sc) (i a : Nat), rl i a (l1 ++ l2) = rl i a l1 ++ rl (i + l1.length) (a + sumS l1) l2
  | [], l2, i, a => by simp [rl, sumS]
  | s :: l1, l2, i, a => by
    rw [List.cons_append, rl, rl, rl_app l1 l2 (i + 1) (a + s.sum), List.append_assoc, show i + 1 + l1.length = i + (s :: l1).length by simp; omega,
      show a + s.sum + sumS l1 = a + sumS (s :: l1) by simp [sumS]; omega]
theorem rl_take {l : List Sc} {i : Nat} {s : Sc} (h : l[i]? = some s) : rl 0 0 (l.take (i + 1)) = rl 0 0 (l.take i) ++ rlSec i 0 (fst0 l i) s.rowsN := by
  have hi : i < l.length := (List.getElem?_eq_some_iff.1 h).1
  rw [List.take_add_one, h, Option.toList_some, rl_app, rl, rl, List.append_nil, List.length_take, Nat.min_eq_left (by omega), Nat.zero_add, Nat.zero_add]; rfl
theorem rlSec_at {i : Nat} : ∀ (ns : List Nat) (k a q n : Nat), ns[q]? = some n → (rlSec i k a ns)[q]? = some ⟨i, k + q, a + (ns.take q).sum, n⟩
  | [], _, _, q, n, h => by simp at h
  | m :: ns, k, a, 0, n, h => by
    simp only [List.getElem?_cons_zero, Option.some.injEq] at h
    subst h; simp [rlSec]
  | m :: ns, k, a, q + 1, n, h => by
    rw [List.getElem?_cons_succ] at h
    rw [rlSec, List.getElem?_cons_succ, rlSec_at ns (k + 1) (a + m) q n h]
    simp; omega
theorem rlSec_len (i : Nat) : ∀ (ns : List Nat) (k a : Nat), (rlSec i k a ns).length = ns.length
  | [], _, _ => rfl
  | n :: ns, k, a => by rw [rlSec, List.length_cons, rlSec_len i ns, List.length_cons]
/-- which row comes next -/
theorem next_row {v : Vn} {xs : List RowB} (hx : xs.map RowB.r = rl 0 0 v.secs) {i k m n : Nat} {s : Sc} (hs : v.secs[i]? = some s) (hk : s.rowsN[k]? = some n) (hm : (xs.take m).map RowB.r = rl 0 0 (v.secs.take i)) (hml : m ≤ xs.length) :
    ∃ x, xs[m + k]? = some x ∧ x.r = ⟨i, k, fst0 v.secs i + (s.rowsN.take k).sum, n⟩ := by
  have hlm : (rl 0 0 (v.secs.take i)).length = m := by rw [← hm, List.length_map, List.length_take]; omega
  have hi : i < v.secs.length := (List.getElem?_eq_some_iff.1 hs).1
  have h1 : (rl 0 0 v.secs)[m + k]? = some ⟨i, k, fst0 v.secs i + (s.rowsN.take k).sum, n⟩ := by
    have e : v.secs = v.secs.take (i + 1) ++ v.secs.drop (i + 1) := (List.take_append_drop _ _).symm
    rw [e, rl_app, rl_take hs, List.append_assoc, List.getElem?_append_right (by rw [hlm]; omega), hlm, Nat.add_sub_cancel_left, List.getElem?_append_left, rlSec_at _ _ _ _ _ hk]
    · rw [← e]; simp
    · rw [rlSec_len]; exact (List.getElem?_eq_some_iff.1 hk).1
  rw [← hx, List.getElem?_map] at h1
  cases hxx : xs[m + k]? with
  | none => rw [hxx] at h1; cases h1
  | some x => rw [hxx] at h1; exact ⟨x, rfl, by simpa using h1⟩
theorem rows_done {v : Vn} {xs : List RowB} (hx : xs.map RowB.r = rl 0 0 v.secs) {i m : Nat} {s : Sc} (hs : v.secs[i]? = some s) (hm : (xs.take m).map RowB.r = rl 0 0 (v.secs.take i)) (hml : m ≤ xs.length) :
    (xs.take (m + s.rowsN.length)).map RowB.r = rl 0 0 (v.secs.take (i + 1)) ∧ m + s.rowsN.length ≤ xs.length := by
  have hlm : (rl 0 0 (v.secs.take i)).length = m := by rw [← hm, List.length_map, List.length_take]; omega
  have e : v.secs = v.secs.take (i + 1) ++ v.secs.drop (i + 1) := (List.take_append_drop _ _).symm
  have h1 : xs.map RowB.r = rl 0 0 (v.secs.take i) ++ (rlSec i 0 (fst0 v.secs i) s.rowsN ++ rl (0 + (v.secs.take (i + 1)).length) (0 + sumS (v.secs.take (i + 1))) (v.secs.drop (i + 1))) := by
    rw [hx, ← List.append_assoc, ← rl_take hs, ← rl_app, ← e]
  have hlen := congrArg List.length h1
  simp only [List.length_map, List.length_append, hlm, rlSec_len] at hlen
  refine ⟨?_, by omega⟩
  rw [List.map_take, h1, rl_take hs, ← List.append_assoc, List.take_append_of_le_length (by simp [hlm, rlSec_len]), List.take_of_length_le (by simp [hlm, rlSec_len])]
theorem take_next1 {α : Type} {l : List α} {i : Nat} {x : α} (h : l[i]? = some x) : l.take (i + 1) = l.take i ++ [x] := by rw [List.take_add_one, h]; rfl
/-- the rows of a venue, as they come -/
structure RowsOf (v : Vn) (xs : List RowB) : Prop where
  eq : xs.map RowB.r = rl 0 0 v.secs
set_option maxRecDepth 100000 in
set_option maxHeartbeats 4000000 in
theorem rows1_in (n : Nat) (hn : 1 ≤ n) (l Bn : Nat) (v : Vn) (A : Option Addr) (c : Nat) (w0 : World) (hS : Secs w0 A v.secs) (hc : v.secs.length ≤ c) (hok : VnOk v) (xs : List RowB) (hxs : RowsOf v xs) (J Jx : List RowB → World → Prop)
    (W : World) (hW : Below w0.heap.size w0 W) (hJ : AbidesFrom W.heap.size J)
    (hY : ∀ pre x W, J pre W → pre.length < xs.length → YieldAt Fence.wide (n - 1) Tryd.prog l (encR x) W fun e W' =>
      (e = .returned (.bool true) ∧ J (pre ++ [x]) W' ∧ Below w0.heap.size W W') ∨ (e = .returned (.bool false) ∧ Jx (pre ++ [x]) W'))
    (hB : W.cell? ⟨Bn, 3, none⟩ = some (.slice A v.secs.length c)) (h0 : J [] W) :
    CallsIn Fence.wide n Tryd.prog 60 #[.func (.yield l) #[] #[], .pointer (some ⟨Bn, 0, none⟩)] W fun e W' => (∃ v, e = .returned v) ∧
      (J xs W' ∨ (∃ pre, pre <+: xs ∧ Jx pre W')) := by
  have HS := hide (fun (y : World) (k : Ext w0 y) => hS.ext k)
  have HY := hide hY
  have HJ := hide hJ
  have HC := hide hc
  have H8 := hide hok.few
  have HOK := hide hok.sec
  have HXS := hide hxs.eq
  have HW := hide hW
  clear hS hY hJ hc hok hxs hW
  refine callsIn_of_wp Tryd.func60 rfl trivial ?_ rfl
  simp only [Tryd.ntmps60, List.size_toArray, List.length_cons, List.length_nil, Nat.reduceAdd, Nat.reduceSub, Array.replicate_succ, Array.replicate_zero, List.push_toArray, List.append_toArray, List.nil_append, List.cons_append]
  have HB := hide hB
  have H0 := hide h0
  clear h0
  gi_wp2
  clear hB
  gi_loopw [3, 11] (fun v3 v11 wr => ∃ (i a m : Nat), v11 = .int .i64 i ∧ v3 = .int .i64 a ∧ i ≤ v.secs.length ∧ Hid (a = fst0 v.secs i) ∧ Hid ((xs.take m).map RowB.r = rl 0 0 (v.secs.take i) ∧ m ≤ xs.length) ∧ Hid (J (xs.take m) wr) ∧ Hid (Below w0.heap.size w0 wr)) (fun _ v11 _ => v.secs.length - (intOf v11).toNat)
  case atStart => exact ⟨0, 0, 0, rfl, rfl, by omega, hide rfl, hide ⟨rfl, by omega⟩, H0, HW⟩
  case round =>
    obtain ⟨i, a, m, rfl, rfl, hi, HA, HM, HJ0, HB0⟩ := hrel
    have hi8 : i ≤ 8 := by have := H8.out; omega
    by_cases hlt : i < v.secs.length
    · have hli : (i : Int) < (v.secs.length : Int) := by omega
      obtain ⟨s, hs⟩ : ∃ s, v.secs[i]? = some s := ⟨_, List.getElem?_eq_getElem hlt⟩
      obtain ⟨b, off, R, d, hA, h5w, hRw, hd⟩ := HS.out _ (Ext.refl w0) i _ hs
      have h5 := h5w.ext HB0.out
      have HR := hide (fun (y : World) (k : Ext w0 y) => hRw.ext k)
      clear h5w hRw
      have HSO := hide (HOK.out s (List.mem_of_getElem? hs))
      have HSI := hide hs
      have HLT := hide hlt
      obtain ⟨d0, d1, d2⟩ := at5_3 h5
      have hic : (i : Int) < (c : Int) := by have := HC.out; omega
      subst hA
      clear h5
      gi_wp2
      have HJ1 := hide (HJ.out _ _ _ none HJ0.out (grown_of_ext ((Ext.refl wr).alloc (.cells #[.string s.name, .slice R s.rows.length d, .int .i64 s.queue] 78))) (fun r e => by cases e))
      have HB1 := hide (HB0.out.trans (((Ext.refl wr).alloc (.cells #[.string s.name, .slice R s.rows.length d, .int .i64 s.queue] 78)).mono HB0.out.size))
      generalize wr.heap.size = g2
      generalize wr.alloc _ = wb at *
      clear HJ0 HB0 d0 d1 d2
      gi_loopw [3, 19] (fun v3 v19 wy => ∃ (k u : Nat), v19 = .int .i64 k ∧ v3 = .int .i64 u ∧ k ≤ s.rows.length ∧ Hid (u = a + (s.rowsN.take k).sum) ∧ Hid (J (xs.take (m + k)) wy) ∧ Hid (Below w0.heap.size w0 wy)) (fun _ v19 _ => s.rows.length - (intOf v19).toNat)
      case atStart => exact ⟨0, a, rfl, rfl, by omega, hide (by simp), HJ1, HB1⟩
      case round =>
        obtain ⟨k, u, rfl, rfl, hk, HU, HJ2, HB2⟩ := hrel
        clear HJ1 HB1
        have hkb : k ≤ 16 := by have := HSO.out.few; omega
        by_cases hkl : k < s.rows.length
        · have hkli : (k : Int) < (s.rows.length : Int) := by omega
          obtain ⟨ad, hA2, cl⟩ := i64s_at (HR.out _ HB2.out) hkl
          obtain ⟨z, hz⟩ : ∃ z, s.rows[k]? = some z := ⟨_, List.getElem?_eq_getElem hkl⟩
          have hz' : s.rows[k] = z := by rw [List.getElem?_eq_getElem hkl] at hz; exact Option.some.inj hz
          rw [hz'] at cl
          have hzr := HSO.out.row z (List.mem_of_getElem? hz)
          obtain ⟨n', rfl⟩ : ∃ n : Nat, z = n := ⟨z.toNat, by omega⟩
          have HRN := hide (rowsN_get hz)
          obtain ⟨x, hx, hxr⟩ := next_row HXS.out HSI.out HRN.out HM.out.1 HM.out.2
          rw [← HA.out, ← HU.out, Int.toNat_natCast] at hxr
          have HTN := hide (take_next1 hx)
          have hlx : (xs.take (m + k)).length < xs.length := by
            have := (List.getElem?_eq_some_iff.1 hx).1
            rw [List.length_take]; omega
          have hu := x.first
          rw [hxr] at hu
          obtain ⟨fn, tmps, assign, body, hy, hR⟩ := HY.out (xs.take (m + k)) x wr HJ2.out hlx
          have hR' := hide hR
          simp only [encR, hxr] at hy
          subst hA2
          have hdc : (k : Int) < (d : Int) := by omega
          have hn64 : n' ≤ 64 := by omega
          have HKL := hide hkl
          clear hx hxr hz hz' hzr hlx hkl hR
          gi_wp2
          refine hR'.out.mono ?_
          rintro e W3 (⟨rfl, hJ3, hk3⟩ | ⟨rfl, hJx3⟩)
          · rw [← HTN.out] at hJ3
            have HJ3 := hide hJ3
            have HB3 := hide (HB2.out.trans hk3)
            have HUN := hide (sum_step HRN.out)
            clear hJ3 hk3 cl hy hR' HJ2 HB2
            gi_wp2
            go_roundw
            case rel => exact ⟨k + 1, u + n', by go_num, by go_num, HKL.out, hide (by rw [HUN.out, HU.out]; omega), HJ3, HB3⟩
            case measure => have := HKL.out; simp [intOf]; omega
          · have hJx4 := hide hJx3
            clear hJx3 cl hy hR'
            gi_wp2
            refine bodyPost_ret (results_none rfl _ _ _) rfl ?_
            refine ⟨⟨_, rfl⟩, .inr ⟨xs.take (m + k) ++ [x], ?_, hJx4.out⟩⟩
            rw [← HTN.out]
            exact List.take_prefix _ _
        · obtain rfl : k = s.rows.length := by omega
          have hkli : ¬ (s.rows.length : Int) < (s.rows.length : Int) := by omega
          have hrl : s.rowsN.length = s.rows.length := by unfold Sc.rowsN; rw [List.length_map]
          have hrd := rows_done HXS.out HSI.out HM.out.1 HM.out.2
          rw [hrl] at hrd
          have HRD := hide hrd
          have HA2 := hide (show u = fst0 v.secs (i + 1) by
            unfold fst0
            rw [sumS_step HSI.out, HU.out, List.take_of_length_le (by rw [hrl]; exact Nat.le_refl _), HA.out]; rfl)
          clear hrd hrl
          gi_wp2
          go_roundw
          case rel => exact ⟨i + 1, u, m + s.rows.length, by go_num, rfl, HLT.out, HA2, HRD, HJ2, HB2⟩
          case measure => have := HLT.out; simp [intOf]; omega
    · obtain rfl : i = v.secs.length := by omega
      have hli : ¬ (v.secs.length : Int) < (v.secs.length : Int) := by omega
      have hall : xs.take m = xs := by
        have h1 := HM.out.1
        rw [List.take_of_length_le (Nat.le_refl _), ← HXS.out] at h1
        have h2 := congrArg List.length h1
        simp only [List.length_map, List.length_take] at h2
        exact List.take_of_length_le (by omega)
      have HJ1 := HJ0.out
      rw [hall] at HJ1
      have HJ2 := hide HJ1
      clear HJ1 hall
      gi_wp2
      go_end0
      exact ⟨⟨_, rfl⟩, .inl HJ2.out⟩
end Go.Proofs.YtkhinagagncblaaDoor
