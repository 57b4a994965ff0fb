/- Seats side by side: the iterator over the choices, by the program. -/
import Derived.Test.YtkhinagagncblaaDoorA10
import Derived.Test.YtkhinagagncblaaDoorRoundIn
namespace Go.Proofs.YtkhinagagncblaaDoor
open Go.RowKit Go.Gr Go.Ad
set_option linter.unusedVariables false
set_option linter.unusedSimpArgs false
attribute [local go_sem] Oper.semAt_some rdOp rdAt rdUpon Cls forall_fr
/-- a choice: its run, and how many seats are before it; all small -/
structure Cho where
  r : Run
  k : Nat
  b : Nat
  row : r.row ≤ 16
  first : r.first ≤ 100000
  many : r.many ≤ 100000
  kk : k ≤ 100000
  bb : b ≤ 100000
/-- its cells -/
def choC (r : Run) (k b : Nat) : List Value := [.int .i64 (r.row : Nat), .int .i64 (r.first : Nat), .int .i64 (r.many : Nat), .int .i64 (k : Nat), .int .i64 (b : Nat)]
def encC (x : Cho) : Array Value := #[.agg #[.int .i64 (x.r.row : Nat), .int .i64 (x.r.first : Nat), .int .i64 (x.r.many : Nat), .int .i64 (x.k : Nat), .int .i64 (x.b : Nat)]]
/-- the choices of n seats: their runs, how many seats are before them and behind them -/
def chR (n : Nat) (r : Run) : List (Run × Nat × Nat) := (List.range (r.many + 1 - n)).map fun k => (r, k, r.many - n - k)
def chs (l : List Run) (n : Nat) : List (Run × Nat × Nat) := l.flatMap (chR n)
def Cho.t (x : Cho) : Run × Nat × Nat := (x.r, x.k, x.b)
theorem chs_app (l m : List Run) (n : Nat) : chs (l ++ m) n = chs l n ++ chs m n := by simp [chs]
theorem chR_len (n : Nat) (r : Run) : (chR n r).length = r.many + 1 - n := by simp [chR]
theorem chR_at {n : Nat} {r : Run} {k : Nat} (h : k < r.many + 1 - n) : (chR n r)[k]? = some (r, k, r.many - n - k) := by
  simp [chR, List.getElem?_range h]
/-- small runs -/
def Small (l : List Run) : Prop := ∀ r ∈ l, r.row ≤ 16 ∧ r.first ≤ 20000 ∧ r.many ≤ 20000
theorem choices_ex {l : List Run} (h : Small l) (n : Nat) : ∃ xs : List Cho, xs.map Cho.t = chs l n := by
  have key : ∀ m : List (Run × Nat × Nat), (∀ x ∈ m, x.1.row ≤ 16 ∧ x.1.first ≤ 100000 ∧ x.1.many ≤ 100000 ∧ x.2.1 ≤ 100000 ∧ x.2.2 ≤ 100000) → ∃ xs : List Cho, xs.map Cho.t = m := by
    intro m
    induction m with
    | nil => exact fun _ => ⟨[], rfl⟩
    | cons x m ih =>
      intro hm
      obtain ⟨xs, hx⟩ := ih fun y hy => hm y (by simp [hy])
      obtain ⟨h1, h2, h3, h4, h5⟩ := hm x (by simp)
      exact ⟨⟨x.1, x.2.1, x.2.2, h1, h2, h3, h4, h5⟩ :: xs, by simp [hx, Cho.t]⟩
  refine key _ fun x hx => ?_
  obtain ⟨r, hr, hx⟩ := List.mem_flatMap.1 hx
  obtain ⟨k, hk, rfl⟩ := List.mem_map.1 hx
  obtain ⟨s1, s2, s3⟩ := h r hr
  have := List.mem_range.1 hk
  exact ⟨s1, by show r.first ≤ _; omega, by show r.many ≤ _; omega, by show k ≤ _; omega, by show r.many - n - k ≤ _; omega⟩
/-- which choice comes next -/
theorem next_cho {l : List Run} {n : Nat} {xs : List Cho} (hx : xs.map Cho.t = chs l n) {i k m : Nat} {r : Run} (hr : l[i]? = some r) (hk : k < r.many + 1 - n) (hm : (xs.take m).map Cho.t = chs (l.take i) n) (hml : m ≤ xs.length) :
    ∃ x, xs[m + k]? = some x ∧ x.t = (r, k, r.many - n - k) := by
  have hlm : (chs (l.take i) n).length = m := by rw [← hm, List.length_map, List.length_take]; omega
  have e : l = l.take i ++ r :: l.drop (i + 1) := by
    have hi : i < l.length := (List.getElem?_eq_some_iff.1 hr).1
    rw [List.getElem?_eq_getElem hi] at hr
    conv => lhs; rw [← List.take_append_drop i l, List.drop_eq_getElem_cons hi, Option.some.inj hr]
  have h1 : (chs l n)[m + k]? = some (r, k, r.many - n - k) := by
    rw [e, chs_app, List.getElem?_append_right (by rw [hlm]; omega), hlm, Nat.add_sub_cancel_left]
    show (chR n r ++ chs (l.drop (i + 1)) n)[k]? = _
    rw [List.getElem?_append_left (by rw [chR_len]; exact hk), chR_at hk]
  rw [← hx, List.getElem?_map] at h1
  cases hxx : xs[m + k]? with
  | none => rw [hxx] at h1; cases h1
  | some x => rw [hxx] at h1; exact ⟨x, rfl, by simpa using h1⟩
theorem cho_done {l : List Run} {n : Nat} {xs : List Cho} (hx : xs.map Cho.t = chs l n) {i m : Nat} {r : Run} (hr : l[i]? = some r) (hm : (xs.take m).map Cho.t = chs (l.take i) n) (hml : m ≤ xs.length) :
    (xs.take (m + (r.many + 1 - n))).map Cho.t = chs (l.take (i + 1)) n ∧ m + (r.many + 1 - n) ≤ xs.length := by
  have hlm : (chs (l.take i) n).length = m := by rw [← hm, List.length_map, List.length_take]; omega
  have hc1 : chs (l.take (i + 1)) n = chs (l.take i) n ++ chR n r := by rw [take_next1 hr, chs_app]; simp [chs]
  have e : chs l n = chs (l.take (i + 1)) n ++ chs (l.drop (i + 1)) n := by rw [← chs_app, List.take_append_drop]
  have hlen := congrArg List.length (hx.trans e)
  rw [List.length_map, List.length_append, hc1, List.length_append, hlm, chR_len] at hlen
  refine ⟨?_, by omega⟩
  rw [List.map_take, hx, e, List.take_append_of_le_length (by rw [hc1, List.length_append, hlm, chR_len]; exact Nat.le_refl _), List.take_of_length_le (by rw [hc1, List.length_append, hlm, chR_len]; exact Nat.le_refl _)]
theorem choices_in (F : Fence) (n : Nat) (hf : F.fn 36) (hro : F.round = none) (B : Option Addr) (ln bc : Nat) (k : Int) (w : World) :
    CallsIn F n Tryd.prog 36 #[.slice B ln bc, .int .i64 k] w fun e w' => e = .returned (.func (.func 50) #[] #[.pointer (some ⟨w.heap.size, 0, none⟩), .pointer (some ⟨w.heap.size + 1, 0, none⟩)]) ∧ w' = (w.alloc (.cells #[.slice B ln bc] 30)).alloc (.cells #[.int .i64 k] 3) := by
  refine callsIn_of_wp Tryd.func36 rfl hf ?_ hro
  simp only [Tryd.ntmps36, List.size_toArray, List.length_cons, List.length_nil, Nat.reduceAdd, Nat.reduceSub, Array.replicate_succ, Array.replicate_zero, List.push_toArray, List.append_toArray, List.nil_append, List.cons_append]
  gi_wp2
  go_ret
  exact ⟨rfl, rfl⟩
/-- what the iterator reads -/
structure ChoMem (w : World) (B : Option Addr) (bc : Nat) (l : List Run) (n b1 b2 : Nat) (S : Nat → Prop) : Prop where
  row : ∀ i r, l[i]? = some r → ∃ g, B = some ⟨g, 0, none⟩ ∧ (∃ cs fr, w.heap[g]? = some (Obj.cells cs 47 fr)) ∧ At5 w g (i * 3) (runC r)
  cap : l.length ≤ bc
  one : w.cell? ⟨b1, 0, none⟩ = some (.slice B l.length bc)
  two : w.cell? ⟨b2, 0, none⟩ = some (.int .i64 (n : Nat))
  s2 : S b2
theorem at5_kept {W W' : World} {g off : Nat} {cs : List Value} (h : At5 W g off cs) (k : W'.heap[g]? = W.heap[g]?) : At5 W' g off cs := fun j v hv => (World.cell?_of_block (a := ⟨g, off + j, none⟩) k).trans (h j v hv)
set_option maxRecDepth 100000 in
set_option maxHeartbeats 4000000 in
theorem cho1_in (m0 : Nat) (hn : 1 ≤ m0) (lo b1 b2 : Nat) (l : List Run) (n : Nat) (h1n : 1 ≤ n) (hn64 : n ≤ 64) (B : Option Addr) (bc : Nat) (S : Nat → Prop) (hsm : Small l) (hl : l.length ≤ 2000) (xs : List Cho) (hxs : xs.map Cho.t = chs l n) (J Jx : List Cho → World → Prop)
    (W : World) (hM : ChoMem W B bc l n b1 b2 S) (hJ : AbidesFrom W.heap.size J) (hSW : ∀ k, S k → k < W.heap.size)
    (hY : ∀ pre x W, J pre W → pre.length < xs.length → YieldAt Fence.wide (m0 - 1) Tryd.prog lo (encC x) W fun e W' =>
      (e = .returned (.bool true) ∧ J (pre ++ [x]) W' ∧ KpT S 47 W W') ∨ (e = .returned (.bool false) ∧ Jx (pre ++ [x]) W')) (h0 : J [] W) :
    CallsIn Fence.wide m0 Tryd.prog 50 #[.func (.yield lo) #[] #[], .pointer (some ⟨b1, 0, none⟩), .pointer (some ⟨b2, 0, none⟩)] W fun e W' => (∃ v, e = .returned v) ∧
      (J xs W' ∨ (∃ pre, pre <+: xs ∧ Jx pre W')) := by
  have HROW := hide (fun (y : World) (k : KpT S 47 W y) (i : Nat) (r : Run) (hr : l[i]? = some r) => (show ∃ g, B = some ⟨g, 0, none⟩ ∧ At5 y g (i * 3) (runC r) from by
    obtain ⟨g, e, ⟨cs, fr, hg⟩, h5⟩ := hM.row i r hr
    exact ⟨g, e, at5_kept h5 (k.2.2 g cs fr hg)⟩))
  have HTWO := hide (fun (y : World) (k : KpT S 47 W y) => (show y.cell? ⟨b2, 0, none⟩ = some (.int .i64 (n : Nat)) from (World.cell?_of_block (a := ⟨b2, 0, none⟩) (k.2.1 b2 hM.s2)).trans hM.two))
  have hone := hM.one
  have HCAP := hide hM.cap
  have HY := hide hY
  have HJ := hide hJ
  have HSW := hide hSW
  have HXS := hide hxs
  have HSM := hide hsm
  have H0 := hide h0
  have HL := hide hl
  clear hM hY hJ hSW hxs hsm h0 hl
  refine callsIn_of_wp Tryd.func50 rfl trivial ?_ rfl
  simp only [Tryd.ntmps50, List.size_toArray, List.length_cons, List.length_nil, Nat.reduceAdd, Nat.reduceSub, Array.replicate_succ, Array.replicate_zero, List.push_toArray, List.append_toArray, List.nil_append, List.cons_append]
  gi_wp2
  clear hone
  gi_loopw [9] (fun v9 wr => ∃ (i m : Nat), v9 = .int .i64 i ∧ i ≤ l.length ∧ Hid ((xs.take m).map Cho.t = chs (l.take i) n ∧ m ≤ xs.length) ∧ Hid (J (xs.take m) wr) ∧ Hid (KpT S 47 W wr)) (fun v9 _ => l.length - (intOf v9).toNat)
  case atStart => exact ⟨0, 0, rfl, by omega, hide ⟨rfl, by omega⟩, H0, hide (kpT_refl S _ W)⟩
  case round =>
    obtain ⟨i, m, rfl, hi, HM, HJ0, HK0⟩ := hrel
    have hib : i ≤ 2000 := by have := HL.out; omega
    by_cases hlt : i < l.length
    · have hli : (i : Int) < (l.length : Int) := by omega
      obtain ⟨r, hr⟩ : ∃ r, l[i]? = some r := ⟨_, List.getElem?_eq_getElem hlt⟩
      obtain ⟨g, hB, h5⟩ := HROW.out _ HK0.out i r hr
      obtain ⟨hr1, hr2, hr3⟩ := HSM.out r (List.mem_of_getElem? hr)
      have HR := hide hr
      have HLT := hide hlt
      obtain ⟨d0, d1, d2⟩ := at5_3 h5
      have htwo := HTWO.out _ HK0.out
      have hb2 : b2 < wr.heap.size := cell_lt htwo
      have hic : (i : Int) < (bc : Int) := by have := HCAP.out; omega
      have hmx : max ((r.many : Int) - (n : Int) + 1) 0 = ((r.many + 1 - n : Nat) : Int) := by omega
      subst hB
      clear h5 hlt hr
      gi_wp2
      have HJ1 := hide (HJ.out _ _ _ none HJ0.out (grown_of_ext ((Ext.refl wr).alloc (.cells #[.int .i64 (r.row : Nat), .int .i64 (r.first : Nat), .int .i64 (r.many : Nat)] 47))) (fun r e => by cases e))
      have hsw : ∀ k, S k → k < wr.heap.size := fun k hk => Nat.lt_of_lt_of_le (HSW.out k hk) HK0.out.1
      have HK1 := hide (kpT_t HK0.out (kpT_ext ((Ext.refl wr).alloc (.cells #[.int .i64 (r.row : Nat), .int .i64 (r.first : Nat), .int .i64 (r.many : Nat)] 47)) hsw))
      have HBX := hide (Blk.new wr 47 [.int .i64 (r.row : Nat), .int .i64 (r.first : Nat), .int .i64 (r.many : Nat)])
      clear hsw htwo hb2 d0 d1 d2 HJ0 HK0
      generalize wr.alloc _ = wb at *
      generalize wr.heap.size = g2 at *
      gi_loopw [19] (fun v19 wy => ∃ k : Nat, v19 = .int .i64 k ∧ k ≤ r.many + 1 - n ∧ Hid (J (xs.take (m + k)) wy) ∧ Hid (KpT S 47 W wy) ∧ Hid (Blk wy g2 47 [.int .i64 (r.row : Nat), .int .i64 (r.first : Nat), .int .i64 (r.many : Nat)])) (fun v19 _ => (r.many + 1 - n) - (intOf v19).toNat)
      case atStart => exact ⟨0, rfl, by omega, HJ1, HK1, HBX⟩
      case round =>
        obtain ⟨k, rfl, hk, HJ2, HK2, HB2⟩ := hrel
        clear HJ1 HK1 HBX
        by_cases hkl : k < r.many + 1 - n
        · have hkli : (k : Int) < ((r.many + 1 - n : Nat) : Int) := by omega
          obtain ⟨x, hx, hxt⟩ := next_cho HXS.out HR.out hkl HM.out.1 HM.out.2
          have HTN := hide (take_next1 hx)
          have hlx : (xs.take (m + k)).length < xs.length := by
            have := (List.getElem?_eq_some_iff.1 hx).1
            rw [List.length_take]; omega
          have hxr : x.r = r := congrArg Prod.fst hxt
          have hxk : x.k = k := congrArg (fun z => z.2.1) hxt
          have hxb : x.b = r.many - n - k := congrArg (fun z => z.2.2) hxt
          obtain ⟨fn, tmps, assign, body, hy, hR⟩ := HY.out (xs.take (m + k)) x wr HJ2.out hlx
          have hR' := hide hR
          simp only [encC, hxr, hxk, hxb] at hy
          have e1 : (r.many : Int) - (n : Int) - (k : Int) = ((r.many - n - k : Nat) : Int) := by omega
          obtain ⟨y0, y1, y2, yz⟩ := blk3 HB2.out
          have htwo := HTWO.out _ HK2.out
          have HKL := hide hkl
          clear hx hxt hlx hkl hR hxr hxk hxb
          gi_wp2
          refine hR'.out.mono ?_
          rintro e W3 (⟨rfl, hJ3, hk3⟩ | ⟨rfl, hJx3⟩)
          · rw [← HTN.out] at hJ3
            have HJ3 := hide hJ3
            have HB3 := hide (show Blk W3 g2 47 _ from (hk3.2.2 g2 _ _ HB2.out).trans HB2.out)
            have HK3 := hide (kpT_t HK2.out hk3)
            clear hJ3 hk3 y0 y1 y2 yz htwo hy hR' HJ2 HK2 HB2
            gi_wp2
            go_roundw
            case rel => exact ⟨k + 1, by go_num, HKL.out, HJ3, HK3, HB3⟩
            case measure => have := HKL.out; simp [intOf]; omega
          · have hJx4 := hide hJx3
            clear hJx3 y0 y1 y2 yz htwo hy hR'
            gi_wp2
            refine bodyPost_ret (results_none rfl _ _ _) rfl ?_
            refine ⟨⟨_, rfl⟩, .inr ⟨xs.take (m + k) ++ [x], ?_, hJx4.out⟩⟩
            rw [← HTN.out]
            exact List.take_prefix _ _
        · have hkli : ¬ (k : Int) < ((r.many + 1 - n : Nat) : Int) := by omega
          obtain rfl : k = r.many + 1 - n := by omega
          have HRD := hide (cho_done HXS.out HR.out HM.out.1 HM.out.2)
          clear hkl
          gi_wp2
          go_roundw
          case rel => exact ⟨i + 1, m + (r.many + 1 - n), by go_num, HLT.out, HRD, HJ2, HK2⟩
          case measure => have := HLT.out; simp [intOf]; omega
    · obtain rfl : i = l.length := by omega
      have hli : ¬ (l.length : Int) < (l.length : Int) := by omega
      have hall : xs.take m = xs := by
        have h1 := HM.out.1
        rw [List.take_of_length_le (Nat.le_refl _), ← HXS.out] at h1
        have h2 := congrArg List.length h1
        simp only [List.length_map, List.length_take] at h2
        exact List.take_of_length_le (by omega)
      have HJ1 := HJ0.out
      rw [hall] at HJ1
      have HJ2 := hide HJ1
      clear HJ1 hall
      gi_wp2
      go_end0
      exact ⟨⟨_, rfl⟩, .inl HJ2.out⟩
end Go.Proofs.YtkhinagagncblaaDoor
