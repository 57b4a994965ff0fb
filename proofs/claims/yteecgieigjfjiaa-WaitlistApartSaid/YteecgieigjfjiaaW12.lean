/- Lists of waiters: New. -/
import Derived.Test.YteecgieigjfjiaaW11
namespace Go.Gr
open Go.RowKit Go.Sort
set_option linter.unusedVariables false
section
variable {P : Program} {G : Nat → Prop} {w0 w : World} {L : List As} {o : Oper} {a : Act} {Q : Exit → Act → World → Prop}
/-- make([]T, C), whatever T -/
theorem wpList_mkK {ops : Array Oper} {rest : List Oper} (H : Sep G w0 w L) (hgd : o.guard = none) (l c : Operand) (t : TypeId) (hop : o.op = Op.makeSlice t l c)
    (e : TypeId) (i : TypeInfo) (z : Value) (h1 : P.underlying t = some (.slice e)) (h2 : P.info? e = some i) (h3 : i.zero = some z) (cs : List Value)
    {kl kc : IntKind} {C : Nat} (hcs : madeCells z.cells (C * i.size) = cs.toArray) (hl : a.eval l = .int kl C) (hc : a.eval c = .int kc C) (hC2 : C ≤ 1000000000) (hb : i.bytes ≤ 1000)
    (hK : ∀ w', Sep G w0 w' (As.blk w.heap.size e cs :: L) → wpList P ops Q rest (a.put o.dst (.slice (some ⟨w.heap.size, 0, none⟩) C C)) w') : wpList P ops Q (o :: rest) a w := by
  refine wpList_plain hgd fun K hk => ?_
  have hbb : (i.bytes : Int) * (C : Int) ≤ 281474976710656 := by
    have := Int.mul_le_mul_of_nonneg_right (show (i.bytes : Int) ≤ 1000 by omega) (show (0 : Int) ≤ C by omega)
    omega
  have hr := run_make (P := P) w t e i z h1 h2 h3 kl kc C C (by omega) (Int.le_refl _) hbb (by omega)
  rw [Int.toNat_natCast, hcs] at hr
  unfold Oper.wp execOp
  simp only [hop, hl, hc, Sem.run_bind, hr, Result.andThen_ok, Sem.run_pure]
  exact hk _ _ (hK _ (H.newB ((Ext.refl w).alloc _) (Blk.new w e _) (Nat.le_refl _)))
end
end Go.Gr
namespace Go.Proofs.Yteecgieigjfjiaa
open Go.RowKit Go.Gr Go.Wl
set_option linter.unusedVariables false
set_option linter.unusedSimpArgs false
attribute [local go_sem] rdOp rdAt rdUpon Cls forall_fr
def i64s (l : List Int) : List Value := l.map fun x => .int .i64 x
theorem i64s_len (l : List Int) : (i64s l).length = l.length := by simp [i64s]
theorem i64s_get (l : List Int) {j : Nat} (h : j < l.length) : (i64s l)[j]? = some (.int .i64 l[j]) := by simp [i64s, h]
theorem i64s_one (l : List Int) : ∀ v ∈ i64s l, v.oneCell' = true := by
  intro v hv
  obtain ⟨x, _, rfl⟩ := List.mem_map.1 hv
  rfl
theorem infoR : (Try.prog.info? 66).map (fun i => (i.zero.map (·.cells), i.size, i.bytes)) = some (some (Rg.zero 0).cells.toArray, 67, 280) := by kernel_rfl
theorem infoR_parts : ∃ i z, Try.prog.info? 66 = some i ∧ i.zero = some z ∧ z.cells = (Rg.zero 0).cells.toArray ∧ i.size = 67 ∧ i.bytes = 280 := by
  have h := infoR
  cases hq : Try.prog.info? 66 with
  | none => rw [hq] at h; cases h
  | some i =>
    rw [hq] at h
    simp only [Option.map_some, Option.some.injEq, Prod.mk.injEq] at h
    obtain ⟨h1, h2, h3⟩ := h
    cases hz : i.zero with
    | none => rw [hz] at h1; cases h1
    | some z =>
      rw [hz] at h1
      exact ⟨i, z, rfl, hz, by simpa using h1, h2, h3⟩
theorem made_rows {cs : List Value} (hp : 0 < cs.length) (C : Nat) : madeCells cs.toArray (C * cs.length) = ((List.replicate C cs).flatten).toArray := by
  have hl : ∀ r ∈ List.replicate C cs, r.length = cs.length := fun r hr => by rw [List.eq_of_mem_replicate hr]
  have hfl : ((List.replicate C cs).flatten).length = C * cs.length := by rw [flatten_len hl, List.length_replicate]
  apply Array.ext
  · rw [size_madeCells, List.size_toArray, hfl]
  · intro i h1 h2
    rw [size_madeCells] at h1
    have hq : i / cs.length < C := (Nat.div_lt_iff_lt_mul hp).2 h1
    have hr : i % cs.length < cs.length := Nat.mod_lt _ hp
    have hg := flatten_get hl (i / cs.length) (i % cs.length) (by rw [List.getElem?_replicate, if_pos hq]) (List.getElem?_eq_getElem hr)
    rw [Nat.div_add_mod' i cs.length] at hg
    have e1 : (madeCells cs.toArray (C * cs.length))[i]'(by rw [size_madeCells]; exact h1) = cs[i % cs.length] := by
      unfold madeCells
      simp [getElem!_pos, hr]
    rw [e1]
    have e2 : ((List.replicate C cs).flatten)[i]? = some (((List.replicate C cs).flatten.toArray)[i]) := by
      rw [List.getElem?_eq_getElem (by rw [hfl]; exact h1)]; simp
    exact Option.some.inj (hg.symm.trans e2)
theorem ring_made (C : Nat) : madeCells (Rg.zero 0).cells.toArray (C * 67) = (cellsR (List.replicate C (Rg.zero 0))).toArray := by
  have := made_rows (cs := (Rg.zero 0).cells) (by decide) C
  rw [Rg.cells_len (by simp [Rg.zero])] at this
  rw [this]
  unfold cellsR
  rw [List.map_replicate]
/-- the rings when the first limits are laid -/
def newAt (l : List Int) (k : Nat) : List Rg := newR (l.take k) ++ List.replicate (l.length - k) (Rg.zero 0)
theorem newAt_zero (l : List Int) : newAt l 0 = List.replicate l.length (Rg.zero 0) := by simp [newAt, newR]
theorem newAt_end (l : List Int) : newAt l l.length = newR l := by simp [newAt]
theorem newAt_len {l : List Int} {k : Nat} (h : k ≤ l.length) : (newAt l k).length = l.length := by simp [newAt, newR]; omega
theorem newAt_lenR (l : List Int) (k : Nat) : LenR (newAt l k) := by
  intro r hr
  rcases List.mem_append.1 hr with h | h
  · obtain ⟨n, _, rfl⟩ := List.mem_map.1 h
    simp [Rg.zero]
  · rw [List.eq_of_mem_replicate h]
    simp [Rg.zero]
theorem newR_take {l : List Int} {k : Nat} (h : k ≤ l.length) : (newR (l.take k)).length = k := by simp [newR]; omega
theorem newAt_get {l : List Int} {k : Nat} (h : k < l.length) : (newAt l k)[k]? = some (Rg.zero 0) := by
  unfold newAt
  have hl := newR_take (Nat.le_of_lt h)
  rw [List.getElem?_append_right (by omega), hl, Nat.sub_self, List.getElem?_replicate, if_pos (by omega)]
theorem newAt_set {l : List Int} {k : Nat} (h : k < l.length) : (newAt l k).set k (Rg.zero l[k].toNat) = newAt l (k + 1) := by
  unfold newAt
  have hl := newR_take (Nat.le_of_lt h)
  rw [List.set_append_right _ _ (by omega), hl, Nat.sub_self, show l.length - k = (l.length - (k + 1)) + 1 by omega, List.replicate_succ, List.set_cons_zero, List.take_succ_eq_append_getElem h]
  unfold newR
  rw [List.map_append, List.append_assoc]
  rfl
theorem limE_bad {l : List Int} {k : Nat} (h1 : ¬ l.length < 1) (h2 : ¬ 8 < l.length) (hk : k < l.length) (h : ¬ (0 ≤ l[k] ∧ l[k] ≤ 64)) : limE l = 7 := by
  unfold limE
  rw [if_neg (by omega), if_neg (fun hh => h (hh _ (List.getElem_mem hk)))]
theorem limE_good {l : List Int} (h1 : ¬ l.length < 1) (h2 : ¬ 8 < l.length) (h : ∀ j (hj : j < l.length), 0 ≤ l[j] ∧ l[j] ≤ 64) : limE l = 0 := by
  unfold limE
  rw [if_neg (by omega), if_pos (fun x hx => by
    obtain ⟨j, hj, rfl⟩ := List.getElem_of_mem hx
    exact h j hj)]
set_option maxRecDepth 100000 in
set_option maxHeartbeats 1000000 in
theorem new_any (l : List Int) (A : Option Addr) (c : Nat) (w : World) (hr : Rd w A (i64s l)) (hlm : l.length ≤ 100000) :
    Calls Try.prog 10 #[.slice A l.length c] w fun e w' => (limE l = 0 → ∃ g gr, e = .returned (.tuple #[pt g, .int .i64 0]) ∧ Sep No w w' [AsLs g gr (newS l)]) ∧ (limE l ≠ 0 → e = .returned (.tuple #[.pointer none, .int .i64 (limE l)]) ∧ Ext w w') := by
  by_cases h1 : l.length < 1
  · have HE : Hid (limE l = 3) := hide (by unfold limE; rw [if_pos (.inl h1)])
    have d1 : ((l.length : Int) == 0) = true := by rw [show l.length = 0 by omega]; rfl
    clear h1 hr
    go_enter Try.func10, Try.ntmps10
    go_wp2_with fail
    go_ret2
    exact ⟨fun h => absurd h (by rw [HE.out]; decide), fun _ => ⟨by rw [HE.out]; rfl, Ext.refl _⟩⟩
  · have d1 : ((l.length : Int) == 0) = false := beq_eq_false_iff_ne.2 (by omega)
    by_cases h2 : 8 < l.length
    · have HE : Hid (limE l = 3) := hide (by unfold limE; rw [if_pos (.inr h2)])
      have d2 : (8 : Int) < (l.length : Int) := by omega
      clear h1 h2 hr
      go_enter Try.func10, Try.ntmps10
      go_wp2_with fail
      go_ret2
      exact ⟨fun h => absurd h (by rw [HE.out]; decide), fun _ => ⟨by rw [HE.out]; rfl, Ext.refl _⟩⟩
    · have d2 : ¬ (8 : Int) < (l.length : Int) := by omega
      have HR := hide hr
      clear hr
      obtain ⟨i0, z0, hi, hz, hzc, hsz, hby⟩ := infoR_parts
      have hmk : madeCells z0.cells (l.length * i0.size) = (cellsR (newAt l 0)).toArray := by rw [hzc, hsz, newAt_zero]; exact ring_made _
      have tok : True := trivial
      go_enter Try.func10, Try.ntmps10
      go_upto_region 4 with (have zz := tok; clear zz tok; refine wpList_mkK (Sep.refl No w) rfl (.tmp 16) (.tmp 16) 54 rfl 66 i0 z0 Try.underlying54 hi hz (cellsR (newAt l 0)) hmk rfl rfl (by omega) (by rw [hby]; decide) ?_; intro w1 H1)
      obtain ⟨gr, hgr⟩ : ∃ g, w.heap.size = g := ⟨_, rfl⟩
      rw [hgr] at H1 ⊢
      have hlt1 := (H1.blk (g := gr) (e := 66) (List.Mem.head _)).lt
      have H2 := Sep.add H1 56 [.slice (some ⟨gr, 0, none⟩) l.length l.length]
      obtain ⟨g, hg⟩ : ∃ g, w1.heap.size = g := ⟨_, rfl⟩
      rw [hg] at H2 ⊢
      have hne : gr < g := by rw [← hg]; exact hlt1
      have K2 := hide H2
      clear H1 H2 hgr hg hlt1 hmk hi hz hzc
      go_wp2_with fail
      go_loopw [22] (fun v wr => ∃ k : Nat, v = .int .i64 k ∧ k ≤ l.length ∧ (∀ j (hj : j < l.length), j < k → 0 ≤ l[j] ∧ l[j] ≤ 64) ∧ Hid (Sep No w wr [As.blk g 56 [.slice (some ⟨gr, 0, none⟩) l.length l.length], As.blk gr 66 (cellsR (newAt l k))])) (fun v _ => l.length - (intOf v).toNat)
      case atStart => exact ⟨0, rfl, by omega, fun j hj h => by omega, K2⟩
      case round =>
        obtain ⟨k, rfl, hk, hgood, HK⟩ := hrel
        clear K2
        have HG := hide hgood
        clear hgood
        by_cases hlt : k < l.length
        · have hlti : (k : Int) < (l.length : Int) := by omega
          obtain ⟨ad, rfl, c1⟩ := (HK.out.rdN HR.out).at_ (k := k) (by rw [i64s_len]; exact hlt)
          rw [show (i64s l)[k]'(by rw [i64s_len]; exact hlt) = .int .i64 l[k] by simp [i64s]] at c1
          obtain ⟨x, HX⟩ : ∃ x, Hid (l[k] = x) := ⟨_, hide rfl⟩
          rw [HX.out] at c1
          have hB := HK.out.blk (g := g) (e := 56) (List.Mem.head _)
          have c0 : wr.cell? ⟨g, 0, none⟩ = some (.slice (some ⟨gr, 0, none⟩) l.length l.length) := hB.cell 0
          have hgl := hB.lt
          clear hB
          by_cases hx0 : x < 0
          · have HE : Hid (limE l = 7) := hide (limE_bad h1 h2 hlt (by rw [HX.out]; omega))
            go_wp2_with fail
            go_ret2
            exact ⟨fun h => absurd h (by rw [HE.out]; decide), fun _ => ⟨by rw [HE.out]; rfl, HK.out.toExt⟩⟩
          · by_cases hx1 : 64 < x
            · have HE : Hid (limE l = 7) := hide (limE_bad h1 h2 hlt (by rw [HX.out]; omega))
              go_wp2_with fail
              go_ret2
              exact ⟨fun h => absurd h (by rw [HE.out]; decide), fun _ => ⟨by rw [HE.out]; rfl, HK.out.toExt⟩⟩
            · have HS : Hid ((cellsR (newAt l k)).set (k * 67) (.int .i64 x) = cellsR (newAt l (k + 1))) := hide (by
                have hxn : x = ((l[k].toNat : Nat) : Int) := by rw [HX.out]; omega
                rw [hxn, cellsR_set_lim (newAt_lenR l k) (newAt_get hlt), ← newAt_set hlt]
                rfl)
              have HG2 : Hid (∀ j (hj : j < l.length), j < k + 1 → 0 ≤ l[j] ∧ l[j] ≤ 64) := hide (fun j hj h => by
                rcases Nat.lt_or_ge j k with h' | h'
                · exact HG.out j hj h'
                · obtain rfl : j = k := by omega
                  rw [HX.out]; omega)
              have HLN : Hid (k * 67 < (cellsR (newAt l k)).length) := hide (by rw [cellsR_len (newAt_lenR l k), newAt_len hk]; omega)
              have tok : True := trivial
              go_wp2_with (have zz := tok; clear zz tok; refine wpList_st1S [_] HK.out rfl 3 (.tmp 40) (.tmp 38) rfl (v := .int .i64 x) rfl rfl (by kernel_rfl) HLN.out rfl ?_; intro w4 H4; dsimp only [List.nil_append, List.cons_append] at H4; rw [HS.out] at H4; have K4 := hide H4; clear H4)
              go_roundw
              case rel => exact ⟨k + 1, by go_num, by omega, HG2.out, K4⟩
              case measure => simp [intOf]; omega
        · obtain rfl : k = l.length := by omega
          have HE : Hid (limE l = 0) := hide (limE_good h1 h2 (fun j hj => HG.out j hj hj))
          have KF : Hid (Sep No w wr [AsLs g gr (newS l)]) := hide (by
            have H := HK.out
            rw [newAt_end] at H
            refine H.merge (C := AsLs g gr (newS l)) (fun ha hb => ⟨newR l, ⟨?_, hb, newR_ok HE.out, by rw [stR_newR]; exact newS_ok HE.out, by omega⟩, stR_newR l⟩) (fun i hi => ?_)
            · have e : (newR l).length = l.length := by simp [newR]
              rw [e]; exact ha
            · rcases hi with rfl | rfl
              · exact .inl rfl
              · exact .inr rfl)
          go_wp2_with fail
          go_ret2
          exact ⟨fun _ => ⟨g, gr, rfl, KF.out⟩, fun h => absurd HE.out h⟩
end Go.Proofs.Yteecgieigjfjiaa
