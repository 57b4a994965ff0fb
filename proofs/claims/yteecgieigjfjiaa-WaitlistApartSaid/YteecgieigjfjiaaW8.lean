/- Lists of waiters: a waiter is taken out of a ring; all waiters of a ring. -/
import Derived.Test.YteecgieigjfjiaaW7
namespace Go.Proofs.Yteecgieigjfjiaa
open Go.RowKit Go.Gr Go.Wl
set_option linter.unusedVariables false
set_option linter.unusedSimpArgs false
attribute [local go_sem] rdOp rdAt rdUpon Cls forall_fr
/-- the ring when n waiters have moved up -/
def shR (r : Rg) (i n : Nat) : Rg := { r with own := r.sh i n }
theorem shR_ok {r : Rg} (h : r.ok) (i n : Nat) : (shR r i n).ok := ⟨by unfold shR; simp only; rw [Rg.sh_length, h.len], h.fst, h.mny, h.lim, Rg.sh_rng h i n⟩
theorem shR_at (r : Rg) (i n j : Nat) : (shR r i n).at_ j = r.at_ j := rfl
theorem shR_step {gr off s : Nat} {w : World} {R : List Rg} {r : Rg} {i n : Nat} (h : Ring w gr off s (R.set s (shR r i n)) (shR r i n)) : (cellsR (R.set s (shR r i n))).set (off + 1 + r.at_ (i + n)) (.int .u32 ((shR r i n).own.getD (r.at_ (i + n + 1)) 0)) = cellsR (R.set s (shR r i (n + 1))) := by
  have hs := (List.getElem?_eq_some_iff.1 h.S).1
  rw [h.O, Nat.add_assoc, cellsR_set_own h.L h.S (r.at_lt _), List.set_set]
  rfl
theorem ring_set {gr off s : Nat} {w w' : World} {R : List Rg} {r r' : Rg} (h : Ring w gr off s R r) (hB : Blk w' gr 66 (cellsR (R.set s r'))) (hok : r'.ok) : Ring w' gr off s (R.set s r') r' :=
  ⟨hB, h.L.set s hok.len, List.getElem?_set_self (List.getElem?_eq_some_iff.1 h.S).1, h.O, hok⟩
theorem set_same {R : List Rg} {s : Nat} {r : Rg} (h : R[s]? = some r) : R.set s r = R := by
  apply List.ext_getElem?
  intro j
  by_cases e : s = j
  · subst e
    rw [List.getElem?_set_self (List.getElem?_eq_some_iff.1 h).1, h]
  · rw [List.getElem?_set_ne e]
set_option maxRecDepth 100000 in
set_option maxHeartbeats 1000000 in
theorem drop_any {w : World} {gr off s : Nat} {R : List Rg} {r : Rg} (h : Ring w gr off s R r) (i : Nat) (hi : i < r.many) : Calls Try.prog 27 #[.pointer (some ⟨gr, off, none⟩), .int .i64 i] w fun e w' => e = .returned (.tuple #[]) ∧ Blk w' gr 66 (cellsR (R.set s (r.drop i))) ∧ Upd gr w w' := by
  have hlt := h.B.lt
  have hm64 := h.many64
  have hsl := h.slt
  have HS := Sep.start (A := As.blk gr 66 (cellsR R)) h.B
  have hs := (List.getElem?_eq_some_iff.1 h.S).1
  by_cases h0 : i = 0
  · subst h0
    have H := hide h
    have c1 := h.many
    have HP : Hid (((cellsR R).set (off + 65) (.int .i64 ((r.at_ 1 : Nat) : Int))).set (off + 66) (.int .i64 ((r.many : Int) - 1)) = cellsR (R.set s (r.drop 0))) := hide (by
      rw [h.O, cellsR_set_first h.L h.S, show (r.many : Int) - 1 = ((r.many - 1 : Nat) : Int) by omega,
        cellsR_set_many (h.L.set s (by simp [h.own64])) (List.getElem?_set_self hs), List.set_set]
      rfl)
    have HM : Hid (∀ w' : World, w'.cell? ⟨gr, off + 66, none⟩ = ((cellsR R).set (off + 65) (.int .i64 ((r.at_ 1 : Nat) : Int)))[off + 66]? → w'.cell? ⟨gr, off + 66, none⟩ = some (.int .i64 r.many)) := hide (fun w' e => by
      rw [e, List.getElem?_set_ne (by omega), ← h.B.cell]; exact h.many)
    have HAT := hide (at_any H.out 1 (by omega))
    rw [show ((1 : Nat) : Int) = 1 from rfl] at HAT
    clear h
    go_enter Try.func27, Try.ntmps27
    go_wp2_with fail
    (with_reducible refine HAT.out.mono ?_)
    rintro e w2 ⟨rfl, rfl⟩
    have tok : True := trivial
    go_wp2_with (have zz := tok; clear zz tok; refine wpList_st1S [] HS rfl 3 (.tmp 11) (.tmp 9) rfl (v := .int .i64 ((r.at_ 1 : Nat) : Int)) rfl rfl (by kernel_rfl) (by omega) rfl ?_; intro w3 H3; dsimp only [List.nil_append] at H3; clear HS)
    have K3 := hide H3
    clear H3
    go_loopw [4] (fun i wr => i = .int .i64 0 ∧ Hid (Sep (As.blk gr 66 (cellsR R)).fp w wr [As.blk gr 66 ((cellsR R).set (off + 65) (.int .i64 ((r.at_ 1 : Nat) : Int)))])) (fun i _ => 0)
    case atStart => exact ⟨rfl, K3⟩
    case round =>
      obtain ⟨rfl, HK⟩ := hrel
      clear K3
      have hB3 := HK.out.blk (g := gr) (e := 66) (List.Mem.head _)
      have c3 := HM.out wr (hB3.cell (off + 66))
      have hlt3 := hB3.lt
      have hwm : IntKind.i64.wrap ((r.many : Int) - 1) = (r.many : Int) - 1 := IntWalk.i64_in _ (by omega)
      have tok : True := trivial
      go_wp2_with (have zz := tok; clear zz tok; refine wpList_st1S [] HK.out rfl 3 (.tmp 48) (.tmp 46) rfl (v := .int .i64 ((r.many : Int) - 1)) rfl rfl (by kernel_rfl) (by rw [List.length_set]; omega) rfl ?_; intro w4 H4; dsimp only [List.nil_append] at H4; have K4 := hide H4; clear H4)
      go_end0
      have H4 := K4.out
      rw [HP.out] at H4
      exact ⟨rfl, H4.blk (List.Mem.head _), H4.toUpd⟩
  · have d0 : ¬ (i : Int) = 0 := by omega
    have e0 : ((i : Int) == 0) = false := beq_eq_false_iff_ne.2 d0
    have hok := h.ok
    have H := hide h
    have HSET : Hid (R.set s (shR r i 0) = R) := hide (set_same h.S)
    rw [← HSET.out] at HS
    have K0 := hide HS
    have HP : Hid (Sep (As.blk gr 66 (cellsR (R.set s (shR r i 0)))).fp w w [As.blk gr 66 (cellsR (R.set s (shR r i 0)))]) := K0
    have HE : Hid (∀ n, n = r.many - 1 - i → (cellsR (R.set s (shR r i n))).set (off + 66) (.int .i64 ((r.many : Int) - 1)) = cellsR (R.set s (r.drop i))) := hide (fun n hn => by
      subst hn
      rw [h.O, show (r.many : Int) - 1 = ((r.many - 1 : Nat) : Int) by omega, cellsR_set_many (h.L.set s (shR_ok hok _ _).len) (List.getElem?_set_self hs), List.set_set]
      unfold Rg.drop
      rw [if_neg h0]
      rfl)
    have HRG : Hid (∀ (w' : World) (n : Nat), Blk w' gr 66 (cellsR (R.set s (shR r i n))) → Ring w' gr off s (R.set s (shR r i n)) (shR r i n)) := hide (fun w' n hB => ring_set h hB (shR_ok hok i n))
    clear h HS HP
    go_enter Try.func27, Try.ntmps27
    go_wp2_with fail
    go_loopw [4] (fun v wr => ∃ n : Nat, v = .int .i64 ((i : Int) + n) ∧ n ≤ r.many - 1 - i ∧ Hid (Sep (As.blk gr 66 (cellsR (R.set s (shR r i 0)))).fp w wr [As.blk gr 66 (cellsR (R.set s (shR r i n)))])) (fun v _ => r.many - (intOf v).toNat)
    case atStart => exact ⟨0, by simp, by omega, K0⟩
    case round =>
      obtain ⟨n, rfl, hn, HK⟩ := hrel
      clear K0
      have hB3 := HK.out.blk (g := gr) (e := 66) (List.Mem.head _)
      have c3 := (HRG.out wr n hB3).many
      have c3' : wr.cell? ⟨gr, off + 66, none⟩ = some (.int .i64 r.many) := c3
      have hlt3 := hB3.lt
      have hpos : (0 : Int) < (i : Int) + (n : Int) := by omega
      have hw1 : IntKind.i64.wrap ((i : Int) + (n : Int) + 1) = (i : Int) + (n : Int) + 1 := IntWalk.i64_in _ (by omega)
      clear c3
      by_cases hlt : i + n + 1 < r.many
      · have hlti : (i : Int) + (n : Int) + 1 < (r.many : Int) := by omega
        have HR := hide ((HRG.out wr n hB3).ext ((Ext.refl wr).drew))
        have H1 := HK.out.drew
        have hat1 := r.at_lt (i + n)
        have hat2 := r.at_lt (i + n + 1)
        have hat1i : ((r.at_ (i + n) : Nat) : Int) < 64 := by omega
        have hat2i : ((r.at_ (i + n + 1) : Nat) : Int) < 64 := by omega
        have HAT1 := hide (at_any HR.out (i + n) (by omega))
        have HAT2 := hide (at_any HR.out (i + n + 1) (by omega))
        rw [shR_at, show ((i + n : Nat) : Int) = (i : Int) + (n : Int) by omega] at HAT1
        rw [shR_at, show ((i + n + 1 : Nat) : Int) = (i : Int) + (n : Int) + 1 by omega] at HAT2
        have c1 := HR.out.own hat2
        obtain ⟨x, HX⟩ : ∃ x, Hid ((shR r i n).own.getD (r.at_ (i + n + 1)) 0 = x) := ⟨_, hide rfl⟩
        have HST := hide (shR_step HR.out)
        rw [HX.out] at c1 HST
        have hlt4 := HR.out.B.lt
        have hsl4 := HR.out.slt
        clear hB3
        go_upto_region 5 with fail
        refine wp_region_wtR (RT.fr No) 16 [0, 1, 2, 4, 5, 6, 7, 9, 10, 13, 14, 3, 8, 11, 12, 15] (by kernel_rfl) (by kernel_rfl) (by kernel_rfl) ?_
        clear HK c3' hlt3
        generalize wr.drew = wd at *
        iterate 11 (refine wr_rd rfl rfl (fun K hK => ?_); go_simp; refine hK _ ?_; clear hK K)
        refine wr_ext rfl rfl (fun K hK => ?_)
        go_simp
        go_at_call 38
        (with_reducible refine HAT1.out.mono ?_)
        rintro e w2 ⟨rfl, rfl⟩
        refine hK _ _ (Fr.refl _ _) ?_
        clear hK K
        refine wr_ext rfl rfl (fun K hK => ?_)
        go_simp
        go_at_call 38
        (with_reducible refine HAT2.out.mono ?_)
        rintro e w2 ⟨rfl, rfl⟩
        refine hK _ _ (Fr.refl _ _) ?_
        clear hK K
        iterate 1 (refine wr_rd rfl rfl (fun K hK => ?_); go_simp; refine hK _ ?_; clear hK K)
        refine wr_ld1 rfl rfl 23 (.tmp 37) rfl rfl (fun w' h => Fr.cell h c1 (fun h => h)) _ Try.underlying23 rfl ?_
        iterate 1 (refine wr_rd rfl rfl (fun K hK => ?_); go_simp; refine hK _ ?_; clear hK K)
        refine wr_nil ?_
        simp only [List.drop_succ_cons, List.drop_zero]
        refine wpList_st1S [] H1 rfl 23 (.tmp 41) (.tmp 38) rfl (v := .int .u32 x) rfl rfl (by kernel_rfl) (by omega) rfl ?_
        intro w5 H5
        dsimp only [List.nil_append] at H5
        rw [HST.out] at H5
        have K5 := hide H5
        clear H1 H5 c1 HR HAT1 HAT2 HST HX
        refine NoPanic.normal ?_
        go_wp2_with fail
        go_roundw
        case rel => exact ⟨n + 1, by go_num, by omega, K5⟩
        case measure => simp [intOf]; omega
      · have hlti : ¬ (i : Int) + (n : Int) + 1 < (r.many : Int) := by omega
        have hwm : IntKind.i64.wrap ((r.many : Int) - 1) = (r.many : Int) - 1 := IntWalk.i64_in _ (by omega)
        have hsl4 := (HRG.out wr n hB3).slt
        have tok : True := trivial
        clear hB3
        go_wp2_with (have zz := tok; clear zz tok; refine wpList_st1S [] HK.out rfl 3 (.tmp 48) (.tmp 46) rfl (v := .int .i64 ((r.many : Int) - 1)) rfl rfl (by kernel_rfl) (by omega) rfl ?_; intro w4 H4; dsimp only [List.nil_append] at H4; have K4 := hide H4; clear H4)
        go_end0
        have H4 := K4.out
        rw [HE.out n (by omega)] at H4
        exact ⟨rfl, H4.blk (List.Mem.head _), H4.toUpd⟩
end Go.Proofs.Yteecgieigjfjiaa
