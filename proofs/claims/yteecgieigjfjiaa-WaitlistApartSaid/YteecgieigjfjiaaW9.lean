/- Lists of waiters: all waiters of a ring. -/
import Derived.Laws.Small
import Derived.Test.YteecgieigjfjiaaW8
namespace Go.Proofs.Yteecgieigjfjiaa
open Go.RowKit Go.Gr Go.Wl
set_option linter.unusedVariables false
set_option linter.unusedSimpArgs false
attribute [local go_sem] rdOp rdAt rdUpon Cls forall_fr
theorem info32 : (Try.prog.info? 23).map (fun i => (i.zero, i.size, i.bytes)) = some (some (.int .u32 0), 1, 4) := by kernel_rfl
theorem Ring.rdOwn {w : World} {gr off s : Nat} {R : List Rg} {r : Rg} (h : Ring w gr off s R r) (a n : Nat) : Rd w (some ⟨gr, off + 1 + a, none⟩) (u32s ((r.own.drop a).take n)) := by
  intro j u hu
  refine ⟨_, rfl, ?_⟩
  have hadd : (⟨gr, off + 1 + a, none⟩ : Addr).add j = ⟨gr, off + 1 + (a + j), none⟩ := by unfold Addr.add; split <;> simp_all <;> omega
  rw [hadd]
  unfold u32s at hu
  rw [List.getElem?_map, List.getElem?_take] at hu
  split at hu
  · rw [List.getElem?_drop] at hu
    rcases he : r.own[a + j]? with _ | x
    · rw [he] at hu; cases hu
    · rw [he] at hu
      cases hu
      have hlt : a + j < 64 := by rw [← h.own64]; exact (List.getElem?_eq_some_iff.1 he).1
      rw [h.own hlt, List.getD_eq_getElem?_getD, he]; rfl
  · cases hu
theorem splice2 {A B : List Value} {n m : Nat} (z : Value) (hA : A.length = n) (hB : B.length = m - n) (hn : n ≤ m) : splice (splice (List.replicate m z) 0 A) n B = A ++ B := by
  subst hA
  have e : splice (List.replicate m z) 0 A = A ++ List.replicate (m - A.length) z := by
    unfold splice
    rw [List.take_zero, List.nil_append, Nat.zero_add, List.drop_replicate]
  rw [e]
  unfold splice
  rw [List.take_left, hB, List.drop_append, List.drop_eq_nil_of_le (by omega), List.drop_replicate, show m - A.length - (A.length + (m - A.length) - A.length) = 0 by omega]
  simp
theorem two_copies {r : Rg} (h : r.ok) {m : Nat} (hm : m = min (r.first + r.many) 64) :
    splice (splice (List.replicate r.many (Value.int .u32 0)) 0 ((u32s ((r.own.drop r.first).take (m - r.first))).take (m - r.first))) (m - r.first) ((u32s ((r.own.drop 0).take 64)).take (r.many - (m - r.first))) = u32s r.ws := by
  have hf := h.fst
  have hl := h.len
  have h64 := Nat.le_trans h.mny h.lim
  subst hm
  rw [Rg.ws_parts h, u32s_append]
  generalize hn : min (r.first + r.many) 64 - r.first = n1
  have e1 : (u32s ((r.own.drop r.first).take n1)).length = n1 := by rw [u32s_len, List.length_take, List.length_drop, hl]; omega
  have e3 : (u32s (r.own.take (r.many - n1))).length = r.many - n1 := by rw [u32s_len, List.length_take, hl]; omega
  have e2 : (u32s ((r.own.drop 0).take 64)).take (r.many - n1) = u32s (r.own.take (r.many - n1)) := by
    rw [u32s_take, List.drop_zero, List.take_take]
    congr 2; omega
  rw [List.take_of_length_le (Nat.le_of_eq e1), e2]
  exact splice2 _ e1 e3 (by omega)
set_option maxRecDepth 100000 in
set_option maxHeartbeats 1000000 in
theorem all_any {w : World} {gr off s : Nat} {R : List Rg} {r : Rg} (h : Ring w gr off s R r) : Calls Try.prog 28 #[.pointer (some ⟨gr, off, none⟩)] w fun e w' => ∃ v, e = .returned v ∧ Sep No w w' [As.own 23 v (u32s r.ws)] := by
  obtain ⟨i0, hi, hz0, hz1, hz2⟩ := info_parts info32
  have hlt := h.B.lt
  have hm64 := h.many64
  have c1 := h.many
  by_cases h0 : r.many = 0
  · have HW : Hid (r.ws = []) := hide (by rw [← List.length_eq_zero_iff, r.ws_length, h0])
    have hd : ((r.many : Int) == 0) = true := by rw [h0]; rfl
    clear h
    go_enter Try.func28, Try.ntmps28
    go_wp2_with fail
    go_ret
    exact ⟨_, rfl, by rw [HW.out]; exact (Sep.refl No w).nilO 23⟩
  · have hd : ((r.many : Int) == 0) = false := beq_eq_false_iff_ne.2 (by omega)
    have hok := h.ok
    have hf := hok.fst
    obtain ⟨M, hM⟩ : ∃ M, M = min (r.first + r.many) 64 := ⟨_, rfl⟩
    have hmin : (if (64 : Int) < (r.first : Int) + (r.many : Int) then (64 : Int) else (r.first : Int) + (r.many : Int)) = (M : Int) := by split <;> omega
    have hw : IntKind.i64.wrap ((r.first : Int) + (r.many : Int)) = (r.first : Int) + (r.many : Int) := IntWalk.i64_in _ (by omega)
    have HTC := hide (two_copies hok hM)
    have H := hide h
    have hfM : (r.first : Int) ≤ (M : Int) := by omega
    have hne64 : ¬ 64 = r.first := by omega
    have hM64 : (M : Int) ≤ 64 := by omega
    have HM := hide hM
    clear h hM
    have tok : True := trivial
    go_enter Try.func28, Try.ntmps28
    go_upto_region 4 with (have zz := tok; clear zz tok; refine wpList_mkG (Sep.refl No w) rfl (.tmp 13) (.tmp 13) 39 rfl 23 i0 (.int .u32 0) 4 Try.underlying39 hi hz0 hz1 hz2 rfl rfl rfl (by omega) (by decide) ?_; intro w1 H1)
    obtain ⟨g, hg⟩ : ∃ g, w.heap.size = g := ⟨_, rfl⟩
    rw [hg] at H1 ⊢
    clear c1 hlt hg
    refine wp_region_wtR (RT.fr No) 19 [0, 1, 2, 3, 4, 5, 6, 7, 8, 9, 10, 11, 12, 13, 14, 15, 16, 17, 18] (by kernel_rfl) (by kernel_rfl) (by kernel_rfl) ?_
    have H2 := H1.drew
    clear H1
    generalize w1.drew = wd at *
    have HR := hide (H.out.ext H2.toExt)
    have c1 := HR.out.many
    have c2 := HR.out.first
    have hlt := HR.out.B.lt
    iterate 7 (refine wr_rd rfl rfl (fun K hK => ?_); go_simp; refine hK _ ?_; clear hK K)
    refine wr_ld1 rfl rfl 3 (.tmp 21) rfl rfl (fun w' h => Fr.cell h c2 (fun h => h)) _ Try.underlying3 rfl ?_
    iterate 3 (refine wr_rd rfl rfl (fun K hK => ?_); go_simp; refine hK _ ?_; clear hK K)
    refine wr_ld1 rfl rfl 3 (.tmp 25) rfl rfl (fun w' h => Fr.cell h c2 (fun h => h)) _ Try.underlying3 rfl ?_
    iterate 3 (refine wr_rd rfl rfl (fun K hK => ?_); go_simp; refine hK _ ?_; clear hK K)
    refine wr_ld1 rfl rfl 3 (.tmp 29) rfl rfl (fun w' h => Fr.cell h c1 (fun h => h)) _ Try.underlying3 rfl ?_
    iterate 3 (refine wr_rd rfl rfl (fun K hK => ?_); go_simp; refine hK _ ?_; clear hK K)
    refine wr_nil ?_
    simp only [List.drop_succ_cons, List.drop_zero]
    have hsrc := HR.out.rdOwn r.first (M - r.first)
    refine wpList_cpG [] H2 rfl (.tmp 15) (.tmp 33) 39 39 rfl 23 Try.underlying39 (by kernel_rfl) rfl rfl hsrc (by rw [u32s_len, List.length_take, List.length_drop, HR.out.own64]; have := HM.out; omega) (M - r.first) (by have := HM.out; show _ = min _ _; omega) (by rw [List.length_replicate]; have := HM.out; omega) (u32s_one _) ?_
    intro w3 H3
    dsimp only [List.nil_append] at H3
    clear H2 hsrc c1 c2 hlt
    go_wp2_with fail
    refine NoPanic.normal ?_
    have hn1 : (M - r.first : Nat) ≤ r.many := by have := HM.out; omega
    obtain ⟨n1, hN1⟩ : ∃ n, M - r.first = n := ⟨_, rfl⟩
    rw [hN1] at H3 HTC hn1
    simp only [hN1]
    have hn1i : (n1 : Int) ≤ (r.many : Int) := by omega
    clear hN1 HR
    have hlen : (splice (List.replicate r.many (Value.int .u32 0)) 0 ((u32s ((r.own.drop r.first).take n1)).take n1)).length = r.many := by
      have e1 : ((u32s ((r.own.drop r.first).take n1)).take n1).length ≤ n1 := by rw [List.length_take]; exact Nat.min_le_left _ _
      unfold splice
      simp only [List.take_zero, List.nil_append, Nat.zero_add, List.length_append, List.length_drop, List.length_replicate]
      omega
    have HLN := hide hlen
    clear hlen
    go_upto_region 5 with fail
    refine wp_region_wtR (RT.fr No) 7 [0, 1, 2, 3, 4, 5, 6] (by kernel_rfl) (by kernel_rfl) (by kernel_rfl) ?_
    have H4 := H3.drew
    clear H3
    generalize w3.drew = we at *
    have HR := hide (H.out.ext H4.toExt)
    have hlt := HR.out.B.lt
    have hgl := (H4.blk (g := g) (e := 23) (List.Mem.head _)).lt
    have hsrc : Rd we (some ⟨gr, off + 1, none⟩) (u32s ((r.own.drop 0).take 64)) := HR.out.rdOwn 0 64
    have hsl64 : (u32s ((r.own.drop 0).take 64)).length = 64 := by rw [u32s_len, List.length_take, List.length_drop, HR.out.own64]; rfl
    have HSR := hide (And.intro hsrc hsl64)
    clear hsrc hsl64 HR
    by_cases hnm : r.many = n1
    · have HNM : Hid (n1 = r.many) := hide hnm.symm
      iterate 7 (refine wr_rd rfl rfl (fun K hK => ?_); go_simp; refine hK _ ?_; clear hK K)
      refine wr_nil ?_
      simp only [List.drop_succ_cons, List.drop_zero]
      refine wpList_cpG [] H4 rfl (.tmp 37) (.tmp 41) 39 39 rfl 23 Try.underlying39 (by kernel_rfl) (off := 0) rfl rfl HSR.out.1 HSR.out.2 0 (by show _ = min _ _; omega) (by omega) (u32s_one _) ?_
      intro w5 H5
      dsimp only [List.nil_append] at H5
      have HE : Hid (∀ B : List Value, splice (splice (List.replicate r.many (Value.int .u32 0)) 0 ((u32s ((r.own.drop r.first).take n1)).take n1)) 0 (B.take 0) = splice (splice (List.replicate r.many (Value.int .u32 0)) 0 ((u32s ((r.own.drop r.first).take n1)).take n1)) n1 (B.take (r.many - n1))) := hide (fun B => by
        rw [show r.many - n1 = 0 by have := HNM.out; omega]
        unfold splice
        simp)
      rw [HE.out, HTC.out] at H5
      have K5 := hide (Sep.toOwn [] H5 (by rw [u32s_len, r.ws_length]; omega))
      clear H4 H5 HSR
      refine NoPanic.normal ?_
      go_wp2_with fail
      go_ret
      refine ⟨_, rfl, ?_⟩
      have K6 := K5.out
      dsimp only [List.nil_append] at K6
      rw [u32s_len, r.ws_length, ← HNM.out] at K6
      exact K6
    · iterate 7 (refine wr_rd rfl rfl (fun K hK => ?_); go_simp; refine hK _ ?_; clear hK K)
      refine wr_nil ?_
      simp only [List.drop_succ_cons, List.drop_zero]
      refine wpList_cpG [] H4 rfl (.tmp 37) (.tmp 41) 39 39 rfl 23 Try.underlying39 (by kernel_rfl) (off := n1) rfl rfl HSR.out.1 HSR.out.2 (r.many - n1) (by show _ = min _ _; omega) (by rw [HLN.out]; omega) (u32s_one _) ?_
      intro w5 H5
      dsimp only [List.nil_append] at H5
      rw [HTC.out] at H5
      have K5 := hide (Sep.toOwn [] H5 (by rw [u32s_len, r.ws_length]; omega))
      clear H4 H5 HSR
      refine NoPanic.normal ?_
      go_wp2_with fail
      go_ret
      refine ⟨_, rfl, ?_⟩
      have K6 := K5.out
      dsimp only [List.nil_append] at K6
      rw [u32s_len, r.ws_length] at K6
      exact K6
end Go.Proofs.Yteecgieigjfjiaa
