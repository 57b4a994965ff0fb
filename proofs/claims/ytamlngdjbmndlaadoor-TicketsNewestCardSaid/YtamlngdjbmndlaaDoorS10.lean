/- The walk of Write. -/
import Derived.Test.YtamlngdjbmndlaaDoorS9
namespace Go.Proofs.YtamlngdjbmndlaaDoor
open Go.RowKit Go.Gr
set_option linter.unusedVariables false
attribute [local go_sem] rdOp rdAt rdUpon Cls
theorem sub_isB {b t : List Int} {j k : Nat} (hb : isB b) (ht : (b.drop j).take k = t) : isB t := fun x hx => hb x (by rw [← ht] at hx; exact List.mem_of_mem_drop (List.mem_of_mem_take hx))
theorem write_some {w2 : World} {g : Nat} {l b L rest t : List Int} {j k m N : Nat} (hB : Blk w2 g 123 (hcells (stOf L) (splice rest m t) N)) (h64 : rest.length = 64) (hrb : isB rest) (hp : rest.take (L.length % 64) = L.drop (64 * (L.length / 64)))
    (hL : l ++ b.take j = L) (hN : L.length = N) (hm : N % 64 = m) (ht : (b.drop j).take k = t) (htl : t.length = k) (hb : isB b) (hmk : m + k < 64) : HashAt (w2.setCell ⟨g, 72, none⟩ (.int .i64 ((N : Int) + k))) g (l ++ b.take (j + k)) := by
  have e : l ++ b.take (j + k) = L ++ t := by rw [← hL, ← ht, List.append_assoc, drop_take]
  have hm' : L.length % 64 = m := by rw [hN]; exact hm
  have hf := fill_some h64 hp (t := t) (by omega)
  rw [hm'] at hf
  have hl64 : (splice rest m t).length = 64 := by rw [splice_len _ _ _ (by omega)]; exact h64
  rw [e]
  refine ⟨splice rest m t, hl64, splice_isB m hrb (fun x hx => hb x (by rw [← ht] at hx; exact List.mem_of_mem_drop (List.mem_of_mem_take hx))), hf.2, ?_⟩
  have h := hB.set 72 (.int .i64 ((N : Int) + k))
  rw [hcells_n _ _ _ _ (stOf_ok L).1 hl64] at h
  rw [hf.1, show ((L ++ t).length : Int) = (N : Int) + k by rw [List.length_append]; omega]
  exact h
theorem write_all {w2 : World} {g : Nat} {l b L rest t : List Int} {j k m N : Nat} (hB : Blk w2 g 123 (hcells (stOf L) (splice rest m t) ((N : Int) + k))) (h64 : rest.length = 64) (hrb : isB rest) (hp : rest.take (L.length % 64) = L.drop (64 * (L.length / 64)))
    (hL : l ++ b.take j = L) (hN : L.length = N) (hm : N % 64 = m) (ht : (b.drop j).take k = t) (htl : t.length = k) (hb : isB b) (hmk : m + k = 64) : HashAt (w2.setCells g 0 (u32v (blockS (stOf L) (splice rest m t)))) g (l ++ b.take (j + k)) := by
  have e : l ++ b.take (j + k) = L ++ t := by rw [← hL, ← ht, List.append_assoc, drop_take]
  have hm' : L.length % 64 = m := by rw [hN]; exact hm
  have hf := fill_all h64 hp (t := t) (by omega)
  rw [hm'] at hf
  have hl64 : (splice rest m t).length = 64 := by rw [splice_len _ _ _ (by omega)]; exact h64
  rw [e]
  have hs8 := stOf_ok L
  have hb8 := (blockS_ok (stOf L) (splice rest m t) hs8.1 hs8.2)
  refine ⟨splice rest m t, hl64, splice_isB m hrb (fun x hx => hb x (by rw [← ht] at hx; exact List.mem_of_mem_drop (List.mem_of_mem_take hx))), hf.2, ?_⟩
  rw [hf.1, show ((L ++ t).length : Int) = (N : Int) + k by rw [List.length_append]; omega]
  generalize blockS (stOf L) (splice rest m t) = st' at *
  have h := Blk.setCells (u32v st') 0 w2 _ hB (by rw [hcells_len _ _ _ hs8.1 hl64]; simp [hb8.1])
  rw [hcells_st _ _ _ _ hs8.1 hb8.1] at h
  exact h
theorem addr_far {A : Option Addr} {g k : Nat} {p : Prop} [Decidable p] (h : ∀ ad, A = some ad → ad.block ≠ g) : ∀ ad, (if p then A else A.map (fun x => x.add k)) = some ad → ad.block ≠ g := by
  intro ad e
  split at e
  · exact h ad e
  · cases A with
    | none => cases e
    | some a0 => simp at e; subst e; rw [add_block]; exact h a0 rfl
set_option maxHeartbeats 1000000 in
theorem write_any (g : Nat) (l b : List Int) (A : Option Addr) (c : Nat) (w : World) (hl : Laid w) (hg : 2 ≤ g) (hh : HashAt w g l) (hr : Rd w A (byt b)) (hne : 0 < b.length → ∀ ad, A = some ad → ad.block ≠ g) (hb : isB b)
    (hbc : b.length ≤ c) (hlen : l.length + b.length < 9223372036854775808) :
    Calls Tryd.prog 61 #[.pointer (some ⟨g, 0, none⟩), .slice A b.length c] w fun e w' => e = .returned (.int .i64 0) ∧ HashAt w' g (l ++ b) ∧ Upd g w w' := by
  have HL := hide hl
  have HH := hide hh
  have HR := hide hr
  have HN := hide hne
  have HBy := hide hb
  clear hl hh hr hne hb
  go_enter Tryd.func61, Tryd.ntmps61
  go_wp2_with fail
  (with_reducible refine (there_yes g _ l HH.out).mono ?_)
  rintro e w1 ⟨rfl, rfl⟩
  go_wp2_with fail
  go_loopw [1] (fun v wr => ∃ (j : Nat) (A' : Option Addr) (c' n : Nat), v = .slice A' n c' ∧ n + j = b.length ∧ n ≤ c' ∧ Hid (0 < n → ∀ ad, A' = some ad → ad.block ≠ g) ∧ Hid (Rd wr A' (byt (b.drop j))) ∧ Hid (HashAt wr g (l ++ b.take j)) ∧ Hid (Upd g w wr)) (fun v _ => lenV v)
  case atStart => exact ⟨0, A, c, b.length, rfl, by omega, by omega, HN, HR, by simpa using HH, hide (Upd.refl _ _)⟩
  case round =>
    obtain ⟨j, A', c', n, rfl, hn, hnc, HN0, HR2, HH2, HU⟩ := hrel
    by_cases hlt : 0 < n
    · have HN2 := hide (HN0.out hlt)
      obtain ⟨L, hL⟩ : ∃ L, l ++ b.take j = L := ⟨_, rfl⟩
      have hLl : L.length = l.length + j := by rw [← hL, List.length_append, List.length_take]; omega
      rw [hL] at HH2
      obtain ⟨rest, h64, hrb, hp, hB⟩ := HH2.out
      obtain ⟨N, hN⟩ : ∃ N, L.length = N := ⟨_, rfl⟩
      have hB' : Blk wr g 123 (hcells (stOf L) rest N) := by rw [← hN]; exact hB
      obtain ⟨m, hm⟩ : ∃ m, N % 64 = m := ⟨_, rfl⟩
      have hNj : N = l.length + j := by rw [← hN]; exact hLl
      have hNn : N + n < 9223372036854775808 := by omega
      obtain ⟨k, hk⟩ : ∃ k, min n (64 - m) = k := ⟨_, rfl⟩
      obtain ⟨t, ht⟩ : ∃ t, (b.drop j).take k = t := ⟨_, rfl⟩
      have htl : t.length = k := by rw [← ht, List.length_take, List.length_drop]; omega
      have hm64 : m < 64 := by omega
      have hk1 : 1 ≤ k := by omega
      have hk2 : m + k ≤ 64 := by omega
      have hk3 : k ≤ n := by omega
      have hmt : Int.tmod (N : Int) 64 = m := by rw [Int.tmod_eq_emod_of_nonneg (by omega)]; omega
      have c1 := fun p => hB'.cls 72 (hcells_at (stOf L) rest N (stOf_ok L).1 h64) p
      have HB2 := hide hB'
      have HNL := hide hN
      have HLN := hide hLl
      have HNJ := hide hNj
      have HM := hide hm
      have HK := hide hk
      have HT := hide ht
      have HTL := hide htl
      clear hB hB' hN hLl hm hNj hk ht htl
      go_wp2_with fail
      refine wp_region_tail 10 [0, 1, 2, 3, 4, 5, 6, 7, 8, 9] (by kernel_rfl) (by kernel_rfl) (by kernel_rfl) ?_
      have hmn : ((m : Int)).toNat = m := by omega
      have hm0 : (0 : Int) ≤ m := by omega
      have hm1 : (m : Int) ≤ 64 := by omega
      repeat (refine wt_rd rfl rfl (fun K hK => ?_); go_simp; refine hK _ ?_; clear hK K)
      refine wt_nil ?_
      simp only [List.drop_succ_cons, List.drop_zero]
      rw [if_neg (show ¬ 64 = m by omega)]
      refine wpList_copyB rfl (.tmp 20) (.tmp 21) 26 26 rfl 5 Tryd.underlying26 (by kernel_rfl) rfl rfl HB2.out.drew HR2.out.drew (by simp; omega) k (by rw [← HK.out]) (by rw [hcells_len _ _ _ (stOf_ok L).1 h64]; omega) (byt_one _) ?_
      have HE : Hid (splice (hcells (stOf L) rest N) (8 + m) ((byt (b.drop j)).take k) = hcells (stOf L) (splice rest m t) N) := by
        rw [byt_take, HT.out]
        exact hide (hcells_put _ _ _ _ _ (stOf_ok L).1 (by rw [HTL.out, h64]; omega))
      rw [HE.out]
      obtain ⟨w2, hw2⟩ : ∃ w2, wr.drew.setRow g (hcells (stOf L) (splice rest m t) N).toArray = w2 := ⟨_, rfl⟩
      have HB3 : Hid (Blk w2 g 123 (hcells (stOf L) (splice rest m t) N)) := by rw [← hw2]; exact hide (HB2.out.drew.setRow _)
      have HU2 : Hid (Upd g wr w2) := by rw [← hw2]; exact hide (((Upd.refl g wr).drew).row _)
      rw [hw2]
      clear hw2 HE
      have h64' : (splice rest m t).length = 64 := by rw [splice_len _ _ _ (by rw [HTL.out, h64]; omega)]; exact h64
      have c3 := (HB3.out.cell 72).trans (hcells_at (stOf L) (splice rest m t) N (stOf_ok L).1 h64')
      have f3 := HB3.out.free 72
      have hw3 : IntKind.i64.wrap ((N : Int) + k) = (N : Int) + k := IntWalk.i64_in _ (by omega)
      have HRB := hide hrb
      have HP := hide hp
      have HLL := hide hL
      clear hrb hp hL
      by_cases hfull : m + k = 64
      · have ht3 : (((N : Int) + k) % 64 == 0) = true := by
          have := HM.out
          have : ((N : Int) + k) % 64 = 0 := by omega
          simpa using this
        go_wp2_with fail
        refine NoPanic.normal ?_
        go_wp2_with fail
        all_goals
          have HB4 : Hid (Blk (w2.setCell ⟨g, 72, none⟩ (.int .i64 ((N : Int) + k))) g 123 (hcells (stOf L) (splice rest m t) ((N : Int) + k))) := by
            have h := HB3.out.set 72 (.int .i64 ((N : Int) + k))
            rw [hcells_n _ _ _ _ (stOf_ok L).1 h64'] at h
            exact hide h
          have HU4 : Hid (Upd g w (w2.setCell ⟨g, 72, none⟩ (.int .i64 ((N : Int) + k)))) := hide ((HU.out.trans HU2.out).cell 72 _)
          have HR4 : Hid (Rd (w2.setCell ⟨g, 72, none⟩ (.int .i64 ((N : Int) + k))) A' (byt (b.drop j))) := hide (HR2.out.upd (HU2.out.cell 72 _) HN2.out)
          generalize w2.setCell ⟨g, 72, none⟩ (.int .i64 ((N : Int) + k)) = w4 at *
          have HS8 : Hid ((u32v (stOf L)).length = 8) := hide (by rw [u32v_length]; exact (stOf_ok L).1)
          have HB8 : Hid ((byt (splice rest m t)).length = 64) := hide (by rw [byt_length]; exact h64')
          refine wp_region_tail 12 [0, 1, 2, 3, 4, 5, 6, 7, 8, 9, 10, 11] (by kernel_rfl) (by kernel_rfl) (by kernel_rfl) ?_
          iterate 4 (refine wt_rd rfl rfl (fun K hK => ?_); go_simp; refine hK _ ?_; clear hK K)
          refine wt_loadM rfl rfl 120 (.tmp 43) rfl HB4.out.drew (hcells_state _ _ _) rfl _ Tryd.underlying120 rfl (by rw [HS8.out]; kernel_rfl) ?_
          iterate 3 (refine wt_rd rfl rfl (fun K hK => ?_); go_simp; refine hK _ ?_; clear hK K)
          refine wt_loadM rfl rfl 121 (.tmp 47) rfl HB4.out.drew (hcells_rest _ _ _ (stOf_ok L).1) rfl _ Tryd.underlying121 rfl (by rw [HB8.out]; kernel_rfl) ?_
          refine wt_ext rfl rfl (fun K hK => ?_)
          go_simp
          go_at_call 82
          (with_reducible refine (block_any (stOf L) (splice rest m t) _ (stOf_ok L).1 h64' (stOf_ok L).2 (splice_isB m HRB.out (sub_isB HBy.out HT.out)) (HL.out.upd HU4.out.drew hg)).mono ?_)
          rintro e w5 ⟨rfl, hx5⟩
          refine hK _ _ hx5 ?_
          clear hK K
          iterate 2 (refine wt_rd rfl rfl (fun K hK => ?_); go_simp; refine hK _ ?_; clear hK K)
          refine wt_nil ?_
          simp only [List.drop_succ_cons, List.drop_zero]
          have HB5 := hide (HB4.out.drew.ext hx5)
          have HST : Hid ((u32v (blockS (stOf L) (splice rest m t))).length = 8) := hide (by rw [u32v_length]; exact (blockS_ok _ _ (stOf_ok L).1 (stOf_ok L).2).1)
          refine wpList_storeM rfl 120 (.tmp 51) (.tmp 49) rfl HB5.out rfl rfl (by rw [HST.out]; kernel_rfl) (by rw [hcells_len _ _ _ (stOf_ok L).1 h64', HST.out]; omega) (u32v_one _) ?_
          have hd := HR4.out.drop k c' (fun e => by simp; omega)
          rw [byt_drop, List.drop_drop] at hd
          have hex : ∃ A2, (if c' = k then A' else A'.map (fun x => x.add k)) = A2 ∧ (∀ ad, A2 = some ad → ad.block ≠ g) ∧ Rd w4 A2 (byt (b.drop (j + k))) := ⟨_, rfl, addr_far HN2.out, hd⟩
          clear hd
          obtain ⟨A2, hA2, far2, rd2⟩ := hex
          first | rw [if_pos (by assumption)] at hA2 | rw [if_neg (by assumption)] at hA2
          subst hA2
          have HFAR := hide far2
          have HRD2 := hide rd2
          clear far2 rd2
          go_wp2_with fail
          refine NoPanic.normal ?_
          go_wp2_with fail
          go_roundw
          case rel =>
            refine ⟨j + k, _, _, n - k, rfl, by omega, by omega, hide (fun _ => HFAR.out), hide ((HRD2.out.drew.ext hx5).upd (Upd.cells _ 0 _ (Upd.refl g w5)) HFAR.out), hide (write_all HB5.out h64 HRB.out HP.out HLL.out HNL.out HM.out HT.out HTL.out HBy.out hfull), hide (Upd.cells _ 0 _ (HU4.out.drew.ext hx5))⟩
          case measure => simp [lenV]; omega
      · have ht3 : (((N : Int) + k) % 64 == 0) = false := by
          have := HM.out
          have : ¬ ((N : Int) + k) % 64 = 0 := by omega
          simpa using this
        go_wp2_with fail
        refine NoPanic.normal ?_
        go_wp2_with fail
        go_roundw
        case rel =>
          have hd := HR2.out.drop k c' (fun e => by simp; omega)
          rw [byt_drop, List.drop_drop] at hd
          refine ⟨j + k, _, _, n - k, rfl, by omega, by omega, hide (fun _ => addr_far HN2.out), hide (hd.upd (HU2.out.cell 72 _) (addr_far HN2.out)), hide (write_some HB3.out h64 HRB.out HP.out HLL.out HNL.out HM.out HT.out HTL.out HBy.out (by omega)), hide ((HU.out.trans HU2.out).cell 72 _)⟩
        case measure => simp [lenV]; omega
    · obtain rfl : n = 0 := by omega
      go_wp2_with fail
      go_ret
      refine ⟨rfl, ?_, HU.out⟩
      have := HH2.out
      rwa [List.take_of_length_le (by omega)] at this
end Go.Proofs.YtamlngdjbmndlaaDoor
