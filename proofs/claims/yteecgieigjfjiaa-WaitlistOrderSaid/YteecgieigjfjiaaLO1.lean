/- Lists of waiters: the law WaitlistOrder walked. -/
import Derived.Test.YteecgieigjfjiaaWA
import Derived.Test.YteecgieigjfjiaaW16
import Derived.Test.YteecgieigjfjiaaSeg
import Derived.Deep.CutBlock
import Derived.Deep.DeepCutAuto
namespace Go.Proofs.Yteecgieigjfjiaa
open Go.RowKit Go.Gr Go.Wl
set_option linter.unusedVariables false
set_option linter.unusedSimpArgs false
attribute [local go_sem] rdOp rdAt rdUpon Cls forall_fr
theorem rd_dropG {w : World} {g off : Nat} {xs : List Value} (h : Rd w (some ⟨g, off, none⟩) xs) (m : Nat) : Rd w (some ⟨g, off + m, none⟩) (xs.drop m) := by
  intro j u hu
  rw [List.getElem?_drop] at hu
  obtain ⟨ad, e, hc⟩ := h (m + j) u hu
  cases e
  refine ⟨_, rfl, ?_⟩
  have e1 : (⟨g, off, none⟩ : Addr).add (m + j) = (⟨g, off + m, none⟩ : Addr).add j := by cases m <;> cases j <;> simp [Addr.add] <;> omega
  rw [← e1]; exact hc
theorem seg_some {w : World} {e : TypeId} {v : Value} {xs : List Value} (h : SegP w e v xs) (hne : xs ≠ []) : ∃ g off cap, v = .slice (some ⟨g, off, none⟩) xs.length cap ∧ xs.length ≤ cap ∧ Rd w (some ⟨g, off, none⟩) xs := by
  obtain ⟨A, c, e1, hr, hc⟩ := h.form
  rcases h with ⟨_, h0⟩ | ⟨g, off, cap, cur, e2, _⟩
  · exact absurd h0 hne
  · rw [e2] at e1
    simp only [Value.slice.injEq] at e1
    obtain ⟨rfl, _, rfl⟩ := e1
    exact ⟨g, off, cap, e2, hc, hr⟩
theorem u32s_take' (l : List Int) (n : Nat) : (u32s l).take n = u32s (l.take n) := u32s_take l n
/-- what the last equal one is -/
def lastAt (i q : Nat) : Int := if i < q then (i : Int) else -1
theorem ls_ok1 {g gr : Nat} {n : Nat} {ws : List Int} {w : World} (h : (AsLs g gr (S1 n ws)).p w) : ws.Nodup ∧ ws.length ≤ 64 := by
  obtain ⟨R, hL, hS⟩ := h
  have := hL.ok.all (n, ws) (by rw [hS]; simp)
  have h1 := this.len
  have h2 := this.lim
  simp only at h1 h2
  exact ⟨this.nod, by omega⟩
set_option maxRecDepth 100000 in
set_option maxHeartbeats 8000000 in
theorem order_law (w : World) (b : Int) (hb : 0 ≤ b ∧ b < 256) (v1 : Value) (h1 : LfOk Try.prog w (.slice 31) v1) : Calls Try.prog 6 #[.int .u8 b, v1] w fun e w' => e = .returned (.bool true) ∧ Ext w w' := by
  obtain ⟨i32, ki, kz0, kz1, kz2⟩ := info_parts info32
  obtain ⟨A, l, c, rfl, hr, hok, hc, hm⟩ := callsA h1
  clear h1
  by_cases hs : 200 < l.length
  · have d1 : (200 : Int) < (l.length : Int) := by omega
    clear hr hok hs
    go_enter Try.func6, Try.ntmps6
    go_wp2_with fail
    (with_reducible refine (awake_any _).mono ?_)
    rintro e w1 ⟨rfl, hx⟩
    go_wp2_with fail
    go_ret
    exact ⟨rfl, hx⟩
  · have d1 : ¬ (200 : Int) < (l.length : Int) := by omega
    have HR := hide hr
    have HOK := hide hok
    obtain ⟨n, hn⟩ : ∃ n : Nat, b.tmod 65 = (n : Int) := ⟨(b % 65).toNat, by rw [Int.tmod_eq_emod_of_nonneg hb.1]; omega⟩
    have hn64 : n ≤ 64 := by rw [Int.tmod_eq_emod_of_nonneg hb.1] at hn; omega
    have hwn : IntKind.i64.wrap (n : Int) = (n : Int) := IntWalk.i64_in _ (by omega)
    have hwl : IntKind.i64.wrap ((l.length : Int) + 65) = (l.length : Int) + 65 := IntWalk.i64_in _ (by omega)
    have H0 : Sep No w (w.alloc (.cells #[.int .i64 (n : Int)] 3)) [As.blk w.heap.size 3 (i64s [(n : Int)])] := Sep.add (Sep.refl No w) 3 (i64s [(n : Int)])
    have hlim : limE [(n : Int)] = 0 := by
      unfold limE
      rw [if_neg (by simp), if_pos (by intro x hx; simp at hx; omega)]
    have HN := hide (new_any [(n : Int)] (some ⟨w.heap.size, 0, none⟩) 1 _ (H0.blk (g := w.heap.size) (e := 3) (cs := i64s [(n : Int)]) (List.Mem.head _)).rd (by simp))
    rw [show ([(n : Int)] : List Int).length = 1 from rfl, show newS [(n : Int)] = S1 n [] by simp [newS]] at HN
    have HX0 := hide H0.toExt
    have HLIM := hide hlim
    clear hr hok hs H0 hlim
    go_enter Try.func6, Try.ntmps6
    go_wp2_with fail
    (with_reducible refine HN.out.mono ?_)
    rintro e w1 ⟨h1, _⟩
    obtain ⟨g, gr, rfl, hS⟩ := h1 HLIM.out
    have K0 : Hid (Sep No w w1 [As.seg 23 (.slice none 0 0) (u32s []), AsLs g gr (S1 n [])]) := hide (Sep.toSeg [] (((Sep.refl No w).ext HX0.out).joinW hS |>.nilO 23))
    clear hS HN HX0 h1
    go_wp2_with fail
    go_loopw [7, 8] (fun v7 i wr => ∃ (k : Nat) (ws : List Int), i = .int .i64 k ∧ k ≤ l.length + 65 ∧ ws.length ≤ 64 - (k - l.length) ∧ Hid (Sep No w wr [As.seg 23 v7 (u32s ws), AsLs g gr (S1 n ws)])) (fun _ i _ => l.length + 65 - (intOf i).toNat)
    case atStart => exact ⟨0, [], rfl, by omega, by simp, K0⟩
    case round =>
      obtain ⟨k, ws, rfl, hk, hwl64, HK⟩ := hrel
      clear K0
      have HB := hide hwl64
      obtain ⟨hnod, h64⟩ := ls_ok1 (HK.out.get (A := AsLs g gr (S1 n ws)) (List.Mem.tail _ (List.Mem.head _)))
      have HND := hide hnod
      obtain ⟨A7, c7, hv7, hr7, hc7⟩ := (HK.out.segs (e := 23) (v := u7) (xs := u32s ws) (List.Mem.head _)).form
      subst hv7
      rw [u32s_len] at hc7 HK ⊢
      clear hnod hwl64 hr7
      by_cases hlt65 : k < l.length + 65
      · have hlt65i : (k : Int) < (l.length : Int) + 65 := by omega
        by_cases hlt : k < l.length
        · have hlti : (k : Int) < (l.length : Int) := by omega
          have HX := hide HK.out.toExt
          obtain ⟨bb, off, hA, cw, _, co, hlb⟩ := call_at (HR.out.ext (HX.out.trans ((Ext.refl wr).drew))) hlt
          subst hA
          obtain ⟨⟨hw0, hw1⟩, _, ho0, ho1⟩ := HOK.out _ (List.getElem_mem hlt)
          obtain ⟨x, HXx⟩ : ∃ x, Hid (l[k].what = x) := ⟨_, hide rfl⟩
          obtain ⟨y, HYy⟩ : ∃ y, Hid (l[k].own = y) := ⟨_, hide rfl⟩
          rw [HXx.out] at cw hw0 hw1
          rw [HYy.out] at co ho0 ho1
          obtain ⟨m, hm, hm8⟩ := mod8 ⟨hw0, hw1⟩
          go_upto_region 13 with fail
          refine wp_region_wm [0, 1, 2, 3, 4, 5, 6, 7, 8, 9, 10, 11, 12] (by kernel_rfl) (by kernel_rfl) (by kernel_rfl) (by kernel_rfl) ?_
          have KD := hide HK.out.drew
          clear HK HX
          generalize wr.drew = wd at *
          iterate 4 (refine wm_rd rfl rfl (fun K hK => ?_); go_simp; refine hK _ ?_; clear hK K)
          refine wm_ld1 rfl rfl 5 (.tmp 50) rfl rfl cw _ Try.underlying5 rfl ?_
          iterate 5 (refine wm_rd rfl rfl (fun K hK => ?_); go_simp; refine hK _ ?_; clear hK K)
          refine wm_ld1 rfl rfl 23 (.tmp 56) rfl rfl co _ Try.underlying23 rfl ?_
          iterate 2 (refine wm_rd rfl rfl (fun K hK => ?_); go_simp; refine hK _ ?_; clear hK K)
          refine wm_nil ?_
          clear cw co hm
          rcases hm8 with rfl | rfl | rfl | rfl | rfl | rfl | rfl | rfl
          · have JJ := hide (join_any (i := 0) (o := y) (KD.out.get (A := AsLs g gr (S1 n ws)) (List.Mem.tail _ (List.Mem.head _))) ⟨ho0, ho1⟩)
            by_cases hfull : ws.length = n
            · rw [join1_full y hfull] at JJ
              clear hfull
              go_wp2_with fail
              (with_reducible refine JJ.out.mono ?_)
              rintro e w2 ⟨rfl, hp, hu⟩
              have K2 := hide (sep_ls [_] KD.out hp hu)
              clear hp hu JJ
              go_wp2_with fail
              go_roundw
              case rel => exact ⟨k + 1, ws, by go_num, by omega, by omega, K2⟩
              case measure => simp [intOf]; omega
            · by_cases hin : y ∈ ws
              · rw [join1_twice hfull hin] at JJ
                clear hfull hin
                go_wp2_with fail
                (with_reducible refine JJ.out.mono ?_)
                rintro e w2 ⟨rfl, hp, hu⟩
                have K2 := hide (sep_ls [_] KD.out hp hu)
                clear hp hu JJ
                go_wp2_with fail
                go_roundw
                case rel => exact ⟨k + 1, ws, by go_num, by omega, by omega, K2⟩
                case measure => simp [intOf]; omega
              · rw [join1_ok hfull hin] at JJ
                clear hfull hin
                go_wp2_with fail
                (with_reducible refine JJ.out.mono ?_)
                rintro e w2 ⟨rfl, hp, hu⟩
                have h64' := (ls_ok1 hp).2
                have K2 := sep_ls [_] KD.out hp hu
                dsimp only [List.singleton_append] at K2
                have HUL : Hid ((u32s ws).length < 1000000000) := hide (by rw [u32s_len]; omega)
                clear hp hu JJ
                have tok : True := trivial
                go_wp2_with (have zz := tok; clear zz tok; refine wpList_pushSeg [] K2 rfl (.tmp 70) (.tmp 72) 39 rfl i32 (.int .u32 0) 4 Try.underlying39 ki kz0 kz1 kz2 rfl rfl rfl rfl HUL.out (by decide) ?_; intro v8 w8 H8; dsimp only [List.nil_append] at H8; have K8 := hide H8; clear H8 K2)
                have K9 : Hid (Sep No w w8 [As.seg 23 v8 (u32s (ws ++ [y])), AsLs g gr (S1 n (ws ++ [y]))]) := hide (by rw [u32s_append]; exact K8.out)
                go_roundw
                case rel => exact ⟨k + 1, ws ++ [y], by go_num, by omega, by rw [List.length_append, List.length_singleton]; rw [List.length_append, List.length_singleton] at h64'; omega, K9⟩
                case measure => simp [intOf]; omega
          · have JJ := hide (join_any (i := 0) (o := y) (KD.out.get (A := AsLs g gr (S1 n ws)) (List.Mem.tail _ (List.Mem.head _))) ⟨ho0, ho1⟩)
            by_cases hfull : ws.length = n
            · rw [join1_full y hfull] at JJ
              clear hfull
              go_wp2_with fail
              (with_reducible refine JJ.out.mono ?_)
              rintro e w2 ⟨rfl, hp, hu⟩
              have K2 := hide (sep_ls [_] KD.out hp hu)
              clear hp hu JJ
              go_wp2_with fail
              go_roundw
              case rel => exact ⟨k + 1, ws, by go_num, by omega, by omega, K2⟩
              case measure => simp [intOf]; omega
            · by_cases hin : y ∈ ws
              · rw [join1_twice hfull hin] at JJ
                clear hfull hin
                go_wp2_with fail
                (with_reducible refine JJ.out.mono ?_)
                rintro e w2 ⟨rfl, hp, hu⟩
                have K2 := hide (sep_ls [_] KD.out hp hu)
                clear hp hu JJ
                go_wp2_with fail
                go_roundw
                case rel => exact ⟨k + 1, ws, by go_num, by omega, by omega, K2⟩
                case measure => simp [intOf]; omega
              · rw [join1_ok hfull hin] at JJ
                clear hfull hin
                go_wp2_with fail
                (with_reducible refine JJ.out.mono ?_)
                rintro e w2 ⟨rfl, hp, hu⟩
                have h64' := (ls_ok1 hp).2
                have K2 := sep_ls [_] KD.out hp hu
                dsimp only [List.singleton_append] at K2
                have HUL : Hid ((u32s ws).length < 1000000000) := hide (by rw [u32s_len]; omega)
                clear hp hu JJ
                have tok : True := trivial
                go_wp2_with (have zz := tok; clear zz tok; refine wpList_pushSeg [] K2 rfl (.tmp 70) (.tmp 72) 39 rfl i32 (.int .u32 0) 4 Try.underlying39 ki kz0 kz1 kz2 rfl rfl rfl rfl HUL.out (by decide) ?_; intro v8 w8 H8; dsimp only [List.nil_append] at H8; have K8 := hide H8; clear H8 K2)
                have K9 : Hid (Sep No w w8 [As.seg 23 v8 (u32s (ws ++ [y])), AsLs g gr (S1 n (ws ++ [y]))]) := hide (by rw [u32s_append]; exact K8.out)
                go_roundw
                case rel => exact ⟨k + 1, ws ++ [y], by go_num, by omega, by rw [List.length_append, List.length_singleton]; rw [List.length_append, List.length_singleton] at h64'; omega, K9⟩
                case measure => simp [intOf]; omega
          · have JL := hide (leave_any (i := 0) (o := y) (KD.out.get (A := AsLs g gr (S1 n ws)) (List.Mem.tail _ (List.Mem.head _))))
            by_cases hin : y ∈ ws
            · rw [leave1_ok hin] at JL
              obtain ⟨i, HI⟩ : ∃ i, Hid (ws.idxOf y = i) := ⟨_, hide rfl⟩
              have hix := idxOf_lt hin
              have hgi := get_idxOf hin
              rw [HI.out] at JL hix hgi
              have HUN : Hid (∀ q (hq : q < ws.length), ws[q] = y ↔ q = i) := hide (fun q hq => ⟨fun e => nodup_get HND.out (by rw [List.getElem?_eq_getElem hq, e]) hgi, fun e => by subst e; rw [List.getElem?_eq_getElem hq] at hgi; exact Option.some.inj hgi⟩)
              have HGI := hide hgi
              clear hgi
              go_wp2_with fail
              (with_reducible refine JL.out.mono ?_)
              rintro e w2 ⟨rfl, hp, hu⟩
              have K2 := hide (sep_ls [_] KD.out hp hu)
              clear hp hu JL
              go_wp2_with fail
              go_loopw [13, 14] (fun v13 v14 wy => ∃ q : Nat, v14 = .int .i64 q ∧ q ≤ ws.length ∧ v13 = .int .i64 (lastAt i q) ∧ w2 = wy) (fun _ v14 _ => ws.length - (intOf v14).toNat)
              case atStart => exact ⟨0, rfl, by omega, by unfold lastAt; rw [if_neg (by omega)], rfl⟩
              case round =>
                obtain ⟨q, rfl, hq, rfl, rfl⟩ := hrel
                by_cases hql : q < ws.length
                · have hqli : (q : Int) < (ws.length : Int) := by omega
                  have hrd := (K2.out.segs (e := 23) (xs := u32s ws) (List.Mem.head _)).form
                  obtain ⟨A', c', e', hrd, _⟩ := hrd
                  rw [u32s_len] at e'
                  cases e'
                  obtain ⟨ad, hA7, cq⟩ := u32s_at hrd hql
                  subst hA7
                  obtain ⟨z, HZ⟩ : ∃ z, Hid (ws[q] = z) := ⟨_, hide rfl⟩
                  rw [HZ.out] at cq
                  clear hrd
                  by_cases hqi : q = i
                  · have hzy : z = y := by rw [← HZ.out]; exact (HUN.out q hql).2 hqi
                    have e1 : (z == y) = true := beq_iff_eq.2 hzy
                    have HLA : Hid (lastAt i (q + 1) = (q : Int)) := hide (by unfold lastAt; rw [if_pos (by omega), hqi])
                    clear hzy hqi
                    go_wp2_with fail
                    go_roundw
                    case rel => exact ⟨q + 1, by go_num, by omega, by rw [HLA.out], by first | rfl | trivial⟩
                    case measure => simp [intOf]; omega
                  · have hzy : z ≠ y := fun e => hqi ((HUN.out q hql).1 (HZ.out.trans e))
                    have e1 : (z == y) = false := beq_eq_false_iff_ne.2 hzy
                    have HLA : Hid (lastAt i (q + 1) = lastAt i q) := hide (by
                      unfold lastAt
                      by_cases h : i < q
                      · rw [if_pos h, if_pos (by omega)]
                      · rw [if_neg h, if_neg (by omega)])
                    clear hzy
                    go_wp2_with fail
                    go_roundw
                    case rel => exact ⟨q + 1, by go_num, by omega, by rw [HLA.out], by first | rfl | trivial⟩
                    case measure => simp [intOf]; omega
                · obtain rfl : q = ws.length := by omega
                  have hla : lastAt i ws.length = (i : Int) := by unfold lastAt; rw [if_pos hix]
                  have hi0 : ¬ (i : Int) < 0 := by omega
                  obtain ⟨gs, os, cap, hv, hcap, hrd⟩ := seg_some (K2.out.segs (e := 23) (xs := u32s ws) (List.Mem.head _)) (fun h => by have := u32s_nil h; rw [this] at hix; simp at hix)
                  rw [u32s_len] at hv hcap
                  simp only [Value.slice.injEq] at hv
                  obtain ⟨rfl, hq9, rfl⟩ := hv
                  clear hq9
                  have hw1 : IntKind.i64.wrap ((i : Int) + 1) = (i : Int) + 1 := IntWalk.i64_in _ (by omega)
                  have hic : (i : Int) ≤ (c7 : Int) := by omega
                  have hil : (i : Int) + 1 ≤ (ws.length : Int) := by omega
                  have hcp : (ws.length : Int) ≤ (c7 : Int) := by omega
                  have hcap0 : ¬ c7 = 0 := by omega
                  have hii : (i : Int) ≤ (i : Int) + 1 := by omega
                  have hi01 : (0 : Int) ≤ (i : Int) + 1 := by omega
                  have HRT : Hid (∀ wz, Ext w2 wz → Rd wz (some ⟨gs, os, none⟩) (u32s (ws.take i))) := hide (fun wz x => by rw [← u32s_take]; exact (hrd.ext x).take_ i)
                  have HRD : Hid (∀ wz, Ext w2 wz → Rd wz (some ⟨gs, os + (i + 1), none⟩) (u32s (ws.drop (i + 1)))) := hide (fun wz x => by rw [← u32s_drop]; exact rd_dropG (hrd.ext x) (i + 1))
                  have HRD0 : Hid (i + 1 = c7 → ∀ wz, Rd wz (some ⟨gs, os, none⟩) (u32s (ws.drop (i + 1)))) := hide (fun e wz => by rw [List.drop_eq_nil_of_le (by omega)]; intro j u hu; simp [u32s] at hu)
                  have HL1 : Hid (i = (u32s (ws.take i)).length) := hide (by rw [u32s_len, List.length_take]; omega)
                  have HL2 : Hid (ws.length - (i + 1) = (u32s (ws.drop (i + 1))).length) := hide (by rw [u32s_len, List.length_drop])
                  have HB1 : Hid (([] : List Value).length + (u32s (ws.take i)).length ≤ 1000000000) := hide (by rw [u32s_len, List.length_take, List.length_nil]; omega)
                  have HB2 : Hid ((u32s (ws.take i)).length + (u32s (ws.drop (i + 1))).length ≤ 1000000000) := hide (by rw [u32s_len, u32s_len, List.length_take, List.length_drop]; omega)
                  have HER : Hid (u32s (ws.take i) ++ u32s (ws.drop (i + 1)) = u32s (ws.eraseIdx i)) := hide (by rw [← u32s_append, List.eraseIdx_eq_take_drop_succ])
                  clear hrd HUN HGI HND
                  rw [hla]
                  clear hla
                  go_upto_region 30 with fail
                  refine wp_region_wmr (RT.up w2.drew.heap.size) [1, 2, 3, 5, 6, 7, 8, 0, 4, 9, 10] (by kernel_rfl) (by kernel_rfl) (by kernel_rfl) (by kernel_rfl) ?_
                  have HXD : Hid (Ext w2 w2.drew) := hide ((Ext.refl w2).drew)
                  have K3 := hide (K2.out.drew.tail)
                  clear K2
                  generalize w2.drew = wd at *
                  by_cases hci : c7 = i + 1
                  · have HCI := hide hci.symm
                    iterate 7 (refine wmr_rd rfl rfl (fun K hK => ?_); go_simp; refine hK _ ?_; clear hK K)
                    refine wmr_ext rfl rfl (fun K hK => ?_)
                    go_simp
                    refine hK _ _ (((Ext.refl wd).alloc _).up _) ?_
                    clear hK K
                    have H4 := bs0 K3.out 23
                    have HX4 := hide ((Ext.refl wd).alloc (.cells #[] 23))
                    obtain ⟨SB, hSB⟩ : ∃ s, wd.heap.size = s := ⟨_, rfl⟩
                    have hs4 : SB ≤ (World.alloc wd (.cells #[] 23)).heap.size := by rw [← hSB]; simp
                    refine wmr_ext rfl rfl (fun K hK => ?_)
                    rw [if_pos (show Region.wanted _ _ = true from rfl)]
                    refine wp_apS [] H4 (.tmp 95) (.tmp 98) 39 rfl i32 (.int .u32 0) 4 Try.underlying39 ki kz0 kz1 kz2 rfl rfl (A := some ⟨gs, os, none⟩) (m := i) (c := _) (news := u32s (ws.take i)) rfl HL1.out (HRT.out _ (HXD.out.trans HX4.out)) (u32s_one _) HB1.out (by decide) ?_
                    intro v1 w4 H5 hf5 hv5
                    dsimp only [List.nil_append] at H5
                    have hv5' : ∀ j, v1.ownBlock = some j → wd.heap.size ≤ j := fun j hj => (hv5 j hj).elim (fun h => by cases h; exact Nat.le_refl _) (fun h => by rw [hSB]; exact Nat.le_trans hs4 h)
                    refine hK _ _ (hf5.mono (fun j hj => by cases hj; exact Nat.le_refl _)) ?_
                    have HX5 : Hid (Ext wd w4) := hide ((Sep.refl No wd).toExt.trans (by
                      have hh : Fr (fun k => wd.heap.size ≤ k) wd w4 := ((Fr.of_ext HX4.out).mono (fun _ h => h.elim)).trans (hf5.mono (fun j hj => by cases hj; exact Nat.le_refl _))
                      exact ⟨hh.os, hh.tape, hh.output, hh.size, fun k hk => hh.block k hk (by omega)⟩))
                    clear hK K hf5 hv5 H4 hs4
                    refine wmr_ext rfl rfl (fun K hK => ?_)
                    rw [if_pos (show Region.wanted _ _ = true from rfl)]
                    refine wp_apS [] H5 (.tmp 99) (.tmp 103) 39 rfl i32 (.int .u32 0) 4 Try.underlying39 ki kz0 kz1 kz2 rfl rfl (A := some ⟨gs, os, none⟩) (m := ws.length - (i + 1)) (c := _) (news := u32s (ws.drop (i + 1))) rfl HL2.out (HRD0.out HCI.out _) (u32s_one _) HB2.out (by decide) ?_
                    intro v2 w5 H6 hf6 _
                    rw [HER.out] at H6
                    dsimp only [List.nil_append] at H6
                    refine hK _ _ (hf6.mono hv5') ?_
                    clear hK K hf6 hv5' H5
                    iterate 1 (refine wmr_rd rfl rfl (fun K hK => ?_); go_simp; refine hK _ ?_; clear hK K)
                    refine wmr_nil ?_
                    have K6 := hide (Sep.toSeg [] H6)
                    clear H6 hSB
                    go_wp2_with fail
                    go_roundw
                    case rel => exact ⟨k + 1, ws.eraseIdx i, by go_num, by omega, by rw [List.length_eraseIdx, if_pos hix]; omega, K6⟩
                    case measure => simp [intOf]; omega
                  · iterate 7 (refine wmr_rd rfl rfl (fun K hK => ?_); go_simp; refine hK _ ?_; clear hK K)
                    refine wmr_ext rfl rfl (fun K hK => ?_)
                    go_simp
                    refine hK _ _ (((Ext.refl wd).alloc _).up _) ?_
                    clear hK K
                    have H4 := bs0 K3.out 23
                    have HX4 := hide ((Ext.refl wd).alloc (.cells #[] 23))
                    obtain ⟨SB, hSB⟩ : ∃ s, wd.heap.size = s := ⟨_, rfl⟩
                    have hs4 : SB ≤ (World.alloc wd (.cells #[] 23)).heap.size := by rw [← hSB]; simp
                    refine wmr_ext rfl rfl (fun K hK => ?_)
                    rw [if_pos (show Region.wanted _ _ = true from rfl)]
                    refine wp_apS [] H4 (.tmp 95) (.tmp 98) 39 rfl i32 (.int .u32 0) 4 Try.underlying39 ki kz0 kz1 kz2 rfl rfl (A := some ⟨gs, os, none⟩) (m := i) (c := _) (news := u32s (ws.take i)) rfl HL1.out (HRT.out _ (HXD.out.trans HX4.out)) (u32s_one _) HB1.out (by decide) ?_
                    intro v1 w4 H5 hf5 hv5
                    dsimp only [List.nil_append] at H5
                    have hv5' : ∀ j, v1.ownBlock = some j → wd.heap.size ≤ j := fun j hj => (hv5 j hj).elim (fun h => by cases h; exact Nat.le_refl _) (fun h => by rw [hSB]; exact Nat.le_trans hs4 h)
                    refine hK _ _ (hf5.mono (fun j hj => by cases hj; exact Nat.le_refl _)) ?_
                    have HX5 : Hid (Ext wd w4) := hide ((Sep.refl No wd).toExt.trans (by
                      have hh : Fr (fun k => wd.heap.size ≤ k) wd w4 := ((Fr.of_ext HX4.out).mono (fun _ h => h.elim)).trans (hf5.mono (fun j hj => by cases hj; exact Nat.le_refl _))
                      exact ⟨hh.os, hh.tape, hh.output, hh.size, fun k hk => hh.block k hk (by omega)⟩))
                    clear hK K hf5 hv5 H4 hs4
                    refine wmr_ext rfl rfl (fun K hK => ?_)
                    rw [if_pos (show Region.wanted _ _ = true from rfl)]
                    refine wp_apS [] H5 (.tmp 99) (.tmp 103) 39 rfl i32 (.int .u32 0) 4 Try.underlying39 ki kz0 kz1 kz2 rfl rfl (A := some ⟨gs, os + (i + 1), none⟩) (m := ws.length - (i + 1)) (c := _) (news := u32s (ws.drop (i + 1))) rfl HL2.out (HRD.out _ (HXD.out.trans HX5.out)) (u32s_one _) HB2.out (by decide) ?_
                    intro v2 w5 H6 hf6 _
                    rw [HER.out] at H6
                    dsimp only [List.nil_append] at H6
                    refine hK _ _ (hf6.mono hv5') ?_
                    clear hK K hf6 hv5' H5
                    iterate 1 (refine wmr_rd rfl rfl (fun K hK => ?_); go_simp; refine hK _ ?_; clear hK K)
                    refine wmr_nil ?_
                    have K6 := hide (Sep.toSeg [] H6)
                    clear H6 hSB
                    go_wp2_with fail
                    go_roundw
                    case rel => exact ⟨k + 1, ws.eraseIdx i, by go_num, by omega, by rw [List.length_eraseIdx, if_pos hix]; omega, K6⟩
                    case measure => simp [intOf]; omega
            · rw [leave1_no hin] at JL
              go_wp2_with fail
              (with_reducible refine JL.out.mono ?_)
              rintro e w2 ⟨rfl, hp, hu⟩
              have K2 := hide (sep_ls [_] KD.out hp hu)
              clear hp hu JL
              go_wp2_with fail
              go_roundw
              case rel => exact ⟨k + 1, ws, by go_num, by omega, by omega, K2⟩
              case measure => simp [intOf]; omega
          · go_wp2_with fail
            go_roundw
            case rel => exact ⟨k + 1, ws, by go_num, by omega, by omega, KD⟩
            case measure => simp [intOf]; omega
          · go_wp2_with fail
            go_roundw
            case rel => exact ⟨k + 1, ws, by go_num, by omega, by omega, KD⟩
            case measure => simp [intOf]; omega
          · have JT := hide (take_any (i := 0) (KD.out.get (A := AsLs g gr (S1 n ws)) (List.Mem.tail _ (List.Mem.head _))))
            rcases ws with _ | ⟨z, t⟩
            · rw [take1_no] at JT
              go_wp2_with fail
              (with_reducible refine JT.out.mono ?_)
              rintro e w2 ⟨rfl, hp, hu⟩
              have K2 := hide (sep_ls [_] KD.out hp hu)
              clear hp hu JT
              go_wp2_with fail
              go_roundw
              case rel => exact ⟨k + 1, [], by go_num, by omega, by simp, K2⟩
              case measure => simp [intOf]; omega
            · rw [take1_ok] at JT
              go_wp2_with fail
              (with_reducible refine JT.out.mono ?_)
              rintro e w2 ⟨rfl, hp, hu⟩
              have K2 := sep_ls [_] KD.out hp hu
              dsimp only [List.singleton_append] at K2
              obtain ⟨g7, o7, cap, hv, hcap, hcz, hA, hB⟩ := Sep.segTail [] (x := .int .u32 z) (t := u32s t) K2
              rw [u32s_len] at hcap hA
              simp only [List.length_cons, Value.slice.injEq] at hv
              obtain ⟨rfl, hq, rfl⟩ := hv
              clear hq
              have hzz : (z != z) = false := bne_self_eq_false _
              have hl0 : ((((t.length + 1 : Nat) : Int)) == 0) = false := beq_eq_false_iff_ne.2 (by omega)
              have hl1 : (((t.length : Nat) : Int) + 1 == 0) = false := beq_eq_false_iff_ne.2 (by omega)
              have hg7 := cell_lt hcz
              have HA := hide hA
              have HB2 := hide hB
              clear hp hu JT K2 hA hB
              by_cases hc1 : c7 = 1
              · obtain ⟨ht, K3⟩ := HB2.out hc1
                have ht0 : t = [] := u32s_nil ht
                subst ht0
                subst hc1
                have K3' := hide K3
                clear K3 ht HA HB2
                go_wp2_with fail
                go_roundw
                case rel => exact ⟨k + 1, [], by go_num, by omega, by simp, K3'⟩
                case measure => simp [intOf]; omega
              · have K3 := hide (HA.out hc1)
                have hc1' : ¬ 1 = c7 := fun e => hc1 e.symm
                have hc2 : (1 : Int) ≤ (t.length : Int) + 1 := by omega
                clear HA HB2
                go_wp2_with fail
                go_roundw
                case rel => exact ⟨k + 1, t, by go_num, by omega, by simp only [List.length_cons] at h64; omega, K3⟩
                case measure => simp [intOf]; omega
          · have JT := hide (take_any (i := 0) (KD.out.get (A := AsLs g gr (S1 n ws)) (List.Mem.tail _ (List.Mem.head _))))
            rcases ws with _ | ⟨z, t⟩
            · rw [take1_no] at JT
              go_wp2_with fail
              (with_reducible refine JT.out.mono ?_)
              rintro e w2 ⟨rfl, hp, hu⟩
              have K2 := hide (sep_ls [_] KD.out hp hu)
              clear hp hu JT
              go_wp2_with fail
              go_roundw
              case rel => exact ⟨k + 1, [], by go_num, by omega, by simp, K2⟩
              case measure => simp [intOf]; omega
            · rw [take1_ok] at JT
              go_wp2_with fail
              (with_reducible refine JT.out.mono ?_)
              rintro e w2 ⟨rfl, hp, hu⟩
              have K2 := sep_ls [_] KD.out hp hu
              dsimp only [List.singleton_append] at K2
              obtain ⟨g7, o7, cap, hv, hcap, hcz, hA, hB⟩ := Sep.segTail [] (x := .int .u32 z) (t := u32s t) K2
              rw [u32s_len] at hcap hA
              simp only [List.length_cons, Value.slice.injEq] at hv
              obtain ⟨rfl, hq, rfl⟩ := hv
              clear hq
              have hzz : (z != z) = false := bne_self_eq_false _
              have hl0 : ((((t.length + 1 : Nat) : Int)) == 0) = false := beq_eq_false_iff_ne.2 (by omega)
              have hl1 : (((t.length : Nat) : Int) + 1 == 0) = false := beq_eq_false_iff_ne.2 (by omega)
              have hg7 := cell_lt hcz
              have HA := hide hA
              have HB2 := hide hB
              clear hp hu JT K2 hA hB
              by_cases hc1 : c7 = 1
              · obtain ⟨ht, K3⟩ := HB2.out hc1
                have ht0 : t = [] := u32s_nil ht
                subst ht0
                subst hc1
                have K3' := hide K3
                clear K3 ht HA HB2
                go_wp2_with fail
                go_roundw
                case rel => exact ⟨k + 1, [], by go_num, by omega, by simp, K3'⟩
                case measure => simp [intOf]; omega
              · have K3 := hide (HA.out hc1)
                have hc1' : ¬ 1 = c7 := fun e => hc1 e.symm
                have hc2 : (1 : Int) ≤ (t.length : Int) + 1 := by omega
                clear HA HB2
                go_wp2_with fail
                go_roundw
                case rel => exact ⟨k + 1, t, by go_num, by omega, by simp only [List.length_cons] at h64; omega, K3⟩
                case measure => simp [intOf]; omega
          · go_wp2_with fail
            go_roundw
            case rel => exact ⟨k + 1, ws, by go_num, by omega, by omega, KD⟩
            case measure => simp [intOf]; omega
        · have KD := HK
          clear HK
          have hlti : ¬ (k : Int) < (l.length : Int) := by omega
          have JT := hide (take_any (i := 0) (KD.out.get (A := AsLs g gr (S1 n ws)) (List.Mem.tail _ (List.Mem.head _))))
          rcases ws with _ | ⟨z, t⟩
          · rw [take1_no] at JT
            go_wp2_with fail
            (with_reducible refine JT.out.mono ?_)
            rintro e w2 ⟨rfl, hp, hu⟩
            have K2 := hide (sep_ls [_] KD.out hp hu)
            clear hp hu JT
            go_wp2_with fail
            go_roundw
            case rel => exact ⟨k + 1, [], by go_num, by omega, by simp, K2⟩
            case measure => simp [intOf]; omega
          · rw [take1_ok] at JT
            go_wp2_with fail
            (with_reducible refine JT.out.mono ?_)
            rintro e w2 ⟨rfl, hp, hu⟩
            have K2 := sep_ls [_] KD.out hp hu
            dsimp only [List.singleton_append] at K2
            obtain ⟨g7, o7, cap, hv, hcap, hcz, hA, hB⟩ := Sep.segTail [] (x := .int .u32 z) (t := u32s t) K2
            rw [u32s_len] at hcap hA
            simp only [List.length_cons, Value.slice.injEq] at hv
            obtain ⟨rfl, hq, rfl⟩ := hv
            clear hq
            have hzz : (z != z) = false := bne_self_eq_false _
            have hl0 : ((((t.length + 1 : Nat) : Int)) == 0) = false := beq_eq_false_iff_ne.2 (by omega)
            have hl1 : (((t.length : Nat) : Int) + 1 == 0) = false := beq_eq_false_iff_ne.2 (by omega)
            have hg7 := cell_lt hcz
            have HA := hide hA
            have HB2 := hide hB
            clear hp hu JT K2 hA hB
            by_cases hc1 : c7 = 1
            · obtain ⟨ht, K3⟩ := HB2.out hc1
              have ht0 : t = [] := u32s_nil ht
              subst ht0
              subst hc1
              have K3' := hide K3
              clear K3 ht HA HB2
              go_wp2_with fail
              go_roundw
              case rel => exact ⟨k + 1, [], by go_num, by omega, by simp, K3'⟩
              case measure => simp [intOf]; omega
            · have K3 := hide (HA.out hc1)
              have hc1' : ¬ 1 = c7 := fun e => hc1 e.symm
              have hc2 : (1 : Int) ≤ (t.length : Int) + 1 := by omega
              clear HA HB2
              go_wp2_with fail
              go_roundw
              case rel => exact ⟨k + 1, t, by go_num, by omega, by have := HB.out; simp only [List.length_cons] at this; omega, K3⟩
              case measure => simp [intOf]; omega
      · obtain rfl : k = l.length + 65 := by omega
        have hws : ws = [] := by
          rw [← List.length_eq_zero_iff]
          have := HB.out
          omega
        subst hws
        have JN := hide (len_any (i := 0) (HK.out.get (A := AsLs g gr (S1 n [])) (List.Mem.tail _ (List.Mem.head _))))
        rw [len1, List.length_nil] at JN
        have hlt65i : ¬ ((l.length + 65 : Nat) : Int) < (l.length : Int) + 65 := by omega
        have HX := hide HK.out.toExt
        clear HK
        go_wp2_with fail
        (with_reducible refine JN.out.mono ?_)
        rintro e w2 ⟨rfl, rfl⟩
        go_wp2_with fail
        (with_reducible refine (awake_any _).mono ?_)
        rintro e w3 ⟨rfl, hx⟩
        have HX2 := hide (HX.out.trans hx)
        clear hx
        go_wp2_with fail
        go_ret
        exact ⟨rfl, HX2.out⟩
end Go.Proofs.Yteecgieigjfjiaa

