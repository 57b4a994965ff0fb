/- Lists of waiters: the law WaitlistPlaces walked. -/
import Derived.Test.YteecgieigjfjiaaWA
import Derived.Test.YteecgieigjfjiaaW15
import Derived.Deep.CutBlock
import Derived.Deep.DeepCutAuto
namespace Go.Proofs.Yteecgieigjfjiaa
open Go.RowKit Go.Gr Go.Wl
set_option linter.unusedVariables false
set_option linter.unusedSimpArgs false
set_option maxRecDepth 100000 in
set_option maxHeartbeats 4000000 in
theorem places_law (w : World) (b : Int) (hb : 0 ≤ b ∧ b < 256) (v1 : Value) (h1 : LfOk Try.prog w (.slice 31) v1) (o : Int) (ho : 0 ≤ o ∧ o < 4294967296) : Calls Try.prog 3 #[.int .u8 b, v1, .int .u32 o] w fun e w' => e = .returned (.bool true) ∧ Ext w w' := by
  obtain ⟨A, l, c, rfl, hr, hok, hc, hm⟩ := callsA h1
  clear h1
  by_cases hs : 200 < l.length
  · have d1 : (200 : Int) < (l.length : Int) := by omega
    clear hr hok hs
    go_enter Try.func3, Try.ntmps3
    go_wp2_with fail
    (with_reducible refine (awake_any _).mono ?_)
    rintro e w1 ⟨rfl, hx⟩
    go_wp2_with fail
    go_ret
    exact ⟨rfl, hx⟩
  · have d1 : ¬ (200 : Int) < (l.length : Int) := by omega
    have HR := hide hr
    have HOK := hide hok
    obtain ⟨n, hn⟩ : ∃ n : Nat, b.tmod 65 = (n : Int) := ⟨(b % 65).toNat, by rw [Int.tmod_eq_emod_of_nonneg hb.1]; omega⟩
    have hn64 : n ≤ 64 := by rw [Int.tmod_eq_emod_of_nonneg hb.1] at hn; omega
    have hwn : IntKind.i64.wrap (n : Int) = (n : Int) := IntWalk.i64_in _ (by omega)
    have H0 : Sep No w (w.alloc (.cells #[.int .i64 (n : Int)] 3)) [As.blk w.heap.size 3 (i64s [(n : Int)])] := Sep.add (Sep.refl No w) 3 (i64s [(n : Int)])
    have hlim : limE [(n : Int)] = 0 := by
      unfold limE
      rw [if_neg (by simp), if_pos (by intro x hx; simp at hx; omega)]
    have HN := hide (new_any [(n : Int)] (some ⟨w.heap.size, 0, none⟩) 1 _ (H0.blk (g := w.heap.size) (e := 3) (cs := i64s [(n : Int)]) (List.Mem.head _)).rd (by simp))
    rw [show ([(n : Int)] : List Int).length = 1 from rfl, show newS [(n : Int)] = S1 n [] by simp [newS]] at HN
    have HX0 := hide H0.toExt
    have HLIM := hide hlim
    clear hr hok hs H0 hlim
    go_enter Try.func3, Try.ntmps3
    go_wp2_with fail
    (with_reducible refine HN.out.mono ?_)
    rintro e w1 ⟨h1, _⟩
    obtain ⟨g, gr, rfl, hS⟩ := h1 HLIM.out
    have K0 := hide (((Sep.refl No w).ext HX0.out).joinW hS)
    clear hS HN HX0 h1
    go_wp2_with fail
    go_loopw [9, 10] (fun was i wr => ∃ (k : Nat) (ws : List Int), was = .int .i64 (placeS (S1 n ws) 0 o).1 ∧ i = .int .i64 k ∧ k ≤ l.length ∧ Hid (Sep No w wr [AsLs g gr (S1 n ws)])) (fun _ i _ => l.length - (intOf i).toNat)
    case atStart => exact ⟨0, [], by rw [place1_no (by simp)], rfl, by omega, K0⟩
    case round =>
      obtain ⟨k, ws, rfl, rfl, hk, HK⟩ := hrel
      clear K0
      by_cases hlt : k < l.length
      · have hlti : (k : Int) < (l.length : Int) := by omega
        obtain ⟨bb, off, hA, cw, _, co, hlb⟩ := call_at (HR.out.ext HK.out.toExt) hlt
        subst hA
        obtain ⟨⟨hw0, hw1⟩, _, ho0, ho1⟩ := HOK.out _ (List.getElem_mem hlt)
        obtain ⟨x, HXx⟩ : ∃ x, Hid (l[k].what = x) := ⟨_, hide rfl⟩
        obtain ⟨y, HYy⟩ : ∃ y, Hid (l[k].own = y) := ⟨_, hide rfl⟩
        rw [HXx.out] at cw hw0 hw1
        rw [HYy.out] at co ho0 ho1
        obtain ⟨m, hm, hm8⟩ := mod8 ⟨hw0, hw1⟩
        obtain ⟨wz, HWZ⟩ : ∃ wz, Hid ((placeS (S1 n ws) 0 o).1 = wz) := ⟨_, hide rfl⟩
        rw [HWZ.out]
        go_upto_block 2 with fail
        go_cut [] (fun wx => ∃ ws', Step ws ws' ∧ Hid (Sep No w wx [AsLs g gr (S1 n ws')]))
        case first =>
          have HJ := hide (step_join n ws y)
          have HL := hide (step_leave n ws y)
          have HT := hide (step_take n ws)
          have JJ := hide (join_any (i := 0) (o := y) (HK.out.get (A := AsLs g gr (S1 n ws)) (List.Mem.head _)) ⟨ho0, ho1⟩)
          have JL := hide (leave_any (i := 0) (o := y) (HK.out.get (A := AsLs g gr (S1 n ws)) (List.Mem.head _)))
          have JT := hide (take_any (i := 0) (HK.out.get (A := AsLs g gr (S1 n ws)) (List.Mem.head _)))
          rcases hm8 with rfl | rfl | rfl | rfl | rfl | rfl | rfl | rfl
          all_goals clear hm
          · go_wp2_with fail
            (with_reducible refine JJ.out.mono ?_)
            rintro e w2 ⟨rfl, hp, hu⟩
            obtain ⟨ws', e', hst⟩ := HJ.out
            rw [e'] at hp
            have K2 := hide (sep_ls [] HK.out hp hu)
            clear hp hu e'
            go_wp2_with fail
            go_meet
            case rel => exact ⟨ws', hst, K2⟩
          · go_wp2_with fail
            (with_reducible refine JJ.out.mono ?_)
            rintro e w2 ⟨rfl, hp, hu⟩
            obtain ⟨ws', e', hst⟩ := HJ.out
            rw [e'] at hp
            have K2 := hide (sep_ls [] HK.out hp hu)
            clear hp hu e'
            go_wp2_with fail
            go_meet
            case rel => exact ⟨ws', hst, K2⟩
          · go_wp2_with fail
            (with_reducible refine JL.out.mono ?_)
            rintro e w2 ⟨rfl, hp, hu⟩
            obtain ⟨ws', e', hst⟩ := HL.out
            rw [e'] at hp
            have K2 := hide (sep_ls [] HK.out hp hu)
            clear hp hu e'
            go_wp2_with fail
            go_meet
            case rel => exact ⟨ws', hst, K2⟩
          · go_wp2_with fail
            go_meet
            case rel => exact ⟨ws, .same _, HK⟩
          · go_wp2_with fail
            go_meet
            case rel => exact ⟨ws, .same _, HK⟩
          · go_wp2_with fail
            (with_reducible refine JT.out.mono ?_)
            rintro e w2 ⟨rfl, hp, hu⟩
            obtain ⟨ws', e', hst⟩ := HT.out
            rw [e'] at hp
            have K2 := hide (sep_ls [] HK.out hp hu)
            clear hp hu e'
            go_wp2_with fail
            go_meet
            case rel => exact ⟨ws', hst, K2⟩
          · go_wp2_with fail
            (with_reducible refine JT.out.mono ?_)
            rintro e w2 ⟨rfl, hp, hu⟩
            obtain ⟨ws', e', hst⟩ := HT.out
            rw [e'] at hp
            have K2 := hide (sep_ls [] HK.out hp hu)
            clear hp hu e'
            go_wp2_with fail
            go_meet
            case rel => exact ⟨ws', hst, K2⟩
          · go_wp2_with fail
            go_meet
            case rel => exact ⟨ws, .same _, HK⟩
        case rest =>
          obtain ⟨ws', hst, HK2⟩ := hcut
          have HST := hide hst
          have JP := hide (place_any (i := 0) (o := o) (HK2.out.get (A := AsLs g gr (S1 n ws')) (List.Mem.head _)))
          obtain ⟨R0, hL0, hS0⟩ := HK.out.get (A := AsLs g gr (S1 n ws)) (List.Mem.head _)
          have hnod : ws.Nodup := by
            have := hL0.ok.all (n, ws) (by rw [hS0]; simp)
            exact this.nod
          have HND := hide hnod
          clear hst hL0 hS0 hnod cw co hlb hm hm8 HK
          by_cases hin : o ∈ ws'
          · rw [place1_ok hin] at JP
            obtain ⟨j, HJ⟩ : ∃ j, Hid (ws'.idxOf o = j) := ⟨_, hide rfl⟩
            rw [HJ.out] at JP
            have hjl : j < ws'.length := by rw [← HJ.out]; exact idxOf_lt hin
            have hget : ws'[j]? = some o := by rw [← HJ.out]; exact get_idxOf hin
            have HG : Hid (ws'[j] = o) := hide (by rw [List.getElem?_eq_getElem hjl] at hget; exact Option.some.inj hget)
            have HPL : Hid ((placeS (S1 n ws') 0 o).1 = (j : Int) + 1) := hide (by rw [place1_ok hin, HJ.out])
            have HWB : Hid (wz = 0 ∨ (j : Int) + 1 ≤ wz) := hide (by
              by_cases hin0 : o ∈ ws
              · right
                rw [← HWZ.out, place1_ok hin0, ← HJ.out]
                have := HST.out.idx HND.out hin0 hin
                simp only
                omega
              · left
                rw [← HWZ.out, place1_no hin0])
            have hj1 : ¬ (j : Int) + 1 < 1 := by omega
            have hwj : IntKind.i64.wrap (j : Int) = (j : Int) := by
              obtain ⟨R1, hL1, hS1⟩ := HK2.out.get (A := AsLs g gr (S1 n ws')) (List.Mem.head _)
              have h64 := (hL1.ok.all (n, ws') (by rw [hS1]; simp))
              have h1 := h64.len
              have h2 := h64.lim
              simp only at h1 h2
              exact IntWalk.i64_in _ (by omega)
            have hw1 : IntKind.i64.wrap ((j : Int) + 1 - 1) = (j : Int) := by rw [show (j : Int) + 1 - 1 = j by omega]; exact hwj
            have hw2 : (j : Int) + 1 - 1 = j := by omega
            have hjl2 : ¬ (ws'.length : Int) < (j : Int) + 1 := by omega
            have hjli : (j : Int) < (ws'.length : Int) := by omega
            clear hget
            go_wp2_with fail
            (with_reducible refine JP.out.mono ?_)
            rintro e w3 ⟨rfl, hx3⟩
            have K3 := HK2.out.ext hx3
            have JS := hide (save_any (K3.get (A := AsLs g gr (S1 n ws')) (List.Mem.head _)))
            have KK := hide K3
            clear hx3 K3 HK2 JP
            go_wp2_with fail
            (with_reducible refine JS.out.mono ?_)
            rintro e w4 ⟨B, vs, rfl, hS⟩
            obtain ⟨hrB, hrows⟩ := hS.get (A := AsRows B vs [ws']) (List.Mem.head _)
            obtain ⟨v, hv, C, cr, rfl, hcr, hrC⟩ := hrows.get (j := 0) (by simp)
            obtain ⟨bd, hB, cB⟩ := hrB 0 _ hv
            subst hB
            obtain ⟨cd, hC, cC⟩ := u32s_at hrC (k := j) hjl
            subst hC
            rw [add0, show ([ws'][0]).length = ws'.length from rfl] at cB
            have HGG := HG.out
            rw [show ([ws'][0])[j]'(by exact hjl) = ws'[j] from rfl, HGG] at cC
            have K4 := hide (KK.out.ext hS.toExt)
            have e1 : (o != o) = false := bne_self_eq_false _
            clear hS hrB hrows hv hcr hrC KK JS HGG
            rcases HWB.out with rfl | hwz
            · go_wp2_with fail
              go_roundw
              case rel => exact ⟨k + 1, ws', by rw [HPL.out], by go_num, by omega, K4⟩
              case measure => simp [intOf]; omega
            · have hwz2 : ¬ wz < (j : Int) + 1 := by omega
              have hwz3 : (0 : Int) < wz := by omega
              go_wp2_with fail
              go_roundw
              case rel => exact ⟨k + 1, ws', by rw [HPL.out], by go_num, by omega, K4⟩
              case measure => simp [intOf]; omega
          · rw [place1_no hin] at JP
            have HPL : Hid ((placeS (S1 n ws') 0 o).1 = 0) := hide (by rw [place1_no hin])
            go_wp2_with fail
            (with_reducible refine JP.out.mono ?_)
            rintro e w3 ⟨rfl, hx3⟩
            have K3 := HK2.out.ext hx3
            have JS := hide (save_any (K3.get (A := AsLs g gr (S1 n ws')) (List.Mem.head _)))
            have KK := hide K3
            clear hx3 K3 HK2 JP
            go_wp2_with fail
            (with_reducible refine JS.out.mono ?_)
            rintro e w4 ⟨B, vs, rfl, hS⟩
            have K4 := hide (KK.out.ext hS.toExt)
            clear hS KK JS
            go_wp2_with fail
            go_roundw
            case rel => exact ⟨k + 1, ws', by rw [HPL.out], by go_num, by omega, K4⟩
            case measure => simp [intOf]; omega
      · have hlti : ¬ (k : Int) < (l.length : Int) := by omega
        go_wp2_with fail
        (with_reducible refine (awake_any _).mono ?_)
        rintro e w2 ⟨rfl, hx⟩
        have HX := hide (HK.out.toExt.trans hx)
        clear hx
        go_wp2_with fail
        go_ret
        exact ⟨rfl, HX.out⟩
end Go.Proofs.Yteecgieigjfjiaa
