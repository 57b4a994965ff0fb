/- Lists of waiters: the law WaitlistNone walked. -/
import Derived.Test.YteecgieigjfjiaaWA
import Derived.Test.YteecgieigjfjiaaW15
namespace Go.Proofs.Yteecgieigjfjiaa
open Go.RowKit Go.Gr Go.Wl
set_option linter.unusedVariables false
set_option linter.unusedSimpArgs false
/-- no lists: nil, or not returned by New -/
def NoLs (w : World) (v : Value) : Prop := v = .pointer none ∨ ∃ g, v = pt g ∧ Blk w g 56 [.slice none 0 0]
theorem refs_oneN (g : Nat) : ∀ v ∈ [Value.pointer none, pt g], v.oneCell' = true := by
  intro v hv
  simp at hv
  rcases hv with rfl | rfl <;> rfl
theorem of_no {w : World} {v : Value} (h : NoLs w v) (i : Int) : Calls Try.prog 24 #[v, .int .i64 i] w fun e w' => e = .returned (.tuple #[.pointer none, .int .i64 1]) ∧ w = w' := by
  rcases h with rfl | ⟨g, rfl, hB⟩
  · exact of_nil i w
  · exact of_none i hB
theorem savn {w : World} {v : Value} (h : NoLs w v) : Calls Try.prog 15 #[v] w fun e w' => e = .returned (.slice none 0 0) ∧ w = w' := by
  rcases h with rfl | ⟨g, rfl, hB⟩
  · exact save_nil w
  · exact save_none hB
theorem join_no {w : World} {v : Value} (h : NoLs w v) (i o : Int) : Calls Try.prog 11 #[v, .int .i64 i, .int .u32 o] w fun e w' => e = .returned (.tuple #[.int .i64 0, .int .i64 1]) ∧ w = w' := by
  have H := hide (of_no h i)
  clear h
  go_enter Try.func11, Try.ntmps11
  go_wp2_with fail
  (with_reducible refine H.out.mono ?_)
  rintro e w1 ⟨rfl, rfl⟩
  go_wp2_with fail
  go_ret2
  exact ⟨rfl, rfl⟩
theorem placn {w : World} {v : Value} (h : NoLs w v) (i o : Int) : Calls Try.prog 14 #[v, .int .i64 i, .int .u32 o] w fun e w' => e = .returned (.tuple #[.int .i64 0, .int .i64 1]) ∧ w = w' := by
  have H := hide (of_no h i)
  clear h
  go_enter Try.func14, Try.ntmps14
  go_wp2_with fail
  (with_reducible refine H.out.mono ?_)
  rintro e w1 ⟨rfl, rfl⟩
  go_wp2_with fail
  go_ret2
  exact ⟨rfl, rfl⟩
theorem firsn {w : World} {v : Value} (h : NoLs w v) (i : Int) : Calls Try.prog 21 #[v, .int .i64 i] w fun e w' => e = .returned (.tuple #[.int .u32 0, .int .i64 1]) ∧ w = w' := by
  have H := hide (of_no h i)
  clear h
  go_enter Try.func21, Try.ntmps21
  go_wp2_with fail
  (with_reducible refine H.out.mono ?_)
  rintro e w1 ⟨rfl, rfl⟩
  go_wp2_with fail
  go_ret2
  exact ⟨rfl, rfl⟩
theorem lenn {w : World} {v : Value} (h : NoLs w v) (i : Int) : Calls Try.prog 20 #[v, .int .i64 i] w fun e w' => e = .returned (.tuple #[.int .i64 0, .int .i64 1]) ∧ w = w' := by
  have H := hide (of_no h i)
  clear h
  go_enter Try.func20, Try.ntmps20
  go_wp2_with fail
  (with_reducible refine H.out.mono ?_)
  rintro e w1 ⟨rfl, rfl⟩
  go_wp2_with fail
  go_ret2
  exact ⟨rfl, rfl⟩
theorem taken {w : World} {v : Value} (h : NoLs w v) (i : Int) : Calls Try.prog 13 #[v, .int .i64 i] w fun e w' => e = .returned (.tuple #[.int .u32 0, .int .i64 1]) ∧ w = w' := by
  have H := hide (firsn h i)
  clear h
  go_enter Try.func13, Try.ntmps13
  go_wp2_with fail
  (with_reducible refine H.out.mono ?_)
  rintro e w1 ⟨rfl, rfl⟩
  go_wp2_with fail
  go_ret2
  exact ⟨rfl, rfl⟩
theorem leavn {w : World} {v : Value} (h : NoLs w v) (i o : Int) : Calls Try.prog 12 #[v, .int .i64 i, .int .u32 o] w fun e w' => e = .returned (.int .i64 1) ∧ w = w' := by
  have H := hide (placn h i o)
  clear h
  go_enter Try.func12, Try.ntmps12
  go_wp2_with fail
  (with_reducible refine H.out.mono ?_)
  rintro e w1 ⟨rfl, rfl⟩
  go_wp2_with fail
  go_ret
  exact ⟨rfl, rfl⟩
set_option maxRecDepth 100000 in
set_option maxHeartbeats 4000000 in
theorem none_law (w : World) (s : Int) (hs : -9223372036854775808 ≤ s ∧ s ≤ 9223372036854775807) (o : Int) (ho : 0 ≤ o ∧ o < 4294967296) (p : Int) (hp : 0 ≤ p ∧ p < 4294967296) : Calls Try.prog 7 #[.int .i64 s, .int .u32 o, .int .u32 p] w fun e w' => e = .returned (.bool true) ∧ Ext w w' := by
  have H0 : Sep No w (w.alloc (.cells #[.slice none 0 0] 56)) [As.blk w.heap.size 56 [.slice none 0 0]] := Sep.add (Sep.refl No w) 56 [.slice none 0 0]
  have HO := hide ho
  have HP := hide hp
  have tok1 : True := trivial
  have tok2 : True := trivial
  go_enter Try.func7, Try.ntmps7
  go_upto_region 3 with (first
    | (have zz := tok1; clear zz tok1; refine wpList_alS H0 rfl 57 rfl [.pointer none, .pointer none] (by kernel_rfl) ?_; intro w1 hz1 K1; clear hz1)
    | (have zz := tok2; clear zz tok2; refine wpList_stS [] K1 rfl 57 (.tmp 8) (.tmp 30) rfl rfl (cs := [.pointer none, pt w.heap.size]) rfl (by kernel_rfl) rfl (refs_oneN _) ?_; intro w2 K2; dsimp only [List.nil_append] at K2; clear K1))
  rw [show (World.alloc w (.cells #[.slice none 0 0] 56)).heap.size = w.heap.size + 1 by simp] at K2
  obtain ⟨g1, G1⟩ : ∃ g, w.heap.size = g := ⟨_, rfl⟩
  simp only [show (World.alloc w (.cells #[.slice none 0 0] 56)).heap.size = w.heap.size + 1 by simp]
  rw [G1] at K2 ⊢
  have K3 := hide K2
  have hG1 := hide G1
  clear K2 G1 H0
  go_wp2_with fail
  go_loopw [9] (fun i wr => ∃ k : Nat, i = .int .i64 k ∧ k ≤ 2 ∧ Hid (Sep No w wr [As.blk (g1 + 1) 57 [.pointer none, pt g1], As.blk g1 56 [.slice none 0 0]])) (fun i _ => 2 - (intOf i).toNat)
  case atStart => exact ⟨0, rfl, by omega, K3⟩
  case round =>
    obtain ⟨k, rfl, hk, HK⟩ := hrel
    clear K3
    by_cases hlt : k < 2
    · have hlti : (k : Int) < 2 := by omega
      have hB := HK.out.blk (g := g1 + 1) (e := 57) (List.Mem.head _)
      obtain ⟨v, cv, hv⟩ : ∃ v, wr.cell? ⟨g1 + 1, k, none⟩ = some v ∧ NoLs wr v := by
        rcases (show k = 0 ∨ k = 1 by omega) with rfl | rfl
        · exact ⟨.pointer none, hB.cell 0, .inl rfl⟩
        · exact ⟨pt g1, hB.cell 1, .inr ⟨g1, rfl, HK.out.blk (g := g1) (List.Mem.tail _ (List.Mem.head _))⟩⟩
      have hgl := hB.lt
      have HV := hide hv
      clear hB hv
      go_wp2_with fail
      (with_reducible refine (join_no HV.out s o).mono ?_)
      rintro e wx ⟨rfl, rfl⟩
      go_wp2_with fail
      (with_reducible refine (placn HV.out s o).mono ?_)
      rintro e wx ⟨rfl, rfl⟩
      go_wp2_with fail
      (with_reducible refine (firsn HV.out s).mono ?_)
      rintro e wx ⟨rfl, rfl⟩
      go_wp2_with fail
      (with_reducible refine (taken HV.out s).mono ?_)
      rintro e wx ⟨rfl, rfl⟩
      go_wp2_with fail
      (with_reducible refine (lenn HV.out s).mono ?_)
      rintro e wx ⟨rfl, rfl⟩
      go_wp2_with fail
      (with_reducible refine (leavn HV.out s o).mono ?_)
      rintro e wx ⟨rfl, rfl⟩
      go_wp2_with fail
      (with_reducible refine (savn HV.out).mono ?_)
      rintro e wx ⟨rfl, rfl⟩
      go_wp2_with fail
      go_roundw
      case rel => exact ⟨k + 1, by go_num, by omega, HK⟩
      case measure => simp [intOf]; omega
    · obtain rfl : k = 2 := by omega
      have H1 : Sep No wr (wr.alloc (.cells #[.int .i64 5] 3)) [As.blk wr.heap.size 3 (i64s [5])] := Sep.add (Sep.refl No wr) 3 (i64s [5])
      have HN := hide (new_any [5] (some ⟨wr.heap.size, 0, none⟩) 1 _ (H1.blk (g := wr.heap.size) (e := 3) (cs := i64s [5]) (List.Mem.head _)).rd (by decide))
      rw [show ([5] : List Int).length = 1 from rfl, show newS [5] = S1 5 [] from rfl] at HN
      have HX0 := hide (HK.out.toExt.trans H1.toExt)
      clear H1 HK
      go_wp2_with fail
      (with_reducible refine HN.out.mono ?_)
      rintro e w3 ⟨h1, _⟩
      obtain ⟨g, gr, rfl, hS⟩ := h1 (by decide)
      have K : Sep No w w3 [AsLs g gr (S1 5 [])] := (Sep.refl No w).ext HX0.out |>.joinW hS
      clear hS HN HX0 h1
      have J := hide (join_any (i := 0) (o := p) (K.get (A := AsLs g gr (S1 5 [])) (List.Mem.head _)) HP.out)
      rw [join1_ok (by simp) (by simp), List.nil_append, show ((([] : List Int).length : Nat) : Int) + 1 = 1 from rfl] at J
      have KK := hide K
      clear K
      go_wp2_with fail
      (with_reducible refine J.out.mono ?_)
      rintro e w4 ⟨rfl, hp4, hu4⟩
      have K := sep_ls [] KK.out hp4 hu4
      clear KK hp4 hu4 J
      have J := hide (save_any (K.get (A := AsLs g gr (S1 5 [p])) (List.Mem.head _)))
      have KK := hide K
      clear K
      go_wp2_with fail
      (with_reducible refine J.out.mono ?_)
      rintro e w5 ⟨B, vs, rfl, hS⟩
      have K := KK.out.joinW hS
      dsimp only [List.singleton_append] at K
      clear KK hS J
      have J := hide (join_any (i := 0) (o := o) (K.get (A := AsLs g gr (S1 5 [p])) (List.Mem.tail _ (List.Mem.head _))) HO.out)
      by_cases hop : o = p
      · subst hop
        rw [join1_twice (by simp) (by simp)] at J
        have KK := hide K
        clear K
        go_wp2_with fail
        (with_reducible refine J.out.mono ?_)
        rintro e w6 ⟨rfl, hp6, hu6⟩
        have K := sep_ls [_] KK.out hp6 hu6
        dsimp only [List.singleton_append] at K
        clear KK hp6 hu6 J
        have e1 : (o != o) = false := bne_self_eq_false _
        have J := hide (save_any (K.get (A := AsLs g gr (S1 5 [o])) (List.Mem.tail _ (List.Mem.head _))))
        have KK := hide K
        clear K
        go_wp2_with fail
        (with_reducible refine J.out.mono ?_)
        rintro e y1 ⟨B2, vs2, rfl, hS⟩
        have K := KK.out.ext hS.toExt
        have J2 := hide (same_any [[o]] [[o]] vs vs2 B B2 1 1 y1 (K.get (A := AsRows B vs [[o]]) (List.Mem.head _)) (hS.get (A := AsRows B2 vs2 [[o]]) (List.Mem.head _)) (by simp) (by simp) (by simp) (by simp))
        rw [decide_eq_true rfl, show ([[o]] : List (List Int)).length = 1 from rfl] at J2
        have KK := hide K
        clear hS J K
        go_wp2_with fail
        (with_reducible refine J2.out.mono ?_)
        rintro e y2 ⟨rfl, hx⟩
        have K := KK.out.ext hx
        clear KK hx J2
        have J := hide (take_any (i := 0) (K.get (A := AsLs g gr (S1 5 [o])) (List.Mem.tail _ (List.Mem.head _))))
        rw [take1_ok] at J
        have KK := hide K
        clear K
        go_wp2_with fail
        (with_reducible refine J.out.mono ?_)
        rintro e y3 ⟨rfl, hpz, huz⟩
        have K := sep_ls [_] KK.out hpz huz
        dsimp only [List.singleton_append] at K
        clear KK hpz huz J
        have J := hide (join_any (i := 0) (o := o) (K.get (A := AsLs g gr (S1 5 [])) (List.Mem.tail _ (List.Mem.head _))) HO.out)
        rw [join1_ok (by simp) (by simp), List.nil_append, show ((([] : List Int).length : Nat) : Int) + 1 = 1 from rfl] at J
        have KK := hide K
        clear K
        go_wp2_with fail
        (with_reducible refine J.out.mono ?_)
        rintro e y4 ⟨rfl, hpz, huz⟩
        have K := sep_ls [_] KK.out hpz huz
        dsimp only [List.singleton_append] at K
        clear KK hpz huz J
        have J := hide (save_any (K.get (A := AsLs g gr (S1 5 [o])) (List.Mem.tail _ (List.Mem.head _))))
        have KK := hide K
        clear K
        go_wp2_with fail
        (with_reducible refine J.out.mono ?_)
        rintro e y5 ⟨B3, vs3, rfl, hS⟩
        have K := KK.out.ext hS.toExt
        have J2 := hide (same_any [[o]] [[o]] vs vs3 B B3 1 1 y5 (K.get (A := AsRows B vs [[o]]) (List.Mem.head _)) (hS.get (A := AsRows B3 vs3 [[o]]) (List.Mem.head _)) (by simp) (by simp) (by simp) (by simp))
        rw [decide_eq_true rfl, show ([[o]] : List (List Int)).length = 1 from rfl] at J2
        have KK := hide K
        clear hS J K
        go_wp2_with fail
        (with_reducible refine J2.out.mono ?_)
        rintro e y6 ⟨rfl, hx⟩
        have HX := hide (KK.out.ext hx).toExt
        clear KK hx J2
        go_wp2_with fail
        (with_reducible refine (awake_any _).mono ?_)
        rintro e y7 ⟨rfl, hx⟩
        have HX2 := hide (HX.out.trans hx)
        clear hx
        go_wp2_with fail
        go_ret
        exact ⟨rfl, HX2.out⟩
      · rw [join1_ok (by simp) (by simpa using hop)] at J
        have KK := hide K
        clear K
        go_wp2_with fail
        (with_reducible refine J.out.mono ?_)
        rintro e w6 ⟨rfl, hp6, hu6⟩
        have K := sep_ls [_] KK.out hp6 hu6
        dsimp only [List.singleton_append] at K
        clear KK hp6 hu6 J
        have e1 : (o != p) = true := bne_iff_ne.2 hop
        have J := hide (leave_any (i := 0) (o := o) (K.get (A := AsLs g gr (S1 5 [p, o])) (List.Mem.tail _ (List.Mem.head _))))
        have hix : ([p, o] : List Int).idxOf o = 1 := idxOf_first _ _ 1 rfl (fun j hj => by
          obtain rfl : j = 0 := by omega
          simpa using fun e => hop e.symm)
        rw [leave1_ok (by simp), hix, show ([p, o] : List Int).eraseIdx 1 = [p] from rfl] at J
        have KK := hide K
        clear K hix
        go_wp2_with fail
        (with_reducible refine J.out.mono ?_)
        rintro e w7 ⟨rfl, hp7, hu7⟩
        have K := sep_ls [_] KK.out hp7 hu7
        dsimp only [List.singleton_append] at K
        clear KK hp7 hu7 J
        have J := hide (save_any (K.get (A := AsLs g gr (S1 5 [p])) (List.Mem.tail _ (List.Mem.head _))))
        have KK := hide K
        clear K
        go_wp2_with fail
        (with_reducible refine J.out.mono ?_)
        rintro e y1 ⟨B2, vs2, rfl, hS⟩
        have K := KK.out.ext hS.toExt
        have J2 := hide (same_any [[p]] [[p]] vs vs2 B B2 1 1 y1 (K.get (A := AsRows B vs [[p]]) (List.Mem.head _)) (hS.get (A := AsRows B2 vs2 [[p]]) (List.Mem.head _)) (by simp) (by simp) (by simp) (by simp))
        rw [decide_eq_true rfl, show ([[p]] : List (List Int)).length = 1 from rfl] at J2
        have KK := hide K
        clear hS J K
        go_wp2_with fail
        (with_reducible refine J2.out.mono ?_)
        rintro e y2 ⟨rfl, hx⟩
        have K := KK.out.ext hx
        clear KK hx J2
        have J := hide (take_any (i := 0) (K.get (A := AsLs g gr (S1 5 [p])) (List.Mem.tail _ (List.Mem.head _))))
        rw [take1_ok] at J
        have KK := hide K
        clear K
        go_wp2_with fail
        (with_reducible refine J.out.mono ?_)
        rintro e y3 ⟨rfl, hpz, huz⟩
        have K := sep_ls [_] KK.out hpz huz
        dsimp only [List.singleton_append] at K
        clear KK hpz huz J
        have J := hide (join_any (i := 0) (o := p) (K.get (A := AsLs g gr (S1 5 [])) (List.Mem.tail _ (List.Mem.head _))) HP.out)
        rw [join1_ok (by simp) (by simp), List.nil_append, show ((([] : List Int).length : Nat) : Int) + 1 = 1 from rfl] at J
        have KK := hide K
        clear K
        go_wp2_with fail
        (with_reducible refine J.out.mono ?_)
        rintro e y4 ⟨rfl, hpz, huz⟩
        have K := sep_ls [_] KK.out hpz huz
        dsimp only [List.singleton_append] at K
        clear KK hpz huz J
        have J := hide (save_any (K.get (A := AsLs g gr (S1 5 [p])) (List.Mem.tail _ (List.Mem.head _))))
        have KK := hide K
        clear K
        go_wp2_with fail
        (with_reducible refine J.out.mono ?_)
        rintro e y5 ⟨B3, vs3, rfl, hS⟩
        have K := KK.out.ext hS.toExt
        have J2 := hide (same_any [[p]] [[p]] vs vs3 B B3 1 1 y5 (K.get (A := AsRows B vs [[p]]) (List.Mem.head _)) (hS.get (A := AsRows B3 vs3 [[p]]) (List.Mem.head _)) (by simp) (by simp) (by simp) (by simp))
        rw [decide_eq_true rfl, show ([[p]] : List (List Int)).length = 1 from rfl] at J2
        have KK := hide K
        clear hS J K
        go_wp2_with fail
        (with_reducible refine J2.out.mono ?_)
        rintro e y6 ⟨rfl, hx⟩
        have HX := hide (KK.out.ext hx).toExt
        clear KK hx J2
        go_wp2_with fail
        (with_reducible refine (awake_any _).mono ?_)
        rintro e y7 ⟨rfl, hx⟩
        have HX2 := hide (HX.out.trans hx)
        clear hx
        go_wp2_with fail
        go_ret
        exact ⟨rfl, HX2.out⟩
end Go.Proofs.Yteecgieigjfjiaa

