/- Lists of waiters: the law's own look. -/
import Derived.Test.YteecgieigjfjiaaW14
import Derived.Test.YteecgieigjfjiaaW11
namespace Go.Proofs.Yteecgieigjfjiaa
open Go.RowKit Go.Gr Go.Wl
set_option linter.unusedVariables false
set_option linter.unusedSimpArgs false
attribute [local go_sem] rdOp rdAt rdUpon Cls forall_fr
theorem sep_ls {G : Nat → Prop} {w0 w w' : World} (L1 : List As) {L2 : List As} {g gr : Nat} {S S' : St} (K : Sep G w0 w (L1 ++ AsLs g gr S :: L2)) (hp : (AsLs g gr S').p w') (hu : Upd gr w w') : Sep G w0 w' (L1 ++ AsLs g gr S' :: L2) :=
  K.upd (B := AsLs g gr S') (Fr.of_upd hu) (fun i hi => .inr hi) hp (fun _ h => .inl h)
theorem row_lit {w : World} {g : Nat} {e : TypeId} (r : List Int) (h : Blk w g e (u32s r)) : IsRow w (.slice (some ⟨g, 0, none⟩) r.length r.length) r := ⟨_, _, rfl, Nat.le_refl _, h.rd⟩
set_option maxRecDepth 100000 in
set_option maxHeartbeats 2000000 in
theorem awake_any (w : World) : Calls Try.prog 9 #[] w fun e w' => e = .returned (.bool true) ∧ Ext w w' := by
  have H0 : Sep No w (w.alloc (.cells #[.int .i64 2, .int .i64 0] 3)) [As.blk w.heap.size 3 (i64s [2, 0])] := Sep.add (Sep.refl No w) 3 (i64s [2, 0])
  have HN := hide (new_any [2, 0] (some ⟨w.heap.size, 0, none⟩) 2 _ (H0.blk (g := w.heap.size) (e := 3) (cs := i64s [2, 0]) (List.Mem.head _)).rd (by decide))
  rw [show ([2, 0] : List Int).length = 2 from rfl] at HN
  have K0 := hide H0.toExt
  clear H0
  go_enter Try.func9, Try.ntmps9
  go_wp2_with fail
  (with_reducible refine HN.out.mono ?_)
  rintro e w1 ⟨h1, _⟩
  obtain ⟨g, gr, rfl, hS⟩ := h1 (by decide)
  have K : Sep No w w1 [AsLs g gr [(2, []), (0, [])]] := (Sep.refl No w).ext K0.out |>.joinW hS
  clear hS HN K0
  have J := hide (join_any (i := 0) (o := 7) (K.get (A := AsLs g gr [(2, []), (0, [])]) (List.Mem.head _)) (by decide))
  rw [show joinS [(2, []), (0, [])] 0 7 = ([(2, [7]), (0, [])], 1, 0) by decide] at J
  have KK := hide K
  clear K
  go_wp2_with fail
  (with_reducible refine J.out.mono ?_)
  rintro e w2 ⟨rfl, hp, hu⟩
  have K := sep_ls [] KK.out hp hu
  clear KK hp hu J
  have J := hide (join_any (i := 0) (o := 5) (K.get (A := AsLs g gr [(2, [7]), (0, [])]) (List.Mem.head _)) (by decide))
  rw [show joinS [(2, [7]), (0, [])] 0 5 = ([(2, [7, 5]), (0, [])], 2, 0) by decide] at J
  have KK := hide K
  clear K
  go_wp2_with fail
  (with_reducible refine J.out.mono ?_)
  rintro e w3 ⟨rfl, hp, hu⟩
  have K := sep_ls [] KK.out hp hu
  clear KK hp hu J
  have J := hide (join_any (i := 0) (o := 7) (K.get (A := AsLs g gr [(2, [7, 5]), (0, [])]) (List.Mem.head _)) (by decide))
  rw [show joinS [(2, [7, 5]), (0, [])] 0 7 = ([(2, [7, 5]), (0, [])], 0, 5) by decide] at J
  have KK := hide K
  clear K
  go_wp2_with fail
  (with_reducible refine J.out.mono ?_)
  rintro e w4 ⟨rfl, hp, hu⟩
  have K := sep_ls [] KK.out hp hu
  clear KK hp hu J
  have J := hide (place_any (i := 0) (o := 5) (K.get (A := AsLs g gr [(2, [7, 5]), (0, [])]) (List.Mem.head _)))
  rw [show placeS [(2, [7, 5]), (0, [])] 0 5 = (2, 0) by decide] at J
  have KK := hide K
  clear K
  go_wp2_with fail
  (with_reducible refine J.out.mono ?_)
  rintro e w5 ⟨rfl, hx⟩
  have K := KK.out.ext hx
  clear KK hx J
  have J := hide (take_any (i := 0) (K.get (A := AsLs g gr [(2, [7, 5]), (0, [])]) (List.Mem.head _)))
  rw [show takeS [(2, [7, 5]), (0, [])] 0 = ([(2, [5]), (0, [])], 7, 0) by decide] at J
  have KK := hide K
  clear K
  go_wp2_with fail
  (with_reducible refine J.out.mono ?_)
  rintro e w6 ⟨rfl, hp, hu⟩
  have K := sep_ls [] KK.out hp hu
  clear KK hp hu J
  have J := hide (place_any (i := 0) (o := 5) (K.get (A := AsLs g gr [(2, [5]), (0, [])]) (List.Mem.head _)))
  rw [show placeS [(2, [5]), (0, [])] 0 5 = (1, 0) by decide] at J
  have KK := hide K
  clear K
  go_wp2_with fail
  (with_reducible refine J.out.mono ?_)
  rintro e w7 ⟨rfl, hx⟩
  have K := KK.out.ext hx
  clear KK hx J
  have J := hide (join_any (i := 1) (o := 5) (K.get (A := AsLs g gr [(2, [5]), (0, [])]) (List.Mem.head _)) (by decide))
  rw [show joinS [(2, [5]), (0, [])] 1 5 = ([(2, [5]), (0, [])], 0, 5) by decide] at J
  have KK := hide K
  clear K
  go_wp2_with fail
  (with_reducible refine J.out.mono ?_)
  rintro e w8 ⟨rfl, hp, hu⟩
  have K := sep_ls [] KK.out hp hu
  clear KK hp hu J
  have J := hide (join_any (i := 2) (o := 5) (K.get (A := AsLs g gr [(2, [5]), (0, [])]) (List.Mem.head _)) (by decide))
  rw [show joinS [(2, [5]), (0, [])] 2 5 = ([(2, [5]), (0, [])], 0, 4) by decide] at J
  have KK := hide K
  clear K
  go_wp2_with fail
  (with_reducible refine J.out.mono ?_)
  rintro e w9 ⟨rfl, hp, hu⟩
  have K := sep_ls [] KK.out hp hu
  clear KK hp hu J
  have J := hide (leave_any (i := 0) (o := 7) (K.get (A := AsLs g gr [(2, [5]), (0, [])]) (List.Mem.head _)))
  rw [show leaveS [(2, [5]), (0, [])] 0 7 = ([(2, [5]), (0, [])], 4) by decide] at J
  have KK := hide K
  clear K
  go_wp2_with fail
  (with_reducible refine J.out.mono ?_)
  rintro e w10 ⟨rfl, hp, hu⟩
  have K := sep_ls [] KK.out hp hu
  clear KK hp hu J
  have J := hide (save_any (K.get (A := AsLs g gr [(2, [5]), (0, [])]) (List.Mem.head _)))
  have KK := hide K.toExt
  clear K
  go_wp2_with fail
  (with_reducible refine J.out.mono ?_)
  rintro e ws ⟨B, vs, rfl, hS⟩
  have KX := hide (KK.out.trans hS.toExt)
  have HP : Hid ((AsRows B vs [[5], []]).p ws) := hide (hS.get (List.Mem.head _))
  clear KK hS J
  have X1 : Sep No ws (ws.alloc (.cells #[.int .u32 5] 23)) [As.blk ws.heap.size 23 (u32s [5])] := Sep.add (Sep.refl No ws) 23 (u32s [5])
  have X2 : Hid (Sep No ws ((ws.alloc (.cells #[.int .u32 5] 23)).alloc (.cells #[.slice (some ⟨ws.heap.size, 0, none⟩) 1 1, .slice none 0 0] 39)) [As.blk (World.alloc ws (.cells #[.int .u32 5] 23)).heap.size 39 [.slice (some ⟨ws.heap.size, 0, none⟩) 1 1, .slice none 0 0], As.blk ws.heap.size 23 (u32s [5])]) := hide (Sep.add X1 39 [.slice (some ⟨ws.heap.size, 0, none⟩) 1 1, .slice none 0 0])
  have HQ := hide (show (AsRows (some ⟨(World.alloc ws (.cells #[.int .u32 5] 23)).heap.size, 0, none⟩) [.slice (some ⟨ws.heap.size, 0, none⟩) 1 1, .slice none 0 0] [[5], []]).p _ from ⟨(X2.out.blk (e := 39) (List.Mem.head _)).rd, ((AreRows.nil _).push (row_lit [5] (X2.out.blk (g := ws.heap.size) (e := 23) (List.Mem.tail _ (List.Mem.head _))))).push (IsRow.nil _)⟩)
  rw [show (World.alloc ws (.cells #[.int .u32 5] 23)).heap.size = ws.heap.size + 1 by simp] at HQ
  have HX2 := hide X2.out.toExt
  clear X1 X2
  have J := hide (same_any [[5], []] [[5], []] vs _ B _ 2 2 _ ⟨HP.out.1.ext HX2.out, HP.out.2.ext HX2.out⟩ HQ.out (by decide) (by decide) (by decide) (by decide))
  rw [show ([[5], []] : List (List Int)).length = 2 from rfl] at J
  go_wp2_with fail
  (with_reducible refine J.out.mono ?_)
  rintro e wt ⟨rfl, hx⟩
  have HX := hide ((KX.out.trans HX2.out).trans hx)
  clear hx HP HQ HX2 KX J
  go_wp2_with fail
  go_ret
  exact ⟨rfl, HX.out⟩
end Go.Proofs.Yteecgieigjfjiaa

