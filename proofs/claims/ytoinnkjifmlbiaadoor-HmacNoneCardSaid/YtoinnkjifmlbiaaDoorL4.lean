/- Hmac: no mac: nil, or one that New did not make; the law HmacNone walked. -/
import Derived.Deep.MidRow
import Derived.Test.YtoinnkjifmlbiaaDoorL0
namespace Go.Proofs.YtoinnkjifmlbiaaDoor
open Go.RowKit Go.Gr
set_option linter.unusedVariables false
set_option linter.unusedSimpArgs false
def NoMac (w : World) (v : Value) : Prop := v = .pointer none ∨ ∃ g, v = ptr g ∧ Blk w g 49 [.pointer none, .slice none 0 0]
theorem NoMac.of {w : World} {g : Nat} (h : Blk w g 49 [.pointer none, .slice none 0 0]) : NoMac w (ptr g) := .inr ⟨g, rfl, h⟩
theorem NoMac.ext {w w' : World} {v : Value} (h : NoMac w v) (k : Ext w w') : NoMac w' v := by
  rcases h with h | ⟨g, h, hc⟩
  · exact .inl h
  · exact .inr ⟨g, h, hc.ext k⟩
theorem mthere_no (v : Value) (w : World) (h : NoMac w v) : Calls Tryd.prog 35 #[v] w fun e w' => e = .returned (.bool false) ∧ w = w' := by
  rcases h with rfl | ⟨g, rfl, c⟩
  · go_enter Tryd.func35, Tryd.ntmps35
    go_wp2_with fail
    go_ret
    exact ⟨rfl, rfl⟩
  · obtain ⟨c1, c2, hg⟩ := cells2 c
    clear c
    go_enter Tryd.func35, Tryd.ntmps35
    go_wp2_with fail
    go_ret
    exact ⟨rfl, rfl⟩
theorem mwrite_no (v b : Value) (w : World) (h : NoMac w v) : Calls Tryd.prog 20 #[v, b] w fun e w' => e = .returned (.int .i64 1) ∧ w = w' := by
  have HH := hide (mthere_no v w h)
  clear h
  go_enter Tryd.func20, Tryd.ntmps20
  go_wp2_with fail
  (with_reducible refine HH.out.mono ?_)
  rintro e w1 ⟨rfl, rfl⟩
  go_wp2_with fail
  go_ret
  exact ⟨rfl, rfl⟩
theorem mreset_no (v : Value) (w : World) (h : NoMac w v) : Calls Tryd.prog 22 #[v] w fun e w' => e = .returned (.int .i64 1) ∧ w = w' := by
  have HH := hide (mthere_no v w h)
  clear h
  go_enter Tryd.func22, Tryd.ntmps22
  go_wp2_with fail
  (with_reducible refine HH.out.mono ?_)
  rintro e w1 ⟨rfl, rfl⟩
  go_wp2_with fail
  go_ret
  exact ⟨rfl, rfl⟩
theorem mtag_no (v : Value) (w : World) (h : NoMac w v) : Calls Tryd.prog 21 #[v] w fun e w' => e = .returned (.tuple #[.agg (Z8 32).toArray, .int .i64 1]) ∧ Ext w w' := by
  have HH := hide (fun (x : World) (k : Ext w x) => mthere_no v x (h.ext k))
  clear h
  have tok : True := trivial
  have tok2 : True := trivial
  go_enter Tryd.func21, Tryd.ntmps21
  go_wp2_with ((have zz := tok; clear zz tok; refine wpList_alS (Sep.refl No w) rfl 26 rfl (Z8 32) (by kernel_rfl) ?_; intro w1 hz1 H1))
  (with_reducible refine (HH.out _ H1.toExt).mono ?_)
  rintro e w2 ⟨rfl, rfl⟩
  go_wp2_with (have zz := tok2; clear zz tok2; refine wpList_stS [] H1 rfl 26 (.tmp 2) (.tmp 10) rfl rfl (cs := Z8 32) rfl (by kernel_rfl) rfl (by decide) ?_; intro w3 H3; dsimp only [List.nil_append] at H3; clear H1)
  refine bodyPost_ret (v := .tuple #[.agg (Z8 32).toArray, .int .i64 1]) (results_row_tmp rfl _ _ w.heap.size 26 (Z8 32).toArray (0, 0) _ rfl (H3.blk (g := w.heap.size) (e := 26) (cs := Z8 32) (List.Mem.head _)) Tryd.underlying26 rfl (by kernel_rfl) rfl) rfl ⟨rfl, H3.toExt⟩
theorem mverify_no (v b : Value) (w : World) (h : NoMac w v) : Calls Tryd.prog 25 #[v, b] w fun e w' => e = .returned (.int .i64 1) ∧ Ext w w' := by
  have HH := hide (mtag_no v w h)
  clear h
  have tok : True := trivial
  have tok2 : True := trivial
  go_enter Tryd.func25, Tryd.ntmps25
  go_wp2_with fail
  (with_reducible refine HH.out.mono ?_)
  rintro e w1 ⟨rfl, hx1⟩
  have H1 := (Sep.refl No w).ext hx1
  have hs1 := hx1.size
  clear hx1 HH
  go_wp2_with (first
    | (have zz := tok; clear zz tok; refine wpList_alS H1 rfl 26 rfl (Z8 32) (by kernel_rfl) ?_; intro w2 _ H2)
    | (have zz := tok2; clear zz tok2; refine wpList_stS [] H2 rfl 26 (.tmp 5) (.tmp 12) rfl rfl (cs := Z8 32) rfl (by kernel_rfl) rfl (by decide) ?_; intro w3 H3; dsimp only [List.nil_append] at H3; have K3 := hide H3.toExt; clear H2 H1 H3))
  go_ret
  exact ⟨rfl, K3.out⟩
theorem eqZ (w : World) : (Op.equalIn 10000 26 (.agg (Z8 32).toArray) (.agg #[.int .u8 0, .int .u8 0, .int .u8 0, .int .u8 0, .int .u8 0, .int .u8 0, .int .u8 0, .int .u8 0, .int .u8 0, .int .u8 0, .int .u8 0, .int .u8 0, .int .u8 0, .int .u8 0, .int .u8 0, .int .u8 0, .int .u8 0, .int .u8 0, .int .u8 0, .int .u8 0, .int .u8 0, .int .u8 0, .int .u8 0, .int .u8 0, .int .u8 0, .int .u8 0, .int .u8 0, .int .u8 0, .int .u8 0, .int .u8 0, .int .u8 0, .int .u8 0])).run Tryd.prog w = .ok true w := by
  have := run_equalIn_ints (P := Tryd.prog) Tryd.underlying26 Tryd.underlying5 (by kernel_rfl) (by kernel_rfl) (List.replicate 32 0) (List.replicate 32 0) (by rw [List.length_replicate]) (by rw [List.length_replicate]) 9998 w
  rw [beq_self_eq_true] at this
  exact this
set_option maxRecDepth 100000 in
set_option maxHeartbeats 2000000 in
theorem none_law (w : World) (hl : Laid w) (b : Value) (hb : LfOk Tryd.prog w (.slice 5) b) : Calls Tryd.prog 10 #[b] w fun e w' => e = .returned (.bool true) ∧ Ext w w' := by
  have HL := hide hl
  have hq := eqZ
  clear hl hb
  go_enter Tryd.func10, Tryd.ntmps10
  go_wp2_with fail
  go_loopw [3] (fun i wr => ∃ k : Nat, i = .int .i64 k ∧ k ≤ 2 ∧ Hid (Sep No w wr [])) (fun i _ => 2 - (intOf i).toNat)
  case atStart => exact ⟨0, rfl, by omega, hide (Sep.refl _ _)⟩
  case round =>
    obtain ⟨k, rfl, hk, HX⟩ := hrel
    rcases (show k = 2 ∨ k = 0 ∨ k = 1 by omega) with rfl | rfl | rfl
    · rw [show ((2 : Nat) : Int) = 2 from rfl]
      have HS := hide (shown_any wr (HL.out.ext HX.out.toExt))
      go_wp2_with fail
      (with_reducible refine HS.out.mono ?_)
      rintro e w1 ⟨rfl, hx⟩
      go_wp2_with fail
      go_ret
      exact ⟨rfl, HX.out.toExt.trans hx⟩
    · rw [show ((0 : Nat) : Int) = 0 from rfl]
      have HN : Hid (∀ x, NoMac x (.pointer none)) := hide (fun x => .inl rfl)
      go_wp2_with fail
      (with_reducible refine (mtag_no _ _ (HN.out _)).mono ?_)
      rintro e w1 ⟨rfl, hx1⟩
      have K1 := HX.out.ext hx1
      clear hx1
      have tok1 : True := trivial
      have tok2 : True := trivial
      have tok3 : True := trivial
      have tok4 : True := trivial
      have tok5 : True := trivial
      go_wp2_with (first
        | (have zz := tok1; clear zz tok1; refine wpList_alS K1 rfl 26 rfl (Z8 32) (by kernel_rfl) ?_; intro w2 _ K2; clear K1)
        | (have zz := tok2; clear zz tok2; refine wpList_stS [] K2 rfl 26 (.tmp 5) (.tmp 18) rfl rfl (cs := Z8 32) rfl (by kernel_rfl) rfl (by decide) ?_; intro w3 K3; dsimp only [List.nil_append] at K3; clear K2)
        | (have zz := tok3; clear zz tok3; refine wpList_ldS K3 (List.Mem.head _) rfl 26 (.tmp 5) rfl rfl _ Tryd.underlying26 rfl (by kernel_rfl) ?_))
      (with_reducible refine (mwrite_no _ _ _ (HN.out _)).mono ?_)
      rintro e w4 ⟨rfl, rfl⟩
      go_wp2_with fail
      (with_reducible refine (mverify_no _ _ _ (HN.out _)).mono ?_)
      rintro e w5 ⟨rfl, hx5⟩
      have K5 := K3.ext hx5
      clear hx5 K3
      go_wp2_with fail
      (with_reducible refine (mreset_no _ _ (HN.out _)).mono ?_)
      rintro e w6 ⟨rfl, rfl⟩
      have K6 := hide ((Sep.refl No w).ext K5.toExt)
      clear K5
      go_wp2_with fail
      go_roundw
      case rel => exact ⟨1, by go_num, by omega, K6⟩
      case measure => simp [intOf]
    · rw [show ((1 : Nat) : Int) = 1 from rfl]
      have H0 := HX.out.newB ((Ext.refl wr).alloc (.cells #[.pointer none, .slice none 0 0] 49)) (Blk.new wr 49 [.pointer none, .slice none 0 0]) (Nat.le_refl _)
      obtain ⟨gm, HG⟩ : ∃ g, Hid (wr.heap.size = g) := ⟨_, hide rfl⟩
      rw [HG.out] at H0
      go_wp2_with fail
      rw [HG.out]
      (with_reducible refine (mtag_no _ _ (NoMac.of (H0.blk (List.Mem.head _)))).mono ?_)
      rintro e w1 ⟨rfl, hx1⟩
      have K1 := H0.ext hx1
      clear hx1 H0 HG
      have tok1 : True := trivial
      have tok2 : True := trivial
      have tok3 : True := trivial
      have tok4 : True := trivial
      have tok5 : True := trivial
      go_wp2_with (first
        | (have zz := tok1; clear zz tok1; refine wpList_alS K1 rfl 26 rfl (Z8 32) (by kernel_rfl) ?_; intro w2 _ K2; clear K1)
        | (have zz := tok2; clear zz tok2; refine wpList_stS [] K2 rfl 26 (.tmp 5) (.tmp 18) rfl rfl (cs := Z8 32) rfl (by kernel_rfl) rfl (by decide) ?_; intro w3 K3; dsimp only [List.nil_append] at K3; clear K2)
        | (have zz := tok3; clear zz tok3; refine wpList_ldS K3 (List.Mem.head _) rfl 26 (.tmp 5) rfl rfl _ Tryd.underlying26 rfl (by kernel_rfl) ?_))
      (with_reducible refine (mwrite_no _ _ _ (NoMac.of (K3.blk (List.Mem.tail _ (List.Mem.head _))))).mono ?_)
      rintro e w4 ⟨rfl, rfl⟩
      go_wp2_with fail
      (with_reducible refine (mverify_no _ _ _ (NoMac.of (K3.blk (List.Mem.tail _ (List.Mem.head _))))).mono ?_)
      rintro e w5 ⟨rfl, hx5⟩
      have K5 := K3.ext hx5
      clear hx5 K3
      go_wp2_with fail
      (with_reducible refine (mreset_no _ _ (NoMac.of (K5.blk (List.Mem.tail _ (List.Mem.head _))))).mono ?_)
      rintro e w6 ⟨rfl, rfl⟩
      have K6 := hide ((Sep.refl No w).ext K5.toExt)
      clear K5
      go_wp2_with fail
      go_roundw
      case rel => exact ⟨2, by go_num, by omega, K6⟩
      case measure => simp [intOf]
end Go.Proofs.YtoinnkjifmlbiaaDoor
