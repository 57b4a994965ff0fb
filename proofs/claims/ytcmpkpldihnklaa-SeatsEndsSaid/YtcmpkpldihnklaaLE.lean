/- Seats: the law SeatsEnds walked. -/
import Derived.Test.YtcmpkpldihnklaaLA
import Derived.Outline
namespace Go.Proofs.Ytcmpkpldihnklaa
open Go.RowKit Go.Gr Go.Seat
set_option linter.unusedVariables false
set_option linter.unusedSimpArgs false
theorem en_ticket0 (o t d : Int) (w : World) (ho : 0 ≤ o ∧ o < 4294967296) (hd0 : 0 ≤ d) (hd1 : d ≤ 9223372036854775807) : Calls Try.prog 11 #[.agg #[.int .i64 2, .int .u32 o, .int .i64 0, .int .u64 18446744073709551615, .int .u64 18446744073709551615], .int .u32 0] w fun e w' => e = .returned (.tuple #[.agg #[.int .u32 0, .int .u32 o, .int .u64 18446744073709551615, .int .u64 18446744073709551615], .int .i64 0]) ∧ Ext w w' := by
  have h := ticket_any ⟨2, o, 0, 18446744073709551615, 18446744073709551615⟩ 0 w
  have hx : ¬ d < 0 := by omega
  rw [show ticketS ⟨2, o, 0, 18446744073709551615, 18446744073709551615⟩ 0 = (⟨0, o, 18446744073709551615, 18446744073709551615⟩, 0) by simp [ticketS, buyS, transferS, revokeS, issueS, mineE, validE, good, most, hd0]] at h
  exact h
theorem en_buy0 (o t d : Int) (w : World) (ho : 0 ≤ o ∧ o < 4294967296) (hd0 : 0 ≤ d) (hd1 : d ≤ 9223372036854775807) : Calls Try.prog 12 #[.agg #[.int .i64 1, .int .u32 o, .int .i64 d, .int .u64 18446744073709551615, .int .u64 18446744073709551615], .int .u32 o] w fun e w' => e = .returned (.tuple #[.agg #[.int .i64 1, .int .u32 o, .int .i64 d, .int .u64 18446744073709551615, .int .u64 18446744073709551615], .int .i64 17]) ∧ Ext w w' := by
  have h := buy_any ⟨1, o, d, 18446744073709551615, 18446744073709551615⟩ o w (by refine ⟨?_, ?_, ?_, ?_, ?_⟩ <;> simp only [most] <;> omega)
  have hx : ¬ d < 0 := by omega
  rw [show buyS ⟨1, o, d, 18446744073709551615, 18446744073709551615⟩ o = (⟨1, o, d, 18446744073709551615, 18446744073709551615⟩, 17) by simp [ticketS, buyS, transferS, revokeS, issueS, mineE, validE, good, most, hd0]] at h
  exact h
theorem en_transfer0 (o t d : Int) (w : World) (ho : 0 ≤ o ∧ o < 4294967296) (hd0 : 0 ≤ d) (hd1 : d ≤ 9223372036854775807) : Calls Try.prog 13 #[.agg #[.int .i64 2, .int .u32 o, .int .i64 0, .int .u64 18446744073709551615, .int .u64 18446744073709551615], .agg #[.int .u32 0, .int .u32 o, .int .u64 18446744073709551615, .int .u64 18446744073709551615], .int .u32 t] w fun e w' => e = .returned (.tuple #[.agg #[.int .i64 2, .int .u32 o, .int .i64 0, .int .u64 18446744073709551615, .int .u64 18446744073709551615], .int .i64 17]) ∧ Ext w w' := by
  have h := transfer_any ⟨2, o, 0, 18446744073709551615, 18446744073709551615⟩ ⟨0, o, 18446744073709551615, 18446744073709551615⟩ t w (by refine ⟨?_, ?_, ?_, ?_, ?_⟩ <;> simp only [most] <;> omega)
  have hx : ¬ d < 0 := by omega
  rw [show transferS ⟨2, o, 0, 18446744073709551615, 18446744073709551615⟩ ⟨0, o, 18446744073709551615, 18446744073709551615⟩ t = (⟨2, o, 0, 18446744073709551615, 18446744073709551615⟩, 17) by simp [ticketS, buyS, transferS, revokeS, issueS, mineE, validE, good, most, hd0]] at h
  exact h
theorem en_revoke0 (o t d : Int) (w : World) (ho : 0 ≤ o ∧ o < 4294967296) (hd0 : 0 ≤ d) (hd1 : d ≤ 9223372036854775807) : Calls Try.prog 14 #[.agg #[.int .i64 2, .int .u32 o, .int .i64 0, .int .u64 18446744073709551615, .int .u64 18446744073709551615]] w fun e w' => e = .returned (.tuple #[.agg #[.int .i64 2, .int .u32 o, .int .i64 0, .int .u64 18446744073709551615, .int .u64 18446744073709551615], .int .i64 17]) ∧ Ext w w' := by
  have h := revoke_any ⟨2, o, 0, 18446744073709551615, 18446744073709551615⟩ w (by refine ⟨?_, ?_, ?_, ?_, ?_⟩ <;> simp only [most] <;> omega)
  have hx : ¬ d < 0 := by omega
  rw [show revokeS ⟨2, o, 0, 18446744073709551615, 18446744073709551615⟩ = (⟨2, o, 0, 18446744073709551615, 18446744073709551615⟩, 17) by simp [ticketS, buyS, transferS, revokeS, issueS, mineE, validE, good, most, hd0]] at h
  exact h
theorem en_ticket1 (o t d : Int) (w : World) (ho : 0 ≤ o ∧ o < 4294967296) (hd0 : 0 ≤ d) (hd1 : d ≤ 9223372036854775807) : Calls Try.prog 11 #[.agg #[.int .i64 2, .int .u32 o, .int .i64 0, .int .u64 18446744073709551614, .int .u64 18446744073709551614], .int .u32 0] w fun e w' => e = .returned (.tuple #[.agg #[.int .u32 0, .int .u32 o, .int .u64 18446744073709551614, .int .u64 18446744073709551614], .int .i64 0]) ∧ Ext w w' := by
  have h := ticket_any ⟨2, o, 0, 18446744073709551614, 18446744073709551614⟩ 0 w
  have hx : ¬ d < 0 := by omega
  rw [show ticketS ⟨2, o, 0, 18446744073709551614, 18446744073709551614⟩ 0 = (⟨0, o, 18446744073709551614, 18446744073709551614⟩, 0) by simp [ticketS, buyS, transferS, revokeS, issueS, mineE, validE, good, most, hd0]] at h
  exact h
theorem en_buy1 (o t d : Int) (w : World) (ho : 0 ≤ o ∧ o < 4294967296) (hd0 : 0 ≤ d) (hd1 : d ≤ 9223372036854775807) : Calls Try.prog 12 #[.agg #[.int .i64 1, .int .u32 o, .int .i64 d, .int .u64 18446744073709551614, .int .u64 18446744073709551614], .int .u32 o] w fun e w' => e = .returned (.tuple #[.agg #[.int .i64 2, .int .u32 o, .int .i64 0, .int .u64 18446744073709551615, .int .u64 18446744073709551614], .int .i64 0]) ∧ Ext w w' := by
  have h := buy_any ⟨1, o, d, 18446744073709551614, 18446744073709551614⟩ o w (by refine ⟨?_, ?_, ?_, ?_, ?_⟩ <;> simp only [most] <;> omega)
  have hx : ¬ d < 0 := by omega
  rw [show buyS ⟨1, o, d, 18446744073709551614, 18446744073709551614⟩ o = (⟨2, o, 0, 18446744073709551615, 18446744073709551614⟩, 0) by simp [ticketS, buyS, transferS, revokeS, issueS, mineE, validE, good, most, hd0]] at h
  exact h
theorem en_transfer1 (o t d : Int) (w : World) (ho : 0 ≤ o ∧ o < 4294967296) (hd0 : 0 ≤ d) (hd1 : d ≤ 9223372036854775807) : Calls Try.prog 13 #[.agg #[.int .i64 2, .int .u32 o, .int .i64 0, .int .u64 18446744073709551614, .int .u64 18446744073709551614], .agg #[.int .u32 0, .int .u32 o, .int .u64 18446744073709551614, .int .u64 18446744073709551614], .int .u32 t] w fun e w' => e = .returned (.tuple #[.agg #[.int .i64 2, .int .u32 t, .int .i64 0, .int .u64 18446744073709551615, .int .u64 18446744073709551614], .int .i64 0]) ∧ Ext w w' := by
  have h := transfer_any ⟨2, o, 0, 18446744073709551614, 18446744073709551614⟩ ⟨0, o, 18446744073709551614, 18446744073709551614⟩ t w (by refine ⟨?_, ?_, ?_, ?_, ?_⟩ <;> simp only [most] <;> omega)
  have hx : ¬ d < 0 := by omega
  rw [show transferS ⟨2, o, 0, 18446744073709551614, 18446744073709551614⟩ ⟨0, o, 18446744073709551614, 18446744073709551614⟩ t = (⟨2, t, 0, 18446744073709551615, 18446744073709551614⟩, 0) by simp [ticketS, buyS, transferS, revokeS, issueS, mineE, validE, good, most, hd0]] at h
  exact h
theorem en_revoke1 (o t d : Int) (w : World) (ho : 0 ≤ o ∧ o < 4294967296) (hd0 : 0 ≤ d) (hd1 : d ≤ 9223372036854775807) : Calls Try.prog 14 #[.agg #[.int .i64 2, .int .u32 o, .int .i64 0, .int .u64 18446744073709551614, .int .u64 18446744073709551614]] w fun e w' => e = .returned (.tuple #[.agg #[.int .i64 0, .int .u32 0, .int .i64 0, .int .u64 18446744073709551614, .int .u64 18446744073709551615], .int .i64 0]) ∧ Ext w w' := by
  have h := revoke_any ⟨2, o, 0, 18446744073709551614, 18446744073709551614⟩ w (by refine ⟨?_, ?_, ?_, ?_, ?_⟩ <;> simp only [most] <;> omega)
  have hx : ¬ d < 0 := by omega
  rw [show revokeS ⟨2, o, 0, 18446744073709551614, 18446744073709551614⟩ = (⟨0, 0, 0, 18446744073709551614, 18446744073709551615⟩, 0) by simp [ticketS, buyS, transferS, revokeS, issueS, mineE, validE, good, most, hd0]] at h
  exact h
set_option maxRecDepth 100000 in
set_option maxHeartbeats 4000000 in
theorem ends_law (w : World) (o : Int) (ho0 : 0 ≤ o ∧ o < 4294967296) (t : Int) (ht0 : 0 ≤ t ∧ t < 4294967296) (d : Int) (hdd : -9223372036854775808 ≤ d ∧ d ≤ 9223372036854775807) : Calls Try.prog 3 #[.int .u32 o, .int .u32 t, .int .i64 d] w fun e w' => e = .returned (.bool true) ∧ Ext w w' := by
  by_cases hd : d < 0
  · go_enter Try.func3, Try.ntmps3
    go_wp2_with fail
    (with_reducible refine (awake_any _).mono ?_)
    rintro e w1 ⟨rfl, hx⟩
    go_wp2_with fail
    go_ret
    exact ⟨rfl, hx⟩
  · have hd0 : 0 ≤ d := by omega
    have hd1 := hdd.2
    have HO := hide ho0
    clear hd hdd ho0 ht0
    go_enter Try.func3, Try.ntmps3
    go_wp2_with fail
    go_loopw [7] (fun i wr => ∃ k : Nat, k ≤ 2 ∧ i = .int .u64 k ∧ Hid (Sep No w wr [])) (fun i _ => 2 - (intOf i).toNat)
    case atStart => exact ⟨0, by omega, rfl, hide (Sep.refl No w)⟩
    case round =>
      obtain ⟨k, hk, rfl, HX⟩ := hrel
      obtain rfl | rfl | rfl : k = 0 ∨ k = 1 ∨ k = 2 := by omega
      · go_wp2_with fail
        have H0 := HX.out.add2 26 26 ([.int .i64 1, .int .u32 o, .int .i64 d, .int .u64 18446744073709551615, .int .u64 18446744073709551615]) ([.int .i64 2, .int .u32 o, .int .i64 0, .int .u64 18446744073709551615, .int .u64 18446744073709551615])
        (with_reducible refine (en_ticket0 o t d _ HO.out hd0 hd1).mono ?_)
        rintro e w1 ⟨rfl, hx⟩
        have G0 := H0.ext hx
        clear H0 hx
        have H1 := G0.newB ((Ext.refl w1).alloc (.cells ([.int .u32 0, .int .u32 o, .int .u64 18446744073709551615, .int .u64 18446744073709551615] : List Value).toArray 28)) (Blk.new w1 28 [.int .u32 0, .int .u32 o, .int .u64 18446744073709551615, .int .u64 18446744073709551615]) (Nat.le_refl _)
        obtain ⟨x0_0_0, x0_0_1, x0_0_2, x0_0_3, x0_0_4, x0_0_5, x0_0_6⟩ := (cells5 (G0.blk (.head _)))
        obtain ⟨x0_1_0, x0_1_1, x0_1_2, x0_1_3, x0_1_4, x0_1_5, x0_1_6⟩ := (cells5 (G0.blk (.tail _ (.head _))))
        clear G0
        go_wp2_with fail
        clear x0_0_0 x0_0_1 x0_0_2 x0_0_3 x0_0_4 x0_0_5 x0_0_6
        clear x0_1_0 x0_1_1 x0_1_2 x0_1_3 x0_1_4 x0_1_5 x0_1_6
        (with_reducible refine (en_buy0 o t d _ HO.out hd0 hd1).mono ?_)
        rintro e w2 ⟨rfl, hx⟩
        have G1 := H1.ext hx
        clear H1 hx
        have H2 := G1.newB ((Ext.refl w2).alloc (.cells ([.int .i64 1, .int .u32 o, .int .i64 d, .int .u64 18446744073709551615, .int .u64 18446744073709551615] : List Value).toArray 26)) (Blk.new w2 26 [.int .i64 1, .int .u32 o, .int .i64 d, .int .u64 18446744073709551615, .int .u64 18446744073709551615]) (Nat.le_refl _)
        obtain ⟨x1_0_0, x1_0_1, x1_0_2, x1_0_3, x1_0_4, x1_0_5⟩ := (cells4 (G1.blk (.head _)))
        obtain ⟨x1_1_0, x1_1_1, x1_1_2, x1_1_3, x1_1_4, x1_1_5, x1_1_6⟩ := (cells5 (G1.blk (.tail _ (.head _))))
        clear G1
        go_wp2_with fail
        clear x1_0_0 x1_0_1 x1_0_2 x1_0_3 x1_0_4 x1_0_5
        clear x1_1_0 x1_1_1 x1_1_2 x1_1_3 x1_1_4 x1_1_5 x1_1_6
        (with_reducible refine (en_transfer0 o t d _ HO.out hd0 hd1).mono ?_)
        rintro e w3 ⟨rfl, hx⟩
        have G2 := H2.ext hx
        clear H2 hx
        have H3 := G2.newB ((Ext.refl w3).alloc (.cells ([.int .i64 2, .int .u32 o, .int .i64 0, .int .u64 18446744073709551615, .int .u64 18446744073709551615] : List Value).toArray 26)) (Blk.new w3 26 [.int .i64 2, .int .u32 o, .int .i64 0, .int .u64 18446744073709551615, .int .u64 18446744073709551615]) (Nat.le_refl _)
        obtain ⟨x2_0_0, x2_0_1, x2_0_2, x2_0_3, x2_0_4, x2_0_5, x2_0_6⟩ := (cells5 (G2.blk (.tail _ (.tail _ (.head _)))))
        clear G2
        go_wp2_with fail
        clear x2_0_0 x2_0_1 x2_0_2 x2_0_3 x2_0_4 x2_0_5 x2_0_6
        (with_reducible refine (en_revoke0 o t d _ HO.out hd0 hd1).mono ?_)
        rintro e w4 ⟨rfl, hx⟩
        have G3 := H3.ext hx
        clear H3 hx
        have H4 := G3.newB ((Ext.refl w4).alloc (.cells ([.int .i64 2, .int .u32 o, .int .i64 0, .int .u64 18446744073709551615, .int .u64 18446744073709551615] : List Value).toArray 26)) (Blk.new w4 26 [.int .i64 2, .int .u32 o, .int .i64 0, .int .u64 18446744073709551615, .int .u64 18446744073709551615]) (Nat.le_refl _)
        obtain ⟨x3_0_0, x3_0_1, x3_0_2, x3_0_3, x3_0_4, x3_0_5, x3_0_6⟩ := (cells5 (G3.blk (.head _)))
        obtain ⟨x3_1_0, x3_1_1, x3_1_2, x3_1_3, x3_1_4, x3_1_5, x3_1_6⟩ := (cells5 (G3.blk (.tail _ (.head _))))
        obtain ⟨x3_2_0, x3_2_1, x3_2_2, x3_2_3, x3_2_4, x3_2_5, x3_2_6⟩ := (cells5 (G3.blk (.tail _ (.tail _ (.tail _ (.head _))))))
        obtain ⟨x3_3_0, x3_3_1, x3_3_2, x3_3_3, x3_3_4, x3_3_5, x3_3_6⟩ := (cells5 (G3.blk (.tail _ (.tail _ (.tail _ (.tail _ (.head _)))))))
        clear G3
        go_wp2_with fail
        have HY := hide (H4.tail.tail.tail.tail.tail.tail)
        clear H4
        go_roundw
        case rel => exact ⟨1, by omega, by go_num, HY⟩
        case measure => simp [intOf]
      · go_wp2_with fail
        have H0 := HX.out.add2 26 26 ([.int .i64 1, .int .u32 o, .int .i64 d, .int .u64 18446744073709551614, .int .u64 18446744073709551614]) ([.int .i64 2, .int .u32 o, .int .i64 0, .int .u64 18446744073709551614, .int .u64 18446744073709551614])
        (with_reducible refine (en_ticket1 o t d _ HO.out hd0 hd1).mono ?_)
        rintro e w1 ⟨rfl, hx⟩
        have G0 := H0.ext hx
        clear H0 hx
        have H1 := G0.newB ((Ext.refl w1).alloc (.cells ([.int .u32 0, .int .u32 o, .int .u64 18446744073709551614, .int .u64 18446744073709551614] : List Value).toArray 28)) (Blk.new w1 28 [.int .u32 0, .int .u32 o, .int .u64 18446744073709551614, .int .u64 18446744073709551614]) (Nat.le_refl _)
        obtain ⟨x0_0_0, x0_0_1, x0_0_2, x0_0_3, x0_0_4, x0_0_5, x0_0_6⟩ := (cells5 (G0.blk (.head _)))
        obtain ⟨x0_1_0, x0_1_1, x0_1_2, x0_1_3, x0_1_4, x0_1_5, x0_1_6⟩ := (cells5 (G0.blk (.tail _ (.head _))))
        clear G0
        go_wp2_with fail
        clear x0_0_0 x0_0_1 x0_0_2 x0_0_3 x0_0_4 x0_0_5 x0_0_6
        clear x0_1_0 x0_1_1 x0_1_2 x0_1_3 x0_1_4 x0_1_5 x0_1_6
        (with_reducible refine (en_buy1 o t d _ HO.out hd0 hd1).mono ?_)
        rintro e w2 ⟨rfl, hx⟩
        have G1 := H1.ext hx
        clear H1 hx
        have H2 := G1.newB ((Ext.refl w2).alloc (.cells ([.int .i64 2, .int .u32 o, .int .i64 0, .int .u64 18446744073709551615, .int .u64 18446744073709551614] : List Value).toArray 26)) (Blk.new w2 26 [.int .i64 2, .int .u32 o, .int .i64 0, .int .u64 18446744073709551615, .int .u64 18446744073709551614]) (Nat.le_refl _)
        obtain ⟨x1_0_0, x1_0_1, x1_0_2, x1_0_3, x1_0_4, x1_0_5⟩ := (cells4 (G1.blk (.head _)))
        obtain ⟨x1_1_0, x1_1_1, x1_1_2, x1_1_3, x1_1_4, x1_1_5, x1_1_6⟩ := (cells5 (G1.blk (.tail _ (.head _))))
        clear G1
        go_wp2_with fail
        clear x1_0_0 x1_0_1 x1_0_2 x1_0_3 x1_0_4 x1_0_5
        clear x1_1_0 x1_1_1 x1_1_2 x1_1_3 x1_1_4 x1_1_5 x1_1_6
        (with_reducible refine (en_transfer1 o t d _ HO.out hd0 hd1).mono ?_)
        rintro e w3 ⟨rfl, hx⟩
        have G2 := H2.ext hx
        clear H2 hx
        have H3 := G2.newB ((Ext.refl w3).alloc (.cells ([.int .i64 2, .int .u32 t, .int .i64 0, .int .u64 18446744073709551615, .int .u64 18446744073709551614] : List Value).toArray 26)) (Blk.new w3 26 [.int .i64 2, .int .u32 t, .int .i64 0, .int .u64 18446744073709551615, .int .u64 18446744073709551614]) (Nat.le_refl _)
        obtain ⟨x2_0_0, x2_0_1, x2_0_2, x2_0_3, x2_0_4, x2_0_5, x2_0_6⟩ := (cells5 (G2.blk (.tail _ (.tail _ (.head _)))))
        clear G2
        go_wp2_with fail
        clear x2_0_0 x2_0_1 x2_0_2 x2_0_3 x2_0_4 x2_0_5 x2_0_6
        (with_reducible refine (en_revoke1 o t d _ HO.out hd0 hd1).mono ?_)
        rintro e w4 ⟨rfl, hx⟩
        have G3 := H3.ext hx
        clear H3 hx
        have H4 := G3.newB ((Ext.refl w4).alloc (.cells ([.int .i64 0, .int .u32 0, .int .i64 0, .int .u64 18446744073709551614, .int .u64 18446744073709551615] : List Value).toArray 26)) (Blk.new w4 26 [.int .i64 0, .int .u32 0, .int .i64 0, .int .u64 18446744073709551614, .int .u64 18446744073709551615]) (Nat.le_refl _)
        obtain ⟨x3_0_0, x3_0_1, x3_0_2, x3_0_3, x3_0_4, x3_0_5, x3_0_6⟩ := (cells5 (G3.blk (.head _)))
        obtain ⟨x3_1_0, x3_1_1, x3_1_2, x3_1_3, x3_1_4, x3_1_5, x3_1_6⟩ := (cells5 (G3.blk (.tail _ (.head _))))
        obtain ⟨x3_2_0, x3_2_1, x3_2_2, x3_2_3, x3_2_4, x3_2_5, x3_2_6⟩ := (cells5 (G3.blk (.tail _ (.tail _ (.tail _ (.head _))))))
        obtain ⟨x3_3_0, x3_3_1, x3_3_2, x3_3_3, x3_3_4, x3_3_5, x3_3_6⟩ := (cells5 (G3.blk (.tail _ (.tail _ (.tail _ (.tail _ (.head _)))))))
        clear G3
        go_wp2_with fail
        have HY := hide (H4.tail.tail.tail.tail.tail.tail)
        clear H4
        go_roundw
        case rel => exact ⟨2, by omega, by go_num, HY⟩
        case measure => simp [intOf]
      · go_wp2_with fail
        (with_reducible refine (awake_any _).mono ?_)
        rintro e w1 ⟨rfl, hx⟩
        go_wp2_with fail
        go_ret
        exact ⟨rfl, HX.out.toExt.trans hx⟩
end Go.Proofs.Ytcmpkpldihnklaa
