/- The walk of the law IntsBack: true for every input, and nothing that was there has changed. -/
import Derived.Test.YteebnoegeoenbaaB1
import Derived.Test.YteebnoegeoenbaaL1
import Derived.Test.YteebnoegeoenbaaMono
namespace Go.Proofs.Yteebnoegeoenbaa
open Go.RowKit Go.Gr
set_option linter.unusedVariables false
attribute [local go_sem] rdOp rdAt rdUpon Cls
theorem vbF_isB : ∀ (k : Nat) (n : Int), 0 ≤ n → isB (vbF k n)
  | 0, n, _ => by intro x hx; simp [vbF] at hx
  | k + 1, n, h => by
    have := vbF_isB k (n / 128) (by omega)
    rw [vbF]
    split
    · intro x hx; simp at hx; omega
    · intro x hx
      rcases List.mem_cons.1 hx with rfl | hx
      · omega
      · exact this x hx
theorem isB_append {a b : List Int} (h : isB a) (k : isB b) : isB (a ++ b) := fun x hx => by
  rcases List.mem_append.1 hx with h1 | h1
  · exact h x h1
  · exact k x h1
theorem cells4 {w : World} {g : Nat} {e : TypeId} {a b c d : Value} (h : Blk w g e [a, b, c, d]) : w.cell? ⟨g, 0, none⟩ = some a ∧ w.cell? ⟨g, 1, none⟩ = some b ∧ w.cell? ⟨g, 2, none⟩ = some c ∧ w.cell? ⟨g, 3, none⟩ = some d :=
  ⟨h.cell 0, h.cell 1, h.cell 2, h.cell 3⟩
theorem own_app {B : Nat} {w : World} {v : Value} {a b : List Int} (h : Own B w 5 v (byt a ++ byt b)) : ∃ A c, v = .slice A (a ++ b).length c ∧ Rd w A (byt (a ++ b)) ∧ (a ++ b).length ≤ c := by
  have e : byt a ++ byt b = byt (a ++ b) := by simp [byt]
  rw [e] at h
  obtain ⟨A, c, h1, h2, h3, _⟩ := h.form
  exact ⟨A, c, by rw [byt_length] at h1; exact h1, h2, by rwa [byt_length] at h3⟩
theorem str_size (l : List Int) : (strOfNums l).size = l.length := by simp [strOfNums, ByteArray.size]
theorem str_sum {a b l : List Int} (h : strOfNums a ++ strOfNums b = strOfNums l) (hl : l.length ≤ 100) (w : World) : (Op.stringOp .add (strOfNums a) (strOfNums b)).run Try.prog w = .ok (.string (strOfNums l)) w := by
  rw [run_string_add_sum, h]
  have := congrArg ByteArray.size h
  rw [ByteArray.size_append, str_size l] at this
  omega
theorem Rd.drew {w : World} {A : Option Addr} {xs : List Value} (h : Rd w A xs) : Rd w.drew A xs := h
/-- what the walk of the loop knows at its head -/
def AtHead (W1 : World) (i : Value) (wr : World) : Prop := ∃ k : Nat, i = .int .i64 k ∧ 1 ≤ k ∧ k ≤ 9 ∧ Hid (Ext W1 wr)

set_option maxRecDepth 20000 in
set_option maxHeartbeats 6000000 in
theorem back_small (w : World) (A : Option Addr) (l : List Int) (c : Nat) (hr : Rd w A (byt l)) (hb : isB l) (hlc : l.length ≤ c) (hl : l.length ≤ 100) (n u bt : Int) (sg : Bool) (n1 : -9223372036854775808 ≤ n) (n2 : n ≤ 9223372036854775807) (u1 : 0 ≤ u) (u2 : u < 18446744073709551616) (b1 : -9223372036854775808 ≤ bt) (b2 : bt ≤ 9223372036854775807) :
    Calls Try.prog 9 #[.slice A l.length c, .agg #[.int .i64 n, .int .u64 u, .int .i64 bt, .bool sg]] w fun e w' => e = .returned (.bool true) ∧ Ext w w' := by
  obtain ⟨i0, hi, hz0, hz1, hz2⟩ := info_parts info5
  have HR := hide hr
  have HB := hide hb
  have HS := hide (Blk.new w 36 [.int .i64 n, .int .u64 u, .int .i64 bt, .bool sg])
  clear hr hb
  go_enter Try.func9, Try.ntmps9
  go_wp2_with fail
  go_loopw [5] (fun i wr => AtHead (w.alloc (.cells #[.int .i64 n, .int .u64 u, .int .i64 bt, .bool sg] 36)) i wr) (fun i _ => (9 - intOf i).toNat)
  case atStart => exact ⟨1, rfl, by omega, by omega, hide (Ext.refl _)⟩
  case round =>
    obtain ⟨k, rfl, hk1, hk9, HXr⟩ := hrel
    by_cases hk8 : k ≤ 8
    · have hk8' : (k : Int) ≤ 8 := by omega
      have HXw := hide (((Ext.refl w).alloc _).trans HXr.out)
      have HSr := hide (HS.out.ext HXr.out)
      have hpe : putE u k = 7 ∨ putE u k = 0 := putE_two u k
      by_cases hkl : k ≤ l.length
      · have hkl' : (k : Int) ≤ (l.length : Int) := by omega
        obtain ⟨g1, g2, g3⟩ := get_some (l := l) hk1 hk8 hkl
        obtain ⟨p1, p2, p3, p4⟩ := put_read HB.out hk1 hk8 hkl
        have hs0 : strOfNums (l.take k) ++ strOfNums (l.drop k) = strOfNums l := by rw [str_append, List.take_append_drop]
        obtain ⟨t, ht⟩ : ∃ t, l.take k = t := ⟨_, rfl⟩
        obtain ⟨r, hrr⟩ : ∃ r, l.drop k = r := ⟨_, rfl⟩
        rw [ht] at g2 p1 p2 p3 p4 hs0
        rw [hrr] at g3 hs0
        obtain ⟨m, hm⟩ : ∃ m, bev t = m := ⟨_, rfl⟩
        rw [hm] at g2 p1 p2 p3 p4
        have G1 := hide g1
        have G2 := hide g2
        have G3 := hide g3
        have P3 := hide p3
        have P4 := hide p4
        have HS0 := hide hs0
        clear g1 g2 g3 p3 p4 hs0 ht hrr hm hkl
        go_wp2_with fail
        refine (get_any A c l k _ (HR.out.ext HXw.out) HB.out (by omega) hlc).mono ?_
        rintro e w1 ⟨A1, c1, rfl, hr1, hx1⟩
        rw [G1.out, G2.out, G3.out] at *
        have HR1 := hide hr1
        have HX1 := hide hx1
        clear hr1 hx1
        go_wp2_with fail
        refine (put_any none 0 [] m k _ (Rd.nil _ _) (by decide) p1 p2).mono ?_
        rintro e w2 ⟨v2, rfl, ho2, hx2⟩
        rw [P4.out] at ho2
        rw [P3.out]
        obtain ⟨A2, c2, rfl, hr2⟩ := ho2.bytes
        have k1 := conv23 hr2 t.length c2 rfl rfl
        have k2 := conv23 (HR1.out.ext hx2) r.length c1 rfl rfl
        have k3 := conv23 (HR.out.ext (HXw.out.trans (HX1.out.trans hx2))) l.length c rfl rfl
        have hs1 := str_sum HS0.out hl
        have HX2 := hide (HXw.out.trans (HX1.out.trans hx2))
        have HS2 := hide (HSr.out.ext (HX1.out.trans hx2))
        have HXX := hide (HXr.out.trans (HX1.out.trans hx2))
        clear hr2 hx2 ho2
        rcases hpe with hpe | hpe
        · have Q1 := hide hpe
          clear hpe
          have cc := (cells4 HS2.out).2.1
          go_wp2_with fail
          refine (put_any none 0 [] u k _ (Rd.nil _ _) (by decide) u1 u2).mono ?_
          rintro e w3 ⟨v3, rfl, ho3, hx3⟩
          rw [Q1.out]
          have HX3 := hide (HXX.out.trans hx3)
          clear ho3 hx3 cc k1 k2 k3 hs1
          go_wp2_with fail
          go_roundw
          case rel => exact ⟨k + 1, by go_num, by omega, by omega, HX3⟩
          case measure => simp [intOf]; omega
        · obtain ⟨q2, q3, q4, q5, q6⟩ := get_put (l := l) hk1 hk8 u1 hpe
          have hbl : (be k u).length ≤ 8 := by omega
          have Q1 := hide hpe
          have Q2 := hide q2
          have Q4 := hide q4
          have Q5 := hide q5
          have Q6 := hide q6
          clear hpe q2 q3 q4 q5 q6
          have cc := (cells4 HS2.out).2.1
          go_wp2_with fail
          refine (put_any none 0 [] u k _ (Rd.nil _ _) (by decide) u1 u2).mono ?_
          rintro e w3 ⟨v3, rfl, ho3, hx3⟩
          rw [Q2.out] at ho3
          rw [Q1.out]
          have HO3 := hide ho3
          have HX3 := hide hx3
          clear ho3 hx3 cc k1 k2 k3 hs1
          have h2s := HX3.out.size
          go_wp2_with (at_builtin; refine wpList_app rfl (.tmp 74) (.tmp 75) 23 rfl 5 i0 (.int .u8 0) 1 Try.underlying23 hi hz0 hz1 hz2 rfl rfl HO3.out rfl (byt_length l).symm (HR.out.ext (HX2.out.trans HX3.out)) (byt_one l) (by simp; omega) (by omega) h2s ?_; intro v4 w4 ho4 hb4 _)
          obtain ⟨A4, c4, rfl, hr4, hc4⟩ := own_app ho4
          have hx4 : Ext w2 w4 := Below.trans HX3.out hb4
          refine (get_any A4 c4 (be k u ++ l) k _ hr4 (isB_append (be_isB k u) HB.out) (by simp; omega) hc4).mono ?_
          rintro e w5 ⟨A5, c5, rfl, hr5, hx5⟩
          rw [Q4.out, Q5.out, Q6.out] at *
          have hx5' : Ext w2 w5 := hx4.trans hx5
          have k4 := conv23 hr5 l.length c5 rfl rfl
          have k5 := conv23 (HR.out.ext (HX2.out.trans hx5')) l.length c rfl rfl
          have cc := (cells4 (HS2.out.ext hx5')).2.1
          have HX5 := hide (HXX.out.trans hx5')
          clear ho4 hb4 hr4 hc4 hx4 hr5 hx5 hx5'
          go_wp2_with fail
          go_roundw
          case rel => exact ⟨k + 1, by go_num, by omega, by omega, HX5⟩
          case measure => simp [intOf]; omega
      · have hkl' : (l.length : Int) < (k : Int) := by omega
        obtain ⟨g1, g2, g3⟩ := get_none (l := l) hk1 hk8 (by omega)
        have G1 := hide g1
        have G2 := hide g2
        have G3 := hide g3
        clear g1 g2 g3 hkl
        go_wp2_with fail
        refine (get_any A c l k _ (HR.out.ext HXw.out) HB.out (by omega) hlc).mono ?_
        rintro e w2 ⟨A1, c1, rfl, hr1, hx1⟩
        rw [G1.out, G2.out, G3.out] at *
        have HX2 := hide (HXw.out.trans hx1)
        have HS2 := hide (HSr.out.ext hx1)
        have HXX := hide (HXr.out.trans hx1)
        clear hr1 hx1
        rcases hpe with hpe | hpe
        · have Q1 := hide hpe
          clear hpe
          have cc := (cells4 HS2.out).2.1
          go_wp2_with fail
          refine (put_any none 0 [] u k _ (Rd.nil _ _) (by decide) u1 u2).mono ?_
          rintro e w3 ⟨v3, rfl, ho3, hx3⟩
          rw [Q1.out]
          have HX3 := hide (HXX.out.trans hx3)
          clear ho3 hx3 cc 
          go_wp2_with fail
          go_roundw
          case rel => exact ⟨k + 1, by go_num, by omega, by omega, HX3⟩
          case measure => simp [intOf]; omega
        · obtain ⟨q2, q3, q4, q5, q6⟩ := get_put (l := l) hk1 hk8 u1 hpe
          have hbl : (be k u).length ≤ 8 := by omega
          have Q1 := hide hpe
          have Q2 := hide q2
          have Q4 := hide q4
          have Q5 := hide q5
          have Q6 := hide q6
          clear hpe q2 q3 q4 q5 q6
          have cc := (cells4 HS2.out).2.1
          go_wp2_with fail
          refine (put_any none 0 [] u k _ (Rd.nil _ _) (by decide) u1 u2).mono ?_
          rintro e w3 ⟨v3, rfl, ho3, hx3⟩
          rw [Q2.out] at ho3
          rw [Q1.out]
          have HO3 := hide ho3
          have HX3 := hide hx3
          clear ho3 hx3 cc 
          have h2s := HX3.out.size
          go_wp2_with (at_builtin; refine wpList_app rfl (.tmp 74) (.tmp 75) 23 rfl 5 i0 (.int .u8 0) 1 Try.underlying23 hi hz0 hz1 hz2 rfl rfl HO3.out rfl (byt_length l).symm (HR.out.ext (HX2.out.trans HX3.out)) (byt_one l) (by simp; omega) (by omega) h2s ?_; intro v4 w4 ho4 hb4 _)
          obtain ⟨A4, c4, rfl, hr4, hc4⟩ := own_app ho4
          have hx4 : Ext w2 w4 := Below.trans HX3.out hb4
          refine (get_any A4 c4 (be k u ++ l) k _ hr4 (isB_append (be_isB k u) HB.out) (by simp; omega) hc4).mono ?_
          rintro e w5 ⟨A5, c5, rfl, hr5, hx5⟩
          rw [Q4.out, Q5.out, Q6.out] at *
          have hx5' : Ext w2 w5 := hx4.trans hx5
          have k4 := conv23 hr5 l.length c5 rfl rfl
          have k5 := conv23 (HR.out.ext (HX2.out.trans hx5')) l.length c rfl rfl
          have cc := (cells4 (HS2.out.ext hx5')).2.1
          have HX5 := hide (HXX.out.trans hx5')
          clear ho4 hb4 hr4 hc4 hx4 hr5 hx5 hx5'
          go_wp2_with fail
          go_roundw
          case rel => exact ⟨k + 1, by go_num, by omega, by omega, HX5⟩
          case measure => simp [intOf]; omega
    · obtain rfl : k = 9 := by omega
      have HXw := hide (((Ext.refl w).alloc _).trans HXr.out)
      have HSr := hide (HS.out.ext HXr.out)
      go_wp2_with fail
      refine (getvar_any A c l _ (HR.out.ext HXw.out) HB.out (by omega) hlc).mono ?_
      rintro e w1 ⟨A1, c1, rfl, hr1, hx1⟩
      obtain ⟨e1, he1⟩ : ∃ e1, gvE l = e1 := ⟨_, rfl⟩
      obtain ⟨m, hm⟩ : ∃ m, gvN l = m := ⟨_, rfl⟩
      obtain ⟨r, hrr⟩ : ∃ r, gvR l = r := ⟨_, rfl⟩
      have hv := vb_read (l := l) HB.out
      rw [he1, hm, hrr] at hv
      have HV := hide hv
      rw [he1, hm, hrr]
      rw [hrr] at hr1
      clear he1 hm hrr hv
      have HR1 := hide hr1
      have HX1 := hide (HXw.out.trans hx1)
      have HS1 := hide (HSr.out.ext hx1)
      clear hr1 hx1
      go_wp2_with fail
      by_cases hz : e1 = 0
      · subst hz
        obtain ⟨m1, m2, hsv⟩ := HV.out rfl
        have hs1 := str_sum (a := vb m) (b := r) (l := l) (by rw [str_append, hsv]) hl
        have HC := hide (fun (x : World) (A : Option Addr) (l : List Int) (n c : Nat) (hr : Rd x A (byt l)) (hn : n = l.length) (p : Regrown) => conv23 (w := Sort.grow (redrawn x p.d) p.os) (hr.ext (below_regrown x p.d p.os)) n c hn (s := strOfNums l) rfl)
        have k2 := HC.out _ _ _ r.length c1 (Rd.drew HR1.out) rfl
        have k3 := HC.out _ _ _ l.length c (Rd.drew (HR.out.ext HX1.out)) rfl
        clear hsv
        refine wp_region_wm [0, 1, 2, 3, 6, 7, 9, 10, 4, 5, 8, 11, 12] (by kernel_rfl) (by kernel_rfl) (by kernel_rfl) (by kernel_rfl) ?_
        repeat (first
          | (refine wm_rd rfl rfl (fun K hK => ?_); go_simp; refine hK _ ?_; clear hK K)
          | (refine wm_ext rfl rfl (fun K hK => ?_); go_simp; go_at_call 13; refine (putvar_any none 0 [] _ _ (Rd.nil _ _) (by decide) m1 m2).mono ?_; rintro e w3 ⟨v3, rfl, ho3, hx3⟩; obtain ⟨A3, c3, rfl, hr3⟩ := ho3.bytes; have HX3 := hide hx3; have k4 := HC.out _ _ _ (vb m).length c3 hr3 rfl; refine hK _ _ hx3 ?_; clear hK K ho3 hx3 hr3))
        have HXq := hide (HX1.out.trans ((Ext.refl _).drew.trans HX3.out))
        have HSq := hide ((show Blk w1.drew w.heap.size 36 [.int .i64 n, .int .u64 u, .int .i64 bt, .bool sg] from HS1.out).ext HX3.out)
        obtain ⟨wq, hwq⟩ : ∃ wq, wq = w3 := ⟨_, rfl⟩
        rw [← hwq] at HXq HSq ⊢
        clear hwq k2 k3 k4 hs1 m1 m2
        refine wm_nil ?_
        have cq := (cells4 HSq.out).2.1
        go_wp2_with fail
        refine (putvar_any none 0 [] u _ (Rd.nil _ _) (by decide) u1 u2).mono ?_
        rintro e w4 ⟨v4, rfl, ho4, hx4⟩
        have HX4 := hide hx4
        have HO4 := hide ho4
        have h4s := hx4.size
        have hvl : (vb u).length ≤ 10 := vb_ten u
        clear hx4 ho4 cq
        go_wp2_with (at_builtin; refine wpList_app rfl (.tmp 119) (.tmp 120) 23 rfl 5 i0 (.int .u8 0) 1 Try.underlying23 hi hz0 hz1 hz2 rfl rfl HO4.out rfl (byt_length l).symm (HR.out.ext (HXq.out.trans HX4.out)) (byt_one l) (by simp; omega) (by omega) h4s ?_; intro v5 w5 ho5 hb5 _)
        obtain ⟨A5, c5, rfl, hr5, hc5⟩ := own_app ho5
        have hx5 : Ext wq w5 := Below.trans HX4.out hb5
        have hgb := vb_back (n := u) (r := l) u1 u2
        refine (getvar_any A5 c5 (vb u ++ l) _ hr5 (isB_append (vbF_isB 10 u u1) HB.out) (by simp; omega) hc5).mono ?_
        rintro e w6 ⟨A6, c6, rfl, hr6, hx6⟩
        rw [hgb.2.2] at hr6
        rw [hgb.1, hgb.2.1, hgb.2.2]
        have hx6' : Ext wq w6 := hx5.trans hx6
        have HX6 := hide (HXq.out.trans hx6')
        have HS6 := hide (HSq.out.ext hx6')
        have HR6 := hide hr6
        clear ho5 hb5 hr5 hc5 hx5 hr6 hx6 hx6' hgb
        go_wp2_with fail
        have HC := hide (fun (x : World) (A : Option Addr) (l : List Int) (n c : Nat) (hr : Rd x A (byt l)) (hn : n = l.length) (p : Regrown) => conv23 (w := Sort.grow (redrawn x p.d) p.os) (hr.ext (below_regrown x p.d p.os)) n c hn (s := strOfNums l) rfl)
        have HCC := hide (fun (x : World) (a b c d : Value) (hB : Blk x w.heap.size 36 [a, b, c, d]) (p : Regrown) => cells4 (hB.ext (below_regrown x p.d p.os)))
        have k2 := HC.out _ _ _ l.length c6 (Rd.drew HR6.out) rfl
        have k3 := HC.out _ _ _ l.length c (Rd.drew (HR.out.ext HX6.out)) rfl
        have ka := fun p => (HCC.out _ _ _ _ _ (show Blk w6.drew w.heap.size 36 [.int .i64 n, .int .u64 u, .int .i64 bt, .bool sg] from HS6.out) p).1
        have kb := fun p => (HCC.out _ _ _ _ _ (show Blk w6.drew w.heap.size 36 [.int .i64 n, .int .u64 u, .int .i64 bt, .bool sg] from HS6.out) p).2.1
        have zb := zig_bd n n1 n2
        have gb := zag_bd u u1 u2
        have ZZ := hide (zag_zig n)
        have GG := hide (zig_zag u u1)
        obtain ⟨z, hz⟩ : ∃ z, zig n = z := ⟨_, rfl⟩
        obtain ⟨g, hg⟩ : ∃ g, zag u = g := ⟨_, rfl⟩
        have HZ := hide hz
        have HG := hide hg
        rw [hz] at zb
        rw [hg] at gb
        obtain ⟨zb1, zb2⟩ := zb
        obtain ⟨gb1, gb2⟩ := gb
        clear hz hg
        refine wp_region_wm [0, 1, 2, 3, 4, 5, 6, 7, 8, 9, 10, 11, 12, 13, 14, 15, 16, 17, 20, 21, 18, 19, 22, 23, 24, 25, 26, 29, 30, 27, 28, 31, 32] (by kernel_rfl) (by kernel_rfl) (by kernel_rfl) (by kernel_rfl) ?_
        repeat (first
          | (refine wm_rd rfl rfl (fun K hK => ?_); go_simp; refine hK _ ?_; clear hK K)
          | (refine wm_ext rfl rfl (fun K hK => ?_); go_simp; first | (go_at_call 18; (with_reducible refine (zig_any n _ n1 n2).mono ?_); rintro e w9 ⟨rfl, rfl⟩; rw [HZ.out]; refine hK _ _ (Ext.refl _) ?_; clear hK K) | (go_at_call 20; (with_reducible refine (zag_any z _ zb1 zb2).mono ?_); rintro e w9 ⟨rfl, rfl⟩; rw [← HZ.out, ZZ.out]; refine hK _ _ (Ext.refl _) ?_; clear hK K) | (go_at_call 20; (with_reducible refine (zag_any u _ u1 u2).mono ?_); rintro e w9 ⟨rfl, rfl⟩; rw [HG.out]; refine hK _ _ (Ext.refl _) ?_; clear hK K) | (go_at_call 18; (with_reducible refine (zig_any g _ gb1 gb2).mono ?_); rintro e w9 ⟨rfl, rfl⟩; rw [← HG.out, GG.out]; refine hK _ _ (Ext.refl _) ?_; clear hK K)))
        refine wm_nil ?_
        have HXd := hide (HX6.out.trans (Ext.refl _).drew)
        have HSd := hide (show Blk w6.drew w.heap.size 36 [.int .i64 n, .int .u64 u, .int .i64 bt, .bool sg] from HS6.out)
        obtain ⟨wd, hwd⟩ : ∃ wd, wd = w6.drew := ⟨_, rfl⟩
        rw [← hwd] at HXd HSd ⊢
        clear hwd k2 k3 ka kb zb1 zb2 gb1 gb2
        obtain ⟨cd0, cd1, cd2, cd3⟩ := cells4 HSd.out
        go_wp2_with fail
        (with_reducible refine (fit_any n bt sg _ n1 n2).mono ?_)
        rintro e wa ⟨rfl, rfl⟩
        rcases fit_two n bt sg with hf | hf
        all_goals rcases wid_two u bt sg with hv | hv
        · rw [hf]
          have HV7 := hide hv
          clear hf hv
          go_wp2_with fail
          (with_reducible refine (widen_any u bt sg _ u1 u2).mono ?_)
          rintro e wa ⟨rfl, rfl⟩
          rw [HV7.out]
          go_wp2_with fail
          (with_reducible refine (awake_any _).mono ?_)
          rintro e wz ⟨rfl, hxz⟩
          have HXZ := hide (HXd.out.trans hxz)
          clear hxz
          go_wp2_with fail
          go_ret
          exact ⟨rfl, HXZ.out⟩
        · rw [hf]
          obtain ⟨y1, y2, y3, y4⟩ := fit_wid u1 u2 hv
          obtain ⟨y, hy⟩ : ∃ y, widV u bt sg = y := ⟨_, rfl⟩
          rw [hy] at y1 y2 y3 y4
          have Y3 := hide y3
          have Y4 := hide y4
          have HY := hide hy
          have HV7 := hide hv
          clear hf hv y3 y4 hy
          go_wp2_with fail
          (with_reducible refine (widen_any u bt sg _ u1 u2).mono ?_)
          rintro e wa ⟨rfl, rfl⟩
          rw [HV7.out, HY.out]
          go_wp2_with fail
          (with_reducible refine (fit_any y bt sg _ y1 y2).mono ?_)
          rintro e wa ⟨rfl, rfl⟩
          rw [Y3.out, Y4.out]
          go_wp2_with fail
          (with_reducible refine (awake_any _).mono ?_)
          rintro e wz ⟨rfl, hxz⟩
          have HXZ := hide (HXd.out.trans hxz)
          clear hxz
          go_wp2_with fail
          go_ret
          exact ⟨rfl, HXZ.out⟩
        · rw [hf]
          obtain ⟨x1, x2, x3, x4⟩ := wid_fit n1 n2 hf
          obtain ⟨x, hx⟩ : ∃ x, fitV n bt sg = x := ⟨_, rfl⟩
          rw [hx] at x1 x2 x3 x4 ⊢
          have X3 := hide x3
          have X4 := hide x4
          have HV7 := hide hv
          clear hf hv x3 x4 hx
          go_wp2_with fail
          (with_reducible refine (widen_any x bt sg _ x1 x2).mono ?_)
          rintro e wa ⟨rfl, rfl⟩
          rw [X3.out, X4.out]
          go_wp2_with fail
          (with_reducible refine (widen_any u bt sg _ u1 u2).mono ?_)
          rintro e wa ⟨rfl, rfl⟩
          rw [HV7.out]
          go_wp2_with fail
          (with_reducible refine (awake_any _).mono ?_)
          rintro e wz ⟨rfl, hxz⟩
          have HXZ := hide (HXd.out.trans hxz)
          clear hxz
          go_wp2_with fail
          go_ret
          exact ⟨rfl, HXZ.out⟩
        · rw [hf]
          obtain ⟨x1, x2, x3, x4⟩ := wid_fit n1 n2 hf
          obtain ⟨x, hx⟩ : ∃ x, fitV n bt sg = x := ⟨_, rfl⟩
          rw [hx] at x1 x2 x3 x4 ⊢
          obtain ⟨y1, y2, y3, y4⟩ := fit_wid u1 u2 hv
          obtain ⟨y, hy⟩ : ∃ y, widV u bt sg = y := ⟨_, rfl⟩
          rw [hy] at y1 y2 y3 y4
          have X3 := hide x3
          have X4 := hide x4
          have Y3 := hide y3
          have Y4 := hide y4
          have HY := hide hy
          have HV7 := hide hv
          clear hf hv x3 x4 hx y3 y4 hy
          go_wp2_with fail
          (with_reducible refine (widen_any x bt sg _ x1 x2).mono ?_)
          rintro e wa ⟨rfl, rfl⟩
          rw [X3.out, X4.out]
          go_wp2_with fail
          (with_reducible refine (widen_any u bt sg _ u1 u2).mono ?_)
          rintro e wa ⟨rfl, rfl⟩
          rw [HV7.out, HY.out]
          go_wp2_with fail
          (with_reducible refine (fit_any y bt sg _ y1 y2).mono ?_)
          rintro e wa ⟨rfl, rfl⟩
          rw [Y3.out, Y4.out]
          go_wp2_with fail
          (with_reducible refine (awake_any _).mono ?_)
          rintro e wz ⟨rfl, hxz⟩
          have HXZ := hide (HXd.out.trans hxz)
          clear hxz
          go_wp2_with fail
          go_ret
          exact ⟨rfl, HXZ.out⟩
      · have HXq := hide (HX1.out.trans (Ext.refl _).drew)
        have HSq := hide (show Blk w1.drew w.heap.size 36 [.int .i64 n, .int .u64 u, .int .i64 bt, .bool sg] from HS1.out)
        have hz' : (e1 == 0) = false := by simpa using hz
        have hz'' : decide (e1 = 0) = false := by simpa using hz
        refine wp_region_wm [0, 1, 2, 3, 6, 7, 9, 10, 4, 5, 8, 11, 12] (by kernel_rfl) (by kernel_rfl) (by kernel_rfl) (by kernel_rfl) ?_
        repeat (first
          | (refine wm_rd rfl rfl (fun K hK => ?_); go_simp; refine hK _ ?_; clear hK K)
          | (refine wm_ext rfl rfl (fun K hK => ?_); go_simp; refine hK _ _ (Ext.refl _) ?_; clear hK K))
        obtain ⟨wq, hwq⟩ : ∃ wq, wq = w1.drew := ⟨_, rfl⟩
        rw [← hwq] at HXq HSq ⊢
        clear hwq
        refine wm_nil ?_
        have cq := (cells4 HSq.out).2.1
        go_wp2_with fail
        refine (putvar_any none 0 [] u _ (Rd.nil _ _) (by decide) u1 u2).mono ?_
        rintro e w4 ⟨v4, rfl, ho4, hx4⟩
        have HX4 := hide hx4
        have HO4 := hide ho4
        have h4s := hx4.size
        have hvl : (vb u).length ≤ 10 := vb_ten u
        clear hx4 ho4 cq
        go_wp2_with (at_builtin; refine wpList_app rfl (.tmp 119) (.tmp 120) 23 rfl 5 i0 (.int .u8 0) 1 Try.underlying23 hi hz0 hz1 hz2 rfl rfl HO4.out rfl (byt_length l).symm (HR.out.ext (HXq.out.trans HX4.out)) (byt_one l) (by simp; omega) (by omega) h4s ?_; intro v5 w5 ho5 hb5 _)
        obtain ⟨A5, c5, rfl, hr5, hc5⟩ := own_app ho5
        have hx5 : Ext wq w5 := Below.trans HX4.out hb5
        have hgb := vb_back (n := u) (r := l) u1 u2
        refine (getvar_any A5 c5 (vb u ++ l) _ hr5 (isB_append (vbF_isB 10 u u1) HB.out) (by simp; omega) hc5).mono ?_
        rintro e w6 ⟨A6, c6, rfl, hr6, hx6⟩
        rw [hgb.2.2] at hr6
        rw [hgb.1, hgb.2.1, hgb.2.2]
        have hx6' : Ext wq w6 := hx5.trans hx6
        have HX6 := hide (HXq.out.trans hx6')
        have HS6 := hide (HSq.out.ext hx6')
        have HR6 := hide hr6
        clear ho5 hb5 hr5 hc5 hx5 hr6 hx6 hx6' hgb
        go_wp2_with fail
        have HC := hide (fun (x : World) (A : Option Addr) (l : List Int) (n c : Nat) (hr : Rd x A (byt l)) (hn : n = l.length) (p : Regrown) => conv23 (w := Sort.grow (redrawn x p.d) p.os) (hr.ext (below_regrown x p.d p.os)) n c hn (s := strOfNums l) rfl)
        have HCC := hide (fun (x : World) (a b c d : Value) (hB : Blk x w.heap.size 36 [a, b, c, d]) (p : Regrown) => cells4 (hB.ext (below_regrown x p.d p.os)))
        have k2 := HC.out _ _ _ l.length c6 (Rd.drew HR6.out) rfl
        have k3 := HC.out _ _ _ l.length c (Rd.drew (HR.out.ext HX6.out)) rfl
        have ka := fun p => (HCC.out _ _ _ _ _ (show Blk w6.drew w.heap.size 36 [.int .i64 n, .int .u64 u, .int .i64 bt, .bool sg] from HS6.out) p).1
        have kb := fun p => (HCC.out _ _ _ _ _ (show Blk w6.drew w.heap.size 36 [.int .i64 n, .int .u64 u, .int .i64 bt, .bool sg] from HS6.out) p).2.1
        have zb := zig_bd n n1 n2
        have gb := zag_bd u u1 u2
        have ZZ := hide (zag_zig n)
        have GG := hide (zig_zag u u1)
        obtain ⟨z, hz⟩ : ∃ z, zig n = z := ⟨_, rfl⟩
        obtain ⟨g, hg⟩ : ∃ g, zag u = g := ⟨_, rfl⟩
        have HZ := hide hz
        have HG := hide hg
        rw [hz] at zb
        rw [hg] at gb
        obtain ⟨zb1, zb2⟩ := zb
        obtain ⟨gb1, gb2⟩ := gb
        clear hz hg
        refine wp_region_wm [0, 1, 2, 3, 4, 5, 6, 7, 8, 9, 10, 11, 12, 13, 14, 15, 16, 17, 20, 21, 18, 19, 22, 23, 24, 25, 26, 29, 30, 27, 28, 31, 32] (by kernel_rfl) (by kernel_rfl) (by kernel_rfl) (by kernel_rfl) ?_
        repeat (first
          | (refine wm_rd rfl rfl (fun K hK => ?_); go_simp; refine hK _ ?_; clear hK K)
          | (refine wm_ext rfl rfl (fun K hK => ?_); go_simp; first | (go_at_call 18; (with_reducible refine (zig_any n _ n1 n2).mono ?_); rintro e w9 ⟨rfl, rfl⟩; rw [HZ.out]; refine hK _ _ (Ext.refl _) ?_; clear hK K) | (go_at_call 20; (with_reducible refine (zag_any z _ zb1 zb2).mono ?_); rintro e w9 ⟨rfl, rfl⟩; rw [← HZ.out, ZZ.out]; refine hK _ _ (Ext.refl _) ?_; clear hK K) | (go_at_call 20; (with_reducible refine (zag_any u _ u1 u2).mono ?_); rintro e w9 ⟨rfl, rfl⟩; rw [HG.out]; refine hK _ _ (Ext.refl _) ?_; clear hK K) | (go_at_call 18; (with_reducible refine (zig_any g _ gb1 gb2).mono ?_); rintro e w9 ⟨rfl, rfl⟩; rw [← HG.out, GG.out]; refine hK _ _ (Ext.refl _) ?_; clear hK K)))
        refine wm_nil ?_
        have HXd := hide (HX6.out.trans (Ext.refl _).drew)
        have HSd := hide (show Blk w6.drew w.heap.size 36 [.int .i64 n, .int .u64 u, .int .i64 bt, .bool sg] from HS6.out)
        obtain ⟨wd, hwd⟩ : ∃ wd, wd = w6.drew := ⟨_, rfl⟩
        rw [← hwd] at HXd HSd ⊢
        clear hwd k2 k3 ka kb zb1 zb2 gb1 gb2
        obtain ⟨cd0, cd1, cd2, cd3⟩ := cells4 HSd.out
        go_wp2_with fail
        (with_reducible refine (fit_any n bt sg _ n1 n2).mono ?_)
        rintro e wa ⟨rfl, rfl⟩
        rcases fit_two n bt sg with hf | hf
        all_goals rcases wid_two u bt sg with hv | hv
        · rw [hf]
          have HV7 := hide hv
          clear hf hv
          go_wp2_with fail
          (with_reducible refine (widen_any u bt sg _ u1 u2).mono ?_)
          rintro e wa ⟨rfl, rfl⟩
          rw [HV7.out]
          go_wp2_with fail
          (with_reducible refine (awake_any _).mono ?_)
          rintro e wz ⟨rfl, hxz⟩
          have HXZ := hide (HXd.out.trans hxz)
          clear hxz
          go_wp2_with fail
          go_ret
          exact ⟨rfl, HXZ.out⟩
        · rw [hf]
          obtain ⟨y1, y2, y3, y4⟩ := fit_wid u1 u2 hv
          obtain ⟨y, hy⟩ : ∃ y, widV u bt sg = y := ⟨_, rfl⟩
          rw [hy] at y1 y2 y3 y4
          have Y3 := hide y3
          have Y4 := hide y4
          have HY := hide hy
          have HV7 := hide hv
          clear hf hv y3 y4 hy
          go_wp2_with fail
          (with_reducible refine (widen_any u bt sg _ u1 u2).mono ?_)
          rintro e wa ⟨rfl, rfl⟩
          rw [HV7.out, HY.out]
          go_wp2_with fail
          (with_reducible refine (fit_any y bt sg _ y1 y2).mono ?_)
          rintro e wa ⟨rfl, rfl⟩
          rw [Y3.out, Y4.out]
          go_wp2_with fail
          (with_reducible refine (awake_any _).mono ?_)
          rintro e wz ⟨rfl, hxz⟩
          have HXZ := hide (HXd.out.trans hxz)
          clear hxz
          go_wp2_with fail
          go_ret
          exact ⟨rfl, HXZ.out⟩
        · rw [hf]
          obtain ⟨x1, x2, x3, x4⟩ := wid_fit n1 n2 hf
          obtain ⟨x, hx⟩ : ∃ x, fitV n bt sg = x := ⟨_, rfl⟩
          rw [hx] at x1 x2 x3 x4 ⊢
          have X3 := hide x3
          have X4 := hide x4
          have HV7 := hide hv
          clear hf hv x3 x4 hx
          go_wp2_with fail
          (with_reducible refine (widen_any x bt sg _ x1 x2).mono ?_)
          rintro e wa ⟨rfl, rfl⟩
          rw [X3.out, X4.out]
          go_wp2_with fail
          (with_reducible refine (widen_any u bt sg _ u1 u2).mono ?_)
          rintro e wa ⟨rfl, rfl⟩
          rw [HV7.out]
          go_wp2_with fail
          (with_reducible refine (awake_any _).mono ?_)
          rintro e wz ⟨rfl, hxz⟩
          have HXZ := hide (HXd.out.trans hxz)
          clear hxz
          go_wp2_with fail
          go_ret
          exact ⟨rfl, HXZ.out⟩
        · rw [hf]
          obtain ⟨x1, x2, x3, x4⟩ := wid_fit n1 n2 hf
          obtain ⟨x, hx⟩ : ∃ x, fitV n bt sg = x := ⟨_, rfl⟩
          rw [hx] at x1 x2 x3 x4 ⊢
          obtain ⟨y1, y2, y3, y4⟩ := fit_wid u1 u2 hv
          obtain ⟨y, hy⟩ : ∃ y, widV u bt sg = y := ⟨_, rfl⟩
          rw [hy] at y1 y2 y3 y4
          have X3 := hide x3
          have X4 := hide x4
          have Y3 := hide y3
          have Y4 := hide y4
          have HY := hide hy
          have HV7 := hide hv
          clear hf hv x3 x4 hx y3 y4 hy
          go_wp2_with fail
          (with_reducible refine (widen_any x bt sg _ x1 x2).mono ?_)
          rintro e wa ⟨rfl, rfl⟩
          rw [X3.out, X4.out]
          go_wp2_with fail
          (with_reducible refine (widen_any u bt sg _ u1 u2).mono ?_)
          rintro e wa ⟨rfl, rfl⟩
          rw [HV7.out, HY.out]
          go_wp2_with fail
          (with_reducible refine (fit_any y bt sg _ y1 y2).mono ?_)
          rintro e wa ⟨rfl, rfl⟩
          rw [Y3.out, Y4.out]
          go_wp2_with fail
          (with_reducible refine (awake_any _).mono ?_)
          rintro e wz ⟨rfl, hxz⟩
          have HXZ := hide (HXd.out.trans hxz)
          clear hxz
          go_wp2_with fail
          go_ret
          exact ⟨rfl, HXZ.out⟩
end Go.Proofs.Yteebnoegeoenbaa
