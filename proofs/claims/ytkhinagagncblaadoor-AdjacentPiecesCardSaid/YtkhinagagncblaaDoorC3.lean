/- Seats side by side: venues that are far too great. -/
import Derived.Test.YtkhinagagncblaaDoorA9
namespace Go.Proofs.YtkhinagagncblaaDoor
open Go.RowKit Go.Gr Go.Ad
set_option linter.unusedVariables false
set_option linter.unusedSimpArgs false
attribute [local go_sem] rdOp rdAt rdUpon Cls forall_fr
def IsB (e : Ending) : Prop := ∃ b, e = .returned (.bool b)
set_option maxRecDepth 100000 in
set_option maxHeartbeats 8000000 in
theorem far15 (v : Vn) (A : Option Addr) (c : Nat) (w : World) (h : Secs w A v.secs) (hc : v.secs.length ≤ c) (hw : VnW v) :
    Calls Tryd.prog 27 #[.agg #[.int .i64 v.sh, .int .i64 v.ttl, .int .i64 v.ses, .slice A v.secs.length c]] w fun e w' => IsB e ∧ Ext w w' := by
  have HS := hide (fun (y : World) (k : Ext w y) => h.ext k)
  have HW := hide hw
  have hmx := hw.secs
  clear h hw
  have K0 := hide ((Sep.refl No w).add 24 [.int .i64 v.sh, .int .i64 v.ttl, .int .i64 v.ses, .slice A v.secs.length c])
  go_enter Tryd.func27, Tryd.ntmps27
  go_upto_region 1 with fail
  generalize w.alloc _ = w1 at K0 ⊢
  generalize w.heap.size = g0 at K0 ⊢
  obtain ⟨c0, c1, c2, c3, cz⟩ := blk4 (K0.out.blk (List.Mem.head _))
  by_cases h10 : 10 < v.secs.length
  · have e1 : (10 : Int) < (v.secs.length : Int) := by omega
    clear h10
    go_wp2_with fail
    go_ret
    exact ⟨⟨_, rfl⟩, K0.out.toExt⟩
  have e1 : ¬ (10 : Int) < (v.secs.length : Int) := by omega
  have H10 : Hid (v.secs.length ≤ 10) := hide (by omega)
  clear h10 hmx
  go_wp2_with fail
  clear c0 c1 c2 c3 cz
  go_loopw [3, 4] (fun v3 v4 wr => ∃ (i : Nat) (n : Int), v4 = .int .i64 i ∧ v3 = .int .i64 n ∧ i ≤ v.secs.length ∧ 0 ≤ n ∧ n ≤ i * 2000 ∧ Hid (Sep No w wr [As.blk g0 24 [.int .i64 v.sh, .int .i64 v.ttl, .int .i64 v.ses, .slice A v.secs.length c]])) (fun _ v4 _ => v.secs.length - (intOf v4).toNat)
  case atStart => exact ⟨0, 0, rfl, rfl, by omega, by omega, by omega, K0⟩
  case round =>
    obtain ⟨i, n, rfl, rfl, hi, hn0, hn1, K1⟩ := hrel
    clear K0
    have hib : i ≤ 10 := by have := H10.out; omega
    obtain ⟨c0, c1, c2, c3, cz⟩ := blk4 (K1.out.blk (g := g0) (e := 24) (List.Mem.head _))
    by_cases hlt : i < v.secs.length
    · have hli : (i : Int) < (v.secs.length : Int) := by omega
      have hic : (i : Int) < (c : Int) := by omega
      obtain ⟨s, hs⟩ : ∃ s, v.secs[i]? = some s := ⟨_, List.getElem?_eq_getElem hlt⟩
      obtain ⟨b, off, R, d, hA, h5, hR, hd⟩ := HS.out _ K1.out.toExt i _ hs
      have HR := hide (fun (y : World) (k : Ext wr y) => hR.ext k)
      have hsw := HW.out.sec s (List.mem_of_getElem? hs)
      have hsr := hsw.rows
      have hsn := hsw.name
      have HLT := hide hlt
      subst hA
      obtain ⟨d0, d1, d2⟩ := at5_3 h5
      clear hs h5 hR hlt hsw
      go_upto_region 8 with fail
      clear c0 c1 c2 c3 cz d0 d1 d2
      have HAX : Hid (Ext wr (wr.alloc (.cells #[.string s.name, .slice R s.rows.length d, .int .i64 s.queue] 78))) := hide ((Ext.refl wr).alloc _)
      have K2 := hide (K1.out.add 78 [.string s.name, .slice R s.rows.length d, .int .i64 s.queue])
      clear K1
      generalize wr.alloc _ = w2 at HAX K2 ⊢
      generalize wr.heap.size = g2 at K2 ⊢
      obtain ⟨s0, s1, s2, sz⟩ := blk3 (K2.out.blk (List.Mem.head _))
      by_cases h20 : 20 < s.rows.length
      · have e2 : (20 : Int) < (s.rows.length : Int) := by omega
        clear h20
        go_wp2_with fail
        go_ret
        exact ⟨⟨_, rfl⟩, K2.out.toExt⟩
      have e2 : ¬ (20 : Int) < (s.rows.length : Int) := by omega
      by_cases h100 : 100 < s.name.size
      · have e3 : (100 : Int) < (s.name.size : Int) := by omega
        clear h20 h100
        go_wp2_with fail
        go_ret
        exact ⟨⟨_, rfl⟩, K2.out.toExt⟩
      have e3 : ¬ (100 : Int) < (s.name.size : Int) := by omega
      have H20 : Hid (s.rows.length ≤ 20) := hide (by omega)
      clear h20 h100
      go_wp2_with fail
      clear s0 s1 s2 sz
      go_loopw [3, 6] (fun v3 v6 wy => ∃ (k : Nat) (m : Int), v6 = .int .i64 k ∧ v3 = .int .i64 m ∧ k ≤ s.rows.length ∧ 0 ≤ m ∧ m ≤ i * 2000 + k * 100 ∧ wy = w2) (fun _ v6 _ => s.rows.length - (intOf v6).toNat)
      case atStart => exact ⟨0, n, rfl, rfl, by omega, hn0, by omega, rfl⟩
      case round =>
        obtain ⟨k, m, rfl, rfl, hk, hm0, hm1, rfl⟩ := hrel
        have hkb : k ≤ 20 := by have := H20.out; omega
        obtain ⟨s0, s1, s2, sz⟩ := blk3 (K2.out.blk (g := g2) (e := 78) (List.Mem.head _))
        by_cases hkl : k < s.rows.length
        · have hkli : (k : Int) < (s.rows.length : Int) := by omega
          have hkd : (k : Int) < (d : Int) := by omega
          obtain ⟨ad, hRA, cl⟩ := i64s_at (HR.out _ HAX.out) hkl
          subst hRA
          obtain ⟨x, hx⟩ : ∃ x, s.rows[k] = x := ⟨_, rfl⟩
          rw [hx] at cl
          have HKL := hide hkl
          clear hx hkl
          by_cases hx0 : 0 < x
          · by_cases hx1 : x ≤ 100
            · go_wp2_with fail
              clear s0 s1 s2 sz cl
              go_roundw
              case rel => exact ⟨k + 1, m + x, by go_num, by go_num, HKL.out, by omega, by omega, by first | trivial | rfl⟩
              case measure => have := HKL.out; simp [intOf]; omega
            · go_wp2_with fail
              clear s0 s1 s2 sz cl
              go_roundw
              case rel => exact ⟨k + 1, m, by go_num, rfl, HKL.out, by omega, by omega, by first | trivial | rfl⟩
              case measure => have := HKL.out; simp [intOf]; omega
          · go_wp2_with fail
            clear s0 s1 s2 sz cl
            go_roundw
            case rel => exact ⟨k + 1, m, by go_num, rfl, HKL.out, by omega, by omega, by first | trivial | rfl⟩
            case measure => have := HKL.out; simp [intOf]; omega
        · have hkli : ¬ (k : Int) < (s.rows.length : Int) := by omega
          have HKB : Hid (m ≤ (i + 1 : Nat) * 2000) := hide (by omega)
          clear hkl
          go_wp2_with fail
          clear s0 s1 s2 sz
          go_roundw
          case rel => exact ⟨i + 1, m, by go_num, rfl, HLT.out, hm0, HKB.out, hide (K2.out.tail)⟩
          case measure => have := HLT.out; simp [intOf]; omega
    · have hli : ¬ (i : Int) < (v.secs.length : Int) := by omega
      clear hlt
      go_wp2_with fail
      go_ret
      exact ⟨⟨_, rfl⟩, K1.out.toExt⟩
set_option maxRecDepth 100000 in
set_option maxHeartbeats 4000000 in
theorem far19 (v : Vn) (A : Option Addr) (c : Nat) (F : Option Addr) (n d : Nat) (w : World) (h : Secs w A v.secs) (hc : v.secs.length ≤ c) (hw : VnW v) :
    Calls Tryd.prog 9 #[.agg #[.int .i64 v.sh, .int .i64 v.ttl, .int .i64 v.ses, .slice A v.secs.length c], .slice F n d] w fun e w' => IsB e ∧ Ext w w' := by
  have HQ := hide (fun (y : World) (k : Ext w y) => far15 v A c y (h.ext k) hc hw)
  clear h hc hw
  have K0 := hide ((Sep.refl No w).add 24 [.int .i64 v.sh, .int .i64 v.ttl, .int .i64 v.ses, .slice A v.secs.length c])
  go_enter Tryd.func9, Tryd.ntmps9
  go_wp2_with fail
  (with_reducible refine (HQ.out _ K0.out.toExt).mono ?_)
  rintro e w1 ⟨⟨b, rfl⟩, hx⟩
  have K1 := hide (K0.out.ext hx)
  clear hx K0 HQ
  cases b
  · go_wp2_with fail
    go_ret
    exact ⟨⟨_, rfl⟩, K1.out.toExt⟩
  · go_wp2_with fail
    go_ret
    exact ⟨⟨_, rfl⟩, K1.out.toExt⟩
end Go.Proofs.YtkhinagagncblaaDoor
