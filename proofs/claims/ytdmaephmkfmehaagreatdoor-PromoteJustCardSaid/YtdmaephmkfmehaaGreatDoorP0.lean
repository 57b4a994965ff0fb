/- Promote: what the laws ask first: the examples' waiters, the venue, houses that are too great. -/
import Derived.Test.YtdmaephmkfmehaaGreatDoorGs
import Derived.Test.YtdmaephmkfmehaaGreatDoorGb
namespace Go.Proofs.YtdmaephmkfmehaaGreatDoor
open Go.RowKit Go.Gr Go.Hp Go.Ad Go.Wl Go.Pm
set_option linter.unusedVariables false
set_option linter.unusedSimpArgs false
attribute [local go_sem] rdOp rdAt rdUpon Cls forall_fr
/-- the venue of the examples -/
def exH : Vn := ⟨3, 10, 100, [⟨hallS, [3, 2], 2⟩, ⟨boxS, [2], 0⟩]⟩
set_option maxRecDepth 100000 in
set_option maxHeartbeats 4000000 in
theorem ex15p (w : World) : Calls Tryz.prog 21 #[] w fun e w' =>
      ∃ g g1 g2, e = .returned (.agg #[.int .i64 3, .int .i64 10, .int .i64 100, .slice (some ⟨g, 0, none⟩) 2 2]) ∧ Sep No w w' [As.blk g 100 [.string hallS, .slice (some ⟨g1, 0, none⟩) 2 2, .int .i64 2, .string boxS, .slice (some ⟨g2, 0, none⟩) 1 1, .int .i64 0], As.blk g2 3 [.int .i64 2], As.blk g1 3 [.int .i64 3, .int .i64 2]] := by
  have K0 := ((Sep.refl No w).add 24 [.int .i64 0, .int .i64 0, .int .i64 0, .slice none 0 0])
  go_enter Tryz.func21, Tryz.ntmps21
  go_upto_region 1 with fail
  generalize w.alloc _ = w1 at K0 ⊢
  generalize w.heap.size = g0 at K0 ⊢
  have K1 := ((K0.add 3 [.int .i64 3, .int .i64 2]).add 3 [.int .i64 2]).add 100 [.string hallS, .slice (some ⟨w1.heap.size, 0, none⟩) 2 2, .int .i64 2, .string boxS, .slice (some ⟨w1.heap.size + 1, 0, none⟩) 1 1, .int .i64 0]
  simp only [World.size_alloc, Nat.add_assoc, Nat.reduceAdd] at K1
  have tok1 : True := trivial
  go_wp2_with (have zz := tok1; clear zz tok1; refine wpList_stS [_, _, _] K1 rfl 24 (.tmp 0) (.tmp 6) rfl rfl (cs := [.int .i64 3, .int .i64 10, .int .i64 100, .slice (some ⟨w1.heap.size + 2, 0, none⟩) 2 2]) rfl (by kernel_rfl) rfl (by intro v hv; simp only [List.mem_cons, List.not_mem_nil, or_false] at hv; rcases hv with rfl | rfl | rfl | rfl <;> rfl) ?_; intro w5 K5; dsimp only [List.nil_append, List.cons_append] at K5; clear K1)
  obtain ⟨c0, c1, c2, c3, cz⟩ := blk4 (K5.blk (g := g0) (e := 24) (List.Mem.tail _ (List.Mem.tail _ (List.Mem.tail _ (List.Mem.head _)))))
  refine bodyPost_ret (v := .agg #[.int .i64 3, .int .i64 10, .int .i64 100, .slice (some ⟨w1.heap.size + 2, 0, none⟩) 2 2]) (by simp [results, Tryz.results21, go_sem, c0, c1, c2, c3]) rfl ?_
  exact ⟨w1.heap.size + 2, w1.heap.size, w1.heap.size + 1, rfl, K5.sub (List.Sublist.cons_cons _ (List.Sublist.cons_cons _ (List.Sublist.cons_cons _ (List.nil_sublist _))))⟩
theorem exH_secs {w : World} {g g1 g2 : Nat} (h0 : Blk w g 100 [.string hallS, .slice (some ⟨g1, 0, none⟩) 2 2, .int .i64 2, .string boxS, .slice (some ⟨g2, 0, none⟩) 1 1, .int .i64 0]) (h1 : Blk w g1 3 [.int .i64 3, .int .i64 2]) (h2 : Blk w g2 3 [.int .i64 2]) : Secs w (some ⟨g, 0, none⟩) exH.secs := by
  intro i s hs
  rcases i with _ | _ | i
  · simp only [exH, List.getElem?_cons_zero, Option.some.injEq] at hs
    subst hs
    exact ⟨g, 0, some ⟨g1, 0, none⟩, 2, rfl, fun j u hu => by
      rw [h0.cell]
      rcases j with _ | _ | _ | j
      · exact hu
      · exact hu
      · exact hu
      · simp [scC] at hu, Blk.rd h1, Nat.le_refl _⟩
  · simp only [exH, List.getElem?_cons_succ, List.getElem?_cons_zero, Option.some.injEq] at hs
    subst hs
    exact ⟨g, 0, some ⟨g2, 0, none⟩, 1, rfl, fun j u hu => by
      rw [h0.cell]
      rcases j with _ | _ | _ | j
      · exact hu
      · exact hu
      · exact hu
      · simp [scC] at hu, Blk.rd h2, Nat.le_refl _⟩
  · simp [exH] at hs
theorem exH_w : VnW exH := ⟨by decide, by
  intro s hs
  simp only [exH, List.mem_cons, List.not_mem_nil, or_false] at hs
  rcases hs with rfl | rfl <;> exact ⟨by decide, by decide⟩⟩
/-- the cells of the examples' waiters -/
abbrev wtC (g1 : Nat) : List Value := [.slice (some ⟨g1, 0, none⟩) 2 2, .slice none 0 0]
theorem waiting_any (w : World) : Calls Tryz.prog 22 #[] w fun e w' => ∃ gw g1, e = .returned (.slice (some ⟨gw, 0, none⟩) 2 2) ∧ Sep No w w' [As.blk gw 47 (wtC g1), As.blk g1 41 [.int .u32 7, .int .u32 8]] := by
  have K0 := ((Sep.refl No w).add 41 [.int .u32 7, .int .u32 8]).add 47 (wtC w.heap.size)
  simp only [World.size_alloc] at K0
  go_enter Tryz.func22, Tryz.ntmps22
  go_wp2_with fail
  go_ret
  exact ⟨w.heap.size + 1, w.heap.size, rfl, K0⟩
theorem wt_rows {w : World} {gw g1 : Nat} (h0 : Blk w gw 47 (wtC g1)) (h1 : Blk w g1 41 [.int .u32 7, .int .u32 8]) : (AsRows (some ⟨gw, 0, none⟩) (wtC g1) [[7, 8], []]).p w := by
  refine ⟨Blk.rd h0, rfl, fun j v r hv hr => ?_⟩
  rcases j with _ | _ | j
  · simp only [List.getElem?_cons_zero, Option.some.injEq] at hv hr
    subst hv hr
    exact ⟨_, 2, rfl, Nat.le_refl _, Blk.rd h1⟩
  · simp only [List.getElem?_cons_succ, List.getElem?_cons_zero, Option.some.injEq] at hv hr
    subst hv hr
    exact ⟨none, 0, rfl, Nat.le_refl _, rd_nil _ _⟩
  · simp at hr
/-- the cells of a house that came in -/
abbrev hoX (v : Vn) (A : Option Addr) (c : Nat) (B : Option Addr) (m d : Nat) (now : Int) : List Value := [.int .i64 v.sh, .int .i64 v.ttl, .int .i64 v.ses, .slice A v.secs.length c, .slice B m d, .int .i64 now]
theorem q6 {w : World} {g : Nat} {t : TypeId} {a b c d e f : Value} (k : Blk w g t [a, b, c, d, e, f]) : w.cell? ⟨g, 0, none⟩ = some a ∧ w.cell? ⟨g, 1, none⟩ = some b ∧ w.cell? ⟨g, 2, none⟩ = some c ∧ w.cell? ⟨g, 3, none⟩ = some d ∧ w.cell? ⟨g, 4, none⟩ = some e ∧ w.cell? ⟨g, 5, none⟩ = some f ∧ g < w.heap.size := ⟨k.cell 0, k.cell 1, k.cell 2, k.cell 3, k.cell 4, k.cell 5, k.lt⟩
/-- what far answers -/
def FarR (w : World) (rows : List (List Int)) (e : Ending) (w' : World) : Prop := ∃ b, e = .returned (.bool b) ∧ (b = false → rows.length ≤ 10 ∧ ∀ r ∈ rows, r.length ≤ 80) ∧ Ext w w'

set_option maxRecDepth 100000 in
set_option maxHeartbeats 4000000 in
theorem far_any (v : Vn) (A : Option Addr) (c : Nat) (rows : List (List Int)) (B : Option Addr) (vs : List Value) (d : Nat) (now : Int) (w : World) (h : Secs w A v.secs) (hc : v.secs.length ≤ c) (hw : VnW v) (hB : (AsRows B vs rows).p w) (hd : rows.length ≤ d) (hrm : rows.length ≤ maxLen) (hrl : ∀ r ∈ rows, r.length ≤ maxLen) :
    Calls Tryz.prog 10 #[.agg #[.int .i64 v.sh, .int .i64 v.ttl, .int .i64 v.ses, .slice A v.secs.length c, .slice B rows.length d, .int .i64 now]] w (FarR w rows) := by
  have HF := hide (fun (y : World) (k : Ext w y) => far15 v A c y (h.ext k) hc hw)
  have HB := hide (fun (y : World) (k : Ext w y) => asRows_x hB k)
  have HRL := hide hrl
  have K0 := (Sep.refl No w).add 27 (hoX v A c B rows.length d now)
  clear h hc hw hB hrl
  go_enter Tryz.func10, Tryz.ntmps10
  go_upto_region 1 with fail
  generalize w.alloc _ = w1 at K0 ⊢
  obtain ⟨g1, G1⟩ : ∃ g, w.heap.size = g := ⟨_, rfl⟩
  rw [G1] at K0 ⊢
  clear G1
  have K1 := hide K0
  clear K0
  obtain ⟨c0, c1, c2, c3, c4, c5, cz⟩ := q6 (K1.out.blk (g := g1) (e := 27) (List.Mem.head _))
  go_wp2_with fail
  (with_reducible refine (HF.out _ K1.out.toExt).mono ?_)
  rintro e w2 ⟨⟨b, rfl⟩, hx⟩
  have K2 := hide (K1.out.ext hx)
  clear K1 hx HF c0 c1 c2 c3 c4 c5 cz
  obtain ⟨c0, c1, c2, c3, c4, c5, cz⟩ := q6 (K2.out.blk (g := g1) (e := 27) (List.Mem.head _))
  cases b
  rotate_left
  · go_wp2_with fail
    go_ret
    exact ⟨true, rfl, (fun h => by cases h), K2.out.toExt⟩
  by_cases h10 : 10 < rows.length
  · have e1 : (10 : Int) < (rows.length : Int) := by omega
    go_wp2_with fail
    go_ret
    exact ⟨true, rfl, (fun h => by cases h), K2.out.toExt⟩
  have e1 : ¬ (10 : Int) < (rows.length : Int) := by omega
  have H10 := hide (show rows.length ≤ 10 by omega)
  clear h10
  go_wp2_with fail
  clear c0 c1 c2 c3 c4 c5 cz
  go_loopw [3] (fun v3 wr => ∃ i : Nat, v3 = .int .i64 i ∧ i ≤ rows.length ∧ Hid (∀ r ∈ rows.take i, r.length ≤ 80) ∧ Hid (Sep No w wr [As.blk g1 27 (hoX v A c B rows.length d now)])) (fun v3 _ => rows.length - (intOf v3).toNat)
  case atStart => exact ⟨0, rfl, Nat.zero_le _, hide (fun r hr => by cases hr), K2⟩
  case round =>
    clear K2
    obtain ⟨i, rfl, hil, HA, K3⟩ := hrel
    have hi10 : i ≤ 10 := by have := H10.out; omega
    obtain ⟨c0, c1, c2, c3, c4, c5, cz⟩ := q6 (K3.out.blk (g := g1) (e := 27) (List.Mem.head _))
    by_cases hlt : i < rows.length
    · have hli : (i : Int) < (rows.length : Int) := by omega
      have hic : (i : Int) < (d : Int) := by omega
      obtain ⟨bd, C, cr, rfl, x0, -, -⟩ := rowsL_at (HB.out _ K3.out.toExt) hlt
      have xz := cell_lt x0
      obtain ⟨r, hr⟩ : ∃ r, rows[i] = r := ⟨_, rfl⟩
      have HRI : Hid (rows[i]? = some r) := hide (by rw [List.getElem?_eq_getElem hlt, hr])
      have hrm' := HRL.out r (List.mem_of_getElem? HRI.out)
      rw [hr] at x0
      have HLT := hide hlt
      clear hr hlt
      by_cases h80 : 80 < r.length
      · have e2 : (80 : Int) < (r.length : Int) := by omega
        clear h80 hrm'
        go_wp2_with fail
        go_ret
        exact ⟨true, rfl, (fun h => by cases h), K3.out.toExt⟩
      · have e2 : ¬ (80 : Int) < (r.length : Int) := by omega
        have HA2 : Hid (∀ r ∈ rows.take (i + 1), r.length ≤ 80) := hide (fun q hq => by
          rw [List.take_add_one, HRI.out] at hq
          rcases List.mem_append.1 hq with h1 | h1
          · exact HA.out q h1
          · simp at h1; subst h1; omega)
        clear h80 hrm'
        go_wp2_with fail
        go_roundw
        case rel => exact ⟨i + 1, by go_num, HLT.out, HA2, K3⟩
        case measure => have := HLT.out; simp [intOf]; omega
    · have hli : ¬ (i : Int) < (rows.length : Int) := by omega
      obtain rfl : i = rows.length := by omega
      rw [List.take_length] at HA
      clear hlt
      go_wp2_with fail
      go_ret
      exact ⟨false, rfl, fun _ => ⟨H10.out, HA.out⟩, K3.out.toExt⟩
end Go.Proofs.YtdmaephmkfmehaaGreatDoor
