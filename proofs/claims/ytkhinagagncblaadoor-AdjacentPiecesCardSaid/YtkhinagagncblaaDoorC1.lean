/- Seats side by side: the examples. -/
import Derived.Test.YtkhinagagncblaaDoorB7
import Derived.Test.YtkhinagagncblaaDoorArms
namespace Go.Proofs.YtkhinagagncblaaDoor
open Go.RowKit Go.Gr Go.Ad
set_option linter.unusedVariables false
set_option linter.unusedSimpArgs false
attribute [local go_sem] rdOp rdAt rdUpon Cls forall_fr
def hallS : ByteArray := ⟨#[104, 97, 108, 108]⟩
def boxS : ByteArray := ⟨#[98, 111, 120]⟩
/-- the venue of the examples -/
def exV : Vn := ⟨3, 10, 100, [⟨hallS, [3, 2, 6], 2⟩, ⟨boxS, [2], 0⟩]⟩
def exF : List Bool := [true, true, true, false, false, true, true, false, true, true, true, false, false]
set_option maxRecDepth 100000 in
set_option maxHeartbeats 4000000 in
theorem ex15 (w : World) : Calls Tryd.prog 46 #[] w fun e w' =>
      ∃ g g1 g2, e = .returned (.agg #[.int .i64 3, .int .i64 10, .int .i64 100, .slice (some ⟨g, 0, none⟩) 2 2]) ∧ Sep No w w' [As.blk g 78 [.string hallS, .slice (some ⟨g1, 0, none⟩) 2 2, .int .i64 2, .string boxS, .slice (some ⟨g2, 0, none⟩) 1 1, .int .i64 0], As.blk g2 3 [.int .i64 2]] := by
  have K0 := ((Sep.refl No w).add 24 [.int .i64 0, .int .i64 0, .int .i64 0, .slice none 0 0])
  go_enter Tryd.func46, Tryd.ntmps46
  go_upto_region 1 with fail
  generalize w.alloc _ = w1 at K0 ⊢
  generalize w.heap.size = g0 at K0 ⊢
  have K1 := ((K0.add 3 [.int .i64 3, .int .i64 2]).add 3 [.int .i64 2]).add 78 [.string hallS, .slice (some ⟨w1.heap.size, 0, none⟩) 2 2, .int .i64 2, .string boxS, .slice (some ⟨w1.heap.size + 1, 0, none⟩) 1 1, .int .i64 0]
  simp only [World.size_alloc, Nat.add_assoc, Nat.reduceAdd] at K1
  have tok1 : True := trivial
  go_wp2_with (have zz := tok1; clear zz tok1; refine wpList_stS [_, _, _] K1 rfl 24 (.tmp 0) (.tmp 6) rfl rfl (cs := [.int .i64 3, .int .i64 10, .int .i64 100, .slice (some ⟨w1.heap.size + 2, 0, none⟩) 2 2]) rfl (by kernel_rfl) rfl (by intro v hv; simp only [List.mem_cons, List.not_mem_nil, or_false] at hv; rcases hv with rfl | rfl | rfl | rfl <;> rfl) ?_; intro w5 K5; dsimp only [List.nil_append, List.cons_append] at K5; clear K1)
  obtain ⟨c0, c1, c2, c3, cz⟩ := blk4 (K5.blk (g := g0) (e := 24) (List.Mem.tail _ (List.Mem.tail _ (List.Mem.tail _ (List.Mem.head _)))))
  refine bodyPost_ret (v := .agg #[.int .i64 3, .int .i64 10, .int .i64 100, .slice (some ⟨w1.heap.size + 2, 0, none⟩) 2 2]) (by simp [results, Tryd.results46, go_sem, c0, c1, c2, c3]) rfl ?_
  exact ⟨w1.heap.size + 2, w1.heap.size, w1.heap.size + 1, rfl, K5.sub (List.Sublist.cons_cons _ (List.Sublist.cons_cons _ (List.nil_sublist _)))⟩
set_option maxRecDepth 100000 in
set_option maxHeartbeats 4000000 in
theorem ex19 (w : World) : Calls Tryd.prog 28 #[] w fun e w' =>
      ∃ A F, e = .returned (.tuple #[.agg #[.int .i64 exV.sh, .int .i64 exV.ttl, .int .i64 exV.ses, .slice A exV.secs.length 2], .slice F exF.length 13]) ∧ Ext w w' ∧ Secs w' A exV.secs ∧ Rd w' F (bls exF) := by
  have K0 := ((Sep.refl No w).add 24 [.int .i64 0, .int .i64 0, .int .i64 0, .slice none 0 0])
  go_enter Tryd.func28, Tryd.ntmps28
  go_upto_region 1 with fail
  generalize w.alloc _ = w1 at K0 ⊢
  generalize w.heap.size = g0 at K0 ⊢
  go_wp2_with fail
  (with_reducible refine (ex15 w1).mono ?_)
  rintro e w2 ⟨g, g1, g2, rfl, hS⟩
  have K1 := (K0.joinW hS).add 24 [.int .i64 3, .int .i64 10, .int .i64 100, .slice (some ⟨g, 0, none⟩) 2 2]
  clear hS K0
  go_upto_region 2 with fail
  generalize w2.alloc _ = w3 at K1 ⊢
  generalize w2.heap.size = gv at K1 ⊢
  dsimp only [List.nil_append, List.cons_append] at K1
  obtain ⟨c0, c1, c2, c3, cz⟩ := blk4 (K1.blk (g := gv) (e := 24) (List.Mem.head _))
  have K2 := K1.add 3 [.int .i64 3, .int .i64 2, .int .i64 6]
  have tok1 : True := trivial
  have tok2 : True := trivial
  go_wp2_with (first
    | (have zz := tok1; clear zz tok1; refine wpList_st1S [_, _] K2 rfl 36 (.tmp 8) (.tmp 6) rfl (i := 1) rfl rfl (by kernel_rfl) (show 1 < 6 by decide) rfl ?_; intro w5 K5; dsimp only [List.nil_append, List.cons_append, List.set] at K5; clear K2 c0 c1 c2 c3 cz; obtain ⟨c0, c1, c2, c3, cz⟩ := blk4 (K5.blk (g := gv) (e := 24) (List.Mem.tail _ (List.Mem.head _))); have K6 := K5.add 4 (bls exF))
    | (have zz := tok2; clear zz tok2; refine wpList_stS [_, _, _, _, _] K6 rfl 24 (.tmp 0) (.tmp 9) rfl rfl (cs := [.int .i64 3, .int .i64 10, .int .i64 100, .slice (some ⟨g, 0, none⟩) 2 2]) rfl (by kernel_rfl) rfl (by intro v hv; simp only [List.mem_cons, List.not_mem_nil, or_false] at hv; rcases hv with rfl | rfl | rfl | rfl <;> rfl) ?_; intro w7 K7; dsimp only [List.nil_append, List.cons_append] at K7; clear K6 c0 c1 c2 c3 cz))
  obtain ⟨c0, c1, c2, c3, cz⟩ := blk4 (K7.blk (g := g0) (e := 24) (List.Mem.tail _ (List.Mem.tail _ (List.Mem.tail _ (List.Mem.tail _ (List.Mem.tail _ (List.Mem.head _)))))))
  have HS : Secs w7 (some ⟨g, 0, none⟩) exV.secs := by
    have hb := K7.blk (g := g) (e := 78) (List.Mem.tail _ (List.Mem.tail _ (List.Mem.tail _ (List.Mem.head _))))
    have h1 := (K7.blk (g := w3.heap.size) (e := 3) (List.Mem.tail _ (List.Mem.head _))).rd
    have h2 := (K7.blk (g := g2) (e := 3) (List.Mem.tail _ (List.Mem.tail _ (List.Mem.tail _ (List.Mem.tail _ (List.Mem.head _)))))).rd
    intro i s hs
    match i, hs with
    | 0, hs =>
      cases hs
      exact ⟨g, 0, _, 3, rfl, hb.at5m 0 (fun j v hv => by match j, hv with | 0, hv => exact hv | 1, hv => exact hv | 2, hv => exact hv), h1, by decide⟩
    | 1, hs =>
      cases hs
      exact ⟨g, 0, _, 1, rfl, hb.at5m 3 (fun j v hv => by match j, hv with | 0, hv => exact hv | 1, hv => exact hv | 2, hv => exact hv), h2, by decide⟩
  have hF := (K7.blk (g := w5.heap.size) (e := 4) (List.Mem.head _)).rd
  refine bodyPost_ret (v := .tuple #[.agg #[.int .i64 3, .int .i64 10, .int .i64 100, .slice (some ⟨g, 0, none⟩) 2 2], .slice (some ⟨w5.heap.size, 0, none⟩) 13 13]) (by simp [results, Tryd.results28, go_sem, c0, c1, c2, c3]) rfl ?_
  exact ⟨some ⟨g, 0, none⟩, some ⟨w5.heap.size, 0, none⟩, rfl, K7.toExt, HS, hF⟩
end Go.Proofs.YtkhinagagncblaaDoor
