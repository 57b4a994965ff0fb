/- The walks of Copy, Len, Reset, of a hash's Sum and of sha.Sum. -/
import Derived.Laws.ResultCell
import Derived.Test.YtamlngdjbmndlaaDoorS10
namespace Go.Gr
open Go.RowKit
theorem results_row_tmp {P : Program} {fn : Func} {p u : Tmp} {ty : TypeId} (h : fn.results = #[.cell p ty, .tmp u]) (tmps : Array Value) (w : World) (g : Nat) (t : TypeId) (cs : Array Value) (fr : Nat × Nat) (d : TypeDesc)
    (hp : tmps.getD p undef = .pointer (some ⟨g, 0, none⟩)) (hg : w.heap[g]? = some (.cells cs t fr))
    (hu : P.underlying ty = some d) (hd : (match d with | .struct _ | .array _ _ => true | _ => false) = true) (hi : (P.info? ty).map (·.size) = some cs.size) {x : Value} (hx : tmps.getD u undef = x) :
    (results fn tmps).run P w = .ok (.tuple #[.agg cs, x]) w := by
  subst hx
  rw [results_cell_tmp h, hp]
  simp [asAddr, run_loadVar_row w g t ty cs fr d hg hu hd hi]
end Go.Gr
namespace Go.Proofs.YtamlngdjbmndlaaDoor
open Go.RowKit Go.Gr
set_option linter.unusedVariables false
attribute [local go_sem] rdOp rdAt rdUpon Cls
theorem hash_len {rest : List Int} (l : List Int) (n : Int) (h : rest.length = 64) : (hcells (stOf l) rest n).length = 74 := hcells_len _ _ _ (stOf_ok l).1 h
theorem hcells_one (st rest : List Int) (n : Int) : ∀ v ∈ hcells st rest n, v.oneCell' = true := by
  intro v hv
  unfold hcells at hv
  rw [List.mem_append, List.mem_append] at hv
  rcases hv with hv | hv | hv
  · exact u32v_one _ v hv
  · exact byt_one _ v hv
  · simp at hv; rcases hv with rfl | rfl <;> rfl
def zh : List Value := u32v (List.replicate 8 0) ++ (byt (List.replicate 64 0) ++ [.int .i64 0, .bool false])
theorem HashAt.ext {w w' : World} {g : Nat} {l : List Int} (h : HashAt w g l) (k : Ext w w') : HashAt w' g l := by
  obtain ⟨r, a, b, c, d⟩ := h
  exact ⟨r, a, b, c, d.ext k⟩
theorem HashAt.upd {w w' : World} {g g' : Nat} {l : List Int} (h : HashAt w g l) (k : Upd g' w w') (hne : g ≠ g') : HashAt w' g l := by
  obtain ⟨r, a, b, c, d⟩ := h
  exact ⟨r, a, b, c, d.upd k hne⟩
theorem HashAt.lt {w : World} {g : Nat} {l : List Int} (h : HashAt w g l) : g < w.heap.size := by
  obtain ⟨r, a, b, c, d⟩ := h
  exact d.lt
theorem Upd.new {w w1 w2 : World} {g : Nat} (h : Ext w w1) (hg : w.heap.size ≤ g) (k : Upd g w1 w2) : Ext w w2 :=
  Below.trans h (k.below hg h.size)
set_option maxHeartbeats 400000 in
theorem copy_any (g : Nat) (l : List Int) (w : World) (h : HashAt w g l) : Calls Tryd.prog 79 #[.pointer (some ⟨g, 0, none⟩)] w fun e w' => e = .returned (.tuple #[.pointer (some ⟨w.heap.size, 0, none⟩), .int .i64 0]) ∧ HashAt w' w.heap.size l ∧ Ext w w' := by
  have HH := hide h
  obtain ⟨rest, h64, hrb, hp, hB⟩ := h
  have HB := hide hB
  have HR := hide hrb
  have HP := hide hp
  clear hB hrb hp
  have HL : Hid ((hcells (stOf l) rest l.length).length = 74) := hide (hash_len l _ h64)
  go_enter Tryd.func79, Tryd.ntmps79
  go_wp2_with fail
  (with_reducible refine (there_yes g _ l HH.out).mono ?_)
  rintro e w1 ⟨rfl, rfl⟩
  have hz : (zeroValue 123).run Tryd.prog w = .ok (.agg zh.toArray) w := by kernel_rfl
  have HB2 : Hid (Blk (w.alloc (.cells zh.toArray 123)) w.heap.size 123 zh) := hide (Blk.new _ _ _)
  go_wp2_with (first
    | (refine wpList_loadB rfl 123 (.tmp 9) rfl HB.out rfl _ Tryd.underlying123 rfl (by rw [HL.out]; exact info67) ?_)
    | (refine wpList_storeB rfl 123 (.tmp 4) (.tmp 10) rfl HB2.out rfl rfl (by rw [HL.out]; exact info67) (by rw [HL.out]; rfl) (hcells_one _ _ _) ?_))
  go_ret2
  exact ⟨rfl, ⟨rest, h64, HR.out, HP.out, HB2.out.setRow _⟩, Below.setRow ((Ext.refl w).alloc _) (Nat.le_refl _) _⟩
end Go.Proofs.YtamlngdjbmndlaaDoor
