/- Hmac: a mac: New. -/
import Derived.Test.YtckmbhdbabnmcaaDoorR2
import Derived.Test.YtckmbhdbabnmcaaDoorMonoS
namespace Go.Proofs.YtckmbhdbabnmcaaDoor
open Go.RowKit Go.Gr
set_option linter.unusedVariables false
set_option linter.unusedSimpArgs false
attribute [local go_sem] rdOp rdAt rdUpon Cls forall_fr
/-- block g is a hash to which l has been written -/
def AsHash (g : Nat) (l : List Int) : As := ⟨At g, fun w => HashAt w g l, fun h k hk => by cases hk; exact h.lt, fun h k => by
  obtain ⟨r, a, b, c, d⟩ := h
  exact ⟨r, a, b, c, (k g rfl).trans d⟩⟩
theorem sep_write {w0 w w' : World} {L1 L2 : List As} {g : Nat} {l l' : List Int} {G : Nat → Prop} (H : Sep G w0 w (L1 ++ AsHash g l :: L2)) (h : HashAt w' g l') (u : Upd g w w') : Sep G w0 w' (L1 ++ AsHash g l' :: L2) :=
  H.upd (B := AsHash g l') (Fr.of_upd u) (fun _ h => h) h (fun _ h => .inl h)
theorem sep_hash {w0 w : World} {L : List As} {g : Nat} {l : List Int} {G : Nat → Prop} (H : Sep G w0 w L) (h : AsHash g l ∈ L) : HashAt w g l := H.get h
theorem sep_hash_le {w0 w : World} {L : List As} {g : Nat} {l : List Int} (H : Sep No w0 w L) (h : AsHash g l ∈ L) : w0.heap.size ≤ g := by
  rcases H.own _ h g rfl with h | h
  · exact h.elim
  · exact h
end Go.Proofs.YtckmbhdbabnmcaaDoor
namespace Go.Gr
open Go.RowKit
set_option linter.unusedVariables false
theorem Sep.join {G : Nat → Prop} {w0 w w' : World} {L M : List As} (h : Sep G w0 w L) (k : Sep No w w' M) : Sep G w0 w' (M ++ L) := by
  have h' := h.ext k.toExt
  refine ⟨h'.fr, ?_, ?_, ?_⟩
  · intro A hA
    rcases List.mem_append.1 hA with hA | hA
    · exact k.all A hA
    · exact h'.all A hA
  · intro A hA i hi
    rcases List.mem_append.1 hA with hA | hA
    · rcases k.own A hA i hi with h1 | h1
      · exact h1.elim
      · exact .inr (Nat.le_trans h.fr.size h1)
    · exact h'.own A hA i hi
  · refine List.pairwise_append.2 ⟨k.dis, h'.dis, fun A hA B hB i hi hi' => ?_⟩
    have := B.lt (h.all B hB) i hi'
    rcases k.own A hA i hi with h1 | h1
    · exact h1.elim
    · omega
end Go.Gr
namespace Go.Proofs.YtckmbhdbabnmcaaDoor
open Go.RowKit Go.Gr
set_option linter.unusedVariables false
set_option linter.unusedSimpArgs false
attribute [local go_sem] rdOp rdAt rdUpon Cls forall_fr
theorem own_form {w : World} {e : TypeId} {v : Value} {l : List Int} (h : Own 0 w e v (byt l)) : ∃ A c, v = .slice A l.length c ∧ Rd w A (byt l) ∧ l.length ≤ c := by
  obtain ⟨A, c, rfl, h1, h2, _⟩ := h.form
  rw [byt_length] at h2 ⊢
  exact ⟨A, c, rfl, h1, h2⟩
abbrev ptr (g : Nat) : Value := .pointer (some ⟨g, 0, none⟩)
/-- the cells of a mac -/
theorem cells2 {w : World} {g : Nat} {e : TypeId} {x y : Value} (h : Blk w g e [x, y]) : w.cell? ⟨g, 0, none⟩ = some x ∧ w.cell? ⟨g, 1, none⟩ = some y ∧ g < w.heap.size :=
  ⟨h.cell 0, h.cell 1, h.lt⟩
theorem mthere_yes (g gh : Nat) (v : Value) (w : World) (h : Blk w g 70 [ptr gh, v]) : Calls Tryd.prog 39 #[ptr g] w fun e w' => e = .returned (.bool true) ∧ w = w' := by
  obtain ⟨c1, c2, hg⟩ := cells2 h
  clear h
  go_enter Tryd.func39, Tryd.ntmps39
  go_wp2_with fail
  go_ret
  exact ⟨rfl, rfl⟩
/-- what New leaves -/
def NewQ (w : World) (key : List Int) (e : Ending) (w' : World) : Prop :=
  ∃ g gh v, e = .returned (ptr g) ∧ Sep No w w' [As.blk g 70 [ptr gh, v], AsHash gh (xorB 54 (keyB key)), As.own 5 v (byt key)]
set_option maxRecDepth 100000 in
set_option maxHeartbeats 2000000 in
theorem mnew_any (l : List Int) (A : Option Addr) (c : Nat) (w : World) (hl : Laid w) (hr : Rd w A (byt l)) (hb : isB l) (hc : l.length ≤ c) (hlen : l.length ≤ 100000) :
    Calls Tryd.prog 37 #[.slice A l.length c] w (NewQ w l) := by
  obtain ⟨i0, hi, hz0, hz1, hz2⟩ := info_parts info8
  have HL := hide hl
  have HR := hide hr
  have HB := hide hb
  have h2 := hl.two
  clear hl hr hb
  have tok : True := trivial
  go_enter Tryd.func37, Tryd.ntmps37
  go_wp2_with fail
  (with_reducible refine (new_ex _ HL.out).mono ?_)
  rintro e w1 ⟨gh, rfl, hg, hh1, hx1⟩
  have H1 := (Sep.refl No w).new (B := AsHash gh []) hx1 hh1 (fun i hi => by cases hi; exact Nat.le_of_eq hg.symm)
  clear hg hh1 hx1
  have H2 := Sep.toOwn [] (H1.newB ((Ext.refl w1).alloc (.cells #[] 5)) (Blk.new w1 5 []) (Nat.le_refl _)) (by simp)
  dsimp only [List.nil_append, List.length_nil] at H2
  go_wp2_with ((have zz := tok; clear zz tok; with_reducible refine wpList_apS [] H2 rfl (.tmp 5) (.tmp 6) 25 rfl i0 (.int .u8 0) 1 Tryd.underlying25 hi hz0 hz1 hz2 rfl rfl (A := A) (m := l.length) (c := c) (news := byt l) rfl (by simp) (H2.rdN HR.out) (byt_one _) (by simp; omega) (by omega) ?_); intro v w3 H3; dsimp only [List.cons_append, List.nil_append] at H3; obtain ⟨Av, cv, rfl, hrv, hlv⟩ := own_form (H3.owns (List.Mem.head _)); clear H2 H1 hrv)
  have H4 := H3.newB ((Ext.refl w3).alloc (.cells #[ptr gh, .slice Av l.length cv] 70)) (Blk.new w3 70 [ptr gh, .slice Av l.length cv]) (Nat.le_refl _)
  clear H3
  obtain ⟨g, HG⟩ : ∃ g, w3.heap.size = g := ⟨_, rfl⟩
  rw [HG] at H4 ⊢
  obtain ⟨mk, HM⟩ : ∃ mk, xorB 54 (keyB l) = mk := ⟨_, rfl⟩
  have hmb : isB mk := by rw [← HM]; exact xorB_isB (by decide) (keyB_isB HB.out)
  have hml : mk.length = 64 := by rw [← HM, xorB_len, keyB_len]
  have HML := hide hml
  have HMb := hide hmb
  have HM' := hide HM
  clear hmb HM hml
  refine wp_region_wtR (RT.fr No) 6 [0, 1, 2, 3, 4, 5] (by kernel_rfl) (by kernel_rfl) (by kernel_rfl) ?_
  have H5 := H4.drew
  clear H4
  generalize (w3.alloc (.cells #[ptr gh, .slice Av l.length cv] 70)).drew = wd at *
  have hgh : gh < wd.heap.size := (H5.get (A := AsHash gh []) (List.Mem.tail _ (List.Mem.tail _ (List.Mem.head _)))).lt
  iterate 3 (refine wr_rd rfl rfl (fun K hK => ?_); go_simp; refine hK _ ?_; clear hK K)
  refine wr_ld1 rfl rfl 68 (.tmp 12) rfl rfl (fun w' h => Fr.cell h (((H5.blk (List.Mem.head _)).cell 0).trans rfl) (fun h => h)) _ Tryd.underlying68 rfl ?_
  iterate 1 (refine wr_rd rfl rfl (fun K hK => ?_); go_simp; refine hK _ ?_; clear hK K)
  refine wr_ext rfl rfl (fun K hK => ?_)
  go_simp
  go_at_call 43
  (with_reducible refine (mpad_any l A c 54 _ (HL.out.ext H5.toExt) (H5.rdN HR.out) HB.out hc hlen).mono ?_)
  rintro e w5 ⟨gp, rfl, hgp, hrp, hxp⟩
  rw [HM'.out] at hrp ⊢
  refine hK _ _ (Fr.of_ext hxp) ?_
  clear hK K
  refine wr_nil ?_
  simp only [List.drop_succ_cons, List.drop_zero]
  have H6 := H5.ext hxp
  have hne : 0 < mk.length → ∀ ad, some (⟨gp, 0, none⟩ : Addr) = some ad → ad.block ≠ gh := by rintro _ ad ⟨⟩; show gp ≠ gh; omega
  have HRP := hide hrp
  have HNE := hide hne
  clear H5 hxp hrp hgp hne
  go_wp2_with fail
  (with_reducible refine (write_any gh [] mk (some ⟨gp, 0, none⟩) mk.length _ (HL.out.ext H6.toExt) (by have := sep_hash_le H6 (l := []) (List.Mem.tail _ (List.Mem.tail _ (List.Mem.head _))); omega) (sep_hash H6 (List.Mem.tail _ (List.Mem.tail _ (List.Mem.head _)))) HRP.out HNE.out HMb.out (Nat.le_refl _) (by have := HML.out; simp only [List.length_nil]; omega)).mono ?_)
  rintro e w7 ⟨rfl, hh7, hu7⟩
  have H7 := sep_write (L1 := [_, _]) H6 hh7 hu7
  dsimp only [List.nil_append, List.cons_append] at H7
  clear hh7 hu7 H6
  go_wp2_with fail
  try refine NoPanic.normal ?_
  go_wp2_with fail
  go_ret
  refine ⟨g, gh, .slice Av l.length cv, rfl, ?_⟩
  rw [HM'.out]
  exact H7.perm (List.Perm.cons _ (List.Perm.swap _ _ _))
end Go.Proofs.YtckmbhdbabnmcaaDoor
