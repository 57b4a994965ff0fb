/- Lists of waiters: the reference's with. -/
import Derived.Test.YteecgieigjfjiaaW15
namespace Go.Proofs.Yteecgieigjfjiaa
open Go.RowKit Go.Gr Go.Wl
set_option linter.unusedVariables false
set_option linter.unusedSimpArgs false
attribute [local go_sem] rdOp rdAt rdUpon Cls forall_fr
/-- lists made of lists: what they hold is old or new -/
def RfTo (c : Nat) (w : World) (A B : Option Addr) (vs : List Value) (S : St) (w' : World) (v : Value) (S' : St) : Prop :=
  ∃ B' vs' d', v = rv A B' S'.length c d' ∧ (AsRf A B' vs' S').p w' ∧ Ext w w' ∧ ∀ k, (AsRf A B' vs' S').fp k → (AsRf A B vs S).fp k ∨ w.heap.size ≤ k
theorem bs0 {G : Nat → Prop} {w0 w : World} {L : List As} (H : Sep G w0 w L) (e : TypeId) : Sep G w0 (w.alloc (.cells #[] e)) (As.own e (.slice (some ⟨w.heap.size, 0, none⟩) 0 0) [] :: L) :=
  Sep.toOwn [] (H.newB ((Ext.refl w).alloc (.cells #[] e)) (Blk.new w e []) (Nat.le_refl _)) (by simp)
theorem one_vals {w : World} {vs : List Value} {rows : List (List Int)} (h : AreRows w vs rows) : ∀ u ∈ vs, u.oneCell' = true := by
  intro u hu
  obtain ⟨j, hj, e⟩ := List.getElem_of_mem hu
  obtain ⟨A, c, e', _⟩ := h.2 j u (rows[j]'(by rw [← h.1]; exact hj)) (by rw [List.getElem?_eq_getElem hj, e]) (List.getElem?_eq_getElem _)
  rw [e']; rfl
theorem refs_one (x y : Value) (hx : x.oneCell' = true) (hy : y.oneCell' = true) : ∀ v ∈ [x, y], v.oneCell' = true := by
  intro v hv
  simp at hv
  rcases hv with rfl | rfl
  · exact hx
  · exact hy
set_option maxRecDepth 100000 in
set_option maxHeartbeats 2000000 in
theorem with_any {A B : Option Addr} {vs : List Value} {S : St} {c d s : Nat} {w : World} (h : (AsRf A B vs S).p w) (hs : s < S.length) (hS8 : S.length ≤ 8) (r : List Int) (C : Option Addr) (cr : Nat) (hr : Rd w C (u32s r)) (hlr : r.length ≤ 1000000) :
    Calls Try.prog 40 #[rv A B S.length c d, .int .i64 s, .slice C r.length cr] w fun e w' => ∃ v, e = .returned v ∧ RfTo c w A B vs S w' v (put S s r) := by
  obtain ⟨i39, hi, hz0, hz1, hz2⟩ := info_parts info39
  obtain ⟨i32, ki, kz0, kz1, kz2⟩ := info_parts info32
  have H := hide h
  have HR := hide hr
  have hvl : vs.length = S.length := by rw [h.2.2.1, rowsS_len]
  have HV1 := hide (one_vals h.2.2)
  have HB16 : ([] : List Value).length + (u32s r).length ≤ 1000000000 := by rw [u32s_len, List.length_nil]; omega
  have HB7 : ([] : List Value).length + vs.length ≤ 1000000000 := by rw [hvl, List.length_nil]; omega
  have HL16 : Hid (r.length = (u32s r).length) := hide (u32s_len r).symm
  have hsi : (s : Int) < (S.length : Int) := by omega
  have H0 := (Sep.refl No w).newB ((Ext.refl w).alloc (.cells #[.slice A S.length c, .slice B S.length d] 45)) (Blk.new w 45 [.slice A S.length c, .slice B S.length d]) (Nat.le_refl _)
  clear h hr
  have tok1 : True := trivial
  have tok2 : True := trivial
  have tok3 : True := trivial
  have tok4 : True := trivial
  have tok5 : True := trivial
  have tok6 : True := trivial
  go_enter Try.func40, Try.ntmps40
  go_upto_region 1 with (have zz := tok1; clear zz tok1; refine wpList_alS H0 rfl 45 rfl [.slice none 0 0, .slice none 0 0] (by kernel_rfl) ?_; intro w1 hz1 K1; clear hz1 H0)
  rw [show (World.alloc w (.cells #[.slice A S.length c, .slice B S.length d] 45)).heap.size = w.heap.size + 1 by simp] at K1
  obtain ⟨g3, G3⟩ : ∃ g, w.heap.size = g := ⟨_, rfl⟩
  rw [G3] at K1 ⊢
  have hG3 := hide G3
  clear G3
  have KN := bs0 K1 39
  obtain ⟨c0, c1, hg0⟩ := cells2 (KN.blk (g := g3) (e := 45) (cs := [.slice A S.length c, .slice B S.length d]) (List.Mem.tail _ (List.Mem.tail _ (List.Mem.head _))))
  have hrv := KN.rdN H.out.2.1
  clear K1
  go_upto_region 2 with (have zz := tok2; clear zz tok2; with_reducible refine wpList_apS [] KN rfl (.tmp 8) (.tmp 10) 37 rfl i39 (.slice none 0 0) 24 Try.underlying37 hi hz0 hz1 hz2 rfl rfl (A := B) (m := S.length) (c := d) (news := vs) rfl hvl.symm hrv HV1.out HB7 (by decide) ?_; intro v7 w2 K2; dsimp only [List.nil_append] at K2; clear KN hrv c0 c1 hg0)
  obtain ⟨A7, c7, hv7, _, _, _⟩ := (K2.owns (e := 39) (v := v7) (xs := vs) (List.Mem.head _)).form
  subst hv7
  rw [hvl] at K2 ⊢
  have KN := bs0 K2 23
  have hrr := KN.rdN HR.out
  clear K2
  go_upto_region 3 with (have zz := tok3; clear zz tok3; (with_reducible refine wpList_apS [] KN rfl (.tmp 14) (.tmp 15) 39 rfl i32 (.int .u32 0) 4 Try.underlying39 ki kz0 kz1 kz2 rfl rfl (A := C) (m := r.length) (c := cr) (news := u32s r) rfl HL16.out hrr (u32s_one _) HB16 (by decide) ?_); intro v16 w3 K3; dsimp only [List.nil_append] at K3; obtain ⟨C16, c16, hv16, hc16, hr16⟩ := own_row (K3.owns (e := 23) (v := v16) (List.Mem.head _)); subst hv16; obtain ⟨g7, hA7, cc, ff, gg, K4⟩ := Sep.ownSet [_] K3 (i := s) (by rw [hvl]; exact hs) (.slice C16 r.length c16); subst hA7; dsimp only [List.nil_append, List.cons_append] at K4; have HR16 := hide (And.intro hc16 hr16); clear KN hrr hc16 hr16 K3)
  rw [hG3.out]
  go_wp2_with (first
    | (have zz := tok4; clear zz tok4; refine wpList_st1S [_, _, _] K4 rfl 37 (.tmp 19) (.tmp 18) rfl (v := .slice (some ⟨g7, 0, none⟩) S.length c7) rfl rfl (by kernel_rfl) (by simp) rfl ?_; intro w5 K5; dsimp only [List.nil_append, List.cons_append, List.set] at K5; clear K4 cc ff gg)
    | (have zz := tok5; clear zz tok5; refine wpList_ldS K5 (List.Mem.tail _ (List.Mem.tail _ (List.Mem.tail _ (List.Mem.head _)))) rfl 45 (.tmp 3) rfl rfl _ Try.underlying45 rfl (by kernel_rfl) ?_)
    | (have zz := tok6; clear zz tok6; refine wpList_stS [_, _] K5 rfl 45 (.tmp 6) (.tmp 20) rfl rfl (cs := [.slice A S.length c, .slice (some ⟨g7, 0, none⟩) S.length c7]) rfl (by kernel_rfl) rfl (refs_one _ _ rfl rfl) ?_; intro w6 K6; dsimp only [List.nil_append, List.cons_append] at K6; clear K5))
  have hp : (AsRf A (some ⟨g7, 0, none⟩) (vs.set s (.slice C16 r.length c16)) (put S s r)).p w6 := by
    refine ⟨?_, ?_, ?_⟩
    · rw [limsS_put hs]; exact K6.rdN H.out.1
    · obtain ⟨A', c', e', hrd, _⟩ := (K6.owns (e := 39) (List.Mem.tail _ (List.Mem.head _))).form
      rw [List.length_set, hvl] at e'
      cases e'
      exact hrd
    · rw [rowsS_put]
      exact (H.out.2.2.ext K6.toExt).set s (own_row (K6.owns (e := 23) (List.Mem.head _)))
  have hf : ∀ k, (AsRf A (some ⟨g7, 0, none⟩) (vs.set s (.slice C16 r.length c16)) (put S s r)).fp k → (AsRf A B vs S).fp k ∨ w.heap.size ≤ k := by
    intro k hk
    rcases hk with hk | ⟨hne, ad, e, rfl⟩ | ⟨ad, n, c', hm, hn, rfl⟩
    · rw [limsS_put hs] at hk
      exact .inl (.inl hk)
    · cases e
      rcases K6.own _ (List.Mem.tail _ (List.Mem.head _)) g7 rfl with h | h
      · exact h.elim
      · exact .inr h
    · rcases List.mem_or_eq_of_mem_set hm with hm | hm
      · exact .inl (.inr (.inr ⟨ad, n, c', hm, hn, rfl⟩))
      · rcases K6.own _ (List.Mem.head _) ad.block (by rw [← hm]; rfl) with h | h
        · exact h.elim
        · exact .inr h
  refine bodyPost_ret (v := rv A (some ⟨g7, 0, none⟩) S.length c c7) (results_cell_row rfl _ _ (g3 + 1) 45 #[.slice A S.length c, .slice (some ⟨g7, 0, none⟩) S.length c7] (0, 0) _ rfl (K6.blk (g := g3 + 1) (e := 45) (List.Mem.tail _ (List.Mem.tail _ (List.Mem.head _)))) Try.underlying45 rfl (by kernel_rfl)) rfl ⟨_, rfl, _, _, c7, by rw [put_len], hp, K6.toExt, hf⟩
end Go.Proofs.Yteecgieigjfjiaa
