/- Texts put together: D0 D1 D2 D3 D4. -/
import Derived.Test.YtdmaephmkfmehaaGreatDoorGk
import Derived.Test.YtdmaephmkfmehaaGreatDoorShf
import Derived.Test.YtdmaephmkfmehaaGreatDoorGb
namespace Go.Proofs.YtdmaephmkfmehaaGreatDoor
open Go.RowKit Go.Gr Go.Hp
set_option linter.unusedVariables false
set_option linter.unusedSimpArgs false
attribute [local go_sem] rdOp rdAt rdUpon Cls forall_fr
theorem lawI : Maps.Keyed Tryz.prog 3 := Maps.int_keyed Tryz.underlying3
/-- no such seat, or no time -/
def badB (sn s t : Int) : Bool := decide (s < 0) || decide (sn ≤ s) || decide (t < 0)
theorem q3 {w : World} {g : Nat} {t : TypeId} {a b c : Value} (h : Blk w g t [a, b, c]) : w.cell? ⟨g, 0, none⟩ = some a ∧ w.cell? ⟨g, 1, none⟩ = some b ∧ w.cell? ⟨g, 2, none⟩ = some c ∧ g < w.heap.size := ⟨h.cell 0, h.cell 1, h.cell 2, h.lt⟩

set_option maxRecDepth 100000 in
set_option maxHeartbeats 2000000 in
theorem bad_any {hb : Nat} {sn : Int} {x y : Value} (s t : Int) (w : World) (h : Blk w hb 118 [.int .i64 sn, x, y]) :
    Calls Tryz.prog 50 #[ptrV hb, .int .i64 s, .int .i64 t] w fun e w' => e = .returned (.bool (badB sn s t)) ∧ w = w' := by
  obtain ⟨c0, -, -, cz⟩ := q3 h
  by_cases h1 : s < 0
  · have HR : Hid (badB sn s t = true) := hide (by unfold badB; simp [h1])
    go_enter Tryz.func50, Tryz.ntmps50
    go_wp2_with fail
    go_ret
    exact ⟨by rw [HR.out]; rfl, rfl⟩
  by_cases h2 : sn ≤ s
  · have HR : Hid (badB sn s t = true) := hide (by unfold badB; simp [h2])
    go_enter Tryz.func50, Tryz.ntmps50
    go_wp2_with fail
    go_ret
    exact ⟨by rw [HR.out]; rfl, rfl⟩
  by_cases h3 : t < 0
  · have HR : Hid (badB sn s t = true) := hide (by unfold badB; simp [h3])
    go_enter Tryz.func50, Tryz.ntmps50
    go_wp2_with fail
    go_ret
    exact ⟨by rw [HR.out]; rfl, rfl⟩
  · have HR : Hid (badB sn s t = false) := hide (by unfold badB; simp [h1, h2, h3])
    go_enter Tryz.func50, Tryz.ntmps50
    go_wp2_with fail
    go_ret
    exact ⟨by rw [HR.out]; rfl, rfl⟩

theorem look_none {w : World} {mh nh : Nat} {Dh : DataW Unit} (h : w.ownsMap Tryz.prog 3 anyR mh nh Dh) {s : Int} (hs : (Lit.int .i64 s).wf = true) (hf : Maps.has Dh (.int .i64 s) = false) :
    ∃ v, (Instr.lookup 116 (.map (some mh)) (.int .i64 s) true).run Tryz.prog w = .ok (.tuple #[v, .bool false]) w := by
  obtain ⟨v, ps, h1, h2⟩ := h.look_ok lawI Tryz.underlying116 (z := .int .i64 0) (by kernel_rfl) (zd := .lit (.bool true)) (zp := []) rfl (Maps.keyOf_int_mk Tryz.underlying3 hs)
  rw [hf] at h1
  exact ⟨v, h1⟩

set_option maxRecDepth 100000 in
set_option maxHeartbeats 2000000 in
theorem find_none {hb mh nh q : Nat} {sn s t : Int} {Dh : DataW Unit} (w : World) (h : Blk w hb 118 [.int .i64 sn, ptrV q, .map (some mh)]) (hm : w.ownsMap Tryz.prog 3 anyR mh nh Dh) (hsn : 1 ≤ sn) (hb1 : badB sn s t = false) (hs : (Lit.int .i64 s).wf = true) (hf : Maps.has Dh (.int .i64 s) = false) :
    Calls Tryz.prog 91 #[ptrV hb, .int .i64 s, .int .i64 t] w fun e w' => e = .returned (.tuple #[.int .i64 0, .int .i64 4]) ∧ w = w' := by
  obtain ⟨c0, c1, c2, cz⟩ := q3 h
  obtain ⟨v, hlk⟩ := look_none hm hs hf
  have HBD := hide (bad_any s t w h)
  rw [hb1] at HBD
  have e1 : (sn == 0) = false := beq_eq_false_iff_ne.2 (by omega)
  clear h hm hsn hb1 hs hf
  go_enter Tryz.func91, Tryz.ntmps91
  go_wp2_with fail
  (with_reducible refine HBD.out.mono ?_)
  rintro e w1 ⟨rfl, rfl⟩
  go_wp2_with fail
  go_ret2
  exact ⟨rfl, rfl⟩

set_option maxRecDepth 100000 in
set_option maxHeartbeats 2000000 in
theorem put_any {G : Nat → Prop} {w0 w : World} {L : List As} {q : Nat} {v : Value} {m n : Nat} {D : DataW Unit} {nx : Int} {gs : List Nat} {es : List En} {hb mh nh : Nat} {sn : Int} {Dh : DataW Unit} {s d : Int} (hn : gs.length ≤ 4999) (hl : gs.length = es.length) (hh : IsHeap es es.length) (hx0 : 1 ≤ nx) (hx1 : nx < 100000) (hmn : n < 1000000) (hnh : nh < 1000000)
    (hsn : 1 ≤ sn) (hb1 : badB sn s d = false) (hs : (Lit.int .i64 s).wf = true) (hf : Maps.has Dh (.int .i64 s) = false) (H : Sep G w0 w (As.blk q 173 [v, lessV, .map (some m), .int .i64 nx] :: As.own 174 v (gs.map ptrV) :: entsA gs es :: As.map Tryz.prog 2 anyR m n D :: As.blk hb 118 [.int .i64 sn, ptrV q, .map (some mh)] :: As.map Tryz.prog 3 anyR mh nh Dh :: L)) :
    Calls Tryz.prog 54 #[ptrV hb, .int .i64 s, .int .i64 d] w fun e w' => e = .returned (.int .i64 0) ∧ ∃ v' gs' es' D', gs'.length = gs.length + 1 ∧ es'.Perm (es ++ [⟨nx, s, d⟩]) ∧ IsHeap es' es'.length ∧
      Sep G w0 w' (As.blk q 173 [v', lessV, .map (some m), .int .i64 (nx + 1)] :: As.own 174 v' (gs'.map ptrV) :: entsA gs' es' :: As.map Tryz.prog 2 anyR m (n + 1) D' :: As.blk hb 118 [.int .i64 sn, ptrV q, .map (some mh)] :: As.map Tryz.prog 3 anyR mh (nh + 1) (Dh.put (.int .i64 s) (.lit (.bool true))) :: L) := by
  have hbk := H.blk (g := hb) (e := 118) (cs := [.int .i64 sn, ptrV q, .map (some mh)]) (List.Mem.tail _ (List.Mem.tail _ (List.Mem.tail _ (List.Mem.tail _ (List.Mem.head _)))))
  have HF := hide (find_none w hbk (H.map (b := mh) (n := nh) (D := Dh) (List.Mem.tail _ (List.Mem.tail _ (List.Mem.tail _ (List.Mem.tail _ (List.Mem.tail _ (List.Mem.head _))))))) hsn hb1 hs hf)
  obtain ⟨c0, c1, c2, cz⟩ := q3 hbk
  have HP := hide (qpush_any (s1 := s) (d1 := d) hn hl hh hx0 hx1 hmn H)
  have hkI := Maps.keyOf_int_mk (P := Tryz.prog) Tryz.underlying3 hs
  have hnm : nh < maxLen := by unfold maxLen; omega
  clear H hbk hn hl hh hx0 hx1 hmn hsn hb1 hs hf
  have tok1 : True := trivial
  go_enter Tryz.func54, Tryz.ntmps54
  go_wp2_with fail
  (with_reducible refine HF.out.mono ?_)
  rintro e w1 ⟨rfl, rfl⟩
  go_wp2_with fail
  (with_reducible refine HP.out.mono ?_)
  rintro e w2 ⟨rfl, v', gs', es', D', h1, h2, h3, h4⟩
  have H1 := hide h1
  have H2 := hide h2
  have H3 := hide h3
  clear h1 h2 h3 c0 c1 c2 cz HF HP
  obtain ⟨c0, c1, c2, cz⟩ := q3 (h4.blk (g := hb) (e := 118) (cs := [.int .i64 sn, ptrV q, .map (some mh)]) (List.Mem.tail _ (List.Mem.tail _ (List.Mem.tail _ (List.Mem.tail _ (List.Mem.head _))))))
  go_wp2_with (have zz := tok1; clear zz tok1; refine wpList_mapS [_, _, _, _, _] h4 rfl _ _ _ 116 rfl 2 lawI Tryz.underlying116 rfl hnm _ _ _ rfl rfl hkI (.lit (.bool true)) [] rfl ?_; intro w5 K5; dsimp only [List.nil_append, List.cons_append] at K5; clear h4 c0 c1 c2 cz)
  go_ret
  exact ⟨rfl, v', gs', es', D', H1.out, H2.out, H3.out, K5⟩

end Go.Proofs.YtdmaephmkfmehaaGreatDoor
namespace Go.Proofs.YtdmaephmkfmehaaGreatDoor
open Go.RowKit Go.Gr Go.Hp
set_option linter.unusedVariables false
set_option linter.unusedSimpArgs false
attribute [local go_sem] rdOp rdAt rdUpon Cls forall_fr
theorem perm24 {α : Type} (a b c d e f : α) (L : List α) : (a :: b :: c :: d :: e :: f :: L).Perm (c :: d :: e :: f :: a :: b :: L) := by
  have := (List.perm_append_comm (l₁ := [a, b]) (l₂ := [c, d, e, f])).append_right L
  simpa using this
/-- a hold: its seat, its deadline -/
structure Ho where
  s : Int
  d : Int
deriving DecidableEq
structure Ho.ok (x : Ho) : Prop where
  s0 : -9223372036854775808 ≤ x.s
  s1 : x.s ≤ 9223372036854775807
  d0 : -9223372036854775808 ≤ x.d
  d1 : x.d ≤ 9223372036854775807
abbrev hoC (x : Ho) : List Value := [.int .i64 x.s, .int .i64 x.d]
def hoV (l : List Ho) : List (List Value) := l.map hoC
theorem hoV_len (l : List Ho) : (hoV l).length = l.length := by simp [hoV]
theorem hoV_at {l : List Ho} {i : Nat} {x : Ho} (h : l[i]? = some x) : (hoV l)[i]? = some (hoC x) := by simp [hoV, h]
theorem hoV_pos (l : List Ho) : ∀ r ∈ hoV l, 0 < r.length := fun r hr => by
  obtain ⟨x, _, rfl⟩ := List.mem_map.1 hr
  exact Nat.succ_pos _
theorem ho_at {w : World} {A : Option Addr} {l : List Ho} (h : RdM w A 2 (hoV l)) {i : Nat} {x : Ho} (hx : l[i]? = some x) : ∃ g off, A = some ⟨g, off, none⟩ ∧ Go.Gr.At5 w g (off + i * 2) (hoC x) := h.at5 (hoV_pos l) (hoV_at hx)

set_option maxRecDepth 100000 in
set_option maxHeartbeats 2000000 in
theorem hnew_bad (sn : Int) (h : sn < 1 ∨ 4096 < sn) (w : World) : Calls Tryz.prog 49 #[.int .i64 sn] w fun e w' => e = .returned (.tuple #[.pointer none, .int .i64 7]) ∧ w = w' := by
  rcases h with h | h
  · go_enter Tryz.func49, Tryz.ntmps49
    go_wp2_with fail
    go_ret2
    exact ⟨rfl, rfl⟩
  · have h2 : ¬ sn < 1 := by omega
    go_enter Tryz.func49, Tryz.ntmps49
    go_wp2_with fail
    go_ret2
    exact ⟨rfl, rfl⟩

set_option maxRecDepth 100000 in
set_option maxHeartbeats 2000000 in
theorem hnew_ok {G : Nat → Prop} {w0 w : World} {L : List As} (sn : Int) (h1 : ¬ sn < 1) (h2 : ¬ 4096 < sn) (H : Sep G w0 w L) :
    Calls Tryz.prog 49 #[.int .i64 sn] w fun e w' => ∃ hb q m mh, e = .returned (.tuple #[ptrV hb, .int .i64 0]) ∧ Sep G w0 w' (As.blk q 173 [.slice none 0 0, lessV, .map (some m), .int .i64 1] :: As.own 174 (.slice none 0 0) (([] : List Nat).map ptrV) :: entsA [] [] :: As.map Tryz.prog 2 anyR m 0 (.map []) :: As.blk hb 118 [.int .i64 sn, ptrV q, .map (some mh)] :: As.map Tryz.prog 3 anyR mh 0 (.map []) :: L) := by
  have HQ := hide (qnew_any H)
  have hmm := fun (t : TypeId) (x : World) => run_makeMap (P := Tryz.prog) t x
  clear H
  go_enter Tryz.func49, Tryz.ntmps49
  go_wp2_with fail
  (with_reducible refine HQ.out.mono ?_)
  rintro e w1 ⟨q, m, rfl, H1⟩
  have K0 := H1.newMap Tryz.prog 3 anyR (H := Unit)
  have K1 := K0.newB ((Ext.refl _).alloc (.cells #[.int .i64 sn, ptrV q, .map (some w1.heap.size)] 118)) (Blk.new _ 118 [.int .i64 sn, ptrV q, .map (some w1.heap.size)]) (Nat.le_refl _)
  rw [show (w1.alloc (.map #[] 0)).heap.size = w1.heap.size + 1 by simp] at K1
  clear H1 K0 HQ
  go_wp2_with fail
  go_ret2
  refine ⟨w1.heap.size + 1, q, m, w1.heap.size, rfl, ?_⟩
  exact K1.perm (perm24 _ _ _ _ _ _ _)

set_option maxRecDepth 100000 in
set_option maxHeartbeats 2000000 in
theorem hcmp_any (s1 d1 s2 d2 : Int) (w : World) : Calls Tryz.prog 52 #[hov s1 d1, hov s2 d2] w fun e w' => e = .returned (.int .i64 (ordI s1 s2)) ∧ Ext w w' := by
  have K0 := ((Sep.refl No w).add2 39 39 [.int .i64 s1, .int .i64 d1] [.int .i64 s2, .int .i64 d2])
  go_enter Tryz.func52, Tryz.ntmps52
  go_upto_region 1 with fail
  generalize World.alloc _ _ = w1 at K0 ⊢
  obtain ⟨g, hg⟩ : ∃ g, w.heap.size = g := ⟨_, rfl⟩
  obtain ⟨g2, hg2⟩ : ∃ g2, g + 1 = g2 := ⟨_, rfl⟩
  rw [hg, hg2] at K0 ⊢
  clear hg hg2
  obtain ⟨c0, c1, cz⟩ := q2 (K0.blk (g := g2) (e := 39) (List.Mem.head _))
  obtain ⟨d0, d1', dz⟩ := q2 (K0.blk (g := g) (e := 39) (List.Mem.tail _ (List.Mem.head _)))
  have HX := hide K0.toExt
  clear K0
  go_wp2_with fail
  (with_reducible refine (cmpi_any s1 s2 _).mono ?_)
  rintro e w9 ⟨rfl, rfl⟩
  go_wp2_with fail
  go_ret
  exact ⟨rfl, HX.out⟩

def SortedR (l : List Ho) (w : World) (e : Ending) (w' : World) : Prop := ∃ b, e = .returned (.bool b) ∧ (b = true ↔ ∀ (i : Nat) (x y : Ho), l[i]? = some x → l[i + 1]? = some y → x.s ≤ y.s) ∧ Ext w w'

set_option maxRecDepth 100000 in
set_option maxHeartbeats 2000000 in
theorem sorted_any (l : List Ho) (A : Option Addr) (c : Nat) (w : World) (hr : RdM w A 2 (hoV l)) (hc : l.length ≤ c) (hn : l.length ≤ 100000) :
    Calls Tryz.prog 51 #[.slice A l.length c, .func (.func 52) #[] #[]] w (SortedR l w) := by
  have HR := hide hr
  clear hr
  have hn2 : (l.length : Int) ≤ 100000 := by omega
  go_enter Tryz.func51, Tryz.ntmps51
  go_wp2_with fail
  go_loopw [5] (fun v5 wr => ∃ i : Int, v5 = .int .i64 i ∧ -1 ≤ i ∧ i < l.length ∧ Hid (∀ (j : Nat) (x y : Ho), i ≤ j → l[j]? = some x → l[j + 1]? = some y → x.s ≤ y.s) ∧ Hid (Ext w wr)) (fun v5 _ => (intOf v5 + 1).toNat)
  case atStart =>
    refine ⟨_, rfl, by omega, by omega, hide (fun j x y hj hx hy => ?_), hide (Ext.refl w)⟩
    have := lt_of_some hy
    omega
  case round =>
    obtain ⟨i, rfl, hi0, hil, HI, HX⟩ := hrel
    by_cases hi : 0 < i
    · obtain ⟨k, rfl⟩ : ∃ k : Nat, i = (k : Int) + 1 := ⟨(i - 1).toNat, by omega⟩
      have hk1 : (k : Int) + 1 - 1 = (k : Int) := by omega
      have hk2 : ((k : Int) + 1).toNat = k + 1 := by omega
      have hk3 : (0 : Int) ≤ (k : Int) + 1 := by omega
      have hkw : IntKind.i64.wrap (k : Int) = (k : Int) := IntWalk.i64_in _ (by omega)
      obtain ⟨x, hx⟩ := some_of (l := l) (i := k + 1) (by omega)
      obtain ⟨y, hy⟩ := some_of (l := l) (i := k) (by omega)
      go_upto_region 4 with fail
      refine wp_region_wm [0, 1, 2, 3, 4, 5, 6, 7, 8, 9, 10, 11] (by kernel_rfl) (by kernel_rfl) (by kernel_rfl) (by kernel_rfl) ?_
      have h0 : Ext w wr.drew := HX.out.drew
      generalize wr.drew = wd at *
      obtain ⟨g, off, hA, hax⟩ := ho_at (HR.out.ext h0) hx
      subst hA
      obtain ⟨g', off', hA, hay⟩ := ho_at (HR.out.ext h0) hy
      simp only [Option.some.injEq, Addr.mk.injEq, and_true] at hA
      obtain ⟨rfl, rfl⟩ := hA
      have hkl : (k : Int) < (l.length : Int) := by omega
      iterate 4 (refine wm_rd rfl rfl (fun K hK => ?_); go_simp; refine hK _ ?_; clear hK K)
      refine wm_ldX rfl rfl 39 (.tmp 16) rfl hax rfl _ Tryz.underlying39 rfl (by kernel_rfl) ?_
      iterate 4 (refine wm_rd rfl rfl (fun K hK => ?_); go_simp; refine hK _ ?_; clear hK K)
      refine wm_ldX rfl rfl 39 (.tmp 21) rfl hay rfl _ Tryz.underlying39 rfl (by kernel_rfl) ?_
      clear hax hay
      refine wm_ext rfl rfl (fun K hK => ?_)
      go_simp
      go_at_call 52
      (with_reducible refine (hcmp_any x.s x.d y.s y.d _).mono ?_)
      rintro e w1 ⟨rfl, hx1⟩
      refine hK _ _ hx1 ?_
      clear hK K
      have HX1 := hide (h0.trans hx1)
      clear h0 hx1 HX
      iterate 1 (refine wm_rd rfl rfl (fun K hK => ?_); go_simp; refine hK _ ?_; clear hK K)
      refine wm_nil ?_
      have HI1 := hide (fun (j : Nat) (x' y' : Ho) (hj : (k : Int) ≤ j) (hx' : l[j]? = some x') (hy' : l[j + 1]? = some y') (hxy : y.s ≤ x.s) => (by
        by_cases e : j = k
        · subst e
          rw [hy] at hx'
          rw [hx] at hy'
          cases hx'; cases hy'
          exact hxy
        · exact HI.out j x' y' (by omega) hx' hy' : x'.s ≤ y'.s))
      by_cases hlt : x.s < y.s
      · have HF : Hid (¬ ∀ (i : Nat) (x y : Ho), l[i]? = some x → l[i + 1]? = some y → x.s ≤ y.s) := hide (fun h => by have := h k y x hy hx; omega)
        have ho : ordI x.s y.s < 0 := by
          rcases ordI_cases x.s y.s with ⟨h, e⟩ | ⟨h, e⟩ | ⟨h, e⟩ <;> omega
        clear HI HI1 hlt hx hy
        go_wp2_with fail
        go_ret
        unfold SortedR
        exact ⟨false, rfl, ⟨fun h => (by cases h), fun h => absurd h HF.out⟩, HX1.out⟩
      · have ho : ¬ ordI x.s y.s < 0 := by
          rcases ordI_cases x.s y.s with ⟨h, e⟩ | ⟨h, e⟩ | ⟨h, e⟩ <;> omega
        have HI2 : Hid (∀ (j : Nat) (x y : Ho), (k : Int) ≤ j → l[j]? = some x → l[j + 1]? = some y → x.s ≤ y.s) := hide (fun j x' y' hj hx' hy' => HI1.out j x' y' hj hx' hy' (by omega))
        clear HI HI1 hlt hx hy
        go_wp2_with fail
        go_roundw
        case rel => exact ⟨k, by go_num, by omega, by omega, HI2, HX1⟩
        case measure => simp [intOf]; omega
    · have HF : Hid (∀ (i : Nat) (x y : Ho), l[i]? = some x → l[i + 1]? = some y → x.s ≤ y.s) := hide (fun j x y hx hy => HI.out j x y (by omega) hx hy)
      clear HI
      go_wp2_with fail
      go_ret
      unfold SortedR
      exact ⟨true, rfl, ⟨fun _ => HF.out, fun _ => rfl⟩, HX.out⟩

end Go.Proofs.YtdmaephmkfmehaaGreatDoor
namespace Go.Proofs.YtdmaephmkfmehaaGreatDoor
open Go.RowKit Go.Gr Go.Hp
set_option linter.unusedVariables false
set_option linter.unusedSimpArgs false
attribute [local go_sem] rdOp rdAt rdUpon Cls forall_fr
def srt (l : List Ho) : Prop := ∀ (i : Nat) (x y : Ho), l[i]? = some x → l[i + 1]? = some y → x.s ≤ y.s
def anyBad (sn : Int) (l : List Ho) : Bool := l.any fun x => badB sn x.s x.d
open Classical in
/-- what Load answers -/
noncomputable def ldE (sn : Int) (l : List Ho) : Int := if sn < 1 ∨ 4096 < sn then 7 else if anyBad sn l = true then 7 else if ¬ (l.map Ho.s).Nodup then 8 else if ¬ srt l then 6 else 0
/-- the seats met so far -/
structure Met (D : DataW Unit) (ss : List Int) : Prop where
  has : ∀ x, Maps.has D (.int .i64 x) = decide (x ∈ ss)
  le : Maps.size D ≤ ss.length
  nd : Maps.size D = ss.length ↔ ss.Nodup
theorem met_nil : Met (.map []) [] := ⟨fun x => rfl, Nat.le_refl _, ⟨fun _ => List.nodup_nil, fun _ => rfl⟩⟩
theorem met_put {D : DataW Unit} {ss : List Int} (h : Met D ss) (ht : Maps.Tidy D) (hm : Maps.IsMap D) (x : Int) (d : DataW Unit) : Met (D.put (.int .i64 x) d) (ss ++ [x]) := by
  have hs := Maps.size_put (k := .int .i64 x) ht d
  have hx := h.has x
  refine ⟨fun y => ?_, ?_, ?_⟩
  · by_cases e : y = x
    · subst e
      rw [Maps.has_put_same hm (show WideAt.IsKeyLit (.int .i64 y) from trivial)]
      simp
    · rw [Maps.has_put_other (by intro he; cases he; exact e rfl), h.has y]
      simp [e]
  · rw [hs, List.length_append, List.length_singleton]
    have := h.le
    split <;> omega
  · rw [hs, List.length_append, List.length_singleton, List.nodup_append]
    have hle := h.le
    have hnd := h.nd
    by_cases hin : x ∈ ss
    · rw [hx, decide_eq_true hin, if_pos rfl]
      constructor
      · intro he; omega
      · intro ⟨_, _, h3⟩
        exact absurd rfl (h3 x hin x (by simp))
    · rw [hx, decide_eq_false hin, if_neg (by decide)]
      constructor
      · intro he
        refine ⟨hnd.1 (by omega), by simp, fun a ha b hb => ?_⟩
        rw [List.mem_singleton] at hb
        subst hb
        exact fun e => hin (e ▸ ha)
      · intro ⟨h1, _, _⟩
        have := hnd.2 h1
        omega

def toHo (e : En) : Ho := ⟨e.s, e.d⟩
/-- holds that hold these entries -/
def LoadR (w : World) (sn : Int) (l : List Ho) (e : Ending) (w' : World) : Prop := ∃ (hb q m mh n nh : Nat) (v : Value) (D Dh : DataW Unit) (nx : Int) (gs : List Nat) (es : List En),
  e = .returned (.tuple #[ptrV hb, .int .i64 0]) ∧ gs.length = es.length ∧ IsHeap es es.length ∧ (es.map toHo).Perm l ∧ (∀ e ∈ es, 1 ≤ e.h ∧ e.h ≤ 5000) ∧ Sep No w w' (As.blk q 173 [v, lessV, .map (some m), .int .i64 nx] :: As.own 174 v (gs.map ptrV) :: entsA gs es :: As.map Tryz.prog 2 anyR m n D :: As.blk hb 118 [.int .i64 sn, ptrV q, .map (some mh)] :: As.map Tryz.prog 3 anyR mh nh Dh :: [])
/-- what Load answers -/
def LoadA (w : World) (sn : Int) (l : List Ho) (e : Ending) (w' : World) : Prop := (ldE sn l = 0 ∧ LoadR w sn l e w') ∨ (ldE sn l ≠ 0 ∧ e = .returned (.tuple #[.pointer none, .int .i64 (ldE sn l)]) ∧ Ext w w')
theorem loadA_bad {w w' : World} {sn : Int} {l : List Ho} {e : Ending} {k : Int} (h : ldE sn l = k) (hk : k ≠ 0) (he : e = .returned (.tuple #[.pointer none, .int .i64 k])) (hx : Ext w w') : LoadA w sn l e w' := .inr ⟨by rw [h]; exact hk, by rw [h]; exact he, hx⟩

set_option maxRecDepth 100000 in
set_option maxHeartbeats 2000000 in
theorem load_hold (sn : Int) (l : List Ho) (A : Option Addr) (c : Nat) (w : World) (hr : RdM w A 2 (hoV l)) (hok : ∀ x ∈ l, x.ok) (hc : l.length ≤ c) (hn : l.length ≤ 4000) :
    Calls Tryz.prog 24 #[.int .i64 sn, .slice A l.length c] w (LoadA w sn l) := by
  by_cases hsn : sn < 1 ∨ 4096 < sn
  · have HE : Hid (ldE sn l = 7) := hide (by unfold ldE; rw [if_pos hsn])
    have HNB := hide (hnew_bad sn hsn w)
    clear hsn hr hok
    go_enter Tryz.func24, Tryz.ntmps24
    go_wp2_with fail
    (with_reducible refine HNB.out.mono ?_)
    rintro e w1 ⟨rfl, rfl⟩
    go_wp2_with fail
    go_ret2
    exact loadA_bad HE.out (by decide) rfl (Ext.refl w)
  have HNW := hide (hnew_ok sn (by omega) (by omega) (Sep.refl No w))
  have HSN := hide hsn
  have HR := hide hr
  have HOK := hide hok
  have hn2 : (l.length : Int) ≤ 4000 := by omega
  have HC := hide hc
  have hmm := fun (t : TypeId) (x : World) => run_makeMap (P := Tryz.prog) t x
  clear hsn hr hok hc
  go_enter Tryz.func24, Tryz.ntmps24
  go_wp2_with fail
  (with_reducible refine HNW.out.mono ?_)
  rintro e w1 ⟨hb, q, m, mh, rfl, H1⟩
  have K0 := hide (H1.newMap Tryz.prog 3 anyR (H := Unit))
  clear H1 HNW
  go_wp2_with fail
  obtain ⟨gm, hgm⟩ : ∃ g, w1.heap.size = g := ⟨_, rfl⟩
  rw [hgm] at K0 ⊢
  generalize World.alloc _ _ = w2 at K0 ⊢
  clear hgm hmm
  go_loopw [25] (fun v25 wr => ∃ (i nm : Nat) (Dm : DataW Unit), v25 = .int .i64 i ∧ i ≤ l.length ∧ Hid (Met Dm ((l.take i).map Ho.s) ∧ (∀ x ∈ l.take i, badB sn x.s x.d = false) ∧ nm ≤ i) ∧ Hid (Sep No w wr (As.map Tryz.prog 3 anyR gm nm Dm :: As.blk q 173 [.slice none 0 0, lessV, .map (some m), .int .i64 1] :: As.own 174 (.slice none 0 0) (([] : List Nat).map ptrV) :: entsA [] [] :: As.map Tryz.prog 2 anyR m 0 (.map []) :: As.blk hb 118 [.int .i64 sn, ptrV q, .map (some mh)] :: As.map Tryz.prog 3 anyR mh 0 (.map []) :: []))) (fun v25 _ => l.length - (intOf v25).toNat)
  case atStart => exact ⟨0, 0, _, rfl, Nat.zero_le _, hide ⟨met_nil, (fun x hx => by cases hx), Nat.le_refl _⟩, K0⟩
  case round =>
    clear K0
    obtain ⟨i, nm, Dm, rfl, hil, HM, HS⟩ := hrel
    by_cases i1 : i < l.length
    · have i2 : (i : Int) < (l.length : Int) := by omega
      obtain ⟨x, hx⟩ := some_of i1
      have hxo := HOK.out x (List.mem_of_getElem? hx)
      obtain ⟨g, off, hA, hat⟩ := ho_at (HR.out.ext HS.out.toExt) hx
      subst hA
      have HX := hide hx
      have hkI := Maps.keyOf_int_mk (P := Tryz.prog) Tryz.underlying3 (wf_i64' (x := x.s) hxo.s0 hxo.s1)
      have hnm : nm < maxLen := by have := HM.out.2.2; unfold maxLen; omega
      clear hx hxo
      have tok1 : True := trivial
      have tok2 : True := trivial
      have tok3 : True := trivial
      have tok4 : True := trivial
      go_upto_region 8 with (first
        | (have zz := tok1; clear zz tok1; refine wpList_ldX rfl 39 (.tmp 27) rfl hat rfl _ Tryz.underlying39 rfl (by kernel_rfl) ?_)
        | (have zz := tok2; clear zz tok2; refine wpList_alS HS.out rfl 39 rfl [.int .i64 0, .int .i64 0] (by kernel_rfl) ?_; intro w3 hz3 K3; clear hz3 HS)
        | (have zz := tok3; clear zz tok3; refine wpList_stS [] K3 rfl 39 (.tmp 10) (.tmp 28) rfl rfl (cs := hoC x) rfl (by kernel_rfl) rfl (ho_one x.s x.d) ?_; intro w4 K4; dsimp only [List.nil_append] at K4; clear K3))
      obtain ⟨g10, G10⟩ : ∃ g, wr.heap.size = g := ⟨_, rfl⟩
      rw [G10] at K4 ⊢
      clear G10 hat
      obtain ⟨b0, b1, bz⟩ := q2 (K4.blk (g := g10) (e := 39) (cs := hoC x) (List.Mem.head _))
      have HBD := hide (bad_any x.s x.d w4 (K4.blk (g := hb) (e := 118) (cs := [.int .i64 sn, ptrV q, .map (some mh)]) (List.Mem.tail _ (List.Mem.tail _ (List.Mem.tail _ (List.Mem.tail _ (List.Mem.tail _ (List.Mem.tail _ (List.Mem.head _)))))))))
      obtain ⟨bb, HBB⟩ : ∃ b, Hid (badB sn x.s x.d = b) := ⟨_, hide rfl⟩
      rw [HBB.out] at HBD
      have KK := hide K4
      clear K4
      go_wp2_with fail
      (with_reducible refine HBD.out.mono ?_)
      rintro e w5 ⟨rfl, rfl⟩
      clear HBD
      cases bb
      rotate_left
      · have HE : Hid (ldE sn l = 7) := hide (by
          unfold ldE
          rw [if_neg HSN.out, if_pos (show anyBad sn l = true from List.any_eq_true.2 ⟨x, List.mem_of_getElem? HX.out, HBB.out⟩)])
        go_wp2_with fail
        go_ret2
        exact loadA_bad HE.out (by decide) rfl KK.out.toExt
      have K4 := KK.out
      clear KK
      go_wp2_with (have zz := tok4; clear zz tok4; refine wpList_mapS [_] K4 rfl _ _ _ 74 rfl 4 lawI Tryz.underlying74 rfl hnm _ _ _ rfl rfl hkI (.lit (.bool true)) [] rfl ?_; intro w6 K6; dsimp only [List.nil_append, List.cons_append] at K6; clear b0 b1 bz)
      have HM2 : Hid (Met (Dm.put (.int .i64 x.s) (.lit (.bool true))) ((l.take (i + 1)).map Ho.s) ∧ (∀ x ∈ l.take (i + 1), badB sn x.s x.d = false) ∧ nm + 1 ≤ i + 1) := hide (by
        have hmm' := K4.map (b := gm) (n := nm) (D := Dm) (List.Mem.tail _ (List.Mem.head _))
        have e : l.take (i + 1) = l.take i ++ [x] := by rw [List.take_add_one, HX.out]; rfl
        refine ⟨?_, fun y hy => ?_, by have := HM.out.2.2; omega⟩
        · rw [e, List.map_append]
          exact met_put HM.out.1 (hmm'.tidy lawI) hmm'.isMap x.s _
        · rw [e] at hy
          rcases List.mem_append.1 hy with h | h
          · exact HM.out.2.1 y h
          · rw [List.mem_singleton] at h
            subst h
            exact HBB.out)
      have K7 := hide K6.tail
      clear K6 K4
      go_roundw
      case rel => exact ⟨i + 1, nm + 1, _, by go_num, by omega, HM2, K7⟩
      case measure => simp [intOf]; omega
    · have i2 : ¬ (i : Int) < (l.length : Int) := by omega
      obtain rfl : i = l.length := by omega
      have hto : l.take l.length = l := List.take_length
      have hmt := HM.out
      rw [hto] at hmt
      have HBD : Hid (∀ x ∈ l, badB sn x.s x.d = false) := hide hmt.2.1
      have hnb : ¬ anyBad sn l = true := fun h => by
        obtain ⟨x, hx, hb⟩ := List.any_eq_true.1 h
        rw [HBD.out x hx] at hb
        cases hb
      have HLN := hide (fun (ty : TypeId) => (HS.out.map (b := gm) (n := nm) (D := Dm) (List.Mem.head _)).len (t := 74) Tryz.underlying74 ty)
      have hsl := hmt.1.le
      have hsn := hmt.1.nd
      rw [List.length_map] at hsl hsn
      obtain ⟨sz, hsz⟩ : ∃ sz, Maps.size Dm = sz := ⟨_, rfl⟩
      rw [hsz] at HLN hsl hsn
      have HSP := hide hnb
      have hln := HLN.out
      by_cases hnd : (l.map Ho.s).Nodup
      rotate_left
      · have HE : Hid (ldE sn l = 8) := hide (by unfold ldE; rw [if_neg HSN.out, if_neg hnb, if_pos hnd])
        have hlt : (sz : Int) < (l.length : Int) := by
          have : sz ≠ l.length := fun e => hnd (hsn.1 e)
          omega
        clear hnd hsn hsl hsz hnb hmt hto HM
        go_wp2_with fail
        go_ret2
        exact loadA_bad HE.out (by decide) rfl HS.out.toExt
      have hlt : ¬ (sz : Int) < (l.length : Int) := by rw [hsn.2 hnd]; omega
      have HND := hide hnd
      have HSO := hide (sorted_any l A c wr (HR.out.ext HS.out.toExt) HC.out (by omega))
      clear hnd hsn hsl hsz hnb hmt hto HM
      go_wp2_with fail
      (with_reducible refine HSO.out.mono ?_)
      rintro e w5 ⟨b, rfl, hbs, hx⟩
      have HBS := hide hbs
      have KK := hide (HS.out.ext hx)
      clear hbs hx hln hlt HSO HS
      cases b
      · have HE : Hid (ldE sn l = 6) := hide (by
          unfold ldE
          rw [if_neg HSN.out, if_neg HSP.out, if_neg (fun h => h HND.out), if_pos (fun h => by have := HBS.out.2 h; cases this)])
        go_wp2_with fail
        go_ret2
        exact loadA_bad HE.out (by decide) rfl KK.out.toExt
      have HE : Hid (ldE sn l = 0) := hide (by
        unfold ldE
        rw [if_neg HSN.out, if_neg HSP.out, if_neg (fun h => h HND.out), if_neg (fun h => h (HBS.out.1 rfl))])
      have K5 := hide KK.out.tail
      clear KK HBS
      go_wp2_with fail
      have HB0 : Hid (∀ x ∈ l, badB sn x.s x.d = false) := HBD
      clear HBD
      go_loopw [51] (fun v51 wy => ∃ (j n nh : Nat) (v : Value) (D Dh : DataW Unit) (nx : Int) (gs : List Nat) (es : List En), v51 = .int .i64 j ∧ j ≤ l.length ∧ nx = (j : Int) + 1 ∧ Hid (gs.length = j ∧ es.length = j ∧ IsHeap es es.length ∧ (es.map toHo).Perm (l.take j) ∧ (∀ e ∈ es, 1 ≤ e.h ∧ e.h ≤ j) ∧ n = j ∧ nh = j ∧ (∀ x, x ∉ (l.take j).map Ho.s → Maps.has Dh (.int .i64 x) = false)) ∧ Hid (Sep No w wy (As.blk q 173 [v, lessV, .map (some m), .int .i64 nx] :: As.own 174 v (gs.map ptrV) :: entsA gs es :: As.map Tryz.prog 2 anyR m n D :: As.blk hb 118 [.int .i64 sn, ptrV q, .map (some mh)] :: As.map Tryz.prog 3 anyR mh nh Dh :: []))) (fun v51 _ => l.length - (intOf v51).toNat)
      case atStart => exact ⟨0, 0, 0, _, _, _, 1, [], [], rfl, Nat.zero_le _, by omega, hide ⟨rfl, rfl, (fun i a b h0 h1 => by simp at h1), List.Perm.refl _, (fun e he => by cases he), rfl, rfl, (fun x _ => rfl)⟩, K5⟩
      case round =>
        clear K5 i2
        obtain ⟨j, n, nh, v, D, Dh, nx, gs, es, rfl, hjl, hnx, HF, HS⟩ := hrel
        by_cases j1 : j < l.length
        · have j2 : (j : Int) < (l.length : Int) := by omega
          obtain ⟨x, hx⟩ := some_of j1
          have hxo := HOK.out x (List.mem_of_getElem? hx)
          have hbx := HB0.out x (List.mem_of_getElem? hx)
          have hnin : x.s ∉ (l.take j).map Ho.s := fun h => by
            obtain ⟨y, hy, hys⟩ := List.mem_map.1 h
            obtain ⟨k, hk, rfl⟩ := List.getElem_of_mem hy
            rw [List.length_take] at hk
            have h1 : (l.map Ho.s)[k]? = some x.s := by
              rw [List.getElem?_map, List.getElem?_eq_getElem (by omega)]
              rw [List.getElem_take] at hys
              rw [Option.map_some, hys]
            have h2 : (l.map Ho.s)[j]? = some x.s := by rw [List.getElem?_map, hx]; rfl
            have := nodup_idx HND.out h1 h2
            omega
          obtain ⟨g, off, hA, hat⟩ := ho_at (HR.out.ext HS.out.toExt) hx
          subst hA
          have HX := hide hx
          have HNH := hide (HF.out.2.2.2.2.2.2.2 x.s hnin)
          have HWF := hide (wf_i64' (x := x.s) hxo.s0 hxo.s1)
          have HBX := hide hbx
          clear hx hxo hbx hnin
          have tok1 : True := trivial
          have tok2 : True := trivial
          have tok3 : True := trivial
          go_upto_region 19 with (first
            | (have zz := tok1; clear zz tok1; refine wpList_ldX rfl 39 (.tmp 53) rfl hat rfl _ Tryz.underlying39 rfl (by kernel_rfl) ?_)
            | (have zz := tok2; clear zz tok2; refine wpList_alS HS.out rfl 39 rfl [.int .i64 0, .int .i64 0] (by kernel_rfl) ?_; intro w6 hz6 K6; clear hz6 HS)
            | (have zz := tok3; clear zz tok3; refine wpList_stS [] K6 rfl 39 (.tmp 12) (.tmp 54) rfl rfl (cs := hoC x) rfl (by kernel_rfl) rfl (ho_one x.s x.d) ?_; intro w7 K7; dsimp only [List.nil_append] at K7; clear K6))
          obtain ⟨g12, G12⟩ : ∃ g, wr.heap.size = g := ⟨_, rfl⟩
          rw [G12] at K7 ⊢
          clear G12 hat
          obtain ⟨b0, b1, bz⟩ := q2 (K7.blk (g := g12) (e := 39) (cs := hoC x) (List.Mem.head _))
          have HPT := hide (put_any (s := x.s) (d := x.d) (by have := HF.out; omega) (by have := HF.out; omega) HF.out.2.2.1 (by omega) (by omega) (by have := HF.out; omega) (by have := HF.out; omega) (by have := HSN.out; omega) HBX.out HWF.out HNH.out K7.tail)
          clear K7
          go_wp2_with fail
          (with_reducible refine HPT.out.mono ?_)
          rintro e w8 ⟨rfl, v', gs', es', D', h1, h2, h3, h4⟩
          have HF2 : Hid (gs'.length = j + 1 ∧ es'.length = j + 1 ∧ IsHeap es' es'.length ∧ (es'.map toHo).Perm (l.take (j + 1)) ∧ (∀ e ∈ es', 1 ≤ e.h ∧ e.h ≤ ((j + 1 : Nat) : Int)) ∧ n + 1 = j + 1 ∧ nh + 1 = j + 1 ∧ (∀ y, y ∉ (l.take (j + 1)).map Ho.s → Maps.has (Dh.put (.int .i64 x.s) (.lit (.bool true))) (.int .i64 y) = false)) := hide (by
            obtain ⟨f1, f2, f3, f4, f5, f6, f7, f8⟩ := HF.out
            have e : l.take (j + 1) = l.take j ++ [x] := by rw [List.take_add_one, HX.out]; rfl
            refine ⟨by omega, by rw [h2.length_eq, List.length_append, f2]; rfl, h3, ?_, fun e' he' => ?_, by omega, by omega, fun y hy => ?_⟩
            · have := h2.map toHo
              rw [List.map_append] at this
              rw [e]
              exact this.trans (f4.append_right [x])
            · rcases List.mem_append.1 (h2.mem_iff.1 he') with h | h
              · have := f5 e' h
                omega
              · rw [List.mem_singleton] at h
                subst h
                show 1 ≤ nx ∧ nx ≤ _
                omega
            · rw [e, List.map_append] at hy
              have hne : y ≠ x.s := fun h => hy (by rw [h]; simp)
              rw [Maps.has_put_other (by intro he; cases he; exact hne rfl)]
              exact f8 y (fun h => hy (List.mem_append_left _ h)))
          have HS2 := hide h4
          clear h1 h2 h3 h4 HPT b0 b1 bz HF
          go_wp2_with fail
          go_roundw
          case rel => exact ⟨j + 1, n + 1, nh + 1, v', D', _, nx + 1, gs', es', by go_num, by omega, by omega, HF2, HS2⟩
          case measure => simp [intOf]; omega
        · have j2 : ¬ (j : Int) < (l.length : Int) := by omega
          go_wp2_with fail
          go_ret2
          refine .inl ⟨HE.out, hb, q, m, mh, n, nh, v, D, Dh, nx, gs, es, rfl, ?_⟩
          obtain ⟨f1, f2, f3, f4, f5, f6, f7, f8⟩ := HF.out
          have hto : l.take j = l := List.take_of_length_le (by omega)
          rw [hto] at f4
          exact ⟨by omega, f3, f4, fun e he => ⟨(f5 e he).1, by have := (f5 e he).2; omega⟩, HS.out⟩

end Go.Proofs.YtdmaephmkfmehaaGreatDoor
namespace Go.Proofs.YtdmaephmkfmehaaGreatDoor
open Go.RowKit Go.Gr Go.Hp
set_option linter.unusedVariables false
set_option linter.unusedSimpArgs false
attribute [local go_sem] rdOp rdAt rdUpon Cls forall_fr
theorem min2 (a b : Int) : (decide (Lib.minOf [a, b] < 0)) = (decide (a < 0) || decide (b < 0)) := by
  rw [← Bool.decide_or]
  apply decide_eq_decide.2
  simp only [Lib.minOf, List.headD_cons, List.foldl_cons, List.foldl_nil]
  omega
/-- the deadline after d from t, saturating -/
def addT (t d : Int) : Int := if t + d ≤ 9223372036854775807 then t + d else 9223372036854775807

set_option maxRecDepth 100000 in
set_option maxHeartbeats 2000000 in
theorem none_any (a b : Int) (g : Nat) (t : TypeId) (w : World) (h : Blk w g t [.int .i64 a, .int .i64 b]) : Calls Tryz.prog 84 #[.slice (some ⟨g, 0, none⟩) 2 2] w fun e w' => e = .returned (.bool (decide (a < 0) || decide (b < 0))) ∧ w = w' := by
  have HM := hide (Tryz.slices_Min_int g 0 2 2 [a, b] w (by decide) (by simp) (by decide) (fun j hj => by
    match j with
    | 0 => exact h.cell 0
    | 1 => exact h.cell 1
    | (n + 2) => simp at hj; omega))
  obtain ⟨z, HZ⟩ : ∃ z, Hid (Lib.minOf [a, b] = z) := ⟨_, hide rfl⟩
  have HR := hide (min2 a b)
  rw [HZ.out] at HR
  rw [show [a, b].take 2 = [a, b] from rfl, HZ.out] at HM
  clear h
  go_enter Tryz.func84, Tryz.ntmps84
  go_wp2_with fail
  (with_reducible refine HM.out.mono ?_)
  rintro e w1 ⟨rfl, rfl⟩
  go_wp2_with fail
  go_ret
  exact ⟨by first | (rw [← HR.out]; rfl) | rfl, rfl⟩

set_option maxRecDepth 100000 in
set_option maxHeartbeats 2000000 in
theorem passed_any (t n : Int) (ht : 0 ≤ t) (hn : 0 ≤ n) (w : World) : Calls Tryz.prog 56 #[.int .i64 t, .int .i64 n] w fun e w' => e = .returned (.tuple #[.bool (decide (t ≤ n)), .int .i64 0]) ∧ Ext w w' := by
  have K0 := (Sep.refl No w).add 2 [.int .i64 t, .int .i64 n]
  have h1 : (decide (t < 0) || decide (n < 0)) = false := by simp; omega
  have HN := hide (none_any t n w.heap.size 2 _ (K0.blk (List.Mem.head _)))
  rw [h1] at HN
  have HX := hide K0.toExt
  clear K0 h1
  go_enter Tryz.func56, Tryz.ntmps56
  go_wp2_with fail
  (with_reducible refine HN.out.mono ?_)
  rintro e w1 ⟨rfl, rfl⟩
  go_wp2_with fail
  go_ret2
  exact ⟨rfl, HX.out⟩

set_option maxRecDepth 100000 in
set_option maxHeartbeats 2000000 in
theorem add_any (t d : Int) (ht : 0 ≤ t ∧ t ≤ 9223372036854775807) (hd : 0 ≤ d ∧ d ≤ 9223372036854775807) (w : World) : Calls Tryz.prog 47 #[.int .i64 t, .int .i64 d] w fun e w' => e = .returned (.tuple #[.int .i64 (addT t d), .int .i64 0]) ∧ Ext w w' := by
  have K0 := (Sep.refl No w).add 2 [.int .i64 t, .int .i64 d]
  have h1 : (decide (t < 0) || decide (d < 0)) = false := by simp; omega
  have HN := hide (none_any t d w.heap.size 2 _ (K0.blk (List.Mem.head _)))
  rw [h1] at HN
  have HX := hide K0.toExt
  obtain ⟨ht0, ht1⟩ := ht
  obtain ⟨hd0, hd1⟩ := hd
  clear K0 h1
  by_cases hs : t + d ≤ 9223372036854775807
  · have HE : Hid (addT t d = t + d) := hide (by unfold addT; rw [if_pos hs])
    have hw1 : IntKind.u64.wrap t = t := IntWalk.u64_in _ (by omega)
    have hw2 : IntKind.u64.wrap d = d := IntWalk.u64_in _ (by omega)
    have hw3 : IntKind.u64.wrap (t + d) = t + d := IntWalk.u64_in _ (by omega)
    have hw4 : IntKind.i64.wrap (t + d) = t + d := IntWalk.i64_in _ (by omega)
    have hsh : (t + d) / 9223372036854775808 = 0 := by omega
    go_enter Tryz.func47, Tryz.ntmps47
    go_wp2_with fail
    (with_reducible refine HN.out.mono ?_)
    rintro e w1 ⟨rfl, rfl⟩
    go_wp2_with fail
    go_ret2
    exact ⟨by rw [HE.out]; rfl, HX.out⟩
  · have HE : Hid (addT t d = 9223372036854775807) := hide (by unfold addT; rw [if_neg hs])
    have hw1 : IntKind.u64.wrap t = t := IntWalk.u64_in _ (by omega)
    have hw2 : IntKind.u64.wrap d = d := IntWalk.u64_in _ (by omega)
    have hw3 : IntKind.u64.wrap (t + d) = t + d := IntWalk.u64_in _ (by omega)
    have hsh : (t + d) / 9223372036854775808 = 1 := by omega
    go_enter Tryz.func47, Tryz.ntmps47
    go_wp2_with fail
    (with_reducible refine HN.out.mono ?_)
    rintro e w1 ⟨rfl, rfl⟩
    go_wp2_with fail
    go_ret2
    exact ⟨by rw [HE.out]; rfl, HX.out⟩

set_option maxRecDepth 100000 in
set_option maxHeartbeats 2000000 in
theorem both_any (t d : Int) (ht : 0 ≤ t) (hd : 0 ≤ d) (w : World) : Calls Tryz.prog 107 #[.int .i64 t, .int .i64 d] w fun e w' => e = .returned (.int .i64 0) ∧ w = w' := by
  have h1 : ¬ t < 0 := by omega
  have h2 : ¬ d < 0 := by omega
  go_enter Tryz.func107, Tryz.ntmps107
  go_wp2_with fail
  go_ret
  exact ⟨rfl, rfl⟩
theorem rpassed_any (t n : Int) (ht : 0 ≤ t) (hn : 0 ≤ n) (w : World) : Calls Tryz.prog 76 #[.int .i64 t, .int .i64 n] w fun e w' => e = .returned (.tuple #[.bool (decide (t ≤ n)), .int .i64 0]) ∧ w = w' := by
  have HB := hide (both_any t n ht hn w)
  clear ht hn
  go_enter Tryz.func76, Tryz.ntmps76
  go_wp2_with fail
  (with_reducible refine HB.out.mono ?_)
  rintro e w1 ⟨rfl, rfl⟩
  go_wp2_with fail
  go_ret2
  exact ⟨rfl, rfl⟩
theorem radd_any (t d : Int) (ht : 0 ≤ t ∧ t ≤ 9223372036854775807) (hd : 0 ≤ d ∧ d ≤ 9223372036854775807) (w : World) : Calls Tryz.prog 71 #[.int .i64 t, .int .i64 d] w fun e w' => e = .returned (.tuple #[.int .i64 (addT t d), .int .i64 0]) ∧ w = w' := by
  have HB := hide (both_any t d ht.1 hd.1 w)
  obtain ⟨ht0, ht1⟩ := ht
  obtain ⟨hd0, hd1⟩ := hd
  by_cases hs : t + d ≤ 9223372036854775807
  · have HE : Hid (addT t d = t + d) := hide (by unfold addT; rw [if_pos hs])
    have h1 : ¬ 9223372036854775807 - d < t := by omega
    go_enter Tryz.func71, Tryz.ntmps71
    go_wp2_with fail
    (with_reducible refine HB.out.mono ?_)
    rintro e w1 ⟨rfl, rfl⟩
    go_wp2_with fail
    go_ret2
    exact ⟨by rw [HE.out]; rfl, rfl⟩
  · have HE : Hid (addT t d = 9223372036854775807) := hide (by unfold addT; rw [if_neg hs])
    have h1 : 9223372036854775807 - d < t := by omega
    go_enter Tryz.func71, Tryz.ntmps71
    go_wp2_with fail
    (with_reducible refine HB.out.mono ?_)
    rintro e w1 ⟨rfl, rfl⟩
    go_wp2_with fail
    go_ret2
    exact ⟨by rw [HE.out]; rfl, rfl⟩

end Go.Proofs.YtdmaephmkfmehaaGreatDoor
namespace Go.Proofs.YtdmaephmkfmehaaGreatDoor
open Go.RowKit Go.Gr Go.Hp
set_option linter.unusedVariables false
set_option linter.unusedSimpArgs false
attribute [local go_sem] rdOp rdAt rdUpon Cls forall_fr
/-- comes to its end before -/
def hoLt (a b : Ho) : Prop := a.d < b.d ∨ (a.d = b.d ∧ a.s < b.s)
/-- out is what is due of l, in order -/
def IsDue (now : Int) (l out : List Ho) : Prop := ∃ rest, (out ++ rest).Perm l ∧ (∀ x ∈ out, x.d ≤ now) ∧ (∀ x ∈ rest, now < x.d) ∧ out.Pairwise hoLt
theorem hoLt_irrefl (a : Ho) : ¬ hoLt a a := by unfold hoLt; omega
theorem hoLt_asymm {a b : Ho} (h : hoLt a b) : ¬ hoLt b a := by unfold hoLt at *; omega
theorem sorted_eq : ∀ {a b : List Ho}, a.Pairwise hoLt → b.Pairwise hoLt → (∀ x, x ∈ a ↔ x ∈ b) → a = b
  | [], [], _, _, _ => rfl
  | [], y :: b, _, _, h => by have := (h y).2 (by simp); cases this
  | x :: a, [], _, _, h => by have := (h x).1 (by simp); cases this
  | x :: a, y :: b, ha, hb, h => by
    obtain ⟨ha1, ha2⟩ := List.pairwise_cons.1 ha
    obtain ⟨hb1, hb2⟩ := List.pairwise_cons.1 hb
    have e : x = y := by
      rcases List.mem_cons.1 ((h x).1 (by simp)) with e | hx
      · exact e
      · rcases List.mem_cons.1 ((h y).2 (by simp)) with e | hy
        · exact e.symm
        · exact absurd (ha1 y hy) (hoLt_asymm (hb1 x hx))
    subst e
    rw [sorted_eq ha2 hb2 (fun z => ?_)]
    constructor
    · intro hz
      rcases List.mem_cons.1 ((h z).1 (List.mem_cons_of_mem _ hz)) with e | hz'
      · subst e; exact absurd (ha1 z hz) (hoLt_irrefl z)
      · exact hz'
    · intro hz
      rcases List.mem_cons.1 ((h z).2 (List.mem_cons_of_mem _ hz)) with e | hz'
      · subst e; exact absurd (hb1 z hz) (hoLt_irrefl z)
      · exact hz'
theorem isDue_mem {now : Int} {l out : List Ho} (h : IsDue now l out) (x : Ho) : x ∈ out ↔ (x ∈ l ∧ x.d ≤ now) := by
  obtain ⟨rest, hp, h1, h2, h3⟩ := h
  constructor
  · intro hx
    exact ⟨hp.mem_iff.1 (List.mem_append_left _ hx), h1 x hx⟩
  · intro ⟨hx, hd⟩
    rcases List.mem_append.1 (hp.mem_iff.2 hx) with h | h
    · exact h
    · have := h2 x h
      omega
theorem isDue_one {now : Int} {l a b : List Ho} (ha : IsDue now l a) (hb : IsDue now l b) : a = b := by
  have h1 := isDue_mem ha
  have h2 := isDue_mem hb
  obtain ⟨_, _, _, _, sa⟩ := ha
  obtain ⟨_, _, _, _, sb⟩ := hb
  exact sorted_eq sa sb (fun x => (h1 x).trans (h2 x).symm)
/-- on the way: what has been taken out, what is left -/
structure DueI (now : Int) (l : List Ho) (out rest : List Ho) : Prop where
  p : (out ++ rest).Perm l
  due : ∀ x ∈ out, x.d ≤ now
  srt : out.Pairwise hoLt
  lt : ∀ x ∈ out, ∀ y ∈ rest, hoLt x y
theorem dueI_start (now : Int) (l : List Ho) : DueI now l [] l := ⟨List.Perm.refl _, (fun x hx => by cases hx), List.Pairwise.nil, (fun x hx => by cases hx)⟩
theorem dueI_step {now : Int} {l out rest rest' : List Ho} {r : Ho} (h : DueI now l out rest) (hp : (rest' ++ [r]).Perm rest) (hd : r.d ≤ now) (hmin : ∀ y ∈ rest', hoLt r y) : DueI now l (out ++ [r]) rest' := by
  have hrm : r ∈ rest := hp.mem_iff.1 (by simp)
  refine ⟨?_, fun x hx => ?_, ?_, fun x hx y hy => ?_⟩
  · rw [List.append_assoc]
    refine List.Perm.trans ?_ h.p
    refine List.Perm.append_left out ?_
    exact (List.perm_append_comm).trans hp
  · rcases List.mem_append.1 hx with h' | h'
    · exact h.due x h'
    · rw [List.mem_singleton] at h'; subst h'; exact hd
  · rw [List.pairwise_append]
    refine ⟨h.srt, by simp, fun x hx y hy => ?_⟩
    rw [List.mem_singleton] at hy
    subst hy
    exact h.lt x hx y hrm
  · rcases List.mem_append.1 hx with h' | h'
    · exact h.lt x h' y (hp.mem_iff.1 (List.mem_append_left _ hy))
    · rw [List.mem_singleton] at h'; subst h'; exact hmin y hy
theorem dueI_end {now : Int} {l out rest : List Ho} (h : DueI now l out rest) (hr : ∀ x ∈ rest, now < x.d) : IsDue now l out := ⟨rest, h.p, h.due, hr, h.srt⟩
/-- the root comes before all others: their seats differ -/
theorem root_lt {es es' : List En} {r : En} (hh : IsHeap es es.length) (hr : es[0]? = some r) (hp : (es' ++ [r]).Perm es) (hnd : (es.map fun e => e.s).Nodup) : ∀ e ∈ es', hoLt (toHo r) (toHo e) := fun e he => by
  have hmem : e ∈ es := hp.mem_iff.1 (List.mem_append_left _ he)
  obtain ⟨i, hi, rfl⟩ := List.getElem_of_mem hmem
  have h1 := heap_root hh hr i _ hi (List.getElem?_eq_getElem hi)
  have hne : (es[i]).s ≠ r.s := by
    have := (hp.map fun e => e.s).nodup_iff.2 hnd
    rw [List.map_append, List.nodup_append] at this
    exact this.2.2 _ (List.mem_map.2 ⟨_, he, rfl⟩) _ (by simp)
  unfold bef lessP at h1
  unfold hoLt toHo
  dsimp only
  omega
theorem infoHo : (Tryz.prog.info? 39).map (fun i => (i.zero, i.size, i.bytes)) = some (some (.agg #[.int .i64 0, .int .i64 0]), 2, 16) := by kernel_rfl
def sLen : Value → Nat
  | .slice _ n _ => n
  | _ => 0
theorem perm18 {α : Type} (a b c d e f g h : α) (L : List α) : (a :: b :: c :: d :: e :: f :: g :: h :: L).Perm (b :: c :: d :: e :: f :: g :: h :: a :: L) := by
  have := (List.perm_append_comm (l₁ := [a]) (l₂ := [b, c, d, e, f, g, h])).append_right L
  simpa using this

/-- what Due answers -/
def DueR (G : Nat → Prop) (w0 : World) (L : List As) (now : Int) (l : List Ho) (e : Ending) (w' : World) : Prop := ∃ (vo : Value) (out : List Ho), e = .returned (.tuple #[vo, .int .i64 0]) ∧ IsDue now l out ∧ Sep G w0 w' (As.ownM 39 2 vo (hoV out) :: L)
theorem sep_drop8 {G : Nat → Prop} {w0 w : World} {A1 A2 A3 A4 A5 A6 A7 B : As} {L : List As} (h : Sep G w0 w (A1 :: A2 :: A3 :: A4 :: A5 :: A6 :: A7 :: B :: L)) : Sep G w0 w (A1 :: A2 :: A3 :: A4 :: A5 :: A6 :: A7 :: L) :=
  h.sub (List.cons_sublist_cons.2 (List.cons_sublist_cons.2 (List.cons_sublist_cons.2 (List.cons_sublist_cons.2 (List.cons_sublist_cons.2 (List.cons_sublist_cons.2 (List.cons_sublist_cons.2 (List.sublist_cons_self _ _))))))))
theorem sep_last {G : Nat → Prop} {w0 w : World} {A1 A2 A3 A4 A5 A6 B : As} {L : List As} (h : Sep G w0 w (A1 :: A2 :: A3 :: A4 :: A5 :: A6 :: B :: L)) : Sep G w0 w (B :: L) := h.tail.tail.tail.tail.tail.tail

set_option maxRecDepth 100000 in
set_option maxHeartbeats 2000000 in
theorem due_any {G : Nat → Prop} {w0 w : World} {L : List As} {q : Nat} {v : Value} {m n : Nat} {D : DataW Unit} {nx : Int} {gs : List Nat} {es : List En} {hb mh nh : Nat} {sn : Int} {Dh : DataW Unit} {now : Int} {l : List Ho} (hnow : 0 ≤ now) (hsn : 1 ≤ sn) (hgl : gs.length = es.length) (hh : IsHeap es es.length) (hp : (es.map toHo).Perm l) (hhd : ∀ e ∈ es, 1 ≤ e.h ∧ e.h ≤ 5000) (hnd : (l.map Ho.s).Nodup) (hdl : ∀ x ∈ l, 0 ≤ x.d) (hbd : ∀ x ∈ l, x.ok) (hl : l.length ≤ 4000) (H : Sep G w0 w (As.blk q 173 [v, lessV, .map (some m), .int .i64 nx] :: As.own 174 v (gs.map ptrV) :: entsA gs es :: As.map Tryz.prog 2 anyR m n D :: As.blk hb 118 [.int .i64 sn, ptrV q, .map (some mh)] :: As.map Tryz.prog 3 anyR mh nh Dh :: L)) :
    Calls Tryz.prog 25 #[ptrV hb, .int .i64 now] w (DueR G w0 L now l) := by
  obtain ⟨i0, ki, kz0, kz1, kz2⟩ := info_parts infoHo
  have HND := hide hnd
  have HDL := hide hdl
  have HBD := hide hbd
  have hl2 : (l.length : Int) ≤ 4000 := by omega
  have HF0 : Hid (DueI now l [] (es.map toHo) ∧ gs.length = es.length ∧ IsHeap es es.length ∧ (∀ e ∈ es, 1 ≤ e.h ∧ e.h ≤ 5000)) := hide ⟨⟨by rw [List.nil_append]; exact hp, (fun x hx => by cases hx), List.Pairwise.nil, (fun x hx => by cases hx)⟩, hgl, hh, hhd⟩
  obtain ⟨c0, -, -, cz⟩ := q3 (H.blk (g := hb) (e := 118) (cs := [.int .i64 sn, ptrV q, .map (some mh)]) (List.Mem.tail _ (List.Mem.tail _ (List.Mem.tail _ (List.Mem.tail _ (List.Mem.head _))))))
  have e1 : (sn == 0) = false := beq_eq_false_iff_ne.2 (by omega)
  have HS0 := hide ((H.nilM 39 2).perm (by
    have := (List.perm_append_comm (l₁ := [As.ownM 39 2 (.slice none 0 0) []]) (l₂ := [As.blk q 173 [v, lessV, .map (some m), .int .i64 nx], As.own 174 v (gs.map ptrV), entsA gs es, As.map Tryz.prog 2 anyR m n D, As.blk hb 118 [.int .i64 sn, ptrV q, .map (some mh)], As.map Tryz.prog 3 anyR mh nh Dh])).append_right L
    simpa using this))
  clear H hnd hdl hbd hp hgl hh hhd
  go_enter Tryz.func25, Tryz.ntmps25
  go_wp2_with fail
  clear c0 cz e1
  go_loopw [6] (fun v6 wr => ∃ (n nh : Nat) (v : Value) (D Dh : DataW Unit) (gs : List Nat) (es : List En) (out : List Ho), sLen v6 = out.length ∧ out.length ≤ l.length ∧ Hid (DueI now l out (es.map toHo) ∧ gs.length = es.length ∧ IsHeap es es.length ∧ (∀ e ∈ es, 1 ≤ e.h ∧ e.h ≤ 5000)) ∧ Hid (Sep G w0 wr (As.blk q 173 [v, lessV, .map (some m), .int .i64 nx] :: As.own 174 v (gs.map ptrV) :: entsA gs es :: As.map Tryz.prog 2 anyR m n D :: As.blk hb 118 [.int .i64 sn, ptrV q, .map (some mh)] :: As.map Tryz.prog 3 anyR mh nh Dh :: As.ownM 39 2 v6 (hoV out) :: L))) (fun v6 _ => l.length - sLen v6)
  case atStart => exact ⟨n, nh, v, D, Dh, gs, es, [], rfl, Nat.zero_le _, HF0, HS0⟩
  case round =>
    clear HF0 HS0
    obtain ⟨n, nh, v, D, Dh, gs, es, out, hsl, hol, HF, HS⟩ := hrel
    obtain ⟨c0, c1, c2, cz⟩ := q3 (HS.out.blk (g := hb) (e := 118) (cs := [.int .i64 sn, ptrV q, .map (some mh)]) (List.Mem.tail _ (List.Mem.tail _ (List.Mem.tail _ (List.Mem.tail _ (List.Mem.head _))))))
    have hlen : es.length ≤ l.length := by
      have := HF.out.1.p.length_eq
      rw [List.length_append, List.length_map] at this
      omega
    rcases Nat.eq_zero_or_pos es.length with h0 | h0
    · have hge : gs = [] := List.length_eq_zero_iff.1 (by rw [HF.out.2.1]; exact h0)
      have HPK := hide (peek_none hge HS.out)
      have HE : Hid (IsDue now l out) := hide (dueI_end HF.out.1 (fun x hx => by rw [List.length_eq_zero_iff.1 h0] at hx; cases hx))
      clear h0 hge hlen
      go_wp2_with fail
      (with_reducible refine HPK.out.mono ?_)
      rintro e w3 ⟨rfl, hx⟩
      have K3 := HS.out.ext hx
      clear hx HPK HS c0 c1 c2 cz
      have tok1 : True := trivial
      have tok2 : True := trivial
      go_wp2_with (first
        | (have zz := tok1; clear zz tok1; refine wpList_alS K3 rfl 39 rfl [.int .i64 0, .int .i64 0] (by kernel_rfl) ?_; intro w4 hz4 K4; clear hz4 K3)
        | (have zz := tok2; clear zz tok2; refine wpList_stS [] K4 rfl 39 (.tmp 8) (.tmp 32) rfl rfl (cs := [.int .i64 0, .int .i64 0]) rfl (by kernel_rfl) rfl (ho_one 0 0) ?_; intro w5 K5; dsimp only [List.nil_append] at K5; clear K4))
      go_ret2
      exact ⟨_, out, rfl, HE.out, sep_last K5.tail⟩
    obtain ⟨r, hr⟩ := some_of (l := es) (i := 0) h0
    obtain ⟨k, hk⟩ : ∃ k, es.length = k + 1 := ⟨es.length - 1, by omega⟩
    have hrm : toHo r ∈ l := HF.out.1.p.mem_iff.1 (List.mem_append_right _ (List.mem_map.2 ⟨r, List.mem_of_getElem? hr, rfl⟩))
    have hrd : 0 ≤ r.d := HDL.out _ hrm
    have hrk := HBD.out _ hrm
    have HPK := hide (peek_some HF.out.2.1 hr HS.out)
    have HR := hide hr
    have HK := hide hk
    have HLEN := hide hlen
    clear hr hk h0 hrm hlen
    go_wp2_with fail
    (with_reducible refine HPK.out.mono ?_)
    rintro e w3 ⟨rfl, hx⟩
    have K3 := HS.out.ext hx
    clear hx HPK HS c0 c1 c2 cz
    have tok1 : True := trivial
    have tok2 : True := trivial
    go_upto_region 9 with (first
      | (have zz := tok1; clear zz tok1; refine wpList_alS K3 rfl 39 rfl [.int .i64 0, .int .i64 0] (by kernel_rfl) ?_; intro w4 hz4 K4; clear hz4 K3)
      | (have zz := tok2; clear zz tok2; refine wpList_stS [] K4 rfl 39 (.tmp 8) (.tmp 32) rfl rfl (cs := [.int .i64 r.s, .int .i64 r.d]) rfl (by kernel_rfl) rfl (ho_one r.s r.d) ?_; intro w5 K5; dsimp only [List.nil_append] at K5; clear K4))
    obtain ⟨g8, G8⟩ : ∃ g, w3.heap.size = g := ⟨_, rfl⟩
    rw [G8] at K5 ⊢
    clear G8
    obtain ⟨b0, b1, bz⟩ := q2 (K5.blk (g := g8) (e := 39) (cs := [.int .i64 r.s, .int .i64 r.d]) (List.Mem.head _))
    have HPS := hide (passed_any r.d now hrd hnow w5)
    have KK := hide K5
    clear K5
    go_wp2_with fail
    (with_reducible refine HPS.out.mono ?_)
    rintro e w6 ⟨rfl, hx⟩
    have KK2 := hide (KK.out.ext hx)
    clear hx HPS KK b0 b1 bz
    by_cases hdn : r.d ≤ now
    rotate_left
    · rw [decide_eq_false hdn]
      have HE : Hid (IsDue now l out) := hide (dueI_end HF.out.1 (fun x hx => by
        obtain ⟨e, he, rfl⟩ := List.mem_map.1 hx
        obtain ⟨j, hj, rfl⟩ := List.getElem_of_mem he
        have := heap_root HF.out.2.2.1 HR.out j _ hj (List.getElem?_eq_getElem hj)
        unfold bef lessP at this
        unfold toHo
        dsimp only
        omega))
      clear hdn
      go_wp2_with fail
      go_ret2
      exact ⟨_, out, rfl, HE.out, sep_last KK2.out.tail⟩
    rw [decide_eq_true hdn]
    have HDN := hide hdn
    clear hdn
    have P1 := KK2.out.perm (perm18 _ _ _ _ _ _ _ _ _)
    have hrh := HF.out.2.2.2 r (List.mem_of_getElem? HR.out)
    have HPP := hide (qpop_any (by have := HF.out.2.1; have := HLEN.out; omega) HF.out.2.1 HK.out HR.out HF.out.2.2.1 ⟨by omega, by omega⟩ P1)
    obtain ⟨c0, c1, c2, cz⟩ := q3 (P1.blk (g := hb) (e := 118) (cs := [.int .i64 sn, ptrV q, .map (some mh)]) (List.Mem.tail _ (List.Mem.tail _ (List.Mem.tail _ (List.Mem.tail _ (List.Mem.head _))))))
    have hkI := Maps.keyOf_int_mk (P := Tryz.prog) Tryz.underlying3 (wf_i64' (x := r.s) hrk.s0 hrk.s1)
    clear P1 KK2 hrh hrk hrd
    go_wp2_with fail
    (with_reducible refine HPP.out.mono ?_)
    rintro e w7 ⟨rfl, v', gs', es', D', h1, h2, h3, h4⟩
    have H1 := hide h1
    have H2 := hide h2
    have H3 := hide h3
    clear h1 h2 h3 HPP c0 c1 c2 cz
    go_upto_region 13 with fail
    refine wp_region_wtR (RT.fr No) 6 [0, 1, 2, 3, 4, 5] (by kernel_rfl) (by kernel_rfl) (by kernel_rfl) ?_
    have KD := h4.drew
    clear h4
    generalize World.drew _ = wd at *
    obtain ⟨c0, c1, c2, cz⟩ := q3 (KD.blk (g := hb) (e := 118) (cs := [.int .i64 sn, ptrV q, .map (some mh)]) (List.Mem.tail _ (List.Mem.tail _ (List.Mem.tail _ (List.Mem.tail _ (List.Mem.head _))))))
    obtain ⟨b0, b1, bz⟩ := q2 (KD.blk (g := g8) (e := 39) (cs := [.int .i64 r.s, .int .i64 r.d]) (List.Mem.tail _ (List.Mem.tail _ (List.Mem.tail _ (List.Mem.tail _ (List.Mem.tail _ (List.Mem.tail _ (List.Mem.tail _ (List.Mem.head _)))))))))
    iterate 3 (refine wr_rd rfl rfl (fun K hK => ?_); go_simp; refine hK _ ?_; clear hK K)
    refine wr_ld1 rfl rfl 116 (.tmp 58) rfl rfl (fun w' h => Fr.cell h c2 (fun h => h)) _ Tryz.underlying116 rfl ?_
    iterate 1 (refine wr_rd rfl rfl (fun K hK => ?_); go_simp; refine hK _ ?_; clear hK K)
    refine wr_ld1 rfl rfl 3 (.tmp 60) rfl rfl (fun w' h => Fr.cell h b0 (fun h => h)) _ Tryz.underlying3 rfl ?_
    refine wr_nil ?_
    simp only [List.drop_succ_cons, List.drop_zero]
    clear c0 c1 c2 cz b0 b1 bz
    refine wpList_delS [_, _, _, _, _] KD rfl _ _ 116 rfl 2 lawI Tryz.underlying116 rfl _ _ rfl hkI ?_
    intro w8 K8
    dsimp only [List.nil_append, List.cons_append] at K8
    clear KD
    go_wp2_with fail
    refine NoPanic.normal ?_
    have HMANY : Hid ((hoV out).length < 100000) := hide (by rw [hoV_len]; omega)
    have tok3 : True := trivial
    have tok4 : True := trivial
    go_wp2_with (first
      | (have zz := tok3; clear zz tok3; refine wpList_ldS K8 (List.Mem.tail _ (List.Mem.tail _ (List.Mem.tail _ (List.Mem.tail _ (List.Mem.tail _ (List.Mem.tail _ (List.Mem.tail _ (List.Mem.head _)))))))) rfl 39 (.tmp 8) rfl rfl _ Tryz.underlying39 rfl (by kernel_rfl) ?_)
      | (have zz := tok4; clear zz tok4; refine wpList_pushM [_, _, _, _, _, _] K8 rfl (.tmp 62) (.tmp 64) 28 rfl i0 _ 16 Tryz.underlying28 ki kz0 kz1 kz2 rfl (by decide) rfl rfl (r := [.int .i64 r.s, .int .i64 r.d]) rfl (ho_one r.s r.d) HMANY.out (by decide) ?_; intro v6' w9 K9; dsimp only [List.nil_append, List.cons_append] at K9; clear K8))
    have hv : hoV out ++ [[.int .i64 r.s, .int .i64 r.d]] = hoV (out ++ [toHo r]) := by simp [hoV, toHo]
    rw [hv] at K9
    have hsl2 : sLen v6' = (out ++ [toHo r]).length := by
      obtain ⟨A', c', e', -⟩ := (K9.ownsM (e := 39) (k := 2) (v := v6') (rows := hoV (out ++ [toHo r])) (List.Mem.tail _ (List.Mem.tail _ (List.Mem.tail _ (List.Mem.tail _ (List.Mem.tail _ (List.Mem.tail _ (List.Mem.head _)))))))).form
      rw [e']
      show (hoV (out ++ [toHo r])).length = _
      rw [hoV_len]
    have HF2 : Hid (DueI now l (out ++ [toHo r]) (es'.map toHo) ∧ gs'.length = es'.length ∧ IsHeap es' es'.length ∧ (∀ e ∈ es', 1 ≤ e.h ∧ e.h ≤ 5000)) := hide (by
      obtain ⟨f1, f2, f3, f4⟩ := HF.out
      have hpm := H2.out.map toHo
      rw [List.map_append] at hpm
      have hnd2 : (es.map fun e => e.s).Nodup := by
        have h1 := (f1.p.map Ho.s).nodup_iff.2 HND.out
        rw [List.map_append, List.map_map] at h1
        exact (List.nodup_append.1 h1).2.1
      refine ⟨dueI_step f1 hpm HDN.out (fun y hy => ?_), ?_, H3.out, fun e he => f4 e (H2.out.mem_iff.1 (List.mem_append_left _ he))⟩
      · obtain ⟨e, he, rfl⟩ := List.mem_map.1 hy
        exact root_lt f3 HR.out H2.out hnd2 e he
      · have h5 := H2.out.length_eq
        rw [List.length_append, List.length_singleton, HK.out] at h5
        have := H1.out
        omega)
    have hol2 : (out ++ [toHo r]).length ≤ l.length := by
      have := HF2.out.1.p.length_eq
      rw [List.length_append] at this
      omega
    have HS2 := hide (sep_drop8 K9)
    clear K9 hv
    go_roundw
    case rel => exact ⟨n, nh, v', D', _, gs', es', out ++ [toHo r], hsl2, hol2, HF2, HS2⟩
    case measure =>
      rw [hsl2, hsl, List.length_append, List.length_singleton]
      rw [List.length_append, List.length_singleton] at hol2
      omega

end Go.Proofs.YtdmaephmkfmehaaGreatDoor
