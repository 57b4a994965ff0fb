/- Seats: which ticket a call has, and the tickets that were returned. -/
import Derived.Test.YtcmpkpldihnklaaD1
import Derived.Test.YtcmpkpldihnklaaRowM
import Derived.Outline
namespace Go.Proofs.Ytcmpkpldihnklaa
open Go.RowKit Go.Gr Go.Seat
set_option linter.unusedVariables false
set_option linter.unusedSimpArgs false
attribute [local go_sem] rdOp rdAt rdUpon Cls
abbrev OwnT (w : World) (v : Value) (l : List Ti) : Prop := OwnM w 28 4 v (l.map tc)
def withS (x : Ca) (l : List Ti) : Ti := if x.old = true ∧ 0 < l.length then l.getD (x.which % (l.length : Int)).toNat x.t else x.t
theorem OwnT.form {w : World} {v : Value} {l : List Ti} (h : OwnT w v l) : ∃ A c, v = .slice A l.length c ∧ l.length ≤ c ∧ (∀ ad, A = some ad → ∃ g, ad = ⟨g, 0, none⟩) ∧
    (∀ k (hk : k < l.length), ∃ g, A = some ⟨g, 0, none⟩ ∧ w.cell? ⟨g, k * 4, none⟩ = some (.int .u32 l[k].seat) ∧ w.cell? ⟨g, k * 4 + 1, none⟩ = some (.int .u32 l[k].own) ∧ w.cell? ⟨g, k * 4 + 2, none⟩ = some (.int .u64 l[k].ser) ∧ w.cell? ⟨g, k * 4 + 3, none⟩ = some (.int .u64 l[k].ep)) := by
  obtain ⟨A, c, rfl, hr, hc, hA⟩ := OwnM.form h
  refine ⟨A, c, by rw [List.length_map], by simpa using hc, hA, fun k hk => ?_⟩
  have hrow : (l.map tc)[k]? = some (tc l[k]) := by rw [List.getElem?_map, List.getElem?_eq_getElem hk]; rfl
  obtain ⟨b, off, e, hcell⟩ := hr.at_ (fun r hr => by obtain ⟨t, _, rfl⟩ := List.mem_map.1 hr; simp) hrow
  obtain ⟨g, e2⟩ := hA _ e
  cases e2
  refine ⟨b, e, ?_, ?_, ?_, ?_⟩
  · have := hcell 0 _ rfl; simpa using this
  · have := hcell 1 _ rfl; simpa using this
  · have := hcell 2 _ rfl; simpa using this
  · have := hcell 3 _ rfl; simpa using this
set_option maxHeartbeats 1000000 in
theorem with_any (x : Ca) (l : List Ti) (v : Value) (w : World) (hx : x.ok) (h : OwnT w v l) (hl : l.length < 100000) : Calls Try.prog 20 #[xv x, v] w fun e w' => e = .returned (tv (withS x l)) ∧ Ext w w' := by
  obtain ⟨A, c, rfl, hc, hA, hcell⟩ := OwnT.form h
  have hw := hx.which
  cases hold : x.old
  · have E : Hid (withS x l = x.t) := hide (by unfold withS; rw [if_neg (by simp [hold])])
    rw [show xv x = .agg #[.int .u8 x.what, .int .u32 x.own, .int .u32 x.to, .int .i64 x.at_, .bool false, .int .u8 x.which, .int .u32 x.t.seat, .int .u32 x.t.own, .int .u64 x.t.ser, .int .u64 x.t.ep] by rw [← hold]]
    clear hcell hA h hold
    go_enter Try.func20, Try.ntmps20
    go_wp2_with fail
    refine bodyPost_ret (v := tv x.t) (by simp [results, Try.results20, go_sem]) rfl ?_
    rw [E.out]
    exact ⟨rfl, ((Ext.refl _).alloc _).alloc _⟩
  · rw [show xv x = .agg #[.int .u8 x.what, .int .u32 x.own, .int .u32 x.to, .int .i64 x.at_, .bool true, .int .u8 x.which, .int .u32 x.t.seat, .int .u32 x.t.own, .int .u64 x.t.ser, .int .u64 x.t.ep] by rw [← hold]]
    by_cases h0 : l.length = 0
    · have E : Hid (withS x l = x.t) := hide (by unfold withS; rw [if_neg (by omega)])
      rw [h0]
      clear hcell hA h hold h0
      go_enter Try.func20, Try.ntmps20
      go_wp2_with fail
      refine bodyPost_ret (v := tv x.t) (by simp [results, Try.results20, go_sem]) rfl ?_
      rw [E.out]
      exact ⟨rfl, ((Ext.refl _).alloc _).alloc _⟩
    · have hk0 := Int.emod_nonneg x.which (show (l.length : Int) ≠ 0 by omega)
      have hk1 := Int.emod_lt_of_pos x.which (show (0 : Int) < l.length by omega)
      have hk2 : (x.which % (l.length : Int)).toNat < l.length := by omega
      obtain ⟨g, rfl, c0, c1, c2, c3⟩ := hcell _ hk2
      have E : Hid (withS x l = l[(x.which % (l.length : Int)).toNat]) := hide (by unfold withS; rw [if_pos ⟨hold, by omega⟩, List.getD_eq_getElem?_getD, List.getElem?_eq_getElem hk2]; rfl)
      have hd : decide (0 < l.length) = true := by simp; omega
      have hg : g < w.heap.size := cell_lt c0
      obtain ⟨u, HU⟩ : ∃ u, Hid (l[(x.which % (l.length : Int)).toNat] = u) := ⟨_, hide rfl⟩
      rw [HU.out] at c0 c1 c2 c3
      have hpos : 1 ≤ l.length := by omega
      clear hcell hA h hold h0
      go_enter Try.func20, Try.ntmps20
      go_wp2_with fail
      refine bodyPost_ret (v := tv u) (by simp [results, Try.results20, go_sem]) rfl ?_
      rw [E.out, HU.out]
      exact ⟨rfl, ((Ext.refl _).alloc _).alloc _⟩
theorem infoT : (Try.prog.info? 28).map (fun i => (i.zero, i.size, i.bytes)) = some (some (.agg #[.int .u32 0, .int .u32 0, .int .u64 0, .int .u64 0]), 4, 24) := by kernel_rfl
theorem gs_of {s : Se} (h : inE s 2 = 0) : good s ∧ s.st = 2 := by
  unfold inE at h
  by_cases hg : good s
  · rw [if_neg (not_not_intro hg)] at h
    by_cases h2 : s.st = 2
    · exact ⟨hg, h2⟩
    · rw [if_neg h2] at h; cases h
  · rw [if_pos hg] at h; cases h
/-- the tickets go on: a slice of the call's own -/
def RetL (w : World) (v : Value) (l : List Ti) (e : Ending) (w' : World) : Prop := ∃ v', e = .returned v' ∧ OwnT w' v' l ∧ Grew w w' v v'
set_option maxHeartbeats 1000000 in
theorem tickets_any (s : Se) (l : List Ti) (v : Value) (w : World) (h : OwnT w v l) (hl : l.length < 10000) : Calls Try.prog 21 #[sv s, v] w (RetL w v (ticketsS s l)) := by
  obtain ⟨i0, hi, hz0, hz1, hz2⟩ := info_parts infoT
  obtain ⟨A, c, rfl, hc, hA, hcell⟩ := OwnT.form h
  have HO := hide h
  by_cases h2 : inE s 2 = 0
  · have ht := ticket_2 (n := 1) h2
    by_cases h0 : l.length = 0
    · have E : Hid (ticketsS s l = l ++ [tk s]) := hide (by
        have : l = [] := List.eq_nil_of_length_eq_zero h0
        subst this
        unfold ticketsS; rw [if_pos (gs_of h2), if_neg (by simp)])
      have HT := hide ht
      have hl0 : l.length < 100000 := by omega
      rw [h0] at HO ⊢
      clear hcell hA h ht h2 h0
      go_enter Try.func21, Try.ntmps21
      go_wp2_with fail
      (with_reducible refine (ticket_any _ _ _).mono ?_)
      rintro e w1 ⟨rfl, hx1⟩
      rw [HT.out]
      have HX := hide (((Ext.refl w).alloc (.cells (sc s).toArray 26)).trans hx1)
      clear hx1
      go_wp2_with fail
      have H6 := (Sep.refl No w1).newB ((Ext.refl w1).alloc (.cells (tc ⟨1, s.own, s.ser, s.ep⟩).toArray 28)) (Blk.new w1 28 (tc ⟨1, s.own, s.ser, s.ep⟩)) (Nat.le_refl _)
      refine wp_region_wm [0, 1, 2, 3, 4, 5, 6, 7, 8, 9, 10, 11, 12, 13, 14, 15, 16] (by kernel_rfl) (by kernel_rfl) (by kernel_rfl) (by kernel_rfl) ?_
      have H7 := H6.drew
      have HX7 : Hid (Ext w1 (w1.alloc (.cells (tc ⟨1, s.own, s.ser, s.ep⟩).toArray 28)).drew) := hide ((Ext.refl _).alloc _).drew
      clear H6
      generalize (World.alloc _ _).drew = wd at *
      iterate 17 (refine wm_rd rfl rfl (fun K hK => ?_); go_simp; refine hK _ ?_; clear hK K)
      refine wm_nil ?_
      have HO8 := hide (HO.out.ext (HX.out.trans HX7.out))
      obtain ⟨d0, d1, d2, d3, df, ds⟩ := cells4 (H7.blk (.head _))
      clear H7
      go_wp2_with ((refine wpList_apM rfl (.tmp 30) (.tmp 32) 43 rfl 28 i0 _ 4 24 Try.underlying43 hi hz0 hz1 hz2 rfl (by decide) rfl (HO8.out.ext ((Ext.refl wd).alloc (.cells (tc (tk s)).toArray 28))) (r := tc (tk s)) rfl rfl (Blk.rd (Blk.new wd 28 (tc (tk s)))) (by simp [Value.oneCell']) (by simp; omega) (by omega) ?_); intro v' w3 hO3 hG3)
      go_ret
      rw [E.out]
      refine ⟨_, rfl, ?_, ?_⟩
      · show OwnM _ _ _ _ _
        rw [List.map_append]; exact hO3
      · exact Grew.ext_left ((HX.out.trans HX7.out).trans ((Ext.refl wd).alloc _)) hG3
    · have hpos : 1 ≤ l.length := by omega
      have hlt : l.length - 1 < l.length := by omega
      have hrow : (l.map tc)[l.length - 1]? = some (tc l[l.length - 1]) := by rw [List.getElem?_map, List.getElem?_eq_getElem hlt]; rfl
      obtain ⟨g, c', hv, hc', h5⟩ := OwnM.at5 h (by omega) hrow
      rw [List.length_map] at hv
      cases hv
      have hd : decide (0 < l.length) = true := by simp; omega
      obtain ⟨u, HU⟩ : ∃ u, Hid (l[l.length - 1] = u) := ⟨_, hide rfl⟩
      rw [HU.out] at h5
      by_cases hu : u = tk s
      · have hls : l.getLast? = some (tk s) := by rw [List.getLast?_eq_getElem?, List.getElem?_eq_getElem hlt, HU.out, hu]
        have E : Hid (ticketsS s l = l) := hide (by unfold ticketsS; rw [if_pos (gs_of h2), if_pos hls])
        rw [hu, show tk s = ⟨1, s.own, s.ser, s.ep⟩ from rfl] at h5
        clear hls hu HU
        have HT := hide ht
        have H5 := hide h5
        clear hcell hA h ht h2 h0 h5 hrow
        go_enter Try.func21, Try.ntmps21
        go_wp2_with fail
        (with_reducible refine (ticket_any _ _ _).mono ?_)
        rintro e w1 ⟨rfl, hx1⟩
        rw [HT.out]
        have HX := hide (((Ext.refl w).alloc (.cells (sc s).toArray 26)).trans hx1)
        clear hx1
        go_wp2_with fail
        have H6 := (Sep.refl No w1).newB ((Ext.refl w1).alloc (.cells (tc ⟨1, s.own, s.ser, s.ep⟩).toArray 28)) (Blk.new w1 28 (tc ⟨1, s.own, s.ser, s.ep⟩)) (Nat.le_refl _)
        refine wp_region_wm [0, 1, 2, 3, 4, 5, 6, 7, 8, 9, 10, 11, 12, 13, 14, 15, 16] (by kernel_rfl) (by kernel_rfl) (by kernel_rfl) (by kernel_rfl) ?_
        have H7 := H6.drew
        have HX7 : Hid (Ext w1 (w1.alloc (.cells (tc ⟨1, s.own, s.ser, s.ep⟩).toArray 28)).drew) := hide ((Ext.refl _).alloc _).drew
        clear H6
        generalize (World.alloc _ _).drew = wd at *
        have hw1 : IntKind.i64.wrap ((l.length : Int) - 1) = (l.length : Int) - 1 := by rw [IntKind.wrap_i64]; omega
        have hw2 : ((l.length : Int) - 1).toNat = l.length - 1 := by omega
        have hw3 : (1 : Int) ≤ (l.length : Int) := by omega
        have hw4 : (l.length : Int) - 1 < (l.length : Int) := by omega
        iterate 12 (refine wm_rd rfl rfl (fun K hK => ?_); go_simp; refine hK _ ?_; clear hK K)
        refine wm_ldX rfl rfl 28 (.tmp 23) rfl (H5.out.ext (HX.out.trans HX7.out)) rfl _ Try.underlying28 rfl (by kernel_rfl) ?_
        refine wm_ldS H7 (.head _) rfl rfl 28 (.tmp 5) rfl rfl _ Try.underlying28 rfl (by kernel_rfl) ?_
        iterate 3 (refine wm_rd rfl rfl (fun K hK => ?_); go_simp; refine hK _ ?_; clear hK K)
        refine wm_nil ?_
        clear hw1 hw2 hw3 hw4
        have HX8 := hide H7.toExt
        clear H7
        go_wp2_with fail
        go_ret
        rw [E.out]
        exact ⟨_, rfl, HO.out.ext (HX.out.trans HX7.out), Grew.same (HX.out.trans HX7.out)⟩
      · have hls : ¬ l.getLast? = some (tk s) := by rw [List.getLast?_eq_getElem?, List.getElem?_eq_getElem hlt, HU.out]; simpa using hu
        have E : Hid (ticketsS s l = l ++ [tk s]) := hide (by unfold ticketsS; rw [if_pos (gs_of h2), if_neg hls])
        have HN : Hid (¬ (u.seat = 1 ∧ u.own = s.own ∧ u.ser = s.ser ∧ u.ep = s.ep)) := hide (by
          rintro ⟨h1, h3, h4, h6⟩
          apply hu
          obtain ⟨a, b, c, d⟩ := u
          simp only [tk] at *
          rw [h1, h3, h4, h6])
        clear hls hu HU
        have HT := hide ht
        have H5 := hide h5
        clear hcell hA h ht h2 h0 h5 hrow
        go_enter Try.func21, Try.ntmps21
        go_wp2_with fail
        (with_reducible refine (ticket_any _ _ _).mono ?_)
        rintro e w1 ⟨rfl, hx1⟩
        rw [HT.out]
        have HX := hide (((Ext.refl w).alloc (.cells (sc s).toArray 26)).trans hx1)
        clear hx1
        go_wp2_with fail
        have H6 := (Sep.refl No w1).newB ((Ext.refl w1).alloc (.cells (tc ⟨1, s.own, s.ser, s.ep⟩).toArray 28)) (Blk.new w1 28 (tc ⟨1, s.own, s.ser, s.ep⟩)) (Nat.le_refl _)
        refine wp_region_wm [0, 1, 2, 3, 4, 5, 6, 7, 8, 9, 10, 11, 12, 13, 14, 15, 16] (by kernel_rfl) (by kernel_rfl) (by kernel_rfl) (by kernel_rfl) ?_
        have H7 := H6.drew
        have HX7 : Hid (Ext w1 (w1.alloc (.cells (tc ⟨1, s.own, s.ser, s.ep⟩).toArray 28)).drew) := hide ((Ext.refl _).alloc _).drew
        clear H6
        generalize (World.alloc _ _).drew = wd at *
        have hw1 : IntKind.i64.wrap ((l.length : Int) - 1) = (l.length : Int) - 1 := by rw [IntKind.wrap_i64]; omega
        have hw2 : ((l.length : Int) - 1).toNat = l.length - 1 := by omega
        have hw3 : (1 : Int) ≤ (l.length : Int) := by omega
        have hw4 : (l.length : Int) - 1 < (l.length : Int) := by omega
        iterate 12 (refine wm_rd rfl rfl (fun K hK => ?_); go_simp; refine hK _ ?_; clear hK K)
        refine wm_ldX rfl rfl 28 (.tmp 23) rfl (H5.out.ext (HX.out.trans HX7.out)) rfl _ Try.underlying28 rfl (by kernel_rfl) ?_
        refine wm_ldS H7 (.head _) rfl rfl 28 (.tmp 5) rfl rfl _ Try.underlying28 rfl (by kernel_rfl) ?_
        refine wm_rd rfl rfl (fun K hK => ?_); go_simp
        refine ⟨.bool false, fun a => ?_, hK _ ?_⟩
        · have hne := HN.out
          by_cases e1 : u.seat = 1 <;> by_cases e2 : u.own = s.own <;> by_cases e3 : u.ser = s.ser <;> by_cases e4 : u.ep = s.ep <;> simp [e1, e2, e3, e4]
          exact hne ⟨e1, e2, e3, e4⟩
        clear hK K
        iterate 2 (refine wm_rd rfl rfl (fun K hK => ?_); go_simp; refine hK _ ?_; clear hK K)
        refine wm_nil ?_
        clear hw1 hw2 hw3 hw4
        have HO8 := hide (HO.out.ext (HX.out.trans HX7.out))
        obtain ⟨d0, d1, d2, d3, df, ds⟩ := cells4 (H7.blk (.head _))
        clear H7
        go_wp2_with ((refine wpList_apM rfl (.tmp 30) (.tmp 32) 43 rfl 28 i0 _ 4 24 Try.underlying43 hi hz0 hz1 hz2 rfl (by decide) rfl (HO8.out.ext ((Ext.refl wd).alloc (.cells (tc (tk s)).toArray 28))) (r := tc (tk s)) rfl rfl (Blk.rd (Blk.new wd 28 (tc (tk s)))) (by simp [Value.oneCell']) (by simp; omega) (by omega) ?_); intro v' w3 hO3 hG3)
        go_ret
        rw [E.out]
        refine ⟨_, rfl, ?_, ?_⟩
        · show OwnM _ _ _ _ _
          rw [List.map_append]; exact hO3
        · exact Grew.ext_left ((HX.out.trans HX7.out).trans ((Ext.refl wd).alloc _)) hG3
  · have E : Hid (ticketsS s l = l) := hide (by
      unfold ticketsS; rw [if_neg]
      rintro ⟨hg, h3⟩
      exact h2 (by unfold inE; rw [if_neg (not_not_intro hg), if_pos h3]))
    have ht := ticket_1 (n := 1) h2
    have HT := hide ht
    have hne : (inE s 2 != 0) = true := by simpa using h2
    clear hcell hA h ht h2
    go_enter Try.func21, Try.ntmps21
    go_wp2_with fail
    (with_reducible refine (ticket_any _ _ _).mono ?_)
    rintro e w1 ⟨rfl, hx1⟩
    rw [HT.out]
    have HX := hide (((Ext.refl w).alloc (.cells (sc s).toArray 26)).trans hx1)
    clear hx1
    go_wp2_with fail
    have H6 := (Sep.refl No w1).newB ((Ext.refl w1).alloc (.cells (tc ⟨0, 0, 0, 0⟩).toArray 28)) (Blk.new w1 28 (tc ⟨0, 0, 0, 0⟩)) (Nat.le_refl _)
    refine wp_region_wm [0, 1, 2, 3, 4, 5, 6, 7, 8, 9, 10, 11, 12, 13, 14, 15, 16] (by kernel_rfl) (by kernel_rfl) (by kernel_rfl) (by kernel_rfl) ?_
    have H7 := H6.drew
    have HX7 : Hid (Ext w1 (w1.alloc (.cells (tc ⟨0, 0, 0, 0⟩).toArray 28)).drew) := hide ((Ext.refl _).alloc _).drew
    clear H6
    generalize (World.alloc _ _).drew = wd at *
    iterate 17 (refine wm_rd rfl rfl (fun K hK => ?_); go_simp; refine hK _ ?_; clear hK K)
    refine wm_nil ?_
    clear H7
    go_wp2_with fail
    go_ret
    rw [E.out]
    exact ⟨_, rfl, HO.out.ext (HX.out.trans HX7.out), Grew.same (HX.out.trans HX7.out)⟩
end Go.Proofs.Ytcmpkpldihnklaa
