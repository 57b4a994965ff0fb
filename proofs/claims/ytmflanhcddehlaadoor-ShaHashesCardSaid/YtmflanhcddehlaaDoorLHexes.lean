/- The law ShaHexes walked. -/
import Derived.Test.YtmflanhcddehlaaDoorS15
import Derived.Test.YtmflanhcddehlaaDoorS21
import Derived.Test.YtmflanhcddehlaaDoorFlat
import Derived.Test.YtmflanhcddehlaaDoorEqs
import Derived.Test.YtmflanhcddehlaaDoorLBlocks
namespace Go.Proofs.YtmflanhcddehlaaDoor
open Go.RowKit Go.Gr
set_option linter.unusedVariables false
attribute [local go_sem] rdOp rdAt rdUpon Cls
theorem hexd_hexv (c : Int) (h : 0 ≤ hexv c) : hexd (hexv c) = c := by
  unfold hexv at *; unfold hexd
  split at h
  · rw [if_pos (by omega)]; split <;> omega
  · split at h
    · rw [if_neg (by omega), if_neg (by omega), if_pos (by omega)]; omega
    · omega
theorem hexv_hexd' (d : Int) (h0 : 0 ≤ d) (h : d < 16) : hexv (hexd d) = d := by
  have := hexv_hexd d.toNat (by omega)
  rwa [Int.toNat_of_nonneg h0] at this
theorem hexB_getD (l : List Int) : ∀ (k : Nat), k < l.length → (hexB l).getD (2 * k) 0 = hexd (l.getD k 0 / 16) ∧ (hexB l).getD (2 * k + 1) 0 = hexd (l.getD k 0 % 16) := by
  induction l with
  | nil => intro k h; simp at h
  | cons x r ih =>
    intro k h
    have e : hexB (x :: r) = hexd (x / 16) :: hexd (x % 16) :: hexB r := rfl
    rw [e]
    cases k with
    | zero => simp
    | succ k =>
      have := ih k (by simpa using h)
      rw [show 2 * (k + 1) = 2 * k + 1 + 1 by omega, show 2 * k + 1 + 1 + 1 = (2 * k + 1) + 1 + 1 by omega]
      simpa using this
theorem nb_hexB (l : List Int) (hb : isB l) (k : Nat) (hk : k < l.length) : nb (hexB l) (2 * k) = l.getD k 0 / 16 ∧ nb (hexB l) (2 * k + 1) = l.getD k 0 % 16 := by
  have h := hexB_getD l k hk
  have hx := isB_at hb k
  unfold nb
  rw [h.1, h.2]
  exact ⟨hexv_hexd' _ (by omega) (by omega), hexv_hexd' _ (by omega) (by omega)⟩
theorem prs_hexB (l : List Int) (hb : isB l) : ∀ k, k ≤ l.length → prs (hexB l) k = l.take k
  | 0, _ => by simp [prs]
  | k + 1, h => by
    have e := nb_hexB l hb k (by omega)
    rw [prs, prs_hexB l hb k (by omega), e.1, e.2, take_next l k (by omega)]
    congr 2; omega
theorem okH_hexB (l : List Int) (hb : isB l) (hl : l.length = 32) : okH (hexB l) 64 = true := by
  rw [okH_iff]
  intro k hk
  have hx := isB_at hb (k / 2)
  have e := nb_hexB l hb (k / 2) (by omega)
  rcases (show k = 2 * (k / 2) ∨ k = 2 * (k / 2) + 1 by omega) with h | h
  · rw [h, e.1]; omega
  · rw [h, e.2]; omega
theorem parse_hex (l : List Int) (hb : isB l) (hl : l.length = 32) : parseV (hexB l) = l ∧ parseE (hexB l) = 0 := by
  have h1 : (hexB l).length = 64 := by rw [hexB_length, hl]
  have h2 := okH_hexB l hb hl
  unfold parseV parseE
  rw [if_pos ⟨h1, h2⟩, if_pos ⟨h1, h2⟩, prs_hexB l hb 32 (by omega), List.take_of_length_le (by omega)]
  exact ⟨rfl, rfl⟩
theorem hexB_prs (l : List Int) : ∀ k, 2 * k ≤ l.length → (∀ j < 2 * k, 0 ≤ nb l j) → hexB (prs l k) = l.take (2 * k)
  | 0, _, _ => by simp [prs, hexB]
  | k + 1, h, hv => by
    have h1 := hv (2 * k) (by omega)
    have h2 := hv (2 * k + 1) (by omega)
    have r1 := nb_range l (2 * k)
    have r2 := nb_range l (2 * k + 1)
    rw [prs, hexB_append, hexB_prs l k (by omega) (fun j hj => hv j (by omega)), show 2 * (k + 1) = 2 * k + 1 + 1 by omega, take_next l (2 * k + 1) (by omega), take_next l (2 * k) (by omega), List.append_assoc]
    congr 1
    have e1 : (16 * nb l (2 * k) + nb l (2 * k + 1)) / 16 = nb l (2 * k) := by omega
    have e2 : (16 * nb l (2 * k) + nb l (2 * k + 1)) % 16 = nb l (2 * k + 1) := by omega
    simp only [hexB, List.flatMap_cons, List.flatMap_nil, List.append_nil, e1, e2]
    unfold nb at *
    rw [hexd_hexv _ h1, hexd_hexv _ h2]; rfl
theorem sb_of (s : ByteArray) : strOfNums (sb s) = s := by
  apply ByteArray.ext
  have e : ((fun n : Int => UInt8.ofNat n.toNat) ∘ fun b : UInt8 => (b.toNat : Int)) = id := by
    funext b; simp
  simp [strOfNums, sb, e]
theorem of_sb (l : List Int) (hb : isB l) : sb (strOfNums l) = l := by
  simp only [sb, strOfNums_data, List.map_map]
  conv => rhs; rw [← List.map_id l]
  refine List.map_congr_left fun x hx => ?_
  have := hb x hx
  simp only [Function.comp, id]
  rw [UInt8.toNat_ofNat_of_lt' (by simp; omega)]
  omega
theorem hex_parse (s : ByteArray) (h : parseE (sb s) = 0) : strOfNums (hexB (parseV (sb s))) = s := by
  unfold parseE at h
  by_cases hc : (sb s).length = 64 ∧ okH (sb s) 64 = true
  · have := (okH_iff _ _).1 hc.2
    have e : parseV (sb s) = prs (sb s) 32 := by unfold parseV; rw [if_pos hc]
    rw [e, hexB_prs (sb s) 32 (by omega) (fun j hj => this j (by omega)), List.take_of_length_le (by omega), sb_of]
  · rw [if_neg hc] at h; omega
theorem hexB_isB (l : List Int) (hb : isB l) : isB (hexB l) := by
  intro x hx
  obtain ⟨y, hy, hx⟩ := List.mem_flatMap.1 hx
  have := hb y hy
  simp only [List.mem_cons, List.not_mem_nil, or_false] at hx
  rcases hx with rfl | rfl <;> (unfold hexd; split <;> omega)
theorem eql32 (l : List Int) (h : l.length = 32) (w : World) : (binOp .eql 32 (.agg (byt l).toArray) (.agg (byt l).toArray)).run Tryd.prog w = .ok (.bool true) w := by
  have := run_eql_ints (P := Tryd.prog) Tryd.underlying32 Tryd.underlying5 (by kernel_rfl) (by kernel_rfl) l l h h w
  rwa [beq_self_eq_true] at this
theorem neq32 (l : List Int) (h : l.length = 32) (w : World) : (binOp .neq 32 (.agg (byt l).toArray) (.agg (byt l).toArray)).run Tryd.prog w = .ok (.bool false) w := by
  have := run_neq_ints (P := Tryd.prog) Tryd.underlying32 Tryd.underlying5 (by kernel_rfl) (by kernel_rfl) l l h h w
  rwa [beq_self_eq_true] at this
theorem parse_hexs (l : List Int) (hb : isB l) (hl : l.length = 32) (w : World) : Calls Tryd.prog 32 #[.string (strOfNums (hexB l))] w fun e w' => e = .returned (.tuple #[.agg (byt l).toArray, .int .i64 0]) ∧ Ext w w' := by
  have h := parse_any (strOfNums (hexB l)) w
  rw [of_sb _ (hexB_isB l hb), (parse_hex l hb hl).1, (parse_hex l hb hl).2] at h
  exact h
theorem prs_isB (l : List Int) : ∀ k, (∀ j < 2 * k, 0 ≤ nb l j) → isB (prs l k)
  | 0, _ => fun x hx => by simp [prs] at hx
  | k + 1, h => fun x hx => by
    rw [prs, List.mem_append, List.mem_singleton] at hx
    rcases hx with hx | rfl
    · exact prs_isB l k (fun j hj => h j (by omega)) x hx
    · have h1 := h (2 * k) (by omega)
      have h2 := h (2 * k + 1) (by omega)
      have r1 := nb_range l (2 * k)
      have r2 := nb_range l (2 * k + 1)
      omega
theorem parseV_isB (l : List Int) : isB (parseV l) := by
  unfold parseV
  split
  · rename_i h
    exact prs_isB l 32 (fun j hj => (okH_iff _ _).1 h.2 j (by omega))
  · intro x hx; simp [zr] at hx; omega
theorem parseE_two (l : List Int) : parseE l = 0 ∨ parseE l = 6 := by unfold parseE; split <;> simp
set_option maxHeartbeats 4000000 in
theorem hexes_law (w : World) (hl : Laid w) (v0 : Value) (h0 : ∃ cs, v0 = .agg cs ∧ Lvs Tryd.prog w (List.replicate 32 (.int .u8)) cs.toList) (s : ByteArray) (hs : s.size ≤ maxLen) :
    Calls Tryd.prog 11 #[v0, .string s] w fun e w' => e = .returned (.bool true) ∧ Ext w w' := by
  unfold maxLen at hs
  have HL := hide hl
  obtain ⟨d, rfl, hd, hdb⟩ := u8_arg h0
  clear hl h0
  by_cases hlt : 200 < s.size
  · have hlt' : decide ((200 : Int) < (s.size : Int)) = true := by simp; omega
    go_enter Tryd.func11, Tryd.ntmps11
    go_wp2_with fail
    (with_reducible refine (shown_any _ (HL.out.ext ((Ext.refl w).alloc _))).mono ?_)
    rintro e w1 ⟨rfl, hx1⟩
    go_wp2_with fail
    go_ret
    exact ⟨rfl, ((Ext.refl w).alloc _).trans hx1⟩
  · have hlt' : decide ((200 : Int) < (s.size : Int)) = false := by simp; omega
    have HDL : Hid ((byt d).length = 32) := hide (by rw [byt_length]; exact hd)
    have HC1 := hide (fun x => parse_any s x)
    have HC2 := hide (fun x => rparse_any s x)
    have HC3 := hide (fun x => hex_any d x hd hdb)
    have HC4 := hide (fun x => rhex_any d x hd hdb)
    have HC5 := hide (fun x => parse_hexs d hdb hd x)
    have hpl := parseV_length (sb s)
    have HC6 := hide (fun x => hex_any (parseV (sb s)) x hpl (parseV_isB _))
    have HE : Hid (parseE (sb s) = 0 ∧ ((strOfNums (hexB (parseV (sb s)))).toList == s.toList) = true ∨ parseE (sb s) = 6) := hide (by
      rcases parseE_two (sb s) with h | h
      · exact .inl ⟨h, by rw [hex_parse s h]; exact beq_self_eq_true _⟩
      · exact .inr h)
    generalize parseV (sb s) = pv at *
    generalize parseE (sb s) = pe at *
    have HPL : Hid ((byt pv).length = 32) := hide (by rw [byt_length]; exact hpl)
    have e1 := eql32 d hd
    have e2 := neq32 pv hpl
    generalize hexB pv = ph at *
    generalize hexB d = dh at *
    clear hd hdb hpl
    go_enter Tryd.func11, Tryd.ntmps11
    go_wp2_with fail
    have HB0 : Hid (Blk (w.alloc (.cells (byt d).toArray 32)) w.heap.size 32 (byt d)) := hide (Blk.new _ _ _)
    have HX0 : Hid (Ext w (w.alloc (.cells (byt d).toArray 32))) := hide ((Ext.refl w).alloc _)
    (with_reducible refine (HC1.out _).mono ?_)
    rintro e w1 ⟨rfl, hx1⟩
    have HB1 := hide (HB0.out.ext hx1)
    have HX1 := hide (HX0.out.trans hx1)
    have hs1 := HB1.out.lt
    clear hx1 HB0 HX0
    have HN1 : Hid (Blk (w1.alloc (.cells (Z8 32).toArray 32)) w1.heap.size 32 (Z8 32)) := hide (Blk.new _ _ _)
    go_wp2_with (refine wpList_storeH rfl 32 (.tmp 5) (.tmp 17) (cs := byt pv) rfl HN1.out rfl rfl (by rw [HPL.out]; kernel_rfl) (by rw [HPL.out]; rfl) (byt_one _) ?_; intro w2 hb2 hu2; have HB2 := hide ((HB1.out.alloc _).upd hu2 (by omega)); have HP2 := hide hb2; have HX2 : Hid (Ext w w2) := hide (Upd.new (HX1.out.alloc _) HX1.out.size hu2); clear hb2 hu2)
    (with_reducible refine (HC2.out _).mono ?_)
    rintro e w3 ⟨rfl, hx3⟩
    have HB3 := hide (HB2.out.ext hx3)
    have HP3 := hide (HP2.out.ext hx3)
    have HX3 := hide (HX2.out.trans hx3)
    have hs3 := HB3.out.lt
    have hs3' := HP3.out.lt
    clear hx3 HB1 HB2 HP2
    have HN3 : Hid (Blk (w3.alloc (.cells (Z8 32).toArray 32)) w3.heap.size 32 (Z8 32)) := hide (Blk.new _ _ _)
    go_wp2_with (refine wpList_storeH rfl 32 (.tmp 7) (.tmp 22) (cs := byt pv) rfl HN3.out rfl rfl (by rw [HPL.out]; kernel_rfl) (by rw [HPL.out]; rfl) (byt_one _) ?_; intro w4 hb4 hu4; have HB4 := hide ((HB3.out.alloc _).upd hu4 (by omega)); have HP4 := hide ((HP3.out.alloc _).upd hu4 (by omega)); have HR4 := hide hb4; have HX4 : Hid (Ext w w4) := hide (Upd.new (HX3.out.alloc _) HX3.out.size hu4); clear hb4 hu4)
    refine wp_region_wm [0, 2, 1, 3, 4, 5, 6, 7, 8, 9, 10, 11, 12, 13, 14] (by kernel_rfl) (by kernel_rfl) (by kernel_rfl) (by kernel_rfl) ?_
    have HBd := hide HB4.out.drew
    have HPd := hide HP4.out.drew
    have HRd := hide HR4.out.drew
    have HXd := hide HX4.out.drew
    generalize w4.drew = wd at *
    refine wm_loadB rfl rfl 32 (.tmp 2) rfl HBd.out rfl _ Tryd.underlying32 rfl (by rw [HDL.out]; kernel_rfl) ?_
    refine wm_loadB rfl rfl 32 (.tmp 2) rfl HBd.out rfl _ Tryd.underlying32 rfl (by rw [HDL.out]; kernel_rfl) ?_
    refine wm_ext rfl rfl (fun K hK => ?_)
    go_simp
    go_at_call 34
    (with_reducible refine (HC3.out _).mono ?_)
    rintro e w5 ⟨rfl, hx5⟩
    refine hK _ _ hx5 ?_
    clear hK K
    refine wm_ext rfl rfl (fun K hK => ?_)
    go_simp
    go_at_call 35
    (with_reducible refine (HC4.out _).mono ?_)
    rintro e w6 ⟨rfl, hx6⟩
    refine hK _ _ hx6 ?_
    clear hK K
    have HB6 := hide (HBd.out.ext (hx5.trans hx6))
    have HP6 := hide (HPd.out.ext (hx5.trans hx6))
    have HR6 := hide (HRd.out.ext (hx5.trans hx6))
    have HX6 := hide (HXd.out.trans (hx5.trans hx6))
    clear hx5 hx6 HBd HPd HRd HXd
    iterate 2 (refine wm_rd rfl rfl (fun K hK => ?_); go_simp; refine hK _ ?_; clear hK K)
    refine wm_loadBG rfl rfl 32 (.tmp 5) rfl HP6.out rfl _ Tryd.underlying32 rfl (by rw [HPL.out]; kernel_rfl) ?_
    refine wm_loadBG rfl rfl 32 (.tmp 7) rfl HR6.out rfl _ Tryd.underlying32 rfl (by rw [HPL.out]; kernel_rfl) ?_
    iterate 7 (refine wm_rd rfl rfl (fun K hK => ?_); go_simp; refine hK _ ?_; clear hK K)
    refine wm_nil ?_
    go_wp2_with (refine wpList_loadB rfl 32 (.tmp 2) rfl HB6.out rfl _ Tryd.underlying32 rfl (by rw [HDL.out]; kernel_rfl) ?_)
    (with_reducible refine (HC3.out _).mono ?_)
    rintro e w7 ⟨rfl, hx7⟩
    go_wp2_with fail
    (with_reducible refine (HC5.out _).mono ?_)
    rintro e w8 ⟨rfl, hx8⟩
    have HB8 := hide (HB6.out.ext (hx7.trans hx8))
    have HP8 := hide (HP6.out.ext (hx7.trans hx8))
    have HX8 := hide (HX6.out.trans (hx7.trans hx8))
    have hs8 := HB8.out.lt
    have hs8' := HP8.out.lt
    clear hx7 hx8
    have HN8 : Hid (Blk (w8.alloc (.cells (Z8 32).toArray 32)) w8.heap.size 32 (Z8 32)) := hide (Blk.new _ _ _)
    rcases HE.out with ⟨he, hf⟩ | he
    all_goals
      have HEE := hide he
      subst he
      go_wp2_with (first
        | (refine wpList_storeH rfl 32 (.tmp 9) (.tmp 43) (cs := byt d) rfl HN8.out rfl rfl (by rw [HDL.out]; kernel_rfl) (by rw [HDL.out]; rfl) (byt_one _) ?_; intro w9 hb9 hu9; have HB9 := hide ((HB8.out.alloc _).upd hu9 (by omega)); have HP9 := hide ((HP8.out.alloc _).upd hu9 (by omega)); have HR9 := hide hb9; have HX9 : Hid (Ext w w9) := hide (Upd.new (HX8.out.alloc _) HX8.out.size hu9); clear hb9 hu9)
        | (refine wpList_loadBG rfl 32 (.tmp 9) rfl HR9.out rfl _ Tryd.underlying32 rfl (by rw [HDL.out]; kernel_rfl) ?_)
        | (refine wpList_loadBG rfl 32 (.tmp 2) rfl HB9.out rfl _ Tryd.underlying32 rfl (by rw [HDL.out]; kernel_rfl) ?_)
        | (refine wpList_loadBG rfl 32 (.tmp 5) rfl HP9.out rfl _ Tryd.underlying32 rfl (by rw [HPL.out]; kernel_rfl) ?_))
      try
        ((with_reducible refine (HC6.out _).mono ?_)
         rintro e wA ⟨rfl, hxA⟩
         have HXA := hide (HX9.out.trans hxA)
         clear hxA HX9
         have HX9 := HXA
         go_wp2_with fail)
      (with_reducible refine (shown_any _ (HL.out.ext HX9.out)).mono ?_)
      rintro e wB ⟨rfl, hxB⟩
      go_wp2_with fail
      go_ret
      exact ⟨rfl, HX9.out.trans hxB⟩
end Go.Proofs.YtmflanhcddehlaaDoor
