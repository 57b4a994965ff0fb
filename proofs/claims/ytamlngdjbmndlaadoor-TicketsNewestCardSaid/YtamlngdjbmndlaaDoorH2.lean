/- Hmac: the walk of Equal. -/
import Derived.Deep.DeepCutAuto
import Derived.Test.YtamlngdjbmndlaaDoorH1
import Derived.Test.YtamlngdjbmndlaaDoorS0
import Derived.Test.YtamlngdjbmndlaaDoorGa
namespace Go.Proofs.YtamlngdjbmndlaaDoor
open Go.RowKit Go.Gr
set_option linter.unusedVariables false
set_option linter.unusedSimpArgs false
attribute [local go_sem] rdOp rdAt rdUpon Cls forall_fr
section
variable {P : Program} {G : Nat → Prop} {w0 w : World} {L : List As} {o : Oper} {a : Act} {Q : Exit → Act → World → Prop} {K : Act → World → Prop}
/-- make([]T, C) of elements of one cell -/
theorem wp_mkN (H : Sep G w0 w L) (l c : Operand) (t : TypeId) (hop : o.op = Op.makeSlice t l c)
    (e : TypeId) (i : TypeInfo) (z : Value) (bytes : Nat) (h1 : P.underlying t = some (.slice e)) (h2 : P.info? e = some i) (h3 : i.zero = some z) (h4 : i.size = 1) (h5 : i.bytes = bytes) (hzc : z.cells = #[z])
    {kl kc : IntKind} {C : Nat} (hl : a.eval l = .int kl C) (hc : a.eval c = .int kc C) (hC2 : C ≤ 1000000000) (hb : bytes ≤ 1000)
    (hK : ∀ w', w'.heap.size = w.heap.size + 1 → Ext w w' → Sep G w0 w' (As.blk w.heap.size e (List.replicate C z) :: L) → K (a.put o.dst (.slice (some ⟨w.heap.size, 0, none⟩) C C)) w') : o.wp P a w K Q := by
  have hbb : (i.bytes : Int) * (C : Int) ≤ 281474976710656 := by
    rw [h5]
    have := Int.mul_le_mul_of_nonneg_right (show (bytes : Int) ≤ 1000 by omega) (show (0 : Int) ≤ C by omega)
    omega
  have hr := run_make (P := P) w t e i z h1 h2 h3 kl kc C C (by omega) (Int.le_refl _) hbb (by omega)
  rw [h4, Nat.mul_one, made_list z hzc, Int.toNat_natCast] at hr
  unfold Oper.wp execOp
  simp only [hop, hl, hc, Sem.run_bind, hr, Result.andThen_ok, Sem.run_pure]
  exact hK _ (by simp) ((Ext.refl w).alloc _) (H.newB ((Ext.refl w).alloc _) (Blk.new w e _) (Nat.le_refl _))
theorem Sep.row (L1 : List As) {L2 : List As} {g : Nat} {e : TypeId} {cs : List Value} (H : Sep G w0 w (L1 ++ As.blk g e cs :: L2)) (cs' : List Value) : Sep G w0 (w.setRow g cs'.toArray) (L1 ++ As.blk g e cs' :: L2) :=
  H.upd (A := As.blk g e cs) (B := As.blk g e cs') (Fr.of_upd ((Upd.refl g w).row _)) (fun _ h => h) ((H.blk (g := g) (e := e) (cs := cs) (by simp)).setRow cs') (fun _ h => .inl h)
/-- copy into a block -/
theorem wpList_cpS {ops : Array Oper} {rest : List Oper} (L1 : List As) {L2 : List As} {g : Nat} {t : TypeId} {cur src : List Value} (H : Sep G w0 w (L1 ++ As.blk g t cur :: L2)) (hgd : o.guard = none) (d s : Operand) (dT sT : TypeId)
    (ho : o.op = .call { callee := .builtin .copy, args := #[d, s], argTypes := #[dT, sT] }) (elem : TypeId) (hu : P.underlying dT = some (.slice elem)) (hsz : (P.info? elem).map (·.size) = some 1)
    {A : Option Addr} {off dLen dCap sLen sCap : Nat} (hd : a.eval d = .slice (some ⟨g, off, none⟩) dLen dCap) (hs : a.eval s = .slice A sLen sCap)
    (hr : Rd w A src) (hl : src.length = sLen) (n : Nat) (hn : n = Nat.min sLen dLen) (hfit : off + n ≤ cur.length) (h1 : ∀ v ∈ src, v.oneCell' = true)
    (h : ∀ w', Sep G w0 w' (L1 ++ As.blk g t (splice cur off (src.take n)) :: L2) → wpList P ops Q rest (a.put o.dst (.int .i64 n)) w') : wpList P ops Q (o :: rest) a w :=
  wpList_copyB hgd d s dT sT ho elem hu hsz hd hs (H.blk (g := g) (e := t) (cs := cur) (by simp)) hr hl n hn hfit h1 (h _ (Sep.row L1 H _))
end
theorem info5 : (Tryd.prog.info? 5).map (fun i => (i.zero, i.size, i.bytes)) = some (some (.int .u8 0), 1, 1) := by kernel_rfl
def maxN (a b : Nat) : Nat := if a < b then b else a
/-- l, with bytes 0 behind it up to n -/
def fillB (l : List Int) (n : Nat) : List Int := l ++ List.replicate (n - l.length) 0
theorem fillB_len {l : List Int} {n : Nat} (h : l.length ≤ n) : (fillB l n).length = n := by simp [fillB]; omega
theorem fill_splice {l : List Int} {n : Nat} (h : l.length ≤ n) : splice (List.replicate n (Value.int .u8 0)) 0 (byt l) = byt (fillB l n) := by
  unfold splice fillB byt
  simp
theorem fillB_isB {l : List Int} {n : Nat} (h : isB l) : isB (fillB l n) := by
  intro x hx
  rcases List.mem_append.1 hx with hx | hx
  · exact h x hx
  · rw [List.eq_of_mem_replicate hx]; decide
theorem take_eq_next {x y : List Int} {k : Nat} (hx : k < x.length) (hy : k < y.length) : x.take (k + 1) = y.take (k + 1) ↔ x.take k = y.take k ∧ x[k] = y[k] := by
  rw [List.take_succ_eq_append_getElem hx, List.take_succ_eq_append_getElem hy]
  constructor
  · intro h
    have := List.append_inj h (by simp; omega)
    exact ⟨this.1, by simpa using this.2⟩
  · rintro ⟨h1, h2⟩; rw [h1, h2]
theorem fill_eq {a b : List Int} {n : Nat} (ha : a.length ≤ n) (hb : b.length ≤ n) : (a.length = b.length ∧ (fillB a n).take n = (fillB b n).take n) ↔ a = b := by
  rw [List.take_of_length_le (by rw [fillB_len ha]; exact Nat.le_refl _), List.take_of_length_le (by rw [fillB_len hb]; exact Nat.le_refl _)]
  constructor
  · rintro ⟨h1, h2⟩
    exact (List.append_inj h2 h1).1
  · rintro rfl; exact ⟨rfl, rfl⟩
set_option maxRecDepth 100000 in
set_option maxHeartbeats 2000000 in
theorem equal_any (a b : List Int) (A B : Option Addr) (ca cb : Nat) (w : World) (ha : Rd w A (byt a)) (hb : Rd w B (byt b)) (hia : isB a) (hib : isB b) (hla : a.length ≤ 100000) (hlb : b.length ≤ 100000) :
    Calls Tryd.prog 33 #[.slice A a.length ca, .slice B b.length cb] w fun e w' => e = .returned (.tuple #[.bool (decide (a = b)), .int .i64 (maxN a.length b.length)]) ∧ Ext w w' := by
  obtain ⟨i0, hi, hz0, hz1, hz2⟩ := info_parts info5
  have HA := hide ha
  have HB := hide hb
  have HIA := hide hia
  have HIB := hide hib
  clear ha hb hia hib
  go_enter Tryd.func33, Tryd.ntmps33
  go_upto_region 1 with fail
  go_cut [5] (fun v wx => v = .int .i64 (maxN a.length b.length : Nat) ∧ w = wx)
  case first =>
    by_cases hab : a.length < b.length
    · have hm := hide (show maxN a.length b.length = b.length by unfold maxN; rw [if_pos hab])
      go_wp2_with fail
      all_goals
        go_meet
        case rel => first | exact ⟨by rw [hm.out], rfl⟩ | omega
    · have hm := hide (show maxN a.length b.length = a.length by unfold maxN; rw [if_neg hab])
      go_wp2_with fail
      all_goals
        go_meet
        case rel => first | exact ⟨by rw [hm.out], rfl⟩ | omega
  case rest =>
    obtain ⟨rfl, rfl⟩ := hcut
    have hna : a.length ≤ maxN a.length b.length := by unfold maxN; split <;> omega
    have hnb : b.length ≤ maxN a.length b.length := by unfold maxN; split <;> omega
    have hnm : maxN a.length b.length ≤ 100000 := by unfold maxN; split <;> omega
    obtain ⟨n, HN⟩ : ∃ n, Hid (maxN a.length b.length = n) := ⟨_, hide rfl⟩
    rw [HN.out] at hna hnb hnm ⊢
    go_wp2_with fail
    go_cut [6, 7] (fun v6 v7 wx => ∃ gx gy : Nat, v6 = .slice (some ⟨gx, 0, none⟩) n n ∧ v7 = .slice (some ⟨gy, 0, none⟩) n n ∧ Sep No w wx [As.blk gx 5 (List.replicate n (.int .u8 0)), As.blk gy 5 (List.replicate n (.int .u8 0))])
    case first =>
      refine wp_region_wf (RT.up w.drew.heap.size) 3 [0, 2, 1, 4, 3, 5] (by kernel_rfl) (by kernel_rfl) (by kernel_rfl) (by kernel_rfl) (by kernel_rfl) ?_
      have H0 := (Sep.refl No w).drew
      generalize w.drew = wd at *
      iterate 2 (refine wf_rd rfl rfl rfl (fun K hK => ?_); go_simp; refine hK _ ?_; clear hK K)
      refine wf_ext rfl rfl rfl (fun K hK => ?_) ?_
      · rw [if_pos (show Region.wanted _ _ = true from rfl)]
        refine wp_mkN H0 (.tmp 15) (.tmp 15) 26 rfl 5 i0 (.int .u8 0) 1 Tryd.underlying26 hi hz0 hz1 hz2 rfl rfl rfl (by omega) (by omega) (fun w1 hs1 hx1 H1 => ?_)
        refine hK _ _ (hx1.up _) ?_
        clear hK K
        iterate 1 (refine wf_rd rfl rfl rfl (fun K hK => ?_); go_simp; refine hK _ ?_; clear hK K)
        refine wf_at rfl ?_
        refine wmr_ext rfl rfl (fun K hK => ?_)
        rw [if_pos (show Region.wanted _ _ = true from rfl)]
        refine wp_mkN H1 (.tmp 17) (.tmp 17) 26 rfl 5 i0 (.int .u8 0) 1 Tryd.underlying26 hi hz0 hz1 hz2 rfl rfl rfl (by omega) (by omega) (fun w2 hs2 hx2 H2 => ?_)
        refine hK _ _ (hx2.up _) ?_
        clear hK K
        iterate 1 (refine wmr_rd rfl rfl (fun K hK => ?_); go_simp; refine hK _ ?_; clear hK K)
        refine wmr_nil ?_
        rw [hs1] at H2
        go_wp2_with fail
        go_meet
        case rel => exact ⟨_, _, rfl, rfl, H2.swap⟩
      · refine wmr_ext rfl rfl (fun K hK => ?_)
        rw [if_pos (show Region.wanted _ _ = true from rfl)]
        refine wp_mkN H0 (.tmp 17) (.tmp 17) 26 rfl 5 i0 (.int .u8 0) 1 Tryd.underlying26 hi hz0 hz1 hz2 rfl rfl rfl (by omega) (by omega) (fun w1 hs1 hx1 H1 => ?_)
        refine hK _ _ (hx1.up _) ?_
        clear hK K
        refine wmr_ext rfl rfl (fun K hK => ?_)
        rw [if_pos (show Region.wanted _ _ = true from rfl)]
        refine wp_mkN H1 (.tmp 15) (.tmp 15) 26 rfl 5 i0 (.int .u8 0) 1 Tryd.underlying26 hi hz0 hz1 hz2 rfl rfl rfl (by omega) (by omega) (fun w2 hs2 hx2 H2 => ?_)
        refine hK _ _ (hx2.up _) ?_
        clear hK K
        show WMR _ _ _ _ [4, 5] _ _
        iterate 2 (refine wmr_rd rfl rfl (fun K hK => ?_); go_simp; refine hK _ ?_; clear hK K)
        refine wmr_nil ?_
        rw [hs1] at H2
        go_wp2_with fail
        go_meet
        case rel => exact ⟨_, _, rfl, rfl, H2⟩
    case rest =>
      obtain ⟨gx, gy, rfl, rfl, H⟩ := hcut
      have tok : True := trivial
      have tok2 : True := trivial
      go_wp2_with (first
        | (refine wpList_cpS [] H rfl (.tmp 19) (.tmp 20) 26 26 rfl 5 Tryd.underlying26 (by kernel_rfl) rfl rfl (HA.out.ext H.toExt) (by rw [byt_length]) a.length (Nat.min_eq_left hna).symm (by simp; omega) (byt_one _) ?_; intro w1 H1; rw [List.take_of_length_le (by simp), fill_splice hna] at H1; dsimp only [List.nil_append] at H1; clear H)
        | (refine wpList_cpS [_] H1 rfl (.tmp 22) (.tmp 23) 26 26 rfl 5 Tryd.underlying26 (by kernel_rfl) rfl rfl (HB.out.ext H1.toExt) (by rw [byt_length]) b.length (Nat.min_eq_left hnb).symm (by simp; omega) (byt_one _) ?_; intro w2 H2; rw [List.take_of_length_le (by simp), fill_splice hnb] at H2; dsimp only [List.nil_append, List.cons_append] at H2; clear H1))
      (with_reducible refine (differ64 (a.length : Int) (b.length : Int) 0 _ (by omega) (by omega) (by decide)).mono ?_)
      rintro e w3 ⟨r0, rfl, hr0, hr1, hrz, rfl⟩
      have HRZ := hide hrz
      clear hrz
      have K2 := hide H2
      clear H2
      go_wp2_with fail
      go_loopw [8, 33] (fun m i wr => ∃ (k : Nat) (r : Int), i = .int .i64 k ∧ k ≤ n ∧ m = .int .u8 r ∧ 0 ≤ r ∧ r < 256 ∧ Hid (r = 0 ↔ a.length = b.length ∧ (fillB a n).take k = (fillB b n).take k) ∧ Sep No w wr [As.blk gx 5 (byt (fillB a n)), As.blk gy 5 (byt (fillB b n))]) (fun _ i _ => n - (intOf i).toNat)
      case atStart => exact ⟨0, r0, rfl, by omega, rfl, hr0, hr1, hide (HRZ.out.trans (by simp; omega)), K2.out⟩
      case round =>
        obtain ⟨k, r, rfl, hk, rfl, hr0', hr1', HR, H⟩ := hrel
        clear K2
        by_cases hlt : k < n
        · have hlx : k < (fillB a n).length := by rw [fillB_len hna]; exact hlt
          have hly : k < (fillB b n).length := by rw [fillB_len hnb]; exact hlt
          have hia : 0 ≤ (fillB a n)[k] ∧ (fillB a n)[k] < 256 := fillB_isB HIA.out _ (List.getElem_mem _)
          have hib : 0 ≤ (fillB b n)[k] ∧ (fillB b n)[k] < 256 := fillB_isB HIB.out _ (List.getElem_mem _)
          have HXY : Hid ((fillB a n).take (k + 1) = (fillB b n).take (k + 1) ↔ (fillB a n).take k = (fillB b n).take k ∧ (fillB a n)[k] = (fillB b n)[k]) := hide (take_eq_next hlx hly)
          obtain ⟨x, HXE⟩ : ∃ x, Hid ((fillB a n)[k] = x) := ⟨_, hide rfl⟩
          obtain ⟨y, HYE⟩ : ∃ y, Hid ((fillB b n)[k] = y) := ⟨_, hide rfl⟩
          rw [HXE.out] at hia HXY
          rw [HYE.out] at hib HXY
          have hki : (k : Int) < (n : Int) := by omega
          go_wp2_with fail
          refine wp_region_wm [0, 1, 2, 3, 4, 5, 6, 7, 8, 9, 10] (by kernel_rfl) (by kernel_rfl) (by kernel_rfl) (by kernel_rfl) ?_
          have H2 := H.drew
          clear H
          generalize World.drew _ = wd at *
          have c1 : wd.cell? ⟨gx, k, none⟩ = some (.int .u8 x) := by rw [(H2.blk (g := gx) (List.Mem.head _)).cell k, byt, List.getElem?_map, List.getElem?_eq_getElem hlx, HXE.out]; rfl
          have c2 : wd.cell? ⟨gy, k, none⟩ = some (.int .u8 y) := by rw [(H2.blk (g := gy) (List.Mem.tail _ (List.Mem.head _))).cell k, byt, List.getElem?_map, List.getElem?_eq_getElem hly, HYE.out]; rfl
          have C1 := hide c1
          have C2 := hide c2
          clear c1 c2
          iterate 3 (refine wm_rd rfl rfl (fun K hK => ?_); go_simp; refine hK _ ?_; clear hK K)
          refine wm_ld1 rfl rfl 5 (.tmp 38) rfl rfl C1.out _ Tryd.underlying5 rfl ?_
          iterate 3 (refine wm_rd rfl rfl (fun K hK => ?_); go_simp; refine hK _ ?_; clear hK K)
          refine wm_ld1 rfl rfl 5 (.tmp 42) rfl rfl C2.out _ Tryd.underlying5 rfl ?_
          refine wm_rd rfl rfl (fun K hK => ?_); go_simp; refine hK _ ?_; clear hK K
          refine wm_ext rfl rfl (fun K hK => ?_)
          go_simp
          go_at_call 47
          (with_reducible refine (differ8 x y r _ hia hib ⟨hr0', hr1'⟩).mono ?_)
          rintro e w8 ⟨r', rfl, hs0, hs1, hsz, rfl⟩
          refine hK _ _ (Ext.refl _) ?_
          clear hK K C1 C2
          have HSZ := hide hsz
          clear hsz
          refine wm_rd rfl rfl (fun K hK => ?_); go_simp; refine hK _ ?_; clear hK K
          refine wm_nil ?_
          have K2 := hide H2
          clear H2
          go_wp2_with fail
          go_roundw
          case rel => exact ⟨k + 1, r', by go_num, by omega, rfl, hs0, hs1, hide (HSZ.out.trans (by rw [HR.out, HXY.out, and_assoc])), K2.out⟩
          case measure => simp [intOf]; omega
        · obtain rfl : k = n := by omega
          have HE : Hid (r = 0 ↔ a = b) := hide (HR.out.trans (fill_eq hna hnb))
          have HX := hide H.toExt
          clear H
          by_cases hz : r = 0
          · have hab : decide (a = b) = true := by simpa using HE.out.1 hz
            have HAB := hide hab
            clear hab
            subst hz
            go_wp2_with fail
            go_ret2
            rw [HAB.out, HN.out]
            exact ⟨rfl, HX.out⟩
          · have hab : decide (a = b) = false := by simpa using fun h => hz (HE.out.2 h)
            have hzb : (r == 0) = false := by simpa using hz
            have HAB := hide hab
            clear hz hab
            go_wp2_with fail
            go_ret2
            rw [HAB.out, HN.out]
            exact ⟨rfl, HX.out⟩
end Go.Proofs.YtamlngdjbmndlaaDoor
